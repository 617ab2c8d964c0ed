/- The parser's reader: isWord, isName, name, word, number. Printed by mkpb.py. -/
import Derived.Test.YtekkapgknohadaaGreatDoorM7
import Derived.Test.YtekkapgknohadaaGreatDoorM2
import Derived.Test.YtekkapgknohadaaGreatDoorM1
import Derived.BigQuiet
import Derived.Deep.RegionHeld3
import Derived.Lib.AtoiErrMem
set_option linter.unusedVariables false
set_option maxRecDepth 20000
set_option maxHeartbeats 4000000
namespace Go.Proofs.YtekkapgknohadaaGreatDoor
open Go.RowKit Go.Shelf
open Lib (hid)
attribute [local go_sem] tf0 tf1 tf2
theorem prefix39 (t : Pa.Tx) : Lib.hasPrefix t [39] = (t.head? == some 39) := by
 cases t with
 | nil => rfl
 | cons c m =>
  show (39 == c && true) = (some c == some 39)
  rw [Bool.and_true]
  show (39 == c) = (c == 39)
  exact Bool.eq_iff_iff.2 (by rw [beq_iff_eq, beq_iff_eq]; exact eq_comm)
theorem trim_any (t : Lx.Tok) (q : List Lx.Tok) (hi : Pa.isW (t :: q) = true) (hf : Pa.Fine t) (w : World) : Calls Tryz.prog 146 #[.string (bs t.text), .string ⟨#[39]⟩] w fun e w' => e = .returned (Sv t.text.tail.dropLast) ∧ ∃ m, w' = w.drewN m := by
 simp only [Pa.isW, Bool.and_eq_true, beq_iff_eq] at hi
 have hl : t.text.length ≤ 100 ∧ Lib.trimB t.text 39 = t.text.tail.dropLast := by
  cases hf with
  | word w hk h =>
   refine ⟨?_, by rw [Pa.word_trim h, Pa.word_mid h]⟩
   have := h.le
   rw [h.eq]
   simp only [List.length_cons, List.length_append, List.length_nil]
   omega
  | name hk h =>
   obtain ⟨c, m, h1, h2⟩ := h.fst
   rw [h1] at hi
   have : c = 39 := by simpa using hi.2
   exact absurd this (Pa.isLet_ne h2)
  | num neg d hk h => omega
  | sign hk h0 => omega
  | end_ hk h => omega
 refine (Tryz.strings_Trim_one (bs t.text) 39 (by decide) w (by rw [zbc]; omega)).mono ?_
 rintro e w' ⟨rfl, hw⟩
 have e1 : (bs t.text).data.toList = t.text := tl_bs t.text
 refine ⟨by rw [e1, hl.2]; rfl, ?_⟩
 rcases hw with rfl | rfl
 ·exact ⟨0, rfl⟩
 ·exact ⟨1, rfl⟩
theorem isM_num {t : Lx.Tok} {q : List Lx.Tok} (hi : Pa.isM (t :: q) = true) (hf : Pa.Fine t) : ∃ neg d, Pa.NumT t.text neg d := by
 simp only [Pa.isM, beq_iff_eq] at hi
 cases hf with
 | word w hk h => omega
 | name hk h => omega
 | num neg d hk h => exact ⟨neg, d, h⟩
 | sign hk h0 => omega
 | end_ hk h => omega
theorem isWord_any (R : PR) (ts : List Lx.Tok) (W : World) (h : PRok R ts W) : Calls Tryz.prog 145 #[ptr R.gp] W fun e w' => e = .returned (.bool (Pa.isW ts)) ∧ Below W.heap.size W w' := by
 obtain ⟨t, q, rfl⟩ := h.cons
 have H := hid (za1 R t q _ h)
 cases hk : (t.kind == 0) with
 | false =>
  have hd : ((t.kind : Int) == 0) = false := (kindI (n := 0)).trans hk
  have HR : Hid (Pa.isW (t :: q) = false) := hid (by rw [Pa.isW, hk]; rfl)
  clear hk
  go_enter Tryz.func145, Tryz.ntmps145
  go_wp2_with fail
  refine H.out.mono ?_
  rintro e w1 ⟨rfl, hb⟩
  unfold tokV
  go_wp2_with fail
  go_ret
  rw [HR.out]
  exact ⟨rfl, hb⟩
 | true =>
  have hd : ((t.kind : Int) == 0) = true := (kindI (n := 0)).trans hk
  have HR : Hid (Pa.isW (t :: q) = Lib.hasPrefix t.text [39]) := hid (by rw [Pa.isW, hk, prefix39]; rfl)
  have HN := hid (fun w' hb => za1 R t q w' (h.next hb))
  have HP := hid (fun w => Tryz.strings_HasPrefix (bs t.text) ⟨#[39]⟩ w)
  clear hk
  go_enter Tryz.func145, Tryz.ntmps145
  go_wp2_with fail
  refine H.out.mono ?_
  rintro e w1 ⟨rfl, hb⟩
  unfold tokV
  go_wp2_with fail
  refine (HN.out w1 hb).mono ?_
  rintro e w2 ⟨rfl, hb2⟩
  unfold tokV
  go_wp2_with fail
  refine (HP.out _).mono ?_
  rintro e w3 ⟨rfl, hw⟩
  subst hw
  have e1 : (bs t.text).data.toList = t.text := tl_bs t.text
  have hb3 := hb.trans (hb2.mono hb.size)
  rw [e1]
  go_wp2_with fail
  go_ret
  rw [HR.out]
  exact ⟨rfl, hb3⟩
theorem isName_any (R : PR) (ts : List Lx.Tok) (W : World) (h : PRok R ts W) : Calls Tryz.prog 140 #[ptr R.gp] W fun e w' => e = .returned (.bool (Pa.isN ts)) ∧ Below W.heap.size W w' := by
 obtain ⟨t, q, rfl⟩ := h.cons
 have H := hid (za1 R t q _ h)
 have HW := hid (fun w' hb => isWord_any R _ w' (h.next hb))
 cases hk : (t.kind == 0) with
 | false =>
  have hd : ((t.kind : Int) == 0) = false := (kindI (n := 0)).trans hk
  have HR : Hid (Pa.isN (t :: q) = false) := hid (by rw [Pa.isN, hk]; rfl)
  clear hk
  go_enter Tryz.func140, Tryz.ntmps140
  go_wp2_with fail
  refine H.out.mono ?_
  rintro e w1 ⟨rfl, hb⟩
  unfold tokV
  go_wp2_with fail
  go_ret
  rw [HR.out]
  exact ⟨rfl, hb⟩
 | true =>
  have hd : ((t.kind : Int) == 0) = true := (kindI (n := 0)).trans hk
  have HR : Hid (Pa.isN (t :: q) = !Pa.isW (t :: q)) := hid (by rw [Pa.isN, hk]; rfl)
  clear hk
  generalize Pa.isW (t :: q) = bw at *
  go_enter Tryz.func140, Tryz.ntmps140
  go_wp2_with fail
  refine H.out.mono ?_
  rintro e w1 ⟨rfl, hb⟩
  unfold tokV
  go_wp2_with fail
  refine (HW.out w1 hb).mono ?_
  rintro e w2 ⟨rfl, hb2⟩
  go_wp2_with fail
  go_ret
  rw [HR.out]
  exact ⟨rfl, hb.trans (hb2.mono hb.size)⟩
theorem zb1 (R : PR) (ts : List Lx.Tok) (W : World) (h : PRok R ts W) : Calls Tryz.prog 72 #[ptr R.gp] W fun e w' => e = outN (Pa.nameR ts) (fun t => Sv t) ∧ Hp [R.gp, R.gt] W [ipr R (Pa.nameR ts).2] w' := by
 obtain ⟨t, q, rfl⟩ := h.cons
 have HI := hid (isName_any R _ W h)
 have hS := h.self
 cases hi : Pa.isN (t :: q) with
 | false =>
  rw [hi] at HI
  have HR : Hid (Pa.nameR (t :: q) = (none, t :: q)) := hid (by rw [Pa.nameR, hi]; rfl)
  clear hi
  go_enter Tryz.func72, Tryz.ntmps72
  go_wp2_with fail
  refine HI.out.mono ?_
  rintro e w1 ⟨rfl, hb⟩
  have hH := hS.next hb
  go_wp2_with fail
  refine (zc6 R t q _ hH.pr).mono ?_
  rintro e w2 ⟨rfl, hH2⟩
  unfold panP
  go_wp2_with fail
  refine ⟨rfl, ?_⟩
  rw [HR.out]
  exact ⟨rfl, Hp.rd1 (r := []) hH hH2⟩
 | true =>
  rw [hi] at HI
  have hk : t.kind ≠ 3 := by simp [Pa.isN] at hi; omega
  have hf := h.good.fine t (List.mem_cons_self ..)
  have HR : Hid (Pa.nameR (t :: q) = (some t.text, q)) := hid (by rw [Pa.nameR, hi]; rfl)
  clear hi hf
  obtain ⟨k, -, hk1, hk2, hk3⟩ := h.at
  go_enter Tryz.func72, Tryz.ntmps72
  go_wp2_with fail
  refine HI.out.mono ?_
  rintro e w1 ⟨rfl, hb⟩
  have h1 := h.next hb
  obtain ⟨c0, c1, f1, k0, k1, t0, t1, t2⟩ := h1.atk hk1
  have hH := (hS.next hb).step hk hk2 (n := (k : Int) + 1) rfl
  have h2 := h1.at2 hk1 hk2 hH.pr
  clear hk hk1 hk2 t0 t1 t2 hS h h1 hb
  go_upto_region 4 with fail
  clear c0 c1 f1 HI
  generalize w1.setCell ⟨R.gp, 1, none⟩ (.int .i64 ((k : Int) + 1)) = w2 at *
  obtain ⟨c0, c1, t1⟩ := h2
  go_quiet (fail)
  go_wp2_with fail
  go_ret
  rw [HR.out]
  refine ⟨?_, hH.drewN nq⟩
  rfl
theorem word_any (R : PR) (ts : List Lx.Tok) (W : World) (h : PRok R ts W) : Calls Tryz.prog 77 #[ptr R.gp] W fun e w' => e = outN (Pa.wordR ts) (fun t => Sv t) ∧ Hp [R.gp, R.gt] W [ipr R (Pa.wordR ts).2] w' := by
 obtain ⟨t, q, rfl⟩ := h.cons
 have HI := hid (isWord_any R _ W h)
 have hS := h.self
 cases hi : Pa.isW (t :: q) with
 | false =>
  rw [hi] at HI
  have HR : Hid (Pa.wordR (t :: q) = (none, t :: q)) := hid (by rw [Pa.wordR, hi]; rfl)
  clear hi
  go_enter Tryz.func77, Tryz.ntmps77
  go_wp2_with fail
  refine HI.out.mono ?_
  rintro e w1 ⟨rfl, hb⟩
  have hH := hS.next hb
  go_wp2_with fail
  refine (zc6 R t q _ hH.pr).mono ?_
  rintro e w2 ⟨rfl, hH2⟩
  unfold panP
  go_wp2_with fail
  refine ⟨rfl, ?_⟩
  rw [HR.out]
  exact ⟨rfl, Hp.rd1 (r := []) hH hH2⟩
 | true =>
  rw [hi] at HI
  have hk : t.kind ≠ 3 := by simp [Pa.isW] at hi; omega
  have hf := h.good.fine t (List.mem_cons_self ..)
  have HR : Hid (Pa.wordR (t :: q) = (some t.text.tail.dropLast, q)) := hid (by rw [Pa.wordR, hi]; rfl)
  have HT := hid (fun w => trim_any t q hi hf w)
  clear hi hf
  obtain ⟨k, -, hk1, hk2, hk3⟩ := h.at
  go_enter Tryz.func77, Tryz.ntmps77
  go_wp2_with fail
  refine HI.out.mono ?_
  rintro e w1 ⟨rfl, hb⟩
  have h1 := h.next hb
  obtain ⟨c0, c1, f1, k0, k1, t0, t1, t2⟩ := h1.atk hk1
  have hH := (hS.next hb).step hk hk2 (n := (k : Int) + 1) rfl
  have h2 := h1.at2 hk1 hk2 hH.pr
  clear hk hk1 hk2 t0 t1 t2 hS h h1 hb
  go_upto_region 4 with fail
  clear c0 c1 f1 HI
  generalize w1.setCell ⟨R.gp, 1, none⟩ (.int .i64 ((k : Int) + 1)) = w2 at *
  obtain ⟨c0, c1, t1⟩ := h2
  go_quiet ((exact Calls.quiet_of (HT.out _)))
  go_wp2_with fail
  go_ret
  rw [HR.out]
  refine ⟨?_, hH.drewN nq⟩
  rfl
theorem atoiP_any (t : Lx.Tok) (q : List Lx.Tok) (hi : Pa.isM (t :: q) = true) (hf : Pa.Fine t) (hl : t.text.length ≤ 100000) (w : World) : Calls Tryz.prog 147 #[.string (bs t.text)] w fun e w' => e = .returned (.tuple #[.int .i64 (Pa.numV t.text), .nilIface]) ∧ Below w.heap.size w w' := by
 obtain ⟨neg, d, hn⟩ := isM_num hi hf
 have e1 : (bs t.text).data.toList = t.text := tl_bs t.text
 refine (Tryz.strconv_Atoi_ok (bs t.text) (by rw [zbc]; omega) _ (by rw [e1]; exact (Pa.num_atoi hn).1) w).mono ?_
 rintro e w' ⟨rfl, hw⟩
 refine ⟨rfl, ?_⟩
 rcases hw with rfl | ⟨u, rfl⟩
 ·exact Below.refl _ _
 ·exact Lib.bytesWorld_below _ _ _
theorem zbq (R : PR) (ts : List Lx.Tok) (W : World) (h : PRok R ts W) (hl : ∀ t ∈ ts, t.text.length ≤ 100000) : Calls Tryz.prog 78 #[ptr R.gp] W fun e w' => e = outN (Pa.numR ts) (fun n => .int .i64 n) ∧ Hp [R.gp, R.gt] W [ipr R (Pa.numR ts).2] w' := by
 obtain ⟨t, q, rfl⟩ := h.cons
 have HI := hid (za1 R t q W h)
 have hS := h.self
 cases hi : Pa.isM (t :: q) with
 | false =>
  have hd : ((t.kind : Int) == 1) = false := (kindI (n := 1)).trans (by rw [Pa.isM] at hi; exact hi)
  have hd2 : ((t.kind : Int) != 1) = true := by rw [bne, hd]; rfl
  have HR : Hid (Pa.numR (t :: q) = (none, t :: q)) := hid (by rw [Pa.numR, hi]; rfl)
  clear hi hl
  go_enter Tryz.func78, Tryz.ntmps78
  go_wp2_with fail
  refine HI.out.mono ?_
  rintro e w1 ⟨rfl, hb⟩
  have hH := hS.next hb
  unfold tokV
  go_wp2_with fail
  refine (zc6 R t q _ hH.pr).mono ?_
  rintro e w2 ⟨rfl, hH2⟩
  unfold panP
  go_wp2_with fail
  refine ⟨rfl, ?_⟩
  rw [HR.out]
  exact ⟨rfl, Hp.rd1 (r := []) hH hH2⟩
 | true =>
  have hd : ((t.kind : Int) == 1) = true := (kindI (n := 1)).trans (by rw [Pa.isM] at hi; exact hi)
  have hd2 : ((t.kind : Int) != 1) = false := by rw [bne, hd]; rfl
  have hk : t.kind ≠ 3 := by simp [Pa.isM] at hi; omega
  have HA := hid (atoiP_any t q hi (h.good.fine t (List.mem_cons_self ..)) (hl t (List.mem_cons_self ..)))
  have HR : Hid (Pa.numR (t :: q) = (some (Pa.numV t.text), q)) := hid (by rw [Pa.numR, hi]; rfl)
  clear hi hl
  obtain ⟨k, -, hk1, hk2, hk3⟩ := h.at
  go_enter Tryz.func78, Tryz.ntmps78
  go_wp2_with fail
  refine HI.out.mono ?_
  rintro e w1 ⟨rfl, hb⟩
  have h1 := h.next hb
  obtain ⟨c0, c1, f1, k0, k1, t0, t1, t2⟩ := h1.atk hk1
  have hH := (hS.next hb).step hk hk2 (n := (k : Int) + 1) rfl
  have h2 := h1.at2 hk1 hk2 hH.pr
  have HK0 := hid (fun W' h' => h1.at2 hk1 hk2 (W' := W') h')
  clear hk hk1 hk2 t0 t1 t2 hS h h1 hb
  unfold tokV
  go_upto_region 4 with fail
  clear c0 c1 f1 HI
  generalize w1.setCell ⟨R.gp, 1, none⟩ (.int .i64 ((k : Int) + 1)) = w2 at *
  obtain ⟨c0, c1, t1⟩ := h2
  generalize Pa.numV t.text = nv at *
  have hw : IntKind.i64.wrap ((k : Int) + 1 - 1) = (k : Int) := by rw [Int.add_sub_cancel]; exact IntWalk.i64_in _ (by omega)
  obtain ⟨m, hm⟩ : ∃ m : Int, (k : Int) + 1 = m := ⟨_, rfl⟩
  rw [hm] at hw c1
  have HK : Hid (∀ W', Hp [R.gp, R.gt] W [ipr R q] W' → W'.cell? ⟨R.gp, 0, none⟩ = some (.slice (some ⟨R.gt, 0, none⟩) R.all.length R.cap) ∧ W'.cell? ⟨R.gp, 1, none⟩ = some (.int .i64 m) ∧ W'.cell? ⟨R.gt, k * 3 + 1, none⟩ = some (.string (bs t.text))) := hid fun W' h' => by
   have := HK0.out W' h'.pr
   exact ⟨this.c0, hm ▸ this.c1, this.t1⟩
  clear hm c0 c1 t1 HK0
  have hHd := hH.drew
  go_region_held3 (fun w' => w'.cell? ⟨R.gp, 0, none⟩ = some (.slice (some ⟨R.gt, 0, none⟩) R.all.length R.cap) ∧ w'.cell? ⟨R.gp, 1, none⟩ = some (.int .i64 m) ∧ w'.cell? ⟨R.gt, k * 3 + 1, none⟩ = some (.string (bs t.text))) (exact HK.out _ (by assumption))
   (first | (go_at_call 147; refine (HA.out _).mono ?_; rintro e w5 ⟨rfl, hb5⟩; have hS5 := Hp.next (o := [R.gp, R.gt]) (w := W) (by assumption) hb5; clear hb5))
  go_wp2_with fail
  go_ret
  rw [HR.out]
  exact ⟨rfl, by assumption⟩
end Go.Proofs.YtekkapgknohadaaGreatDoor
