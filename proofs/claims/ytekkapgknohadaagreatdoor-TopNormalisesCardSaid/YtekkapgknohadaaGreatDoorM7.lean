/- Tokens in memory; what Scan returns. -/
import Derived.Test.YtekkapgknohadaaGreatDoorM6
import Derived.Test.YtekkapgknohadaaGreatDoorM2
import Derived.Test.YtekkapgknohadaaGreatDoorM1
import Derived.Deep.DeepCutAuto
import Derived.Deep.CutBlock
import Derived.Laws.Pointers
import Derived.StillTailTactics
set_option linter.unusedVariables false
set_option maxRecDepth 20000
set_option maxHeartbeats 4000000
namespace Go.Proofs.YtekkapgknohadaaGreatDoor
open Go.RowKit
def TokIn (W : World) (g : Nat) (ts : List Lx.Tok) : Prop := g < W.heap.size ∧ ∀ j u, (tokL ts)[j]? = some u → W.cell? ⟨g, j, none⟩ = some u
theorem tokL_at (ts : List Lx.Tok) (k : Nat) (h : k < ts.length) : (tokL ts)[k * 3]? = some (.int .i64 (ts[k].kind : Int)) ∧ (tokL ts)[k * 3 + 1]? = some (.string (bs ts[k].text)) ∧ (tokL ts)[k * 3 + 2]? = some (.int .i64 (ts[k].at_ : Int)) := by
 induction ts generalizing k with
 | nil => simp at h
 | cons t ts ih =>
   cases k with
   | zero => exact ⟨rfl, rfl, rfl⟩
   | succ k =>
     have h1 := ih k (by simpa using h)
     have e : tokL (t :: ts) = .int .i64 (t.kind : Int) :: .string (bs t.text) :: .int .i64 (t.at_ : Int) :: tokL ts := rfl
     rw [e, show (k + 1) * 3 = k * 3 + 1 + 1 + 1 by omega]
     simpa using h1
theorem TokIn.at {W : World} {g : Nat} {ts : List Lx.Tok} (h : TokIn W g ts) (k : Nat) (hk : k < ts.length) : W.cell? ⟨g, k * 3, none⟩ = some (.int .i64 (ts[k].kind : Int)) ∧ W.cell? ⟨g, k * 3 + 1, none⟩ = some (.string (bs ts[k].text)) ∧ W.cell? ⟨g, k * 3 + 2, none⟩ = some (.int .i64 (ts[k].at_ : Int)) :=
 ⟨h.2 _ _ (tokL_at ts k hk).1, h.2 _ _ (tokL_at ts k hk).2.1, h.2 _ _ (tokL_at ts k hk).2.2⟩
theorem own_tok {W : World} {base : Nat} {v : Value} {ts : List Lx.Tok} (h : W.ownsRow base 154 3 v ts.length (tokL ts)) (hn : 0 < ts.length) : ∃ g cap, v = .slice (some ⟨g, 0, none⟩) ts.length cap ∧ base ≤ g ∧ TokIn W g ts ∧ ts.length ≤ cap ∧ cap ≤ maxLen := by
 rcases h.2 with ⟨_, h0⟩ | ⟨g, cap, cur, hv, hb, hg, hc, hm, hsz, htk⟩
 ·omega
 ·refine ⟨g, cap, hv, hb, ⟨?_, ?_⟩, hc, hm⟩
  ·rcases Nat.lt_or_ge g W.heap.size with h' | h'
   ·exact h'
   ·rw [Array.getElem?_eq_none h'] at hg; cases hg
  ·intro j u hu
   have hj : j < (tokL ts).length := (List.getElem?_eq_some_iff.1 hu).1
   rw [tokL_len] at hj
   rw [← htk, List.getElem?_take_of_lt hj] at hu
   simp only [World.cell?, hg]
   simpa using hu
theorem scan_err (s : ByteArray) (a n : Nat) (w : World) (hs : s.size ≤ 65536) (h : Lx.sc (tl s) = .err a n) :
 Calls Tryz.prog 23 #[.string s] w fun e w' => e = .returned (.tuple #[.slice none 0 0, .int .i64 (a : Int), .int .i64 (n : Int)]) ∧ Below w.heap.size w w' :=
 (scan_any s w hs).mono fun e w' hp => by
  unfold ScanPost at hp
  rw [h] at hp
  exact hp
open Go.RowKit
open Go.RowKit Go.Shelf
open Lib (hid)
abbrev ptr (g : Nat) : Value := .pointer (some ⟨g, 0, none⟩)
structure PR where
 gp : Nat
 gt : Nat
 cap : Nat
 all : List Lx.Tok
structure PRok (R : PR) (ts : List Lx.Tok) (W : World) : Prop where
 blk : Blk W R.gp 78 [.slice (some ⟨R.gt, 0, none⟩) R.all.length R.cap, .int .i64 ((R.all.length - ts.length : Nat) : Int)]
 tok : TokIn W R.gt R.all
 suf : ts <:+ R.all
 good : Pa.Good ts
 len : R.all.length ≤ 65537
 le : R.all.length ≤ R.cap
 ne : R.gp ≠ R.gt
theorem tokin_same {W W' : World} {g : Nat} {ts : List Lx.Tok} (h : TokIn W g ts) (e : W'.heap[g]? = W.heap[g]?) : TokIn W' g ts := by
 refine ⟨?_, fun j u hu => ?_⟩
 ·have h1 := h.1
  rcases Nat.lt_or_ge g W'.heap.size with h2 | h2
  ·exact h2
  ·rw [Array.getElem?_eq_none h2, Array.getElem?_eq_getElem h1] at e; cases e
 ·have h1 := h.2 j u hu
  simp only [World.cell?] at h1 ⊢
  rw [e]; exact h1
def ipr (R : PR) (ts : List Lx.Tok) : It := ⟨[R.gp, R.gt], PRok R ts, fun W W' h hp => ⟨(h R.gp (by simp)).trans hp.blk, tokin_same hp.tok (h R.gt (by simp)), hp.suf, hp.good, hp.len, hp.le, hp.ne⟩,
 fun W hp b hb => by
  rcases List.mem_cons.1 hb with rfl | hb
  ·exact hp.blk.lt
  ·rw [List.mem_singleton.1 hb]; exact hp.tok.1⟩
theorem PRok.self {R : PR} {ts : List Lx.Tok} {W : World} (h : PRok R ts W) : Hp [R.gp, R.gt] W [ipr R ts] W := by
 have := Hp.self (it := [ipr R ts]) ⟨fun x hx => by rw [List.mem_singleton.1 hx]; exact h, by simp [ipr, h.ne]⟩
 exact this
section
variable {o : List Nat} {w W W' : World} {R : PR} {ts ts' : List Lx.Tok} {r it : List It}
theorem Hp.pr (h : Hp o w (ipr R ts :: r) W) : PRok R ts W := h.sep.ok _ (List.mem_cons_self ..)
theorem Hp.rd (h : Hp o w (ipr R ts :: r) W) (h' : Hp [R.gp, R.gt] W (ipr R ts' :: it) W') : Hp o w (ipr R ts' :: (it ++ r)) W' := Hp.call (a := [ipr R ts]) h h'
theorem Hp.rd1 (h : Hp o w (ipr R ts :: r) W) (h' : Hp [R.gp, R.gt] W [ipr R ts'] W') : Hp o w (ipr R ts' :: r) W' := Hp.call (a := [ipr R ts]) h h'
theorem Hp.adv (h : Hp o w (ipr R ts :: r) W) (hs : ts' <:+ ts) (hg : Pa.Good ts') {n : Int} (hn : n = ((R.all.length - ts'.length : Nat) : Int)) : Hp o w (ipr R ts' :: r) (W.setCell ⟨R.gp, 1, none⟩ (.int .i64 n)) := by
 subst hn
 have hp := h.pr
 refine h.upd 0 rfl (x := ipr R ts) (x' := ipr R ts') ?_ ⟨(Below.refl _ _).setCell (Nat.zero_le _) _, fun k hk ho => Below.heap_setCell _ _ _ _ (by simp [ipr] at ho; exact ho.1), fun b hb => .inl hb⟩ (by simp [ipr, hp.ne])
 exact ⟨hp.blk.set_ 1 _, tokin_same hp.tok (Below.heap_setCell _ _ _ _ (fun e => hp.ne e.symm)), hs.trans hp.suf, hg, hp.len, hp.le, hp.ne⟩
structure At (R : PR) (t : Lx.Tok) (k : Nat) (W : World) : Prop where
 c0 : W.cell? ⟨R.gp, 0, none⟩ = some (.slice (some ⟨R.gt, 0, none⟩) R.all.length R.cap)
 c1 : W.cell? ⟨R.gp, 1, none⟩ = some (.int .i64 (k : Int))
 f1 : W.frozen? ⟨R.gp, 1, none⟩ = false
 k0 : (0 : Int) ≤ (k : Int)
 k1 : (k : Int) < (R.all.length : Int)
 t0 : W.cell? ⟨R.gt, k * 3, none⟩ = some (.int .i64 (t.kind : Int))
 t1 : W.cell? ⟨R.gt, k * 3 + 1, none⟩ = some (.string (bs t.text))
 t2 : W.cell? ⟨R.gt, k * 3 + 2, none⟩ = some (.int .i64 (t.at_ : Int))
theorem PRok.at {t : Lx.Tok} {q : List Lx.Tok} (h : PRok R (t :: q) W) : ∃ k, At R t k W ∧ R.all.length - (t :: q).length = k ∧ k + 1 = R.all.length - q.length ∧ k < 65537 := by
 obtain ⟨u, hu⟩ := h.suf
 have hl := congrArg List.length hu
 rw [List.length_append, List.length_cons] at hl
 have hk : R.all.length - (t :: q).length = u.length := by rw [List.length_cons]; omega
 have ht := h.tok.at u.length (by omega)
 have he : R.all[u.length]'(by omega) = t := by
  simp only [← hu]
  rw [List.getElem_append_right (Nat.le_refl _)]
  simp
 rw [he] at ht
 have hlen := h.len
 refine ⟨u.length, ⟨h.blk.cell 0, ?_, h.blk.frozen 1, by omega, by omega, ht.1, ht.2.1, ht.2.2⟩, hk, by omega, by omega⟩
 have := h.blk.cell 1
 rw [hk] at this
 exact this
theorem PRok.atk {t : Lx.Tok} {q : List Lx.Tok} (h : PRok R (t :: q) W) {k : Nat} (hk : R.all.length - (t :: q).length = k) : At R t k W := by
 obtain ⟨k', h1, h2, -⟩ := h.at
 have : k' = k := h2.symm.trans hk
 subst this
 exact h1
theorem PRok.next (h : PRok R ts W) (hb : Below W.heap.size W W') : PRok R ts W' := (h.self.next hb).pr
structure At2 (R : PR) (t : Lx.Tok) (k : Nat) (W : World) : Prop where
 c0 : W.cell? ⟨R.gp, 0, none⟩ = some (.slice (some ⟨R.gt, 0, none⟩) R.all.length R.cap)
 c1 : W.cell? ⟨R.gp, 1, none⟩ = some (.int .i64 ((k : Int) + 1))
 t1 : W.cell? ⟨R.gt, k * 3 + 1, none⟩ = some (.string (bs t.text))
theorem PRok.at2 {t : Lx.Tok} {q : List Lx.Tok} (h : PRok R (t :: q) W) {k : Nat} (hk : R.all.length - (t :: q).length = k) (hk2 : k + 1 = R.all.length - q.length) {W' : World} (h' : PRok R q W') : At2 R t k W' := by
 obtain ⟨u, hu⟩ := h.suf
 have hl := congrArg List.length hu
 rw [List.length_append, List.length_cons] at hl
 have hku : k = u.length := by rw [← hk, List.length_cons]; omega
 have ht := h'.tok.at u.length (by omega)
 have he : R.all[u.length]'(by omega) = t := by
  simp only [← hu]
  rw [List.getElem_append_right (Nat.le_refl _)]
  simp
 rw [he] at ht
 subst hku
 refine ⟨h'.blk.cell 0, ?_, ht.2.1⟩
 have := h'.blk.cell 1
 rw [← hk2] at this
 simpa using this
end
theorem PRok.cons {R : PR} {ts : List Lx.Tok} {W : World} (h : PRok R ts W) : ∃ t q, ts = t :: q := by
 cases ts with
 | nil => exact absurd rfl h.good.ne
 | cons t q => exact ⟨t, q, rfl⟩
theorem Blk.row {W : World} {g : Nat} {t : TypeId} {cs : List Value} (h : Blk W g t cs) (ds : List Value) : Blk (W.setRow g ds.toArray) g t ds := setRow_heap W g _ _ _ _ h
theorem below_row {n g : Nat} (h : n ≤ g) (cells : Array Value) {W : World} : Below n W (W.setRow g cells) :=
 ⟨rfl, rfl, rfl, by simp [World.setRow], fun k hk => by simp only [World.setRow, Array.getElem?_modify]; rw [if_neg (by omega)]⟩
def tokV (t : Lx.Tok) : Value := .agg #[.int .i64 (t.kind : Int), .string (bs t.text), .int .i64 (t.at_ : Int)]
theorem tf0 (a b c : Value) (w : World) : (Instr.field 154 (.agg #[a, b, c]) 0).run Tryz.prog w = .ok a w := by kernel_rfl
theorem tf1 (a b c : Value) (w : World) : (Instr.field 154 (.agg #[a, b, c]) 1).run Tryz.prog w = .ok b w := by kernel_rfl
theorem tf2 (a b c : Value) (w : World) : (Instr.field 154 (.agg #[a, b, c]) 2).run Tryz.prog w = .ok c w := by kernel_rfl
attribute [local go_sem] tf0 tf1 tf2
theorem za1 (R : PR) (t : Lx.Tok) (q : List Lx.Tok) (W : World) (h : PRok R (t :: q) W) : Calls Tryz.prog 75 #[ptr R.gp] W fun e w' => e = .returned (tokV t) ∧ Below W.heap.size W w' := by
 obtain ⟨k, -, hk1, -, hk⟩ := h.at
 go_enter Tryz.func75, Tryz.ntmps75
 go_wp2_with fail
 have hb := Below.alloc (Below.refl W.heap.size W) (Nat.le_refl _) (.cells #[.int .i64 0, .string ⟨#[]⟩, .int .i64 0] 154)
 have h1 := h.next hb
 have hB : Blk (W.alloc (.cells #[.int .i64 0, .string ⟨#[]⟩, .int .i64 0] 154)) W.heap.size 154 [.int .i64 0, .string ⟨#[]⟩, .int .i64 0] := Blk.new _ _ _
 generalize W.alloc (.cells #[.int .i64 0, .string ⟨#[]⟩, .int .i64 0] 154) = W1 at *
 obtain ⟨c0, c1, f1, k0, k1, t0, t1, t2⟩ := h1.atk hk1
 clear h h1 hk1
 generalize hg : W.heap.size = g at *
 go_still_tail 10, (by kernel_rfl)
 change wpList _ _ _ _ _ W1.drew
 have hB := hB.drew
 have hb := hb.drew
 generalize W1.drew = W2 at *
 go_wp2_with (refine wpList_store_row rfl 154 (.tmp 2) (.tmp 12) rfl g ([.int .i64 (t.kind : Int), .string (bs t.text), .int .i64 (t.at_ : Int)] : List Value).toArray rfl rfl 154 ([.int .i64 0, .string ⟨#[]⟩, .int .i64 0] : List Value).toArray hB (by kernel_rfl) (by kernel_rfl) (by kernel_rfl) ?_)
 obtain ⟨e0, e1, e2⟩ := (Blk.row hB [.int .i64 (t.kind : Int), .string (bs t.text), .int .i64 (t.at_ : Int)]).get3
 refine bodyPost_ret (v := tokV t) (by simp [results, Tryz.results75, go_sem, e0, e1, e2, tokV]) rfl ⟨rfl, ?_⟩
 rw [← hg] at hb ⊢
 exact hb.trans (below_row (Nat.le_refl _) _)
def panP (n : Nat) : Ending := .panicked [{ v := .iface 80 (.agg #[.int .i64 (n : Int)]), recovered := false }]
theorem zc6 (R : PR) (t : Lx.Tok) (q : List Lx.Tok) (W : World) (h : PRok R (t :: q) W) : Calls Tryz.prog 79 #[ptr R.gp] W fun e w' => e = panP t.at_ ∧ Hp [R.gp, R.gt] W [ipr R (t :: q)] w' := by
 have H := hid h
 go_enter Tryz.func79, Tryz.ntmps79
 go_wp2_with fail
 refine (za1 R t q _ H.out).mono ?_
 rintro e w1 ⟨rfl, hb⟩
 have HB := hid (H.out.self.next hb)
 clear hb
 unfold tokV
 go_wp2_with fail
 exact ⟨rfl, rfl, HB.out⟩
theorem kindI {k n : Nat} : ((k : Int) == (n : Int)) = (k == n) := by rw [Bool.eq_iff_iff]; simp; omega
theorem strEq (a b : Pa.Tx) : ((bs a).toList == (bs b).toList) = (a == b) := by rw [zbg, zbg, tl_bs, tl_bs]
theorem is_any (s : Pa.Tx) (R : PR) (ts : List Lx.Tok) (W : World) (h : PRok R ts W) : Calls Tryz.prog 141 #[ptr R.gp, .string (bs s)] W fun e w' => e = .returned (.bool (Pa.isT s ts)) ∧ Below W.heap.size W w' := by
 obtain ⟨t, q, rfl⟩ := h.cons
 have H := hid (za1 R t q _ h)
 cases hk : (t.kind == 2) with
 | false =>
  have hd : ((t.kind : Int) == 2) = false := (kindI (n := 2)).trans hk
  have HR : Hid (Pa.isT s (t :: q) = false) := hid (by rw [Pa.isT, hk]; rfl)
  clear hk
  go_enter Tryz.func141, Tryz.ntmps141
  go_wp2_with fail
  refine H.out.mono ?_
  rintro e w1 ⟨rfl, hb⟩
  unfold tokV
  go_wp2_with fail
  go_ret
  rw [HR.out]
  exact ⟨rfl, hb⟩
 | true =>
  have hd : ((t.kind : Int) == 2) = true := (kindI (n := 2)).trans hk
  have HR : Hid (Pa.isT s (t :: q) = (t.text == s)) := hid (by rw [Pa.isT, hk]; rfl)
  have HN := hid (fun w' hb => za1 R t q w' (h.next hb))
  clear hk
  go_enter Tryz.func141, Tryz.ntmps141
  go_wp2_with fail
  refine H.out.mono ?_
  rintro e w1 ⟨rfl, hb⟩
  unfold tokV
  go_wp2_with fail
  refine (HN.out w1 hb).mono ?_
  rintro e w2 ⟨rfl, hb2⟩
  unfold tokV
  go_wp2_with fail
  go_ret
  rw [HR.out, ← strEq t.text s]
  exact ⟨rfl, hb.trans (hb2.mono hb.size)⟩
def takeT (s : Pa.Tx) (ts : List Lx.Tok) : List Lx.Tok := if Pa.isT s ts then ts.tail else ts
theorem Hp.step {o : List Nat} {w W : World} {R : PR} {t : Lx.Tok} {q : List Lx.Tok} {it : List It} (h : Hp o w (ipr R (t :: q) :: it) W) (hk : t.kind ≠ 3) {k : Nat} (hk2 : k + 1 = R.all.length - q.length) {n : Int} (hn : n = (k : Int) + 1) : Hp o w (ipr R q :: it) (W.setCell ⟨R.gp, 1, none⟩ (.int .i64 n)) :=
 h.adv (List.suffix_cons _ _) (h.pr.good.tail hk) (by rw [hn, ← hk2]; simp)
theorem zay (s : Pa.Tx) (R : PR) (ts : List Lx.Tok) (W : World) (h : PRok R ts W) : Calls Tryz.prog 73 #[ptr R.gp, .string (bs s)] W fun e w' => e = .returned (.bool (Pa.isT s ts)) ∧ Hp [R.gp, R.gt] W [ipr R (takeT s ts)] w' := by
 obtain ⟨t, q, rfl⟩ := h.cons
 have H := hid h.self
 have HI := hid (is_any s R _ W h)
 cases hi : Pa.isT s (t :: q) with
 | false =>
  rw [hi] at HI
  have HR : Hid (takeT s (t :: q) = t :: q) := hid (by rw [takeT, hi]; rfl)
  clear hi
  go_enter Tryz.func73, Tryz.ntmps73
  go_wp2_with fail
  refine HI.out.mono ?_
  rintro e w1 ⟨rfl, hb⟩
  go_wp2_with fail
  go_ret
  rw [HR.out]
  exact ⟨rfl, H.out.next hb⟩
 | true =>
  rw [hi] at HI
  have HR : Hid (takeT s (t :: q) = q) := hid (by rw [takeT, hi]; rfl)
  have hk : t.kind ≠ 3 := by simp [Pa.isT] at hi; omega
  clear hi
  obtain ⟨k, -, hk1, hk2, hk3⟩ := h.at
  go_enter Tryz.func73, Tryz.ntmps73
  go_wp2_with fail
  refine HI.out.mono ?_
  rintro e w1 ⟨rfl, hb⟩
  have hH := H.out.next hb
  obtain ⟨c0, c1, f1, k0, k1, t0, t1, t2⟩ := hH.pr.atk hk1
  have HH := hid (hH.step hk hk2 (n := (k : Int) + 1) rfl)
  clear hk hk2 t0 t1 t2 c0 hb hH hk1
  go_wp2_with fail
  go_ret
  rw [HR.out]
  exact ⟨rfl, HH.out⟩
def outN {α : Type} (r : Pa.Rd α) (v : α → Value) : Ending :=
 match r.1 with
 | none => panP (Pa.atT r.2)
 | some a => .returned (v a)
theorem zbk (s : Pa.Tx) (R : PR) (ts : List Lx.Tok) (W : World) (h : PRok R ts W) : Calls Tryz.prog 71 #[ptr R.gp, .string (bs s)] W fun e w' => e = outN (Pa.needR s ts) (fun _ => .tuple #[]) ∧ Hp [R.gp, R.gt] W [ipr R (Pa.needR s ts).2] w' := by
 obtain ⟨t, q, rfl⟩ := h.cons
 have HI := hid (zay s R _ W h)
 cases hi : Pa.isT s (t :: q) with
 | false =>
  rw [takeT, hi] at HI
  have HR : Hid (Pa.needR s (t :: q) = (none, t :: q)) := hid (by rw [Pa.needR, hi]; rfl)
  clear hi
  go_enter Tryz.func71, Tryz.ntmps71
  go_wp2_with fail
  refine HI.out.mono ?_
  rintro e w1 ⟨rfl, hH⟩
  have hH : Hp [R.gp, R.gt] W [ipr R (t :: q)] w1 := hH
  go_wp2_with fail
  refine (zc6 R t q _ hH.pr).mono ?_
  rintro e w2 ⟨rfl, hH2⟩
  unfold panP
  go_wp2_with fail
  refine ⟨rfl, ?_⟩
  rw [HR.out]
  exact ⟨rfl, Hp.rd1 (r := []) hH hH2⟩
 | true =>
  rw [takeT, hi] at HI
  have HR : Hid (Pa.needR s (t :: q) = (some (), q)) := hid (by rw [Pa.needR, hi]; rfl)
  clear hi
  go_enter Tryz.func71, Tryz.ntmps71
  go_wp2_with fail
  refine HI.out.mono ?_
  rintro e w1 ⟨rfl, hH⟩
  have hH : Hp [R.gp, R.gt] W [ipr R q] w1 := hH
  go_wp2_with fail
  refine ⟨rfl, .tuple #[], by simp [results, Tryz.results71, go_sem], ?_⟩
  rw [HR.out]
  exact ⟨rfl, hH⟩
end Go.Proofs.YtekkapgknohadaaGreatDoor
