/-
 dominoref43.text, one step. Printed by mkwra.py.
-/
import Derived.Test.YtogmhaihmkcjgaaGreatDoorWrW
import Derived.Deep.RegionHeld3
namespace Go.Proofs.YtogmhaihmkcjgaaGreatDoor
open Go.RowKit Go.Shelf
set_option linter.unusedVariables false
set_option linter.unusedSimpArgs false

def KT (n : Nk) (tt : Int → List UInt8) (k : Int) (t : List UInt8) : Prop := k ∈ n.kids ∧ tt k = t
theorem ints_tail {W : World} {ad : Addr} {x : Int} {ks : List Int} (h : Ints W (some ad) (x :: ks)) : Ints W (some ⟨ad.block, ad.off + 1, none⟩) ks := ⟨fun i y hy => by
 obtain ⟨ad', e, h1⟩ := h.at_ (i + 1) y hy
 injection e with e
 subst e
 refine ⟨_, rfl, ?_⟩
 have : (⟨ad.block, ad.off + 1, none⟩ : Addr).add i = ad.add (i + 1) := by
  unfold Addr.add
  split
  ·rename_i h; subst h; simp
  ·simp
   omega
 rw [this]
 exact h1⟩
theorem vlen1 {l : List Int} (h : l.length = 1) : ∃ a, l = [a] := List.length_eq_one_iff.1 h
theorem vlen2 {l : List Int} (h : l.length = 2) : ∃ a b, l = [a, b] := by
 match l, h with
 | [a, b], _ => exact ⟨a, b, rfl⟩
theorem vlen3 {l : List Int} (h : l.length = 3) : ∃ a b c, l = [a, b, c] := by
 match l, h with
 | [a, b, c], _ => exact ⟨a, b, c, rfl⟩
theorem vlen2' {l : List Int} (h : 2 ≤ l.length) : ∃ a r, l = a :: r ∧ 1 ≤ r.length := by
 match l, h with
 | a :: b :: r, _ => exact ⟨a, b :: r, rfl, by simp⟩
set_option maxRecDepth 20000 in
set_option maxHeartbeats 32000000 in
theorem vtext_step (d : Po) (L : Lp) (hnl : d.nodes.length ≤ 1000000) (i : Nat) (n : Nk) (hn : d.nodes[i]? = some n) (hb : NBd n) (hm0 : -2147483648 ≤ n.num) (hm1 : n.num ≤ 2147483647) (hkd0 : 0 ≤ n.kind) (hkd1 : n.kind < 12) (hkp : kidsP n.kind n.kids.length = true) (hcmp : n.kind = 6 → 0 ≤ n.num ∧ n.num ≤ 5) (tt : Int → List UInt8)
  (hlen : (nodeW n.kind n.num (tl n.name) (tl n.attr) (n.kids.map tt)).length ≤ 1000000) (hT : ∀ k ∈ n.kids, VText d L k (tt k)) : VText d L (i : Int) (nodeW n.kind n.num (tl n.name) (tl n.attr) (n.kids.map tt)) := by
 intro W hP
 have hil := (List.getElem?_eq_some_iff.1 hn).1
 obtain ⟨nd, KA, kc, hA, hN⟩ := hP.ns.at_ i n hn
 have hk0 := (Hp.start W).new 29 (polcs d L)
 obtain ⟨gp, hgp⟩ : ∃ x, W.heap.size = x := ⟨_, rfl⟩
 rw [hgp] at hk0
 have HT := Lib.hid hT
 have HP := Lib.hid hP
 have HII := Lib.hid hN.ints
 have hcap := hN.cap
 have HA9 := Lib.hid hA
 have HNN := Lib.hid hN
 clear hA hN
 have hi0 : (0 : Int) ≤ (i : Int) := by omega
 have hi1 : (i : Int) < (d.nodes.length : Int) := by omega
 go_enter Tryz.func79, Tryz.ntmps79
 go_upto_region 1 with fail
 try simp only [hgp]
 have hk1 : Hp [] W [iblk gp 29 (polcs d L)] (W.alloc (.cells #[.string d.name, .slice L.ua d.uses.length L.uc, .slice L.ra d.reveal.length L.rc, .slice L.na d.nodes.length L.nc, .int .i64 d.root, .string d.scope, .int .i64 d.limit, .string d.escrow] 29)) := hk0
 clear hk0
 generalize W.alloc (.cells #[.string d.name, .slice L.ua d.uses.length L.uc, .slice L.ra d.reveal.length L.rc, .slice L.na d.nodes.length L.nc, .int .i64 d.root, .string d.scope, .int .i64 d.limit, .string d.escrow] 29) = W1 at *
 have hN1 := HNN.out.up hk1.below0
 obtain ⟨e0, e1, e2, e3, e4, e5, -, -⟩ := hN1
 have q3 : W1.cell? ⟨gp, 3, none⟩ = some (.slice (some nd) d.nodes.length L.nc) := by rw [← HA9.out]; exact (hk1.blk 0 rfl).cell 3
 obtain ⟨gn, hgn⟩ : ∃ x, W1.heap.size = x := ⟨_, rfl⟩
 have hk2 := hk1.new 76 [.int .i64 n.kind, .int .i64 n.num, .string n.name, .string n.attr, .slice KA n.kids.length kc, .int .i64 n.at_]
 rw [hgn] at hk2
 clear hT hP
 go_upto_region 2 with fail
 try simp only [hgn]
 have hk2 : Hp [] W [iblk gn 76 [.int .i64 n.kind, .int .i64 n.num, .string n.name, .string n.attr, .slice KA n.kids.length kc, .int .i64 n.at_], iblk gp 29 (polcs d L)] (W1.alloc (.cells #[.int .i64 n.kind, .int .i64 n.num, .string n.name, .string n.attr, .slice KA n.kids.length kc, .int .i64 n.at_] 76)) := hk2
 generalize W1.alloc (.cells #[.int .i64 n.kind, .int .i64 n.num, .string n.name, .string n.attr, .slice KA n.kids.length kc, .int .i64 n.at_] 76) = W2 at *
 clear e0 e1 e2 e3 e4 e5 q3 HNN hk1 hgn HA9 hn hil hi0 hi1
 rcases (by omega : n.kind = 0 ∨ n.kind = 1 ∨ n.kind = 2 ∨ n.kind = 3 ∨ n.kind = 4 ∨ n.kind = 5 ∨ n.kind = 6 ∨ n.kind = 7 ∨ n.kind = 8 ∨ n.kind = 9 ∨ n.kind = 10 ∨ n.kind = 11) with hkind | hkind | hkind | hkind | hkind | hkind | hkind | hkind | hkind | hkind | hkind | hkind
 ·as_aux_lemma =>
  have hT9 : nodeW n.kind n.num (tl n.name) (tl n.attr) (n.kids.map tt) = [116, 114, 117, 101] := by rw [hkind]; rfl
  have hle := hlen
  rw [hT9] at hle
  try simp only [List.length_append, List.length_cons, List.length_nil] at hle
  have HTX := Lib.hid hT9
  have k0 : W2.cell? ⟨gn, 0, none⟩ = some (.int .i64 0) := by rw [← hkind]; exact (hk2.blk 0 rfl).cell 0
  clear hT9 hlen hkp hcmp
  go_wp2_with fail
  go_ret
  refine ⟨ret_val (congrArg Value.string ?_), by first | exact hk2.below0 | (subst hgp; exact hk2.below0)⟩
  rw [HTX.out]
  apply ByteArray.ext
  try simp only [ByteArray.data_append]
  simp [bs]
 ·as_aux_lemma =>
  have hT9 : nodeW n.kind n.num (tl n.name) (tl n.attr) (n.kids.map tt) = [102, 97, 108, 115, 101] := by rw [hkind]; rfl
  have hle := hlen
  rw [hT9] at hle
  try simp only [List.length_append, List.length_cons, List.length_nil] at hle
  have HTX := Lib.hid hT9
  have k0 : W2.cell? ⟨gn, 0, none⟩ = some (.int .i64 1) := by rw [← hkind]; exact (hk2.blk 0 rfl).cell 0
  clear hT9 hlen hkp hcmp
  go_wp2_with fail
  go_ret
  refine ⟨ret_val (congrArg Value.string ?_), by first | exact hk2.below0 | (subst hgp; exact hk2.below0)⟩
  rw [HTX.out]
  apply ByteArray.ext
  try simp only [ByteArray.data_append]
  simp [bs]
 ·as_aux_lemma =>
  obtain ⟨x, hkx⟩ := vlen1 (l := n.kids) (of_decide_eq_true (by rw [hkind] at hkp; exact hkp))
  have hT9 : nodeW n.kind n.num (tl n.name) (tl n.attr) (n.kids.map tt) = [110, 111, 116, 32] ++ tt x := by rw [hkind, hkx]; rfl
  have hle := hlen
  rw [hT9] at hle
  try simp only [List.length_append, List.length_cons, List.length_nil] at hle
  have HTX := Lib.hid hT9
  have k0 : W2.cell? ⟨gn, 0, none⟩ = some (.int .i64 2) := by rw [← hkind]; exact (hk2.blk 0 rfl).cell 0
  clear hT9 hlen hkp hcmp
  obtain ⟨ad, rfl, -⟩ := HII.out.at_ 0 x (by rw [hkx]; rfl)
  have HTT : Hid (∀ V, Hp [] W [iblk gn 76 [.int .i64 n.kind, .int .i64 n.num, .string n.name, .string n.attr, .slice (some ad) n.kids.length kc, .int .i64 n.at_], iblk gp 29 (polcs d L)] V → ∀ k t, KT n tt k t → Calls Tryz.prog 79 #[polV d L, .int .i64 k] V fun e w' => e = .returned (.string (bs t)) ∧ Hp [] W [iblk gn 76 [.int .i64 n.kind, .int .i64 n.num, .string n.name, .string n.attr, .slice (some ad) n.kids.length kc, .int .i64 n.at_], iblk gp 29 (polcs d L)] w') := Lib.hid fun V h k t hk => by
   obtain ⟨h1, rfl⟩ := hk
   exact (HT.out k h1 V (HP.out.up h.below0)).mono fun e w' h9 => ⟨h9.1, h.next h9.2⟩
  have HC : Hid (∀ V, Hp [] W [iblk gn 76 [.int .i64 n.kind, .int .i64 n.num, .string n.name, .string n.attr, .slice (some ad) n.kids.length kc, .int .i64 n.at_], iblk gp 29 (polcs d L)] V → (V.cell? ⟨gp, 0, none⟩ = some (.string d.name) ∧ V.cell? ⟨gp, 1, none⟩ = some (.slice L.ua d.uses.length L.uc) ∧ V.cell? ⟨gp, 2, none⟩ = some (.slice L.ra d.reveal.length L.rc) ∧ V.cell? ⟨gp, 3, none⟩ = some (.slice L.na d.nodes.length L.nc) ∧ V.cell? ⟨gp, 4, none⟩ = some (.int .i64 d.root) ∧ V.cell? ⟨gp, 5, none⟩ = some (.string d.scope) ∧ V.cell? ⟨gp, 6, none⟩ = some (.int .i64 d.limit) ∧ V.cell? ⟨gp, 7, none⟩ = some (.string d.escrow) ∧ V.cell? ⟨gn, 1, none⟩ = some (.int .i64 n.num) ∧ V.cell? ⟨gn, 4, none⟩ = some (.slice (some ad) n.kids.length kc) ∧ V.cell? (ad.add 0) = some (.int .i64 x) ∧ V.cell? ad = some (.int .i64 x))) := Lib.hid fun V h => by
   obtain ⟨a0, a1, a2, a3, a4, a5, a6, a7⟩ := (h.blk 1 rfl).get8
   have c0 : V.cell? ad = some (.int .i64 x) := by
    obtain ⟨ad', e1, e2⟩ := (HII.out.up h.below0).at_ 0 x (by rw [hkx]; rfl)
    cases e1
    exact e2
   exact ⟨a0, a1, a2, a3, a4, a5, a6, a7, (h.blk 0 rfl).cell 1, (h.blk 0 rfl).cell 4, c0, c0⟩
  have hktx : KT n tt x (tt x) := ⟨by rw [hkx]; simp, rfl⟩
  generalize tt x = tx at *
  have hz1 : ¬ 9223372036854775807 < 4 + (bs tx).size := by (try simp only [size_bs]); omega
  have hkn0 : 0 < n.kids.length := by rw [hkx]; simp
  have hkl0 : (0 : Int) < (n.kids.length : Int) := by omega
  clear hkx
  go_upto_region 8 with fail
  have hk3 := hk2.drew
  clear hk2
  have hcc := HC.out _ hk3
  first | go_region_held3 (fun w' => w'.cell? ⟨gp, 0, none⟩ = some (.string d.name) ∧ w'.cell? ⟨gp, 1, none⟩ = some (.slice L.ua d.uses.length L.uc) ∧ w'.cell? ⟨gp, 2, none⟩ = some (.slice L.ra d.reveal.length L.rc) ∧ w'.cell? ⟨gp, 3, none⟩ = some (.slice L.na d.nodes.length L.nc) ∧ w'.cell? ⟨gp, 4, none⟩ = some (.int .i64 d.root) ∧ w'.cell? ⟨gp, 5, none⟩ = some (.string d.scope) ∧ w'.cell? ⟨gp, 6, none⟩ = some (.int .i64 d.limit) ∧ w'.cell? ⟨gp, 7, none⟩ = some (.string d.escrow) ∧ w'.cell? ⟨gn, 1, none⟩ = some (.int .i64 n.num) ∧ w'.cell? ⟨gn, 4, none⟩ = some (.slice (some ad) n.kids.length kc) ∧ w'.cell? (ad.add 0) = some (.int .i64 x) ∧ w'.cell? ad = some (.int .i64 x)) (first | exact hcc | exact HC.out _ (by assumption)) (first | (go_at_call 79; refine (HTT.out _ (by assumption) _ _ (by assumption)).mono ?_; rintro e w8 ⟨rfl, hk8⟩)) | fail
  all_goals
   go_wp2_with fail
   go_ret
   refine ⟨ret_val (congrArg Value.string ?_), by first | exact (by assumption : Hp [] W [iblk gn 76 [.int .i64 n.kind, .int .i64 n.num, .string n.name, .string n.attr, .slice (some ad) n.kids.length kc, .int .i64 n.at_], iblk gp 29 (polcs d L)] _).below0 | (subst hgp; exact (by assumption : Hp [] W [iblk gn 76 [.int .i64 n.kind, .int .i64 n.num, .string n.name, .string n.attr, .slice (some ad) n.kids.length kc, .int .i64 n.at_], iblk gp 29 (polcs d L)] _).below0)⟩
   rw [HTX.out]
   apply ByteArray.ext
   try simp only [ByteArray.data_append]
   simp [bs]
 ·as_aux_lemma =>
  have hT9 : nodeW n.kind n.num (tl n.name) (tl n.attr) (n.kids.map tt) = [97, 108, 108] ++ [40] ++ cms (n.kids.map tt) ++ [41] := by rw [hkind]; rfl
  have hle := hlen
  rw [hT9] at hle
  try simp only [List.length_append, List.length_cons, List.length_nil] at hle
  have HTX := Lib.hid hT9
  have k0 : W2.cell? ⟨gn, 0, none⟩ = some (.int .i64 3) := by rw [← hkind]; exact (hk2.blk 0 rfl).cell 0
  clear hT9 hlen hkp hcmp
  have HL := Lib.hid (fun V (h : Hp [] W [iblk gn 76 [.int .i64 n.kind, .int .i64 n.num, .string n.name, .string n.attr, .slice KA n.kids.length kc, .int .i64 n.at_], iblk gp 29 (polcs d L)] V) => (vlist_any d L tt n.kids hb.kids KA kc V (HP.out.up h.below0) (HII.out.up h.below0) (by omega) (fun k hk V' hP' => HT.out k hk V' hP')).mono fun e w' h9 => (⟨h9.1, h.next h9.2⟩ : e = .returned (.string (bs (cms (n.kids.map tt)))) ∧ Hp [] W [iblk gn 76 [.int .i64 n.kind, .int .i64 n.num, .string n.name, .string n.attr, .slice KA n.kids.length kc, .int .i64 n.at_], iblk gp 29 (polcs d L)] w'))
  generalize cms (n.kids.map tt) = tc at *
  have hz1 : ¬ 9223372036854775807 < 4 + (bs tc).size := by (try simp only [size_bs]); omega
  have hz2 : ¬ 9223372036854775807 < 4 + (bs tc).size + 1 := by (try simp only [size_bs]); omega
  obtain ⟨p0, p1, p2, p3, p4, p5, p6, p7⟩ := (hk2.blk 1 rfl).get8
  have k4 : W2.cell? ⟨gn, 4, none⟩ = some (.slice KA n.kids.length kc) := (hk2.blk 0 rfl).cell 4
  have HA := Lib.hid (HL.out _ hk2)
  clear HL
  go_wp2_with fail
  refine HA.out.mono ?_
  rintro e w5 ⟨rfl, hk5⟩
  clear HA
  go_wp2_with fail
  go_ret
  refine ⟨ret_val (congrArg Value.string ?_), by first | exact hk5.below0 | (subst hgp; exact hk5.below0)⟩
  rw [HTX.out]
  apply ByteArray.ext
  try simp only [ByteArray.data_append]
  simp [bs]
 ·as_aux_lemma =>
  have hT9 : nodeW n.kind n.num (tl n.name) (tl n.attr) (n.kids.map tt) = [97, 110, 121] ++ [40] ++ cms (n.kids.map tt) ++ [41] := by rw [hkind]; rfl
  have hle := hlen
  rw [hT9] at hle
  try simp only [List.length_append, List.length_cons, List.length_nil] at hle
  have HTX := Lib.hid hT9
  have k0 : W2.cell? ⟨gn, 0, none⟩ = some (.int .i64 4) := by rw [← hkind]; exact (hk2.blk 0 rfl).cell 0
  clear hT9 hlen hkp hcmp
  have HL := Lib.hid (fun V (h : Hp [] W [iblk gn 76 [.int .i64 n.kind, .int .i64 n.num, .string n.name, .string n.attr, .slice KA n.kids.length kc, .int .i64 n.at_], iblk gp 29 (polcs d L)] V) => (vlist_any d L tt n.kids hb.kids KA kc V (HP.out.up h.below0) (HII.out.up h.below0) (by omega) (fun k hk V' hP' => HT.out k hk V' hP')).mono fun e w' h9 => (⟨h9.1, h.next h9.2⟩ : e = .returned (.string (bs (cms (n.kids.map tt)))) ∧ Hp [] W [iblk gn 76 [.int .i64 n.kind, .int .i64 n.num, .string n.name, .string n.attr, .slice KA n.kids.length kc, .int .i64 n.at_], iblk gp 29 (polcs d L)] w'))
  generalize cms (n.kids.map tt) = tc at *
  have hz1 : ¬ 9223372036854775807 < 4 + (bs tc).size := by (try simp only [size_bs]); omega
  have hz2 : ¬ 9223372036854775807 < 4 + (bs tc).size + 1 := by (try simp only [size_bs]); omega
  obtain ⟨p0, p1, p2, p3, p4, p5, p6, p7⟩ := (hk2.blk 1 rfl).get8
  have k4 : W2.cell? ⟨gn, 4, none⟩ = some (.slice KA n.kids.length kc) := (hk2.blk 0 rfl).cell 4
  have HA := Lib.hid (HL.out _ hk2)
  clear HL
  go_wp2_with fail
  refine HA.out.mono ?_
  rintro e w5 ⟨rfl, hk5⟩
  clear HA
  go_wp2_with fail
  go_ret
  refine ⟨ret_val (congrArg Value.string ?_), by first | exact hk5.below0 | (subst hgp; exact hk5.below0)⟩
  rw [HTX.out]
  apply ByteArray.ext
  try simp only [ByteArray.data_append]
  simp [bs]
 ·as_aux_lemma =>
  have hkx : True := trivial
  have hT9 : nodeW n.kind n.num (tl n.name) (tl n.attr) (n.kids.map tt) = ([97, 116, 108, 101, 97, 115, 116, 32] ++ Lib.itoa n.num) ++ [40] ++ cms (n.kids.map tt) ++ [41] := by rw [hkind]; rfl
  have hle := hlen
  rw [hT9] at hle
  try simp only [List.length_append, List.length_cons, List.length_nil] at hle
  have HTX := Lib.hid hT9
  have k0 : W2.cell? ⟨gn, 0, none⟩ = some (.int .i64 5) := by rw [← hkind]; exact (hk2.blk 0 rfl).cell 0
  clear hT9 hlen hkp hcmp
  have HTT : Hid (∀ V, Hp [] W [iblk gn 76 [.int .i64 n.kind, .int .i64 n.num, .string n.name, .string n.attr, .slice KA n.kids.length kc, .int .i64 n.at_], iblk gp 29 (polcs d L)] V → ∀ k t, KT n tt k t → Calls Tryz.prog 79 #[polV d L, .int .i64 k] V fun e w' => e = .returned (.string (bs t)) ∧ Hp [] W [iblk gn 76 [.int .i64 n.kind, .int .i64 n.num, .string n.name, .string n.attr, .slice KA n.kids.length kc, .int .i64 n.at_], iblk gp 29 (polcs d L)] w') := Lib.hid fun V h k t hk => by
   obtain ⟨h1, rfl⟩ := hk
   exact (HT.out k h1 V (HP.out.up h.below0)).mono fun e w' h9 => ⟨h9.1, h.next h9.2⟩
  have HL := Lib.hid (fun V (h : Hp [] W [iblk gn 76 [.int .i64 n.kind, .int .i64 n.num, .string n.name, .string n.attr, .slice KA n.kids.length kc, .int .i64 n.at_], iblk gp 29 (polcs d L)] V) => (vlist_any d L tt n.kids hb.kids KA kc V (HP.out.up h.below0) (HII.out.up h.below0) (by omega) (fun k hk V' hP' => HT.out k hk V' hP')).mono fun e w' h9 => (⟨h9.1, h.next h9.2⟩ : e = .returned (.string (bs (cms (n.kids.map tt)))) ∧ Hp [] W [iblk gn 76 [.int .i64 n.kind, .int .i64 n.num, .string n.name, .string n.attr, .slice KA n.kids.length kc, .int .i64 n.at_], iblk gp 29 (polcs d L)] w'))
  have HD := Lib.hid (fun V (h : Hp [] W [iblk gn 76 [.int .i64 n.kind, .int .i64 n.num, .string n.name, .string n.attr, .slice KA n.kids.length kc, .int .i64 n.at_], iblk gp 29 (polcs d L)] V) => (vdecimal_any n.num (by omega) (by omega) V).mono fun e w' h9 => (⟨h9.1, h.next h9.2⟩ : e = .returned (.string (bs (Lib.itoa n.num))) ∧ Hp [] W [iblk gn 76 [.int .i64 n.kind, .int .i64 n.num, .string n.name, .string n.attr, .slice KA n.kids.length kc, .int .i64 n.at_], iblk gp 29 (polcs d L)] w'))
  have HC : Hid (∀ V, Hp [] W [iblk gn 76 [.int .i64 n.kind, .int .i64 n.num, .string n.name, .string n.attr, .slice KA n.kids.length kc, .int .i64 n.at_], iblk gp 29 (polcs d L)] V → (V.cell? ⟨gp, 0, none⟩ = some (.string d.name) ∧ V.cell? ⟨gp, 1, none⟩ = some (.slice L.ua d.uses.length L.uc) ∧ V.cell? ⟨gp, 2, none⟩ = some (.slice L.ra d.reveal.length L.rc) ∧ V.cell? ⟨gp, 3, none⟩ = some (.slice L.na d.nodes.length L.nc) ∧ V.cell? ⟨gp, 4, none⟩ = some (.int .i64 d.root) ∧ V.cell? ⟨gp, 5, none⟩ = some (.string d.scope) ∧ V.cell? ⟨gp, 6, none⟩ = some (.int .i64 d.limit) ∧ V.cell? ⟨gp, 7, none⟩ = some (.string d.escrow) ∧ V.cell? ⟨gn, 1, none⟩ = some (.int .i64 n.num) ∧ V.cell? ⟨gn, 4, none⟩ = some (.slice KA n.kids.length kc))) := Lib.hid fun V h => by
   obtain ⟨a0, a1, a2, a3, a4, a5, a6, a7⟩ := (h.blk 1 rfl).get8
   exact ⟨a0, a1, a2, a3, a4, a5, a6, a7, (h.blk 0 rfl).cell 1, (h.blk 0 rfl).cell 4⟩
  generalize cms (n.kids.map tt) = tc at *
  generalize Lib.itoa n.num = ti at *
  have hz1 : ¬ 9223372036854775807 < 8 + (bs ti).size := by (try simp only [size_bs]); omega
  have hz2 : ¬ 9223372036854775807 < 8 + (bs ti).size + 1 := by (try simp only [size_bs]); omega
  have hz3 : ¬ 9223372036854775807 < 8 + (bs ti).size + 1 + (bs tc).size := by (try simp only [size_bs]); omega
  have hz4 : ¬ 9223372036854775807 < 8 + (bs ti).size + 1 + (bs tc).size + 1 := by (try simp only [size_bs]); omega
  clear hkx
  go_upto_region 14 with fail
  have hk3 := hk2.drew
  clear hk2
  have hcc := HC.out _ hk3
  first | go_region_held3 (fun w' => w'.cell? ⟨gp, 0, none⟩ = some (.string d.name) ∧ w'.cell? ⟨gp, 1, none⟩ = some (.slice L.ua d.uses.length L.uc) ∧ w'.cell? ⟨gp, 2, none⟩ = some (.slice L.ra d.reveal.length L.rc) ∧ w'.cell? ⟨gp, 3, none⟩ = some (.slice L.na d.nodes.length L.nc) ∧ w'.cell? ⟨gp, 4, none⟩ = some (.int .i64 d.root) ∧ w'.cell? ⟨gp, 5, none⟩ = some (.string d.scope) ∧ w'.cell? ⟨gp, 6, none⟩ = some (.int .i64 d.limit) ∧ w'.cell? ⟨gp, 7, none⟩ = some (.string d.escrow) ∧ w'.cell? ⟨gn, 1, none⟩ = some (.int .i64 n.num) ∧ w'.cell? ⟨gn, 4, none⟩ = some (.slice KA n.kids.length kc)) (first | exact hcc | exact HC.out _ (by assumption)) (first | (go_at_call 80; refine (HD.out _ (by assumption)).mono ?_; rintro e w7 ⟨rfl, hk7⟩) | (go_at_call 168; refine (HL.out _ (by assumption)).mono ?_; rintro e w9 ⟨rfl, hk9⟩)) | fail
  all_goals
   go_wp2_with fail
   go_ret
   refine ⟨ret_val (congrArg Value.string ?_), by first | exact (by assumption : Hp [] W [iblk gn 76 [.int .i64 n.kind, .int .i64 n.num, .string n.name, .string n.attr, .slice KA n.kids.length kc, .int .i64 n.at_], iblk gp 29 (polcs d L)] _).below0 | (subst hgp; exact (by assumption : Hp [] W [iblk gn 76 [.int .i64 n.kind, .int .i64 n.num, .string n.name, .string n.attr, .slice KA n.kids.length kc, .int .i64 n.at_], iblk gp 29 (polcs d L)] _).below0)⟩
   rw [HTX.out]
   apply ByteArray.ext
   try simp only [ByteArray.data_append]
   simp [bs]
 ·as_aux_lemma =>
  obtain ⟨x, y, hkx⟩ := vlen2 (l := n.kids) (of_decide_eq_true (by rw [hkind] at hkp; exact hkp))
  obtain ⟨hc0, hc1⟩ := hcmp hkind
  have hT9 : nodeW n.kind n.num (tl n.name) (tl n.attr) (n.kids.map tt) = tt x ++ ([32] ++ sgW n.num ++ [32]) ++ tt y := by rw [hkind, hkx]; rfl
  have hle := hlen
  rw [hT9] at hle
  try simp only [List.length_append, List.length_cons, List.length_nil] at hle
  have HTX := Lib.hid hT9
  have k0 : W2.cell? ⟨gn, 0, none⟩ = some (.int .i64 6) := by rw [← hkind]; exact (hk2.blk 0 rfl).cell 0
  clear hT9 hlen hkp hcmp
  obtain ⟨ad, rfl, -⟩ := HII.out.at_ 0 x (by rw [hkx]; rfl)
  have HTT : Hid (∀ V, Hp [] W [iblk gn 76 [.int .i64 n.kind, .int .i64 n.num, .string n.name, .string n.attr, .slice (some ad) n.kids.length kc, .int .i64 n.at_], iblk gp 29 (polcs d L)] V → ∀ k t, KT n tt k t → Calls Tryz.prog 79 #[polV d L, .int .i64 k] V fun e w' => e = .returned (.string (bs t)) ∧ Hp [] W [iblk gn 76 [.int .i64 n.kind, .int .i64 n.num, .string n.name, .string n.attr, .slice (some ad) n.kids.length kc, .int .i64 n.at_], iblk gp 29 (polcs d L)] w') := Lib.hid fun V h k t hk => by
   obtain ⟨h1, rfl⟩ := hk
   exact (HT.out k h1 V (HP.out.up h.below0)).mono fun e w' h9 => ⟨h9.1, h.next h9.2⟩
  have HSG := Lib.hid (fun V (h : Hp [] W [iblk gn 76 [.int .i64 n.kind, .int .i64 n.num, .string n.name, .string n.attr, .slice (some ad) n.kids.length kc, .int .i64 n.at_], iblk gp 29 (polcs d L)] V) => (vsign_any n.num hc0 hc1 V).mono fun e w' h9 => (⟨h9.1, h.next h9.2⟩ : e = .returned (.string (bs (sgW n.num))) ∧ Hp [] W [iblk gn 76 [.int .i64 n.kind, .int .i64 n.num, .string n.name, .string n.attr, .slice (some ad) n.kids.length kc, .int .i64 n.at_], iblk gp 29 (polcs d L)] w'))
  have HC : Hid (∀ V, Hp [] W [iblk gn 76 [.int .i64 n.kind, .int .i64 n.num, .string n.name, .string n.attr, .slice (some ad) n.kids.length kc, .int .i64 n.at_], iblk gp 29 (polcs d L)] V → (V.cell? ⟨gp, 0, none⟩ = some (.string d.name) ∧ V.cell? ⟨gp, 1, none⟩ = some (.slice L.ua d.uses.length L.uc) ∧ V.cell? ⟨gp, 2, none⟩ = some (.slice L.ra d.reveal.length L.rc) ∧ V.cell? ⟨gp, 3, none⟩ = some (.slice L.na d.nodes.length L.nc) ∧ V.cell? ⟨gp, 4, none⟩ = some (.int .i64 d.root) ∧ V.cell? ⟨gp, 5, none⟩ = some (.string d.scope) ∧ V.cell? ⟨gp, 6, none⟩ = some (.int .i64 d.limit) ∧ V.cell? ⟨gp, 7, none⟩ = some (.string d.escrow) ∧ V.cell? ⟨gn, 1, none⟩ = some (.int .i64 n.num) ∧ V.cell? ⟨gn, 4, none⟩ = some (.slice (some ad) n.kids.length kc) ∧ V.cell? (ad.add 0) = some (.int .i64 x) ∧ V.cell? ad = some (.int .i64 x) ∧ V.cell? ⟨ad.block, ad.off + 1, none⟩ = some (.int .i64 y))) := Lib.hid fun V h => by
   obtain ⟨a0, a1, a2, a3, a4, a5, a6, a7⟩ := (h.blk 1 rfl).get8
   have c0 : V.cell? ad = some (.int .i64 x) := by
    obtain ⟨ad', e1, e2⟩ := (HII.out.up h.below0).at_ 0 x (by rw [hkx]; rfl)
    cases e1
    exact e2
   have c1 : V.cell? ⟨ad.block, ad.off + 1, none⟩ = some (.int .i64 y) := by
    obtain ⟨ad', e1, e2⟩ := (HII.out.up h.below0).at_ 1 y (by rw [hkx]; rfl)
    cases e1
    exact e2
   exact ⟨a0, a1, a2, a3, a4, a5, a6, a7, (h.blk 0 rfl).cell 1, (h.blk 0 rfl).cell 4, c0, c0, c1⟩
  have hktx : KT n tt x (tt x) := ⟨by rw [hkx]; simp, rfl⟩
  generalize tt x = tx at *
  have hkty : KT n tt y (tt y) := ⟨by rw [hkx]; simp, rfl⟩
  generalize tt y = ty at *
  generalize sgW n.num = ts at *
  have hz1 : ¬ 9223372036854775807 < (bs tx).size + 1 := by (try simp only [size_bs]); omega
  have hz2 : ¬ 9223372036854775807 < (bs tx).size + 1 + (bs ts).size := by (try simp only [size_bs]); omega
  have hz3 : ¬ 9223372036854775807 < (bs tx).size + 1 + (bs ts).size + 1 := by (try simp only [size_bs]); omega
  have hz4 : ¬ 9223372036854775807 < (bs tx).size + 1 + (bs ts).size + 1 + (bs ty).size := by (try simp only [size_bs]); omega
  have hkn0 : 0 < n.kids.length := by rw [hkx]; simp
  have hkl0 : (0 : Int) < (n.kids.length : Int) := by omega
  have hkn1 : 1 < n.kids.length := by rw [hkx]; simp
  have hkl1 : (1 : Int) < (n.kids.length : Int) := by omega
  clear hkx
  go_upto_region 16 with fail
  have hk3 := hk2.drew
  clear hk2
  have hcc := HC.out _ hk3
  first | go_region_held3 (fun w' => w'.cell? ⟨gp, 0, none⟩ = some (.string d.name) ∧ w'.cell? ⟨gp, 1, none⟩ = some (.slice L.ua d.uses.length L.uc) ∧ w'.cell? ⟨gp, 2, none⟩ = some (.slice L.ra d.reveal.length L.rc) ∧ w'.cell? ⟨gp, 3, none⟩ = some (.slice L.na d.nodes.length L.nc) ∧ w'.cell? ⟨gp, 4, none⟩ = some (.int .i64 d.root) ∧ w'.cell? ⟨gp, 5, none⟩ = some (.string d.scope) ∧ w'.cell? ⟨gp, 6, none⟩ = some (.int .i64 d.limit) ∧ w'.cell? ⟨gp, 7, none⟩ = some (.string d.escrow) ∧ w'.cell? ⟨gn, 1, none⟩ = some (.int .i64 n.num) ∧ w'.cell? ⟨gn, 4, none⟩ = some (.slice (some ad) n.kids.length kc) ∧ w'.cell? (ad.add 0) = some (.int .i64 x) ∧ w'.cell? ad = some (.int .i64 x) ∧ w'.cell? ⟨ad.block, ad.off + 1, none⟩ = some (.int .i64 y)) (first | exact hcc | exact HC.out _ (by assumption)) (first | (go_at_call 79; refine (HTT.out _ (by assumption) _ _ (by assumption)).mono ?_; rintro e w8 ⟨rfl, hk8⟩) | (go_at_call 169; refine (HSG.out _ (by assumption)).mono ?_; rintro e w7 ⟨rfl, hk7⟩)) | fail
  all_goals
   go_wp2_with fail
   go_ret
   refine ⟨ret_val (congrArg Value.string ?_), by first | exact (by assumption : Hp [] W [iblk gn 76 [.int .i64 n.kind, .int .i64 n.num, .string n.name, .string n.attr, .slice (some ad) n.kids.length kc, .int .i64 n.at_], iblk gp 29 (polcs d L)] _).below0 | (subst hgp; exact (by assumption : Hp [] W [iblk gn 76 [.int .i64 n.kind, .int .i64 n.num, .string n.name, .string n.attr, .slice (some ad) n.kids.length kc, .int .i64 n.at_], iblk gp 29 (polcs d L)] _).below0)⟩
   rw [HTX.out]
   apply ByteArray.ext
   try simp only [ByteArray.data_append]
   simp [bs]
 ·as_aux_lemma =>
  obtain ⟨x, y, z, hkx⟩ := vlen3 (l := n.kids) (of_decide_eq_true (by rw [hkind] at hkp; exact hkp))
  have hT9 : nodeW n.kind n.num (tl n.name) (tl n.attr) (n.kids.map tt) = tt x ++ ([32] ++ [98, 101, 116, 119, 101, 101, 110] ++ [32]) ++ tt y ++ [32, 97, 110, 100, 32] ++ tt z := by rw [hkind, hkx]; rfl
  have hle := hlen
  rw [hT9] at hle
  try simp only [List.length_append, List.length_cons, List.length_nil] at hle
  have HTX := Lib.hid hT9
  have k0 : W2.cell? ⟨gn, 0, none⟩ = some (.int .i64 7) := by rw [← hkind]; exact (hk2.blk 0 rfl).cell 0
  clear hT9 hlen hkp hcmp
  obtain ⟨ad, rfl, -⟩ := HII.out.at_ 0 x (by rw [hkx]; rfl)
  have HTT : Hid (∀ V, Hp [] W [iblk gn 76 [.int .i64 n.kind, .int .i64 n.num, .string n.name, .string n.attr, .slice (some ad) n.kids.length kc, .int .i64 n.at_], iblk gp 29 (polcs d L)] V → ∀ k t, KT n tt k t → Calls Tryz.prog 79 #[polV d L, .int .i64 k] V fun e w' => e = .returned (.string (bs t)) ∧ Hp [] W [iblk gn 76 [.int .i64 n.kind, .int .i64 n.num, .string n.name, .string n.attr, .slice (some ad) n.kids.length kc, .int .i64 n.at_], iblk gp 29 (polcs d L)] w') := Lib.hid fun V h k t hk => by
   obtain ⟨h1, rfl⟩ := hk
   exact (HT.out k h1 V (HP.out.up h.below0)).mono fun e w' h9 => ⟨h9.1, h.next h9.2⟩
  have HC : Hid (∀ V, Hp [] W [iblk gn 76 [.int .i64 n.kind, .int .i64 n.num, .string n.name, .string n.attr, .slice (some ad) n.kids.length kc, .int .i64 n.at_], iblk gp 29 (polcs d L)] V → (V.cell? ⟨gp, 0, none⟩ = some (.string d.name) ∧ V.cell? ⟨gp, 1, none⟩ = some (.slice L.ua d.uses.length L.uc) ∧ V.cell? ⟨gp, 2, none⟩ = some (.slice L.ra d.reveal.length L.rc) ∧ V.cell? ⟨gp, 3, none⟩ = some (.slice L.na d.nodes.length L.nc) ∧ V.cell? ⟨gp, 4, none⟩ = some (.int .i64 d.root) ∧ V.cell? ⟨gp, 5, none⟩ = some (.string d.scope) ∧ V.cell? ⟨gp, 6, none⟩ = some (.int .i64 d.limit) ∧ V.cell? ⟨gp, 7, none⟩ = some (.string d.escrow) ∧ V.cell? ⟨gn, 1, none⟩ = some (.int .i64 n.num) ∧ V.cell? ⟨gn, 4, none⟩ = some (.slice (some ad) n.kids.length kc) ∧ V.cell? (ad.add 0) = some (.int .i64 x) ∧ V.cell? ad = some (.int .i64 x) ∧ V.cell? ⟨ad.block, ad.off + 1, none⟩ = some (.int .i64 y) ∧ V.cell? ⟨ad.block, ad.off + 2, none⟩ = some (.int .i64 z))) := Lib.hid fun V h => by
   obtain ⟨a0, a1, a2, a3, a4, a5, a6, a7⟩ := (h.blk 1 rfl).get8
   have c0 : V.cell? ad = some (.int .i64 x) := by
    obtain ⟨ad', e1, e2⟩ := (HII.out.up h.below0).at_ 0 x (by rw [hkx]; rfl)
    cases e1
    exact e2
   have c1 : V.cell? ⟨ad.block, ad.off + 1, none⟩ = some (.int .i64 y) := by
    obtain ⟨ad', e1, e2⟩ := (HII.out.up h.below0).at_ 1 y (by rw [hkx]; rfl)
    cases e1
    exact e2
   have c2 : V.cell? ⟨ad.block, ad.off + 2, none⟩ = some (.int .i64 z) := by
    obtain ⟨ad', e1, e2⟩ := (HII.out.up h.below0).at_ 2 z (by rw [hkx]; rfl)
    cases e1
    exact e2
   exact ⟨a0, a1, a2, a3, a4, a5, a6, a7, (h.blk 0 rfl).cell 1, (h.blk 0 rfl).cell 4, c0, c0, c1, c2⟩
  have hktx : KT n tt x (tt x) := ⟨by rw [hkx]; simp, rfl⟩
  generalize tt x = tx at *
  have hkty : KT n tt y (tt y) := ⟨by rw [hkx]; simp, rfl⟩
  generalize tt y = ty at *
  have hktz : KT n tt z (tt z) := ⟨by rw [hkx]; simp, rfl⟩
  generalize tt z = tz at *
  have hz1 : ¬ 9223372036854775807 < (bs tx).size + 9 := by (try simp only [size_bs]); omega
  have hz2 : ¬ 9223372036854775807 < (bs tx).size + 9 + (bs ty).size := by (try simp only [size_bs]); omega
  have hz3 : ¬ 9223372036854775807 < (bs tx).size + 9 + (bs ty).size + 5 := by (try simp only [size_bs]); omega
  have hz4 : ¬ 9223372036854775807 < (bs tx).size + 9 + (bs ty).size + 5 + (bs tz).size := by (try simp only [size_bs]); omega
  have hkn0 : 0 < n.kids.length := by rw [hkx]; simp
  have hkl0 : (0 : Int) < (n.kids.length : Int) := by omega
  have hkn1 : 1 < n.kids.length := by rw [hkx]; simp
  have hkl1 : (1 : Int) < (n.kids.length : Int) := by omega
  have hkn2 : 2 < n.kids.length := by rw [hkx]; simp
  have hkl2 : (2 : Int) < (n.kids.length : Int) := by omega
  clear hkx
  go_upto_region 18 with fail
  have hk3 := hk2.drew
  clear hk2
  have hcc := HC.out _ hk3
  first | go_region_held3 (fun w' => w'.cell? ⟨gp, 0, none⟩ = some (.string d.name) ∧ w'.cell? ⟨gp, 1, none⟩ = some (.slice L.ua d.uses.length L.uc) ∧ w'.cell? ⟨gp, 2, none⟩ = some (.slice L.ra d.reveal.length L.rc) ∧ w'.cell? ⟨gp, 3, none⟩ = some (.slice L.na d.nodes.length L.nc) ∧ w'.cell? ⟨gp, 4, none⟩ = some (.int .i64 d.root) ∧ w'.cell? ⟨gp, 5, none⟩ = some (.string d.scope) ∧ w'.cell? ⟨gp, 6, none⟩ = some (.int .i64 d.limit) ∧ w'.cell? ⟨gp, 7, none⟩ = some (.string d.escrow) ∧ w'.cell? ⟨gn, 1, none⟩ = some (.int .i64 n.num) ∧ w'.cell? ⟨gn, 4, none⟩ = some (.slice (some ad) n.kids.length kc) ∧ w'.cell? (ad.add 0) = some (.int .i64 x) ∧ w'.cell? ad = some (.int .i64 x) ∧ w'.cell? ⟨ad.block, ad.off + 1, none⟩ = some (.int .i64 y) ∧ w'.cell? ⟨ad.block, ad.off + 2, none⟩ = some (.int .i64 z)) (first | exact hcc | exact HC.out _ (by assumption)) (first | (go_at_call 79; refine (HTT.out _ (by assumption) _ _ (by assumption)).mono ?_; rintro e w8 ⟨rfl, hk8⟩)) | fail
  all_goals
   go_wp2_with fail
   go_ret
   refine ⟨ret_val (congrArg Value.string ?_), by first | exact (by assumption : Hp [] W [iblk gn 76 [.int .i64 n.kind, .int .i64 n.num, .string n.name, .string n.attr, .slice (some ad) n.kids.length kc, .int .i64 n.at_], iblk gp 29 (polcs d L)] _).below0 | (subst hgp; exact (by assumption : Hp [] W [iblk gn 76 [.int .i64 n.kind, .int .i64 n.num, .string n.name, .string n.attr, .slice (some ad) n.kids.length kc, .int .i64 n.at_], iblk gp 29 (polcs d L)] _).below0)⟩
   rw [HTX.out]
   apply ByteArray.ext
   try simp only [ByteArray.data_append]
   simp [bs]
 ·as_aux_lemma =>
  obtain ⟨x, ks, hkx, hk1⟩ := vlen2' (l := n.kids) (of_decide_eq_true (by rw [hkind] at hkp; exact hkp))
  have hT9 : nodeW n.kind n.num (tl n.name) (tl n.attr) (n.kids.map tt) = tt x ++ [32, 105, 110, 32, 123] ++ cms (ks.map tt) ++ [125] := by rw [hkind, hkx]; rfl
  have hle := hlen
  rw [hT9] at hle
  try simp only [List.length_append, List.length_cons, List.length_nil] at hle
  have HTX := Lib.hid hT9
  have k0 : W2.cell? ⟨gn, 0, none⟩ = some (.int .i64 8) := by rw [← hkind]; exact (hk2.blk 0 rfl).cell 0
  clear hT9 hlen hkp hcmp
  obtain ⟨ad, rfl, -⟩ := HII.out.at_ 0 x (by rw [hkx]; rfl)
  have HTT : Hid (∀ V, Hp [] W [iblk gn 76 [.int .i64 n.kind, .int .i64 n.num, .string n.name, .string n.attr, .slice (some ad) n.kids.length kc, .int .i64 n.at_], iblk gp 29 (polcs d L)] V → ∀ k t, KT n tt k t → Calls Tryz.prog 79 #[polV d L, .int .i64 k] V fun e w' => e = .returned (.string (bs t)) ∧ Hp [] W [iblk gn 76 [.int .i64 n.kind, .int .i64 n.num, .string n.name, .string n.attr, .slice (some ad) n.kids.length kc, .int .i64 n.at_], iblk gp 29 (polcs d L)] w') := Lib.hid fun V h k t hk => by
   obtain ⟨h1, rfl⟩ := hk
   exact (HT.out k h1 V (HP.out.up h.below0)).mono fun e w' h9 => ⟨h9.1, h.next h9.2⟩
  have HL := Lib.hid (fun V (h : Hp [] W [iblk gn 76 [.int .i64 n.kind, .int .i64 n.num, .string n.name, .string n.attr, .slice (some ad) n.kids.length kc, .int .i64 n.at_], iblk gp 29 (polcs d L)] V) => (vlist_any d L tt ks (by have := hb.kids; rw [hkx, List.length_cons] at this; omega) (some ⟨ad.block, ad.off + 1, none⟩) (kc - 1) V (HP.out.up h.below0) (ints_tail (hkx ▸ HII.out.up h.below0)) (by omega) (fun k hk V' hP' => HT.out k (by rw [hkx]; exact List.mem_cons_of_mem _ hk) V' hP')).mono fun e w' h9 => (⟨h9.1, h.next h9.2⟩ : e = .returned (.string (bs (cms (ks.map tt)))) ∧ Hp [] W [iblk gn 76 [.int .i64 n.kind, .int .i64 n.num, .string n.name, .string n.attr, .slice (some ad) n.kids.length kc, .int .i64 n.at_], iblk gp 29 (polcs d L)] w'))
  have HC : Hid (∀ V, Hp [] W [iblk gn 76 [.int .i64 n.kind, .int .i64 n.num, .string n.name, .string n.attr, .slice (some ad) n.kids.length kc, .int .i64 n.at_], iblk gp 29 (polcs d L)] V → (V.cell? ⟨gp, 0, none⟩ = some (.string d.name) ∧ V.cell? ⟨gp, 1, none⟩ = some (.slice L.ua d.uses.length L.uc) ∧ V.cell? ⟨gp, 2, none⟩ = some (.slice L.ra d.reveal.length L.rc) ∧ V.cell? ⟨gp, 3, none⟩ = some (.slice L.na d.nodes.length L.nc) ∧ V.cell? ⟨gp, 4, none⟩ = some (.int .i64 d.root) ∧ V.cell? ⟨gp, 5, none⟩ = some (.string d.scope) ∧ V.cell? ⟨gp, 6, none⟩ = some (.int .i64 d.limit) ∧ V.cell? ⟨gp, 7, none⟩ = some (.string d.escrow) ∧ V.cell? ⟨gn, 1, none⟩ = some (.int .i64 n.num) ∧ V.cell? ⟨gn, 4, none⟩ = some (.slice (some ad) n.kids.length kc) ∧ V.cell? (ad.add 0) = some (.int .i64 x) ∧ V.cell? ad = some (.int .i64 x))) := Lib.hid fun V h => by
   obtain ⟨a0, a1, a2, a3, a4, a5, a6, a7⟩ := (h.blk 1 rfl).get8
   have c0 : V.cell? ad = some (.int .i64 x) := by
    obtain ⟨ad', e1, e2⟩ := (HII.out.up h.below0).at_ 0 x (by rw [hkx]; rfl)
    cases e1
    exact e2
   exact ⟨a0, a1, a2, a3, a4, a5, a6, a7, (h.blk 0 rfl).cell 1, (h.blk 0 rfl).cell 4, c0, c0⟩
  have hktx : KT n tt x (tt x) := ⟨by rw [hkx]; simp, rfl⟩
  generalize tt x = tx at *
  generalize cms (ks.map tt) = tc at *
  have hkl9 : n.kids.length = ks.length + 1 := by rw [hkx]; rfl
  have hc1 : ¬ kc = 1 := by have := hcap; omega
  have hpos1 : (1 : Int) ≤ (n.kids.length : Int) := by omega
  have hpos2 : (n.kids.length : Int) ≤ (kc : Int) := by have := hcap; omega
  have hsub : n.kids.length - 1 = ks.length := by omega
  have hp1n : 1 ≤ n.kids.length := by omega
  have hp2n : n.kids.length ≤ kc := hcap
  clear hkl9
  have hz1 : ¬ 9223372036854775807 < (bs tx).size + 5 := by (try simp only [size_bs]); omega
  have hz2 : ¬ 9223372036854775807 < (bs tx).size + 5 + (bs tc).size := by (try simp only [size_bs]); omega
  have hz3 : ¬ 9223372036854775807 < (bs tx).size + 5 + (bs tc).size + 1 := by (try simp only [size_bs]); omega
  have hkn0 : 0 < n.kids.length := by rw [hkx]; simp
  have hkl0 : (0 : Int) < (n.kids.length : Int) := by omega
  clear hkx
  go_upto_region 20 with fail
  have hk3 := hk2.drew
  clear hk2
  have hcc := HC.out _ hk3
  first | go_region_held3 (fun w' => w'.cell? ⟨gp, 0, none⟩ = some (.string d.name) ∧ w'.cell? ⟨gp, 1, none⟩ = some (.slice L.ua d.uses.length L.uc) ∧ w'.cell? ⟨gp, 2, none⟩ = some (.slice L.ra d.reveal.length L.rc) ∧ w'.cell? ⟨gp, 3, none⟩ = some (.slice L.na d.nodes.length L.nc) ∧ w'.cell? ⟨gp, 4, none⟩ = some (.int .i64 d.root) ∧ w'.cell? ⟨gp, 5, none⟩ = some (.string d.scope) ∧ w'.cell? ⟨gp, 6, none⟩ = some (.int .i64 d.limit) ∧ w'.cell? ⟨gp, 7, none⟩ = some (.string d.escrow) ∧ w'.cell? ⟨gn, 1, none⟩ = some (.int .i64 n.num) ∧ w'.cell? ⟨gn, 4, none⟩ = some (.slice (some ad) n.kids.length kc) ∧ w'.cell? (ad.add 0) = some (.int .i64 x) ∧ w'.cell? ad = some (.int .i64 x)) (first | exact hcc | exact HC.out _ (by assumption)) (first | (go_at_call 79; refine (HTT.out _ (by assumption) _ _ (by assumption)).mono ?_; rintro e w8 ⟨rfl, hk8⟩) | (go_at_call 168; refine (HL.out _ (by assumption)).mono ?_; rintro e w9 ⟨rfl, hk9⟩)) | fail
  all_goals
   go_wp2_with fail
   go_ret
   refine ⟨ret_val (congrArg Value.string ?_), by first | exact (by assumption : Hp [] W [iblk gn 76 [.int .i64 n.kind, .int .i64 n.num, .string n.name, .string n.attr, .slice (some ad) n.kids.length kc, .int .i64 n.at_], iblk gp 29 (polcs d L)] _).below0 | (subst hgp; exact (by assumption : Hp [] W [iblk gn 76 [.int .i64 n.kind, .int .i64 n.num, .string n.name, .string n.attr, .slice (some ad) n.kids.length kc, .int .i64 n.at_], iblk gp 29 (polcs d L)] _).below0)⟩
   rw [HTX.out]
   apply ByteArray.ext
   try simp only [ByteArray.data_append]
   simp [bs]
 ·as_aux_lemma =>
  have hT9 : nodeW n.kind n.num (tl n.name) (tl n.attr) (n.kids.map tt) = (tl n.name ++ [46] ++ tl n.attr) := by rw [hkind]; rfl
  have hle := hlen
  rw [hT9] at hle
  try simp only [List.length_append, List.length_cons, List.length_nil] at hle
  have HTX := Lib.hid hT9
  have k0 : W2.cell? ⟨gn, 0, none⟩ = some (.int .i64 9) := by rw [← hkind]; exact (hk2.blk 0 rfl).cell 0
  clear hT9 hlen hkp hcmp
  have hzz := hb.name
  have hzy := hb.attr
  have hz1 : ¬ 9223372036854775807 < n.name.size + 1 := by omega
  have hz2 : ¬ 9223372036854775807 < n.name.size + 1 + n.attr.size := by omega
  have k2 : W2.cell? ⟨gn, 2, none⟩ = some (.string n.name) := (hk2.blk 0 rfl).cell 2
  have k3 : W2.cell? ⟨gn, 3, none⟩ = some (.string n.attr) := (hk2.blk 0 rfl).cell 3
  go_wp2_with fail
  go_ret
  refine ⟨ret_val (congrArg Value.string ?_), by first | exact hk2.below0 | (subst hgp; exact hk2.below0)⟩
  rw [HTX.out]
  apply ByteArray.ext
  try simp only [ByteArray.data_append]
  simp [bs, tl]
 ·as_aux_lemma =>
  have hT9 : nodeW n.kind n.num (tl n.name) (tl n.attr) (n.kids.map tt) = (Lib.itoa n.num) := by rw [hkind]; rfl
  have hle := hlen
  rw [hT9] at hle
  try simp only [List.length_append, List.length_cons, List.length_nil] at hle
  have HTX := Lib.hid hT9
  have k0 : W2.cell? ⟨gn, 0, none⟩ = some (.int .i64 10) := by rw [← hkind]; exact (hk2.blk 0 rfl).cell 0
  clear hT9 hlen hkp hcmp
  have HD := Lib.hid (fun V (h : Hp [] W [iblk gn 76 [.int .i64 n.kind, .int .i64 n.num, .string n.name, .string n.attr, .slice KA n.kids.length kc, .int .i64 n.at_], iblk gp 29 (polcs d L)] V) => (vdecimal_any n.num (by omega) (by omega) V).mono fun e w' h9 => (⟨h9.1, h.next h9.2⟩ : e = .returned (.string (bs (Lib.itoa n.num))) ∧ Hp [] W [iblk gn 76 [.int .i64 n.kind, .int .i64 n.num, .string n.name, .string n.attr, .slice KA n.kids.length kc, .int .i64 n.at_], iblk gp 29 (polcs d L)] w'))
  have k2 : W2.cell? ⟨gn, 1, none⟩ = some (.int .i64 n.num) := (hk2.blk 0 rfl).cell 1
  have HA := Lib.hid (HD.out _ hk2)
  clear HD
  go_wp2_with fail
  refine HA.out.mono ?_
  rintro e w5 ⟨rfl, hk5⟩
  clear HA
  go_wp2_with fail
  go_ret
  exact ⟨ret_val (congrArg Value.string (congrArg bs HTX.out.symm)), by first | exact hk5.below0 | (subst hgp; exact hk5.below0)⟩
 ·as_aux_lemma =>
  have hT9 : nodeW n.kind n.num (tl n.name) (tl n.attr) (n.kids.map tt) = ([39] ++ tl n.name ++ [39]) := by rw [hkind]; rfl
  have hle := hlen
  rw [hT9] at hle
  try simp only [List.length_append, List.length_cons, List.length_nil] at hle
  have HTX := Lib.hid hT9
  have k0 : W2.cell? ⟨gn, 0, none⟩ = some (.int .i64 11) := by rw [← hkind]; exact (hk2.blk 0 rfl).cell 0
  clear hT9 hlen hkp hcmp
  have hzz := hb.name
  have hz1 : ¬ 9223372036854775807 < 1 + n.name.size := by omega
  have hz2 : ¬ 9223372036854775807 < 1 + n.name.size + 1 := by omega
  have k2 : W2.cell? ⟨gn, 2, none⟩ = some (.string n.name) := (hk2.blk 0 rfl).cell 2
  go_wp2_with fail
  go_ret
  refine ⟨ret_val (congrArg Value.string ?_), by first | exact hk2.below0 | (subst hgp; exact hk2.below0)⟩
  rw [HTX.out]
  apply ByteArray.ext
  try simp only [ByteArray.data_append]
  simp [bs, tl]
end Go.Proofs.YtogmhaihmkcjgaaGreatDoor
-- halved
