/- normal: norm is nrm. -/
import Derived.Test.YtekkapgknohadaaGreatDoorM45
set_option linter.unusedVariables false
namespace Go.Proofs.YtekkapgknohadaaGreatDoor.Nf
open Go.RowKit Go.Shelf
open Lib (hid)
open Pa (F Nd)
theorem nrm_node {ns : List Nk} {Lk : Look} {f i : Nat} {n : Nk} {c : Bool} (hn : ns[i]? = some n) (hk : ∀ k ∈ n.kids, Pa.VN ns f c k) (g : Bool) : nrm Lk (Pa.treeN ns (f + 1) (i : Int)) g = one Lk (ndOf n) (za3 ns n.kids) (nrm Lk (F.cat (n.kids.map (Pa.treeN ns f))) g) (nrm Lk (F.cat (n.kids.map (Pa.treeN ns f))) !g) g := by
 rw [Pa.treeN_in (by rw [Int.toNat_natCast]; exact hn), nrm, vals_cat hk, show nrm Lk .nil g = .nil from rfl, F.app_nil]
 rfl
theorem tree_size {ns : List Nk} {f i : Nat} {n : Nk} (hn : ns[i]? = some n) : (Pa.treeN ns (f + 1) (i : Int)).size = (F.cat (n.kids.map (Pa.treeN ns f))).size + 1 := by
 rw [Pa.treeN_in (by rw [Int.toNat_natCast]; exact hn)]
 show _ + 0 + 1 = _
 omega
theorem kids_le {ns : List Nk} {f : Nat} {c : Bool} {l : List Int} (hk : ∀ k ∈ l, Pa.VN ns f c k) : l.length ≤ (F.cat (l.map (Pa.treeN ns f))).size := by
 have h1 := cat_len hk
 have h2 := F.len_size (F.cat (l.map (Pa.treeN ns f)))
 omega
theorem size_mem {t : Int → F} : ∀ {l : List Int} {k : Int}, k ∈ l → (t k).size ≤ (F.cat (l.map t)).size
 | x :: l, k, h => by
   rw [List.map_cons, F.cat, F.size_app]
   rcases List.mem_cons.1 h with rfl | h
   ·omega
   ·have := size_mem (t := t) h
    omega
theorem one_const {L : Look} {x : Nd} {vs : List Nd} {kg kn : F} {g : Bool} (h : x.kind = 0 ∨ x.kind = 1) : one L x vs kg kn g = tru (decide (x.kind = 0) != g) := by unfold one; rw [if_pos h]
theorem one_not {L : Look} {x : Nd} {vs : List Nd} {kg kn : F} {g : Bool} (h : x.kind = 2) : one L x vs kg kn g = kn := by unfold one; rw [if_neg (by omega), if_pos h]
theorem one_cmp {L : Look} {x a b : Nd} {kg kn : F} {g : Bool} (h : x.kind = 6) : one L x [a, b] kg kn g = cmpd L g x.num a b := by unfold one; rw [if_neg (by omega), if_neg (by omega), if_pos h]
theorem one_btw {L : Look} {x a b z : Nd} {kg kn : F} {g : Bool} (h : x.kind = 7) : one L x [a, b, z] kg kn g = btwF L g a b z := by unfold one; rw [if_neg (by omega), if_neg (by omega), if_neg (by omega), if_pos h]; rfl
theorem one_in {L : Look} {x a : Nd} {r : List Nd} {kg kn : F} {g : Bool} (h : x.kind = 8) : one L x (a :: r) kg kn g = ofT g 1 (F.cat (r.map (cmpd L g 0 a))) := by unfold one; rw [if_neg (by omega), if_neg (by omega), if_neg (by omega), if_neg (by omega), if_pos h]
theorem one_all {L : Look} {x : Nd} {vs : List Nd} {kg kn : F} {g : Bool} (h : x.kind = 3) : one L x vs kg kn g = ofT g kg.len kg := by unfold one; rw [if_neg (by omega), if_neg (by omega), if_neg (by omega), if_neg (by omega), if_neg (by omega), if_pos h]
theorem one_any {L : Look} {x : Nd} {vs : List Nd} {kg kn : F} {g : Bool} (h : x.kind = 4) : one L x vs kg kn g = ofT g 1 kg := by unfold one; rw [if_neg (by omega), if_neg (by omega), if_neg (by omega), if_neg (by omega), if_neg (by omega), if_neg (by omega), if_pos h]
theorem one_least {L : Look} {x : Nd} {vs : List Nd} {kg kn : F} {g : Bool} (h : x.kind = 5) : one L x vs kg kn g = ofT g x.num kg := by unfold one; rw [if_neg (by omega), if_neg (by omega), if_neg (by omega), if_neg (by omega), if_neg (by omega), if_neg (by omega), if_neg (by omega)]
theorem mnorm_any {d : Po} {L : Lp} {A : Option Addr} {c : Nat} {S : List Sm} {w0 : World} (E : Env w0 d L A c S) (hR : za9 chkB S d = true) : ∀ (f : Nat) (a : Int), Pa.VN d.nodes f true a → WfP d.nodes f a → tyF (lookS S d.uses) (Pa.treeN d.nodes f a) = true → (Pa.treeN d.nodes f a).size ≤ 2000 → ∀ (g : Bool) (w : World), Below w0.heap.size w0 w → ∀ B, B ≤ w.heap.size →
 Calls Tryz.prog 30 #[fitV d L A S.length c, .int .i64 a, .bool g] w fun e w' => (∃ v, e = .returned v ∧ CvM B w' (nrm (lookS S d.uses) (Pa.treeN d.nodes f a) g) [v]) ∧ Below w.heap.size w w' := by
 intro f
 induction f with
 | zero => intro a h; exact h.elim
 | succ f ih =>
 intro a hv hw hT hs g w h0 B hBs
 obtain ⟨i, n, rfl, hn, hF, hks⟩ := vn_at hv hw
 have hvn : ∀ k ∈ n.kids, Pa.VN d.nodes f (decide (n.kind ≤ 5)) k := fun k hk => (hks k hk).1
 rw [ty_node hn hvn, Bool.and_eq_true] at hT
 obtain ⟨hc, ht⟩ := hT
 have hkt := List.all_eq_true.1 ht
 rw [tree_size hn] at hs
 have hkl := kids_le hvn
 have hsm := fun k (hk : k ∈ n.kids) => size_mem (t := Pa.treeN d.nodes f) hk
 have hlo := hF.lo
 have h8 : n.kind ≤ 8 := by have := hF.ctx; simpa using this
 have hkd := hF.kids
 have hlow := hF.low
 have hhigh := hF.high
 rw [nrm_node hn hvn g]
 have hkn : ∀ m : Nat, n.kind = (m : Int) → (ndOf n).kind = m := fun m h => (zas hlo m).2 h
 have hgate : n.kind ≤ 5 → ∀ k ∈ n.kids, ∀ g W, Below w0.heap.size w0 W → ∀ B, B ≤ W.heap.size → Calls Tryz.prog 30 #[fitV d L A S.length c, .int .i64 k, .bool g] W fun e w' => (∃ v, e = .returned v ∧ CvM B w' (nrm (lookS S d.uses) (Pa.treeN d.nodes f k) g) [v]) ∧ Below W.heap.size W w' := fun h5 k hk g W hW B hB => by
  have h1 := hks k hk
  rw [decide_eq_true h5] at h1
  exact ih k h1.1 h1.2 (hkt k hk) (by have := hsm k hk; omega) g W hW B hB
 have hval : ¬ n.kind ≤ 5 → ∀ k ∈ n.kids, Pa.VN d.nodes f false k ∧ WfP d.nodes f k := fun h5 k hk => by
  have h1 := hks k hk
  rw [decide_eq_false h5] at h1
  exact h1
 have hcat : ∀ g, nrm (lookS S d.uses) (F.cat (n.kids.map (Pa.treeN d.nodes f))) g = F.cat (n.kids.map fun k => nrm (lookS S d.uses) (Pa.treeN d.nodes f k) g) := fun g => by rw [nrm_cat, List.map_map]; rfl
 have hsz : ∀ g, (F.cat (n.kids.map fun k => nrm (lookS S d.uses) (Pa.treeN d.nodes f k) g)).size ≤ 100000 := fun g => by
  rw [← hcat]
  have := nrm_size (lookS S d.uses) (F.cat (n.kids.map (Pa.treeN d.nodes f))) g
  omega
 unfold lowP at hlow
 unfold highP at hhigh
 unfold kidsP at hkd
 rcases (by omega : n.kind = 0 ∨ n.kind = 1 ∨ n.kind = 2 ∨ n.kind = 3 ∨ n.kind = 4 ∨ n.kind = 5 ∨ n.kind = 6 ∨ n.kind = 7 ∨ n.kind = 8) with h | h | h | h | h | h | h | h | h
 ·rw [one_const (.inl (hkn 0 h)), decide_eq_true (hkn 0 h)]
  exact zb0 E hR i n hn g w h0 B hBs _ (hid (.k0 h))
 ·rw [one_const (.inr (hkn 1 h)), decide_eq_false (by rw [hkn 1 h]; decide)]
  exact zb0 E hR i n hn g w h0 B hBs _ (hid (.k1 h))
 ·have h1 : n.kids.length = 1 := by simpa [h] using hkd
  obtain ⟨k0, hk0⟩ := List.length_eq_one_iff.1 h1
  rw [one_not (hkn 2 h)]
  have hT9 : nrm (lookS S d.uses) (F.cat (n.kids.map (Pa.treeN d.nodes f))) (!g) = nrm (lookS S d.uses) (Pa.treeN d.nodes f k0) (!g) := by
   rw [hk0, List.map_cons, List.map_nil, F.cat, F.cat, F.app_nil]
  rw [hT9]
  exact zb0 E hR i n hn g w h0 B hBs _ (hid (.k2 h k0 hk0 (fun g => nrm (lookS S d.uses) (Pa.treeN d.nodes f k0) g) (fun g W hW B hB => hgate (by omega) k0 (by rw [hk0]; exact List.mem_cons_self ..) g W hW B hB)))
 ·rw [one_all (hkn 3 h), hcat]
  have := zb0 E hR i n hn g w h0 B hBs _ (hid (.kg (.inl h) (fun k => nrm (lookS S d.uses) (Pa.treeN d.nodes f k) g) ⟨by omega, hsz g⟩ (by rw [h] at hlow hhigh; simp at hlow hhigh; omega) (fun k hk W hW B hB => hgate (by omega) k hk g W hW B hB)))
  unfold numG at this
  rw [if_pos h] at this
  exact this
 ·rw [one_any (hkn 4 h), hcat]
  have := zb0 E hR i n hn g w h0 B hBs _ (hid (.kg (.inr (.inl h)) (fun k => nrm (lookS S d.uses) (Pa.treeN d.nodes f k) g) ⟨by omega, hsz g⟩ (by rw [h] at hlow hhigh; simp at hlow hhigh; omega) (fun k hk W hW B hB => hgate (by omega) k hk g W hW B hB)))
  unfold numG at this
  rw [if_neg (by omega), if_pos h] at this
  exact this
 ·rw [one_least (hkn 5 h), hcat]
  have := zb0 E hR i n hn g w h0 B hBs _ (hid (.kg (.inr (.inr h)) (fun k => nrm (lookS S d.uses) (Pa.treeN d.nodes f k) g) ⟨by omega, hsz g⟩ (by rw [h] at hlow hhigh; simp at hlow hhigh; omega) (fun k hk W hW B hB => hgate (by omega) k hk g W hW B hB)))
  unfold numG at this
  rw [if_neg (by omega), if_neg (by omega)] at this
  exact this
 ·have h1 : n.kids.length = 2 := by simpa [h] using hkd
  obtain ⟨k0, k1, hk0⟩ : ∃ a b, n.kids = [a, b] := by
   match hl : n.kids, h1 with
   | [a, b], _ => exact ⟨a, b, rfl⟩
  have hvl := hval (by omega)
  obtain ⟨ix, a, ha, e1, na⟩ := kid_of hvl (i := 0) (k := k0) (by rw [hk0]; rfl)
  obtain ⟨jx, b, hb, e2, nb⟩ := kid_of hvl (i := 1) (k := k1) (by rw [hk0]; rfl)
  have hkk : za3 d.nodes n.kids = [ndOf a, ndOf b] := by rw [hk0]; simp only [za3, List.map_cons, List.map_nil, na, nb]
  rw [hkk] at hc ⊢
  rw [one_cmp (hkn 6 h)]
  exact zb0 E hR i n hn g w h0 B hBs _ (hid (.k6 h (by rw [h] at hlow; simpa using hlow) (by rw [h] at hhigh; simpa using hhigh) ix jx a b ha hb (pr6 (hkn 6 h) ha.v hb.v hc)))
 ·have h1 : n.kids.length = 3 := by simpa [h] using hkd
  obtain ⟨k0, k1, k2, hk0⟩ : ∃ a b c, n.kids = [a, b, c] := by
   match hl : n.kids, h1 with
   | [a, b, c], _ => exact ⟨a, b, c, rfl⟩
  have hvl := hval (by omega)
  obtain ⟨ix, a, ha, e1, na⟩ := kid_of hvl (i := 0) (k := k0) (by rw [hk0]; rfl)
  obtain ⟨jx, b, hb, e2, nb⟩ := kid_of hvl (i := 1) (k := k1) (by rw [hk0]; rfl)
  obtain ⟨zx, z, hz, e3, nz⟩ := kid_of hvl (i := 2) (k := k2) (by rw [hk0]; rfl)
  have hkk : za3 d.nodes n.kids = [ndOf a, ndOf b, ndOf z] := by rw [hk0]; simp only [za3, List.map_cons, List.map_nil, na, nb, nz]
  rw [hkk] at hc ⊢
  rw [one_btw (hkn 7 h)]
  have hp := fun q => pr7 (hkn 7 h) ha.v hb.v hz.v hc q
  exact zb0 E hR i n hn g w h0 B hBs _ (hid (.k7 h ix jx zx a b z ha hb hz (fun q => (hp q).1) (fun q => (hp q).2.1) (fun h9 => ref_some ha.a0 h9 (by
   have := (hp 0).2.2
   unfold numTy at this
   cases e : tyOf (lookS S d.uses) (ndOf a) with
   | none => rw [e] at this; cases this
   | some t => rfl))))
 ·have h1 : 2 ≤ n.kids.length := by simpa [h] using hkd
  obtain ⟨k0, ks, hk0⟩ : ∃ a r, n.kids = a :: r := by
   match hl : n.kids, h1 with
   | a :: r, _ => exact ⟨a, r, rfl⟩
  have hvl := hval (by omega)
  obtain ⟨ix, a, ha, e1, na⟩ := kid_of hvl (i := 0) (k := k0) (by rw [hk0]; rfl)
  have hkk : za3 d.nodes n.kids = ndOf a :: (za3 d.nodes n.kids).drop 1 := by rw [hk0]; simp only [za3, List.map_cons, List.drop_succ_cons, List.drop_zero, na]
  have hc2 := hc
  rw [hkk] at hc2 ⊢
  rw [one_in (hkn 8 h)]
  have hpr := pr8 (hkn 8 h) ha.v (r := (za3 d.nodes n.kids).drop 1) (fun y hy => by
   have hy2 : y ∈ za3 d.nodes n.kids := List.mem_of_mem_drop hy
   obtain ⟨k, hk, rfl⟩ := List.mem_map.1 hy2
   obtain ⟨j, hj⟩ := List.mem_iff_getElem?.1 hk
   obtain ⟨jx, b, hb, -, nb⟩ := kid_of hvl hj
   rw [nb]; exact hb.v) hc2
  have hdd : (ndOf a :: (za3 d.nodes n.kids).drop 1).drop 1 = (za3 d.nodes n.kids).drop 1 := rfl
  refine zb0 E hR i n hn g w h0 B hBs _ (hid (.k8 h ix a ⟨h1, by omega⟩ ha (fun j hj1 hjl => ?_)))
  obtain ⟨k, hk⟩ : ∃ k, n.kids[j]? = some k := ⟨_, List.getElem?_eq_getElem hjl⟩
  obtain ⟨jx, b, hb, -, nb⟩ := kid_of hvl hk
  have hkj : (za3 d.nodes n.kids)[j]? = some (ndOf b) := by rw [List.getElem?_map, hk, Option.map_some, nb]
  refine ⟨jx, b, hb, hkj, hpr _ (List.mem_of_getElem? (i := j - 1) ?_)⟩
  rw [List.getElem?_drop, show 1 + (j - 1) = j by omega]
  exact hkj
end Go.Proofs.YtekkapgknohadaaGreatDoor.Nf
