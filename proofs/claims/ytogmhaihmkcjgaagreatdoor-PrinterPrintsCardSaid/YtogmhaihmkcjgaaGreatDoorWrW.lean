/-
 dominoref43.list.
-/
import Derived.Test.YtogmhaihmkcjgaaGreatDoorWrV
import Derived.Test.YtogmhaihmkcjgaaGreatDoorPcH
import Derived.Deep.LoopGhost
namespace Go.Proofs.YtogmhaihmkcjgaaGreatDoor
open Go.RowKit Go.Shelf
set_option linter.unusedVariables false
set_option linter.unusedSimpArgs false

/-- a node's text by the reference -/
def VText (d : Po) (L : Lp) (k : Int) (t : List UInt8) : Prop := ∀ V, PolM V d L → Calls Tryz.prog 79 #[polV d L, .int .i64 k] V fun e w' => e = .returned (.string (bs t)) ∧ Below V.heap.size V w'
theorem vba3 (a t : List UInt8) : bs a ++ (⟨#[44, 32]⟩ : ByteArray) ++ bs t = bs (a ++ ([44, 32] ++ t)) := by
 apply ByteArray.ext
 rw [ByteArray.data_append, ByteArray.data_append]; simp [bs]
theorem vba2 (a t : List UInt8) : bs a ++ bs t = bs (a ++ t) := by
 apply ByteArray.ext
 rw [ByteArray.data_append]; simp [bs]
theorem cms_take (tt : Int → List UInt8) {ks : List Int} {i : Nat} {x : Int} (h : ks[i]? = some x) : cms ((ks.take (i + 1)).map tt) = if i = 0 then tt x else cms ((ks.take i).map tt) ++ ([44, 32] ++ tt x) := by
 rw [take_at h, List.map_append, List.map_singleton, commas_snoc]
 have hl := (List.getElem?_eq_some_iff.1 h).1
 by_cases h0 : i = 0
 ·subst h0; rw [if_pos (by simp), if_pos rfl]
 ·rw [if_neg h0, if_neg]
  intro h9
  have := congrArg List.length h9
  simp only [List.length_map, List.length_take, List.length_nil] at this
  omega
theorem cms_prefix (tt : Int → List UInt8) (ks : List Int) : ∀ j, j ≤ ks.length → (cms ((ks.take j).map tt)).length ≤ (cms (ks.map tt)).length := by
 have step : ∀ m, m < ks.length → (cms ((ks.take m).map tt)).length ≤ (cms ((ks.take (m + 1)).map tt)).length := fun m hm => by
  rw [cms_take tt (List.getElem?_eq_getElem hm)]
  by_cases h0 : m = 0
  ·subst h0; simp [cms]
  ·rw [if_neg h0, List.length_append]; omega
 have key : ∀ m j, j + m = ks.length → (cms ((ks.take j).map tt)).length ≤ (cms (ks.map tt)).length := by
  intro m
  induction m with
  | zero => intro j hj; rw [List.take_of_length_le (by omega)]; exact Nat.le_refl _
  | succ m ih => intro j hj; exact Nat.le_trans (step j (by omega)) (ih (j + 1) (by omega))
 exact fun j hj => key (ks.length - j) j (by omega)
set_option maxRecDepth 20000 in
set_option maxHeartbeats 8000000 in
theorem vlist_any (d : Po) (L : Lp) (tt : Int → List UInt8) (ks : List Int) (hks : ks.length ≤ 1000000) (A : Option Addr) (c : Nat) (W : World) (hP : PolM W d L) (hI : Ints W A ks) (hlen : (cms (ks.map tt)).length ≤ 1000000) (hT : ∀ k ∈ ks, VText d L k (tt k)) :
  Calls Tryz.prog 168 #[polV d L, .slice A ks.length c] W fun e w' => e = .returned (.string (bs (cms (ks.map tt)))) ∧ Below W.heap.size W w' := by
 have hk0 := (Hp.start W).new 29 (polcs d L)
 obtain ⟨g, hg⟩ : ∃ x, W.heap.size = x := ⟨_, rfl⟩
 rw [hg] at hk0
 have HT := Lib.hid hT
 have HP := Lib.hid hP
 have HII := Lib.hid hI
 clear hT hP hI
 go_enter Tryz.func168, Tryz.ntmps168
 go_upto_region 1 with fail
 try simp only [hg]
 have hk1 : Hp [] W [iblk g 29 (polcs d L)] (W.alloc (.cells #[.string d.name, .slice L.ua d.uses.length L.uc, .slice L.ra d.reveal.length L.rc, .slice L.na d.nodes.length L.nc, .int .i64 d.root, .string d.scope, .int .i64 d.limit, .string d.escrow] 29)) := hk0
 clear hk0
 generalize W.alloc (.cells #[.string d.name, .slice L.ua d.uses.length L.uc, .slice L.ra d.reveal.length L.rc, .slice L.na d.nodes.length L.nc, .int .i64 d.root, .string d.scope, .int .i64 d.limit, .string d.escrow] 29) = W1 at *
 go_upto_region 3 with fail
 go_loopg [5, 6] ks.length (fun m s5 s6 wx => ∃ i : Nat, i ≤ ks.length ∧ m = ks.length - i ∧ s5 = .string (bs (cms ((ks.take i).map tt))) ∧ s6 = .int .i64 (i : Int) ∧ Hp [] W [iblk g 29 (polcs d L)] wx)
 case atStart => exact ⟨0, Nat.zero_le _, rfl, rfl, rfl, hk1⟩
 case round =>
  obtain ⟨i, hi, rfl, rfl, rfl, hM⟩ := hrel
  clear hk1
  by_cases hil : i < ks.length
  ·have hii : (i : Int) < (ks.length : Int) := by omega
   have hi0 : (0 : Int) ≤ (i : Int) := by omega
   have hw3 : IntKind.i64.wrap ((i : Int) + 1) = ((i + 1 : Nat) : Int) := IntWalk.i64_in _ (by omega)
   obtain ⟨x, hx⟩ : ∃ x, ks[i]? = some x := ⟨_, List.getElem?_eq_getElem hil⟩
   have HTX := Lib.hid (HT.out x (List.mem_of_getElem? hx))
   have HTK := Lib.hid (cms_take tt hx)
   have hpre := cms_prefix tt ks (i + 1) hil
   obtain ⟨ad, rfl, -⟩ := HII.out.at_ i x hx
   have HC : Hid (∀ V, Hp [] W [iblk g 29 (polcs d L)] V → (V.cell? ⟨g, 0, none⟩ = some (.string d.name) ∧ V.cell? ⟨g, 1, none⟩ = some (.slice L.ua d.uses.length L.uc) ∧ V.cell? ⟨g, 2, none⟩ = some (.slice L.ra d.reveal.length L.rc) ∧ V.cell? ⟨g, 3, none⟩ = some (.slice L.na d.nodes.length L.nc) ∧ V.cell? ⟨g, 4, none⟩ = some (.int .i64 d.root) ∧ V.cell? ⟨g, 5, none⟩ = some (.string d.scope) ∧ V.cell? ⟨g, 6, none⟩ = some (.int .i64 d.limit) ∧ V.cell? ⟨g, 7, none⟩ = some (.string d.escrow)) ∧ V.cell? (ad.add i) = some (.int .i64 x)) := Lib.hid fun V h => by
    refine ⟨(h.blk 0 rfl).get8, ?_⟩
    obtain ⟨ad', e1, e2⟩ := (HII.out.up h.below0).at_ i x hx
    cases e1
    exact e2
   clear hx
   generalize hacc : cms ((ks.take i).map tt) = acc at *
   generalize tt x = tx at *
   by_cases h0 : i = 0
   ·have hac : acc = [] := by rw [← hacc, h0]; rfl
    subst hac
    have HE : Hid (cms ((ks.take (i + 1)).map tt) = [] ++ tx) := Lib.hid (by rw [HTK.out, if_pos h0]; rfl)
    have hla : tx.length ≤ 1000000 := by
     have := congrArg List.length HE.out
     simp only [List.length_append, List.length_nil] at this
     omega
    have hj2 : ¬ 0 < i := by omega
    have hj1 : ¬ (0 : Int) < (i : Int) := by omega
    have hz2 : ¬ 9223372036854775807 < (bs []).size + (bs tx).size := by rw [size_bs, size_bs]; simp; omega
    obtain ⟨em, hem⟩ : ∃ x, bs [] = x := ⟨_, rfl⟩
    have HEM := Lib.hid hem
    rw [hem] at hz2
    try rw [hem]
    clear HTK h0 hpre hem hacc
    go_upto_region 7 with fail
    have hMd := hM.drew
    clear hM
    have hcc := HC.out _ hMd
    have HA := Lib.hid (HTX.out _ (HP.out.up hMd.below0))
    go_region_held3 (fun w' => (w'.cell? ⟨g, 0, none⟩ = some (.string d.name) ∧ w'.cell? ⟨g, 1, none⟩ = some (.slice L.ua d.uses.length L.uc) ∧ w'.cell? ⟨g, 2, none⟩ = some (.slice L.ra d.reveal.length L.rc) ∧ w'.cell? ⟨g, 3, none⟩ = some (.slice L.na d.nodes.length L.nc) ∧ w'.cell? ⟨g, 4, none⟩ = some (.int .i64 d.root) ∧ w'.cell? ⟨g, 5, none⟩ = some (.string d.scope) ∧ w'.cell? ⟨g, 6, none⟩ = some (.int .i64 d.limit) ∧ w'.cell? ⟨g, 7, none⟩ = some (.string d.escrow)) ∧ w'.cell? (ad.add i) = some (.int .i64 x)) (first | exact hcc | exact HC.out _ hM2)
     (first | (go_at_call 79; refine HA.out.mono ?_; rintro e w8 ⟨rfl, hb8⟩; have hM2 := hMd.next hb8))
    go_wp2_with fail
    go_roundg (ks.length - (i + 1))
    case measure => omega
    case rel => exact ⟨i + 1, hil, rfl, by rw [HE.out, ← vba2, HEM.out], by first | rfl | simp, hM2⟩
   ·have hj1 : (0 : Int) < (i : Int) := by omega
    have hj2 : 0 < i := by omega
    have HE : Hid (cms ((ks.take (i + 1)).map tt) = acc ++ ([44, 32] ++ tx)) := Lib.hid (by rw [HTK.out, if_neg h0])
    have hla : acc.length + 2 + tx.length ≤ 1000000 := by
     have := congrArg List.length HE.out
     simp only [List.length_append, List.length_cons, List.length_nil] at this
     omega
    have hz1 : ¬ 9223372036854775807 < (bs acc).size + 2 := by rw [size_bs]; omega
    have hz2 : ¬ 9223372036854775807 < (bs acc).size + 2 + (bs tx).size := by rw [size_bs, size_bs]; omega
    clear HTK h0 hpre hacc
    go_upto_region 7 with fail
    have hMd := hM.drew
    clear hM
    have hcc := HC.out _ hMd
    have HA := Lib.hid (HTX.out _ (HP.out.up hMd.below0))
    go_region_held3 (fun w' => (w'.cell? ⟨g, 0, none⟩ = some (.string d.name) ∧ w'.cell? ⟨g, 1, none⟩ = some (.slice L.ua d.uses.length L.uc) ∧ w'.cell? ⟨g, 2, none⟩ = some (.slice L.ra d.reveal.length L.rc) ∧ w'.cell? ⟨g, 3, none⟩ = some (.slice L.na d.nodes.length L.nc) ∧ w'.cell? ⟨g, 4, none⟩ = some (.int .i64 d.root) ∧ w'.cell? ⟨g, 5, none⟩ = some (.string d.scope) ∧ w'.cell? ⟨g, 6, none⟩ = some (.int .i64 d.limit) ∧ w'.cell? ⟨g, 7, none⟩ = some (.string d.escrow)) ∧ w'.cell? (ad.add i) = some (.int .i64 x)) (first | exact hcc | exact HC.out _ hM2)
     (first | (go_at_call 79; refine HA.out.mono ?_; rintro e w8 ⟨rfl, hb8⟩; have hM2 := hMd.next hb8))
    go_wp2_with fail
    go_roundg (ks.length - (i + 1))
    case measure => omega
    case rel => exact ⟨i + 1, hil, rfl, by rw [HE.out, ← vba3], by first | rfl | simp, hM2⟩
  ·have hii : ¬ (i : Int) < (ks.length : Int) := by omega
   have HX : Hid ((ks.map tt).take i = ks.map tt) := Lib.hid (List.take_of_length_le (by rw [List.length_map]; omega))
   go_wp2_with fail
   go_ret
   rw [HX.out]
   exact ⟨rfl, by first | exact hM.below0 | (subst hg; exact hM.below0)⟩
end Go.Proofs.YtogmhaihmkcjgaaGreatDoor
-- halved
