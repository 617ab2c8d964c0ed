/-
 dominoref06.Decimal; dominoref43: decimal, sign.
-/
import Derived.Test.YtogmhaihmkcjgaaGreatDoorWrX
import Derived.Lib.ItoaNum
import Derived.Deep.DeepMust
namespace Go.Proofs.YtogmhaihmkcjgaaGreatDoor
open Go.RowKit Go.Shelf Go.Sort
set_option linter.unusedVariables false
set_option linter.unusedSimpArgs false

theorem vbs_app (l m : List UInt8) : (bs l) ++ (bs m) = bs (l ++ m) := by
 apply ByteArray.ext
 rw [ByteArray.data_append]; simp [bs]
theorem vdec_len10 (n : Nat) (h : n < 100000000000) : (Lib.decDigits n).length ≤ 11 := by
 have key : ∀ (k n : Nat), n < 10 ^ (k + 1) → (Lib.decDigits n).length ≤ k + 1 := by
  intro k
  induction k with
  | zero => intro n h; rw [Lib.decDigits, dif_pos (by omega)]; simp
  | succ k ih =>
   intro n h
   rw [Lib.decDigits]
   split
   ·simp
   ·have := ih (n / 10) (by rw [Nat.pow_succ] at h; omega)
    simp only [List.length_append, List.length_cons, List.length_nil]
    omega
 exact key 10 n h
def vdgLit : ByteArray := ⟨#[48, 49, 50, 51, 52, 53, 54, 55, 56, 57]⟩
theorem vdg_ext : ∀ m, m < 10 → vdgLit.extract m (m + 1) = bs (Lib.decDigits m) := by
 intro m h
 rcases (by omega : m = 0 ∨ m = 1 ∨ m = 2 ∨ m = 3 ∨ m = 4 ∨ m = 5 ∨ m = 6 ∨ m = 7 ∨ m = 8 ∨ m = 9) with rfl | rfl | rfl | rfl | rfl | rfl | rfl | rfl | rfl | rfl <;> (rw [Lib.decDigits]; decide +kernel)
set_option maxRecDepth 20000 in
set_option maxHeartbeats 4000000 in
theorem vdec_any : ∀ (n : Nat), n < 100000000000 → ∀ (w : World), Calls Tryz.prog 170 #[.int .i64 (n : Int)] w fun e w' => e = .returned (Sv (Lib.decDigits n)) ∧ Below w.heap.size w w' := by
 intro n
 induction n using Nat.strongRecOn with
 | _ n ih =>
  intro hn w
  have h0 : ¬ (n : Int) < 0 := by omega
  by_cases h : n < 10
  ·have hi : (n : Int) < 10 := by omega
   have HX := Lib.hid (vdg_ext n h)
   go_enter Tryz.func170, Tryz.ntmps170
   go_wp2_with fail
   go_ret
   exact ⟨ret_val (congrArg Value.string HX.out), Below.refl _ _⟩
  ·have hi : ¬ (n : Int) < 10 := by omega
   have HC1 := Lib.hid (fun W => ih (n / 10) (by omega) (by omega) W)
   have HX := Lib.hid (vdg_ext (n % 10) (by omega))
   have hd : ((n : Int).tdiv 10) = ((n / 10 : Nat) : Int) := rfl
   have hm : ((n : Int).tmod 10) = ((n % 10 : Nat) : Int) := rfl
   have HD : Hid (Lib.decDigits n = Lib.decDigits (n / 10) ++ Lib.decDigits (n % 10)) := by
    refine Lib.hid ?_
    rw [Lib.decDigits, dif_neg h]
    congr 1
    rw [Lib.decDigits, dif_pos (by omega)]
   have hl1 := vdec_len10 (n / 10) (by omega)
   have hq : (n : Int) / 10 = ((n / 10 : Nat) : Int) := by omega
   have hwq : IntKind.i64.wrap ((n : Int) / 10) = ((n / 10 : Nat) : Int) := by rw [hq]; exact IntWalk.i64_in _ (by omega)
   have hwt : IntKind.i64.wrap ((n : Int).tdiv 10) = ((n / 10 : Nat) : Int) := by rw [hd]; exact IntWalk.i64_in _ (by omega)
   obtain ⟨q, hqq⟩ : ∃ q, n / 10 = q := ⟨_, rfl⟩
   obtain ⟨r, hrr⟩ : ∃ r, n % 10 = r := ⟨_, rfl⟩
   have hr9 : (r : Int) < 10 := by omega
   have hr0 : (0 : Int) ≤ (r : Int) := by omega
   have hr1 : IntKind.i64.wrap ((r : Int) + 1) = ((r + 1 : Nat) : Int) := IntWalk.i64_in _ (by omega)
   have hrw : IntKind.i64.wrap (r : Int) = ((r : Nat) : Int) := IntWalk.i64_in _ (by omega)
   have hs1 : (0 : Int) ≤ (r : Int) + 1 := by omega
   have hs2 : (r : Int) + 1 ≤ 10 := by omega
   have hs3 : (r : Int) ≤ (r : Int) + 1 := by omega
   have hqw : IntKind.i64.wrap (q : Int) = ((q : Nat) : Int) := IntWalk.i64_in _ (by omega)
   rw [hqq] at HC1 hd HD hl1 hwq hwt hq
   rw [hrr] at HX hm HD
   clear ih h hqq hrr
   have hcat : ¬ 9223372036854775807 < (bs (Lib.decDigits q)).size + (min (r + 1) 10 - r) := by
    have : (bs (Lib.decDigits q)).size = (Lib.decDigits q).length := by simp [bs, ByteArray.size]
    omega
   go_enter Tryz.func170, Tryz.ntmps170
   go_upto_region 8 with fail
--BEGIN8
   refine wp_region_held_drew (S := (fun _ => True)) (by kernel_rfl) ?_ (fun hHeld => ?_)
   ·trivial
   refine wpAnyH_take (i := 0) (v := ?_) rfl (by kernel_rfl) (by kernel_rfl) (by kernel_rfl) (fun _ _ _ h => h) (Or.inl ⟨by rfl, ?_⟩) (by assumption) ?_
   rotate_left
   ·(intro w hSw; (try dsimp only at hSw); (try obtain ⟨hSw1, hSw2⟩ := hSw); go_simp; (try with_reducible rfl))
   try simp only [Act.put, List.getElem_toArray, List.getElem_cons_zero, List.setIfInBounds_toArray, List.set_cons_zero, List.set_cons_succ]
   refine wpAnyH_take (i := 1) (v := ?_) rfl (by kernel_rfl) (by kernel_rfl) (by kernel_rfl) (fun _ _ _ h => h) (Or.inl ⟨by rfl, ?_⟩) (by assumption) ?_
   rotate_left
   ·(intro w hSw; (try dsimp only at hSw); (try obtain ⟨hSw1, hSw2⟩ := hSw); go_simp; (try with_reducible rfl))
   try simp only [Act.put, List.getElem_toArray, List.getElem_cons_zero, List.getElem_cons_succ, List.setIfInBounds_toArray, List.set_cons_zero, List.set_cons_succ]
   refine wpAnyH_take (i := 3) (v := ?_) rfl (by kernel_rfl) (by kernel_rfl) (by kernel_rfl) (fun _ _ _ h => h) (Or.inl ⟨by rfl, ?_⟩) (by assumption) ?_
   rotate_left
   ·(intro w hSw; (try dsimp only at hSw); (try obtain ⟨hSw1, hSw2⟩ := hSw); go_simp; (try with_reducible rfl))
   try simp only [Act.put, List.getElem_toArray, List.getElem_cons_zero, List.getElem_cons_succ, List.setIfInBounds_toArray, List.set_cons_zero, List.set_cons_succ]
   refine wpAnyH_take (i := 4) (v := ?_) rfl (by kernel_rfl) (by kernel_rfl) (by kernel_rfl) (fun _ _ _ h => h) (Or.inl ⟨by rfl, ?_⟩) (by assumption) ?_
   rotate_left
   ·(intro w hSw; (try dsimp only at hSw); (try obtain ⟨hSw1, hSw2⟩ := hSw); go_simp; (try with_reducible rfl))
   try simp only [Act.put, List.getElem_toArray, List.getElem_cons_zero, List.getElem_cons_succ, List.setIfInBounds_toArray, List.set_cons_zero, List.set_cons_succ]
   refine wpAnyH_take (i := 5) (v := ?_) rfl (by kernel_rfl) (by kernel_rfl) (by kernel_rfl) (fun _ _ _ h => h) (Or.inl ⟨by rfl, ?_⟩) (by assumption) ?_
   rotate_left
   ·(intro w hSw; (try dsimp only at hSw); (try obtain ⟨hSw1, hSw2⟩ := hSw); go_simp; (try with_reducible rfl))
   try simp only [Act.put, List.getElem_toArray, List.getElem_cons_zero, List.getElem_cons_succ, List.setIfInBounds_toArray, List.set_cons_zero, List.set_cons_succ]
   refine wpAnyH_take (i := 6) (v := ?_) rfl (by kernel_rfl) (by kernel_rfl) (by kernel_rfl) (fun _ _ _ h => h) (Or.inl ⟨by rfl, ?_⟩) (by assumption) ?_
   rotate_left
   ·(intro w hSw; (try dsimp only at hSw); (try obtain ⟨hSw1, hSw2⟩ := hSw); go_simp; (try with_reducible rfl))
   try simp only [Act.put, List.getElem_toArray, List.getElem_cons_zero, List.getElem_cons_succ, List.setIfInBounds_toArray, List.set_cons_zero, List.set_cons_succ]
   refine wpAnyH_take (i := 7) (v := ?_) rfl (by kernel_rfl) (by kernel_rfl) (by kernel_rfl) (fun _ _ _ h => h) (Or.inl ⟨by rfl, ?_⟩) (by assumption) ?_
   rotate_left
   ·(intro w hSw; (try dsimp only at hSw); (try obtain ⟨hSw1, hSw2⟩ := hSw); go_simp; (try with_reducible rfl))
   try simp only [Act.put, List.getElem_toArray, List.getElem_cons_zero, List.getElem_cons_succ, List.setIfInBounds_toArray, List.set_cons_zero, List.set_cons_succ]
   refine wpAnyH_take (i := 8) (v := ?_) rfl (by kernel_rfl) (by kernel_rfl) (by kernel_rfl) (fun _ _ _ h => h) (Or.inl ⟨by rfl, ?_⟩) (by assumption) ?_
   rotate_left
   ·(intro w hSw; (try dsimp only at hSw); (try obtain ⟨hSw1, hSw2⟩ := hSw); go_simp; (try with_reducible rfl))
   try simp only [Act.put, List.getElem_toArray, List.getElem_cons_zero, List.getElem_cons_succ, List.setIfInBounds_toArray, List.set_cons_zero, List.set_cons_succ]
   refine wpAnyH_ready (rs := [2]) (by kernel_rfl) (by simp) ?_
   refine AllReadyH.cons rfl (fun K hK => ?_) ?_
   ·go_simp
    refine (HC1.out _).mono ?_
    rintro e w1 ⟨rfl, hb1⟩
    simp only []
    refine hK.out _ _ ?_ (fun hHeld => ?_)
    ·trivial
    clear hK K
    refine wpAnyH_take (i := 9) (v := ?_) rfl (by kernel_rfl) (by kernel_rfl) (by kernel_rfl) (fun _ _ _ h => h) (Or.inl ⟨by rfl, ?_⟩) (by assumption) ?_
    rotate_left
    ·(intro w hSw; (try dsimp only at hSw); (try obtain ⟨hSw1, hSw2⟩ := hSw); go_simp; (try with_reducible rfl))
    try simp only [Act.put, List.getElem_toArray, List.getElem_cons_zero, List.getElem_cons_succ, List.setIfInBounds_toArray, List.set_cons_zero, List.set_cons_succ]
    refine wpAnyH_take (i := 10) (v := ?_) rfl (by kernel_rfl) (by kernel_rfl) (by kernel_rfl) (fun _ _ _ h => h) (Or.inl ⟨by rfl, ?_⟩) (by assumption) ?_
    rotate_left
    ·(intro w hSw; (try dsimp only at hSw); (try obtain ⟨hSw1, hSw2⟩ := hSw); go_simp; (try with_reducible rfl))
    try simp only [Act.put, List.getElem_toArray, List.getElem_cons_zero, List.getElem_cons_succ, List.setIfInBounds_toArray, List.set_cons_zero, List.set_cons_succ]
    refine wpAnyH_done (by kernel_rfl) ?_ _
    go_wp2_with fail
    try go_ret
    refine ⟨ret_val (congrArg Value.string ?_), (Below.refl _ _).drew.trans (hb1.mono (Nat.le_refl _))⟩
    rw [HD.out, ← vbs_app]
    exact congrArg _ HX.out
   exact AllReadyH.nil
   --END8
theorem vcat_lit (l m : List UInt8) : (⟨l.toArray⟩ : ByteArray) ++ bs m = bs (l ++ m) := by
 apply ByteArray.ext
 rw [ByteArray.data_append]; simp [bs]
set_option maxRecDepth 20000 in
set_option maxHeartbeats 4000000 in
theorem vdecimal_any (n : Int) (h1 : -100000000000 < n) (h2 : n < 100000000000) (w : World) : Calls Tryz.prog 80 #[.int .i64 n] w fun e w' => e = .returned (.string (bs (Lib.itoa n))) ∧ Below w.heap.size w w' := by
 by_cases hn : n < 0
 ·obtain ⟨m, rfl⟩ : ∃ m : Nat, n = -(m : Int) := ⟨n.natAbs, by omega⟩
  have hw : IntKind.i64.wrap (-(-(m : Int))) = (m : Int) := by rw [Int.neg_neg]; exact IntWalk.i64_in _ (by omega)
  have hw2 : IntKind.i64.wrap (m : Int) = (m : Int) := IntWalk.i64_in _ (by omega)
  have HD := Lib.hid (vdec_any m (by omega) w)
  have HI := Lib.hid (Lib.itoa_neg m (by omega))
  have hl := vdec_len10 m (by omega)
  have hz : ¬ 9223372036854775807 < 1 + (bs (Lib.decDigits m)).size := by rw [size_bs]; omega
  go_enter Tryz.func80, Tryz.ntmps80
  go_wp2_with fail
  refine HD.out.mono ?_
  rintro e w1 ⟨rfl, hb1⟩
  go_wp2_with fail
  go_ret
  refine ⟨ret_val (congrArg Value.string ?_), hb1⟩
  rw [HI.out]
  exact vcat_lit [45] (Lib.decDigits m)
 ·obtain ⟨m, rfl⟩ : ∃ m : Nat, n = (m : Int) := ⟨n.toNat, by omega⟩
  have HD := Lib.hid (vdec_any m (by omega) w)
  have HI : Hid (Lib.itoa (m : Int) = Lib.decDigits m) := Lib.hid (by unfold Lib.itoa; rw [if_neg (by omega)]; rfl)
  go_enter Tryz.func80, Tryz.ntmps80
  go_wp2_with fail
  refine HD.out.mono ?_
  rintro e w1 ⟨rfl, hb1⟩
  go_wp2_with fail
  go_ret
  exact ⟨ret_val (congrArg Value.string (congrArg bs HI.out.symm)), hb1⟩
set_option maxRecDepth 20000 in
set_option maxHeartbeats 4000000 in
theorem vsign_0 (w : World) : Calls Tryz.prog 169 #[.int .i64 0] w fun e w' => e = .returned (.string (bs (sgW 0))) ∧ Below w.heap.size w w' := by
 go_enter Tryz.func169, Tryz.ntmps169
 go_wp2_with fail
 go_ret
 exact ⟨rfl, (Below.refl _ _).alloc (Nat.le_refl _) _⟩
set_option maxRecDepth 20000 in
set_option maxHeartbeats 4000000 in
theorem vsign_1 (w : World) : Calls Tryz.prog 169 #[.int .i64 1] w fun e w' => e = .returned (.string (bs (sgW 1))) ∧ Below w.heap.size w w' := by
 go_enter Tryz.func169, Tryz.ntmps169
 go_wp2_with fail
 go_ret
 exact ⟨rfl, (Below.refl _ _).alloc (Nat.le_refl _) _⟩
set_option maxRecDepth 20000 in
set_option maxHeartbeats 4000000 in
theorem vsign_2 (w : World) : Calls Tryz.prog 169 #[.int .i64 2] w fun e w' => e = .returned (.string (bs (sgW 2))) ∧ Below w.heap.size w w' := by
 go_enter Tryz.func169, Tryz.ntmps169
 go_wp2_with fail
 go_ret
 exact ⟨rfl, (Below.refl _ _).alloc (Nat.le_refl _) _⟩
set_option maxRecDepth 20000 in
set_option maxHeartbeats 4000000 in
theorem vsign_3 (w : World) : Calls Tryz.prog 169 #[.int .i64 3] w fun e w' => e = .returned (.string (bs (sgW 3))) ∧ Below w.heap.size w w' := by
 go_enter Tryz.func169, Tryz.ntmps169
 go_wp2_with fail
 go_ret
 exact ⟨rfl, (Below.refl _ _).alloc (Nat.le_refl _) _⟩
set_option maxRecDepth 20000 in
set_option maxHeartbeats 4000000 in
theorem vsign_4 (w : World) : Calls Tryz.prog 169 #[.int .i64 4] w fun e w' => e = .returned (.string (bs (sgW 4))) ∧ Below w.heap.size w w' := by
 go_enter Tryz.func169, Tryz.ntmps169
 go_wp2_with fail
 go_ret
 exact ⟨rfl, (Below.refl _ _).alloc (Nat.le_refl _) _⟩
set_option maxRecDepth 20000 in
set_option maxHeartbeats 4000000 in
theorem vsign_5 (w : World) : Calls Tryz.prog 169 #[.int .i64 5] w fun e w' => e = .returned (.string (bs (sgW 5))) ∧ Below w.heap.size w w' := by
 go_enter Tryz.func169, Tryz.ntmps169
 go_wp2_with fail
 go_ret
 exact ⟨rfl, (Below.refl _ _).alloc (Nat.le_refl _) _⟩
theorem vsign_any (k : Int) (h0 : 0 ≤ k) (h5 : k ≤ 5) (w : World) : Calls Tryz.prog 169 #[.int .i64 k] w fun e w' => e = .returned (.string (bs (sgW k))) ∧ Below w.heap.size w w' := by
 rcases (by omega : k = 0 ∨ k = 1 ∨ k = 2 ∨ k = 3 ∨ k = 4 ∨ k = 5) with rfl | rfl | rfl | rfl | rfl | rfl
 ·exact vsign_0 w
 ·exact vsign_1 w
 ·exact vsign_2 w
 ·exact vsign_3 w
 ·exact vsign_4 w
 ·exact vsign_5 w
end Go.Proofs.YtogmhaihmkcjgaaGreatDoor
-- halved
