/-
  Walks over natural: product, Mul.
-/
import Derived.Test.YtlagcdgfmgkooaaDoorNat3
import Derived.Lib.SliceRun
import Derived.StillTailTactics
import Derived.Deep.RegionHeld3
namespace Go.Proofs.YtlagcdgfmgkooaaDoor
open Go.RowKit
set_option linter.unusedVariables false

/-- numbers as cells -/
def ivs (f : Nat → Nat) (n : Nat) : List Value := (List.range n).map fun j => .int .i64 (f j : Nat)
theorem length_ivs (f : Nat → Nat) (n : Nat) : (ivs f n).length = n := by simp [ivs]
theorem ivs_at {f : Nat → Nat} {n i : Nat} (h : i < n) : (ivs f n)[i]? = some (.int .i64 (f i : Nat)) := by simp [ivs, h]
theorem ivs_set {f g : Nat → Nat} {n p : Nat} (h : ∀ j, j ≠ p → g j = f j) : (ivs f n).set p (.int .i64 (g p : Nat)) = ivs g n := by
  apply List.ext_getElem?
  intro i
  rw [List.getElem?_set, length_ivs]
  by_cases hi : i < n
  · rw [ivs_at hi]
    by_cases hp : p = i
    · subst hp; rw [if_pos rfl, if_pos hi, ivs_at hi]
    · rw [if_neg hp, ivs_at hi, h i (fun e => hp e.symm)]
  · have e1 : (ivs g n)[i]? = none := List.getElem?_eq_none (by rw [length_ivs]; omega)
    have e2 : (ivs f n)[i]? = none := List.getElem?_eq_none (by rw [length_ivs]; omega)
    rw [e1]
    by_cases hp : p = i
    · subst hp; simp; omega
    · rw [if_neg hp, e2]
theorem ivs_zero (n : Nat) : ivs (fun _ => 0) n = List.replicate n (.int .i64 0) := by
  unfold ivs; rw [List.map_const']; simp

theorem Blk.setCells {g : Nat} {t : TypeId} : ∀ (vs : List Value) (o : Nat) (w : World) (cs : List Value), Blk w g t cs → o + vs.length ≤ cs.length → Blk (w.setCells g o vs) g t (cs.take o ++ vs ++ cs.drop (o + vs.length))
  | [], o, w, cs, h, hl => by simpa [World.setCells] using h
  | v :: r, o, w, cs, h, hl => by
    have h2 := Blk.setCells r (o + 1) (w.setCell ⟨g, o, none⟩ v) (cs.set o v) (h.set_ o v) (by simp at hl ⊢; omega)
    have e : (cs.set o v).take (o + 1) ++ r ++ (cs.set o v).drop (o + 1 + r.length) = cs.take o ++ (v :: r) ++ cs.drop (o + (v :: r).length) := by
      simp only [List.length_cons] at hl ⊢
      rw [List.take_succ_eq_append_getElem (by simp; omega), List.take_set_of_le (by omega), List.drop_set_of_lt (by omega)]
      simp
      congr 1
      omega
    rw [e] at h2
    exact h2
theorem Blk.cleared {w : World} {g n : Nat} {t : TypeId} {cs : List Value} (h : Blk w g t cs) (hl : cs.length = n) (z : Value) : Blk (w.setCells g 0 (List.replicate n z)) g t (List.replicate n z) := by
  have := Blk.setCells (List.replicate n z) 0 w cs h (by simp; omega)
  simpa [← hl] using this
theorem below_setCells {g B : Nat} {a : World} : ∀ (vs : List Value) (o : Nat) (w : World), Below B a w → B ≤ g → Below B a (w.setCells g o vs)
  | [], _, _, h, _ => h
  | v :: r, o, w, h, hg => below_setCells r (o + 1) _ (h.setCell hg v) hg

theorem colsum_zero (n : Nat) : Dm.colsum (fun _ => 0) n = 0 := by
  induction n with
  | zero => rfl
  | succ n ih => simp [Dm.colsum, ih]
def ProdRel (a b : List UInt8) (g : Nat) (w : World) (i : Value) (wr : World) : Prop :=
  ∃ (I : Nat) (f : Nat → Nat), I ≤ a.length ∧ i = .int .i64 (I : Int) ∧ Blk wr g 101 (ivs f 256) ∧ Below g w wr ∧ Dm.colsum f (a.length + b.length) = Dm.low a I * Dm.val b ∧ ∀ j, f j ≤ 65025 * I
def ProdIn (a b : List UInt8) (g I : Nat) (w : World) (k : Value) (wr : World) : Prop :=
  ∃ (K : Nat) (f : Nat → Nat), K ≤ b.length ∧ k = .int .i64 (K : Int) ∧ Blk wr g 101 (ivs f 256) ∧ Below g w wr ∧ Dm.colsum f (a.length + b.length) = Dm.low a I * Dm.val b + (Dm.dig a I).toNat * 256 ^ I * Dm.low b K ∧ (∀ j, f j ≤ 65025 * (I + 1)) ∧ ∀ j, I + K ≤ j → f j ≤ 65025 * I

def upd (f : Nat → Nat) (p d : Nat) : Nat → Nat := fun j => if j = p then f j + d else f j
def ProdOut (f : Nat → Nat) (g g0 n : Nat) (w : World) (c i : Value) (wr : World) : Prop := ∃ k : Nat, k ≤ n ∧ i = .int .i64 (k : Int) ∧ c = .int .i64 (Dm.carryC f k : Nat) ∧ Blk wr g0 5 (bvs (Dm.be (Dm.soFar (Dm.outC f) k) n)) ∧ Blk wr g 101 (ivs f 256) ∧ Below g w wr

set_option maxRecDepth 20000 in
set_option maxHeartbeats 1000000 in
theorem product_any (s t : ByteArray) (g : Nat) (cs : List Value) (w : World) (hs : s.size ≤ 128) (ht : t.size ≤ 128) (hg : Blk w g 101 cs) (hcs : cs.length = 256) :
    Calls Tryd.prog 82 #[.string s, .string t, .pointer (some ⟨g, 0, none⟩)] w fun e w' => e = .returned (Sv (Dm.str (Dm.val (tl s) * Dm.val (tl t)))) ∧ Below g w w' := by
  have hcl := fun ty => Lib.run_clear_slice (P := Tryd.prog) w 105 3 ty (.int .i64 0) Tryd.underlying105 (fun w => by kernel_rfl) rfl rfl g 0 256 256 (by omega) (fun j hj => by rw [hg.cell]; rw [List.getElem?_eq_getElem (by omega)]; rfl) (fun j hj => hg.frozen _)
  have hb0 : Blk (w.setCells g 0 (List.replicate 256 (.int .i64 0))) g 101 (ivs (fun _ => 0) 256) := by
    rw [ivs_zero]
    exact hg.cleared hcs _
  have hw0 : Below g w (w.setCells g 0 (List.replicate 256 (.int .i64 0))) := below_setCells _ _ _ (Below.refl _ _) (Nat.le_refl _)
  generalize w.setCells g 0 (List.replicate 256 (.int .i64 0)) = W0 at *
  go_enter Tryd.func82, Tryd.ntmps82
  go_wp2_with fail
  clear hcl
  obtain ⟨wz, rfl⟩ : ∃ wz : World, wz = W0 := ⟨_, rfl⟩
  have hz : w.heap.size ≤ wz.heap.size := hw0.size
  have hgz := hb0.lt
  go_loopw [19] (ProdRel (tl s) (tl t) g w) (fun i _ => s.size - (intOf i).toNat)
  case atStart => exact ⟨0, fun _ => 0, by omega, rfl, hb0, hw0, by rw [Dm.low_zero, Nat.zero_mul]; exact colsum_zero _, fun _ => Nat.zero_le _⟩
  case round =>
    obtain ⟨I, f, hI, rfl, hB, hW, hsum, hbd⟩ := hrel
    rw [length_tl] at hI
    have HSUM := Lib.hid hsum
    have HBD := Lib.hid hbd
    clear hsum hbd
    by_cases hlt : I < s.size
    · go_wp2_with fail
      refine (digit_at s _ I _ rfl (by omega) (by omega)).mono ?_
      rintro e w' ⟨rfl, rfl⟩
      go_wp2_with fail
      obtain ⟨wo, rfl⟩ : ∃ wo : World, wo = wr := ⟨_, rfl⟩
      go_loopw [27] (ProdIn (tl s) (tl t) g I w) (fun i _ => t.size - (intOf i).toNat)
      case atStart => exact ⟨0, f, by omega, rfl, hB, hW, by rw [Dm.low_zero, Nat.mul_zero, Nat.add_zero]; exact HSUM.out, fun j => Nat.le_trans (HBD.out j) (by omega), fun j _ => HBD.out j⟩
      case round =>
        obtain ⟨K, f2, hK, rfl, hB2, hW2, hsum2, hbd2, hbd3⟩ := hrel
        rw [length_tl] at hK
        have HS2 := Lib.hid hsum2
        have HB2 := Lib.hid hbd2
        have HB3 := Lib.hid hbd3
        clear hsum2 hbd2 hbd3
        by_cases hltk : K < t.size
        · have hc := (hB2.cell (I + K)).trans (ivs_at (by omega))
          have hfr := hB2.frozen (I + K)
          have hd1 := (Dm.dig (tl s) I).toNat_lt
          have hd2 := (Dm.dig (tl t) K).toNat_lt
          have hdg := fun W : World => digit_at t (K : Int) K W rfl (by omega) (by omega)
          have HDG := Lib.hid hdg
          clear hdg
          have hm : (Dm.dig (tl s) I).toNat * (Dm.dig (tl t) K).toNat ≤ 255 * 255 := Nat.mul_le_mul (by omega) (by omega)
          have hf2 := HB2.out (I + K)
          go_wp2_with fail
          have e1 : IntKind.i64.wrap ((I : Int) + (K : Int)) = (I : Int) + (K : Int) := IntWalk.i64_in _ (by omega)
          have hmi : ((Dm.dig (tl s) I).toNat : Int) * ((Dm.dig (tl t) K).toNat : Int) ≤ 65025 := by rw [← Int.natCast_mul]; omega
          have hmi0 : 0 ≤ ((Dm.dig (tl s) I).toNat : Int) * ((Dm.dig (tl t) K).toNat : Int) := Int.mul_nonneg (by omega) (by omega)
          have e3 : IntKind.i64.wrap (((Dm.dig (tl s) I).toNat : Int) * ((Dm.dig (tl t) K).toNat : Int)) = ((Dm.dig (tl s) I).toNat : Int) * ((Dm.dig (tl t) K).toNat : Int) := IntWalk.i64_in _ (by omega)
          have e4 : IntKind.i64.wrap ((f2 (I + K) : Int) + ((Dm.dig (tl s) I).toNat : Int) * ((Dm.dig (tl t) K).toNat : Int)) = (f2 (I + K) : Int) + ((Dm.dig (tl s) I).toNat : Int) * ((Dm.dig (tl t) K).toNat : Int) := IntWalk.i64_in _ (by omega)
          clear hm hf2 hmi hmi0
          have h5 : (0 : Int) ≤ (I : Int) + (K : Int) := by omega
          have h6 : (I : Int) + (K : Int) < 256 := by omega
          have e2 : ((I : Int) + (K : Int)).toNat = I + K := by omega
          refine wp_region_still_tail 15 (by kernel_rfl) (by kernel_rfl) ?_
          simp only [List.take_succ_cons, List.take_zero, List.drop_succ_cons, List.drop_zero]
          repeat still_step
          still_call (still_of (HDG.out _))
          repeat still_step
          refine wpStill_nil ?_
          clear e1 e2 e3 e4
          change wpList _ _ _ _ _ wr.drew
          go_wp2_with fail
          go_roundw
          case rel =>
            have hm : (Dm.dig (tl s) I).toNat * (Dm.dig (tl t) K).toNat ≤ 255 * 255 := Nat.mul_le_mul (by omega) (by omega)
            have hset : ∀ j, j ≠ I + K → upd f2 (I + K) ((Dm.dig (tl s) I).toNat * (Dm.dig (tl t) K).toNat) j = f2 j := fun j hj => by simp [upd, hj]
            have hat : upd f2 (I + K) ((Dm.dig (tl s) I).toNat * (Dm.dig (tl t) K).toNat) (I + K) = f2 (I + K) + (Dm.dig (tl s) I).toNat * (Dm.dig (tl t) K).toNat := by simp [upd]
            refine ⟨K + 1, upd f2 (I + K) ((Dm.dig (tl s) I).toNat * (Dm.dig (tl t) K).toNat), by rw [length_tl]; omega, by go_num, ?_, (hW2.setCell (Nat.le_refl _) _).drew, ?_, ?_, ?_⟩
            · have e : ((f2 (I + K) : Int) + ((Dm.dig (tl s) I).toNat : Int) * ((Dm.dig (tl t) K).toNat : Int)) = ((upd f2 (I + K) ((Dm.dig (tl s) I).toNat * (Dm.dig (tl t) K).toNat) (I + K) : Nat) : Int) := by rw [hat, Int.natCast_add, Int.natCast_mul]
              rw [e, ← ivs_set hset]
              exact (hB2.set_ _ _).drew
            · rw [Dm.colsum_upd (f := f2) (p := I + K) (by rw [length_tl, length_tl]; omega) hat hset, HS2.out, Dm.low_succ, Nat.mul_add, Nat.pow_add]
              generalize (Dm.dig (tl s) I).toNat = x
              generalize (Dm.dig (tl t) K).toNat = y
              generalize 256 ^ I = p
              generalize 256 ^ K = q
              have : x * y * (p * q) = x * p * (y * q) := by grind
              omega
            · intro j
              by_cases hj : j = I + K
              · subst hj
                rw [hat]
                have := HB3.out (I + K) (Nat.le_refl _)
                omega
              · rw [hset j hj]; exact HB2.out j
            · intro j hj
              rw [hset j (by omega)]
              exact HB3.out j (by omega)
          case measure => simp [intOf] <;> omega
        · obtain rfl : K = t.size := by omega
          go_wp2_with fail
          go_roundw
          case rel =>
            refine ⟨I + 1, f2, by rw [length_tl]; omega, by go_num, hB2, hW2, ?_, HB2.out⟩
            have h1 := Dm.low_all (tl t)
            rw [length_tl] at h1
            rw [HS2.out, h1, Dm.low_succ, Nat.add_mul]
          case measure => simp [intOf] <;> omega
    · obtain rfl : I = s.size := by omega
      have hlow := Dm.low_all (tl s)
      rw [length_tl] at hlow
      rw [hlow, length_tl, length_tl] at HSUM
      clear hlow
      obtain ⟨n, hn⟩ : ∃ n, s.size + t.size = n := ⟨_, rfl⟩
      rw [hn] at HSUM
      have hmk : ∀ w, (Instr.makeSlice 93 (.int .i64 ((s.size : Int) + (t.size : Int))) (.int .i64 ((s.size : Int) + (t.size : Int)))).run Tryd.prog w = .ok (.slice (some ⟨w.heap.size, 0, none⟩) n n) (w.alloc (.cells (List.replicate n (.int .u8 0)).toArray 5)) := fun w => by
        rw [show (s.size : Int) + (t.size : Int) = (n : Int) from by omega]; exact make_bytes n (by omega) w
      have hnl : n ≤ 256 := by omega
      have HN := Lib.hid hn
      clear hn
      go_wp2_with fail
      clear hmk
      rw [show (s.size : Int) + (t.size : Int) = (n : Int) from by have := HN.out; omega]
      obtain ⟨wo, rfl⟩ : ∃ wo : World, wo = wr := ⟨_, rfl⟩
      go_loopw [12, 55] (ProdOut f g wo.heap.size n w) (fun _ i _ => n - (intOf i).toNat)
      case atStart => exact ⟨0, by omega, rfl, rfl, by rw [Dm.soFar_zero, bvs_zero]; exact Blk.new _ _ _, hB.alloc _, hW.alloc (by have := hB.lt; omega) _⟩
      case round =>
        obtain ⟨k, hk, rfl, rfl, hO, hB3, hW3⟩ := hrel
        have hgo := hB.lt
        by_cases hltk : k < n
        · obtain ⟨v, hcell⟩ : ∃ v, wr.cell? ⟨wo.heap.size, n - 1 - k, none⟩ = some v := ⟨_, (hO.cell _).trans (bvs_at (by rw [Dm.length_be]; omega))⟩
          have hfr := hO.frozen (n - 1 - k)
          have hcol := (hB3.cell k).trans (ivs_at (by omega))
          have hbk := HBD.out k
          have hc := Dm.carryC_le (c := f) (B := 255 * s.size) (fun k => by have := HBD.out k; omega) k
          have HC : Hid (Dm.carryC f (k + 1) = (Dm.carryC f k + f k) / 256) := rfl
          have HO := Lib.hid (Dm.outC_toNat f k)
          go_wp2_with fail
          go_roundw
          case rel =>
            refine ⟨k + 1, by omega, by go_num, val_int (by rw [HC.out]; omega), ?_, hB3.far (by simp; omega) _, hW3.setCell (by simp; omega) _⟩
            have e : ((Dm.carryC f k : Int) + (f k : Int)) % 256 = ((Dm.outC f k).toNat : Int) := by rw [HO.out]; omega
            rw [e, ← Dm.soFar_set _ n k hltk, ← bvs_set]
            exact hO.set_ _ _
          case measure => simp [intOf] <;> omega
        · obtain rfl : k = n := by omega
          go_wp2_with fail
          refine (trimmed_at _ (Dm.be (Dm.soFar (Dm.outC f) k) k) k k _ (by rw [Dm.length_be]) (by omega) (by omega) hO.bytes).mono ?_
          rintro e w' ⟨rfl, rfl⟩
          rw [Dm.soFar_all, Dm.trim_outC HSUM.out (by rw [← HN.out, Nat.pow_add]; exact Nat.mul_lt_mul'' (by rw [← length_tl]; exact Dm.val_lt _) (by rw [← length_tl]; exact Dm.val_lt _))]
          go_wp2_with fail
          go_ret
          exact ⟨rfl, hW3⟩
end Go.Proofs.YtlagcdgfmgkooaaDoor
