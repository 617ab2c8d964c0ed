/-
  What the scaled divisor is worth, and small facts on words. For the walk over natural.divided.
-/
import Derived.Test.YtlagcdgfmgkooaaDoorNat9
import Derived.Test.YtlagcdgfmgkooaaDoorNat4
import Derived.Test.YtlagcdgfmgkooaaDoorKnu
import Derived.Test.YtlagcdgfmgkooaaDoorIb
import Derived.Lib.EndianBits
namespace Go.Proofs.YtlagcdgfmgkooaaDoor
open Go.RowKit
set_option linter.unusedVariables false

theorem top_digit (t : ByteArray) (h : 0 < t.size) : Dm.dig (tl t) (t.size - 1) = t[0] := by
  rw [dig_at t (t.size - 1) (by omega)]
  congr 1
  omega
theorem sc_top (t : ByteArray) (hs : Dm.canon (tl t) = true) (h : 0 < t.size) (sh : Nat) (hsh : sh = 8 - Lib.bitLen t[0].toNat) :
    0 < Dm.sc (tl t) sh (t.size - 1) ∧ Dm.colsum (Dm.sc (tl t) sh) t.size = Dm.val (tl t) * 2 ^ sh := by
  have h1 := tl_cons t h
  have h2 : t[0] ≠ 0 := by rw [h1] at hs; simpa [Dm.canon] using hs
  have h3 : 0 < t[0].toNat := by
    have : t[0].toNat ≠ 0 := fun e => h2 (UInt8.toNat_inj.1 (by simpa using e))
    omega
  obtain ⟨a, b, c, d⟩ := bitLen_spec t[0].toNat t[0].toNat_lt h3
  have e8 : 8 - sh = Lib.bitLen t[0].toNat := by omega
  constructor
  · have h4 : t[0].toNat * 2 ^ sh < 256 := by
      have : t[0].toNat * 2 ^ sh < 2 ^ (Lib.bitLen t[0].toNat) * 2 ^ sh := Nat.mul_lt_mul_of_pos_right b (Nat.two_pow_pos _)
      rw [← Nat.pow_add, show Lib.bitLen t[0].toNat + sh = 8 from by omega] at this
      omega
    have h5 : 0 < t[0].toNat * 2 ^ sh := Nat.mul_pos h3 (Nat.two_pow_pos _)
    unfold Dm.sc
    rw [top_digit t h]
    omega
  · have h4 := Dm.colsum_sc (tl t) sh (by omega) t.size
    have h5 : Dm.above (tl t) sh t.size = 0 := by
      obtain ⟨m, hm⟩ : ∃ m, t.size = m + 1 := ⟨t.size - 1, by omega⟩
      have h6 : Dm.above (tl t) sh t.size = (Dm.dig (tl t) (t.size - 1)).toNat / 2 ^ (8 - sh) := by rw [hm]; rfl
      rw [h6, top_digit t h, e8, Nat.div_eq_of_lt b]
    have h6 := Dm.low_all (tl t)
    rw [length_tl] at h6
    rw [h5, h6] at h4
    omega
theorem or_shl8 (x y : Nat) (hx : x ≤ 255) (hy : y ≤ 255) : bits BinOp.or IntKind.i64 ((x : Int) * 256) (y : Int) = ((x * 256 + y : Nat) : Int) := by
  rw [or_i64 8 _ _ (by omega) (by omega) (by omega) (by omega) (by omega) (by omega)]
  omega
theorem sub_and (c : Nat) (hc : c < 2147483648) : bits BinOp.and IntKind.i64 (c : Int) 255 = ((c % 256 : Nat) : Int) := by
  rw [and_i64_255 _ (by omega) (by omega)]; omega
theorem sc_succ (l : List UInt8) (s i : Nat) : Dm.sc l s (i + 1) = (Dm.dig l (i + 1)).toNat * 2 ^ s % 256 + (Dm.dig l i).toNat / 2 ^ (8 - s) := rfl
theorem or_sc (l : List UInt8) (sh k : Nat) (hs : sh ≤ 7) (hk : ¬ k = 0) : bits BinOp.or IntKind.i64 (((Dm.dig l k).toNat : Int) * 2 ^ sh % 256) (((Dm.dig l (k - 1)).toNat : Int) / 2 ^ (8 - sh)) = (Dm.sc l sh k : Nat) := by
  obtain ⟨m, rfl⟩ : ∃ m, k = m + 1 := ⟨k - 1, by omega⟩
  have hy := (Dm.dig l m).toNat_lt
  obtain ⟨h1, h2, h3⟩ := Dm.shl_fits (Dm.dig l (m + 1)).toNat (Dm.dig l m).toNat sh (by omega) hs
  rw [sc_succ, Nat.add_sub_cancel]
  generalize (Dm.dig l (m + 1)).toNat = x at *
  generalize (Dm.dig l m).toNat = y at *
  have e1 : (x : Int) * 2 ^ sh % 256 = ((x * 2 ^ sh % 256 : Nat) : Int) := by rw [Int.natCast_emod, Int.natCast_mul, Int.natCast_pow]; rfl
  have e2 : (y : Int) / 2 ^ (8 - sh) = ((y / 2 ^ (8 - sh) : Nat) : Int) := by rw [Int.natCast_ediv, Int.natCast_pow]; rfl
  have e3 : ((2 : Int) ^ sh) = ((2 ^ sh : Nat) : Int) := by rw [Int.natCast_pow]; rfl
  rw [e1, e2]
  generalize x * 2 ^ sh % 256 = z at *
  generalize y / 2 ^ (8 - sh) = u at *
  rw [or_i64 sh _ _ (by omega) (by omega) (by rw [e3, ← Int.natCast_emod, h2]; rfl) (by omega) (by rw [e3]; omega) (by omega), Int.natCast_add]
theorem guess_eq (x y d : Nat) (hx : x ≤ 255) (hy : y ≤ 255) (hd : 0 < d) : min (wrap64 ((bits BinOp.or IntKind.i64 ((x : Int) * 256) (y : Int)).tdiv (d : Int))) 255 = ((min ((x * 256 + y) / d) 255 : Nat) : Int) := by
  rw [or_shl8 x y hx hy, Int.tdiv_eq_ediv_of_nonneg (by omega), ← Int.natCast_ediv]
  have h : (x * 256 + y) / d ≤ x * 256 + y := Nat.div_le_self _ _
  generalize (x * 256 + y) / d = q at *
  rw [IntWalk.wrap64_in _ ⟨by omega, by omega⟩]
  omega
theorem blk_put {W : World} {g n k : Nat} {t : TypeId} {f : Nat → Nat} (hB : Blk W g t (ivs f n)) (h : Nat → Nat) (v : Nat) (hh : ∀ j, j ≠ k → h j = f j) (hv : v = h k) : Blk (W.setCell ⟨g, k, none⟩ (.int .i64 (v : Int))) g t (ivs h n) := by
  rw [hv, ← ivs_set hh]
  exact hB.set_ _ _
theorem be_zero (n : Nat) : Dm.be (fun _ => 0) n = List.replicate n 0 := by
  have h := Dm.soFar_zero (fun _ => 0) n
  have e : Dm.soFar (fun _ => (0 : UInt8)) 0 = fun _ => 0 := by funext i; simp [Dm.soFar]
  rw [e] at h; exact h
theorem or_low8 (x y : Nat) (hx : x ≤ 255) (hy : y ≤ 255) : bits BinOp.or IntKind.i64 (x : Int) ((y : Int) * 256) = ((x + y * 256 : Nat) : Int) := by
  rw [bits_join_low .i64 31 (by decide) wraps_i64 8 _ _ (by omega) (by omega) (by omega) (by omega) (by omega) (by omega)]
  omega
theorem bvs_be_put (q : Nat → UInt8) (m j : Nat) (v : UInt8) (hj : j < m) : (bvs (Dm.be q m)).set (m - 1 - j) (.int .u8 (v.toNat : Int)) = bvs (Dm.be (Dm.putB q j v) m) := by
  rw [bvs_set]
  have h := Dm.be_set q (Dm.putB q j v) m j hj (fun i _ hi => by simp [Dm.putB, hi])
  have e : Dm.putB q j v j = v := by simp [Dm.putB]
  rw [e] at h
  rw [h]
theorem byte_back {r : Nat → Nat} {m R sh i : Nat} (hr : ∀ i, r i ≤ 255) (hs : sh ≤ 7) (h : Dm.colsum r m = R * 2 ^ sh) (hi : i + 1 < m) :
    ((r i + r (i + 1) * 256 : Nat) : Int) / 2 ^ sh % 256 = ((Dm.byteAt R i).toNat : Int) := by
  rw [Dm.byteAt_toNat, ← Dm.back hr hs h hi]
  have e3 : ((2 : Int) ^ sh) = ((2 ^ sh : Nat) : Int) := by rw [Int.natCast_pow]; rfl
  rw [e3, ← Int.natCast_ediv]
  omega
end Go.Proofs.YtlagcdgfmgkooaaDoor
