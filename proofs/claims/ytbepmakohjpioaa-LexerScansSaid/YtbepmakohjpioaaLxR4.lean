/-
  dominoref40: sign.
-/
import Derived.Test.YtbepmakohjpioaaLxR2
namespace Go.Proofs.Ytbepmakohjpioaa
open Go.RowKit
set_option linter.unusedVariables false
set_option linter.unusedSimpArgs false

def oneL : List UInt8 := [58, 46, 44, 40, 41, 123, 125, 61, 60, 62]
theorem one_mem (c : UInt8) : Lx.one c = oneL.contains c := by
  simpa using all_bytes (fun c => Lx.one c == oneL.contains c) (by decide +kernel) c
theorem u8_ne {c : UInt8} {n : Nat} (hn : n < 256) (h : c ≠ UInt8.ofNat n) : ((n : Int) == (c.toNat : Int)) = false := by
  rw [beq_eq_false_iff_ne]
  intro h2
  refine h (UInt8.toNat_inj.1 ?_)
  rw [UInt8.toNat_ofNat_of_lt' (by simpa using hn)]
  omega
def RsRel (c : UInt8) (w : World) (i : Value) (W : World) : Prop := ∃ k : Nat, k ≤ 10 ∧ i = .int .i64 (k : Int) ∧ (oneL.take k).contains c = false ∧ W.heap = w.heap ∧ Below w.heap.size w W
set_option maxHeartbeats 2000000 in
theorem rsign_end (s : ByteArray) (a : Nat) (w : World) (hs : s.size ≤ 65536) (ha : a < s.size) (he : Hid (a + 1 = s.size)) (res : Value) (hres : Hid ((.tuple #[.int .i64 (if Lx.one s[a] then (a : Int) + 1 else 0), .bool (Lx.one s[a])] : Value) = res)) :
    Calls Try.prog 30 #[.string s, .int .i64 (a : Int)] w fun e w' => e = .returned res ∧ Below w.heap.size w w' := by
  have h6 := s[a].toNat_lt
  have q1 : decide ((a : Int) + 1 < (s.size : Int)) = false := by have := he.out; simp; omega
  go_enter Try.func30, Try.ntmps30
  go_wp2_with fail
  go_loopw [8] (RsRel s[a] w) (fun i _ => 10 - (intOf i).toNat)
  case atStart => exact ⟨0, by omega, rfl, rfl, rfl, Below.refl _ _⟩
  case round =>
    obtain ⟨k, hk, rfl, hc, hh, hb⟩ := hrel
    have HC := Lib.hid hc
    have HH := Lib.hid hh
    clear hc hh
    have hk' : k = 0 ∨ k = 1 ∨ k = 2 ∨ k = 3 ∨ k = 4 ∨ k = 5 ∨ k = 6 ∨ k = 7 ∨ k = 8 ∨ k = 9 ∨ k = 10 := by omega
    rcases hk' with rfl | rfl | rfl | rfl | rfl | rfl | rfl | rfl | rfl | rfl | rfl
    · clear hk
      by_cases hx : s[a] = 58
      · have hx2 : (((⟨#[58, 46, 44, 40, 41, 123, 125, 61, 60, 62]⟩ : ByteArray)[0].toNat : Int) == (s[a].toNat : Int)) = true := by rw [hx]; rfl
        have H1 := Lib.hid (show Lx.one s[a] = true by rw [hx]; rfl)
        clear hx
        go_wp2_with fail
        go_quiet (fail)
        go_wp2_with fail
        go_ret2
        exact ⟨ret_val (by rw [← hres.out, H1.out]; rfl), bl_drewN hb _⟩
      · have hx2 : (((⟨#[58, 46, 44, 40, 41, 123, 125, 61, 60, 62]⟩ : ByteArray)[0].toNat : Int) == (s[a].toNat : Int)) = false := u8_ne (n := 58) (by decide) hx
        have H1 := Lib.hid (show (oneL.take 1).contains s[a] = false by have := HC.out; simp [oneL] at this ⊢; simp [this, hx])
        clear hx
        go_wp2_with fail
        go_quiet (fail)
        go_wp2_with fail
        go_roundw
        case rel => exact ⟨1, by omega, rfl, H1.out, HH.out, bl_drewN hb _⟩
        case measure => simp [intOf]
    · clear hk
      by_cases hx : s[a] = 46
      · have hx2 : (((⟨#[58, 46, 44, 40, 41, 123, 125, 61, 60, 62]⟩ : ByteArray)[1].toNat : Int) == (s[a].toNat : Int)) = true := by rw [hx]; rfl
        have H1 := Lib.hid (show Lx.one s[a] = true by rw [hx]; rfl)
        clear hx
        go_wp2_with fail
        go_quiet (fail)
        go_wp2_with fail
        go_ret2
        exact ⟨ret_val (by rw [← hres.out, H1.out]; rfl), bl_drewN hb _⟩
      · have hx2 : (((⟨#[58, 46, 44, 40, 41, 123, 125, 61, 60, 62]⟩ : ByteArray)[1].toNat : Int) == (s[a].toNat : Int)) = false := u8_ne (n := 46) (by decide) hx
        have H1 := Lib.hid (show (oneL.take 2).contains s[a] = false by have := HC.out; simp [oneL] at this ⊢; simp [this, hx])
        clear hx
        go_wp2_with fail
        go_quiet (fail)
        go_wp2_with fail
        go_roundw
        case rel => exact ⟨2, by omega, rfl, H1.out, HH.out, bl_drewN hb _⟩
        case measure => simp [intOf]
    · clear hk
      by_cases hx : s[a] = 44
      · have hx2 : (((⟨#[58, 46, 44, 40, 41, 123, 125, 61, 60, 62]⟩ : ByteArray)[2].toNat : Int) == (s[a].toNat : Int)) = true := by rw [hx]; rfl
        have H1 := Lib.hid (show Lx.one s[a] = true by rw [hx]; rfl)
        clear hx
        go_wp2_with fail
        go_quiet (fail)
        go_wp2_with fail
        go_ret2
        exact ⟨ret_val (by rw [← hres.out, H1.out]; rfl), bl_drewN hb _⟩
      · have hx2 : (((⟨#[58, 46, 44, 40, 41, 123, 125, 61, 60, 62]⟩ : ByteArray)[2].toNat : Int) == (s[a].toNat : Int)) = false := u8_ne (n := 44) (by decide) hx
        have H1 := Lib.hid (show (oneL.take 3).contains s[a] = false by have := HC.out; simp [oneL] at this ⊢; simp [this, hx])
        clear hx
        go_wp2_with fail
        go_quiet (fail)
        go_wp2_with fail
        go_roundw
        case rel => exact ⟨3, by omega, rfl, H1.out, HH.out, bl_drewN hb _⟩
        case measure => simp [intOf]
    · clear hk
      by_cases hx : s[a] = 40
      · have hx2 : (((⟨#[58, 46, 44, 40, 41, 123, 125, 61, 60, 62]⟩ : ByteArray)[3].toNat : Int) == (s[a].toNat : Int)) = true := by rw [hx]; rfl
        have H1 := Lib.hid (show Lx.one s[a] = true by rw [hx]; rfl)
        clear hx
        go_wp2_with fail
        go_quiet (fail)
        go_wp2_with fail
        go_ret2
        exact ⟨ret_val (by rw [← hres.out, H1.out]; rfl), bl_drewN hb _⟩
      · have hx2 : (((⟨#[58, 46, 44, 40, 41, 123, 125, 61, 60, 62]⟩ : ByteArray)[3].toNat : Int) == (s[a].toNat : Int)) = false := u8_ne (n := 40) (by decide) hx
        have H1 := Lib.hid (show (oneL.take 4).contains s[a] = false by have := HC.out; simp [oneL] at this ⊢; simp [this, hx])
        clear hx
        go_wp2_with fail
        go_quiet (fail)
        go_wp2_with fail
        go_roundw
        case rel => exact ⟨4, by omega, rfl, H1.out, HH.out, bl_drewN hb _⟩
        case measure => simp [intOf]
    · clear hk
      by_cases hx : s[a] = 41
      · have hx2 : (((⟨#[58, 46, 44, 40, 41, 123, 125, 61, 60, 62]⟩ : ByteArray)[4].toNat : Int) == (s[a].toNat : Int)) = true := by rw [hx]; rfl
        have H1 := Lib.hid (show Lx.one s[a] = true by rw [hx]; rfl)
        clear hx
        go_wp2_with fail
        go_quiet (fail)
        go_wp2_with fail
        go_ret2
        exact ⟨ret_val (by rw [← hres.out, H1.out]; rfl), bl_drewN hb _⟩
      · have hx2 : (((⟨#[58, 46, 44, 40, 41, 123, 125, 61, 60, 62]⟩ : ByteArray)[4].toNat : Int) == (s[a].toNat : Int)) = false := u8_ne (n := 41) (by decide) hx
        have H1 := Lib.hid (show (oneL.take 5).contains s[a] = false by have := HC.out; simp [oneL] at this ⊢; simp [this, hx])
        clear hx
        go_wp2_with fail
        go_quiet (fail)
        go_wp2_with fail
        go_roundw
        case rel => exact ⟨5, by omega, rfl, H1.out, HH.out, bl_drewN hb _⟩
        case measure => simp [intOf]
    · clear hk
      by_cases hx : s[a] = 123
      · have hx2 : (((⟨#[58, 46, 44, 40, 41, 123, 125, 61, 60, 62]⟩ : ByteArray)[5].toNat : Int) == (s[a].toNat : Int)) = true := by rw [hx]; rfl
        have H1 := Lib.hid (show Lx.one s[a] = true by rw [hx]; rfl)
        clear hx
        go_wp2_with fail
        go_quiet (fail)
        go_wp2_with fail
        go_ret2
        exact ⟨ret_val (by rw [← hres.out, H1.out]; rfl), bl_drewN hb _⟩
      · have hx2 : (((⟨#[58, 46, 44, 40, 41, 123, 125, 61, 60, 62]⟩ : ByteArray)[5].toNat : Int) == (s[a].toNat : Int)) = false := u8_ne (n := 123) (by decide) hx
        have H1 := Lib.hid (show (oneL.take 6).contains s[a] = false by have := HC.out; simp [oneL] at this ⊢; simp [this, hx])
        clear hx
        go_wp2_with fail
        go_quiet (fail)
        go_wp2_with fail
        go_roundw
        case rel => exact ⟨6, by omega, rfl, H1.out, HH.out, bl_drewN hb _⟩
        case measure => simp [intOf]
    · clear hk
      by_cases hx : s[a] = 125
      · have hx2 : (((⟨#[58, 46, 44, 40, 41, 123, 125, 61, 60, 62]⟩ : ByteArray)[6].toNat : Int) == (s[a].toNat : Int)) = true := by rw [hx]; rfl
        have H1 := Lib.hid (show Lx.one s[a] = true by rw [hx]; rfl)
        clear hx
        go_wp2_with fail
        go_quiet (fail)
        go_wp2_with fail
        go_ret2
        exact ⟨ret_val (by rw [← hres.out, H1.out]; rfl), bl_drewN hb _⟩
      · have hx2 : (((⟨#[58, 46, 44, 40, 41, 123, 125, 61, 60, 62]⟩ : ByteArray)[6].toNat : Int) == (s[a].toNat : Int)) = false := u8_ne (n := 125) (by decide) hx
        have H1 := Lib.hid (show (oneL.take 7).contains s[a] = false by have := HC.out; simp [oneL] at this ⊢; simp [this, hx])
        clear hx
        go_wp2_with fail
        go_quiet (fail)
        go_wp2_with fail
        go_roundw
        case rel => exact ⟨7, by omega, rfl, H1.out, HH.out, bl_drewN hb _⟩
        case measure => simp [intOf]
    · clear hk
      by_cases hx : s[a] = 61
      · have hx2 : (((⟨#[58, 46, 44, 40, 41, 123, 125, 61, 60, 62]⟩ : ByteArray)[7].toNat : Int) == (s[a].toNat : Int)) = true := by rw [hx]; rfl
        have H1 := Lib.hid (show Lx.one s[a] = true by rw [hx]; rfl)
        clear hx
        go_wp2_with fail
        go_quiet (fail)
        go_wp2_with fail
        go_ret2
        exact ⟨ret_val (by rw [← hres.out, H1.out]; rfl), bl_drewN hb _⟩
      · have hx2 : (((⟨#[58, 46, 44, 40, 41, 123, 125, 61, 60, 62]⟩ : ByteArray)[7].toNat : Int) == (s[a].toNat : Int)) = false := u8_ne (n := 61) (by decide) hx
        have H1 := Lib.hid (show (oneL.take 8).contains s[a] = false by have := HC.out; simp [oneL] at this ⊢; simp [this, hx])
        clear hx
        go_wp2_with fail
        go_quiet (fail)
        go_wp2_with fail
        go_roundw
        case rel => exact ⟨8, by omega, rfl, H1.out, HH.out, bl_drewN hb _⟩
        case measure => simp [intOf]
    · clear hk
      by_cases hx : s[a] = 60
      · have hx2 : (((⟨#[58, 46, 44, 40, 41, 123, 125, 61, 60, 62]⟩ : ByteArray)[8].toNat : Int) == (s[a].toNat : Int)) = true := by rw [hx]; rfl
        have H1 := Lib.hid (show Lx.one s[a] = true by rw [hx]; rfl)
        clear hx
        go_wp2_with fail
        go_quiet (fail)
        go_wp2_with fail
        go_ret2
        exact ⟨ret_val (by rw [← hres.out, H1.out]; rfl), bl_drewN hb _⟩
      · have hx2 : (((⟨#[58, 46, 44, 40, 41, 123, 125, 61, 60, 62]⟩ : ByteArray)[8].toNat : Int) == (s[a].toNat : Int)) = false := u8_ne (n := 60) (by decide) hx
        have H1 := Lib.hid (show (oneL.take 9).contains s[a] = false by have := HC.out; simp [oneL] at this ⊢; simp [this, hx])
        clear hx
        go_wp2_with fail
        go_quiet (fail)
        go_wp2_with fail
        go_roundw
        case rel => exact ⟨9, by omega, rfl, H1.out, HH.out, bl_drewN hb _⟩
        case measure => simp [intOf]
    · clear hk
      by_cases hx : s[a] = 62
      · have hx2 : (((⟨#[58, 46, 44, 40, 41, 123, 125, 61, 60, 62]⟩ : ByteArray)[9].toNat : Int) == (s[a].toNat : Int)) = true := by rw [hx]; rfl
        have H1 := Lib.hid (show Lx.one s[a] = true by rw [hx]; rfl)
        clear hx
        go_wp2_with fail
        go_quiet (fail)
        go_wp2_with fail
        go_ret2
        exact ⟨ret_val (by rw [← hres.out, H1.out]; rfl), bl_drewN hb _⟩
      · have hx2 : (((⟨#[58, 46, 44, 40, 41, 123, 125, 61, 60, 62]⟩ : ByteArray)[9].toNat : Int) == (s[a].toNat : Int)) = false := u8_ne (n := 62) (by decide) hx
        have H1 := Lib.hid (show (oneL.take 10).contains s[a] = false by have := HC.out; simp [oneL] at this ⊢; simp [this, hx])
        clear hx
        go_wp2_with fail
        go_quiet (fail)
        go_wp2_with fail
        go_roundw
        case rel => exact ⟨10, by omega, rfl, H1.out, HH.out, bl_drewN hb _⟩
        case measure => simp [intOf]
    · rw [show ((10 : Nat) : Int) = 10 from rfl]
      go_wp2_with fail
      go_ret2
      exact ⟨ret_val (by rw [← hres.out, one_mem, show oneL.contains s[a] = false from HC.out]; rfl), hb⟩
set_option maxHeartbeats 2000000 in
theorem rsign_one (s : ByteArray) (a : Nat) (w : World) (hs : s.size ≤ 65536) (ha : a + 1 < s.size) (t1 : ((s.extract a (a + 2)).toList == [33, 61]) = false) (t2 : ((s.extract a (a + 2)).toList == [60, 61]) = false) (t3' : ((s.extract a (a + 2)).toList == [62, 61]) = false) (res : Value) (hres : Hid ((.tuple #[.int .i64 (if Lx.one s[a] then (a : Int) + 1 else 0), .bool (Lx.one s[a])] : Value) = res)) :
    Calls Try.prog 30 #[.string s, .int .i64 (a : Int)] w fun e w' => e = .returned res ∧ Below w.heap.size w w' := by
  have h6 := s[a].toNat_lt
  have q1 : decide ((a : Int) + 1 < (s.size : Int)) = true := by simp; omega
  have ha' : a < s.size := by omega
  go_enter Try.func30, Try.ntmps30
  go_wp2_with fail
  go_loopw [8] (RsRel s[a] w) (fun i _ => 10 - (intOf i).toNat)
  case atStart => exact ⟨0, by omega, rfl, rfl, rfl, Below.refl _ _⟩
  case round =>
    obtain ⟨k, hk, rfl, hc, hh, hb⟩ := hrel
    have HC := Lib.hid hc
    have HH := Lib.hid hh
    clear hc hh
    have hk' : k = 0 ∨ k = 1 ∨ k = 2 ∨ k = 3 ∨ k = 4 ∨ k = 5 ∨ k = 6 ∨ k = 7 ∨ k = 8 ∨ k = 9 ∨ k = 10 := by omega
    rcases hk' with rfl | rfl | rfl | rfl | rfl | rfl | rfl | rfl | rfl | rfl | rfl
    · clear hk
      by_cases hx : s[a] = 58
      · have hx2 : (((⟨#[58, 46, 44, 40, 41, 123, 125, 61, 60, 62]⟩ : ByteArray)[0].toNat : Int) == (s[a].toNat : Int)) = true := by rw [hx]; rfl
        have H1 := Lib.hid (show Lx.one s[a] = true by rw [hx]; rfl)
        clear hx
        go_wp2_with fail
        go_quiet (fail)
        go_wp2_with fail
        go_ret2
        exact ⟨ret_val (by rw [← hres.out, H1.out]; rfl), bl_drewN hb _⟩
      · have hx2 : (((⟨#[58, 46, 44, 40, 41, 123, 125, 61, 60, 62]⟩ : ByteArray)[0].toNat : Int) == (s[a].toNat : Int)) = false := u8_ne (n := 58) (by decide) hx
        have H1 := Lib.hid (show (oneL.take 1).contains s[a] = false by have := HC.out; simp [oneL] at this ⊢; simp [this, hx])
        clear hx
        go_wp2_with fail
        go_quiet (fail)
        go_wp2_with fail
        go_roundw
        case rel => exact ⟨1, by omega, rfl, H1.out, HH.out, bl_drewN hb _⟩
        case measure => simp [intOf]
    · clear hk
      by_cases hx : s[a] = 46
      · have hx2 : (((⟨#[58, 46, 44, 40, 41, 123, 125, 61, 60, 62]⟩ : ByteArray)[1].toNat : Int) == (s[a].toNat : Int)) = true := by rw [hx]; rfl
        have H1 := Lib.hid (show Lx.one s[a] = true by rw [hx]; rfl)
        clear hx
        go_wp2_with fail
        go_quiet (fail)
        go_wp2_with fail
        go_ret2
        exact ⟨ret_val (by rw [← hres.out, H1.out]; rfl), bl_drewN hb _⟩
      · have hx2 : (((⟨#[58, 46, 44, 40, 41, 123, 125, 61, 60, 62]⟩ : ByteArray)[1].toNat : Int) == (s[a].toNat : Int)) = false := u8_ne (n := 46) (by decide) hx
        have H1 := Lib.hid (show (oneL.take 2).contains s[a] = false by have := HC.out; simp [oneL] at this ⊢; simp [this, hx])
        clear hx
        go_wp2_with fail
        go_quiet (fail)
        go_wp2_with fail
        go_roundw
        case rel => exact ⟨2, by omega, rfl, H1.out, HH.out, bl_drewN hb _⟩
        case measure => simp [intOf]
    · clear hk
      by_cases hx : s[a] = 44
      · have hx2 : (((⟨#[58, 46, 44, 40, 41, 123, 125, 61, 60, 62]⟩ : ByteArray)[2].toNat : Int) == (s[a].toNat : Int)) = true := by rw [hx]; rfl
        have H1 := Lib.hid (show Lx.one s[a] = true by rw [hx]; rfl)
        clear hx
        go_wp2_with fail
        go_quiet (fail)
        go_wp2_with fail
        go_ret2
        exact ⟨ret_val (by rw [← hres.out, H1.out]; rfl), bl_drewN hb _⟩
      · have hx2 : (((⟨#[58, 46, 44, 40, 41, 123, 125, 61, 60, 62]⟩ : ByteArray)[2].toNat : Int) == (s[a].toNat : Int)) = false := u8_ne (n := 44) (by decide) hx
        have H1 := Lib.hid (show (oneL.take 3).contains s[a] = false by have := HC.out; simp [oneL] at this ⊢; simp [this, hx])
        clear hx
        go_wp2_with fail
        go_quiet (fail)
        go_wp2_with fail
        go_roundw
        case rel => exact ⟨3, by omega, rfl, H1.out, HH.out, bl_drewN hb _⟩
        case measure => simp [intOf]
    · clear hk
      by_cases hx : s[a] = 40
      · have hx2 : (((⟨#[58, 46, 44, 40, 41, 123, 125, 61, 60, 62]⟩ : ByteArray)[3].toNat : Int) == (s[a].toNat : Int)) = true := by rw [hx]; rfl
        have H1 := Lib.hid (show Lx.one s[a] = true by rw [hx]; rfl)
        clear hx
        go_wp2_with fail
        go_quiet (fail)
        go_wp2_with fail
        go_ret2
        exact ⟨ret_val (by rw [← hres.out, H1.out]; rfl), bl_drewN hb _⟩
      · have hx2 : (((⟨#[58, 46, 44, 40, 41, 123, 125, 61, 60, 62]⟩ : ByteArray)[3].toNat : Int) == (s[a].toNat : Int)) = false := u8_ne (n := 40) (by decide) hx
        have H1 := Lib.hid (show (oneL.take 4).contains s[a] = false by have := HC.out; simp [oneL] at this ⊢; simp [this, hx])
        clear hx
        go_wp2_with fail
        go_quiet (fail)
        go_wp2_with fail
        go_roundw
        case rel => exact ⟨4, by omega, rfl, H1.out, HH.out, bl_drewN hb _⟩
        case measure => simp [intOf]
    · clear hk
      by_cases hx : s[a] = 41
      · have hx2 : (((⟨#[58, 46, 44, 40, 41, 123, 125, 61, 60, 62]⟩ : ByteArray)[4].toNat : Int) == (s[a].toNat : Int)) = true := by rw [hx]; rfl
        have H1 := Lib.hid (show Lx.one s[a] = true by rw [hx]; rfl)
        clear hx
        go_wp2_with fail
        go_quiet (fail)
        go_wp2_with fail
        go_ret2
        exact ⟨ret_val (by rw [← hres.out, H1.out]; rfl), bl_drewN hb _⟩
      · have hx2 : (((⟨#[58, 46, 44, 40, 41, 123, 125, 61, 60, 62]⟩ : ByteArray)[4].toNat : Int) == (s[a].toNat : Int)) = false := u8_ne (n := 41) (by decide) hx
        have H1 := Lib.hid (show (oneL.take 5).contains s[a] = false by have := HC.out; simp [oneL] at this ⊢; simp [this, hx])
        clear hx
        go_wp2_with fail
        go_quiet (fail)
        go_wp2_with fail
        go_roundw
        case rel => exact ⟨5, by omega, rfl, H1.out, HH.out, bl_drewN hb _⟩
        case measure => simp [intOf]
    · clear hk
      by_cases hx : s[a] = 123
      · have hx2 : (((⟨#[58, 46, 44, 40, 41, 123, 125, 61, 60, 62]⟩ : ByteArray)[5].toNat : Int) == (s[a].toNat : Int)) = true := by rw [hx]; rfl
        have H1 := Lib.hid (show Lx.one s[a] = true by rw [hx]; rfl)
        clear hx
        go_wp2_with fail
        go_quiet (fail)
        go_wp2_with fail
        go_ret2
        exact ⟨ret_val (by rw [← hres.out, H1.out]; rfl), bl_drewN hb _⟩
      · have hx2 : (((⟨#[58, 46, 44, 40, 41, 123, 125, 61, 60, 62]⟩ : ByteArray)[5].toNat : Int) == (s[a].toNat : Int)) = false := u8_ne (n := 123) (by decide) hx
        have H1 := Lib.hid (show (oneL.take 6).contains s[a] = false by have := HC.out; simp [oneL] at this ⊢; simp [this, hx])
        clear hx
        go_wp2_with fail
        go_quiet (fail)
        go_wp2_with fail
        go_roundw
        case rel => exact ⟨6, by omega, rfl, H1.out, HH.out, bl_drewN hb _⟩
        case measure => simp [intOf]
    · clear hk
      by_cases hx : s[a] = 125
      · have hx2 : (((⟨#[58, 46, 44, 40, 41, 123, 125, 61, 60, 62]⟩ : ByteArray)[6].toNat : Int) == (s[a].toNat : Int)) = true := by rw [hx]; rfl
        have H1 := Lib.hid (show Lx.one s[a] = true by rw [hx]; rfl)
        clear hx
        go_wp2_with fail
        go_quiet (fail)
        go_wp2_with fail
        go_ret2
        exact ⟨ret_val (by rw [← hres.out, H1.out]; rfl), bl_drewN hb _⟩
      · have hx2 : (((⟨#[58, 46, 44, 40, 41, 123, 125, 61, 60, 62]⟩ : ByteArray)[6].toNat : Int) == (s[a].toNat : Int)) = false := u8_ne (n := 125) (by decide) hx
        have H1 := Lib.hid (show (oneL.take 7).contains s[a] = false by have := HC.out; simp [oneL] at this ⊢; simp [this, hx])
        clear hx
        go_wp2_with fail
        go_quiet (fail)
        go_wp2_with fail
        go_roundw
        case rel => exact ⟨7, by omega, rfl, H1.out, HH.out, bl_drewN hb _⟩
        case measure => simp [intOf]
    · clear hk
      by_cases hx : s[a] = 61
      · have hx2 : (((⟨#[58, 46, 44, 40, 41, 123, 125, 61, 60, 62]⟩ : ByteArray)[7].toNat : Int) == (s[a].toNat : Int)) = true := by rw [hx]; rfl
        have H1 := Lib.hid (show Lx.one s[a] = true by rw [hx]; rfl)
        clear hx
        go_wp2_with fail
        go_quiet (fail)
        go_wp2_with fail
        go_ret2
        exact ⟨ret_val (by rw [← hres.out, H1.out]; rfl), bl_drewN hb _⟩
      · have hx2 : (((⟨#[58, 46, 44, 40, 41, 123, 125, 61, 60, 62]⟩ : ByteArray)[7].toNat : Int) == (s[a].toNat : Int)) = false := u8_ne (n := 61) (by decide) hx
        have H1 := Lib.hid (show (oneL.take 8).contains s[a] = false by have := HC.out; simp [oneL] at this ⊢; simp [this, hx])
        clear hx
        go_wp2_with fail
        go_quiet (fail)
        go_wp2_with fail
        go_roundw
        case rel => exact ⟨8, by omega, rfl, H1.out, HH.out, bl_drewN hb _⟩
        case measure => simp [intOf]
    · clear hk
      by_cases hx : s[a] = 60
      · have hx2 : (((⟨#[58, 46, 44, 40, 41, 123, 125, 61, 60, 62]⟩ : ByteArray)[8].toNat : Int) == (s[a].toNat : Int)) = true := by rw [hx]; rfl
        have H1 := Lib.hid (show Lx.one s[a] = true by rw [hx]; rfl)
        clear hx
        go_wp2_with fail
        go_quiet (fail)
        go_wp2_with fail
        go_ret2
        exact ⟨ret_val (by rw [← hres.out, H1.out]; rfl), bl_drewN hb _⟩
      · have hx2 : (((⟨#[58, 46, 44, 40, 41, 123, 125, 61, 60, 62]⟩ : ByteArray)[8].toNat : Int) == (s[a].toNat : Int)) = false := u8_ne (n := 60) (by decide) hx
        have H1 := Lib.hid (show (oneL.take 9).contains s[a] = false by have := HC.out; simp [oneL] at this ⊢; simp [this, hx])
        clear hx
        go_wp2_with fail
        go_quiet (fail)
        go_wp2_with fail
        go_roundw
        case rel => exact ⟨9, by omega, rfl, H1.out, HH.out, bl_drewN hb _⟩
        case measure => simp [intOf]
    · clear hk
      by_cases hx : s[a] = 62
      · have hx2 : (((⟨#[58, 46, 44, 40, 41, 123, 125, 61, 60, 62]⟩ : ByteArray)[9].toNat : Int) == (s[a].toNat : Int)) = true := by rw [hx]; rfl
        have H1 := Lib.hid (show Lx.one s[a] = true by rw [hx]; rfl)
        clear hx
        go_wp2_with fail
        go_quiet (fail)
        go_wp2_with fail
        go_ret2
        exact ⟨ret_val (by rw [← hres.out, H1.out]; rfl), bl_drewN hb _⟩
      · have hx2 : (((⟨#[58, 46, 44, 40, 41, 123, 125, 61, 60, 62]⟩ : ByteArray)[9].toNat : Int) == (s[a].toNat : Int)) = false := u8_ne (n := 62) (by decide) hx
        have H1 := Lib.hid (show (oneL.take 10).contains s[a] = false by have := HC.out; simp [oneL] at this ⊢; simp [this, hx])
        clear hx
        go_wp2_with fail
        go_quiet (fail)
        go_wp2_with fail
        go_roundw
        case rel => exact ⟨10, by omega, rfl, H1.out, HH.out, bl_drewN hb _⟩
        case measure => simp [intOf]
    · rw [show ((10 : Nat) : Int) = 10 from rfl]
      go_wp2_with fail
      go_ret2
      exact ⟨ret_val (by rw [← hres.out, one_mem, show oneL.contains s[a] = false from HC.out]; rfl), hb⟩
theorem rsign_two0 (s : ByteArray) (a : Nat) (w : World) (hs : s.size ≤ 65536) (ha : a + 1 < s.size) (t1 : ((s.extract a (a + 2)).toList == [33, 61]) = true) :
    Calls Try.prog 30 #[.string s, .int .i64 (a : Int)] w fun e w' => e = .returned (.tuple #[.int .i64 ((a : Int) + 2), .bool true]) ∧ Below w.heap.size w w' := by
  have q1 : decide ((a : Int) + 1 < (s.size : Int)) = true := by simp; omega
  go_enter Try.func30, Try.ntmps30
  go_wp2_with fail
  go_ret2
  exact ⟨rfl, Below.refl _ _⟩
theorem rsign_two1 (s : ByteArray) (a : Nat) (w : World) (hs : s.size ≤ 65536) (ha : a + 1 < s.size) (t1 : ((s.extract a (a + 2)).toList == [33, 61]) = false) (t2 : ((s.extract a (a + 2)).toList == [60, 61]) = true) :
    Calls Try.prog 30 #[.string s, .int .i64 (a : Int)] w fun e w' => e = .returned (.tuple #[.int .i64 ((a : Int) + 2), .bool true]) ∧ Below w.heap.size w w' := by
  have q1 : decide ((a : Int) + 1 < (s.size : Int)) = true := by simp; omega
  go_enter Try.func30, Try.ntmps30
  go_wp2_with fail
  go_ret2
  exact ⟨rfl, Below.refl _ _⟩
theorem rsign_two2 (s : ByteArray) (a : Nat) (w : World) (hs : s.size ≤ 65536) (ha : a + 1 < s.size) (t1 : ((s.extract a (a + 2)).toList == [33, 61]) = false) (t2 : ((s.extract a (a + 2)).toList == [60, 61]) = false) (t3 : ((s.extract a (a + 2)).toList == [62, 61]) = true) :
    Calls Try.prog 30 #[.string s, .int .i64 (a : Int)] w fun e w' => e = .returned (.tuple #[.int .i64 ((a : Int) + 2), .bool true]) ∧ Below w.heap.size w w' := by
  have q1 : decide ((a : Int) + 1 < (s.size : Int)) = true := by simp; omega
  go_enter Try.func30, Try.ntmps30
  go_wp2_with fail
  go_ret2
  exact ⟨rfl, Below.refl _ _⟩
/-- sign as the plain lexer has it -/
def sgV (a n : Nat) : Value := .tuple #[.int .i64 (if n = 0 then 0 else (a : Int) + n), .bool (decide (n ≠ 0))]
theorem rsign_any (s : ByteArray) (a : Nat) (w : World) (hs : s.size ≤ 65536) (ha : a < s.size) : Calls Try.prog 30 #[.string s, .int .i64 (a : Int)] w fun e w' => e = .returned (sgV a (Lx.sg ((tl s).drop a))) ∧ Below w.heap.size w w' := by
  by_cases hlt : a + 1 < s.size
  · have hd : (tl s).drop a = s[a] :: s[a + 1] :: (tl s).drop (a + 2) := by rw [drop_cons s ha, drop_cons s hlt]
    have ht : (s.extract a (a + 2)).toList = [s[a], s[a + 1]] := by
      rw [toList_tl, tl_extract, hd, Nat.add_sub_cancel_left]; rfl
    by_cases h61 : s[a + 1] = 61
    · by_cases c1 : s[a] = 33
      · have hg : Lx.sg ((tl s).drop a) = 2 := by rw [hd, c1, h61]; rfl
        rw [hg]
        exact rsign_two0 s a w hs hlt (by rw [ht, c1, h61]; rfl)
      · by_cases c2 : s[a] = 60
        · have hg : Lx.sg ((tl s).drop a) = 2 := by rw [hd, c2, h61]; rfl
          rw [hg]
          exact rsign_two1 s a w hs hlt (by rw [ht, c2, h61]; rfl) (by rw [ht, c2, h61]; rfl)
        · by_cases c3 : s[a] = 62
          · have hg : Lx.sg ((tl s).drop a) = 2 := by rw [hd, c3, h61]; rfl
            rw [hg]
            exact rsign_two2 s a w hs hlt (by rw [ht, c3, h61]; rfl) (by rw [ht, c3, h61]; rfl) (by rw [ht, c3, h61]; rfl)
          · refine rsign_one s a w hs hlt (by rw [ht]; simp [c1]) (by rw [ht]; simp [c2]) (by rw [ht]; simp [c3]) _ (Lib.hid ?_)
            have hg : Lx.sg ((tl s).drop a) = if Lx.one s[a] then 1 else 0 := by rw [hd, Lx.sg, if_neg (by simp [Lx.two, c1, c2, c3])]
            rw [hg, sgV]
            cases Lx.one s[a] <;> rfl
    · refine rsign_one s a w hs hlt (by rw [ht]; simp [h61]) (by rw [ht]; simp [h61]) (by rw [ht]; simp [h61]) _ (Lib.hid ?_)
      have hg : Lx.sg ((tl s).drop a) = if Lx.one s[a] then 1 else 0 := by rw [hd, Lx.sg, if_neg (by simp [Lx.two, h61])]
      rw [hg, sgV]
      cases Lx.one s[a] <;> rfl
  · have hd : (tl s).drop a = [s[a]] := by rw [drop_cons s ha, List.drop_eq_nil_of_le (by rw [length_tl]; omega)]
    refine rsign_end s a w hs ha (Lib.hid (by omega)) _ (Lib.hid ?_)
    rw [hd, Lx.sg, sgV]
    cases Lx.one s[a] <;> rfl
end Go.Proofs.Ytbepmakohjpioaa
