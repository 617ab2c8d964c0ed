/-
  The lexer: keywords, the range of numbers, signs.
-/
import Derived.Test.YtminghdnclpocaaGreatDoorLxW1
import Derived.Lib.ConvBytes
namespace Go.Proofs.YtminghdnclpocaaGreatDoor
open Go.RowKit
set_option linter.unusedVariables false

theorem kw_or (s : ByteArray) : Lx.kw (tl s) = ((s.toList == [112, 111, 108, 105, 99, 121]) || (s.toList == [117, 115, 101, 115]) || (s.toList == [114, 101, 118, 101, 97, 108]) || (s.toList == [112, 114, 111, 118, 101]) || (s.toList == [115, 99, 111, 112, 101]) || (s.toList == [108, 105, 109, 105, 116]) || (s.toList == [101, 115, 99, 114, 111, 119]) || (s.toList == [101, 110, 100]) || (s.toList == [97, 108, 108]) || (s.toList == [97, 110, 121]) || (s.toList == [97, 116, 108, 101, 97, 115, 116]) || (s.toList == [110, 111, 116]) || (s.toList == [116, 114, 117, 101]) || (s.toList == [102, 97, 108, 115, 101]) || (s.toList == [98, 101, 116, 119, 101, 101, 110]) || (s.toList == [97, 110, 100]) || (s.toList == [105, 110])) := by
  rw [toList_tl]
  simp only [Lx.kw, Lx.kws, List.contains_cons, List.contains_nil, Bool.or_false, Bool.or_assoc]
set_option maxHeartbeats 1000000 in
theorem keyword_any (s : ByteArray) (w : World) : Calls Tryz.prog 75 #[.string s] w fun e w' => e = .returned (.bool (Lx.kw (tl s))) ∧ w' = w := by
  go_enter Tryz.func75, Tryz.ntmps75
  go_wp2
  all_goals
    go_ret
    refine ⟨ret_bool ?_, rfl⟩
    rw [kw_or]
    first | (simp only [*, Bool.or_true, Bool.true_or, Bool.or_false]; done) | simp_all
/-- number: the value of digits against a limit -/
def NumRel (s : ByteArray) (lim : Nat) (W0 : World) (n i : Value) (W : World) : Prop := ∃ k : Nat, k ≤ s.size ∧ i = .int .i64 (k : Int) ∧ n = .int .i64 (Lx.dv ((tl s).take k) : Int) ∧ Lx.dv ((tl s).take k) ≤ lim ∧ W = W0
theorem bytes_below {w0 w : World} {B : Nat} (h : Below B w0 w) (hB : B ≤ w.heap.size) (e : TypeId) (s : ByteArray) : Below B w0 (Lib.bytesWorld w e s) :=
  h.trans ⟨rfl, rfl, rfl, by rw [Lib.bytesWorld_size]; omega, fun k hk => Lib.bytesWorld_at_old w e s k (by omega)⟩
theorem bytes_at {w : World} {e : TypeId} {s : ByteArray} {k : Nat} (h : k < s.size) : (Lib.bytesWorld w e s).cell? ⟨w.heap.size, k, none⟩ = some (.int .u8 (s[k].toNat : Int)) := by
  rw [Lib.bytesWorld_cell w e s k h]
  have h2 := tl_getElem s k h
  have h3 : k < (tl s).length := by rw [length_tl]; exact h
  rw [show s.data.toList.getD k 0 = (tl s)[k] from by rw [List.getD_eq_getElem?_getD, List.getElem?_eq_getElem h3]; rfl, h2]
theorem dv_next (s : ByteArray) (k : Nat) (h : k < s.size) (hd : Lx.isDig s[k] = true) : (Lx.dv ((tl s).take (k + 1)) : Int) = 10 * (Lx.dv ((tl s).take k) : Int) + ((s[k].toNat : Int) - 48) := by
  rw [take_snoc s k h, Lx.dv_snoc]
  have : 48 ≤ s[k].toNat := by
    simp [Lx.isDig, UInt8.le_iff_toNat_le] at hd
    exact hd.1
  omega
theorem dig_range {c : UInt8} (h : Lx.isDig c = true) : 48 ≤ c.toNat ∧ c.toNat ≤ 57 := by
  simp [Lx.isDig, UInt8.le_iff_toNat_le] at h
  exact h
theorem num_plain (s : ByteArray) (w : World) (h0 : 0 < s.size) (hs : s.size ≤ 65536) (hc : decide ((s[0].toNat : Int) = 45) = false) (hD : Hid (∀ k (h : k < s.size), Lx.isDig s[k] = true)) :
    Calls Tryz.prog 78 #[.string s] w fun e w' => e = .returned (.bool (decide (Lx.dv (tl s) ≤ 2147483647))) ∧ Below w.heap.size w w' := by
  have hcv := fun W => Lib.run_convert_string_bytes (P := Tryz.prog) W 9 117 5 s Tryz.underlying9 Tryz.underlying117 Tryz.underlying5
  have hc2 : ((s[0].toNat : Int) == 45) = false := by simpa using hc
  go_enter Tryz.func78, Tryz.ntmps78
  go_wp2
  clear hcv
  go_loopw [4, 17] (NumRel s 2147483647 (Lib.bytesWorld w 5 s)) (fun _ i _ => s.size - (intOf i).toNat)
  case atStart => exact ⟨0, Nat.zero_le _, rfl, rfl, by simp [Lx.dv], rfl⟩
  case round =>
    obtain ⟨k, hk, rfl, rfl, hle, rfl⟩ := hrel
    have hb := bytes_below (Below.refl w.heap.size w) (Nat.le_refl _) 5 s
    by_cases hlt : k < s.size
    · have hcell := bytes_at (w := w) (e := 5) hlt
      have hdg := dig_range (hD.out k hlt)
      have hnx := Lib.hid (dv_next s k hlt (hD.out k hlt))
      generalize Lx.dv ((tl s).take k) = n at *
      go_wp2
      · go_ret
        refine ⟨ret_bool ?_, hb⟩
        have h8 := hnx.out
        have h9 : 2147483647 < Lx.dv ((tl s).take (k + 1)) := by omega
        have h10 := Lx.dv_mono ((tl s).take (k + 1)) ((tl s).drop (k + 1))
        rw [List.take_append_drop] at h10
        symm
        rw [decide_eq_false_iff_not]
        omega
      · go_roundw
        case rel =>
          have h8 := hnx.out
          have h9 : Lx.dv ((tl s).take (k + 1)) ≤ 2147483647 := by omega
          exact ⟨k + 1, by omega, by simp, val_int h8.symm, h9, rfl⟩
        case measure => simp [intOf]; omega
    · go_wp2
      go_ret
      refine ⟨ret_bool ?_, hb⟩
      rw [List.take_of_length_le (by rw [length_tl]; omega)] at hle
      symm
      rw [decide_eq_true_iff]
      exact hle
theorem num_minus (s r : ByteArray) (w : World) (h0 : 0 < s.size) (hs : s.size ≤ 65536) (hr : Hid (s.extract 1 s.size = r)) (hrs : r.size ≤ 65536) (hc : decide ((s[0].toNat : Int) = 45) = true) (hD : Hid (∀ k (h : k < r.size), Lx.isDig r[k] = true)) :
    Calls Tryz.prog 78 #[.string s] w fun e w' => e = .returned (.bool (decide (Lx.dv (tl r) ≤ 2147483648))) ∧ Below w.heap.size w w' := by
  have hcv := fun W => Lib.run_convert_string_bytes (P := Tryz.prog) W 9 117 5 r Tryz.underlying9 Tryz.underlying117 Tryz.underlying5
  have hc2 : ((s[0].toNat : Int) == 45) = true := by simpa using hc
  go_enter Tryz.func78, Tryz.ntmps78
  have hr2 := hr.out
  go_wp2
  clear hcv hr2
  go_loopw [4, 17] (NumRel r 2147483648 (Lib.bytesWorld w 5 r)) (fun _ i _ => r.size - (intOf i).toNat)
  case atStart => exact ⟨0, Nat.zero_le _, rfl, rfl, by simp [Lx.dv], rfl⟩
  case round =>
    obtain ⟨k, hk, rfl, rfl, hle, rfl⟩ := hrel
    have hb := bytes_below (Below.refl w.heap.size w) (Nat.le_refl _) 5 r
    by_cases hlt : k < r.size
    · have hcell := bytes_at (w := w) (e := 5) hlt
      have hdg := dig_range (hD.out k hlt)
      have hnx := Lib.hid (dv_next r k hlt (hD.out k hlt))
      generalize Lx.dv ((tl r).take k) = n at *
      go_wp2
      · go_ret
        refine ⟨ret_bool ?_, hb⟩
        have h8 := hnx.out
        have h9 : 2147483648 < Lx.dv ((tl r).take (k + 1)) := by omega
        have h10 := Lx.dv_mono ((tl r).take (k + 1)) ((tl r).drop (k + 1))
        rw [List.take_append_drop] at h10
        symm
        rw [decide_eq_false_iff_not]
        omega
      · go_roundw
        case rel =>
          have h8 := hnx.out
          have h9 : Lx.dv ((tl r).take (k + 1)) ≤ 2147483648 := by omega
          exact ⟨k + 1, by omega, by simp, val_int h8.symm, h9, rfl⟩
        case measure => simp [intOf]; omega
    · go_wp2
      go_ret
      refine ⟨ret_bool ?_, hb⟩
      rw [List.take_of_length_le (by rw [length_tl]; omega)] at hle
      symm
      rw [decide_eq_true_iff]
      exact hle
def SG : List (List UInt8) := [[33, 61], [60, 61], [62, 61], [61], [60], [62], [58], [46], [44], [40], [41], [123], [125]]
/-- the length of the first of some strings with which a string begins, or 0 -/
def fs : List (List UInt8) → List UInt8 → Nat
  | [], _ => 0
  | x :: r, l => if Lib.hasPrefix l x then x.length else fs r l
theorem fs_sg (l : List UInt8) : fs SG l = Lx.sg l := by
  match l with
  | [] => rfl
  | [c] => simpa using all_bytes (fun c => fs SG [c] == Lx.sg [c]) (by decide +kernel) c
  | c :: d :: r =>
    by_cases hd : d = 61
    · subst hd
      have h1 : fs SG (c :: 61 :: r) = fs SG [c, 61] := rfl
      have h2 : Lx.sg (c :: 61 :: r) = Lx.sg [c, 61] := rfl
      rw [h1, h2]
      simpa using all_bytes (fun c => fs SG [c, 61] == Lx.sg [c, 61]) (by decide +kernel) c
    · have h3 : ((61 : UInt8) == d) = false := by simpa using fun h => hd h.symm
      have h4 : (d == 61) = false := by simpa using hd
      have h1 : fs SG (c :: d :: r) = fs SG [c] := by
        simp only [SG, fs, Lib.hasPrefix, List.isPrefixOf, h3, Bool.and_false, Bool.and_true]
      have h2 : Lx.sg (c :: d :: r) = Lx.sg [c] := by simp only [Lx.sg, Lx.two, h4, Bool.false_and, Bool.false_eq_true, if_false]
      rw [h1, h2]
      simpa using all_bytes (fun c => fs SG [c] == Lx.sg [c]) (by decide +kernel) c
def SgRel (s : ByteArray) (w : World) (i : Value) (W : World) : Prop := ∃ k : Nat, k ≤ 13 ∧ i = .int .i64 (k : Int) ∧ Lx.sg (tl s) = fs (SG.drop k) (tl s) ∧ W = w
def SGv : Array Value := #[.string ⟨#[33, 61]⟩, .string ⟨#[60, 61]⟩, .string ⟨#[62, 61]⟩, .string ⟨#[61]⟩, .string ⟨#[60]⟩, .string ⟨#[62]⟩, .string ⟨#[58]⟩, .string ⟨#[46]⟩, .string ⟨#[44]⟩, .string ⟨#[40]⟩, .string ⟨#[41]⟩, .string ⟨#[123]⟩, .string ⟨#[125]⟩]
theorem hpre (s p : ByteArray) (v : Bool) (w : World) (h : Lib.hasPrefix (tl s) p.data.toList = v) : Calls Tryz.prog 106 #[.string s, .string p] w fun e w' => e = .returned (.bool v) ∧ w' = w :=
  (Tryz.strings_HasPrefix s p w).mono fun e w' ⟨he, hw⟩ => ⟨by rw [he]; exact ret_bool h, hw⟩
theorem sign_any (s : ByteArray) (w : World) : Calls Tryz.prog 79 #[.string s] w fun e w' => e = .returned (.int .i64 (Lx.sg (tl s) : Int)) ∧ w' = w := by
  go_enter Tryz.func79, Tryz.ntmps79
  go_wp2
  go_loopw [6] (SgRel s w) (fun i _ => 13 - (intOf i).toNat)
  case atStart => exact ⟨0, by omega, rfl, (fs_sg _).symm, rfl⟩
  case round =>
    obtain ⟨k, hk, rfl, he, rfl⟩ := hrel
    have HE := Lib.hid he
    clear he
    have hk' : k = 0 ∨ k = 1 ∨ k = 2 ∨ k = 3 ∨ k = 4 ∨ k = 5 ∨ k = 6 ∨ k = 7 ∨ k = 8 ∨ k = 9 ∨ k = 10 ∨ k = 11 ∨ k = 12 ∨ k = 13 := by omega
    rcases hk' with rfl | rfl | rfl | rfl | rfl | rfl | rfl | rfl | rfl | rfl | rfl | rfl | rfl | rfl
    · clear hk
      have hix : ∀ W : World, (Instr.index 138 (.agg SGv) (.int .i64 0)).run Tryz.prog W = .ok (.string ⟨#[33, 61]⟩) W := fun _ => by kernel_rfl
      unfold SGv at hix
      cases hp : Lib.hasPrefix (tl s) [33, 61] with
      | true =>
        go_wp2_with ((with_reducible refine (hpre s ⟨#[33, 61]⟩ true _ hp).mono ?_); rintro e w1 ⟨rfl, rfl⟩)
        go_ret
        exact ⟨ret_int (by rw [HE.out]; simp [SG, fs, hp]), rfl⟩
      | false =>
        go_wp2_with ((with_reducible refine (hpre s ⟨#[33, 61]⟩ false _ hp).mono ?_); rintro e w1 ⟨rfl, rfl⟩)
        go_roundw
        case rel => exact ⟨1, by omega, rfl, by rw [HE.out]; simp [SG, fs, hp], rfl⟩
        case measure => simp [intOf]
    · clear hk
      have hix : ∀ W : World, (Instr.index 138 (.agg SGv) (.int .i64 1)).run Tryz.prog W = .ok (.string ⟨#[60, 61]⟩) W := fun _ => by kernel_rfl
      unfold SGv at hix
      cases hp : Lib.hasPrefix (tl s) [60, 61] with
      | true =>
        go_wp2_with ((with_reducible refine (hpre s ⟨#[60, 61]⟩ true _ hp).mono ?_); rintro e w1 ⟨rfl, rfl⟩)
        go_ret
        exact ⟨ret_int (by rw [HE.out]; simp [SG, fs, hp]), rfl⟩
      | false =>
        go_wp2_with ((with_reducible refine (hpre s ⟨#[60, 61]⟩ false _ hp).mono ?_); rintro e w1 ⟨rfl, rfl⟩)
        go_roundw
        case rel => exact ⟨2, by omega, rfl, by rw [HE.out]; simp [SG, fs, hp], rfl⟩
        case measure => simp [intOf]
    · clear hk
      have hix : ∀ W : World, (Instr.index 138 (.agg SGv) (.int .i64 2)).run Tryz.prog W = .ok (.string ⟨#[62, 61]⟩) W := fun _ => by kernel_rfl
      unfold SGv at hix
      cases hp : Lib.hasPrefix (tl s) [62, 61] with
      | true =>
        go_wp2_with ((with_reducible refine (hpre s ⟨#[62, 61]⟩ true _ hp).mono ?_); rintro e w1 ⟨rfl, rfl⟩)
        go_ret
        exact ⟨ret_int (by rw [HE.out]; simp [SG, fs, hp]), rfl⟩
      | false =>
        go_wp2_with ((with_reducible refine (hpre s ⟨#[62, 61]⟩ false _ hp).mono ?_); rintro e w1 ⟨rfl, rfl⟩)
        go_roundw
        case rel => exact ⟨3, by omega, rfl, by rw [HE.out]; simp [SG, fs, hp], rfl⟩
        case measure => simp [intOf]
    · clear hk
      have hix : ∀ W : World, (Instr.index 138 (.agg SGv) (.int .i64 3)).run Tryz.prog W = .ok (.string ⟨#[61]⟩) W := fun _ => by kernel_rfl
      unfold SGv at hix
      cases hp : Lib.hasPrefix (tl s) [61] with
      | true =>
        go_wp2_with ((with_reducible refine (hpre s ⟨#[61]⟩ true _ hp).mono ?_); rintro e w1 ⟨rfl, rfl⟩)
        go_ret
        exact ⟨ret_int (by rw [HE.out]; simp [SG, fs, hp]), rfl⟩
      | false =>
        go_wp2_with ((with_reducible refine (hpre s ⟨#[61]⟩ false _ hp).mono ?_); rintro e w1 ⟨rfl, rfl⟩)
        go_roundw
        case rel => exact ⟨4, by omega, rfl, by rw [HE.out]; simp [SG, fs, hp], rfl⟩
        case measure => simp [intOf]
    · clear hk
      have hix : ∀ W : World, (Instr.index 138 (.agg SGv) (.int .i64 4)).run Tryz.prog W = .ok (.string ⟨#[60]⟩) W := fun _ => by kernel_rfl
      unfold SGv at hix
      cases hp : Lib.hasPrefix (tl s) [60] with
      | true =>
        go_wp2_with ((with_reducible refine (hpre s ⟨#[60]⟩ true _ hp).mono ?_); rintro e w1 ⟨rfl, rfl⟩)
        go_ret
        exact ⟨ret_int (by rw [HE.out]; simp [SG, fs, hp]), rfl⟩
      | false =>
        go_wp2_with ((with_reducible refine (hpre s ⟨#[60]⟩ false _ hp).mono ?_); rintro e w1 ⟨rfl, rfl⟩)
        go_roundw
        case rel => exact ⟨5, by omega, rfl, by rw [HE.out]; simp [SG, fs, hp], rfl⟩
        case measure => simp [intOf]
    · clear hk
      have hix : ∀ W : World, (Instr.index 138 (.agg SGv) (.int .i64 5)).run Tryz.prog W = .ok (.string ⟨#[62]⟩) W := fun _ => by kernel_rfl
      unfold SGv at hix
      cases hp : Lib.hasPrefix (tl s) [62] with
      | true =>
        go_wp2_with ((with_reducible refine (hpre s ⟨#[62]⟩ true _ hp).mono ?_); rintro e w1 ⟨rfl, rfl⟩)
        go_ret
        exact ⟨ret_int (by rw [HE.out]; simp [SG, fs, hp]), rfl⟩
      | false =>
        go_wp2_with ((with_reducible refine (hpre s ⟨#[62]⟩ false _ hp).mono ?_); rintro e w1 ⟨rfl, rfl⟩)
        go_roundw
        case rel => exact ⟨6, by omega, rfl, by rw [HE.out]; simp [SG, fs, hp], rfl⟩
        case measure => simp [intOf]
    · clear hk
      have hix : ∀ W : World, (Instr.index 138 (.agg SGv) (.int .i64 6)).run Tryz.prog W = .ok (.string ⟨#[58]⟩) W := fun _ => by kernel_rfl
      unfold SGv at hix
      cases hp : Lib.hasPrefix (tl s) [58] with
      | true =>
        go_wp2_with ((with_reducible refine (hpre s ⟨#[58]⟩ true _ hp).mono ?_); rintro e w1 ⟨rfl, rfl⟩)
        go_ret
        exact ⟨ret_int (by rw [HE.out]; simp [SG, fs, hp]), rfl⟩
      | false =>
        go_wp2_with ((with_reducible refine (hpre s ⟨#[58]⟩ false _ hp).mono ?_); rintro e w1 ⟨rfl, rfl⟩)
        go_roundw
        case rel => exact ⟨7, by omega, rfl, by rw [HE.out]; simp [SG, fs, hp], rfl⟩
        case measure => simp [intOf]
    · clear hk
      have hix : ∀ W : World, (Instr.index 138 (.agg SGv) (.int .i64 7)).run Tryz.prog W = .ok (.string ⟨#[46]⟩) W := fun _ => by kernel_rfl
      unfold SGv at hix
      cases hp : Lib.hasPrefix (tl s) [46] with
      | true =>
        go_wp2_with ((with_reducible refine (hpre s ⟨#[46]⟩ true _ hp).mono ?_); rintro e w1 ⟨rfl, rfl⟩)
        go_ret
        exact ⟨ret_int (by rw [HE.out]; simp [SG, fs, hp]), rfl⟩
      | false =>
        go_wp2_with ((with_reducible refine (hpre s ⟨#[46]⟩ false _ hp).mono ?_); rintro e w1 ⟨rfl, rfl⟩)
        go_roundw
        case rel => exact ⟨8, by omega, rfl, by rw [HE.out]; simp [SG, fs, hp], rfl⟩
        case measure => simp [intOf]
    · clear hk
      have hix : ∀ W : World, (Instr.index 138 (.agg SGv) (.int .i64 8)).run Tryz.prog W = .ok (.string ⟨#[44]⟩) W := fun _ => by kernel_rfl
      unfold SGv at hix
      cases hp : Lib.hasPrefix (tl s) [44] with
      | true =>
        go_wp2_with ((with_reducible refine (hpre s ⟨#[44]⟩ true _ hp).mono ?_); rintro e w1 ⟨rfl, rfl⟩)
        go_ret
        exact ⟨ret_int (by rw [HE.out]; simp [SG, fs, hp]), rfl⟩
      | false =>
        go_wp2_with ((with_reducible refine (hpre s ⟨#[44]⟩ false _ hp).mono ?_); rintro e w1 ⟨rfl, rfl⟩)
        go_roundw
        case rel => exact ⟨9, by omega, rfl, by rw [HE.out]; simp [SG, fs, hp], rfl⟩
        case measure => simp [intOf]
    · clear hk
      have hix : ∀ W : World, (Instr.index 138 (.agg SGv) (.int .i64 9)).run Tryz.prog W = .ok (.string ⟨#[40]⟩) W := fun _ => by kernel_rfl
      unfold SGv at hix
      cases hp : Lib.hasPrefix (tl s) [40] with
      | true =>
        go_wp2_with ((with_reducible refine (hpre s ⟨#[40]⟩ true _ hp).mono ?_); rintro e w1 ⟨rfl, rfl⟩)
        go_ret
        exact ⟨ret_int (by rw [HE.out]; simp [SG, fs, hp]), rfl⟩
      | false =>
        go_wp2_with ((with_reducible refine (hpre s ⟨#[40]⟩ false _ hp).mono ?_); rintro e w1 ⟨rfl, rfl⟩)
        go_roundw
        case rel => exact ⟨10, by omega, rfl, by rw [HE.out]; simp [SG, fs, hp], rfl⟩
        case measure => simp [intOf]
    · clear hk
      have hix : ∀ W : World, (Instr.index 138 (.agg SGv) (.int .i64 10)).run Tryz.prog W = .ok (.string ⟨#[41]⟩) W := fun _ => by kernel_rfl
      unfold SGv at hix
      cases hp : Lib.hasPrefix (tl s) [41] with
      | true =>
        go_wp2_with ((with_reducible refine (hpre s ⟨#[41]⟩ true _ hp).mono ?_); rintro e w1 ⟨rfl, rfl⟩)
        go_ret
        exact ⟨ret_int (by rw [HE.out]; simp [SG, fs, hp]), rfl⟩
      | false =>
        go_wp2_with ((with_reducible refine (hpre s ⟨#[41]⟩ false _ hp).mono ?_); rintro e w1 ⟨rfl, rfl⟩)
        go_roundw
        case rel => exact ⟨11, by omega, rfl, by rw [HE.out]; simp [SG, fs, hp], rfl⟩
        case measure => simp [intOf]
    · clear hk
      have hix : ∀ W : World, (Instr.index 138 (.agg SGv) (.int .i64 11)).run Tryz.prog W = .ok (.string ⟨#[123]⟩) W := fun _ => by kernel_rfl
      unfold SGv at hix
      cases hp : Lib.hasPrefix (tl s) [123] with
      | true =>
        go_wp2_with ((with_reducible refine (hpre s ⟨#[123]⟩ true _ hp).mono ?_); rintro e w1 ⟨rfl, rfl⟩)
        go_ret
        exact ⟨ret_int (by rw [HE.out]; simp [SG, fs, hp]), rfl⟩
      | false =>
        go_wp2_with ((with_reducible refine (hpre s ⟨#[123]⟩ false _ hp).mono ?_); rintro e w1 ⟨rfl, rfl⟩)
        go_roundw
        case rel => exact ⟨12, by omega, rfl, by rw [HE.out]; simp [SG, fs, hp], rfl⟩
        case measure => simp [intOf]
    · clear hk
      have hix : ∀ W : World, (Instr.index 138 (.agg SGv) (.int .i64 12)).run Tryz.prog W = .ok (.string ⟨#[125]⟩) W := fun _ => by kernel_rfl
      unfold SGv at hix
      cases hp : Lib.hasPrefix (tl s) [125] with
      | true =>
        go_wp2_with ((with_reducible refine (hpre s ⟨#[125]⟩ true _ hp).mono ?_); rintro e w1 ⟨rfl, rfl⟩)
        go_ret
        exact ⟨ret_int (by rw [HE.out]; simp [SG, fs, hp]), rfl⟩
      | false =>
        go_wp2_with ((with_reducible refine (hpre s ⟨#[125]⟩ false _ hp).mono ?_); rintro e w1 ⟨rfl, rfl⟩)
        go_roundw
        case rel => exact ⟨13, by omega, rfl, by rw [HE.out]; simp [SG, fs, hp], rfl⟩
        case measure => simp [intOf]
    · go_wp2_with fail
      go_ret
      exact ⟨ret_int (by rw [HE.out]; rfl), rfl⟩
end Go.Proofs.YtminghdnclpocaaGreatDoor
