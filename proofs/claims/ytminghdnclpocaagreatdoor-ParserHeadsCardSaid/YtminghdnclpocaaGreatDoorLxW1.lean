/-
  The lexer's classes of bytes: the closures on classes, the scanner's memory, while.
-/
import Derived.Test.YtminghdnclpocaaGreatDoorArr
import Derived.Test.YtminghdnclpocaaGreatDoorLexQ
import Derived.Test.YtminghdnclpocaaGreatDoorShelf
import Derived.Deep.QuietTactic
import Derived.BigQuiet
import Derived.LoopTactic
import Derived.Outline
namespace Go.Proofs.YtminghdnclpocaaGreatDoor
open Go.RowKit
set_option linter.unusedVariables false

def clsN (n : Nat) : Nat := if n = 32 ∨ n = 9 ∨ n = 13 ∨ n = 10 then 1 else if (97 ≤ n ∧ n ≤ 122) ∨ (65 ≤ n ∧ n ≤ 90) then 2 else if 48 ≤ n ∧ n ≤ 57 then 3 else if n = 95 then 4 else if n = 45 then 5 else 0
def clsV (n : Nat) : Value := .int .u8 (clsN n : Int)
def tabV : List Value := (List.range 256).map clsV
theorem all_bytes (P : UInt8 → Bool) (h : (List.range 256).all (fun n => P (UInt8.ofNat n)) = true) (c : UInt8) : P c = true := by
  have h1 := List.all_eq_true.1 h c.toNat (List.mem_range.2 c.toNat_lt)
  simpa using h1
theorem cls_sp (c : UInt8) : Lx.isSp c = decide (clsN c.toNat = 1) := by
  simpa using all_bytes (fun c => Lx.isSp c == decide (clsN c.toNat = 1)) (by decide +kernel) c
theorem cls_let (c : UInt8) : Lx.isLet c = decide (clsN c.toNat = 2) := by
  simpa using all_bytes (fun c => Lx.isLet c == decide (clsN c.toNat = 2)) (by decide +kernel) c
theorem cls_dig (c : UInt8) : Lx.isDig c = decide (clsN c.toNat = 3) := by
  simpa using all_bytes (fun c => Lx.isDig c == decide (clsN c.toNat = 3)) (by decide +kernel) c
theorem cls_nm (c : UInt8) : Lx.isNm c = decide (clsN c.toNat = 2 ∨ clsN c.toNat = 3 ∨ clsN c.toNat = 4) := by
  simpa using all_bytes (fun c => Lx.isNm c == decide (clsN c.toNat = 2 ∨ clsN c.toNat = 3 ∨ clsN c.toNat = 4)) (by decide +kernel) c
theorem cls_wd (c : UInt8) : Lx.isWd c = decide (clsN c.toNat = 2 ∨ clsN c.toNat = 3 ∨ clsN c.toNat = 4 ∨ clsN c.toNat = 5) := by
  simpa using all_bytes (fun c => Lx.isWd c == decide (clsN c.toNat = 2 ∨ clsN c.toNat = 3 ∨ clsN c.toNat = 4 ∨ clsN c.toNat = 5)) (by decide +kernel) c
theorem cls_lu (c : UInt8) : Lx.isLU c = decide (clsN c.toNat = 2 ∨ clsN c.toNat = 4) := by
  simpa using all_bytes (fun c => Lx.isLU c == decide (clsN c.toNat = 2 ∨ clsN c.toNat = 4)) (by decide +kernel) c
theorem clsN_le (n : Nat) : clsN n ≤ 5 := by
  unfold clsN
  iterate 5 (split; omega)
  omega
theorem tabV_at (c : UInt8) : tabV[c.toNat]? = some (clsV c.toNat) := by
  have := c.toNat_lt
  simp [tabV, this]

/-- the scanner's cells -/
def scnL (s : ByteArray) (a : Nat) : List Value := .string s :: (tabV ++ [.int .i64 (a : Int)])
theorem scnL_0 (s : ByteArray) (a : Nat) : (scnL s a)[0]? = some (.string s) := rfl
theorem scnL_cls (s : ByteArray) (a : Nat) (c : UInt8) : (scnL s a)[1 + c.toNat]? = some (.int .u8 (clsN c.toNat : Int)) := by
  have h := c.toNat_lt
  have h2 : tabV.length = 256 := by simp [tabV]
  rw [scnL, show 1 + c.toNat = c.toNat + 1 by omega, List.getElem?_cons_succ, List.getElem?_append_left (by omega), tabV_at]
  rfl
theorem scnL_at (s : ByteArray) (a : Nat) : (scnL s a)[257]? = some (.int .i64 (a : Int)) := by
  have h2 : tabV.length = 256 := by simp [tabV]
  rw [scnL, List.getElem?_cons_succ, List.getElem?_append_right (by omega), h2]
  rfl
theorem scnL_set (s : ByteArray) (a b : Nat) : (scnL s a).set 257 (.int .i64 (b : Int)) = scnL s b := by
  have h2 : tabV.length = 256 := by simp [tabV]
  rw [scnL, List.set_cons_succ, List.set_append_right _ _ (by omega), h2]
  rfl
abbrev Scn (w : World) (g : Nat) (s : ByteArray) (a : Nat) : Prop := Blk w g 76 (scnL s a)

theorem named_any (k : Nat) (w : World) : Calls Tryz.prog 74 #[.int .u8 (k : Int)] w fun e w' => e = .returned (.bool (decide (k = 2 ∨ k = 3 ∨ k = 4))) ∧ w' = w := by
  by_cases h2 : (k : Int) = 2
  · have h2' : decide ((k : Int) = 2) = true := by simpa using h2
    go_enter Tryz.func74, Tryz.ntmps74
    go_wp2
    go_ret
    exact ⟨ret_bool (by symm; rw [decide_eq_true_iff]; omega), rfl⟩
  · by_cases h3 : (k : Int) = 3
    · go_enter Tryz.func74, Tryz.ntmps74
      go_wp2
      go_ret
      exact ⟨ret_bool (by symm; rw [decide_eq_true_iff]; omega), rfl⟩
    · go_enter Tryz.func74, Tryz.ntmps74
      go_wp2
      go_ret
      exact ⟨ret_bool (by rw [Bool.eq_iff_iff]; simp; omega), rfl⟩
theorem wd_any (k : Nat) (w : World) : Calls Tryz.prog 76 #[.int .u8 (k : Int)] w fun e w' => e = .returned (.bool (decide (k = 2 ∨ k = 3 ∨ k = 4 ∨ k = 5))) ∧ w' = w := by
  by_cases h2 : k = 2 ∨ k = 3 ∨ k = 4
  · have H := Lib.hid h2
    clear h2
    have hd : decide (k = 2 ∨ k = 3 ∨ k = 4) = true := by simpa using H.out
    go_enter Tryz.func76, Tryz.ntmps76
    go_wp2_with fail
    refine (named_any k _).mono ?_
    rintro e w1 ⟨rfl, rfl⟩
    rw [hd]
    go_wp2_with fail
    go_ret
    exact ⟨ret_bool (by symm; rw [decide_eq_true_iff]; have := H.out; omega), rfl⟩
  · have H := Lib.hid h2
    clear h2
    have hd : decide (k = 2 ∨ k = 3 ∨ k = 4) = false := by simpa using H.out
    go_enter Tryz.func76, Tryz.ntmps76
    go_wp2_with fail
    refine (named_any k _).mono ?_
    rintro e w1 ⟨rfl, rfl⟩
    rw [hd]
    go_wp2_with fail
    go_ret
    exact ⟨ret_bool (by rw [Bool.eq_iff_iff]; have := H.out; simp; omega), rfl⟩
theorem dg_any (k : Nat) (w : World) : Calls Tryz.prog 77 #[.int .u8 (k : Int)] w fun e w' => e = .returned (.bool (decide (k = 3))) ∧ w' = w := by
  go_enter Tryz.func77, Tryz.ntmps77
  go_wp2
  go_ret
  exact ⟨ret_bool (by rw [Bool.eq_iff_iff]; simp; omega), rfl⟩
theorem ws_any (k : Nat) (w : World) : Calls Tryz.prog 80 #[.int .u8 (k : Int)] w fun e w' => e = .returned (.bool (decide (k = 1))) ∧ w' = w := by
  go_enter Tryz.func80, Tryz.ntmps80
  go_wp2
  go_ret
  exact ⟨ret_bool (by rw [Bool.eq_iff_iff]; simp; omega), rfl⟩
theorem bl_drewN {B : Nat} {a w : World} (h : Below B a w) (n : Nat) : Below B a (w.drewN n) := h.trans ⟨rfl, rfl, rfl, Nat.le_refl _, fun _ _ => rfl⟩
def WhRel (p : UInt8 → Bool) (s : ByteArray) (i : Nat) (w : World) (v : Value) (W : World) : Prop := ∃ k : Nat, k ≤ s.size ∧ v = .int .i64 (k : Int) ∧ i + Lx.sp p ((tl s).drop i) = k + Lx.sp p ((tl s).drop k) ∧ Below w.heap.size w W
theorem WhRel.start {p : UInt8 → Bool} {s : ByteArray} {i : Nat} {w : World} (h : i ≤ s.size) : WhRel p s i w (.int .i64 (i : Int)) w := ⟨i, h, rfl, rfl, Below.refl _ _⟩
theorem WhRel.next {p : UInt8 → Bool} {s : ByteArray} {i k : Nat} {w W : World} (h : k < s.size) (hp : p s[k] = true) (he : i + Lx.sp p ((tl s).drop i) = k + Lx.sp p ((tl s).drop k)) (hb : Below w.heap.size w W) : WhRel p s i w (.int .i64 ((k : Int) + 1)) W := by
  have hl := length_tl s
  have h2 := Lx.sp_drop (p := p) (l := tl s) (i := k) (by omega) (by rw [tl_getElem s k h]; exact hp)
  exact ⟨k + 1, by omega, by simp, by omega, hb⟩
theorem wh_stop {p : UInt8 → Bool} {s : ByteArray} {k : Nat} (h : k < s.size) (hp : p s[k] = false) : Lx.sp p ((tl s).drop k) = 0 := by
  have hl := length_tl s
  exact Lx.sp_drop_stop (by omega) (by rw [tl_getElem s k h]; exact hp)
theorem wh_end {p : UInt8 → Bool} {s : ByteArray} {k : Nat} (h : ¬ k < s.size) : Lx.sp p ((tl s).drop k) = 0 := by
  have hl := length_tl s
  exact Lx.sp_drop_end (by omega)
theorem while_sp (g : Nat) (s : ByteArray) (a i : Nat) (w : World) (hS : Scn w g s a) (hs : s.size ≤ 65536) (hi : i ≤ s.size) :
    Calls Tryz.prog 73 #[.pointer (some ⟨g, 0, none⟩), .int .i64 (i : Int), .func (.func 80) #[] #[]] w fun e w' => e = .returned (.int .i64 ((i + Lx.sp Lx.isSp ((tl s).drop i) : Nat) : Int)) ∧ Below w.heap.size w w' := by
  go_enter Tryz.func73, Tryz.ntmps73
  go_wp2
  go_loopw [1] (WhRel Lx.isSp s i w) (fun v _ => s.size - (intOf v).toNat)
  case atStart => exact WhRel.start hi
  case round =>
    obtain ⟨k, hk, rfl, he, hb⟩ := hrel
    have HE := Lib.hid he
    clear he
    have hS' := hS.below hb hS.lt
    have c0 : wr.cell? ⟨g, 0, none⟩ = some (.string s) := hS'.cell 0
    by_cases hlt : k < s.size
    · have hd : decide ((k : Int) < (s.size : Int)) = true := by simpa using hlt
      have c1 : wr.cell? ⟨g, 1 + s[k].toNat, none⟩ = some (.int .u8 (clsN s[k].toNat : Int)) := (hS'.cell _).trans (scnL_cls s a s[k])
      have h5 := clsN_le s[k].toNat
      have h6 := s[k].toNat_lt
      cases hp : Lx.isSp s[k] with
      | true =>
        have HP := Lib.hid hp
        have hp2 : decide (clsN s[k].toNat = 1) = true := by rw [← cls_sp, hp]
        clear hp
        go_wp2_with fail
        go_quiet ((go_at_call 80; exact Calls.quiet_of_same (ws_any _ _)))
        go_wp2
        go_roundw
        case rel => exact WhRel.next hlt HP.out HE.out (bl_drewN hb _)
        case measure => simp [intOf]; omega
      | false =>
        have HP := Lib.hid hp
        have hp2 : decide (clsN s[k].toNat = 1) = false := by rw [← cls_sp, hp]
        clear hp
        go_wp2_with fail
        go_quiet ((go_at_call 80; exact Calls.quiet_of_same (ws_any _ _)))
        go_wp2
        go_ret
        exact ⟨ret_int (by rw [HE.out, wh_stop hlt HP.out]; rfl), bl_drewN hb _⟩
    · have hd : decide ((k : Int) < (s.size : Int)) = false := by simpa using hlt
      go_wp2_with fail
      go_quiet (fail)
      go_wp2
      go_ret
      exact ⟨ret_int (by rw [HE.out, wh_end hlt]; rfl), bl_drewN hb _⟩
theorem while_dg (g : Nat) (s : ByteArray) (a i : Nat) (w : World) (hS : Scn w g s a) (hs : s.size ≤ 65536) (hi : i ≤ s.size) :
    Calls Tryz.prog 73 #[.pointer (some ⟨g, 0, none⟩), .int .i64 (i : Int), .func (.func 77) #[] #[]] w fun e w' => e = .returned (.int .i64 ((i + Lx.sp Lx.isDig ((tl s).drop i) : Nat) : Int)) ∧ Below w.heap.size w w' := by
  go_enter Tryz.func73, Tryz.ntmps73
  go_wp2
  go_loopw [1] (WhRel Lx.isDig s i w) (fun v _ => s.size - (intOf v).toNat)
  case atStart => exact WhRel.start hi
  case round =>
    obtain ⟨k, hk, rfl, he, hb⟩ := hrel
    have HE := Lib.hid he
    clear he
    have hS' := hS.below hb hS.lt
    have c0 : wr.cell? ⟨g, 0, none⟩ = some (.string s) := hS'.cell 0
    by_cases hlt : k < s.size
    · have hd : decide ((k : Int) < (s.size : Int)) = true := by simpa using hlt
      have c1 : wr.cell? ⟨g, 1 + s[k].toNat, none⟩ = some (.int .u8 (clsN s[k].toNat : Int)) := (hS'.cell _).trans (scnL_cls s a s[k])
      have h5 := clsN_le s[k].toNat
      have h6 := s[k].toNat_lt
      cases hp : Lx.isDig s[k] with
      | true =>
        have HP := Lib.hid hp
        have hp2 : decide (clsN s[k].toNat = 3) = true := by rw [← cls_dig, hp]
        clear hp
        go_wp2_with fail
        go_quiet ((go_at_call 77; exact Calls.quiet_of_same (dg_any _ _)))
        go_wp2
        go_roundw
        case rel => exact WhRel.next hlt HP.out HE.out (bl_drewN hb _)
        case measure => simp [intOf]; omega
      | false =>
        have HP := Lib.hid hp
        have hp2 : decide (clsN s[k].toNat = 3) = false := by rw [← cls_dig, hp]
        clear hp
        go_wp2_with fail
        go_quiet ((go_at_call 77; exact Calls.quiet_of_same (dg_any _ _)))
        go_wp2
        go_ret
        exact ⟨ret_int (by rw [HE.out, wh_stop hlt HP.out]; rfl), bl_drewN hb _⟩
    · have hd : decide ((k : Int) < (s.size : Int)) = false := by simpa using hlt
      go_wp2_with fail
      go_quiet (fail)
      go_wp2
      go_ret
      exact ⟨ret_int (by rw [HE.out, wh_end hlt]; rfl), bl_drewN hb _⟩
theorem while_nm (g : Nat) (s : ByteArray) (a i : Nat) (w : World) (hS : Scn w g s a) (hs : s.size ≤ 65536) (hi : i ≤ s.size) :
    Calls Tryz.prog 73 #[.pointer (some ⟨g, 0, none⟩), .int .i64 (i : Int), .func (.func 74) #[] #[]] w fun e w' => e = .returned (.int .i64 ((i + Lx.sp Lx.isNm ((tl s).drop i) : Nat) : Int)) ∧ Below w.heap.size w w' := by
  go_enter Tryz.func73, Tryz.ntmps73
  go_wp2
  go_loopw [1] (WhRel Lx.isNm s i w) (fun v _ => s.size - (intOf v).toNat)
  case atStart => exact WhRel.start hi
  case round =>
    obtain ⟨k, hk, rfl, he, hb⟩ := hrel
    have HE := Lib.hid he
    clear he
    have hS' := hS.below hb hS.lt
    have c0 : wr.cell? ⟨g, 0, none⟩ = some (.string s) := hS'.cell 0
    by_cases hlt : k < s.size
    · have hd : decide ((k : Int) < (s.size : Int)) = true := by simpa using hlt
      have c1 : wr.cell? ⟨g, 1 + s[k].toNat, none⟩ = some (.int .u8 (clsN s[k].toNat : Int)) := (hS'.cell _).trans (scnL_cls s a s[k])
      have h5 := clsN_le s[k].toNat
      have h6 := s[k].toNat_lt
      cases hp : Lx.isNm s[k] with
      | true =>
        have HP := Lib.hid hp
        have hp2 : decide (clsN s[k].toNat = 2 ∨ clsN s[k].toNat = 3 ∨ clsN s[k].toNat = 4) = true := by rw [← cls_nm, hp]
        clear hp
        go_wp2_with fail
        go_quiet ((go_at_call 74; exact Calls.quiet_of_same (named_any _ _)))
        go_wp2
        go_roundw
        case rel => exact WhRel.next hlt HP.out HE.out (bl_drewN hb _)
        case measure => simp [intOf]; omega
      | false =>
        have HP := Lib.hid hp
        have hp2 : decide (clsN s[k].toNat = 2 ∨ clsN s[k].toNat = 3 ∨ clsN s[k].toNat = 4) = false := by rw [← cls_nm, hp]
        clear hp
        go_wp2_with fail
        go_quiet ((go_at_call 74; exact Calls.quiet_of_same (named_any _ _)))
        go_wp2
        go_ret
        exact ⟨ret_int (by rw [HE.out, wh_stop hlt HP.out]; rfl), bl_drewN hb _⟩
    · have hd : decide ((k : Int) < (s.size : Int)) = false := by simpa using hlt
      go_wp2_with fail
      go_quiet (fail)
      go_wp2
      go_ret
      exact ⟨ret_int (by rw [HE.out, wh_end hlt]; rfl), bl_drewN hb _⟩
theorem while_wd (g : Nat) (s : ByteArray) (a i : Nat) (w : World) (hS : Scn w g s a) (hs : s.size ≤ 65536) (hi : i ≤ s.size) :
    Calls Tryz.prog 73 #[.pointer (some ⟨g, 0, none⟩), .int .i64 (i : Int), .func (.func 76) #[] #[]] w fun e w' => e = .returned (.int .i64 ((i + Lx.sp Lx.isWd ((tl s).drop i) : Nat) : Int)) ∧ Below w.heap.size w w' := by
  go_enter Tryz.func73, Tryz.ntmps73
  go_wp2
  go_loopw [1] (WhRel Lx.isWd s i w) (fun v _ => s.size - (intOf v).toNat)
  case atStart => exact WhRel.start hi
  case round =>
    obtain ⟨k, hk, rfl, he, hb⟩ := hrel
    have HE := Lib.hid he
    clear he
    have hS' := hS.below hb hS.lt
    have c0 : wr.cell? ⟨g, 0, none⟩ = some (.string s) := hS'.cell 0
    by_cases hlt : k < s.size
    · have hd : decide ((k : Int) < (s.size : Int)) = true := by simpa using hlt
      have c1 : wr.cell? ⟨g, 1 + s[k].toNat, none⟩ = some (.int .u8 (clsN s[k].toNat : Int)) := (hS'.cell _).trans (scnL_cls s a s[k])
      have h5 := clsN_le s[k].toNat
      have h6 := s[k].toNat_lt
      cases hp : Lx.isWd s[k] with
      | true =>
        have HP := Lib.hid hp
        have hp2 : decide (clsN s[k].toNat = 2 ∨ clsN s[k].toNat = 3 ∨ clsN s[k].toNat = 4 ∨ clsN s[k].toNat = 5) = true := by rw [← cls_wd, hp]
        clear hp
        go_wp2_with fail
        go_quiet ((go_at_call 76; exact Calls.quiet_of_same (wd_any _ _)))
        go_wp2
        go_roundw
        case rel => exact WhRel.next hlt HP.out HE.out (bl_drewN hb _)
        case measure => simp [intOf]; omega
      | false =>
        have HP := Lib.hid hp
        have hp2 : decide (clsN s[k].toNat = 2 ∨ clsN s[k].toNat = 3 ∨ clsN s[k].toNat = 4 ∨ clsN s[k].toNat = 5) = false := by rw [← cls_wd, hp]
        clear hp
        go_wp2_with fail
        go_quiet ((go_at_call 76; exact Calls.quiet_of_same (wd_any _ _)))
        go_wp2
        go_ret
        exact ⟨ret_int (by rw [HE.out, wh_stop hlt HP.out]; rfl), bl_drewN hb _⟩
    · have hd : decide ((k : Int) < (s.size : Int)) = false := by simpa using hlt
      go_wp2_with fail
      go_quiet (fail)
      go_wp2
      go_ret
      exact ⟨ret_int (by rw [HE.out, wh_end hlt]; rfl), bl_drewN hb _⟩
end Go.Proofs.YtminghdnclpocaaGreatDoor
