/-
  The walk of the law LexerCovers.
-/
import Derived.Test.YtbepmakohjpioaaLxS2
namespace Go.Proofs.Ytbepmakohjpioaa
open Go.RowKit
set_option linter.unusedVariables false

theorem isE' {s : ByteArray} : s.toList.isEmpty = (tl s).isEmpty := by rw [toList_tl]
theorem hsz' (l : List UInt8) : (tl (bs l)).isEmpty = decide (l = []) := by rw [tl_bs]; cases l <;> simp
/-- what the law asks of one token: A the end of the token before it -/
structure Cov (l : List UInt8) (ts : List Lx.Tok) (j A : Nat) (t : Lx.Tok) : Prop where
  le : A ≤ t.at_
  fit : t.at_ + t.text.length ≤ l.length
  txt : (l.drop t.at_).take t.text.length = t.text
  last : t.kind = 3 ↔ j + 1 = ts.length
  emp : t.text = [] ↔ t.kind = 3
  gap : Lx.sk false (l.drop A) = t.at_ - A
  com : t.at_ = l.length → t.kind = 3
  rest : j + 1 < ts.length → Lx.Sc (t.at_ + t.text.length) (l.drop (t.at_ + t.text.length)) (ts.drop (j + 1))
theorem sc_ne {a : Nat} {l : List UInt8} {ts : List Lx.Tok} (h : Lx.Sc a l ts) : ts ≠ [] := by cases h <;> simp
theorem cov_of {l : List UInt8} {ts : List Lx.Tok} {j A : Nat} (hA : A ≤ l.length) (hj : j < ts.length) (h : Lx.Sc A (l.drop A) (ts.drop j)) : Cov l ts j A ts[j] := by
  rw [List.drop_eq_getElem_cons hj] at h
  generalize hr : ts.drop (j + 1) = R at h
  generalize ts[j] = t at h
  have hlen : R.length = ts.length - (j + 1) := by rw [← hr, List.length_drop]
  cases h with
  | done _ _ h =>
    have h1 := Lx.sk_le false (l.drop A)
    have h2 := congrArg List.length h
    simp only [List.length_drop, List.length_nil] at h1 h2 hlen
    refine ⟨by simp, by simp; omega, by simp, ?_, by simp, by simp, fun _ => rfl, fun h5 => by omega⟩
    simp
    omega
  | step _ _ k n _ ht hl h =>
    have h1 := Lx.sk_le false (l.drop A)
    have h2 := Lx.tk_len ht
    have h3 := Lx.tk_kind ht
    have h4 := List.length_pos_iff.2 (sc_ne h)
    simp only [List.length_drop] at h1 h2
    have e : (((l.drop A).drop (Lx.sk false (l.drop A))).take n).length = n := by simp only [List.length_take, List.length_drop]; omega
    refine ⟨by simp, ?_, ?_, ?_, ?_, by simp, ?_, ?_⟩
    · show A + _ + (((l.drop A).drop (Lx.sk false (l.drop A))).take n).length ≤ _
      rw [e]; omega
    · show (l.drop (A + Lx.sk false (l.drop A))).take (((l.drop A).drop (Lx.sk false (l.drop A))).take n).length = _
      rw [e, List.drop_drop]
    · show k = 3 ↔ _
      omega
    · show ((l.drop A).drop (Lx.sk false (l.drop A))).take n = [] ↔ k = 3
      constructor
      · intro h5
        rw [h5] at e
        simp at e
        omega
      · omega
    · show A + Lx.sk false (l.drop A) = _ → k = 3
      omega
    · intro _
      rw [hr]
      show Lx.Sc (A + Lx.sk false (l.drop A) + (((l.drop A).drop (Lx.sk false (l.drop A))).take n).length) (l.drop (A + Lx.sk false (l.drop A) + (((l.drop A).drop (Lx.sk false (l.drop A))).take n).length)) R
      rw [e]
      rw [List.drop_drop, List.drop_drop, ← Nat.add_assoc] at h
      exact h
/-- a byte of a gap -/
def nextC (c : Bool) (x : UInt8) : Bool := x != 10 && (c || x == 35)
theorem sk_byte {c : Bool} {x : UInt8} {m : List UInt8} (h : 0 < Lx.sk c (x :: m)) : Lx.sk c (x :: m) = Lx.sk (nextC c x) m + 1 ∧ (nextC c x = false → Lx.isSp x = true) := by
  cases c with
  | false =>
    by_cases h1 : Lx.isSp x = true
    · have h2 : (x == 35) = false := by
        cases h5 : (x == 35) with
        | false => rfl
        | true => have : x = 35 := by simpa using h5
                  rw [this] at h1; exact absurd h1 (by decide)
      rw [Lx.sk_sp h1, nextC, h2]
      simp [h1]
    · by_cases h2 : x = 35
      · subst h2
        exact ⟨Lx.sk_hash, fun h5 => absurd h5 (by decide)⟩
      · rw [Lx.sk_stop (by simpa using h1) (by simpa using h2)] at h
        omega
  | true =>
    by_cases h2 : x = 10
    · subst h2
      exact ⟨Lx.sk_nl, fun _ => rfl⟩
    · have h3 : (x != 10) = true := by simpa using h2
      rw [Lx.sk_in (by simpa using h2), nextC, h3]
      exact ⟨rfl, fun h5 => absurd h5 (by simp)⟩
theorem gap_byte {x : UInt8} (h : nextC false x = false → Lx.isSp x = true) : x = 32 ∨ x = 9 ∨ x = 13 ∨ x = 10 ∨ x = 35 := by
  by_cases h35 : x = 35
  · exact .inr (.inr (.inr (.inr h35)))
  · have h1 := h (by simp [nextC, h35])
    simp [Lx.isSp] at h1
    rcases h1 with ((h1 | h1) | h1) | h1
    · exact .inl h1
    · exact .inr (.inl h1)
    · exact .inr (.inr (.inl h1))
    · exact .inr (.inr (.inr (.inl h1)))
theorem Kp.drewN {w W : World} {bl : List (Nat × TypeId × List Value)} (h : Kp w bl W) (n : Nat) : Kp w bl (W.drewN n) := ⟨h.blk, bl_drewN h.below n⟩
def CvRel (s : ByteArray) (ts : List Lx.Tok) (w : World) (at_ cm i : Value) (W : World) : Prop := ∃ (j A : Nat) (c : Bool), j ≤ ts.length ∧ i = .int .i64 (j : Int) ∧ at_ = .int .i64 (A : Int) ∧ cm = .bool c ∧ A ≤ s.size ∧ (j < ts.length → c = false ∧ Lx.Sc A ((tl s).drop A) (ts.drop j)) ∧ Below w.heap.size w W
def CiRel (s : ByteArray) (p : Nat) (W0 : World) (at_ cm : Value) (W : World) : Prop := ∃ (A : Nat) (c : Bool), A ≤ p ∧ at_ = .int .i64 (A : Int) ∧ cm = .bool c ∧ Lx.sk c ((tl s).drop A) = p - A ∧ W = W0
set_option maxRecDepth 100000 in
set_option maxHeartbeats 4000000 in
theorem covers_walk (s : ByteArray) (h1 : s.size ≤ maxLen) (w : World) :
    Calls Try.prog 5 #[.string s] w fun e w' => e = .returned (.bool true) ∧ Below w.heap.size w w' := by
  unfold maxLen at h1
  by_cases hl : s.size ≤ 1000
  · cases hsc : Lx.sc (tl s) with
    | err p e =>
      have hne := sc_err_ne hsc
      have hne2 : ((e : Int) != 0) = true := by simp; omega
      have HS := Lib.hid hsc
      clear hsc
      go_enter Try.func5, Try.ntmps5
      go_wp2_with fail
      refine (scan_err s p e _ (by omega) HS.out).mono ?_
      rintro e' w1 ⟨rfl, hb1⟩
      go_wp2_with fail
      refine (awake_any _).mono ?_
      rintro e' w2 ⟨rfl, hb2⟩
      go_wp2_with fail
      go_ret
      exact ⟨rfl, hb1.trans (hb2.mono hb1.size)⟩
    | ok ts =>
      obtain ⟨hp, hq⟩ := tok_ne hsc
      rw [length_tl] at hq
      have HS := Lib.hid hsc
      clear hsc
      go_enter Try.func5, Try.ntmps5
      go_wp2_with fail
      refine (scan_ok s ts _ (by omega) HS.out hp).mono ?_
      rintro e' w1 ⟨g, cap, rfl, ht, hc, hb1⟩
      go_wp2_with fail
      go_loopw [6, 7, 31] (CvRel s ts w1) (fun _ _ i _ => ts.length - (intOf i).toNat)
      case atStart => exact ⟨0, 0, false, Nat.zero_le _, rfl, rfl, rfl, Nat.zero_le _, fun _ => ⟨rfl, Lx.sc_iff.1 HS.out⟩, Below.refl _ _⟩
      case round =>
        obtain ⟨j, A, c, hj, rfl, rfl, rfl, hA, hD, hb⟩ := hrel
        have htr := ht.below hb (Nat.le_refl _)
        by_cases hlt : j < ts.length
        · obtain ⟨rfl, hsc⟩ := hD hlt
          have hC := cov_of (by rw [length_tl]; exact hA) hlt hsc
          obtain ⟨c0, c1, c2⟩ := htr.at j hlt
          clear hD
          generalize ts[j] = t at *
          obtain ⟨kd, tx, p⟩ := t
          have hle : A ≤ p := hC.le
          have hfit : p + tx.length ≤ s.size := by have := hC.fit; rw [length_tl] at this; exact this
          have HT := Lib.hid (show s.extract p (p + (bs tx).size) = bs tx by
            apply eq_of_tl
            rw [tl_extract, tl_bs, Nat.add_sub_cancel_left, size_bs]
            exact hC.txt)
          have HC := Lib.hid hC
          have hkd : kd = 3 ↔ j + 1 = ts.length := hC.last
          have hem : tx = [] ↔ kd = 3 := hC.emp
          have hgap : Lx.sk false ((tl s).drop A) = p - A := hC.gap
          clear hC hsc
          have hsz : (bs tx).size = tx.length := size_bs tx
          have HSZ := Lib.hid hsz
          have hq0 : (bs tx).size ≤ s.size := by omega
          have hq1 : p + (bs tx).size ≤ s.size := by omega
          have he0 : (bs tx).toList = [] ↔ kd = 3 := by rw [toList_tl, tl_bs]; exact hem
          clear hsz
          generalize bs tx = T at *
          have b1 : decide ((p : Int) < (A : Int)) = false := by simp; omega
          have b2 : decide ((s.size : Int) < (p : Int)) = false := by simp; omega
          have b3 : decide ((s.size : Int) - (p : Int) < (T.size : Int)) = false := by simp; omega
          have b2' : decide (s.size < p) = false := by simp; omega
          have b1' : decide (p < A) = false := by simp; omega
          have b4 : (T.toList != T.toList) = false := by simp
          have b5 := HT.out
          have b6 : IntKind.i64.wrap ((p : Int) + (T.size : Int)) = (p : Int) + (T.size : Int) := IntWalk.i64_in _ (by omega)
          have b7 : (0 : Int) ≤ (p : Int) + (T.size : Int) := by omega
          have b8 : ((p : Int) + (T.size : Int)).toNat = p + T.size := by omega
          have b9 : IntKind.i64.wrap ((s.size : Int) - (p : Int)) = (s.size : Int) - (p : Int) := IntWalk.i64_in _ (by omega)
          go_wp2_with fail
          have hk := ((Kp.start w).next hb1).next hb
          have hk := hk.new 31 [.int .i64 (kd : Int), .string T, .int .i64 (p : Int)]
          have hbn := hb.alloc hb.size (.cells #[.int .i64 (kd : Int), .string T, .int .i64 (p : Int)] 31)
          clear c0 c1 c2
          generalize wr.alloc (.cells #[.int .i64 (kd : Int), .string T, .int .i64 (p : Int)] 31) = W2 at *
          generalize wr.heap.size = gt at *
          have e0 : W2.cell? ⟨gt, 0, none⟩ = some (.int .i64 (kd : Int)) := (hk.blk _ (List.mem_cons_self ..)).cell 0
          have e1 : W2.cell? ⟨gt, 1, none⟩ = some (.string T) := (hk.blk _ (List.mem_cons_self ..)).cell 1
          have e2 : W2.cell? ⟨gt, 2, none⟩ = some (.int .i64 (p : Int)) := (hk.blk _ (List.mem_cons_self ..)).cell 2
          by_cases hk3 : kd = 3
          · have f0 : ((kd : Int) == 3) = true := by simp; omega
            have f0' : ((kd : Int) != 3) = false := by simp; omega
            have f1 : ((j : Int) == (ts.length : Int) - 1) = true := by have := hkd.1 hk3; simp; omega
            have f2 : T.toList = [] := he0.2 hk3
            have f3 : T.toList.isEmpty = true := by rw [f2]; rfl
            have HKD := Lib.hid (hkd.1 hk3)
            clear he0 hem hkd
            have HK3 := Lib.hid hk3
            clear hk3
            go_quiet (fail)
            clear b1 b2 b1' b2' b3 b4 b5 b6 b7 b8 b9
            have hkd2 := hk.drewN nq
            have hbn2 := bl_drewN hbn nq
            clear hk hbn e0 e1 e2
            generalize W2.drewN nq = W3 at *
            have e0 : W3.cell? ⟨gt, 0, none⟩ = some (.int .i64 (kd : Int)) := (hkd2.blk _ (List.mem_cons_self ..)).cell 0
            have e1 : W3.cell? ⟨gt, 1, none⟩ = some (.string T) := (hkd2.blk _ (List.mem_cons_self ..)).cell 1
            have e2 : W3.cell? ⟨gt, 2, none⟩ = some (.int .i64 (p : Int)) := (hkd2.blk _ (List.mem_cons_self ..)).cell 2
            have HG := Lib.hid hgap
            clear hgap
            go_wp2_with fail
            go_loopw [6, 7] (CiRel s p W3) (fun a _ _ => p - (intOf a).toNat)
            case atStart => exact ⟨A, false, hle, rfl, rfl, HG.out, rfl⟩
            case round =>
              obtain ⟨A', c, hA', rfl, rfl, hsk, rfl⟩ := hrel
              by_cases hin : A' < p
              · have hAs : A' < s.size := by omega
                have hsk2 := hsk
                rw [drop_cons s hAs] at hsk2
                obtain ⟨hby, hsp⟩ := sk_byte (c := c) (x := s[A']) (m := (tl s).drop (A' + 1)) (by rw [hsk2]; omega)
                rw [hsk2] at hby
                have hnx : Lx.sk (nextC c s[A']) ((tl s).drop (A' + 1)) = p - (A' + 1) := by omega
                have HN := Lib.hid hnx
                have HSP := Lib.hid hsp
                clear hsk hsk2 hby hnx hsp
                have h6 := s[A'].toNat_lt
                cases c with
                | true =>
                  by_cases h10 : s[A'] = 10
                  · have n10 : (s[A'].toNat : Int) = 10 := by rw [h10]; rfl
                    have HX := Lib.hid (show nextC true s[A'] = false by rw [h10]; rfl)
                    clear h10
                    go_wp2_with fail
                    go_roundw
                    case rel => exact ⟨A' + 1, false, by omega, by simp, rfl, by rw [← HX.out]; exact HN.out, rfl⟩
                    case measure => simp [intOf]; omega
                  · have n10 : ((s[A'].toNat : Int) != 10) = true := by simp; intro h8; exact h10 (UInt8.toNat_inj.1 (by have h9 : (10 : UInt8).toNat = 10 := rfl; omega))
                    have HX := Lib.hid (show nextC true s[A'] = true by simp [nextC, h10])
                    clear h10
                    go_wp2_with fail
                    go_roundw
                    case rel => exact ⟨A' + 1, true, by omega, by simp, rfl, by rw [← HX.out]; exact HN.out, rfl⟩
                    case measure => simp [intOf]; omega
                | false =>
                  have hcs : s[A'] = 32 ∨ s[A'] = 9 ∨ s[A'] = 13 ∨ s[A'] = 10 ∨ s[A'] = 35 := gap_byte HSP.out
                  rcases hcs with hx | hx | hx | hx | hx
                  · have n10 : (s[A'].toNat : Int) = 32 := by rw [hx]; rfl
                    have HX := Lib.hid (show nextC false s[A'] = false by rw [hx]; rfl)
                    clear hx
                    go_wp2_with fail
                    go_roundw
                    case rel => exact ⟨A' + 1, false, by omega, by simp, rfl, by rw [← HX.out]; exact HN.out, rfl⟩
                    case measure => simp [intOf]; omega
                  · have n10 : (s[A'].toNat : Int) = 9 := by rw [hx]; rfl
                    have HX := Lib.hid (show nextC false s[A'] = false by rw [hx]; rfl)
                    clear hx
                    go_wp2_with fail
                    go_roundw
                    case rel => exact ⟨A' + 1, false, by omega, by simp, rfl, by rw [← HX.out]; exact HN.out, rfl⟩
                    case measure => simp [intOf]; omega
                  · have n10 : (s[A'].toNat : Int) = 13 := by rw [hx]; rfl
                    have HX := Lib.hid (show nextC false s[A'] = false by rw [hx]; rfl)
                    clear hx
                    go_wp2_with fail
                    go_roundw
                    case rel => exact ⟨A' + 1, false, by omega, by simp, rfl, by rw [← HX.out]; exact HN.out, rfl⟩
                    case measure => simp [intOf]; omega
                  · have n10 : (s[A'].toNat : Int) = 10 := by rw [hx]; rfl
                    have HX := Lib.hid (show nextC false s[A'] = false by rw [hx]; rfl)
                    clear hx
                    go_wp2_with fail
                    go_roundw
                    case rel => exact ⟨A' + 1, false, by omega, by simp, rfl, by rw [← HX.out]; exact HN.out, rfl⟩
                    case measure => simp [intOf]; omega
                  · have n10 : (s[A'].toNat : Int) = 35 := by rw [hx]; rfl
                    have HX := Lib.hid (show nextC false s[A'] = true by rw [hx]; rfl)
                    clear hx
                    go_wp2_with fail
                    go_roundw
                    case rel => exact ⟨A' + 1, true, by omega, by simp, rfl, by rw [← HX.out]; exact HN.out, rfl⟩
                    case measure => simp [intOf]; omega
              · have hpe : A' = p := by omega
                subst hpe
                clear hsk
                cases c with
                | true =>
                  go_wp2_with fail
                  go_roundw
                  case rel => exact ⟨j + 1, A' + T.size, true, by omega, by simp, by simp, rfl, by omega, fun h5 => absurd h5 (by have := HKD.out; omega), hbn2⟩
                  case measure => simp [intOf]; omega
                | false =>
                  go_wp2_with fail
                  go_roundw
                  case rel => exact ⟨j + 1, A' + T.size, false, by omega, by simp, by simp, rfl, by omega, fun h5 => absurd h5 (by have := HKD.out; omega), hbn2⟩
                  case measure => simp [intOf]; omega
          · have f0 : ((kd : Int) == 3) = false := by simp; omega
            have f0' : ((kd : Int) != 3) = true := by simp; omega
            have f1 : ((j : Int) == (ts.length : Int) - 1) = false := by have : ¬ j + 1 = ts.length := fun h => hk3 (hkd.2 h); simp; omega
            have f2 : ¬ T.toList = [] := fun h => hk3 (he0.1 h)
            have f3 : T.toList.isEmpty = false := by cases h : T.toList with | nil => exact absurd h f2 | cons a b => rfl
            clear he0 hem hkd
            go_quiet (fail)
            clear b1 b2 b1' b2' b3 b4 b5 b6 b7 b8 b9
            have hkd2 := hk.drewN nq
            have hbn2 := bl_drewN hbn nq
            clear hk hbn e0 e1 e2
            generalize W2.drewN nq = W3 at *
            have e0 : W3.cell? ⟨gt, 0, none⟩ = some (.int .i64 (kd : Int)) := (hkd2.blk _ (List.mem_cons_self ..)).cell 0
            have e1 : W3.cell? ⟨gt, 1, none⟩ = some (.string T) := (hkd2.blk _ (List.mem_cons_self ..)).cell 1
            have e2 : W3.cell? ⟨gt, 2, none⟩ = some (.int .i64 (p : Int)) := (hkd2.blk _ (List.mem_cons_self ..)).cell 2
            have HG := Lib.hid hgap
            clear hgap
            go_wp2_with fail
            go_loopw [6, 7] (CiRel s p W3) (fun a _ _ => p - (intOf a).toNat)
            case atStart => exact ⟨A, false, hle, rfl, rfl, HG.out, rfl⟩
            case round =>
              obtain ⟨A', c, hA', rfl, rfl, hsk, rfl⟩ := hrel
              by_cases hin : A' < p
              · have hAs : A' < s.size := by omega
                have hsk2 := hsk
                rw [drop_cons s hAs] at hsk2
                obtain ⟨hby, hsp⟩ := sk_byte (c := c) (x := s[A']) (m := (tl s).drop (A' + 1)) (by rw [hsk2]; omega)
                rw [hsk2] at hby
                have hnx : Lx.sk (nextC c s[A']) ((tl s).drop (A' + 1)) = p - (A' + 1) := by omega
                have HN := Lib.hid hnx
                have HSP := Lib.hid hsp
                clear hsk hsk2 hby hnx hsp
                have h6 := s[A'].toNat_lt
                cases c with
                | true =>
                  by_cases h10 : s[A'] = 10
                  · have n10 : (s[A'].toNat : Int) = 10 := by rw [h10]; rfl
                    have HX := Lib.hid (show nextC true s[A'] = false by rw [h10]; rfl)
                    clear h10
                    go_wp2_with fail
                    go_roundw
                    case rel => exact ⟨A' + 1, false, by omega, by simp, rfl, by rw [← HX.out]; exact HN.out, rfl⟩
                    case measure => simp [intOf]; omega
                  · have n10 : ((s[A'].toNat : Int) != 10) = true := by simp; intro h8; exact h10 (UInt8.toNat_inj.1 (by have h9 : (10 : UInt8).toNat = 10 := rfl; omega))
                    have HX := Lib.hid (show nextC true s[A'] = true by simp [nextC, h10])
                    clear h10
                    go_wp2_with fail
                    go_roundw
                    case rel => exact ⟨A' + 1, true, by omega, by simp, rfl, by rw [← HX.out]; exact HN.out, rfl⟩
                    case measure => simp [intOf]; omega
                | false =>
                  have hcs : s[A'] = 32 ∨ s[A'] = 9 ∨ s[A'] = 13 ∨ s[A'] = 10 ∨ s[A'] = 35 := gap_byte HSP.out
                  rcases hcs with hx | hx | hx | hx | hx
                  · have n10 : (s[A'].toNat : Int) = 32 := by rw [hx]; rfl
                    have HX := Lib.hid (show nextC false s[A'] = false by rw [hx]; rfl)
                    clear hx
                    go_wp2_with fail
                    go_roundw
                    case rel => exact ⟨A' + 1, false, by omega, by simp, rfl, by rw [← HX.out]; exact HN.out, rfl⟩
                    case measure => simp [intOf]; omega
                  · have n10 : (s[A'].toNat : Int) = 9 := by rw [hx]; rfl
                    have HX := Lib.hid (show nextC false s[A'] = false by rw [hx]; rfl)
                    clear hx
                    go_wp2_with fail
                    go_roundw
                    case rel => exact ⟨A' + 1, false, by omega, by simp, rfl, by rw [← HX.out]; exact HN.out, rfl⟩
                    case measure => simp [intOf]; omega
                  · have n10 : (s[A'].toNat : Int) = 13 := by rw [hx]; rfl
                    have HX := Lib.hid (show nextC false s[A'] = false by rw [hx]; rfl)
                    clear hx
                    go_wp2_with fail
                    go_roundw
                    case rel => exact ⟨A' + 1, false, by omega, by simp, rfl, by rw [← HX.out]; exact HN.out, rfl⟩
                    case measure => simp [intOf]; omega
                  · have n10 : (s[A'].toNat : Int) = 10 := by rw [hx]; rfl
                    have HX := Lib.hid (show nextC false s[A'] = false by rw [hx]; rfl)
                    clear hx
                    go_wp2_with fail
                    go_roundw
                    case rel => exact ⟨A' + 1, false, by omega, by simp, rfl, by rw [← HX.out]; exact HN.out, rfl⟩
                    case measure => simp [intOf]; omega
                  · have n10 : (s[A'].toNat : Int) = 35 := by rw [hx]; rfl
                    have HX := Lib.hid (show nextC false s[A'] = true by rw [hx]; rfl)
                    clear hx
                    go_wp2_with fail
                    go_roundw
                    case rel => exact ⟨A' + 1, true, by omega, by simp, rfl, by rw [← HX.out]; exact HN.out, rfl⟩
                    case measure => simp [intOf]; omega
              · have hpe : A' = p := by omega
                subst hpe
                have hcf : c = false := by
                  cases c with
                  | false => rfl
                  | true =>
                    have h5 := Lx.sk_true_pos (r := (tl s).drop A') (by rw [hsk]; omega)
                    have h6 := congrArg List.length h5
                    rw [List.length_drop, length_tl] at h6
                    exact absurd (HC.out.com (by rw [length_tl]; simp at h6; show A' = s.size; omega)) hk3
                subst hcf
                clear hsk
                go_wp2_with fail
                go_roundw
                case rel => exact ⟨j + 1, A' + T.size, false, by omega, by simp, by simp, rfl, by omega, fun h5 => ⟨rfl, by have h6 := HC.out.rest h5; rw [← HSZ.out] at h6; exact h6⟩, hbn2⟩
                case measure => simp [intOf]; omega
        · have hjn : j = ts.length := by omega
          have hlast : Hid (ts[ts.length - 1].at_ = s.size) := Lib.hid (by
            obtain ⟨us, e, h5, h6, h7, h8, _⟩ := (Lx.sc_iff.1 HS.out).join
            subst h5
            simp
            rw [h8, Nat.zero_add, length_tl])
          obtain ⟨c0, c1, c2⟩ := htr.at (ts.length - 1) (by omega)
          rw [hlast.out] at c2
          subst hjn
          go_wp2_with fail
          refine (awake_any _).mono ?_
          rintro e w5 ⟨rfl, hb5⟩
          go_wp2_with fail
          go_ret
          exact ⟨rfl, (hb1.trans (hb.mono hb1.size)).trans (hb5.mono (Nat.le_trans hb1.size hb.size))⟩
  · go_enter Try.func5, Try.ntmps5
    go_wp2_with fail
    refine (awake_any _).mono ?_
    rintro e w3 ⟨rfl, hb3⟩
    go_wp2_with fail
    go_ret
    exact ⟨rfl, hb3⟩
end Go.Proofs.Ytbepmakohjpioaa
