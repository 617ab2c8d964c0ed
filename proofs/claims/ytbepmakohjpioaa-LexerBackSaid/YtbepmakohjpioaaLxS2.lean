/-
  The walk of the law LexerSpaces.
-/
import Derived.Test.YtbepmakohjpioaaLxS
import Derived.Test.YtbepmakohjpioaaLxN
namespace Go.Proofs.Ytbepmakohjpioaa
open Go.RowKit
set_option linter.unusedVariables false

def gapB : List ByteArray := gaps.map bs
theorem gapB_len : gapB.length = 5 := rfl
theorem gapB_at (k : Nat) (h : k < 5) : ∃ x, gapB[k]? = some x ∧ Lx.Gap (tl x) ∧ x.size ≤ 8 := by
  refine ⟨_, List.getElem?_eq_getElem (by rw [gapB_len]; exact h), ?_⟩
  have hm : k < gaps.length := h
  have e : gapB[k]'(by rw [gapB_len]; exact h) = bs gaps[k] := by simp [gapB]
  rw [e, tl_bs, size_bs]
  refine ⟨gap_of _ (List.getElem_mem hm), ?_⟩
  have h5 : k = 0 ∨ k = 1 ∨ k = 2 ∨ k = 3 ∨ k = 4 := by omega
  rcases h5 with rfl | rfl | rfl | rfl | rfl <;> simp [gaps]
theorem tok_ne {l : List UInt8} {ts : List Lx.Tok} (h : Lx.sc l = .ok ts) : 0 < ts.length ∧ ts.length ≤ l.length + 1 := by
  obtain ⟨us, e, rfl, h2, h3, h4, h5, h6, h7⟩ := (Lx.sc_iff.1 h).join
  refine ⟨by simp, ?_⟩
  have hlen : us.length ≤ (us.map fun t => t.text.length).sum := by
    clear h7 h6 h h4
    induction us with
    | nil => simp
    | cons u us ih =>
      have h8 := (h5 u (List.mem_cons_self ..)).2
      have h9 := ih (fun t ht => h5 t (List.mem_cons_of_mem _ ht))
      have h10 : 0 < u.text.length := List.length_pos_iff.2 h8
      simp only [List.map_cons, List.sum_cons, List.length_cons]
      omega
  simp
  omega
theorem kp_c2 {w W : World} {gt : Nat} {t : TypeId} {x y z : Value} (h : Kp w [(gt, t, [x, y, z])] W) : W.cell? ⟨gt, 2, none⟩ = some z := (h.blk _ (List.mem_cons_self ..)).cell 2
theorem TokIn.drewN {W : World} {g : Nat} {ts : List Lx.Tok} (h : TokIn W g ts) (n : Nat) : TokIn (W.drewN n) g ts := h
theorem ins_eq (s x : ByteArray) (p : Nat) (h : p ≤ s.size) : tl (s.extract 0 p ++ x ++ s.extract p s.size) = (tl s).take p ++ (tl x ++ (tl s).drop p) := by
  have e : ∀ a b : ByteArray, tl (a ++ b) = tl a ++ tl b := fun a b => by show (a ++ b).data.toList = _; rw [ByteArray.data_append]; simp [tl]
  rw [e, e, tl_extract, tl_extract, List.drop_zero, Nat.sub_zero, List.take_of_length_le (l := (tl s).drop p) (by rw [List.length_drop, length_tl]; omega), List.append_assoc]
set_option maxRecDepth 100000 in
set_option maxHeartbeats 2000000 in
theorem spaces_walk (s : ByteArray) (a b : Int) (h1 : s.size ≤ maxLen) (ha : (Lit.int .u8 a).wf = true) (hb : (Lit.int .u8 b).wf = true) (w : World) :
    Calls Try.prog 7 #[.string s, .int .u8 a, .int .u8 b] w fun e w' => e = .returned (.bool true) ∧ Below w.heap.size w w' := by
  unfold maxLen at h1
  obtain ⟨n, rfl, hn⟩ := u8_nat ha
  obtain ⟨m, rfl, hm⟩ := u8_nat hb
  clear ha hb
  by_cases hl : s.size ≤ 1000
  · cases hsc : Lx.sc (tl s) with
    | err p e =>
      have hne := sc_err_ne hsc
      have hne2 : ((e : Int) != 0) = true := by simp; omega
      have HS := Lib.hid hsc
      clear hsc
      go_enter Try.func7, Try.ntmps7
      go_wp2_with fail
      refine (scan_err s p e _ (by omega) HS.out).mono ?_
      rintro e' w1 ⟨rfl, hb1⟩
      go_wp2_with fail
      refine (awake_any _).mono ?_
      rintro e' w2 ⟨rfl, hb2⟩
      go_wp2_with fail
      go_ret
      exact ⟨rfl, hb1.trans (hb2.mono hb1.size)⟩
    | ok ts =>
      obtain ⟨hp, hq⟩ := tok_ne hsc
      rw [length_tl] at hq
      have HS := Lib.hid hsc
      clear hsc
      have hi : n % ts.length < ts.length := Nat.mod_lt _ hp
      obtain ⟨x, hx, hG, hxs⟩ := gapB_at (m % 5) (Nat.mod_lt _ (by decide))
      have hw := Lib.hid ((Lx.sc_iff.1 HS.out).within ts[n % ts.length] (List.getElem_mem hi))
      have hins := Lib.hid ((Lx.sc_iff.1 HS.out).insert hG (n % ts.length) hi)
      have hat : ts[n % ts.length].at_ ≤ s.size := by have := hw.out; rw [length_tl] at this; omega
      have HX := Lib.hid hx
      clear hx
      have hz0 : ((ts.length : Int) == 0) = false := by simp; intro h5; rw [h5] at hp; exact absurd hp (by decide)
      go_enter Try.func7, Try.ntmps7
      go_wp2_with fail
      refine (scan_ok s ts _ (by omega) HS.out hp).mono ?_
      rintro e' w1 ⟨g, cap, rfl, ht, hc, hb1⟩
      obtain ⟨c0, c1, c2⟩ := ht.at _ hi
      generalize ts[n % ts.length].at_ = p at *
      generalize ts[n % ts.length].text = tx at *
      generalize ts[n % ts.length].kind = kd at *
      have hx5 : [Value.string ⟨#[32]⟩, .string ⟨#[10]⟩, .string ⟨#[9, 13]⟩, .string ⟨#[35, 97, 32, 39, 98, 32, 51, 10]⟩, .string ⟨#[10, 10]⟩][m % 5]? = some (.string x) := by
        show (gapB.map Value.string)[m % 5]? = _
        rw [List.getElem?_map, HX.out]
        rfl
      go_wp2_with fail
      have ht2 := (ht.below ((Below.refl _ w1).alloc (Nat.le_refl _) (.cells #[.int .i64 (kd : Int), .string (bs tx), .int .i64 (p : Int)] 31)) (Nat.le_refl _)).below ((Below.refl _ _).alloc (Nat.le_refl _) (.cells #[.string ⟨#[32]⟩, .string ⟨#[10]⟩, .string ⟨#[9, 13]⟩, .string ⟨#[35, 97, 32, 39, 98, 32, 51, 10]⟩, .string ⟨#[10, 10]⟩] 9)) (Nat.le_refl _)
      have hk := (((Kp.start w).next hb1).new 31 [.int .i64 (kd : Int), .string (bs tx), .int .i64 (p : Int)]).alloc (.cells #[.string ⟨#[32]⟩, .string ⟨#[10]⟩, .string ⟨#[9, 13]⟩, .string ⟨#[35, 97, 32, 39, 98, 32, 51, 10]⟩, .string ⟨#[10, 10]⟩] 9)
      clear ht c0 c1 c2 hx5 hb1
      generalize (w1.alloc (.cells #[.int .i64 (kd : Int), .string (bs tx), .int .i64 (p : Int)] 31)).alloc (.cells #[.string ⟨#[32]⟩, .string ⟨#[10]⟩, .string ⟨#[9, 13]⟩, .string ⟨#[35, 97, 32, 39, 98, 32, 51, 10]⟩, .string ⟨#[10, 10]⟩] 9) = W2 at *
      generalize w1.heap.size = gt at *
      have z1 : (s.extract 0 p).size ≤ 1000 := by rw [ByteArray.size_extract]; omega
      have z2 : (s.extract p s.size).size ≤ 1000 := by rw [ByteArray.size_extract]; omega
      have z3 : (s.extract 0 p ++ x).size ≤ 1008 := by rw [ByteArray.size_append]; omega
      have z4 : (s.extract 0 p ++ x ++ s.extract p s.size).size ≤ 65536 := by rw [ByteArray.size_append]; omega
      have q1 : ¬ 9223372036854775807 < p + x.size := by omega
      have q2 : ¬ 9223372036854775807 < p + x.size + (s.size - p) := by omega
      obtain ⟨us, hU1, hU2⟩ := hins.out
      have hU := Lib.hid (Lx.sc_iff.2 hU1)
      rw [Nat.sub_zero, ← ins_eq s x p hat] at hU
      have HU2 := Lib.hid hU2.symm
      clear hU1 hU2 hins
      have hul := (tok_ne hU.out).1
      have hkd := hk.drew
      have htd := ht2.drewN 1
      clear hk ht2
      go_region_held3 (fun w' => w'.cell? ⟨gt, 2, none⟩ = some (.int .i64 (p : Int))) (exact kp_c2 (w := w) (by assumption))
        ((go_at_call 10; refine (scan_ok _ us _ z4 hU.out hul).mono ?_; rintro e wa ⟨g2, cap2, rfl, hta, hca, hba⟩; have hk1 := Kp.next (w := w) (bl := [(gt, 31, [.int .i64 (kd : Int), .string (bs tx), .int .i64 (p : Int)])]) (by assumption) hba))
      have htb : TokIn wa g ts := htd.below hba (Nat.le_refl _)
      clear hkd htd hba
      go_wp2_with fail
      refine (alike_true ts us g cap g2 cap2 us.length _ htb hta HU2 (by omega) rfl).mono ?_
      rintro e w4 ⟨rfl, hb4⟩
      have hk2 := hk1.next hb4
      clear hb4 hk1
      go_wp2_with fail
      refine (awake_any _).mono ?_
      rintro e w5 ⟨rfl, hb5⟩
      go_wp2_with fail
      go_ret
      exact ⟨rfl, (hk2.next hb5).below⟩
  · go_enter Try.func7, Try.ntmps7
    go_wp2_with fail
    refine (awake_any _).mono ?_
    rintro e w3 ⟨rfl, hb3⟩
    go_wp2_with fail
    go_ret
    exact ⟨rfl, hb3⟩
end Go.Proofs.Ytbepmakohjpioaa
