/-
  The walk of the law LexerNames.
-/
import Derived.Test.YtbepmakohjpioaaLxA
namespace Go.Proofs.Ytbepmakohjpioaa
open Go.RowKit
set_option linter.unusedVariables false

def LT : List UInt8 := [97, 98, 99, 88, 89, 90, 95, 48, 49, 57]
structure Good (l : List UInt8) : Prop where
  head : ∃ c m, l = c :: m ∧ Lx.isLet c = true
  all : ∀ x ∈ l, x ∈ LT
theorem LT_nm {x : UInt8} (h : x ∈ LT) : Lx.isNm x = true := by
  simp [LT] at h
  rcases h with rfl | rfl | rfl | rfl | rfl | rfl | rfl | rfl | rfl | rfl <;> decide
theorem Good.sp {l : List UInt8} (h : Good l) : Lx.sp Lx.isNm l = l.length :=
  Lx.sp_of (Nat.le_refl _) (fun i _ h2 => LT_nm (h.all _ (List.getElem_mem h2))) (fun h2 => absurd h2 (Nat.lt_irrefl _))
theorem Good.kw {l : List UInt8} (h : Good l) : Lx.kw l = false := by
  cases hk : Lx.kw l with
  | false => rfl
  | true =>
    have hm : l ∈ Lx.kws := by
      unfold Lx.kw at hk
      simpa using hk
    have hn : ∀ k ∈ Lx.kws, ∃ x ∈ k, x ∉ LT := by decide
    obtain ⟨x, hx, hy⟩ := hn l hm
    exact (hy (h.all x hx)).elim
theorem Good.tk {l : List UInt8} (h : Good l) : Lx.tk l = if 32 < l.length then .inl 5 else .inr (0, l.length) := by
  obtain ⟨c, m, rfl, hc⟩ := h.head
  rw [Lx.tk, if_pos hc, Lx.tkName, h.sp]
  by_cases hl : 32 < (c :: m).length
  · rw [if_pos hl, if_pos hl]
  · rw [if_neg hl, if_neg hl, List.take_length, h.kw]
    rfl
theorem Good.sc {l : List UInt8} (h : Good l) : Lx.sc (32 :: 32 :: l) = if 32 < l.length then .err 2 5 else .ok [⟨0, l, 2⟩, ⟨3, [], 2 + l.length⟩] := by
  obtain ⟨c, m, e, hc⟩ := h.head
  have hs : Lx.sk false l = 0 := by
    rw [e]
    refine Lx.sk_stop ?_ ?_
    · rw [cls_sp]; rw [cls_let] at hc; simp at hc ⊢; omega
    · cases h5 : (c == 35) with
      | false => rfl
      | true =>
        have : c = 35 := by simpa using h5
        rw [this] at hc
        exact absurd hc (by decide)
  have hk : Lx.sk false (32 :: 32 :: l) = 2 := by rw [Lx.sk_sp rfl, Lx.sk_sp rfl, hs]
  have hne : l ≠ [] := by rw [e]; simp
  rw [Lx.sc, List.length_cons, List.length_cons, Lx.scF, hk]
  simp only [List.drop_succ_cons, List.drop_zero, Nat.zero_add]
  by_cases hl : 32 < l.length
  · rw [if_pos hl, Lx.st_inl (e := 5) (by rw [h.tk, if_pos hl]) hne]
  · rw [if_neg hl, Lx.st_inr (k := 0) (n := l.length) (by rw [h.tk, if_neg hl]), if_neg (by simp), List.drop_length, List.take_length, Lx.scF]
    rfl
theorem lt_ext (j : Nat) (h : j < 10) : (⟨#[97, 98, 99, 88, 89, 90, 95, 48, 49, 57]⟩ : ByteArray).extract j (j + 1) = bs [LT[j]] := by
  have h10 : j = 0 ∨ j = 1 ∨ j = 2 ∨ j = 3 ∨ j = 4 ∨ j = 5 ∨ j = 6 ∨ j = 7 ∨ j = 8 ∨ j = 9 := by omega
  rcases h10 with rfl | rfl | rfl | rfl | rfl | rfl | rfl | rfl | rfl | rfl <;> rfl
theorem Good.one {j : Nat} (h : j < 6) : Good [LT[j]'(Nat.lt_of_lt_of_le h (by decide))] := by
  refine ⟨⟨_, [], rfl, ?_⟩, fun x hx => by rw [List.mem_singleton] at hx; rw [hx]; exact List.getElem_mem _⟩
  have h6 : j = 0 ∨ j = 1 ∨ j = 2 ∨ j = 3 ∨ j = 4 ∨ j = 5 := by omega
  rcases h6 with rfl | rfl | rfl | rfl | rfl | rfl <;> rfl
theorem Good.snoc {l : List UInt8} (h : Good l) {j : Nat} (hj : j < 10) : Good (l ++ [LT[j]]) := by
  obtain ⟨c, m, rfl, hc⟩ := h.head
  refine ⟨⟨c, m ++ [LT[j]], rfl, hc⟩, fun x hx => ?_⟩
  rcases List.mem_append.1 hx with hx | hx
  · exact h.all x hx
  · rw [List.mem_singleton] at hx; rw [hx]; exact List.getElem_mem _
theorem bs_app (l m : List UInt8) : bs l ++ bs m = bs (l ++ m) := by
  apply eq_of_tl
  rw [tl_bs]
  show (bs l ++ bs m).data.toList = _
  rw [ByteArray.data_append]
  simp [bs]
def NmRel (n : Nat) (w : World) (v i : Value) (W : World) : Prop := ∃ (k : Nat) (l : List UInt8), 1 ≤ k ∧ k ≤ n % 40 + 1 ∧ i = .int .i64 (k : Int) ∧ v = .string (bs l) ∧ Good l ∧ l.length = k ∧ W = w
theorem u8_nat {a : Int} (h : (Lit.int .u8 a).wf = true) : ∃ n : Nat, a = n ∧ n < 256 := by
  have hx : 0 ≤ a ∧ a ≤ 255 := by simpa [Lit.wf, IntKind.min, IntKind.max, IntKind.signed, IntKind.bits] using h
  exact ⟨a.toNat, by omega, by omega⟩
set_option maxHeartbeats 1000000 in
theorem names_walk (a b : Int) (ha : (Lit.int .u8 a).wf = true) (hb : (Lit.int .u8 b).wf = true) (w : World) :
    Calls Try.prog 6 #[.int .u8 a, .int .u8 b] w fun e w' => e = .returned (.bool true) ∧ Below w.heap.size w w' := by
  obtain ⟨n, rfl, hn⟩ := u8_nat ha
  obtain ⟨f, rfl, hf⟩ := u8_nat hb
  clear ha hb
  go_enter Try.func6, Try.ntmps6
  go_wp2_with fail
  go_loopw [6, 7] (NmRel n w) (fun _ i _ => (n % 40 + 2 - intOf i).toNat)
  case atStart => exact ⟨1, [LT[f % 6]'(Nat.lt_of_lt_of_le (Nat.mod_lt f (by decide)) (by decide))], by omega, by omega, rfl, congrArg Value.string (lt_ext (f % 6) (Nat.lt_of_lt_of_le (Nat.mod_lt f (by decide)) (by decide))), Good.one (Nat.mod_lt f (by decide)), rfl, rfl⟩
  case round =>
    obtain ⟨k, l, hk1, hk, rfl, rfl, hG, hll, rfl⟩ := hrel
    have hsz : (bs l).size ≤ 41 := by rw [size_bs]; omega
    by_cases hlt : k < n % 40 + 1
    · have HL := Lib.hid hll
      clear hll
      have hx := lt_ext ((k * 7 + f) % 10) (Nat.mod_lt _ (by decide))
      have hx1 : ((⟨#[97, 98, 99, 88, 89, 90, 95, 48, 49, 57]⟩ : ByteArray).extract ((k * 7 + f) % 10) ((k * 7 + f) % 10 + 1)).size ≤ 1 := by rw [hx, size_bs]; exact Nat.le_refl _
      have HX := Lib.hid hx
      clear hx
      go_wp2_with fail
      go_roundw
      case rel => exact ⟨k + 1, l ++ [LT[(k * 7 + f) % 10]'(Nat.mod_lt _ (by decide))], by omega, by omega, by simp, by rw [HX.out, bs_app], hG.snoc (Nat.mod_lt _ (by decide)), by rw [List.length_append, HL.out]; rfl, rfl⟩
      case measure => simp [intOf]; omega
    · have hkn : k = n % 40 + 1 := by omega
      have HK := Lib.hid hkn
      clear hkn
      have HL := Lib.hid hll
      clear hll
      have hkw := hG.kw
      have hsc := hG.sc
      rw [HL.out] at hsc
      have HS := Lib.hid hsc
      have HKW := Lib.hid hkw
      clear hsc hkw
      go_wp2_with fail
      refine (keyword_at _ false _ (by rw [tl_bs]; exact HKW.out)).mono ?_
      rintro e w1 ⟨rfl, rfl⟩
      have e2 : (⟨#[32, 32]⟩ : ByteArray) ++ bs l = bs (32 :: 32 :: l) := bs_app [32, 32] l
      by_cases h32 : 32 < k
      · have HS2 := HS.out
        rw [if_pos h32] at HS2
        have HS3 := Lib.hid HS2
        clear HS2 HS
        have hz : decide ((32 : Int) < ((bs l).size : Int)) = true := by rw [size_bs, HL.out]; simp; omega
        go_wp2_with fail
        refine (scan_err _ 2 5 _ (by rw [size_bs, List.length_cons, List.length_cons, HL.out]; omega) (by rw [tl_bs]; exact HS3.out)).mono ?_
        rintro e w2 ⟨rfl, hb2⟩
        go_wp2_with fail
        refine (awake_any _).mono ?_
        rintro e w3 ⟨rfl, hb3⟩
        go_wp2_with fail
        go_ret
        exact ⟨rfl, hb2.trans (hb3.mono hb2.size)⟩
      · have HS2 := HS.out
        rw [if_neg h32] at HS2
        have HS3 := Lib.hid HS2
        clear HS2 HS
        have hz : decide ((32 : Int) < ((bs l).size : Int)) = false := by rw [size_bs, HL.out]; simp; omega
        go_wp2_with fail
        refine (scan_ok _ [⟨0, l, 2⟩, ⟨3, [], 2 + k⟩] _ (by rw [size_bs, List.length_cons, List.length_cons, HL.out]; omega) (by rw [tl_bs]; exact HS3.out) (Nat.zero_lt_succ _)).mono ?_
        rintro e w2 ⟨g, cap, rfl, ht, hc, hb2⟩
        have d0 : w2.cell? ⟨g, 0, none⟩ = some (.int .i64 0) := (ht.at 0 (Nat.zero_lt_succ _)).1
        have d1 : w2.cell? ⟨g, 1, none⟩ = some (.string (bs l)) := (ht.at 0 (Nat.zero_lt_succ _)).2.1
        have d2 : w2.cell? ⟨g, 2, none⟩ = some (.int .i64 2) := (ht.at 0 (Nat.zero_lt_succ _)).2.2
        rw [show ([⟨0, l, 2⟩, ⟨3, [], 2 + k⟩] : List Lx.Tok).length = 2 from rfl] at hc ⊢
        clear ht
        go_wp2_with fail
        refine (awake_any _).mono ?_
        rintro e w3 ⟨rfl, hb3⟩
        go_wp2_with fail
        go_ret
        exact ⟨by first | rfl | (simp; done), hb2.trans (hb3.mono hb2.size)⟩
end Go.Proofs.Ytbepmakohjpioaa
