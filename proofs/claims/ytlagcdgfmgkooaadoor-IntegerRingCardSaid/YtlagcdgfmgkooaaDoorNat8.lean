/-
  Walks over natural: DivMod, Gcd, Bits, given a contract of divided up to a length.
-/
import Derived.Test.YtlagcdgfmgkooaaDoorNat7
namespace Go.Proofs.YtlagcdgfmgkooaaDoor
open Go.RowKit
set_option linter.unusedVariables false

/-- divided, where the dividend has at most N bytes -/
def DivUpto (N : Nat) : Prop := ∀ (s t : ByteArray) (w : World), validB (tl s) = true → validB (tl t) = true → s.size ≤ N → 0 < Dm.val (tl t) →
  Calls Tryd.prog 62 #[.string s, .string t] w fun e w' => e = .returned (divV (tl s) (tl t)) ∧ Below w.heap.size w w'
theorem div8 : DivUpto 8 := fun s t w hs ht h8 h0 => by
  rcases Nat.lt_or_ge (Dm.val (tl s)) (Dm.val (tl t)) with h | h
  · exact divided_less s t w hs ht h
  · exact divided_short s t w hs ht h8 h h0

theorem val_pos {s : ByteArray} (hs : Dm.canon (tl s) = true) (h : 0 < s.size) : 0 < Dm.val (tl s) := by
  have h1 := tl_cons s h
  rw [h1]
  have h2 := Dm.val_ge_of_canon (c := s[0]) (l := (tl s).tail) (by rw [← h1]; exact hs)
  have := Dm.pow_pos256 (tl s).tail.length
  omega
theorem val_empty {s : ByteArray} (h : s.size = 0) : Dm.val (tl s) = 0 := by rw [tl_empty h]; rfl
theorem validB_of_lt {n m : Nat} (hn : n < m) (hm : (Dm.str m).length ≤ 128) : validB (Dm.str n) = true := by
  unfold validB
  rw [Dm.canon_str]
  have : n < 256 ^ 128 := Nat.lt_trans hn (Dm.length_str_le.1 hm)
  simp [Dm.length_str_le.2 this]
theorem validB_str_le {n : Nat} {l : List UInt8} (hl : validB l = true) (h : n ≤ Dm.val l) : validB (Dm.str n) = true ∧ (Dm.str n).length ≤ l.length := by
  have h1 : (Dm.str n).length ≤ l.length := by
    rw [Dm.length_str_le]
    exact Nat.lt_of_le_of_lt h (Dm.val_lt l)
  refine ⟨?_, h1⟩
  have := validB_len hl
  unfold validB
  rw [Dm.canon_str]
  simp; omega

def dmV (l m : List UInt8) : Value := if validB l && validB m then (if Dm.val m = 0 then .tuple #[Sv [], Sv [], .int .i64 11] else .tuple #[Sv (Dm.str (Dm.val l / Dm.val m)), Sv (Dm.str (Dm.val l % Dm.val m)), .int .i64 0]) else .tuple #[Sv [], Sv [], .int .i64 3]
set_option maxHeartbeats 1000000 in
theorem DivMod_any (N : Nat) (hD : DivUpto N) (s t : ByteArray) (w : World) (h1 : s.size ≤ 1073741824) (h2 : t.size ≤ 1073741824) (hN : s.size ≤ N ∨ validB (tl s) = false) :
    Calls Tryd.prog 24 #[.string s, .string t] w fun e w' => e = .returned (dmV (tl s) (tl t)) ∧ Below w.heap.size w w' := by
  have HDD := Lib.hid hD
  have HN := Lib.hid hN
  clear hD hN
  cases hs : validB (tl s) with
  | false =>
    have HS := Lib.hid hs
    clear hs
    go_enter Tryd.func24, Tryd.ntmps24
    go_wp2_with (first | (go_at_call 22; refine (valid_at s false _ h1 HS.out).mono ?_; rintro e w' ⟨rfl, rfl⟩))
    go_ret3
    exact ⟨by rw [dmV, HS.out]; rfl, Below.refl _ _⟩
  | true =>
    have HS := Lib.hid hs
    clear hs
    cases ht : validB (tl t) with
    | false =>
      have HT := Lib.hid ht
      clear ht
      go_enter Tryd.func24, Tryd.ntmps24
      go_wp2_with fail
      refine (valid_at s true _ h1 HS.out).mono ?_
      rintro e w' ⟨rfl, rfl⟩
      go_wp2_with fail
      refine (valid_at t false _ h2 HT.out).mono ?_
      rintro e w' ⟨rfl, rfl⟩
      go_wp2_with fail
      go_ret3
      exact ⟨by rw [dmV, HS.out, HT.out]; rfl, Below.refl _ _⟩
    | true =>
      have HT := Lib.hid ht
      clear ht
      by_cases h0 : t.size = 0
      · obtain ⟨he1, he2⟩ := str_empty h0
        have HV := Lib.hid (val_empty h0)
        clear h0
        go_enter Tryd.func24, Tryd.ntmps24
        go_wp2_with fail
        refine (valid_at s true _ h1 HS.out).mono ?_
        rintro e w' ⟨rfl, rfl⟩
        go_wp2_with fail
        refine (valid_at t true _ h2 HT.out).mono ?_
        rintro e w' ⟨rfl, rfl⟩
        go_wp2_with fail
        go_ret3
        exact ⟨by rw [dmV, HS.out, HT.out, if_pos (show (true && true) = true from rfl), if_pos HV.out]; rfl, Below.refl _ _⟩
      · obtain ⟨he1, he2⟩ := str_full (s := t) (by omega)
        have HP := Lib.hid (val_pos (validB_canon HT.out) (show 0 < t.size by omega))
        clear h0
        go_enter Tryd.func24, Tryd.ntmps24
        go_wp2_with fail
        refine (valid_at s true _ h1 HS.out).mono ?_
        rintro e w' ⟨rfl, rfl⟩
        go_wp2_with fail
        refine (valid_at t true _ h2 HT.out).mono ?_
        rintro e w' ⟨rfl, rfl⟩
        go_wp2_with fail
        refine (HDD.out s t _ HS.out HT.out (HN.out.resolve_right (by rw [HS.out]; simp)) HP.out).mono ?_
        rintro e w1 ⟨rfl, hb1⟩
        simp only [divV]
        go_wp2_with fail
        go_ret3
        exact ⟨by rw [dmV, HS.out, HT.out, if_pos (show (true && true) = true from rfl), if_neg (by have := HP.out; omega)]; rfl, hb1⟩

def numV : Value → Nat
  | .string s => Dm.val (tl s)
  | _ => 0
def gcdV (l m : List UInt8) : Value := if validB l && validB m then .tuple #[Sv (Dm.str (Nat.gcd (Dm.val l) (Dm.val m))), .int .i64 0] else .tuple #[Sv [], .int .i64 3]
def GcdRel (N G : Nat) (w : World) (x y : Value) (wr : World) : Prop := ∃ a b : ByteArray, x = .string a ∧ y = .string b ∧ validB (tl a) = true ∧ validB (tl b) = true ∧ a.size ≤ N ∧ b.size ≤ N ∧ Nat.gcd (Dm.val (tl a)) (Dm.val (tl b)) = G ∧ Below w.heap.size w wr
end Go.Proofs.YtlagcdgfmgkooaaDoor
