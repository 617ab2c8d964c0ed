/-
  dominolaw39.texts; Name inverts Value, Decode inverts Encode, plain.
-/
import Derived.Test.YtmdjhakamapngaaGreatDoorSdH
namespace Go.Proofs.YtmdjhakamapngaaGreatDoor
open Go.RowKit Go.Shelf
set_option linter.unusedVariables false

def textsP (l : List ByteArray) : Bool := shortS (l.take 30) && decide (l.length ≤ 24)
theorem texts_bd {l : List ByteArray} (h : textsP l = true) : l.length ≤ 24 ∧ ∀ s ∈ l, s.size ≤ 60 := by
  unfold textsP shortS at h
  rw [Bool.and_eq_true, decide_eq_true_eq] at h
  have h2 := h.2
  have h1 := h.1
  rw [List.take_of_length_le (by omega)] at h1
  exact ⟨h2, fun s hs => of_decide_eq_true (List.all_eq_true.1 h1 s hs)⟩
set_option maxRecDepth 20000 in
set_option maxHeartbeats 4000000 in
theorem texts_any (A : Option Addr) (c : Nat) (l : List ByteArray) (w : World) (hS : Strs w A l) :
    Calls Tryz.prog 5 #[.slice A l.length c] w fun e w' => e = .returned (.bool (textsP l)) ∧ Below w.heap.size w w' := by
  have HV : Hid (textsP l = (shortS (l.take 30) && decide (l.length ≤ 24))) := Lib.hid rfl
  go_enter Tryz.func5, Tryz.ntmps5
  go_upto_region 2 with fail
  go_loopg [3] (31 - 0) (fun m s3 wx => ∃ i : Nat, i ≤ l.length ∧ i ≤ 30 ∧ m = 31 - i ∧ s3 = .int .i64 (i : Int) ∧ Below w.heap.size w wx ∧ Hid (shortS (l.take i) = true))
  case atStart => exact ⟨0, Nat.zero_le _, by omega, rfl, rfl, Below.refl _ _, Lib.hid rfl⟩
  case round =>
    obtain ⟨i, hi, hi30, rfl, rfl, hb, HI⟩ := hrel
    by_cases hil : i < l.length
    · have hii : (i : Int) < (l.length : Int) := by omega
      have hi0 : (0 : Int) ≤ (i : Int) := by omega
      by_cases h30 : i < 30
      · have hi3 : (i : Int) < 30 := by omega
        obtain ⟨x, hxi⟩ : ∃ x, l[i]? = some x := ⟨_, List.getElem?_eq_getElem hil⟩
        obtain ⟨ad, rfl, c0⟩ := (hS.up hb).at_ i x hxi
        have HT : Hid (shortS (l.take (i + 1)) = (shortS (l.take i) && decide (x.size ≤ 60))) := Lib.hid (all_take hxi)
        have hxi2 : (l.take 30)[i]? = some x := by rw [List.getElem?_take, if_pos h30]; exact hxi
        have HB : Hid (¬ x.size ≤ 60 → textsP l = false) := Lib.hid (fun h => by
          rw [HV.out]
          unfold shortS
          rw [all_bad hxi2 (decide_eq_false h)]; rfl)
        clear hxi hxi2
        by_cases h60 : x.size ≤ 60
        · have hj : ¬ (60 : Int) < (x.size : Int) := by omega
          have HI2 : Hid (shortS (l.take (i + 1)) = true) := Lib.hid (by rw [HT.out, HI.out, decide_eq_true h60]; rfl)
          go_wp2_with fail
          go_roundg (31 - (i + 1))
          case measure => omega
          case rel => exact ⟨i + 1, hil, by omega, rfl, by first | rfl | simp, hb, HI2⟩
        · have hj : (60 : Int) < (x.size : Int) := by omega
          have HR := Lib.hid (HB.out h60)
          go_wp2_with fail
          go_ret
          rw [HR.out]
          exact ⟨rfl, hb⟩
      · have hi3 : ¬ (i : Int) < 30 := by omega
        have hl24 : ¬ (l.length : Int) ≤ 24 := by omega
        have HR : Hid (textsP l = false) := Lib.hid (by rw [HV.out, decide_eq_false (by omega)]; simp)
        go_wp2_with fail
        go_ret
        rw [HR.out]
        exact ⟨rfl, hb⟩
    · have hii : ¬ (i : Int) < (l.length : Int) := by omega
      have HR : Hid (textsP l = decide ((l.length : Int) ≤ 24)) := Lib.hid (by
        rw [HV.out, List.take_of_length_le (by omega)]
        have := HI.out
        rw [List.take_of_length_le (by omega)] at this
        rw [this, Bool.true_and]
        rw [Bool.eq_iff_iff, decide_eq_true_iff, decide_eq_true_iff]
        omega)
      go_wp2_with fail
      go_ret
      rw [HR.out]
      exact ⟨rfl, hb⟩
/-- Name inverts Value -/
theorem fval_inv {f : Fd} {t : ByteArray} {n : Int} (h : FOk f) (he : fvalV f t = (n, 0)) : fnameV f n = (t, 0) := by
  unfold fvalV at he
  unfold fnameV
  rcases fld_kind h.fe with ⟨k1, k2, k3, k4, k5⟩ | ⟨k1, k2, k3, k4, k5, k6⟩
  · rw [if_neg (by omega)] at he ⊢
    split at he
    · cases he
    · rename_i h1
      split at he
      · cases he
      · rename_i h2
        have hd : decN t = n := by injection he
        rw [hd] at h2
        rw [if_neg h2]
        have hok : decOk (tl t) = true := by simpa using h1
        have hv : decV (tl t) = n := by
          unfold decN at hd
          rw [if_pos hok] at hd
          exact hd
        have := (dec_ok hok).2.1
        rw [hv] at this
        rw [this, bs_tl]
  · rw [if_pos k1] at he ⊢
    split at he
    · cases he
    · rename_i h1
      have hn : Lib.idxOfS f.words t = n := by injection he
      rcases idx_or f.words t with h2 | ⟨i, h2, h3⟩
      · omega
      · have hi := (List.getElem?_eq_some_iff.1 h2).1
        have : n = (i : Int) := by omega
        subst this
        rw [if_pos (by omega)]
        simp only [Int.toNat_natCast, h2]
/-- what Encode hands back: pairwise -/
inductive EncR : List Fd → List ByteArray → List ByteArray → Prop
  | nil : EncR [] [] []
  | cons {f L t ts n xs} : fvalV f t = (n, 0) → EncR L ts xs → EncR (f :: L) (t :: ts) (bs (Dm.str (n - f.min).toNat) :: xs)
theorem encL_ok : ∀ (L : List Fd) (vs acc : List ByteArray), vs.length = L.length → (encL L vs acc).2 = 0 → ∃ xs, EncR L vs xs ∧ (encL L vs acc).1 = acc ++ xs
  | [], [], acc, _, _ => ⟨[], .nil, by simp [encL]⟩
  | [], t :: ts, acc, h, _ => by simp at h
  | f :: L, [], acc, h, _ => by simp at h
  | f :: L, t :: ts, acc, h, he => by
    rw [encL] at he ⊢
    split at he
    · rename_i h1; exact absurd he h1
    · rename_i h1
      rw [if_neg h1]
      have h0 : (fvalV f t).2 = 0 := Classical.byContradiction h1
      obtain ⟨xs, h2, h3⟩ := encL_ok L ts _ (by simpa using h) he
      refine ⟨bs (Dm.str ((fvalV f t).1 - f.min).toNat) :: xs, .cons (by rw [← h0]) h2, by rw [h3]; simp⟩
theorem encL_bad : ∀ (L : List Fd) (vs acc : List ByteArray), (encL L vs acc).2 ≠ 0 → (encL L vs acc).1 = []
  | [], [], acc, h => by simp [encL] at h
  | [], t :: ts, acc, h => by simp [encL] at h
  | f :: L, [], acc, h => by simp [encL] at h
  | f :: L, t :: ts, acc, h => by
    rw [encL] at h ⊢
    split at h
    · rename_i h1; rw [if_pos h1]
    · rename_i h1
      rw [if_neg h1]
      exact encL_bad L ts _ h
theorem encP_bad {nm : ByteArray} {L : List Fd} {vs : List ByteArray} (h : (encP nm L vs).2 ≠ 0) : (encP nm L vs).1 = [] := by
  unfold encP at h ⊢
  split at h
  · rename_i h1; rw [if_pos h1]
  · rename_i h1
    rw [if_neg h1]
    split at h
    · rename_i h2; rw [if_pos h2]
    · rename_i h2
      rw [if_neg h2]
      exact encL_bad L vs [] h
theorem encP_ok {nm : ByteArray} {L : List Fd} {vs : List ByteArray} (h : (encP nm L vs).2 = 0) : schemaE nm L = 0 ∧ vs.length = L.length ∧ EncR L vs (encP nm L vs).1 := by
  unfold encP at h ⊢
  split at h
  · rename_i h1; exact absurd h h1
  · rename_i h1
    rw [if_neg h1]
    split at h
    · cases h
    · rename_i h2
      rw [if_neg h2]
      have h3 : vs.length = L.length := Classical.byContradiction h2
      obtain ⟨xs, h4, h5⟩ := encL_ok L vs [] h3 h
      refine ⟨Classical.byContradiction h1, h3, ?_⟩
      rw [h5]; exact h4
theorem EncR.len {L : List Fd} {vs xs : List ByteArray} (h : EncR L vs xs) : xs.length = L.length := by
  induction h with
  | nil => rfl
  | cons _ _ ih => simp [ih]
theorem EncR.at_ {L : List Fd} {vs xs : List ByteArray} (h : EncR L vs xs) : ∀ (i : Nat) (f : Fd) (t : ByteArray), L[i]? = some f → vs[i]? = some t → ∃ n, fvalV f t = (n, 0) := by
  induction h with
  | nil => intro i f t hf; simp at hf
  | cons he _ ih =>
    intro i f t hf ht
    cases i with
    | zero =>
      simp only [List.getElem?_cons_zero, Option.some.injEq] at hf ht
      subst hf ht
      exact ⟨_, he⟩
    | succ i => exact ih i f t (by simpa using hf) (by simpa using ht)
theorem str32_len {n : Nat} (h : n < 4294967296) : (Dm.str n).length ≤ 4 := Dm.length_str_le.2 h
theorem EncR.dec {L : List Fd} {vs xs : List ByteArray} (h : EncR L vs xs) : ∀ (acc : List ByteArray), (∀ f ∈ L, FOk f) → decL L xs acc = (acc ++ vs, 0) ∧ allV xs = true ∧ ∀ x ∈ xs, x.size ≤ 4 := by
  induction h with
  | nil => intro acc _; exact ⟨by simp [decL], rfl, fun x hx => by cases hx⟩
  | @cons f L t ts n xs he _ ih =>
    intro acc hok
    have hf := hok f (List.mem_cons_self ..)
    obtain ⟨r1, r2, r3⟩ := fval_range hf (by rw [he])
    rw [he] at r1 r2
    simp only at r1 r2
    have hlt : (n - f.min).toNat < 4294967296 := by omega
    have hl := str32_len hlt
    have hn : ((n - f.min).toNat : Int) + f.min = n := by omega
    obtain ⟨i1, i2, i3⟩ := ih (acc ++ [t]) (fun g hg => hok g (List.mem_cons_of_mem _ hg))
    refine ⟨?_, ?_, fun x hx => ?_⟩
    · rw [decL, size_bs, tl_bs, Dm.val_str, hn, fval_inv hf he]
      rw [if_neg (by rw [decide_eq_true (by omega), decide_eq_true (by omega)]; simp), if_neg (by simp)]
      simp only
      rw [i1]; simp
    · unfold allV
      rw [List.all_cons]
      unfold allV at i2
      rw [i2, Bool.and_true, tl_bs]
      unfold validB
      rw [decide_eq_true (by omega), Dm.canon_str]; rfl
    · rcases List.mem_cons.1 hx with rfl | hx
      · rw [size_bs]; exact hl
      · exact i3 x hx
theorem decP_enc {nm : ByteArray} {L : List Fd} {vs : List ByteArray} (h : (encP nm L vs).2 = 0) : decP nm L (encP nm L vs).1 = (vs, 0) ∧ (∀ x ∈ (encP nm L vs).1, x.size ≤ 4) := by
  obtain ⟨h1, h2, h3⟩ := encP_ok h
  obtain ⟨d1, d2, d3⟩ := h3.dec [] (schemaE_ok h1).2.2.2
  refine ⟨?_, d3⟩
  unfold decP
  rw [if_neg (by rw [d2]; simp), if_neg (by rw [h1]; simp), if_neg (by rw [h3.len]; simp), d1]
  rfl
end Go.Proofs.YtmdjhakamapngaaGreatDoor
