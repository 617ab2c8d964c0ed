/-
  Tokens in memory; what Scan returns.
-/
import Derived.Test.YtogmhaihmkcjgaaGreatDoorLxW6
namespace Go.Proofs.YtogmhaihmkcjgaaGreatDoor
open Go.RowKit
set_option linter.unusedVariables false

/-- tokens lie in a block from its first cell on -/
def TokIn (W : World) (g : Nat) (ts : List Lx.Tok) : Prop := g < W.heap.size ∧ ∀ j u, (tokL ts)[j]? = some u → W.cell? ⟨g, j, none⟩ = some u
theorem TokIn.below {W W' : World} {B g : Nat} {ts : List Lx.Tok} (h : TokIn W g ts) (hb : Below B W W') (hB : W.heap.size ≤ B) : TokIn W' g ts :=
  ⟨Nat.lt_of_lt_of_le h.1 hb.size, fun j u hu => (hb.cell (p := ⟨g, j, none⟩) (Nat.lt_of_lt_of_le h.1 hB)).trans (h.2 j u hu)⟩
theorem tokL_at (ts : List Lx.Tok) (k : Nat) (h : k < ts.length) : (tokL ts)[k * 3]? = some (.int .i64 (ts[k].kind : Int)) ∧ (tokL ts)[k * 3 + 1]? = some (.string (bs ts[k].text)) ∧ (tokL ts)[k * 3 + 2]? = some (.int .i64 (ts[k].at_ : Int)) := by
  induction ts generalizing k with
  | nil => simp at h
  | cons t ts ih =>
    cases k with
    | zero => exact ⟨rfl, rfl, rfl⟩
    | succ k =>
      have h1 := ih k (by simpa using h)
      have e : tokL (t :: ts) = .int .i64 (t.kind : Int) :: .string (bs t.text) :: .int .i64 (t.at_ : Int) :: tokL ts := rfl
      rw [e, show (k + 1) * 3 = k * 3 + 1 + 1 + 1 by omega]
      simpa using h1
theorem TokIn.at {W : World} {g : Nat} {ts : List Lx.Tok} (h : TokIn W g ts) (k : Nat) (hk : k < ts.length) : W.cell? ⟨g, k * 3, none⟩ = some (.int .i64 (ts[k].kind : Int)) ∧ W.cell? ⟨g, k * 3 + 1, none⟩ = some (.string (bs ts[k].text)) ∧ W.cell? ⟨g, k * 3 + 2, none⟩ = some (.int .i64 (ts[k].at_ : Int)) :=
  ⟨h.2 _ _ (tokL_at ts k hk).1, h.2 _ _ (tokL_at ts k hk).2.1, h.2 _ _ (tokL_at ts k hk).2.2⟩
/-- what Scan returned, if it has tokens -/
theorem own_tok {W : World} {base : Nat} {v : Value} {ts : List Lx.Tok} (h : W.ownsRow base 158 3 v ts.length (tokL ts)) (hn : 0 < ts.length) : ∃ g cap, v = .slice (some ⟨g, 0, none⟩) ts.length cap ∧ base ≤ g ∧ TokIn W g ts ∧ ts.length ≤ cap ∧ cap ≤ maxLen := by
  rcases h.2 with ⟨_, h0⟩ | ⟨g, cap, cur, hv, hb, hg, hc, hm, hsz, htk⟩
  · omega
  · refine ⟨g, cap, hv, hb, ⟨?_, ?_⟩, hc, hm⟩
    · rcases Nat.lt_or_ge g W.heap.size with h' | h'
      · exact h'
      · rw [Array.getElem?_eq_none h'] at hg; cases hg
    · intro j u hu
      have hj : j < (tokL ts).length := (List.getElem?_eq_some_iff.1 hu).1
      rw [tokL_len] at hj
      rw [← htk, List.getElem?_take_of_lt hj] at hu
      simp only [World.cell?, hg]
      simpa using hu
theorem scan_ok (s : ByteArray) (ts : List Lx.Tok) (w : World) (hs : s.size ≤ 65536) (h : Lx.sc (tl s) = .ok ts) (h0 : 0 < ts.length) :
    Calls Tryz.prog 36 #[.string s] w fun e w' => ∃ g cap, e = .returned (.tuple #[.slice (some ⟨g, 0, none⟩) ts.length cap, .int .i64 0, .int .i64 0]) ∧ TokIn w' g ts ∧ ts.length ≤ cap ∧ Below w.heap.size w w' :=
  (scan_any s w hs).mono fun e w' hp => by
    unfold ScanPost at hp
    rw [h] at hp
    obtain ⟨v, he, hown, hb⟩ := hp
    obtain ⟨g, cap, rfl, _, ht, hc, _⟩ := own_tok hown h0
    exact ⟨g, cap, he, ht, hc, hb⟩
theorem scan_err (s : ByteArray) (a n : Nat) (w : World) (hs : s.size ≤ 65536) (h : Lx.sc (tl s) = .err a n) :
    Calls Tryz.prog 36 #[.string s] w fun e w' => e = .returned (.tuple #[.slice none 0 0, .int .i64 (a : Int), .int .i64 (n : Int)]) ∧ Below w.heap.size w w' :=
  (scan_any s w hs).mono fun e w' hp => by
    unfold ScanPost at hp
    rw [h] at hp
    exact hp
end Go.Proofs.YtogmhaihmkcjgaaGreatDoor
