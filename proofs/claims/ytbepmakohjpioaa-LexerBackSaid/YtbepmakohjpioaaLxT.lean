/-
  Tokens in memory: texts.
-/
import Derived.Test.YtbepmakohjpioaaLxW6
import Derived.Test.YtbepmakohjpioaaShelf2
namespace Go.Proofs.Ytbepmakohjpioaa
open Go.RowKit
set_option linter.unusedVariables false

/-- tokens lie in a block from its first cell on -/
def TokIn (W : World) (g : Nat) (ts : List Lx.Tok) : Prop := g < W.heap.size ∧ ∀ j u, (tokL ts)[j]? = some u → W.cell? ⟨g, j, none⟩ = some u
theorem TokIn.below {W W' : World} {B g : Nat} {ts : List Lx.Tok} (h : TokIn W g ts) (hb : Below B W W') (hB : W.heap.size ≤ B) : TokIn W' g ts :=
  ⟨Nat.lt_of_lt_of_le h.1 hb.size, fun j u hu => (hb.cell (p := ⟨g, j, none⟩) (Nat.lt_of_lt_of_le h.1 hB)).trans (h.2 j u hu)⟩
theorem tokL_at (ts : List Lx.Tok) (k : Nat) (h : k < ts.length) : (tokL ts)[k * 3]? = some (.int .i64 (ts[k].kind : Int)) ∧ (tokL ts)[k * 3 + 1]? = some (.string (bs ts[k].text)) ∧ (tokL ts)[k * 3 + 2]? = some (.int .i64 (ts[k].at_ : Int)) := by
  induction ts generalizing k with
  | nil => simp at h
  | cons t ts ih =>
    cases k with
    | zero => exact ⟨rfl, rfl, rfl⟩
    | succ k =>
      have h1 := ih k (by simpa using h)
      have e : tokL (t :: ts) = .int .i64 (t.kind : Int) :: .string (bs t.text) :: .int .i64 (t.at_ : Int) :: tokL ts := rfl
      rw [e, show (k + 1) * 3 = k * 3 + 1 + 1 + 1 by omega]
      simpa using h1
theorem TokIn.at {W : World} {g : Nat} {ts : List Lx.Tok} (h : TokIn W g ts) (k : Nat) (hk : k < ts.length) : W.cell? ⟨g, k * 3, none⟩ = some (.int .i64 (ts[k].kind : Int)) ∧ W.cell? ⟨g, k * 3 + 1, none⟩ = some (.string (bs ts[k].text)) ∧ W.cell? ⟨g, k * 3 + 2, none⟩ = some (.int .i64 (ts[k].at_ : Int)) :=
  ⟨h.2 _ _ (tokL_at ts k hk).1, h.2 _ _ (tokL_at ts k hk).2.1, h.2 _ _ (tokL_at ts k hk).2.2⟩
/-- what Scan returned, if it has tokens -/
theorem own_tok {W : World} {base : Nat} {v : Value} {ts : List Lx.Tok} (h : W.ownsRow base 31 3 v ts.length (tokL ts)) (hn : 0 < ts.length) : ∃ g cap, v = .slice (some ⟨g, 0, none⟩) ts.length cap ∧ base ≤ g ∧ TokIn W g ts ∧ ts.length ≤ cap ∧ cap ≤ maxLen := by
  rcases h.2 with ⟨_, h0⟩ | ⟨g, cap, cur, hv, hb, hg, hc, hm, hsz, htk⟩
  · omega
  · refine ⟨g, cap, hv, hb, ⟨?_, ?_⟩, hc, hm⟩
    · rcases Nat.lt_or_ge g W.heap.size with h' | h'
      · exact h'
      · rw [Array.getElem?_eq_none h'] at hg; cases hg
    · intro j u hu
      have hj : j < (tokL ts).length := (List.getElem?_eq_some_iff.1 hu).1
      rw [tokL_len] at hj
      rw [← htk, List.getElem?_take_of_lt hj] at hu
      simp only [World.cell?, hg]
      simpa using hu
def strL (ts : List Lx.Tok) : List Value := ts.map fun t => .string (bs t.text)
theorem strL_snoc (ts : List Lx.Tok) (k : Nat) (h : k < ts.length) : strL (ts.take (k + 1)) = strL (ts.take k) ++ [.string (bs ts[k].text)] := by
  rw [List.take_succ_eq_append_getElem h, strL, List.map_append]; rfl
def TxRel (ts : List Lx.Tok) (w : World) (v i : Value) (W : World) : Prop := ∃ k : Nat, k ≤ ts.length ∧ i = .int .i64 (k : Int) ∧ W.ownsRow w.heap.size 9 1 v k (strL (ts.take k)) ∧ Below w.heap.size w W
theorem str_info : (Try.prog.info? 9).map (fun i => (i.zero, i.size, i.bytes)) = some (some (.string ⟨#[]⟩), 1, 16) := by kernel_rfl
theorem texts_any (ts : List Lx.Tok) (gv cap : Nat) (w : World) (hT : TokIn w gv ts) (hn : ts.length ≤ 65537) (h0 : 0 < ts.length) (hc : ts.length ≤ cap) :
    Calls Try.prog 18 #[.slice (some ⟨gv, 0, none⟩) ts.length cap] w fun e w' => ∃ v, e = .returned v ∧ w'.ownsRow w.heap.size 9 1 v ts.length (strL ts) ∧ Below w.heap.size w w' := by
  go_enter Try.func18, Try.ntmps18
  go_wp2
  go_loopw [3, 8] (TxRel ts w) (fun _ i _ => ts.length - (intOf i).toNat)
  case atStart => exact ⟨0, Nat.zero_le _, rfl, World.ownsRow_nil _ _ _ _, Below.refl _ _⟩
  case round =>
    obtain ⟨k, hk, rfl, hown, hb⟩ := hrel
    by_cases hlt : k < ts.length
    · obtain ⟨c0, c1, c2⟩ := (hT.below hb (Nat.le_refl _)).at k hlt
      obtain ⟨i0, hi0, hz0, hz1, hz2⟩ := info_parts str_info
      have HSN := Lib.hid (strL_snoc ts k hlt)
      generalize ts[k].text = tx at *
      go_wp2_with (first | (at_builtin; refine wpList_append_own _ rfl _ _ 34 rfl w.heap.size 9 i0 _ 1 16 Try.underlying34 hi0 hz0 hz1 hz2 rfl (by decide) _ _ _ rfl ((hown.alloc _).alloc _) ⟨wr.heap.size + 1, 0, none⟩ 1 1 [.string (bs tx)] rfl rfl ?c1 ?c2 ?c3 ?c4 ?c5 ?_))
      case c1 =>
        intro j u hu
        have h := (Blk.new (wr.alloc (.cells #[.int .i64 (ts[k].kind : Int), .string (bs tx), .int .i64 (ts[k].at_ : Int)] 31)) 9 [.string (bs tx)]).cell j
        rw [addr_add, Nat.zero_add]
        refine Eq.trans ?_ (h.trans hu)
        simp
      case c2 => intro u hu; simp at hu; rw [hu]; rfl
      case c3 => unfold maxLen; omega
      case c4 => omega
      case c5 => have := hb.size; simp; omega
      intro v' w4 hown4 hgr4 _
      have hb4 : Below w.heap.size w w4 := ((hb.alloc hb.size _).alloc (by have := hb.size; simp; omega) _).grown hgr4 (by have := hb.size; simp; omega) (fun j hj => (hown.lt j hj).1)
      clear hgr4 c0 c1 c2
      go_wp2_with fail
      go_roundw
      case rel => exact ⟨k + 1, by omega, by simp, by rw [HSN.out]; exact hown4, hb4⟩
      case measure => simp [intOf]; omega
    · go_wp2
      go_ret
      have : k = ts.length := by omega
      subst this
      rw [List.take_length] at hown
      exact ⟨_, rfl, hown, hb⟩
end Go.Proofs.Ytbepmakohjpioaa
