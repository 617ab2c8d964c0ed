/-
  dominolaw40.awake.
-/
import Derived.Test.YtbepmakohjpioaaLxT
namespace Go.Proofs.Ytbepmakohjpioaa
open Go.RowKit
set_option linter.unusedVariables false

theorem scan_ok (s : ByteArray) (ts : List Lx.Tok) (w : World) (hs : s.size ≤ 65536) (h : Lx.sc (tl s) = .ok ts) (h0 : 0 < ts.length) :
    Calls Try.prog 10 #[.string s] w fun e w' => ∃ g cap, e = .returned (.tuple #[.slice (some ⟨g, 0, none⟩) ts.length cap, .int .i64 0, .int .i64 0]) ∧ TokIn w' g ts ∧ ts.length ≤ cap ∧ Below w.heap.size w w' :=
  (scan_any s w hs).mono fun e w' hp => by
    unfold ScanPost at hp
    rw [h] at hp
    obtain ⟨v, he, hown, hb⟩ := hp
    obtain ⟨g, cap, rfl, _, ht, hc, _⟩ := own_tok hown h0
    exact ⟨g, cap, he, ht, hc, hb⟩
theorem scan_err (s : ByteArray) (a n : Nat) (w : World) (hs : s.size ≤ 65536) (h : Lx.sc (tl s) = .err a n) :
    Calls Try.prog 10 #[.string s] w fun e w' => e = .returned (.tuple #[.slice none 0 0, .int .i64 (a : Int), .int .i64 (n : Int)]) ∧ Below w.heap.size w w' :=
  (scan_any s w hs).mono fun e w' hp => by
    unfold ScanPost at hp
    rw [h] at hp
    exact hp
theorem eqs_true (ts : List Lx.Tok) (ys : List ByteArray) (n c b2 d : Nat) (w : World) (v : Value) (base : Nat) (hown : w.ownsRow base 9 1 v ts.length (strL ts)) (h0 : 0 < ts.length) (hn : ts.length ≤ 65537) (hB : ∀ j (h : j < ys.length), w.cell? ⟨b2, j, none⟩ = some (.string ys[j])) (heq : ts.map (fun t => bs t.text) = ys) :
    Calls Try.prog 17 #[v, .slice (some ⟨b2, 0, none⟩) ys.length d] w fun e w' => e = .returned (.bool true) ∧ Below w.heap.size w w' := by
  have hl : ys.length = ts.length := by rw [← heq]; simp
  obtain ⟨g, cap, rfl⟩ := Joins.ownsRow_form hown h0
  have hc1 : ∀ j, j < ys.length → w.cell? ⟨g, 0 + j, none⟩ = some (.string (ys.getD j ByteArray.empty)) := by
    intro j hj
    rw [Nat.zero_add, hown.cellAt j (by omega), ← heq]
    have : j < ts.length := by omega
    simp [strL, this]
  have hc2 : ∀ j, j < ys.length → w.cell? ⟨b2, 0 + j, none⟩ = some (.string (ys.getD j ByteArray.empty)) := by
    intro j hj
    rw [Nat.zero_add, hB j hj]
    simp [List.getD, hj]
  refine (Try.slices_Equal_string g 0 ts.length cap b2 0 ys.length d ys ys w (by omega) (Nat.le_refl _) (by omega) (by omega) hc1 hc2).mono ?_
  rintro e w' ⟨he, q, rfl⟩
  refine ⟨by rw [he]; refine ret_bool ?_; rw [← hl]; simp, bl_drewN (Below.refl _ _) _⟩
theorem lit_at (w : World) (t : TypeId) (ys : List ByteArray) : ∀ j (h : j < ys.length), (w.alloc (.cells (ys.map Value.string).toArray t)).cell? ⟨w.heap.size, j, none⟩ = some (.string ys[j]) := by
  intro j h
  rw [(Blk.new w t (ys.map Value.string)).cell j]
  simp [h]
def awL : List Lx.Tok := [⟨0, [97, 103, 101], 0⟩, ⟨2, [62, 61], 4⟩, ⟨1, [45, 49, 56], 7⟩, ⟨3, [], 12⟩]
def awM : List Lx.Tok := [⟨0, [97], 0⟩, ⟨2, [46], 1⟩, ⟨0, [98], 2⟩, ⟨2, [105, 110], 4⟩, ⟨2, [123], 7⟩, ⟨0, [39, 120, 39], 8⟩, ⟨2, [44], 11⟩, ⟨0, [39, 121, 45, 49, 39], 12⟩, ⟨2, [125], 17⟩, ⟨3, [], 18⟩]
theorem aw1 : Lx.sc [97, 103, 101, 32, 62, 61, 32, 45, 49, 56, 35, 120] = .ok awL := by kernel_rfl
theorem aw2 : Lx.sc [97, 46, 98, 32, 105, 110, 32, 123, 39, 120, 39, 44, 39, 121, 45, 49, 39, 125] = .ok awM := by kernel_rfl
theorem aw3 : Lx.sc [49, 50, 97, 98] = .err 2 4 := by kernel_rfl
theorem aw4 : Lx.sc [39, 120] = .err 0 4 := by kernel_rfl
theorem aw5 : Lx.sc [50, 49, 52, 55, 52, 56, 51, 54, 52, 56] = .err 0 2 := by kernel_rfl
theorem aw6 : Lx.sc [97, 32, 45, 32, 98] = .err 2 4 := by kernel_rfl
set_option maxRecDepth 100000 in
set_option maxHeartbeats 4000000 in
theorem awake_any (w : World) : Calls Try.prog 9 #[] w fun e w' => e = .returned (.bool true) ∧ Below w.heap.size w w' := by
  go_enter Try.func9, Try.ntmps9
  go_wp2_with fail
  refine (scan_ok ⟨#[97, 103, 101, 32, 62, 61, 32, 45, 49, 56, 35, 120]⟩ awL _ (by decide) aw1 (by decide)).mono ?_
  rintro e w1 ⟨g1, c1, rfl, ht1, hc1, hb1⟩
  go_wp2_with fail
  refine (scan_ok ⟨#[97, 46, 98, 32, 105, 110, 32, 123, 39, 120, 39, 44, 39, 121, 45, 49, 39, 125]⟩ awM _ (by decide) aw2 (by decide)).mono ?_
  rintro e w2 ⟨g2, c2, rfl, ht2, hc2, hb2⟩
  have hu1 := ht1.below hb2 (Nat.le_refl _)
  have hB2 := hb1.trans (hb2.mono hb1.size)
  clear ht1 hb1 hb2
  have el : awL.length = 4 := rfl
  have em : awM.length = 10 := rfl
  rw [el] at hc1 ⊢
  rw [em] at hc2 ⊢
  clear el em
  go_wp2_with fail
  refine (scan_err ⟨#[49, 50, 97, 98]⟩ 2 4 _ (by decide) aw3).mono ?_
  rintro e w3 ⟨rfl, hb⟩
  have hu1 := hu1.below hb (Nat.le_refl _)
  have ht2 := ht2.below hb (Nat.le_refl _)
  have hB3 := hB2.trans (hb.mono hB2.size)
  clear hb hB2
  go_wp2_with fail
  refine (scan_err ⟨#[39, 120]⟩ 0 4 _ (by decide) aw4).mono ?_
  rintro e w4 ⟨rfl, hb⟩
  have hu1 := hu1.below hb (Nat.le_refl _)
  have ht2 := ht2.below hb (Nat.le_refl _)
  have hB4 := hB3.trans (hb.mono hB3.size)
  clear hb hB3
  go_wp2_with fail
  refine (scan_err ⟨#[50, 49, 52, 55, 52, 56, 51, 54, 52, 56]⟩ 0 2 _ (by decide) aw5).mono ?_
  rintro e w5 ⟨rfl, hb⟩
  have hu1 := hu1.below hb (Nat.le_refl _)
  have ht2 := ht2.below hb (Nat.le_refl _)
  have hB5 := hB4.trans (hb.mono hB4.size)
  clear hb hB4
  go_wp2_with fail
  refine (scan_err ⟨#[97, 32, 45, 32, 98]⟩ 2 4 _ (by decide) aw6).mono ?_
  rintro e w6 ⟨rfl, hb⟩
  have hu1 := hu1.below hb (Nat.le_refl _)
  have ht2 := ht2.below hb (Nat.le_refl _)
  have hB6 := hB5.trans (hb.mono hB5.size)
  clear hb hB5
  go_wp2_with fail
  refine (texts_any awL g1 c1 _ hu1 (by decide) (by decide) hc1).mono ?_
  rintro e w7 ⟨v1, rfl, hown1, hb⟩
  have hu2 := ht2.below hb (Nat.le_refl _)
  have hB7 := hB6.trans (hb.mono hB6.size)
  clear hu1 ht2 hb hB6
  go_wp2_with fail
  refine (eqs_true awL [⟨#[97, 103, 101]⟩, ⟨#[62, 61]⟩, ⟨#[45, 49, 56]⟩, ⟨#[]⟩] 0 0 w7.heap.size 4 _ v1 _ (hown1.alloc _) (by decide) (by decide) (lit_at _ _ _) rfl).mono ?_
  rintro e w8 ⟨rfl, hb⟩
  have hu3 := (hu2.below (Below.alloc (Below.refl _ w7) (Nat.le_refl _) _) (Nat.le_refl _)).below hb (by simp)
  have hB8 := (hB7.alloc hB7.size _).trans (hb.mono (by have := hB7.size; simp; omega))
  clear hu2 hb hB7 hown1
  go_wp2_with fail
  refine (texts_any awM g2 c2 _ hu3 (by decide) (by decide) hc2).mono ?_
  rintro e w9 ⟨v2, rfl, hown2, hb⟩
  have hu4 := hu3.below hb (Nat.le_refl _)
  have hB9 := hB8.trans (hb.mono hB8.size)
  clear hu3 hb hB8
  go_wp2_with fail
  refine (eqs_true awM [⟨#[97]⟩, ⟨#[46]⟩, ⟨#[98]⟩, ⟨#[105, 110]⟩, ⟨#[123]⟩, ⟨#[39, 120, 39]⟩, ⟨#[44]⟩, ⟨#[39, 121, 45, 49, 39]⟩, ⟨#[125]⟩, ⟨#[]⟩] 0 0 w9.heap.size 10 _ v2 _ (hown2.alloc _) (by decide) (by decide) (lit_at _ _ _) rfl).mono ?_
  rintro e w10 ⟨rfl, hb⟩
  have hu5 := (hu4.below (Below.alloc (Below.refl _ w9) (Nat.le_refl _) _) (Nat.le_refl _)).below hb (by simp)
  have hB10 := (hB9.alloc hB9.size _).trans (hb.mono (by have := hB9.size; simp; omega))
  clear hu4 hb hB9 hown2
  have hcell : w10.cell? ⟨g2, 3 * 3, none⟩ = some (.int .i64 2) := (hu5.at 3 (by decide)).1
  have hcell2 : w10.cell? ⟨g2, 9, none⟩ = some (.int .i64 2) := hcell
  go_wp2_with fail
  go_ret
  exact ⟨rfl, hB10⟩
end Go.Proofs.Ytbepmakohjpioaa
