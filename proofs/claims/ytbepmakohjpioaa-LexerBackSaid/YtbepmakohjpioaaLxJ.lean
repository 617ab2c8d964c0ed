/-
  lexer.Join: its memory; one round.
-/
import Derived.Test.YtbepmakohjpioaaLxS2
import Derived.Deep.AppendLies
import Derived.Deep.RegionHeldLaw
namespace Go.Proofs.Ytbepmakohjpioaa
open Go.RowKit
set_option linter.unusedVariables false

/-- two slices of the call's own, and a token's copy -/
structure JW (w : World) (gt : Nat) (kd : Int) (T : ByteArray) (p : Int) (vt vk : Value) (nt nk : Nat) (xt xk : List Value) (W : World) : Prop where
  tok : Blk W gt 31 [.int .i64 kd, .string T, .int .i64 p]
  ot : W.ownsRow w.heap.size 9 1 vt nt xt
  ok : W.ownsRow w.heap.size 3 1 vk nk xk
  ne : vt.ownBlock = none ∨ vk.ownBlock = none ∨ vt.ownBlock ≠ vk.ownBlock
  nt_ : vt.ownBlock ≠ some gt
  nk_ : vk.ownBlock ≠ some gt
  below : Below w.heap.size w W
section
variable {w : World} {gt : Nat} {kd : Int} {T : ByteArray} {p : Int} {vt vk : Value} {nt nk : Nat} {xt xk : List Value} {W : World}
theorem JW.alloc (h : JW w gt kd T p vt vk nt nk xt xk W) (o : Obj) : JW w gt kd T p vt vk nt nk xt xk (W.alloc o) :=
  ⟨h.tok.alloc o, h.ot.alloc o, h.ok.alloc o, h.ne, h.nt_, h.nk_, h.below.alloc h.below.size o⟩
theorem JW.drew (h : JW w gt kd T p vt vk nt nk xt xk W) : JW w gt kd T p vt vk nt nk xt xk W.drew :=
  ⟨h.tok, h.ot, h.ok, h.ne, h.nt_, h.nk_, h.below.drew⟩
theorem JW.text (h : JW w gt kd T p vt vk nt nk xt xk W) {W' : World} {g cap n : Nat} {x : List Value} (ho : W'.ownsRow w.heap.size 9 1 (.slice (some ⟨g, 0, none⟩) n cap) n x) (hg : W.grownBy W' vt.ownBlock) (hat : vt.ownBlock = some g ∨ g = W.heap.size) : JW w gt kd T p (.slice (some ⟨g, 0, none⟩) n cap) vk n nk x xk W' := by
  have h1 := h.tok.lt
  refine ⟨(hg.block _ h1 (fun e => h.nt_ e.symm)).trans h.tok, ho, h.ok.kept hg ?_, ?_, ?_, h.nk_, h.below.grown hg h.below.size (fun k hk => (h.ot.lt k hk).1)⟩
  · rcases h.ne with h2 | h2 | h2
    · cases hv : vk.ownBlock with
      | none => exact .inl rfl
      | some k => exact .inr (by rw [h2]; simp)
    · exact .inl h2
    · exact .inr (Ne.symm h2)
  · cases hv : vk.ownBlock with
    | none => exact .inr (.inl rfl)
    | some k =>
      refine .inr (.inr ?_)
      show some g ≠ some k
      rcases hat with h3 | h3
      · rcases h.ne with h2 | h2 | h2
        · rw [h2] at h3; cases h3
        · rw [hv] at h2; cases h2
        · rw [h3, hv] at h2; exact h2
      · have := (h.ok.lt k hv).2
        simp; omega
  · show some g ≠ some gt
    rcases hat with h3 | h3
    · rw [← h3]; exact h.nt_
    · simp; omega
theorem JW.kind (h : JW w gt kd T p vt vk nt nk xt xk W) {W' : World} {g cap n : Nat} {x : List Value} (ho : W'.ownsRow w.heap.size 3 1 (.slice (some ⟨g, 0, none⟩) n cap) n x) (hg : W.grownBy W' vk.ownBlock) (hat : vk.ownBlock = some g ∨ g = W.heap.size) : JW w gt kd T p vt (.slice (some ⟨g, 0, none⟩) n cap) nt n xt x W' := by
  have h1 := h.tok.lt
  refine ⟨(hg.block _ h1 (fun e => h.nk_ e.symm)).trans h.tok, h.ot.kept hg ?_, ho, ?_, h.nt_, ?_, h.below.grown hg h.below.size (fun k hk => (h.ok.lt k hk).1)⟩
  · rcases h.ne with h2 | h2 | h2
    · exact .inl h2
    · cases hv : vt.ownBlock with
      | none => exact .inl rfl
      | some k => exact .inr (by rw [h2]; simp)
    · exact .inr h2
  · cases hv : vt.ownBlock with
    | none => exact .inl rfl
    | some k =>
      refine .inr (.inr ?_)
      show some k ≠ some g
      rcases hat with h3 | h3
      · rcases h.ne with h2 | h2 | h2
        · rw [hv] at h2; cases h2
        · rw [h2] at h3; cases h3
        · rw [h3, hv] at h2; exact h2
      · have := (h.ot.lt k hv).2
        simp; omega
  · show some g ≠ some gt
    rcases hat with h3 | h3
    · rw [← h3]; exact h.nk_
    · simp; omega
end
theorem int_info : (Try.prog.info? 3).map (fun i => (i.zero, i.size, i.bytes)) = some (some (.int .i64 0), 1, 8) := by kernel_rfl
end Go.Proofs.Ytbepmakohjpioaa
