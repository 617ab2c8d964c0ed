/- normal: relation, number. -/
import Derived.Test.YtekkapgknohadaaGreatDoorM34
set_option linter.unusedVariables false
set_option maxRecDepth 20000
set_option maxHeartbeats 4000000
namespace Go.Proofs.YtekkapgknohadaaGreatDoor.Nf
open Go.RowKit Go.Shelf
open Pa (F Nd)
def ndOf (n : Nk) : Nd := ⟨n.kind.toNat, n.num, tl n.name, tl n.attr, 0⟩
theorem vat_of {W : World} {g o : Nat} {t : TypeId} {cs : List Value} (h : Blk W g t cs) {n : Nk} {KA : Option Addr} {kc : Nat} (hk : 0 ≤ n.kind) (hc : ∀ (j : Nat) (u : Value), (nkcs n KA kc)[j]? = some u → cs[o + j]? = some u) : VAt W ⟨g, o, none⟩ (ndOf n) := by
 have key : ∀ (j : Nat) (u : Value), (nkcs n KA kc)[j]? = some u → W.cell? ⟨g, o + j, none⟩ = some u := fun j u hu => (h.cell (o + j)).trans (hc j u hu)
 refine ⟨?_, key 1 _ rfl, ?_, ?_, ⟨_, _, _, key 4 _ rfl⟩, ⟨_, key 5 _ rfl⟩⟩
 ·rw [show ((ndOf n).kind : Int) = n.kind from Int.toNat_of_nonneg hk]; exact key 0 _ rfl
 ·show _ = some (Value.string (bs (tl n.name)))
  rw [bs_tl]; exact key 2 _ rfl
 ·show _ = some (Value.string (bs (tl n.attr)))
  rw [bs_tl]; exact key 3 _ rfl
theorem zcm (how : Int) (a b : Nk) (KA KB : Option Addr) (ka kb : Nat) (ha : 0 ≤ a.kind) (hb0 : 0 ≤ b.kind) (w : World) (B : Nat) (hBs : B ≤ w.heap.size) : Calls Tryz.prog 162 #[.int .i64 how, nkV a KA ka, nkV b KB kb] w fun e w' => (∃ v, e = .returned v ∧ CvM B w' (rel how (ndOf a) (ndOf b)) [v]) ∧ Below w.heap.size w w' := by
 have hk := (((Hp.start w).new 68 (nkcs a KA ka)).new 68 (nkcs b KB kb)).new 68 (nkcs a KA ka ++ nkcs b KB kb)
 have hkb := hk.below0
 obtain ⟨g, hg⟩ : ∃ g, w.heap.size = g := ⟨_, rfl⟩
 simp only [sizeA, hg] at hk
 have hr := hk.blk 0 rfl
 have hx := (((Hp.start w).new 68 (nkcs a KA ka)).new 68 (nkcs b KB kb))
 simp only [sizeA, hg] at hx
 obtain ⟨c0, c1, c2, c3, c4, c5⟩ := Blk.get6 (hx.blk 1 rfl)
 obtain ⟨d0, d1, d2, d3, d4, d5⟩ := Blk.get6 (hx.blk 0 rfl)
 clear hk hx
 go_enter Tryz.func162, Tryz.ntmps162
 go_wp2_with fail
 go_ret
 refine ⟨⟨_, rfl, ⟨_, [], rfl, rfl, ?_⟩⟩, by first | exact hkb | (subst hg; exact hkb)⟩
 rw [if_neg (show ¬ (6 : Nat) = 5 by decide)]
 refine ⟨⟨rfl, rfl, rfl, rfl, rfl, trivial⟩, some ⟨g + 1 + 1, 0, none⟩, 2, rfl, fun i x hx => ⟨_, rfl, (by show B ≤ g + 1 + 1; omega), ?_⟩⟩
 rw [zcn]
 match i, hx with
 | 0, hx =>
   obtain rfl : ndOf a = x := by simpa [two, vals] using hx
   exact vat_of (o := 0) hr ha (fun j u hu => by rw [Nat.zero_add, List.getElem?_append_left (by have := (List.getElem?_eq_some_iff.1 hu).1; exact this)]; exact hu)
 | 1, hx =>
   obtain rfl : ndOf b = x := by simpa [two, vals] using hx
   exact vat_of (o := 6) hr hb0 (fun j u hu => by rw [List.getElem?_append_right (by show 6 ≤ _; omega), show 6 + j - (nkcs a KA ka).length = j by show 6 + j - 6 = j; omega]; exact hu)
 | i + 2, hx => simp [two, vals] at hx
def nbK (n : Int) : Nk := ⟨10, n, ⟨#[]⟩, ⟨#[]⟩, [], 0⟩
theorem zbq (n : Int) (w : World) : Calls Tryz.prog 163 #[.int .i64 n] w fun e w' => e = .returned (nkV (nbK n) none 0) ∧ Below w.heap.size w w' := by
 have hk := (Hp.start w).new 68 (nkcs ⟨0, 0, ⟨#[]⟩, ⟨#[]⟩, [], 0⟩ none 0)
 obtain ⟨g, hg⟩ : ∃ g, w.heap.size = g := ⟨_, rfl⟩
 rw [hg] at hk
 go_enter Tryz.func163, Tryz.ntmps163
 go_upto_region 1 with fail
 try simp only [hg]
 have hk0 : Hp [] w [iblk g 68 (nkcs ⟨0, 0, ⟨#[]⟩, ⟨#[]⟩, [], 0⟩ none 0)] (w.alloc (.cells #[.int .i64 0, .int .i64 0, .string ⟨#[]⟩, .string ⟨#[]⟩, .slice none 0 0, .int .i64 0] 68)) := hk
 clear hk
 generalize w.alloc (.cells #[.int .i64 0, .int .i64 0, .string ⟨#[]⟩, .string ⟨#[]⟩, .slice none 0 0, .int .i64 0] 68) = W1 at *
 go_wp2_with (refine wpList_store_row rfl 68 (.tmp 2) (.tmp 4) rfl g (nkcs (nbK n) none 0).toArray rfl rfl 68 (nkcs ⟨0, 0, ⟨#[]⟩, ⟨#[]⟩, [], 0⟩ none 0).toArray (hk0.blk 0 rfl) (by kernel_rfl) (by kernel_rfl) (by kernel_rfl) ?_)
 have hk3 := hk0.rowAt 0 rfl (nkcs (nbK n) none 0)
 obtain ⟨m0, m1, m2, m3, m4, m5⟩ := Blk.get6 (hk3.blk 0 rfl)
 refine bodyPost_ret (v := nkV (nbK n) none 0) (by simp [results, Tryz.results163, go_sem, m0, m1, m2, m3, m4, m5]) rfl ?_
 have hb : Below w.heap.size w _ := hk3.below0
 exact ⟨rfl, by first | exact hb | (subst hg; exact hb)⟩
end Go.Proofs.YtekkapgknohadaaGreatDoor.Nf
