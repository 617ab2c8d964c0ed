/-
  SameTexts, SameNats, Same of equal data.
-/
import Derived.Test.YtmdjhakamapngaaDoorScX
namespace Go.Proofs.YtmdjhakamapngaaDoor
open Go.RowKit Go.Shelf
set_option linter.unusedVariables false

set_option maxRecDepth 20000 in
set_option maxHeartbeats 4000000 in
theorem sameTexts_true (A B : Option Addr) (c d : Nat) (l : List ByteArray) (hl : l.length ≤ 1000000) (w : World) (hA : Strs w A l) (hB : Strs w B l) :
    Calls Tryd.prog 23 #[.slice A l.length c, .slice B l.length d] w fun e w' => e = .returned (.bool true) ∧ Below w.heap.size w w' := by
  have hne : ((l.length : Int) != (l.length : Int)) = false := by simp
  go_enter Tryd.func23, Tryd.ntmps23
  go_upto_region 4 with fail
  go_loopg [5] l.length (fun m s5 wx => ∃ i : Nat, i ≤ l.length ∧ m = l.length - i ∧ s5 = .int .i64 (i : Int) ∧ Below w.heap.size w wx)
  case atStart => exact ⟨0, Nat.zero_le _, rfl, rfl, Below.refl _ _⟩
  case round =>
    obtain ⟨i, hi, rfl, rfl, hb⟩ := hrel
    by_cases hil : i < l.length
    · have hii : (i : Int) < (l.length : Int) := by omega
      have hi0 : (0 : Int) ≤ (i : Int) := by omega
      obtain ⟨s, hsi⟩ : ∃ s, l[i]? = some s := ⟨_, List.getElem?_eq_getElem hil⟩
      obtain ⟨ad, rfl, ca⟩ := (hA.up hb).at_ i s hsi
      obtain ⟨bd, rfl, cb⟩ := (hB.up hb).at_ i s hsi
      have hee : (s.toList == s.toList) = true := by simp
      clear hsi
      go_upto_region 6 with fail
      go_quiet (fail)
      go_wp2_with fail
      go_roundg (l.length - (i + 1))
      case measure => omega
      case rel => exact ⟨i + 1, hil, rfl, by first | rfl | simp, below_drewN' hb nq⟩
    · have hii : ¬ (i : Int) < (l.length : Int) := by omega
      go_wp2_with fail
      go_ret
      exact ⟨rfl, hb⟩
set_option maxRecDepth 20000 in
set_option maxHeartbeats 4000000 in
theorem sameNats_true (A B : Option Addr) (c d : Nat) (l : List ByteArray) (hl : l.length ≤ 1000000) (w : World) (hA : Strs w A l) (hB : Strs w B l) :
    Calls Tryd.prog 19 #[.slice A l.length c, .slice B l.length d] w fun e w' => e = .returned (.bool true) ∧ Below w.heap.size w w' := by
  have hne : ((l.length : Int) != (l.length : Int)) = false := by simp
  go_enter Tryd.func19, Tryd.ntmps19
  go_upto_region 4 with fail
  go_loopg [5] l.length (fun m s5 wx => ∃ i : Nat, i ≤ l.length ∧ m = l.length - i ∧ s5 = .int .i64 (i : Int) ∧ Below w.heap.size w wx)
  case atStart => exact ⟨0, Nat.zero_le _, rfl, rfl, Below.refl _ _⟩
  case round =>
    obtain ⟨i, hi, rfl, rfl, hb⟩ := hrel
    by_cases hil : i < l.length
    · have hii : (i : Int) < (l.length : Int) := by omega
      have hi0 : (0 : Int) ≤ (i : Int) := by omega
      obtain ⟨s, hsi⟩ : ∃ s, l[i]? = some s := ⟨_, List.getElem?_eq_getElem hil⟩
      obtain ⟨ad, rfl, ca⟩ := (hA.up hb).at_ i s hsi
      obtain ⟨bd, rfl, cb⟩ := (hB.up hb).at_ i s hsi
      have hee : (s.toList == s.toList) = true := by simp
      clear hsi
      go_upto_region 6 with fail
      go_quiet (fail)
      go_wp2_with fail
      go_roundg (l.length - (i + 1))
      case measure => omega
      case rel => exact ⟨i + 1, hil, rfl, by first | rfl | simp, below_drewN' hb nq⟩
    · have hii : ¬ (i : Int) < (l.length : Int) := by omega
      go_wp2_with fail
      go_ret
      exact ⟨rfl, hb⟩
theorem below_setRow' {B : Nat} {W : World} (g : Nat) (hg : B ≤ g) (cs : Array Value) : Below B W (W.setRow g cs) :=
  ⟨rfl, rfl, rfl, by simp [World.setRow], fun k hk => by simp only [World.setRow, Array.getElem?_modify]; rw [if_neg (by omega)]⟩
set_option maxRecDepth 20000 in
set_option maxHeartbeats 8000000 in
theorem same_true (nm : ByteArray) (A B : Option Addr) (c d : Nat) (L : List Fd) (hL : L.length ≤ 1000000) (hW : ∀ f ∈ L, f.words.length ≤ 1000000) (w : World) (hA : Flds w A L) (hB : Flds w B L) :
    Calls Tryd.prog 27 #[schV nm A L.length c, schV nm B L.length d] w fun e w' => e = .returned (.bool true) ∧ Below w.heap.size w w' := by
  have hne : ((L.length : Int) != (L.length : Int)) = false := by simp
  have hee : (nm.toList == nm.toList) = true := by simp
  have hk := ((Hp.start w).new 24 [.string nm, .slice A L.length c]).new 24 [.string nm, .slice B L.length d]
  obtain ⟨g1, hg1⟩ : ∃ g, w.heap.size = g := ⟨_, rfl⟩
  have hsz : (w.alloc (.cells #[.string nm, .slice A L.length c] 24)).heap.size = g1 + 1 := by subst hg1; first | exact Array.size_push _ | simp
  rw [hsz, hg1] at hk
  have hHW := Lib.hid hW
  clear hW
  go_enter Tryd.func27, Tryd.ntmps27
  go_upto_region 1 with fail
  try simp only [hsz, hg1]
  obtain ⟨c0, c1⟩ := (hk.blk 0 rfl).get2
  obtain ⟨d0, d1⟩ := (hk.blk 1 rfl).get2
  go_upto_region 4 with fail
  have hk : Hp [] w [iblk (g1 + 1) 24 [.string nm, .slice B L.length d], iblk g1 24 [.string nm, .slice A L.length c]] ((w.alloc (.cells #[.string nm, .slice A L.length c] 24)).alloc (.cells #[.string nm, .slice B L.length d] 24)) := hk
  generalize (w.alloc (.cells #[.string nm, .slice A L.length c] 24)).alloc (.cells #[.string nm, .slice B L.length d] 24) = W at *
  clear c0 c1 d0 d1
  go_loopg [5] L.length (fun m s5 wx => ∃ i : Nat, i ≤ L.length ∧ m = L.length - i ∧ s5 = .int .i64 (i : Int) ∧ Hp [] w [iblk (g1 + 1) 24 [.string nm, .slice B L.length d], iblk g1 24 [.string nm, .slice A L.length c]] wx)
  case atStart => exact ⟨0, Nat.zero_le _, rfl, rfl, hk⟩
  case round =>
    obtain ⟨i, hi, rfl, rfl, hM⟩ := hrel
    obtain ⟨c0, c1⟩ := (hM.blk 0 rfl).get2
    obtain ⟨d0, d1⟩ := (hM.blk 1 rfl).get2
    clear hk
    by_cases hil : i < L.length
    · have hii : (i : Int) < (L.length : Int) := by omega
      have hi0 : (0 : Int) ≤ (i : Int) := by omega
      obtain ⟨f, hf⟩ : ∃ f, L[i]? = some f := ⟨_, List.getElem?_eq_getElem hil⟩
      have hwl := hHW.out f (List.mem_of_getElem? hf)
      obtain ⟨ad, WA, wa, rfl, hFA⟩ := hA.at_ i f hf
      obtain ⟨bd, WB, wb, rfl, hFB⟩ := hB.at_ i f hf
      go_upto_region 6 with fail
      have hMd := hM.drew
      have hb0 := hM.below0
      have hFA1 := hFA.up hb0
      have hFB1 := hFB.up hb0
      clear hM hf
      have x0 := hFA1.name
      have x1 := hFA1.kind
      have x2 := hFA1.min
      have x3 := hFA1.max
      have x4 := hFA1.words
      have y0 := hFB1.name
      have y1 := hFB1.kind
      have y2 := hFB1.min
      have y3 := hFB1.max
      have y4 := hFB1.words
      have e1 : (f.name.toList == f.name.toList) = true := by simp
      have e2 : (f.kind != f.kind) = false := by simp
      have e3 : (f.min != f.min) = false := by simp
      have e4 : (f.max != f.max) = false := by simp
      obtain ⟨c1x, -⟩ := And.intro c1 trivial
      clear hFA1 hFB1
      have hswap := d1
      clear d1
      have d1 := c1
      clear c1
      have c1 := hswap
      clear hswap
      have hszw : (wr.drew.alloc (.cells zF.toArray 49)).heap.size = wr.heap.size + 1 := by simp
      --BEGINR
      refine wp_region_held_drew (S := (fun w' => Below wr.heap.size wr w')) (by kernel_rfl) ?_ (fun hHeld => ?_)
      · exact (Below.refl _ _).drew
      refine wpAnyH_take (i := 0) (v := ?_) rfl (by kernel_rfl) (by kernel_rfl) (by kernel_rfl) (fun _ _ _ h => h) (Or.inl ⟨by rfl, ?_⟩) (by assumption) ?_
      rotate_left
      · (intro w hSw; (try dsimp only at hSw); (have s0 := scell_up c1 hSw; have s1 := scell_up d1 hSw; have s2 := scell_up x0 hSw; have s3 := scell_up x1 hSw; have s4 := scell_up x2 hSw; have s5 := scell_up x3 hSw; have s6 := scell_up x4 hSw; have s7 := scell_up y0 hSw; have s8 := scell_up y1 hSw; have s9 := scell_up y2 hSw; have s10 := scell_up y3 hSw; have s11 := scell_up y4 hSw); go_simp; (try with_reducible rfl))
      try simp only [Act.put, List.getElem_toArray, List.getElem_cons_zero, List.setIfInBounds_toArray, List.set_cons_zero, List.set_cons_succ]
      refine wpAnyH_take (i := 1) (v := ?_) rfl (by kernel_rfl) (by kernel_rfl) (by kernel_rfl) (fun _ _ _ h => h) (Or.inl ⟨by rfl, ?_⟩) (by assumption) ?_
      rotate_left
      · (intro w hSw; (try dsimp only at hSw); (have s0 := scell_up c1 hSw; have s1 := scell_up d1 hSw; have s2 := scell_up x0 hSw; have s3 := scell_up x1 hSw; have s4 := scell_up x2 hSw; have s5 := scell_up x3 hSw; have s6 := scell_up x4 hSw; have s7 := scell_up y0 hSw; have s8 := scell_up y1 hSw; have s9 := scell_up y2 hSw; have s10 := scell_up y3 hSw; have s11 := scell_up y4 hSw); go_simp; (try with_reducible rfl))
      try simp only [Act.put, List.getElem_toArray, List.getElem_cons_zero, List.getElem_cons_succ, List.setIfInBounds_toArray, List.set_cons_zero, List.set_cons_succ]
      refine wpAnyH_take (i := 2) (v := ?_) rfl (by kernel_rfl) (by kernel_rfl) (by kernel_rfl) (fun _ _ _ h => h) (Or.inl ⟨by rfl, ?_⟩) (by assumption) ?_
      rotate_left
      · (intro w hSw; (try dsimp only at hSw); (have s0 := scell_up c1 hSw; have s1 := scell_up d1 hSw; have s2 := scell_up x0 hSw; have s3 := scell_up x1 hSw; have s4 := scell_up x2 hSw; have s5 := scell_up x3 hSw; have s6 := scell_up x4 hSw; have s7 := scell_up y0 hSw; have s8 := scell_up y1 hSw; have s9 := scell_up y2 hSw; have s10 := scell_up y3 hSw; have s11 := scell_up y4 hSw); go_simp; (try with_reducible rfl))
      try simp only [Act.put, List.getElem_toArray, List.getElem_cons_zero, List.getElem_cons_succ, List.setIfInBounds_toArray, List.set_cons_zero, List.set_cons_succ]
      refine wpAnyH_take (i := 3) (v := ?_) rfl (by kernel_rfl) (by kernel_rfl) (by kernel_rfl) (fun _ _ _ h => h) (Or.inl ⟨by rfl, ?_⟩) (by assumption) ?_
      rotate_left
      · (intro w hSw; (try dsimp only at hSw); (have s0 := scell_up c1 hSw; have s1 := scell_up d1 hSw; have s2 := scell_up x0 hSw; have s3 := scell_up x1 hSw; have s4 := scell_up x2 hSw; have s5 := scell_up x3 hSw; have s6 := scell_up x4 hSw; have s7 := scell_up y0 hSw; have s8 := scell_up y1 hSw; have s9 := scell_up y2 hSw; have s10 := scell_up y3 hSw; have s11 := scell_up y4 hSw); go_simp; (try with_reducible rfl))
      try simp only [Act.put, List.getElem_toArray, List.getElem_cons_zero, List.getElem_cons_succ, List.setIfInBounds_toArray, List.set_cons_zero, List.set_cons_succ]
      refine wpAnyH_take (i := 4) (v := ?_) rfl (by kernel_rfl) (by kernel_rfl) (by kernel_rfl) (fun _ _ _ h => h) (Or.inl ⟨by rfl, ?_⟩) (by assumption) ?_
      rotate_left
      · (intro w hSw; (try dsimp only at hSw); (have s0 := scell_up c1 hSw; have s1 := scell_up d1 hSw; have s2 := scell_up x0 hSw; have s3 := scell_up x1 hSw; have s4 := scell_up x2 hSw; have s5 := scell_up x3 hSw; have s6 := scell_up x4 hSw; have s7 := scell_up y0 hSw; have s8 := scell_up y1 hSw; have s9 := scell_up y2 hSw; have s10 := scell_up y3 hSw; have s11 := scell_up y4 hSw); go_simp; (try with_reducible rfl))
      try simp only [Act.put, List.getElem_toArray, List.getElem_cons_zero, List.getElem_cons_succ, List.setIfInBounds_toArray, List.set_cons_zero, List.set_cons_succ]
      refine wpAnyH_take (i := 5) (v := ?_) rfl (by kernel_rfl) (by kernel_rfl) (by kernel_rfl) (fun _ _ _ h => h) (Or.inl ⟨by rfl, ?_⟩) (by assumption) ?_
      rotate_left
      · (intro w hSw; (try dsimp only at hSw); (have s0 := scell_up c1 hSw; have s1 := scell_up d1 hSw; have s2 := scell_up x0 hSw; have s3 := scell_up x1 hSw; have s4 := scell_up x2 hSw; have s5 := scell_up x3 hSw; have s6 := scell_up x4 hSw; have s7 := scell_up y0 hSw; have s8 := scell_up y1 hSw; have s9 := scell_up y2 hSw; have s10 := scell_up y3 hSw; have s11 := scell_up y4 hSw); go_simp; (try with_reducible rfl))
      try simp only [Act.put, List.getElem_toArray, List.getElem_cons_zero, List.getElem_cons_succ, List.setIfInBounds_toArray, List.set_cons_zero, List.set_cons_succ]
      refine wpAnyH_take (i := 6) (v := ?_) rfl (by kernel_rfl) (by kernel_rfl) (by kernel_rfl) (fun _ _ _ h => h) (Or.inl ⟨by rfl, ?_⟩) (by assumption) ?_
      rotate_left
      · (intro w hSw; (try dsimp only at hSw); (have s0 := scell_up c1 hSw; have s1 := scell_up d1 hSw; have s2 := scell_up x0 hSw; have s3 := scell_up x1 hSw; have s4 := scell_up x2 hSw; have s5 := scell_up x3 hSw; have s6 := scell_up x4 hSw; have s7 := scell_up y0 hSw; have s8 := scell_up y1 hSw; have s9 := scell_up y2 hSw; have s10 := scell_up y3 hSw; have s11 := scell_up y4 hSw); go_simp; (try with_reducible rfl))
      try simp only [Act.put, List.getElem_toArray, List.getElem_cons_zero, List.getElem_cons_succ, List.setIfInBounds_toArray, List.set_cons_zero, List.set_cons_succ]
      refine wpAnyH_take (i := 7) (v := ?_) rfl (by kernel_rfl) (by kernel_rfl) (by kernel_rfl) (fun _ _ _ h => h) (Or.inl ⟨by rfl, ?_⟩) (by assumption) ?_
      rotate_left
      · (intro w hSw; (try dsimp only at hSw); (have s0 := scell_up c1 hSw; have s1 := scell_up d1 hSw; have s2 := scell_up x0 hSw; have s3 := scell_up x1 hSw; have s4 := scell_up x2 hSw; have s5 := scell_up x3 hSw; have s6 := scell_up x4 hSw; have s7 := scell_up y0 hSw; have s8 := scell_up y1 hSw; have s9 := scell_up y2 hSw; have s10 := scell_up y3 hSw; have s11 := scell_up y4 hSw); go_simp; (try with_reducible rfl))
      try simp only [Act.put, List.getElem_toArray, List.getElem_cons_zero, List.getElem_cons_succ, List.setIfInBounds_toArray, List.set_cons_zero, List.set_cons_succ]
      refine wpAnyH_take (i := 8) (v := ?_) rfl (by kernel_rfl) (by kernel_rfl) (by kernel_rfl) (fun _ _ _ h => h) (Or.inl ⟨by rfl, ?_⟩) (by assumption) ?_
      rotate_left
      · (intro w hSw; (try dsimp only at hSw); (have s0 := scell_up c1 hSw; have s1 := scell_up d1 hSw; have s2 := scell_up x0 hSw; have s3 := scell_up x1 hSw; have s4 := scell_up x2 hSw; have s5 := scell_up x3 hSw; have s6 := scell_up x4 hSw; have s7 := scell_up y0 hSw; have s8 := scell_up y1 hSw; have s9 := scell_up y2 hSw; have s10 := scell_up y3 hSw; have s11 := scell_up y4 hSw); go_simp; (try with_reducible rfl))
      try simp only [Act.put, List.getElem_toArray, List.getElem_cons_zero, List.getElem_cons_succ, List.setIfInBounds_toArray, List.set_cons_zero, List.set_cons_succ]
      refine wpAnyH_take (i := 9) (v := ?_) rfl (by kernel_rfl) (by kernel_rfl) (by kernel_rfl) (fun _ _ _ h => h) (Or.inl ⟨by rfl, ?_⟩) (by assumption) ?_
      rotate_left
      · (intro w hSw; (try dsimp only at hSw); (have s0 := scell_up c1 hSw; have s1 := scell_up d1 hSw; have s2 := scell_up x0 hSw; have s3 := scell_up x1 hSw; have s4 := scell_up x2 hSw; have s5 := scell_up x3 hSw; have s6 := scell_up x4 hSw; have s7 := scell_up y0 hSw; have s8 := scell_up y1 hSw; have s9 := scell_up y2 hSw; have s10 := scell_up y3 hSw; have s11 := scell_up y4 hSw); go_simp; (try with_reducible rfl))
      try simp only [Act.put, List.getElem_toArray, List.getElem_cons_zero, List.getElem_cons_succ, List.setIfInBounds_toArray, List.set_cons_zero, List.set_cons_succ]
      refine wpAnyH_ready (rs := [10, 11]) (by kernel_rfl) (by simp) ?_
      refine AllReadyH.cons rfl (fun K hK => ?_) ?_
      · go_simp
        have hM1 : Hp [] w [iblk wr.heap.size 49 zF, iblk (g1 + 1) 24 [.string nm, .slice (some bd) L.length d], iblk g1 24 [.string nm, .slice (some ad) L.length c]] (wr.alloc (.cells #[.string ⟨#[]⟩, .int .i64 0, .int .i64 0, .int .i64 0, .slice none 0 0] 49)).drew := hMd.new 49 zF
        have hb1 : Below wr.heap.size wr (wr.alloc (.cells #[.string ⟨#[]⟩, .int .i64 0, .int .i64 0, .int .i64 0, .slice none 0 0] 49)).drew := ((Below.refl _ _).drew).alloc (Nat.le_refl _) (.cells zF.toArray 49)
        refine hK.out _ _ ?_ (fun hHeld => ?_)
        · exact hb1
        clear hK K
        refine wpAnyH_ready (rs := [11]) (by kernel_rfl) (by simp) ?_
        refine AllReadyH.cons rfl (fun K hK => ?_) ?_
        · go_simp
          have hM2 : Hp [] w [iblk (wr.heap.size + 1) 49 zF, iblk wr.heap.size 49 zF, iblk (g1 + 1) 24 [.string nm, .slice (some bd) L.length d], iblk g1 24 [.string nm, .slice (some ad) L.length c]] ((wr.alloc (.cells #[.string ⟨#[]⟩, .int .i64 0, .int .i64 0, .int .i64 0, .slice none 0 0] 49)).alloc (.cells #[.string ⟨#[]⟩, .int .i64 0, .int .i64 0, .int .i64 0, .slice none 0 0] 49)).drew := by
            have h9 := hM1.new 49 zF
            have e9 : (wr.alloc (.cells #[.string ⟨#[]⟩, .int .i64 0, .int .i64 0, .int .i64 0, .slice none 0 0] 49)).drew.heap.size = wr.heap.size + 1 := hszw
            rw [e9] at h9
            exact h9
          have hb2 : Below wr.heap.size wr ((wr.alloc (.cells #[.string ⟨#[]⟩, .int .i64 0, .int .i64 0, .int .i64 0, .slice none 0 0] 49)).alloc (.cells #[.string ⟨#[]⟩, .int .i64 0, .int .i64 0, .int .i64 0, .slice none 0 0] 49)).drew := hb1.alloc (by have e9 : (wr.alloc (.cells #[.string ⟨#[]⟩, .int .i64 0, .int .i64 0, .int .i64 0, .slice none 0 0] 49)).drew.heap.size = wr.heap.size + 1 := hszw; omega) (.cells zF.toArray 49)
          clear hM1
          refine hK.out _ _ ?_ (fun hHeld => ?_)
          · exact hb2
          clear hK K
          refine wpAnyH_ready (rs := [12]) (by kernel_rfl) (by simp) ?_
          refine AllReadyH.cons rfl (fun K hK => ?_) ?_
          · rw [if_pos (by rfl)]
            refine wp_store_row 49 (.tmp 6) (.tmp 33) (by rfl) wr.heap.size (fcs f WA wa).toArray (by rfl) (by rfl) 49 zF.toArray (hM2.blk 1 rfl) (by kernel_rfl) (by kernel_rfl) (by kernel_rfl) ?_
            have hM3 := hM2.rowAt 1 rfl (fcs f WA wa)
            have hb3 := hb2.trans (below_setRow' wr.heap.size (by omega) (fcs f WA wa).toArray)
            refine hK.out _ _ ?_ (fun hHeld => ?_)
            · exact hb3
            clear hK K
            refine wpAnyH_ready (rs := [13]) (by kernel_rfl) (by simp) ?_
            refine AllReadyH.cons rfl (fun K hK => ?_) ?_
            · rw [if_pos (by rfl)]
              refine wp_store_row 49 (.tmp 7) (.tmp 38) (by rfl) (wr.heap.size + 1) (fcs f WB wb).toArray (by rfl) (by rfl) 49 zF.toArray (hM3.blk 0 rfl) (by kernel_rfl) (by kernel_rfl) (by kernel_rfl) ?_
              have hM4 := hM3.rowAt 0 rfl (fcs f WB wb)
              have hb4 := hb3.trans (below_setRow' (wr.heap.size + 1) (by omega) (fcs f WB wb).toArray)
              refine hK.out _ _ ?_ (fun hHeld => ?_)
              · exact hb4
              clear hK K
              refine wpAnyH_done (by kernel_rfl) ?_ _
              clear hb1 hb2 hb3 hM2 hM3 hHeld
              have hM5 := hM4
              clear hM4 hMd c0 c1 d0 d1 x0 x1 x2 x3 x4 y0 y1 y2 y3 y4
              obtain ⟨x0, x1, x2, x3, x4⟩ := (hM5.blk 1 rfl).get5
              obtain ⟨y0, y1, y2, y3, y4⟩ := (hM5.blk 0 rfl).get5
              have hs := sameTexts_true WA WB wa wb f.words hwl _ (hFA.strs.up hM5.below0) (hFB.strs.up hM5.below0)
              go_wp2_with fail
              refine hs.mono ?_
              rintro e w5 ⟨rfl, hb5⟩
              have hM6 := hM5.next hb5
              clear hM5 hs hb5
              go_wp2_with fail
              go_roundg (L.length - (i + 1))
              case measure => omega
              case rel => exact ⟨i + 1, hil, rfl, by first | rfl | simp, hM6.tail.tail⟩
            exact AllReadyH.nil
          exact AllReadyH.nil
        exact AllReadyH.nil
      refine AllReadyH.cons rfl (fun K hK => ?_) ?_
      · go_simp
        have hM1 : Hp [] w [iblk wr.heap.size 49 zF, iblk (g1 + 1) 24 [.string nm, .slice (some bd) L.length d], iblk g1 24 [.string nm, .slice (some ad) L.length c]] (wr.alloc (.cells #[.string ⟨#[]⟩, .int .i64 0, .int .i64 0, .int .i64 0, .slice none 0 0] 49)).drew := hMd.new 49 zF
        have hb1 : Below wr.heap.size wr (wr.alloc (.cells #[.string ⟨#[]⟩, .int .i64 0, .int .i64 0, .int .i64 0, .slice none 0 0] 49)).drew := ((Below.refl _ _).drew).alloc (Nat.le_refl _) (.cells zF.toArray 49)
        refine hK.out _ _ ?_ (fun hHeld => ?_)
        · exact hb1
        clear hK K
        refine wpAnyH_ready (rs := [10]) (by kernel_rfl) (by simp) ?_
        refine AllReadyH.cons rfl (fun K hK => ?_) ?_
        · go_simp
          have hM2 : Hp [] w [iblk (wr.heap.size + 1) 49 zF, iblk wr.heap.size 49 zF, iblk (g1 + 1) 24 [.string nm, .slice (some bd) L.length d], iblk g1 24 [.string nm, .slice (some ad) L.length c]] ((wr.alloc (.cells #[.string ⟨#[]⟩, .int .i64 0, .int .i64 0, .int .i64 0, .slice none 0 0] 49)).alloc (.cells #[.string ⟨#[]⟩, .int .i64 0, .int .i64 0, .int .i64 0, .slice none 0 0] 49)).drew := by
            have h9 := hM1.new 49 zF
            have e9 : (wr.alloc (.cells #[.string ⟨#[]⟩, .int .i64 0, .int .i64 0, .int .i64 0, .slice none 0 0] 49)).drew.heap.size = wr.heap.size + 1 := hszw
            rw [e9] at h9
            exact h9
          have hb2 : Below wr.heap.size wr ((wr.alloc (.cells #[.string ⟨#[]⟩, .int .i64 0, .int .i64 0, .int .i64 0, .slice none 0 0] 49)).alloc (.cells #[.string ⟨#[]⟩, .int .i64 0, .int .i64 0, .int .i64 0, .slice none 0 0] 49)).drew := hb1.alloc (by have e9 : (wr.alloc (.cells #[.string ⟨#[]⟩, .int .i64 0, .int .i64 0, .int .i64 0, .slice none 0 0] 49)).drew.heap.size = wr.heap.size + 1 := hszw; omega) (.cells zF.toArray 49)
          clear hM1
          refine hK.out _ _ ?_ (fun hHeld => ?_)
          · exact hb2
          clear hK K
          refine wpAnyH_ready (rs := [12]) (by kernel_rfl) (by simp) ?_
          refine AllReadyH.cons rfl (fun K hK => ?_) ?_
          · rw [if_pos (by rfl)]
            refine wp_store_row 49 (.tmp 6) (.tmp 33) (by rfl) (wr.heap.size + 1) (fcs f WA wa).toArray (by rfl) (by rfl) 49 zF.toArray (hM2.blk 0 rfl) (by kernel_rfl) (by kernel_rfl) (by kernel_rfl) ?_
            have hM3 := hM2.rowAt 0 rfl (fcs f WA wa)
            have hb3 := hb2.trans (below_setRow' (wr.heap.size + 1) (by omega) (fcs f WA wa).toArray)
            refine hK.out _ _ ?_ (fun hHeld => ?_)
            · exact hb3
            clear hK K
            refine wpAnyH_ready (rs := [13]) (by kernel_rfl) (by simp) ?_
            refine AllReadyH.cons rfl (fun K hK => ?_) ?_
            · rw [if_pos (by rfl)]
              refine wp_store_row 49 (.tmp 7) (.tmp 38) (by rfl) wr.heap.size (fcs f WB wb).toArray (by rfl) (by rfl) 49 zF.toArray (hM3.blk 1 rfl) (by kernel_rfl) (by kernel_rfl) (by kernel_rfl) ?_
              have hM4 := hM3.rowAt 1 rfl (fcs f WB wb)
              have hb4 := hb3.trans (below_setRow' wr.heap.size (by omega) (fcs f WB wb).toArray)
              refine hK.out _ _ ?_ (fun hHeld => ?_)
              · exact hb4
              clear hK K
              refine wpAnyH_done (by kernel_rfl) ?_ _
              clear hb1 hb2 hb3 hM2 hM3 hHeld
              have hM5 := hM4
              clear hM4 hMd c0 c1 d0 d1 x0 x1 x2 x3 x4 y0 y1 y2 y3 y4
              obtain ⟨x0, x1, x2, x3, x4⟩ := (hM5.blk 0 rfl).get5
              obtain ⟨y0, y1, y2, y3, y4⟩ := (hM5.blk 1 rfl).get5
              have hs := sameTexts_true WA WB wa wb f.words hwl _ (hFA.strs.up hM5.below0) (hFB.strs.up hM5.below0)
              go_wp2_with fail
              refine hs.mono ?_
              rintro e w5 ⟨rfl, hb5⟩
              have hM6 := hM5.next hb5
              clear hM5 hs hb5
              go_wp2_with fail
              go_roundg (L.length - (i + 1))
              case measure => omega
              case rel => exact ⟨i + 1, hil, rfl, by first | rfl | simp, hM6.tail.tail⟩
            exact AllReadyH.nil
          exact AllReadyH.nil
        exact AllReadyH.nil
      exact AllReadyH.nil
      --ENDR
    · have hii : ¬ (i : Int) < (L.length : Int) := by omega
      go_wp2_with fail
      go_ret
      exact ⟨rfl, by first | exact hM.below0 | (subst hg1; exact hM.below0)⟩
end Go.Proofs.YtmdjhakamapngaaDoor
