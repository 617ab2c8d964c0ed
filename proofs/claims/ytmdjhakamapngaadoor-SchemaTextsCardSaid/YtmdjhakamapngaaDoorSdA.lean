/-
  dominolaw39.person.
-/
import Derived.Test.YtmdjhakamapngaaDoorScZ
namespace Go.Proofs.YtmdjhakamapngaaDoor
open Go.RowKit Go.Shelf
set_option linter.unusedVariables false

theorem blk_row {W : World} {g : Nat} {e : TypeId} {cs : List Value} (h : Blk W g e cs) (size n : Nat) (hl : cs.length = n * size) (hn : n ≤ 1000000) : W.ownsRow 0 e size (.slice (some ⟨g, 0, none⟩) n n) n cs := by
  refine ⟨hl, .inr ⟨g, n, cs.toArray, rfl, Nat.zero_le _, h, Nat.le_refl _, by unfold maxLen; omega, by simpa using hl, by rw [← hl]; simp⟩⟩
def personN : ByteArray := ⟨#[80, 101, 114, 115, 111, 110]⟩
def personL : List Fd := [⟨⟨#[97, 103, 101]⟩, 0, 0, 120, []⟩, ⟨⟨#[99, 111, 108, 111, 114]⟩, 1, 0, 0, [⟨#[114, 101, 100]⟩, ⟨#[98, 108, 117, 101]⟩]⟩]
set_option maxRecDepth 20000 in
set_option maxHeartbeats 4000000 in
theorem person_any (w : World) : Calls Tryd.prog 28 #[] w fun e w' => (∃ A, e = .returned (schV personN A 2 2) ∧ Flds w' A personL) ∧ Below w.heap.size w w' := by
  have hk := (((Hp.start w).new 24 zS).new 9 [.string ⟨#[114, 101, 100]⟩, .string ⟨#[98, 108, 117, 101]⟩]).new 49 [.string ⟨#[97, 103, 101]⟩, .int .i64 0, .int .i64 0, .int .i64 120, .slice none 0 0, .string ⟨#[99, 111, 108, 111, 114]⟩, .int .i64 1, .int .i64 0, .int .i64 0, .slice (some ⟨w.heap.size + 1, 0, none⟩) 2 2]
  have hsz : ∀ (w : World) (o : Obj), (w.alloc o).heap.size = w.heap.size + 1 := fun w o => by simp
  simp only [hsz] at hk
  obtain ⟨g1, hg1⟩ : ∃ g, w.heap.size = g := ⟨_, rfl⟩
  have hb : Below w.heap.size w _ := hk.below0
  rw [hg1] at hk
  go_enter Tryd.func28, Tryd.ntmps28
  try simp only [hg1]
  go_wp2_with (refine wpList_store_row rfl 24 (.tmp 0) (.tmp 5) rfl g1 ([.string ⟨#[80, 101, 114, 115, 111, 110]⟩, .slice (some ⟨g1 + 1 + 1, 0, none⟩) 2 2] : List Value).toArray (by first | rfl | (subst hg1; rfl)) (by first | rfl | (subst hg1; simp)) 24 zS.toArray (by subst hg1; exact hk.blk 2 rfl) (by kernel_rfl) (by kernel_rfl) (by kernel_rfl) ?_)
  have hk2 := hk.rowAt 2 rfl [.string ⟨#[80, 101, 114, 115, 111, 110]⟩, .slice (some ⟨g1 + 1 + 1, 0, none⟩) 2 2]
  clear hk
  obtain ⟨e0, e1⟩ := (hk2.blk 2 rfl).get2
  have hF : Flds _ (some ⟨g1 + 1 + 1, 0, none⟩) personL := flds_row (P := [(⟨⟨#[97, 103, 101]⟩, 0, 0, 120, []⟩, (none, 0)), (⟨⟨#[99, 111, 108, 111, 114]⟩, 1, 0, 0, [⟨#[114, 101, 100]⟩, ⟨#[98, 108, 117, 101]⟩]⟩, (some ⟨g1 + 1, 0, none⟩, 2))]) (n := 2) (c := 2) (blk_row (hk2.blk 0 rfl) 5 2 rfl (by decide)) (fun x hx => by
    rcases List.mem_cons.1 hx with rfl | hx
    · exact World.ownsRow_nil _ _ _ _
    · rw [List.mem_singleton.1 hx]; exact blk_row (hk2.blk 1 rfl) 1 2 rfl (by decide))
  have HB := Lib.hid hk2.below0
  rw [hg1] at HB
  generalize hWW : World.setRow _ _ _ = WW
  have e2 : WW.cell? ⟨g1, 0, none⟩ = some (.string ⟨#[80, 101, 114, 115, 111, 110]⟩) := by rw [← hWW]; exact e0
  have e3 : WW.cell? ⟨g1, 1, none⟩ = some (.slice (some ⟨g1 + 1 + 1, 0, none⟩) 2 2) := by rw [← hWW]; exact e1
  have hF2 : Flds WW (some ⟨g1 + 1 + 1, 0, none⟩) personL := by rw [← hWW]; exact hF
  have HB2 : Hid (Below g1 w WW) := Lib.hid (by rw [← hWW]; exact HB.out)
  clear hWW hF hk2 e0 e1 hb HB
  refine bodyPost_ret (v := schV personN (some ⟨g1 + 1 + 1, 0, none⟩) 2 2) (by simp [results, Tryd.results28, go_sem, personN, e2, e3]) rfl ⟨⟨_, rfl, hF2⟩, HB2.out⟩
def src1 : List UInt8 := [80, 101, 114, 115, 111, 110, 40, 97, 103, 101, 32, 110, 117, 109, 98, 101, 114, 32, 48, 32, 49, 50, 48, 44, 32, 99, 111, 108, 111, 114, 32, 39, 114, 101, 100, 39, 32, 39, 98, 108, 117, 101, 39, 41]
def src2 : List UInt8 := [80, 40, 97, 32, 110, 117, 109, 98, 101, 114, 32, 49, 41]
def src3 : List UInt8 := [80, 40, 97, 32, 110, 117, 109, 98, 101, 114, 32, 50, 32, 49, 41]
instance : DecidableEq Fd := fun a b => if h : a.name = b.name ∧ a.kind = b.kind ∧ a.min = b.min ∧ a.max = b.max ∧ a.words = b.words then .isTrue (by
  obtain ⟨h1, h2, h3, h4, h5⟩ := h
  cases a
  cases b
  simp_all) else .isFalse (fun e => h (by rw [e]; exact ⟨rfl, rfl, rfl, rfl, rfl⟩))
set_option maxRecDepth 100000 in
theorem parse1 : parseS src1 = (personN, personL, 0, 0) := by decide +kernel
set_option maxRecDepth 100000 in
theorem parse2 : parseS src2 = (ByteArray.empty, [], 12, 4) := by decide +kernel
set_option maxRecDepth 100000 in
theorem parse3 : parseS src3 = (ByteArray.empty, [], 0, 2) := by decide +kernel
set_option maxRecDepth 100000 in
theorem enc1 : encP personN personL [⟨#[49, 56]⟩, ⟨#[98, 108, 117, 101]⟩] = ([bs (Dm.str 18), bs (Dm.str 1)], 0) := by decide +kernel
set_option maxRecDepth 20000 in
set_option maxHeartbeats 16000000 in
theorem awake_any (w : World) (hG : Glob w) : Calls Tryd.prog 9 #[] w fun e w' => e = .returned (.bool true) ∧ Below w.heap.size w w' := by
  have HP1 := Lib.hid (fun W' h => Parse_any (bs src1) (by decide) W' h)
  have HP2 := Lib.hid (fun W' h => Parse_any (bs src2) (by decide) W' h)
  have HP3 := Lib.hid (fun W' h => Parse_any (bs src3) (by decide) W' h)
  rw [tl_bs, parse1] at HP1
  rw [tl_bs, parse2] at HP2
  rw [tl_bs, parse3] at HP3
  go_enter Tryd.func9, Tryd.ntmps9
  go_wp2_with fail
  refine (HP1.out w hG).mono ?_
  rintro e w1 ⟨⟨A, c, rfl, hF⟩, hb1⟩
  have hk1 := ((Hp.start w).next hb1).new 24 [.string personN, .slice A 2 c]
  have hFA := hF.up ((Below.refl _ _).alloc (Nat.le_refl _) (.cells [.string personN, .slice A 2 c].toArray 24))
  obtain ⟨g1, hg1⟩ : ∃ x, w1.heap.size = x := ⟨_, rfl⟩
  rw [hg1] at hk1
  clear HP1 hF hb1
  go_upto_region 2 with fail
  try simp only [hg1]
  have hl2 : personL.length = 2 := rfl
  simp only [hl2]
  have hk1 : Hp [] w [iblk g1 24 [.string personN, .slice A 2 c]] (w1.alloc (.cells #[.string personN, .slice A 2 c] 24)) := hk1
  generalize (w1.alloc (.cells #[.string personN, .slice A 2 c] 24)) = w2 at *
  clear hg1
  go_wp2_with fail
  refine (person_any w2).mono ?_
  rintro e w3 ⟨⟨B, rfl, hFB⟩, hb3⟩
  have hk3 := hk1.next hb3
  have hFA3 := hFA.up hb3
  clear hk1 hFA hb3
  have hk4 := hk3.new 9 [.string ⟨#[49, 56]⟩, .string ⟨#[98, 108, 117, 101]⟩]
  have hb4 := (Below.refl w3.heap.size w3).alloc (Nat.le_refl _) (.cells [.string ⟨#[49, 56]⟩, .string ⟨#[98, 108, 117, 101]⟩].toArray 9)
  have hV := natS_row (l := [⟨#[49, 56]⟩, ⟨#[98, 108, 117, 101]⟩]) (c := 2) (n := 2) (blk_row (hk4.blk 0 rfl) 1 2 rfl (by decide))
  have hFA4 := hFA3.up hb4
  have hFB4 := hFB.up hb4
  have HE := encode_any personN B 2 personL ⟨by decide, by decide, fun f hf => by
    have hall : personL.all (fun f => decide (f.name.size ≤ 1000000) && decide (f.words.length ≤ 1000000) && f.words.all (fun s => decide (s.size ≤ 1000000))) = true := by decide
    have h1 := List.all_eq_true.1 hall f hf
    simp only [Bool.and_eq_true, decide_eq_true_eq, List.all_eq_true] at h1
    exact ⟨h1.1.1, h1.1.2, h1.2⟩⟩ _ 2 [⟨#[49, 56]⟩, ⟨#[98, 108, 117, 101]⟩] (by decide) (by intro t ht; simp at ht; rcases ht with rfl | rfl <;> decide) _ (hG.up hk4.below0) hFB4 hV
  rw [enc1] at HE
  have HE := Lib.hid HE
  clear hV hFA3 hFB hb4 hk3 hFB4
  go_wp2_with fail
  refine HE.out.mono ?_
  rintro e w5 ⟨⟨NA, nc, rfl, hNs⟩, hb5⟩
  have hk5 := hk4.next hb5
  have hFA5 := hFA4.up hb5
  clear hk4 hFA4 hb5 HE
  go_upto_region 3 with fail
  go_wp2_with fail
  refine (HP2.out w5 (hG.up hk5.below0)).mono ?_
  rintro e w6 ⟨⟨A2, c2, rfl, -⟩, hb6⟩
  have hk6 := (hk5.next hb6).new 24 [.string ByteArray.empty, .slice A2 0 c2]
  have hFA6 := (hFA5.up hb6).up ((Below.refl _ _).alloc (Nat.le_refl _) (.cells [.string ByteArray.empty, .slice A2 0 c2].toArray 24))
  have hNs6 := (hNs.up hb6).up ((Below.refl _ _).alloc (Nat.le_refl _) (.cells [.string ByteArray.empty, .slice A2 0 c2].toArray 24))
  clear hk5 hFA5 hNs hb6 HP2
  go_upto_region 4 with fail
  have hk6 : Hp [] w _ (w6.alloc (.cells #[.string ByteArray.empty, .slice A2 0 c2] 24)) := hk6
  go_wp2_with fail
  refine (HP3.out _ (hG.up hk6.below0)).mono ?_
  rintro e w7 ⟨⟨A3, c3, rfl, -⟩, hb7⟩
  have hk7 := (hk6.next hb7).new 24 [.string ByteArray.empty, .slice A3 0 c3]
  have hFA7 := (hFA6.up hb7).up ((Below.refl _ _).alloc (Nat.le_refl _) (.cells [.string ByteArray.empty, .slice A3 0 c3].toArray 24))
  have hNs7 := (hNs6.up hb7).up ((Below.refl _ _).alloc (Nat.le_refl _) (.cells [.string ByteArray.empty, .slice A3 0 c3].toArray 24))
  clear hk6 hFA6 hNs6 hb7 HP3
  go_upto_region 5 with fail
  have hkd := hk7.drew
  have hFAd := hFA7.up (Below.refl _ _).drew
  have hNsd := hNs7.up (Below.refl _ _).drew
  have HO18 := Lib.hid (fun W' => ref_of_at 18 18 W' rfl (by decide))
  have HO1 := Lib.hid (fun W' => ref_of_at 1 1 W' rfl (by decide))
  obtain ⟨k0, k1⟩ := (hkd.blk 3 rfl).get2
  clear hk7 hFA7 hNs7 HE hk6
  first | go_region_held3 (fun w' => w'.cell? ⟨g1, 0, none⟩ = some (.string personN) ∧ w'.cell? ⟨g1, 1, none⟩ = some (.slice A 2 c)) (first | exact ⟨k0, k1⟩ | exact ⟨k2, k3⟩ | exact ⟨k4, k5⟩ | exact ⟨k6, k7⟩ | exact ⟨k8, k9⟩ | exact ⟨k10, k11⟩ | exact ⟨(World.cell?_alloc_some _ _ _ (by rw [k8]; rfl)).trans k8, (World.cell?_alloc_some _ _ _ (by rw [k9]; rfl)).trans k9⟩)
    (first
     | (go_at_call 28; refine (person_any _).mono ?_; rintro e w8 ⟨⟨B8, rfl, hFB8⟩, hb8⟩; have hk8 := hkd.next hb8; have hFA8 := hFAd.up hb8; have hNs8 := hNsd.up hb8; clear hb8; obtain ⟨k2, k3⟩ := (hk8.blk 3 rfl).get2)
     | (go_at_call 27; refine (same_true personN A B8 c 2 personL (by decide) (by decide) _ hFA8 hFB8).mono ?_; rintro e w9 ⟨rfl, hb9⟩; have hk9 := hk8.next hb9; have hNs9 := hNs8.up hb9; clear hb9; obtain ⟨k4, k5⟩ := (hk9.blk 3 rfl).get2)
     | (go_at_call 20; have hq9 := hk10; refine (HO1.out _).mono ?_; rintro e w11 ⟨rfl, hb11⟩; have hk11 := hk10.next hb11; have hNs11 := hNs10.up hb11; clear hb11; obtain ⟨k8, k9⟩ := (hk11.blk 3 rfl).get2)
     | (go_at_call 20; refine (HO18.out _).mono ?_; rintro e w10 ⟨rfl, hb10⟩; have hk10 := hk9.next hb10; have hNs10 := hNs9.up hb10; clear hb10; obtain ⟨k6, k7⟩ := (hk10.blk 3 rfl).get2)
     | (go_at_call 19; refine (sameNats_true NA (some ⟨w11.heap.size, 0, none⟩) nc 2 [bs (Dm.str 18), bs (Dm.str 1)] (by decide) _ (hNs11.up ((Below.refl _ _).alloc (Nat.le_refl _) (.cells [Sv (Dm.str 18), Sv (Dm.str 1)].toArray 54))) (natS_row (n := 2) (c := 2) (blk_row (Blk.new w11 54 [Sv (Dm.str 18), Sv (Dm.str 1)]) 1 2 rfl (by decide)))).mono ?_; rintro e w12 ⟨rfl, hb12⟩; have hk12 := (hk11.alloc _).next hb12; obtain ⟨k10, k11⟩ := (hk12.blk 3 rfl).get2)) | fail
  all_goals
    go_wp2_with fail
    go_ret
    exact ⟨rfl, hk12.below0⟩
end Go.Proofs.YtmdjhakamapngaaDoor
