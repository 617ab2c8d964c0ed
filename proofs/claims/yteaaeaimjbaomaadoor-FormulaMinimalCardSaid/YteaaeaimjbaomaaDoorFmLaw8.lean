/-
  dominolaw20.FormulaMinimal.
-/
import Derived.Test.YteaaeaimjbaomaaDoorFmLaw4
import Derived.Test.YteaaeaimjbaomaaDoorFmM4
namespace Go.Proofs.YteaaeaimjbaomaaDoor
open Go.RowKit
set_option linter.unusedVariables false

theorem Lw.rminimal {w : World} {g : Nat} {A : Option Addr} {c : Nat} {F : List Gt} {W : World} (h : Lw w g A c F W) (hf : fewP F = true) (n : Int) (hn : n ≤ 9) : Calls Tryd.prog 27 #[.agg #[.slice A F.length c], .int .i64 n] W fun e w' => ∃ v L, e = .returned v ∧ L.map Prod.fst = minsP F n ∧ Hp [] W (lits v L) w' :=
  rMinimal_any A c F n (by have := (fewP_iff.1 hf).1; omega) (fun g hg => by have := (fewP_iff.1 hf).2 g hg; omega) hn W h.gates
theorem mins_len (F : List Gt) (n : Int) (hn : n ≤ 9) : (minsP F n).length ≤ 600 := by
  by_cases h : 0 ≤ n
  · obtain ⟨m, rfl⟩ : ∃ m : Nat, n = m := ⟨n.toNat, by omega⟩
    exact mins_length F m (by omega)
  · unfold minsP
    split
    · rename_i h0
      have := check_bounds h0
      omega
    · simp
theorem mins_short (F : List Gt) (n : Int) (hn : n ≤ 9) : ∀ s ∈ minsP F n, s.length ≤ 1000000 := by
  intro s hs
  by_cases h0 : checkP F n = 0
  · have := check_bounds h0
    obtain ⟨m, rfl⟩ : ∃ m : Nat, n = m := ⟨n.toNat, by omega⟩
    have := (mins_in h0 hs).1
    omega
  · unfold minsP at hs
    rw [if_neg h0] at hs; cases hs
set_option maxRecDepth 20000 in
set_option maxHeartbeats 8000000 in
theorem fmminimal_walk (A : Option Addr) (c : Nat) (F : List Gt) (n b : Int) (w : World) (hG : Gates w w.heap.size A F) (hb0 : 0 ≤ b) (hb1 : b ≤ 255) :
    Calls Tryd.prog 10 #[.agg #[.slice A F.length c], .int .i64 n, .int .u8 b] w fun e w' => e = .returned (.bool true) ∧ Below w.heap.size w w' := by
  have hL0 := Lw.box w A c F hG
  go_enter Tryd.func10, Tryd.ntmps10
  go_upto_region 1 with fail
  generalize w.alloc (.cells #[.slice A F.length c] 24) = W at *
  obtain ⟨g, hg⟩ : ∃ g, w.heap.size = g := ⟨_, rfl⟩
  have hL : Lw w g A c F W := hg ▸ hL0
  clear hL0
  have c0 := hL.cell
  simp only [hg]
  go_wp2_with fail
  refine (few_any A c F W hL.gates).mono ?_
  rintro e w1 ⟨rfl, hb1⟩
  have hL1 := hL.next hb1
  clear hL c0 hb1
  cases hf : fewP F with
  | false =>
    clear hf
    go_wp2_with fail
    refine hL1.awake.mono ?_
    rintro e w2 ⟨rfl, hL2⟩
    go_wp2_with fail
    go_ret
    exact ⟨rfl, hL2.below⟩
  | true =>
    have HF := Lib.hid hf
    clear hf
    by_cases hn : 9 < n
    · go_wp2_with fail
      refine hL1.awake.mono ?_
      rintro e w2 ⟨rfl, hL2⟩
      go_wp2_with fail
      go_ret
      exact ⟨rfl, hL2.below⟩
    · have hn9 : n ≤ 9 := by omega
      have c1 := hL1.cell
      have HR := Lib.hid (hL1.rminimal HF.out n hn9)
      have HM := Lib.hid (mins_len F n hn9)
      have HSh := Lib.hid (mins_short F n hn9)
      go_wp2_with fail
      refine HR.out.mono ?_
      rintro e w2 ⟨v, R, rfl, hR, hS2⟩
      have HRm := Lib.hid hR
      obtain ⟨RA, rc, rfl, hRl, -⟩ := hS2.lists
      have hL2 := hL1.next hS2.below0
      clear HR hL1 c1 hR hS2
      have c1 := hL2.cell
      have HC := Lib.hid (hL2.collect HF.out n 600 (by omega))
      go_wp2_with fail
      refine HC.out.mono ?_
      rintro e w3 ⟨v, L, rfl, hLm, hS3⟩
      rw [decide_eq_true HM.out]
      rw [List.take_of_length_le HM.out] at hLm
      have HLm := Lib.hid hLm
      obtain ⟨LA, lc, rfl, hLl, hlc⟩ := hS3.lists
      have hL3 := hL2.next hS3.below0
      have hR3 := hRl.up hS3.below0
      have hll : L.length = R.length := by
        have h7 := congrArg List.length (HLm.out.trans HRm.out.symm)
        rw [List.length_map, List.length_map] at h7; exact h7
      have hlen : ((L.length : Int) != (R.length : Int)) = false := by rw [hll]; simp
      have HLL := Lib.hid hll
      have hL600 : L.length ≤ 600 := by have h7 := congrArg List.length HLm.out; rw [List.length_map] at h7; have := HM.out; omega
      clear HC hL2 c1 hLm hS3 hRl hll
      go_upto_region 8 with fail
      go_loopg [42] L.length (fun m s42 wx => ∃ i : Nat, i ≤ L.length ∧ m = L.length - i ∧ s42 = .int .i64 (i : Int) ∧ Below w3.heap.size w3 wx)
      case atStart => exact ⟨0, Nat.zero_le _, rfl, rfl, Below.refl _ _⟩
      case round =>
        obtain ⟨i, hi, rfl, rfl, hbx⟩ := hrel
        by_cases hil : i < L.length
        · have hii : (i : Int) < (L.length : Int) := by omega
          have hi0 : (0 : Int) ≤ (i : Int) := by omega
          have hiy : (i : Int) < (R.length : Int) := by have := HLL.out; omega
          obtain ⟨⟨x, vx⟩, hx⟩ : ∃ x, L[i]? = some x := ⟨_, List.getElem?_eq_getElem hil⟩
          obtain ⟨⟨y, vy⟩, hy⟩ : ∃ y, R[i]? = some y := ⟨_, List.getElem?_eq_getElem (by have := HLL.out; omega)⟩
          have h1 : (L.map Prod.fst)[i]? = some x := by rw [List.getElem?_map, hx]; rfl
          have hxy : x = y := by
            have h2 : (R.map Prod.fst)[i]? = some y := by rw [List.getElem?_map, hy]; rfl
            rw [HLm.out, ← HRm.out, h2] at h1
            injection h1 with h1; exact h1.symm
          subst hxy
          have hxl : x.length ≤ 1000000 := HSh.out x (by rw [← HLm.out]; exact List.mem_of_getElem? h1)
          obtain ⟨ad, rfl, ca, IA, ic, hvx, hxI⟩ := (hLl.up hbx).at_ i _ hx
          obtain ⟨bd, rfl, cb, JA, jc, hvy, hyI⟩ := (hR3.up hbx).at_ i _ hy
          simp only at hvx hvy ca cb hxI hyI
          subst hvx
          subst hvy
          clear hx hy h1
          have HE : Hid (∀ W', Below wr.heap.size wr W' → Calls Tryd.prog 28 #[.slice IA x.length ic, .slice JA x.length jc] W' fun e w' => e = .returned (.bool true) ∧ Below W'.heap.size W' w') := Lib.hid (fun W' hb => by
            have := equal_ints IA JA ic jc x x W' (hxI.up' hb) (hyI.up' hb) hxl hxl
            rw [decide_eq_true rfl] at this
            exact this)
          clear hxI hyI
          have d1 : wr.drew.cell? (ad.add i) = some (.slice IA x.length ic) := ca
          have d2 : wr.drew.cell? (bd.add i) = some (.slice JA x.length jc) := cb
          go_upto_region 10 with fail
          first | go_region_held3 (fun w' => w'.cell? (ad.add i) = some (.slice IA x.length ic) ∧ w'.cell? (bd.add i) = some (.slice JA x.length jc)) (first | exact ⟨d1, d2⟩ | exact ⟨f1, f2⟩) ((go_at_call 28; refine (HE.out _ (Below.refl _ _).drew).mono ?_; rintro e w5 ⟨rfl, hb5⟩; have f1 : w5.cell? (ad.add i) = some (.slice IA x.length ic) := (hb5.cell (cell_lt d1)).trans d1; have f2 : w5.cell? (bd.add i) = some (.slice JA x.length jc) := (hb5.cell (cell_lt d2)).trans d2)) | fail
          all_goals
            go_wp2_with fail
            go_roundg (L.length - (i + 1))
            case measure => omega
            case rel => exact ⟨i + 1, hil, rfl, by first | rfl | simp, hbx.trans (((Below.refl _ _).drew.trans hb5).mono hbx.size)⟩
        · have hii : ¬ (i : Int) < (L.length : Int) := by omega
          have hL4 := hL3.next hbx
          have hLl4 := hLl.up hbx
          have c1 := hL4.cell
          go_upto_region 14 with fail
          obtain ⟨k, hk⟩ : ∃ k : Nat, min (b % 20) (L.length : Int) = k := ⟨(min (b % 20) (L.length : Int)).toNat, by omega⟩
          have hkl : k ≤ L.length := by omega
          simp only [hk]
          have HC := Lib.hid (hL4.collect HF.out n k (by omega))
          go_wp2_with fail
          refine HC.out.mono ?_
          rintro e w5 ⟨v, S, rfl, hSm, hS5⟩
          obtain ⟨SA, sc, rfl, hSl, -⟩ := hS5.lists
          have hL5 := hL4.next hS5.below0
          have hLl5 := (hLl4.up hS5.below0).take k
          have hst : S.map Prod.fst = (L.take k).map Prod.fst := by rw [hSm, List.map_take, HLm.out]
          have hsl : S.length = (L.take k).length := by
            have h7 := congrArg List.length hst
            rw [List.length_map, List.length_map] at h7; exact h7
          have hkk : (L.take k).length = k := by rw [List.length_take, Nat.min_eq_left hkl]
          have HE := eqfunc_any SA LA sc lc S (L.take k) w5 hSl hLl5 (by omega) hsl hst (fun x hx => HSh.out _ (by
            have : x.1 ∈ S.map Prod.fst := List.mem_map.2 ⟨x, hx, rfl⟩
            rw [hSm] at this
            exact List.mem_of_mem_take this))
          rw [hkk] at HE
          have HE := Lib.hid HE
          clear HC hL4 hLl4 c1 hSm hS5 hSl hLl5 hst hsl hkk
          have hkc : k ≤ lc := by omega
          go_wp2_with fail
          refine HE.out.mono ?_
          rintro e w6 ⟨rfl, hb6⟩
          have hL6 := hL5.next hb6
          clear HE hL5
          go_wp2_with fail
          refine hL6.awake.mono ?_
          rintro e w7 ⟨rfl, hL7⟩
          go_wp2_with fail
          go_ret
          exact ⟨rfl, hL7.below⟩
end Go.Proofs.YteaaeaimjbaomaaDoor
