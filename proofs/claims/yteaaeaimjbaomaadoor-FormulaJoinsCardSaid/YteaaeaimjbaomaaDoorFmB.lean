import Derived.Test.YteaaeaimjbaomaaDoorFmA
/-
  dominoref20: shape, Leaves, Check.
-/
namespace Go.Proofs.YteaaeaimjbaomaaDoor
open Go.RowKit
set_option linter.unusedVariables false

theorem below_dn {B : Nat} {a w : World} (h : Below B a w) (n : Nat) : Below B a (w.drewN n) := ⟨h.os, h.tape, h.output, h.size, h.block⟩
/-- what shape returns -/
def ShapeR (r : Bool × Int × Int) (e : Ending) : Prop := ∃ x y : Int, e = .returned (.tuple #[.int .i64 x, .int .i64 y, .bool r.1]) ∧ (r.1 = true → x = r.2.1 ∧ y = r.2.2)
def ShapeLoop (w : World) (g3 g9 : Nat) (A : Option Addr) (c : Nat) (F : List Gt) (f : Nat) (g : Gt) (KA : Option Addr) (kc : Nat) (lo : Int) (R : Bool × Int × Int) (lv nx i : Value) (W : World) : Prop :=
  ∃ (j : Nat) (a b : Int), j ≤ g.kids.length ∧ i = .int .i64 (j : Int) ∧ nx = .int .i64 a ∧ lv = .int .i64 b ∧ lo ≤ a ∧ 0 ≤ b ∧ b ≤ a ∧ a ≤ F.length ∧
    Kp w [(g9, 40, [.int .i64 g.need, .slice KA g.kids.length kc, .int .i64 g.leaf]), (g3, 24, [.slice A F.length c])] W ∧ Hid (kidsP (visitP F f) (g.kids.drop j) (a, b) = R)
set_option maxHeartbeats 2000000 in
theorem shape_any (A : Option Addr) (c : Nat) (F : List Gt) (hF : F.length ≤ 1000000) (hK : ∀ g ∈ F, g.kids.length ≤ 1000000) (f : Nat) :
    ∀ (nx ct : Int) (w : World), Gates w w.heap.size A F → 0 ≤ nx → 0 ≤ ct → ct ≤ nx → nx ≤ F.length → (F.length : Int) - nx < f →
    Calls Tryd.prog 51 #[.agg #[.slice A F.length c], .int .i64 nx, .int .i64 ct] w fun e w' => ShapeR (visitP F f nx (nx, ct)) e ∧ Below w.heap.size w w' := by
  induction f with
  | zero => intro nx ct w hG h0 h1 h2 h3 h4; omega
  | succ f ih =>
    intro nx ct w hG h0 h1 h2 h3 h4
    have hk := (Kp.start w).new 24 [.slice A F.length c]
    by_cases hlt : nx < F.length
    · obtain ⟨k, rfl⟩ := Int.eq_ofNat_of_zero_le h0
      have hk1 : k < F.length := by omega
      obtain ⟨g, hg⟩ : ∃ g, F[k]? = some g := ⟨_, List.getElem?_eq_getElem hk1⟩
      have hkl : g.kids.length ≤ 1000000 := hK g (List.mem_of_getElem? hg)
      obtain ⟨ad, hA, hab, hga⟩ := hG.some_ (by rintro rfl; simp at hk1)
      subst hA
      obtain ⟨KA, kc, gk', gi⟩ := (hga k g hg).kids
      have ga := (hga k g hg).keep hk.below (Nat.le_refl _) (by rw [add_block]; exact hab)
      have gk : (w.alloc (.cells #[.slice (some ad) F.length c] 24)).cell? ⟨(ad.add (k * 3)).block, (ad.add (k * 3)).off + 1, none⟩ = some (.slice KA g.kids.length kc) := by
        rw [hk.below.cell (p := ⟨(ad.add (k * 3)).block, (ad.add (k * 3)).off + 1, none⟩) (by show (ad.add (k * 3)).block < _; rw [add_block]; exact hab)]; exact gk'
      have gn1 := ga.need
      have gl := ga.leaf
      clear gk' ga hga
      have HU : Hid (visitP F (f + 1) (k : Int) ((k : Int), ct) = if g.kids = [] then (decide (g.need = 0) && decide (g.leaf = ct), (k : Int) + 1, ct + 1) else if g.need < 1 ∨ (g.kids.length : Int) < g.need ∨ g.leaf ≠ 0 then (false, (k : Int) + 1, ct) else kidsP (visitP F f) g.kids ((k : Int) + 1, ct)) := by
        show _ = _
        rw [visitP, if_neg (by omega), Int.toNat_natCast, hg]
      go_enter Tryd.func51, Tryd.ntmps51
      have c0 : (w.alloc (.cells #[.slice (some ad) F.length c] 24)).cell? ⟨w.heap.size, 0, none⟩ = some (.slice (some ad) F.length c) := (hk.blk _ (List.mem_cons_self ..)).cell 0
      have hkk : Kp w [(w.heap.size, 24, [.slice (some ad) F.length c])] (w.alloc (.cells #[.slice (some ad) F.length c] 24)) := hk
      clear hk
      go_upto_region 1 with fail
      generalize w.alloc (.cells #[.slice (some ad) F.length c] 24) = W1 at *
      go_upto_region 4 with fail
      have hk2 := hkk.new 40 [.int .i64 g.need, .slice KA g.kids.length kc, .int .i64 g.leaf]
      have hz : w.heap.size < W1.heap.size := (hkk.blk _ (List.mem_cons_self ..)).lt
      clear c0 gn1 gl gk hkk
      have hk3 : Kp w [(W1.heap.size, 40, [.int .i64 g.need, .slice KA g.kids.length kc, .int .i64 g.leaf]), (w.heap.size, 24, [.slice (some ad) F.length c])] (W1.alloc (.cells #[.int .i64 g.need, .slice KA g.kids.length kc, .int .i64 g.leaf] 40)) := hk2
      clear hk2
      generalize W1.alloc (.cells #[.int .i64 g.need, .slice KA g.kids.length kc, .int .i64 g.leaf] 40) = W2 at *
      generalize W1.heap.size = g9 at *
      obtain ⟨b0, b1, b2⟩ := (hk3.blk _ (List.mem_cons_self ..)).get3
      simp only at b0 b1 b2
      by_cases hkz : g.kids = []
      · have hzz : ((g.kids.length : Int) == 0) = true := by rw [hkz]; rfl
        have HV : Hid (visitP F (f + 1) (k : Int) ((k : Int), ct) = (decide (g.need = 0) && decide (g.leaf = ct), (k : Int) + 1, ct + 1)) := by
          show _ = _
          rw [HU.out, if_pos hkz]
        clear HU hkz ih
        have e1 : IntKind.i64.wrap ((k : Int) + 1) = (k : Int) + 1 := IntWalk.i64_in _ (by omega)
        have e2 : IntKind.i64.wrap (ct + 1) = ct + 1 := IntWalk.i64_in _ (by omega)
        go_upto_region 5 with fail
        by_cases hn0 : g.need = 0
        · have t1 : (g.need == 0) = true := by simpa using hn0
          by_cases hl0 : g.leaf = ct
          · have t2 : (g.leaf == ct) = true := by simpa using hl0
            go_quiet (fail)
            go_wp2_with fail
            go_ret3
            rw [HV.out]
            exact ⟨⟨_, _, by simp [hn0, hl0], fun _ => ⟨rfl, rfl⟩⟩, below_dn hk3.below _⟩
          · have t2 : (g.leaf == ct) = false := by simpa using hl0
            go_quiet (fail)
            go_wp2_with fail
            go_ret3
            rw [HV.out]
            exact ⟨⟨_, _, by simp [hn0, hl0], fun _ => ⟨rfl, rfl⟩⟩, below_dn hk3.below _⟩
        · have t1 : (g.need == 0) = false := by simpa using hn0
          go_quiet (fail)
          go_wp2_with fail
          go_ret3
          rw [HV.out]
          exact ⟨⟨_, _, by simp [hn0], fun _ => ⟨rfl, rfl⟩⟩, below_dn hk3.below _⟩
      · have hzz : ((g.kids.length : Int) == 0) = false := by
          rw [beq_eq_false_iff_ne]
          intro h9
          exact hkz (List.eq_nil_of_length_eq_zero (by omega))
        by_cases hbad : g.need < 1 ∨ (g.kids.length : Int) < g.need ∨ g.leaf ≠ 0
        · have HV : Hid (visitP F (f + 1) (k : Int) ((k : Int), ct) = (false, (k : Int) + 1, ct)) := by
            show _ = _
            rw [HU.out, if_neg hkz, if_pos hbad]
          clear HU ih
          by_cases q1 : g.need < 1
          · go_wp2_with fail
            go_ret3
            rw [HV.out]
            exact ⟨⟨_, _, rfl, fun h9 => by cases h9⟩, hk3.below⟩
          · by_cases q2 : (g.kids.length : Int) < g.need
            · go_wp2_with fail
              go_ret3
              rw [HV.out]
              exact ⟨⟨_, _, rfl, fun h9 => by cases h9⟩, hk3.below⟩
            · have q3 : (g.leaf != 0) = true := by
                rcases hbad with h9 | h9 | h9
                · exact absurd h9 q1
                · exact absurd h9 q2
                · simpa using h9
              go_wp2_with fail
              go_ret3
              rw [HV.out]
              exact ⟨⟨_, _, rfl, fun h9 => by cases h9⟩, hk3.below⟩
        · have q1 : ¬ g.need < 1 := fun h9 => hbad (.inl h9)
          have q2 : ¬ (g.kids.length : Int) < g.need := fun h9 => hbad (.inr (.inl h9))
          have q3 : (g.leaf != 0) = false := by
            by_cases h9 : g.leaf = 0
            · simpa using h9
            · exact absurd (.inr (.inr h9)) hbad
          have HV : Hid (visitP F (f + 1) (k : Int) ((k : Int), ct) = kidsP (visitP F f) g.kids ((k : Int) + 1, ct)) := by
            show _ = _
            rw [HU.out, if_neg hkz, if_neg hbad]
          clear HU hbad
          have HI := Lib.hid ih
          clear ih
          go_upto_region 10 with fail
          clear b0 b1 b2
          go_loopw [2, 10, 11] (ShapeLoop w w.heap.size g9 (some ad) c F f g KA kc ((k : Int) + 1) (visitP F (f + 1) (k : Int) ((k : Int), ct))) (fun _ _ i _ => g.kids.length - (intOf i).toNat)
          case atStart => exact ⟨0, (k : Int) + 1, ct, Nat.zero_le _, rfl, rfl, rfl, Int.le_refl _, h1, by omega, by omega, hk3, Lib.hid (by rw [HV.out]; rfl)⟩
          case round =>
            obtain ⟨j, a, b, hj, rfl, rfl, rfl, hlo, hc0, hc1, hnx, hS, HR⟩ := hrel
            obtain ⟨b0, b1, b2⟩ := (hS.blk _ (List.mem_cons_self ..)).get3
            have b3 := (hS.blk _ (List.mem_cons_of_mem _ (List.mem_cons_self ..))).cell 0
            simp only at b0 b1 b2 b3
            by_cases hjl : j < g.kids.length
            · obtain ⟨ka, hKA, hkb, hrun⟩ := gi.some_ (by rintro h9; rw [h9] at hjl; simp at hjl)
              subst hKA
              obtain ⟨x, hx⟩ : ∃ x, g.kids[j]? = some x := ⟨_, List.getElem?_eq_getElem hjl⟩
              have cx : wr.cell? (ka.add j) = some (.int .i64 x) := by
                rw [hS.below.cell (p := ka.add j) (by rw [add_block]; exact hkb)]
                exact hrun j _ (by rw [List.getElem?_map, hx]; rfl)
              have hdr : g.kids.drop j = x :: g.kids.drop (j + 1) := by
                rw [List.drop_eq_getElem_cons hjl]
                congr 1
                rw [List.getElem?_eq_getElem hjl] at hx
                exact Option.some.inj hx
              have hbd := visitP_bd F f x (a, b) hc0 hc1 hnx
              have HR2 := HR.out
              rw [hdr, kidsP] at HR2
              have HD := Lib.hid HR2
              clear hdr HR2 HR hrun hx
              by_cases hxa : x = a
              · subst hxa
                have HC := Lib.hid (HI.out x b wr (hG.keep' (hS.below)) (by omega) hc0 hc1 hnx (by omega))
                generalize visitP F f x (x, b) = r at *
                obtain ⟨ok, nx', ct'⟩ := r
                go_wp2_with fail
                refine HC.out.mono ?_
                rintro e w5 ⟨⟨y, z, rfl, hyz⟩, hb5⟩
                simp only at hyz
                have hS5 := hS.next hb5
                clear hS hb5 b0 b1 b2 b3 cx HC
                cases ok with
                | true =>
                  obtain ⟨rfl, rfl⟩ := hyz rfl
                  go_wp2_with fail
                  go_roundw
                  case rel => exact ⟨j + 1, y, z, hjl, by go_num, rfl, rfl, Int.le_trans hlo hbd.1, hbd.2.2.1, hbd.2.2.2, hbd.2.1, hS5, Lib.hid (by have h9 := HD.out; first | (rw [if_pos trivial] at h9; exact h9) | (rw [if_pos rfl] at h9; exact h9) | simpa using h9)⟩
                  case measure => simp [intOf]; omega
                | false =>
                  go_wp2_with fail
                  go_ret3
                  have h9 := HD.out
                  rw [if_neg Bool.false_ne_true] at h9
                  rw [← h9]
                  exact ⟨⟨_, _, rfl, fun h9 => by cases h9⟩, hS5.below⟩
              · have t1 : (x != a) = true := by simpa using hxa
                have HE : Hid ((false, a, b) = visitP F (f + 1) (k : Int) ((k : Int), ct)) := by
                  show _ = _
                  have h9 := HD.out
                  cases f with
                  | zero => rw [visitP] at h9; exact h9
                  | succ f' =>
                    have hv9 : visitP F (f' + 1) x (a, b) = (false, a, b) := by rw [visitP, if_pos (Or.inl hxa)]
                    rw [hv9, if_neg Bool.false_ne_true] at h9
                    exact h9
                clear HD HI
                go_wp2_with fail
                go_ret3
                rw [← HE.out]
                exact ⟨⟨_, _, rfl, fun h9 => by cases h9⟩, hS.below⟩
            · have hjj : j = g.kids.length := by omega
              have HD := HR.out
              rw [hjj, List.drop_length, kidsP] at HD
              have HE := Lib.hid HD
              clear HD HR hjj
              go_wp2_with fail
              go_ret3
              rw [← HE.out]
              exact ⟨⟨_, _, rfl, fun _ => ⟨rfl, rfl⟩⟩, hS.below⟩
    · have hge : (F.length : Int) ≤ nx := by omega
      have HV : Hid (visitP F (f + 1) nx (nx, ct) = (false, nx, ct)) := by
        show _ = _
        rw [visitP, if_pos (.inr hge)]
      clear ih
      have tt : decide ((F.length : Int) ≤ nx) = true := by simpa using hge
      go_enter Tryd.func51, Tryd.ntmps51
      go_wp2_with fail
      go_ret3
      rw [HV.out]
      exact ⟨⟨_, _, rfl, fun h9 => by cases h9⟩, hk.below⟩
end Go.Proofs.YteaaeaimjbaomaaDoor

/-
  dominoref20: Leaves, Check.
-/
namespace Go.Proofs.YteaaeaimjbaomaaDoor
open Go.RowKit
set_option linter.unusedVariables false

def okL (F : List Gt) : Bool := decide (F.length ≤ 512) && (leavesP F).2
def RLeaves (F : List Gt) (e : Ending) : Prop := ∃ y : Int, e = .returned (.tuple #[.int .i64 y, .bool (okL F)]) ∧ (okL F = true → y = (leavesP F).1)
set_option maxHeartbeats 2000000 in
theorem rleaves_any (A : Option Addr) (c : Nat) (F : List Gt) (hF : F.length ≤ 1000000) (hK : ∀ g ∈ F, g.kids.length ≤ 1000000) (w : World) (hG : Gates w w.heap.size A F) :
    Calls Tryd.prog 35 #[.agg #[.slice A F.length c]] w fun e w' => RLeaves F e ∧ Below w.heap.size w w' := by
  have hk := (Kp.start w).new 24 [.slice A F.length c]
  by_cases hz : F = []
  · have HV : Hid (okL F = true ∧ (leavesP F).1 = 0) := by
      refine Lib.hid ?_
      rw [okL, leavesP, if_pos hz, hz]
      exact ⟨rfl, rfl⟩
    have h0 : ((F.length : Int) == 0) = true := by rw [hz]; rfl
    clear hz hG hK
    go_enter Tryd.func35, Tryd.ntmps35
    go_wp2_with fail
    go_ret2
    exact ⟨⟨0, by rw [HV.out.1]; rfl, fun _ => HV.out.2.symm⟩, hk.below⟩
  · have h0 : ((F.length : Int) == 0) = false := by
      rw [beq_eq_false_iff_ne]
      intro h9
      exact hz (List.eq_nil_of_length_eq_zero (by omega))
    by_cases h512 : 512 < F.length
    · have HV : Hid (okL F = false) := by
        show _ = _
        rw [okL, decide_eq_false (by omega)]; rfl
      clear hz hG hK
      go_enter Tryd.func35, Tryd.ntmps35
      go_wp2_with fail
      go_ret2
      exact ⟨⟨0, by rw [HV.out]; rfl, fun h9 => by rw [HV.out] at h9; cases h9⟩, hk.below⟩
    · have HV : Hid (okL F = ((visitP F (F.length + 1) 0 (0, 0)).1 && decide ((visitP F (F.length + 1) 0 (0, 0)).2.1 = F.length) && decide ((visitP F (F.length + 1) 0 (0, 0)).2.2 ≤ 256)) ∧ (leavesP F).1 = (visitP F (F.length + 1) 0 (0, 0)).2.2) := by
        refine Lib.hid ?_
        rw [okL, decide_eq_true (by omega), leavesP, if_neg hz]
        exact ⟨rfl, rfl⟩
      have HC := Lib.hid (shape_any A c F hF hK (F.length + 1) 0 0 (w.alloc (.cells #[.slice A F.length c] 24)) (hG.keep' hk.below) (Int.le_refl _) (Int.le_refl _) (Int.le_refl _) (by omega) (by omega))
      generalize visitP F (F.length + 1) 0 (0, 0) = r at *
      obtain ⟨b, nx, ct⟩ := r
      clear hz hG hK
      go_enter Tryd.func35, Tryd.ntmps35
      go_wp2_with fail
      refine HC.out.mono ?_
      rintro e w1 ⟨⟨x, y, rfl, hxy⟩, hb⟩
      have hk1 := hk.next hb
      have c0 := (hk1.blk _ (List.mem_cons_self ..)).cell 0
      simp only at c0 hxy
      clear HC hk hb
      cases b with
      | false =>
        go_wp2_with fail
        go_ret2
        exact ⟨⟨y, by rw [HV.out.1]; rfl, fun h9 => by rw [HV.out.1] at h9; cases h9⟩, hk1.below⟩
      | true =>
        obtain ⟨rfl, rfl⟩ := hxy rfl
        by_cases q1 : x = F.length
        · have t1 : (x == (F.length : Int)) = true := by simpa using q1
          by_cases q2 : y ≤ 256
          · have t2 : decide (y ≤ 256) = true := by simpa using q2
            go_wp2_with fail
            go_ret2
            exact ⟨⟨y, by rw [HV.out.1]; simp [q1, q2], fun _ => HV.out.2.symm⟩, hk1.below⟩
          · have t2 : decide (y ≤ 256) = false := by simpa using q2
            go_wp2_with fail
            go_ret2
            exact ⟨⟨y, by rw [HV.out.1]; simp [q1, q2], fun _ => HV.out.2.symm⟩, hk1.below⟩
        · have t1 : (x == (F.length : Int)) = false := by simpa using q1
          go_wp2_with fail
          go_ret2
          exact ⟨⟨y, by rw [HV.out.1]; simp [q1], fun _ => HV.out.2.symm⟩, hk1.below⟩
set_option maxHeartbeats 2000000 in
theorem rcheck_any (A : Option Addr) (c : Nat) (F : List Gt) (n : Int) (hF : F.length ≤ 1000000) (hK : ∀ g ∈ F, g.kids.length ≤ 1000000) (w : World) (hG : Gates w w.heap.size A F) :
    Calls Tryd.prog 15 #[.agg #[.slice A F.length c], .int .i64 n] w fun e w' => e = .returned (.int .i64 (checkP F n)) ∧ Below w.heap.size w w' := by
  have hbw : Below w.heap.size w (w.alloc (.cells #[.slice A F.length c] 24)) := (Below.refl _ _).alloc (Nat.le_refl _) _
  by_cases h1 : 512 < F.length ∨ n < 0 ∨ 256 < n
  · have HV : Hid (checkP F n = 6) := by show _ = _; rw [checkP, if_pos h1]
    by_cases q1 : 512 < F.length
    · clear h1 hK
      go_enter Tryd.func15, Tryd.ntmps15
      go_wp2_with fail
      go_ret
      rw [HV.out]
      exact ⟨rfl, hbw⟩
    · by_cases q2 : n < 0
      · clear h1 hK
        go_enter Tryd.func15, Tryd.ntmps15
        go_wp2_with fail
        go_ret
        rw [HV.out]
        exact ⟨rfl, hbw⟩
      · have q3 : 256 < n := by
          rcases h1 with h | h | h
          · exact absurd h q1
          · exact absurd h q2
          · exact h
        clear h1 hK
        go_enter Tryd.func15, Tryd.ntmps15
        go_wp2_with fail
        go_ret
        rw [HV.out]
        exact ⟨rfl, hbw⟩
  · have q1 : ¬ 512 < F.length := fun h => h1 (.inl h)
    have q2 : ¬ n < 0 := fun h => h1 (.inr (.inl h))
    have q3 : ¬ 256 < n := fun h => h1 (.inr (.inr h))
    have HU : Hid (checkP F n = if (leavesP F).2 = false then 3 else if (leavesP F).1 ≠ n then 6 else 0) := by show _ = _; rw [checkP, if_neg h1]
    have HC := Lib.hid (rleaves_any A c F hF hK (w.alloc (.cells #[.slice A F.length c] 24)) (hG.keep' hbw))
    have HO : Hid (okL F = (leavesP F).2) := by
      show _ = _
      rw [okL, decide_eq_true (by omega), Bool.true_and]
    unfold RLeaves at HC
    rw [HO.out] at HC
    generalize leavesP F = r at *
    obtain ⟨ct, ok⟩ := r
    clear h1 hK hG
    cases ok with
    | false =>
      go_enter Tryd.func15, Tryd.ntmps15
      go_wp2_with fail
      refine HC.out.mono ?_
      rintro e w1 ⟨⟨y, rfl, hy⟩, hb⟩
      clear hy
      go_wp2_with fail
      go_ret
      exact ⟨by rw [HU.out]; first | rfl | (simp; done), hbw.trans (hb.mono hbw.size)⟩
    | true =>
      by_cases q4 : ct = n
      · have t1 : (ct != n) = false := by simpa using q4
        go_enter Tryd.func15, Tryd.ntmps15
        go_wp2_with fail
        refine HC.out.mono ?_
        rintro e w1 ⟨⟨y, rfl, hy⟩, hb⟩
        obtain rfl := hy (by simp)
        go_wp2_with fail
        go_ret
        exact ⟨by rw [HU.out]; first | rfl | (simp [q4]; done), hbw.trans (hb.mono hbw.size)⟩
      · have t1 : (ct != n) = true := by simpa using q4
        go_enter Tryd.func15, Tryd.ntmps15
        go_wp2_with fail
        refine HC.out.mono ?_
        rintro e w1 ⟨⟨y, rfl, hy⟩, hb⟩
        obtain rfl := hy (by simp)
        go_wp2_with fail
        go_ret
        exact ⟨by rw [HU.out]; first | rfl | (simp [q4]; done), hbw.trans (hb.mono hbw.size)⟩
end Go.Proofs.YteaaeaimjbaomaaDoor
