import Derived.Test.YtpfiggokicedbaaGreatDoorPcI
import Derived.Test.YtpfiggokicedbaaGreatDoorPqY
import Derived.Deep.CutBlock
/-
  policy.reached: its closure, itself. Printed by mkpgf.py.
-/
namespace Go.Proofs.YtpfiggokicedbaaGreatDoor
open Go.RowKit Go.Shelf Go.Maps
set_option linter.unusedVariables false

abbrev reF (gp gs go gv : Nat) : Value := .func (.func 98) #[] #[pptr gp, pptr gs, pptr go, pptr gv]
/-- the visit's pieces: the set and its box, the list's box and the list, the policy's, the closure's -/
abbrev rits (d : Po) (L : Lp) (gm gs go gp gv : Nat) (S : List Int) (vo : Value) : List It := [iset intK gm S, iblk gs 128 [.map (some gm)], iblk go 39 [vo], iorder vo S, iblk gp 26 (polcs d L), iblk gv 134 [reF gp gs go gv]]
theorem enters_reach : ∀ args w, (callFunc 98 args).run Tryz.prog w = .ok (.enter 98 args) w := enters_of Tryz.func98 (by kernel_rfl) rfl
def RO (d : Po) (L : Lp) (gm gs go gp gv : Nat) (w0 : World) (r : List It) (x : Bool × List Int) (e : Ending) (w' : World) : Prop := e = .returned (.bool x.1) ∧ ∃ OA oc, Hp [] w0 (rits d L gm gs go gp gv x.2 (.slice OA x.2.length oc) ++ r) w'
theorem RO.mk {d : Po} {L : Lp} {gm gs go gp gv : Nat} {w0 : World} {r : List It} {x : Bool × List Int} {w' : World} {E : Bool} {S : List Int} {OA : Option Addr} {oc : Nat} (h : x = (E, S)) (hH : Hp [] w0 (rits d L gm gs go gp gv S (.slice OA S.length oc) ++ r) w') : RO d L gm gs go gp gv w0 r x (.returned (.bool E)) w' := by
  subst h
  exact ⟨rfl, OA, oc, hH⟩
set_option maxRecDepth 20000 in
set_option maxHeartbeats 32000000 in
theorem reach_any (d : Po) (L : Lp) (hB : PBd d) (gm gs go gp gv : Nat) (w0 : World) (hP : PolM w0 d L) : ∀ (f : Nat) (a : Int) (S : List Int) (OA : Option Addr) (oc : Nat) (r : List It) (W : World), Rch d.nodes S → 513 ≤ f + S.length → Hp [] w0 (rits d L gm gs go gp gv S (.slice OA S.length oc) ++ r) W →
    Calls Tryz.prog 98 #[.int .i64 a, pptr gp, pptr gs, pptr go, pptr gv] W (RO d L gm gs go gp gv w0 r (reachP d.nodes f a S)) := by
  have hen := enters_reach
  obtain ⟨j0, hj0, hy0, hy1, hy2⟩ := info3 rint_info
  intro f
  induction f with
  | zero =>
    intro a S OA oc r W hM hf
    have := hM.len
    omega
  | succ f ih =>
    intro a S OA oc r W hM hf hk
    have hnl := hB.nl
    have c3 : W.cell? ⟨gp, 3, none⟩ = some (.slice L.na d.nodes.length L.nc) := (hk.blk 4 rfl).cell 3
    have s0 : W.cell? ⟨gs, 0, none⟩ = some (.map (some gm)) := (hk.blk 1 rfl).cell 0
    have o0 : W.cell? ⟨go, 0, none⟩ = some (.slice OA S.length oc) := (hk.blk 2 rfl).cell 0
    have HF := Lib.hid hf
    clear hf
    by_cases h1 : a < 0
    · have HV : Hid (reachP d.nodes (f + 1) a S = (false, S)) := Lib.hid (reachP_out (.inl h1))
      go_enter Tryz.func98, Tryz.ntmps98
      go_wp2_with fail
      go_ret
      exact RO.mk HV.out hk
    · obtain ⟨i, rfl⟩ : ∃ i : Nat, a = (i : Int) := ⟨a.toNat, by omega⟩
      have hi0 : (0 : Int) ≤ (i : Int) := by omega
      by_cases h2 : (d.nodes.length : Int) ≤ (i : Int)
      · have HV : Hid (reachP d.nodes (f + 1) (i : Int) S = (false, S)) := Lib.hid (reachP_out (.inr (.inl h2)))
        go_enter Tryz.func98, Tryz.ntmps98
        go_wp2_with fail
        go_ret
        exact RO.mk HV.out hk
      · have hwf := int_wf hi0 (by omega)
        have hil : i < d.nodes.length := by omega
        have hii : (i : Int) < (d.nodes.length : Int) := by omega
        have hlk := iset_look intK (hk.sep.ok _ (List.mem_cons_self ..)) (i : Int) hwf
        have hlk : (Instr.lookup 128 (.map (some gm)) (.int .i64 (i : Int)) false).run Tryz.prog W = .ok (.bool (memD (i : Int) S)) W := hlk
        cases hm : memD (i : Int) S with
        | true =>
          rw [hm] at hlk
          have HV : Hid (reachP d.nodes (f + 1) (i : Int) S = (false, S)) := Lib.hid (reachP_out (.inr (.inr (.inl (memD_iff.1 hm)))))
          go_enter Tryz.func98, Tryz.ntmps98
          go_wp2_with fail
          go_ret
          exact RO.mk HV.out hk
        | false =>
          rw [hm] at hlk
          by_cases h5 : S.length = 512
          · have h6 : ((S.length : Int) == 512) = true := by rw [h5]; rfl
            have HV : Hid (reachP d.nodes (f + 1) (i : Int) S = (false, S)) := Lib.hid (reachP_out (.inr (.inr (.inr h5))))
            go_enter Tryz.func98, Tryz.ntmps98
            go_wp2_with fail
            go_ret
            exact RO.mk HV.out hk
          · have h6 : ((S.length : Int) == 512) = false := by rw [beq_eq_false_iff_ne]; omega
            have hnot : ¬ ((i : Int) < 0 ∨ (d.nodes.length : Int) ≤ (i : Int) ∨ (i : Int) ∈ S ∨ S.length = 512) := by
              rintro (h | h | h | h)
              · exact h1 h
              · exact h2 h
              · rw [memD_iff.2 h] at hm; cases hm
              · exact h5 h
            obtain ⟨n, hn⟩ : ∃ n, d.nodes[i]? = some n := ⟨_, List.getElem?_eq_getElem hil⟩
            have HV := Lib.hid (reachP_in (f := f) hnot (by rw [Int.toNat_natCast]; exact hn))
            have hS2 := hM.snoc hnot
            have hSl := hM.len
            have hown := iset_own intK (hk.sep.ok _ (List.mem_cons_self ..))
            have hnb := hB.ns n (List.mem_of_getElem? hn)
            have hkl := hnb.kids
            obtain ⟨ad, KA, kc, hna, hN0⟩ := hP.ns.at_ i n hn
            have HNA := Lib.hid hna
            clear hnot hm hn h5 hna
            generalize reachP d.nodes (f + 1) (i : Int) S = X at *
            go_enter Tryz.func98, Tryz.ntmps98
            go_upto_region 4 with (first | (at_mapUpdate; refine wpList_mapUpdate_own _ rfl _ _ _ 128 rfl 3 4 intK.law Tryz.underlying128 (plainElem (H := Unit) Tryz.prog 4) gm S.length (intK.setD S) rfl hown (by unfold maxLen; omega) _ _ (intK.kl (i : Int)) rfl rfl (intK.key (i : Int) hwf) _ [] (plainElem_bool Tryz.underlying4 true) ?_; intro w1 hown1 hgrow1))
            have hk1 : Hp [] w0 ([iset intK gm (S ++ [(i : Int)]), iblk gs 128 [.map (some gm)], iblk go 39 [.slice OA S.length oc], iorder (.slice OA S.length oc) S, iblk gp 26 (polcs d L), iblk gv 134 [reF gp gs go gv]] ++ r) w1 := hk.setPut intK 0 rfl hwf hown1 hgrow1
            clear hown hown1 hgrow1 hlk hk c3 s0 o0
            have o0 : w1.cell? ⟨go, 0, none⟩ = some (.slice OA S.length oc) := (hk1.blk 2 rfl).cell 0
            go_upto_region 5 with (first | (at_builtin; refine wpList_append_own2 rfl _ _ 39 rfl 0 3 j0 _ 1 8 Tryz.underlying39 hj0 hy0 hy1 hy2 rfl (by decide) _ S.length (ivals S) rfl ((hk1.alloc (.cells #[.int .i64 (i : Int)] 3)).row 3 rfl) ⟨w1.heap.size, 0, none⟩ 1 1 [.int .i64 (i : Int)] rfl rfl (new1q _ _ _) (by intro u hu; simp at hu; rw [hu]; rfl) (by decide) (by unfold maxLen; omega) (by omega) (Nat.zero_le _) ?_; intro v' w2 hown hgrow hat; obtain ⟨A2, ca2, rfl⟩ := row_forms hown; have hk2 := (hk1.alloc (.cells #[.int .i64 (i : Int)] 3)).grown 3 rfl hown hgrow hat; have o2 := (hk2.blk 2 rfl).cell 0; have f2 := (hk2.blk 2 rfl).frozen 0; clear hown hgrow hat))
            have hk3 : Hp [] w0 (rits d L gm gs go gp gv (S ++ [(i : Int)]) (.slice A2 (S ++ [(i : Int)]).length ca2) ++ r) (w2.setCell ⟨go, 0, none⟩ (.slice A2 (S.length + 1) ca2)) := by
              have h9 := hk2.set 2 rfl 0 (.slice A2 (S.length + 1) ca2)
              have e2 : (S ++ [(i : Int)]).length = S.length + 1 := by simp
              have e3 : ivals S ++ [.int .i64 (i : Int)] = ivals (S ++ [(i : Int)]) := by simp [ivals]
              unfold rits iorder
              rw [e2, ← e3]
              exact h9
            clear hk1 hk2 o0 o2 f2
            generalize w2.setCell ⟨go, 0, none⟩ (.slice A2 (S.length + 1) ca2) = w3 at *
            have c3 : w3.cell? ⟨gp, 3, none⟩ = some (.slice L.na d.nodes.length L.nc) := (hk3.blk 4 rfl).cell 3
            rw [HNA.out] at c3
            have d4 := (hN0.up hk3.below0).kids
            go_upto_region 6 with fail
            clear d4 c3 HNA
            have HM := Lib.hid hS2
            have HN := Lib.hid hN0.ints
            have HF2 : Hid (513 ≤ f + (S ++ [(i : Int)]).length) := Lib.hid (by have := HF.out; rw [List.length_append, List.length_singleton]; omega)
            clear hS2 hN0 HF hM
            go_loopg [41] n.kids.length (fun m s41 wx => ∃ (j : Nat) (T : List Int) (OB : Option Addr) (ob : Nat), j ≤ n.kids.length ∧ m = n.kids.length - j ∧ s41 = .int .i64 (j : Int) ∧ Hp [] w0 (rits d L gm gs go gp gv T (.slice OB T.length ob) ++ r) wx ∧ Hid (Rch d.nodes T ∧ 513 ≤ f + T.length ∧ X = loopB (fun k S => reachP d.nodes f k S) (n.kids.drop j) T))
            case atStart => exact ⟨0, S ++ [(i : Int)], A2, ca2, Nat.zero_le _, rfl, rfl, hk3, Lib.hid ⟨HM.out, HF2.out, HV.out⟩⟩
            case round =>
              obtain ⟨j, T, OB, ob, hj, rfl, rfl, hMx, HE⟩ := hrel
              clear hk3
              by_cases hjl : j < n.kids.length
              · have hjj : (j : Int) < (n.kids.length : Int) := by omega
                have hj0' : (0 : Int) ≤ (j : Int) := by omega
                obtain ⟨k, hk⟩ : ∃ k, n.kids[j]? = some k := ⟨_, List.getElem?_eq_getElem hjl⟩
                obtain ⟨ka, hKA, hkc⟩ := (HN.out.up hMx.below0).at_ j k hk
                subst hKA
                have v0 : wr.cell? ⟨gv, 0, none⟩ = some (reF gp gs go gv) := (hMx.blk 5 rfl).cell 0
                have HD := Lib.hid (And.intro (drop_at hk) (HE.out))
                clear hk HE
                have HC := Lib.hid (ih k T OB ob r wr HD.out.2.1 HD.out.2.2.1 hMx)
                have hT2 := reachP_rch d.nodes f k T HD.out.2.1
                have HL : Hid (X = if (reachP d.nodes f k T).1 = false then reachP d.nodes f k T else loopB (fun k S => reachP d.nodes f k S) (n.kids.drop (j + 1)) (reachP d.nodes f k T).2) := Lib.hid (by rw [HD.out.2.2.2, HD.out.1, loopB])
                have HT3 : Hid (513 ≤ f + (reachP d.nodes f k T).2.length) := Lib.hid (by have := HD.out.2.2.1; have := hT2.2; omega)
                have hT4 := hT2.1
                clear HD hT2
                generalize reachP d.nodes f k T = vr at *
                obtain ⟨ve, T2⟩ := vr
                simp only at HL hT4 HT3
                go_wp2_with fail
                refine HC.out.mono ?_
                rintro e w4 ⟨rfl, OA2, oc2, hM2⟩
                clear hMx HC v0 hkc
                cases ve with
                | false =>
                  have HV3 : Hid (X = (false, T2)) := Lib.hid (by rw [HL.out, if_pos rfl])
                  go_wp2_with fail
                  go_ret
                  exact RO.mk HV3.out hM2
                | true =>
                  have HV3 : Hid (Rch d.nodes T2 ∧ 513 ≤ f + T2.length ∧ X = loopB (fun k S => reachP d.nodes f k S) (n.kids.drop (j + 1)) T2) := Lib.hid ⟨hT4, HT3.out, by rw [HL.out, if_neg (by simp)]⟩
                  go_wp2_with fail
                  go_roundg (n.kids.length - (j + 1))
                  case measure => omega
                  case rel => exact ⟨j + 1, T2, OA2, oc2, hjl, rfl, by first | rfl | simp, hM2, HV3⟩
              · have hjj : ¬ (j : Int) < (n.kids.length : Int) := by omega
                have HV3 : Hid (X = (true, T)) := Lib.hid (by rw [HE.out.2.2, List.drop_of_length_le (by omega)]; rfl)
                go_wp2_with fail
                go_ret
                exact RO.mk HV3.out hMx
end Go.Proofs.YtpfiggokicedbaaGreatDoor

/-
  slices.Clone at uses and at references; policy.reached. Printed by mkpgg.py.
-/
namespace Go.Proofs.YtpfiggokicedbaaGreatDoor
open Go.RowKit Go.Shelf Go.Maps
set_option linter.unusedVariables false

/-- the cells of pairs of strings -/
abbrev bcells (l : List Bp) : List Value := l.flatMap fun x => [.string x.1, .string x.2]
theorem bcells_len (l : List Bp) : (bcells l).length = l.length * 2 := by
  induction l with
  | nil => rfl
  | cons a l ih =>
    have e : bcells (a :: l) = .string a.1 :: .string a.2 :: bcells l := rfl
    rw [e]; simp only [List.length_cons, ih]; omega
theorem bcells_at {l : List Bp} {i : Nat} {x : Bp} (h : l[i]? = some x) : (bcells l)[i * 2]? = some (.string x.1) ∧ (bcells l)[i * 2 + 1]? = some (.string x.2) := by
  induction l generalizing i with
  | nil => simp at h
  | cons y l ih =>
    have e : bcells (y :: l) = .string y.1 :: .string y.2 :: bcells l := rfl
    cases i with
    | zero =>
      have : y = x := by simpa using h
      subst this
      exact ⟨rfl, rfl⟩
    | succ i =>
      have h1 := ih (by simpa using h)
      rw [e, show (i + 1) * 2 = i * 2 + 1 + 1 by omega]
      simpa using h1
theorem bcells_of {W : World} {ad : Addr} {l : List Bp} (h : Prs W (some ad) l) : ∀ j u, (bcells l)[j]? = some u → W.cell? (ad.add j) = some u := by
  intro j u hu
  have hj := (List.getElem?_eq_some_iff.1 hu).1
  rw [bcells_len] at hj
  obtain ⟨x, hx⟩ : ∃ x, l[j / 2]? = some x := ⟨_, List.getElem?_eq_getElem (by omega)⟩
  obtain ⟨ad', e, h1, h2⟩ := h.at_ _ _ hx
  cases e
  obtain ⟨b1, b2⟩ := bcells_at hx
  rcases (by omega : j = j / 2 * 2 ∨ j = j / 2 * 2 + 1) with hj2 | hj2
  · rw [hj2] at hu ⊢
    rw [b1] at hu
    rw [← hu]; exact h1
  · rw [hj2] at hu ⊢
    rw [b2] at hu
    rw [← hu, ← h2]
    congr 1
    unfold Addr.add
    split
    · omega
    · split
      · rename_i h9; rw [h9]
      · rfl
theorem bprs_row {e : TypeId} {W : World} {A : Option Addr} {n c : Nat} {l : List Bp} (h : W.ownsRow 0 e 2 (.slice A n c) l.length (bcells l)) : Prs W A l := by
  refine ⟨fun i s hs => ?_⟩
  have hi := (List.getElem?_eq_some_iff.1 hs).1
  obtain ⟨g, cap, hv, -⟩ := row_form h (by omega)
  injection hv with hA hn hc
  subst hA
  rw [hn] at h
  refine ⟨_, rfl, ?_⟩
  rw [paddr0]
  exact ⟨row_cell h (bcells_at hs).1, row_cell h (bcells_at hs).2⟩
/-- an empty row in a block of its own -/
theorem Hp.emptyrow {o : List Nat} {w W : World} {it : List It} (h : Hp o w it W) (e : TypeId) (size : Nat) : Hp o w (irow e size (.slice (some ⟨W.heap.size, 0, none⟩) 0 0) 0 [] :: it) (W.alloc (.cells #[] e)) := by
  have hrow : (W.alloc (.cells #[] e)).ownsRow 0 e size (.slice (some ⟨W.heap.size, 0, none⟩) 0 0) 0 [] := by
    refine ⟨by simp, .inr ⟨W.heap.size, 0, #[], rfl, Nat.zero_le _, Blk.new W e [], Nat.le_refl _, by unfold maxLen; omega, by simp, by simp⟩⟩
  have h1 : Hp (ow []) W [irow e size (.slice (some ⟨W.heap.size, 0, none⟩) 0 0) 0 []] (W.alloc (.cells #[] e)) := by
    refine ⟨⟨fun x hx => ?_, by simp [irow, Value.ownBlock]⟩, ⟨(Below.refl _ _).alloc (Nat.zero_le _) _, fun k hk _ => Below.heap_alloc _ _ _ hk, fun b hb => .inr ?_⟩⟩
    · rw [List.mem_singleton.1 hx]; exact hrow
    · simp [irow, Value.ownBlock] at hb; omega
  exact Hp.call (a := []) h h1
theorem cluse_info : (Tryz.prog.info? 51).map (fun i => (i.zero, i.size, i.bytes)) = some (some (.agg #[.string ⟨#[]⟩, .string ⟨#[]⟩]), 2, 32) := by kernel_rfl
set_option maxRecDepth 20000 in
set_option maxHeartbeats 4000000 in
theorem clone_use (A : Option Addr) (c : Nat) (x : List Bp) (W : World) (hx : Prs W A x) (hxl : x.length ≤ 1000000) :
    Calls Tryz.prog 56 #[.slice A x.length c] W fun e w' => ∃ A' c', e = .returned (.slice A' x.length c') ∧ Hp [] W [irow 51 2 (.slice A' x.length c') x.length (bcells x)] w' := by
  obtain ⟨j0, hj0, hy0, hy1, hy2⟩ := info3 cluse_info
  cases A with
  | none =>
    have hx0 : x = [] := by
      cases x with
      | nil => rfl
      | cons a l =>
        obtain ⟨ad, e, -⟩ := hx.at_ 0 a rfl
        cases e
    subst hx0
    have hq : ∀ w, (binOp .eql 22 (.slice none 0 c) (.slice none 0 0)).run Tryz.prog w = .ok (.bool true) w := fun w => by kernel_rfl
    go_enter Tryz.func56, Tryz.ntmps56
    go_wp2_with fail
    go_ret
    exact ⟨none, 0, rfl, (Hp.start W).nilrow 51 2⟩
  | some ad =>
    have hq : ∀ (n : Nat) w, (binOp .eql 22 (.slice (some ad) n c) (.slice none 0 0)).run Tryz.prog w = .ok (.bool false) w := fun n w => by kernel_rfl
    cases hxx : decide (x = []) with
    | true =>
      obtain rfl : x = [] := of_decide_eq_true hxx
      have hap : ∀ (g : Nat) (w : World), (Builtin.append_ #[22, 22] 22 #[.slice (some ⟨g, 0, none⟩) 0 0, .slice (some ad) 0 c]).run Tryz.prog w = .ok (.slice (some ⟨g, 0, none⟩) 0 0) w := fun g w => by
        have := run_append_room_cells (P := Tryz.prog) (w := w) 22 22 51 j0 Tryz.underlying22 hj0 g 0 0 0 ad 0 c [] (by simp) (by simp) (by simp) (by simp) (by simp) (by simp)
        exact this
      go_enter Tryz.func56, Tryz.ntmps56
      go_wp2_with fail
      go_ret
      exact ⟨_, _, rfl, (Hp.start W).emptyrow 51 2⟩
    | false =>
      have hpos : 0 < x.length := by
        cases x with
        | nil => simp at hxx
        | cons a l => simp
      have hk0 := (Hp.start W).emptyrow 51 2
      have hcl := bcells_of (hx.up ((Below.refl W.heap.size W).alloc (Nat.le_refl _) (.cells #[] 51)))
      go_enter Tryz.func56, Tryz.ntmps56
      go_wp2_with (first | (at_builtin; refine wpList_append_own2 rfl _ _ 22 rfl 0 51 j0 _ 2 32 Tryz.underlying22 hj0 hy0 hy1 hy2 rfl (by decide) _ 0 [] rfl (hk0.row 0 rfl) ad x.length c (bcells x) rfl (bcells_len x) hcl (by intro u hu; obtain ⟨y, _, hy⟩ := List.mem_flatMap.1 hu; simp at hy; rcases hy with rfl | rfl <;> rfl) hpos (by unfold maxLen; omega) (by omega) (Nat.zero_le _) ?_; intro v' w2 hown hgrow hat; obtain ⟨A2, ca2, rfl⟩ := row_forms hown))
      go_ret
      have hk1 := hk0.grown 0 rfl hown hgrow hat
      rw [Nat.zero_add, List.nil_append] at hk1
      exact ⟨_, _, by first | rfl | (rw [Nat.zero_add]; rfl) | simp, hk1⟩
theorem clref_info : (Tryz.prog.info? 53).map (fun i => (i.zero, i.size, i.bytes)) = some (some (.agg #[.string ⟨#[]⟩, .string ⟨#[]⟩]), 2, 32) := by kernel_rfl
set_option maxRecDepth 20000 in
set_option maxHeartbeats 4000000 in
theorem clone_ref (A : Option Addr) (c : Nat) (x : List Bp) (W : World) (hx : Prs W A x) (hxl : x.length ≤ 1000000) :
    Calls Tryz.prog 57 #[.slice A x.length c] W fun e w' => ∃ A' c', e = .returned (.slice A' x.length c') ∧ Hp [] W [irow 53 2 (.slice A' x.length c') x.length (bcells x)] w' := by
  obtain ⟨j0, hj0, hy0, hy1, hy2⟩ := info3 clref_info
  cases A with
  | none =>
    have hx0 : x = [] := by
      cases x with
      | nil => rfl
      | cons a l =>
        obtain ⟨ad, e, -⟩ := hx.at_ 0 a rfl
        cases e
    subst hx0
    have hq : ∀ w, (binOp .eql 23 (.slice none 0 c) (.slice none 0 0)).run Tryz.prog w = .ok (.bool true) w := fun w => by kernel_rfl
    go_enter Tryz.func57, Tryz.ntmps57
    go_wp2_with fail
    go_ret
    exact ⟨none, 0, rfl, (Hp.start W).nilrow 53 2⟩
  | some ad =>
    have hq : ∀ (n : Nat) w, (binOp .eql 23 (.slice (some ad) n c) (.slice none 0 0)).run Tryz.prog w = .ok (.bool false) w := fun n w => by kernel_rfl
    cases hxx : decide (x = []) with
    | true =>
      obtain rfl : x = [] := of_decide_eq_true hxx
      have hap : ∀ (g : Nat) (w : World), (Builtin.append_ #[23, 23] 23 #[.slice (some ⟨g, 0, none⟩) 0 0, .slice (some ad) 0 c]).run Tryz.prog w = .ok (.slice (some ⟨g, 0, none⟩) 0 0) w := fun g w => by
        have := run_append_room_cells (P := Tryz.prog) (w := w) 23 23 53 j0 Tryz.underlying23 hj0 g 0 0 0 ad 0 c [] (by simp) (by simp) (by simp) (by simp) (by simp) (by simp)
        exact this
      go_enter Tryz.func57, Tryz.ntmps57
      go_wp2_with fail
      go_ret
      exact ⟨_, _, rfl, (Hp.start W).emptyrow 53 2⟩
    | false =>
      have hpos : 0 < x.length := by
        cases x with
        | nil => simp at hxx
        | cons a l => simp
      have hk0 := (Hp.start W).emptyrow 53 2
      have hcl := bcells_of (hx.up ((Below.refl W.heap.size W).alloc (Nat.le_refl _) (.cells #[] 53)))
      go_enter Tryz.func57, Tryz.ntmps57
      go_wp2_with (first | (at_builtin; refine wpList_append_own2 rfl _ _ 23 rfl 0 53 j0 _ 2 32 Tryz.underlying23 hj0 hy0 hy1 hy2 rfl (by decide) _ 0 [] rfl (hk0.row 0 rfl) ad x.length c (bcells x) rfl (bcells_len x) hcl (by intro u hu; obtain ⟨y, _, hy⟩ := List.mem_flatMap.1 hu; simp at hy; rcases hy with rfl | rfl <;> rfl) hpos (by unfold maxLen; omega) (by omega) (Nat.zero_le _) ?_; intro v' w2 hown hgrow hat; obtain ⟨A2, ca2, rfl⟩ := row_forms hown))
      go_ret
      have hk1 := hk0.grown 0 rfl hown hgrow hat
      rw [Nat.zero_add, List.nil_append] at hk1
      exact ⟨_, _, by first | rfl | (rw [Nat.zero_add]; rfl) | simp, hk1⟩
set_option maxRecDepth 20000 in
set_option maxHeartbeats 16000000 in
theorem reached_any (d : Po) (L : Lp) (hB : PBd d) (w : World) (hP : PolM w d L) : Calls Tryz.prog 55 #[polV d L] w fun e w' => ∃ OA oc, e = .returned (.tuple #[.slice OA (reachP d.nodes 513 d.root []).2.length oc, .bool (reachP d.nodes 513 d.root []).1]) ∧ Hp [] w [iorder (.slice OA (reachP d.nodes 513 d.root []).2.length oc) (reachP d.nodes 513 d.root []).2] w' := by
  have hmm := @run_makeMap Tryz.prog
  have hmf : ∀ (fn : Fn) (first cap : Array Value) (w : World), (Instr.makeFunc fn first cap).run Tryz.prog w = .ok (.func fn first cap) w := fun _ _ _ _ => rfl
  have hen := enters_reach
  have HS := Lib.hid (store_func Tryz.prog)
  have hk0 := (((((((Hp.start w).nilrow 3 1).new 26 (polcs d L)).new 39 [.slice none 0 0]).setNew intK).new 128 [.map (some (w.heap.size + 1 + 1))]).new 134 [.nilFunc])
  simp only [sizeA] at hk0
  go_enter Tryz.func55, Tryz.ntmps55
  go_upto_region 4 with fail
  have hk0 : Hp [] w _ (((((w.alloc (.cells #[.string d.name, .slice L.ua d.uses.length L.uc, .slice L.ra d.reveal.length L.rc, .slice L.na d.nodes.length L.nc, .int .i64 d.root, .string d.scope, .int .i64 d.limit, .string d.escrow] 26)).alloc (.cells #[.slice none 0 0] 39)).alloc (.map #[] 0)).alloc (.cells #[.map (some (w.heap.size + 1 + 1))] 128)).alloc (.cells #[.nilFunc] 134)) := hk0
  generalize (((((w.alloc (.cells #[.string d.name, .slice L.ua d.uses.length L.uc, .slice L.ra d.reveal.length L.rc, .slice L.na d.nodes.length L.nc, .int .i64 d.root, .string d.scope, .int .i64 d.limit, .string d.escrow] 26)).alloc (.cells #[.slice none 0 0] 39)).alloc (.map #[] 0)).alloc (.cells #[.map (some (w.heap.size + 1 + 1))] 128)).alloc (.cells #[.nilFunc] 134)) = W1 at *
  obtain ⟨gp, hgp⟩ : ∃ g, w.heap.size = g := ⟨_, rfl⟩
  obtain ⟨go, hgo⟩ : ∃ g, gp + 1 = g := ⟨_, rfl⟩
  obtain ⟨gm, hgm⟩ : ∃ g, go + 1 = g := ⟨_, rfl⟩
  obtain ⟨gs, hgs⟩ : ∃ g, gm + 1 = g := ⟨_, rfl⟩
  obtain ⟨gv, hgv⟩ : ∃ g, gs + 1 = g := ⟨_, rfl⟩
  rw [hgp, hgo, hgm, hgs, hgv] at hk0
  simp only [hgp, hgo, hgm, hgs, hgv]
  have hst := fun x y => HS.out W1 ⟨gv, 0, none⟩ .plain (Fn.func 98) x y _ ((hk0.blk 0 rfl).cell 0) ((hk0.blk 0 rfl).frozen 0)
  have hk1 := (hk0.set 0 rfl 0 (reF gp gs go gv))
  have hk1 : Hp [] w (rits d L gm gs go gp gv [] (.slice none 0 0)) (W1.setCell ⟨gv, 0, none⟩ (reF gp gs go gv)) := hk1.perm ((List.perm_append_comm (l₁ := [_]) (l₂ := [_, _, _, _, _])).trans ((List.Perm.swap _ _ _).trans ((((List.Perm.swap _ _ _).cons _).cons _).cons _)))
  go_upto_region 5 with fail
  clear hst hk0
  generalize W1.setCell ⟨gv, 0, none⟩ (reF gp gs go gv) = W2 at *
  have p4 : W2.cell? ⟨gp, 4, none⟩ = some (.int .i64 d.root) := (hk1.blk 4 rfl).cell 4
  have v0 : W2.cell? ⟨gv, 0, none⟩ = some (reF gp gs go gv) := (hk1.blk 5 rfl).cell 0
  have hM0 : Rch d.nodes [] := ⟨⟨List.nodup_nil, fun x hx => absurd hx List.not_mem_nil⟩, Nat.zero_le _⟩
  have HC := Lib.hid (reach_any d L hB gm gs go gp gv w hP 513 d.root [] none 0 [] W2 hM0 (by simp) (by rw [List.append_nil]; exact hk1))
  obtain ⟨vr, hvr⟩ : ∃ vr, reachP d.nodes 513 d.root [] = vr := ⟨_, rfl⟩
  rw [hvr] at HC
  have HVR := Lib.hid hvr
  clear hvr
  obtain ⟨ve, T⟩ := vr
  clear hM0
  go_wp2_with fail
  refine HC.out.mono ?_
  rintro e w3 ⟨rfl, OA, oc, hk3⟩
  clear HC hk1 p4 v0
  rw [List.append_nil] at hk3
  simp only at hk3
  have o0 : w3.cell? ⟨go, 0, none⟩ = some (.slice OA T.length oc) := (hk3.blk 2 rfl).cell 0
  subst hgp
  go_wp2_with fail
  go_ret2
  rw [HVR.out]
  refine ⟨OA, oc, rfl, ?_⟩
  exact Hp.sub (it := [_]) (r := [_, _, _, _, _]) (hk3.pull 3 rfl)
end Go.Proofs.YtpfiggokicedbaaGreatDoor

/-
  Numbers that are found under numbers (a map that a call makes); policy.Tidy. Printed by mkpgh.py.
-/
namespace Go.Proofs.YtpfiggokicedbaaGreatDoor
open Go.RowKit Go.Shelf Go.Maps Go.WideMaps
set_option linter.unusedVariables false

theorem zeroI (w : World) : (zeroValue 3).run Tryz.prog w = .ok (.int .i64 0) w := by kernel_rfl
/-- the map from the elements of a list to their places, as it reads -/
def posM (l : List Int) : DataW Unit := l.zipIdx.foldl (fun m x => m.put (.int .i64 x.1) (.lit (.int .i64 (x.2 : Int)))) (.map [])
theorem posM_snoc (l : List Int) (a : Int) : posM (l ++ [a]) = (posM l).put (.int .i64 a) (.lit (.int .i64 (l.length : Int))) := by
  unfold posM
  rw [List.zipIdx_append, List.foldl_append]
  simp
theorem posM_isMap (l : List Int) : IsMap (posM l) := by
  have : ∀ (xs : List (Int × Nat)) (m : DataW Unit), IsMap m → IsMap (xs.foldl (fun m x => m.put (.int .i64 x.1) (.lit (.int .i64 (x.2 : Int)))) m) := by
    intro xs
    induction xs with
    | nil => intro m h; exact h
    | cons a xs ih => intro m h; exact ih _ (h.put _ _)
  exact this _ _ isMap_empty
theorem posD_snoc {l : List Int} {a k : Int} (ha : a ∉ l) : posD (l ++ [a]) k = if k = a then (l.length : Int) else posD l k := by
  unfold posD
  by_cases hk : k = a
  · subst hk
    rw [if_pos (by simp), if_pos rfl, List.idxOf_append, if_neg ha]
    simp
  · rw [if_neg hk]
    by_cases h2 : k ∈ l
    · rw [if_pos (List.mem_append_left _ h2), if_pos h2, List.idxOf_append, if_pos h2]
    · rw [if_neg h2, if_neg (by simp [h2, hk])]
theorem posM_at (k : Int) (hk : (Lit.int .i64 k).wf = true) : ∀ (n : Nat) (l : List Int), (∀ x ∈ l, (Lit.int .i64 x).wf = true) → l.length = n → l.Nodup → (posM l).atKey (.int .i64 k) (.lit (.int .i64 0)) = .lit (.int .i64 (posD l k)) := by
  intro n
  induction n with
  | zero =>
    intro l _ hl _
    rw [List.eq_nil_of_length_eq_zero hl]
    simp [posM, DataW.atKey, posD]
  | succ n ih =>
    intro l hok hl hnd
    obtain ⟨T, t, rfl⟩ : ∃ T t, l = T ++ [t] := ⟨l.dropLast, l.getLast (by intro h9; rw [h9] at hl; cases hl), (List.dropLast_concat_getLast _).symm⟩
    have hT : T.length = n := by simpa using hl
    obtain ⟨n1, n2, n3⟩ := List.nodup_append.1 hnd
    have ht : t ∉ T := fun h => n3 t h t (by simp) rfl
    rw [posM_snoc, posD_snoc ht]
    by_cases h : k = t
    · subst h
      have hik : WideAt.IsKeyLit (.int .i64 k) := intK.isKey k hk
      rw [if_pos rfl, atKey_put_same (posM_isMap T) hik]
    · rw [if_neg h, atKey_put_other (fun e => h (by injection e)), ih T (fun x hx => hok x (List.mem_append_left _ hx)) hT n1]
/-- the map in a block -/
def imap (b : Nat) (l : List Int) : It := ⟨[b], fun W => (∀ x ∈ l, (Lit.int .i64 x).wf = true) ∧ W.ownsMap Tryz.prog 3 (plainElem (H := Unit) Tryz.prog 3) b l.length (posM l), fun W W' h hp => by
    obtain ⟨ho, es, clock, hb, r⟩ := hp
    exact ⟨ho, es, clock, (h b (List.mem_singleton.2 rfl)).trans hb, r⟩, fun W hp b' hb => by rw [List.mem_singleton.1 hb]; exact World.ownsMap.lt hp.2⟩
set_option maxRecDepth 20000 in
theorem imap_look {W : World} {b : Nat} {l : List Int} (h : (imap b l).P W) (hn : l.Nodup) (k : Int) (hk : (Lit.int .i64 k).wf = true) : (Instr.lookup 94 (.map (some b)) (.int .i64 k) false).run Tryz.prog W = .ok (.int .i64 (posD l k)) W := by
  obtain ⟨c, hrun, hat, hwc⟩ := World.ownsMap.lookup_int h.2 (int_keyed Tryz.underlying3) Tryz.underlying94 Tryz.underlying3 (zeroI W) (keyOf_int_mk Tryz.underlying3 hk)
  rw [posM_at k hk _ l h.1 rfl hn] at hat
  injection hat with h1
  injection h1 with _ h2
  rw [hrun, h2]
theorem Hp.mapNew {o : List Nat} {w W : World} {it : List It} (h : Hp o w it W) : Hp o w (imap W.heap.size [] :: it) (W.alloc (.map #[] 0)) := by
  have h1 : Hp (ow []) W [imap W.heap.size []] (W.alloc (.map #[] 0)) := by
    refine ⟨⟨fun x hx => ?_, by simp [imap]⟩, ⟨(Below.refl _ _).alloc (Nat.zero_le _) _, fun k hk _ => Below.heap_alloc _ _ _ hk, fun b hb => .inr ?_⟩⟩
    · rw [List.mem_singleton.1 hx]; exact ⟨fun x hx => absurd hx List.not_mem_nil, World.ownsMap_made _ _ _ _⟩
    · simp [imap] at hb; omega
  exact Hp.call (a := []) h h1
theorem Hp.mapPut {o : List Nat} {w W W' : World} {it : List It} (h : Hp o w it W) (i : Nat) {b : Nat} {l : List Int} (hx : it[i]? = some (imap b l)) {a : Int} (hs : (Lit.int .i64 a).wf = true) (hown : W'.ownsMap Tryz.prog 3 (plainElem (H := Unit) Tryz.prog 3) b (l.length + 1) ((posM l).put (.int .i64 a) (.lit (.int .i64 (l.length : Int))))) (hg : W.grownBy W' (some b)) :
    Hp o w (it.set i (imap b (l ++ [a]))) W' := by
  have hP : (imap b l).P W := h.sep.ok _ (List.mem_of_getElem? hx)
  refine h.upd i hx (x' := imap b (l ++ [a])) ?_ ⟨⟨hg.os, hg.tape, hg.output, hg.size, fun k hk => absurd hk (Nat.not_lt_zero _)⟩, fun k hk ho => hg.block k hk (fun h9 => ho ?_), fun b' hb => .inl hb⟩ (by simp [imap])
  · refine ⟨fun x hx => ?_, ?_⟩
    · rcases List.mem_append.1 hx with hx | hx
      · exact hP.1 x hx
      · rw [List.mem_singleton.1 hx]; exact hs
    · show W'.ownsMap _ _ _ b (l ++ [a]).length (posM (l ++ [a]))
      rw [List.length_append, posM_snoc]
      exact hown
  · injection h9 with h9
    rw [h9]; simp [imap]
/-- a node, and where its kids lie -/
abbrev KV := Nk × (Option Addr × Nat)
abbrev kvc (x : KV) : List Value := nkcs x.1 x.2.1 x.2.2
def kvcs (P : List KV) : List Value := P.flatMap kvc
theorem kvcs_snoc (P : List KV) (x : KV) : kvcs (P ++ [x]) = kvcs P ++ kvc x := by simp [kvcs]
theorem kvcs_at {P : List KV} {i : Nat} {x : KV} (h : P[i]? = some x) (j : Nat) (hj : j < 6) : (kvcs P)[i * 6 + j]? = (kvc x)[j]? := by
  induction P generalizing i with
  | nil => simp at h
  | cons y P ih =>
    have e : kvcs (y :: P) = kvc y ++ kvcs P := rfl
    cases i with
    | zero =>
      have : y = x := by simpa using h
      subst this
      rw [e, List.getElem?_append_left (by simp; omega), Nat.zero_mul, Nat.zero_add]
    | succ i =>
      have h2 : P[i]? = some x := by simpa using h
      rw [e, List.getElem?_append_right (by simp; omega)]
      have := ih h2
      rw [← this]
      congr 1
      simp; omega
abbrev kvIt (x : KV) : It := iorder (.slice x.2.1 x.1.kids.length x.2.2) x.1.kids
theorem iord_ints {W : World} {A : Option Addr} {n c : Nat} {l : List Int} (h : W.ownsRow 0 3 1 (.slice A n c) l.length (ivals l)) : Ints W A l := by
  refine ⟨fun i s hs => ?_⟩
  have hi := (List.getElem?_eq_some_iff.1 hs).1
  obtain ⟨g, cap, hv, -⟩ := row_form h (by omega)
  injection hv with hA hn hc
  subst hA
  refine ⟨_, rfl, ?_⟩
  rw [paddr0]
  rw [hn] at h
  exact row_cell h (j := i) (by rw [List.getElem?_map, hs]; rfl)
theorem kv_nks {W : World} {A : Option Addr} {n c : Nat} {P : List KV} (h : W.ownsRow 0 41 6 (.slice A n c) P.length (kvcs P)) (hw : ∀ x ∈ P, (kvIt x).P W) : Nks W A (P.map Prod.fst) := by
  refine ⟨fun i f hf => ?_⟩
  rw [List.getElem?_map] at hf
  obtain ⟨x, hx, rfl⟩ := Option.map_eq_some_iff.1 hf
  have hi := (List.getElem?_eq_some_iff.1 hx).1
  obtain ⟨g, cap, hv, -⟩ := row_form h (by omega)
  injection hv with hA hn hc
  subst hA
  rw [hn] at h
  have hc : ∀ j, j < 6 → W.cell? ⟨g, i * 6 + j, none⟩ = (kvc x)[j]? := fun j hj => by
    have h1 := kvcs_at hx j hj
    cases hu : (kvc x)[j]? with
    | none => rw [List.getElem?_eq_none_iff] at hu; simp at hu; omega
    | some u => exact row_cell h (by rw [h1, hu])
  refine ⟨_, x.2.1, x.2.2, rfl, ?_⟩
  rw [paddr0]
  exact ⟨hc 0 (by omega), hc 1 (by omega), hc 2 (by omega), hc 3 (by omega), hc 4 (by omega), hc 5 (by omega), iord_ints (hw x (List.mem_of_getElem? hx)), row_cap (hw x (List.mem_of_getElem? hx))⟩
abbrev zPc : List Value := [.string ⟨#[]⟩, .slice none 0 0, .slice none 0 0, .slice none 0 0, .int .i64 0, .string ⟨#[]⟩, .int .i64 0, .string ⟨#[]⟩]
/-- the node that Tidy lays for a node -/
def pickN (d : Po) (S : List Int) (a : Int) : Nk := ((d.nodes[a.toNat]?).getD ⟨0, 0, ⟨#[]⟩, ⟨#[]⟩, [], 0⟩).at_pos S
/-- the pieces of Tidy's second loop -/
def mits (d : Po) (L : Lp) (S : List Int) (RA UA OA : Option Addr) (rcc ucc oc gm g1 g2 g9 : Nat) (P : List KV) (NA : Option Addr) (nc : Nat) : List It :=
  irow 41 6 (.slice NA P.length nc) P.length (kvcs P) :: irow 53 2 (.slice RA d.reveal.length rcc) d.reveal.length (bcells d.reveal) :: iblk g9 26 [.string d.name, .slice UA d.uses.length ucc, .slice RA d.reveal.length rcc, .slice NA P.length nc, .int .i64 0, .string d.scope, .int .i64 d.limit, .string d.escrow] :: imap gm S :: iorder (.slice OA S.length oc) S :: iblk g1 26 (polcs d L) :: irow 51 2 (.slice UA d.uses.length ucc) d.uses.length (bcells d.uses) :: iblk g2 26 zPc :: P.map kvIt
theorem pick_bd {d : Po} (h : PBd d) (S : List Int) (hS : S.length ≤ 512) : PBd (d.pick S) := by
  refine ⟨h.name, h.scope, h.escrow, h.ul, h.rl, ?_, h.us, h.rv, fun n hn => ?_⟩
  · show (S.map _).length ≤ _
    rw [List.length_map]; omega
  · obtain ⟨a, _, rfl⟩ := List.mem_map.1 (show n ∈ S.map _ from hn)
    cases hx : d.nodes[a.toNat]? with
    | none => exact ⟨Nat.zero_le _, Nat.zero_le _, Nat.zero_le _⟩
    | some x =>
      have := h.ns x (List.mem_of_getElem? hx)
      exact ⟨this.name, this.attr, by show ((x.kids.map _).length) ≤ _; rw [List.length_map]; exact this.kids⟩
/-- the outcome -/
def TO (w : World) (r : Po × Int) (e : Ending) (w' : World) : Prop := (∃ L', e = .returned (.tuple #[polV r.1 L', .int .i64 r.2]) ∧ PolM w' r.1 L') ∧ Below w.heap.size w w'
theorem TO.bad {w w' : World} {r : Po × Int} {E : Int} (h : r = (noPo, E)) (hb : Below w.heap.size w w') : TO w r (.returned (.tuple #[.agg #[.string ⟨#[]⟩, .slice none 0 0, .slice none 0 0, .slice none 0 0, .int .i64 0, .string ⟨#[]⟩, .int .i64 0, .string ⟨#[]⟩], .int .i64 E])) w' := by
  subst h
  exact ⟨⟨⟨none, 0, none, 0, none, 0⟩, rfl, ⟨⟨fun i x h => by simp [noPo] at h⟩, ⟨fun i x h => by simp [noPo] at h⟩, ⟨fun i x h => by simp [noPo] at h⟩⟩⟩, hb⟩
set_option maxRecDepth 20000 in
set_option maxHeartbeats 64000000 in
theorem tidy_any (d : Po) (L : Lp) (hB : PBd d) (w : World) (hP : PolM w d L) : Calls Tryz.prog 22 #[polV d L] w (TO w (tidyP d)) := by
  have hmm := @run_makeMap Tryz.prog
  obtain ⟨j0, hj0, hy0, hy1, hy2⟩ := info3 rint_info
  obtain ⟨i0, hi0x, hz0, hz1, hz2⟩ := info3 node_info
  have HV : Hid (tidyP d = if (reachP d.nodes 513 d.root []).1 = false then (noPo, 3) else if checkP (d.pick (reachP d.nodes 513 d.root []).2) ≠ 0 then (noPo, checkP (d.pick (reachP d.nodes 513 d.root []).2)) else (d.pick (reachP d.nodes 513 d.root []).2, 0)) := Lib.hid rfl
  have HR := Lib.hid (reachP_rch d.nodes 513 d.root [] ⟨⟨List.nodup_nil, fun x hx => absurd hx List.not_mem_nil⟩, Nat.zero_le _⟩).1
  have HC0 : (reachP d.nodes 513 d.root []).1 = true → ∀ b ∈ (reachP d.nodes 513 d.root []).2, ∀ n, d.nodes[b.toNat]? = some n → ∀ k ∈ n.kids, k ∈ (reachP d.nodes 513 d.root []).2 := fun h b hb n hn k hk => (reachP_clo d.nodes 513 d.root [] h).1.kids b hb List.not_mem_nil n hn k hk
  generalize tidyP d = R at *
  obtain ⟨g1, hg1⟩ : ∃ g, w.heap.size = g := ⟨_, rfl⟩
  obtain ⟨g2, hg2⟩ : ∃ g, g1 + 1 = g := ⟨_, rfl⟩
  have hk0 := ((Hp.start w).new 26 (polcs d L)).new 26 zPc
  simp only [sizeA] at hk0
  have hP0 := hP.up hk0.below0
  go_enter Tryz.func22, Tryz.ntmps22
  go_upto_region 1 with fail
  simp only [hg1, hg2] at hk0 ⊢
  generalize (w.alloc _).alloc _ = w1 at *
  obtain ⟨c0, c1, c2, c3, c4, c5, c6, c7⟩ := (hk0.blk 1 rfl).get8
  have HC := reached_any d L hB w1 hP0
  obtain ⟨vr, hvr⟩ : ∃ vr, reachP d.nodes 513 d.root [] = vr := ⟨_, rfl⟩
  rw [hvr] at HC
  have HV2 := HV.out
  have HR2 := HR.out
  rw [hvr] at HV2 HR2 HC0
  have HC9 := HC0
  clear HC0
  obtain ⟨ve, S⟩ := vr
  have HV3 := Lib.hid HV2
  have HR3 := Lib.hid HR2
  have HC := Lib.hid HC
  clear hvr HV HR HV2 HR2
  go_wp2_with fail
  refine HC.out.mono ?_
  rintro e w2 ⟨OA, oc, rfl, hr⟩
  try simp only at hr
  have hk1 : Hp [] w ([iorder (.slice OA S.length oc) S] ++ [iblk g2 26 zPc, iblk g1 26 (polcs d L)]) w2 := Hp.call (a := []) hk0 hr
  clear hk0 hr HC c0 c1 c2 c3 c4 c5 c6 c7
  cases ve with
  | false =>
    go_wp2_with (first | refine wpList_store_row rfl 26 (.tmp 2) (.tmp 23) rfl g2 zPc.toArray rfl rfl 26 zPc.toArray (hk1.blk 1 rfl) (by kernel_rfl) (by kernel_rfl) (by kernel_rfl) ?_)
    have hk2 := hk1.rowAt 1 rfl zPc
    obtain ⟨c0, c1, c2, c3, c4, c5, c6, c7⟩ := (hk2.blk 1 rfl).get8
    refine bodyPost_ret (by simp [results, Tryz.results22, go_sem, c0, c1, c2, c3, c4, c5, c6, c7]; try rfl) rfl ?_
    exact TO.bad (by rw [HV3.out]; rfl) hk2.below0
  | true =>
    have HCL := Lib.hid HC9
    clear HC9
    have hSl : S.length ≤ 512 := HR3.out.len
    have hnl := hB.nl
    have HK := Lib.hid (fun (i : Nat) (a : Int) (h : S[i]? = some a) => HR3.out.met.rg a (List.mem_of_getElem? h))
    obtain ⟨gm, hgm⟩ : ∃ g, w2.heap.size = g := ⟨_, rfl⟩
    have hk2 : Hp [] w [imap gm (S.take 0), iorder (.slice OA S.length oc) S, iblk g2 26 zPc, iblk g1 26 (polcs d L)] (w2.alloc (.map #[] 0)) := by
      have h9 := hk1.mapNew
      rw [hgm] at h9
      exact h9
    go_upto_region 5 with fail
    try simp only [hgm]
    generalize w2.alloc (.map #[] 0) = w3 at *
    clear hk1 hgm
    go_upto_region 6 with fail
    go_loopg [27] S.length (fun m s27 wx => ∃ i : Nat, i ≤ S.length ∧ m = S.length - i ∧ s27 = .int .i64 (i : Int) ∧ Hp [] w [imap gm (S.take i), iorder (.slice OA S.length oc) S, iblk g2 26 zPc, iblk g1 26 (polcs d L)] wx)
    case atStart => exact ⟨0, Nat.zero_le _, rfl, rfl, hk2⟩
    case round =>
      obtain ⟨i, hi, rfl, rfl, hMx⟩ := hrel
      clear hk2
      by_cases hil : i < S.length
      · have hii : (i : Int) < (S.length : Int) := by omega
        have hi0 : (0 : Int) ≤ (i : Int) := by omega
        obtain ⟨a, ha⟩ : ∃ a, S[i]? = some a := ⟨_, List.getElem?_eq_getElem hil⟩
        obtain ⟨a0, a1⟩ := HK.out i a ha
        have hwf := int_wf a0 (by omega)
        obtain ⟨ad, hOA, ca⟩ := (iord_ints (hMx.row 1 rfl)).at_ i a ha
        subst hOA
        have htk := take_at ha
        have hti : (S.take i).length = i := by rw [List.length_take]; omega
        have hown : wr.ownsMap Tryz.prog 3 (plainElem (H := Unit) Tryz.prog 3) gm i (posM (S.take i)) := by
          have h9 : wr.ownsMap Tryz.prog 3 (plainElem (H := Unit) Tryz.prog 3) gm (S.take i).length (posM (S.take i)) := (hMx.sep.ok _ (List.mem_cons_self ..)).2
          rw [hti] at h9
          exact h9
        have HTK := Lib.hid (And.intro htk hti)
        clear htk hti ha a0 a1
        go_upto_region 9 with (first | (at_mapUpdate; refine wpList_mapUpdate_own _ rfl _ _ _ 94 rfl 3 3 intK.law Tryz.underlying94 (plainElem (H := Unit) Tryz.prog 3) gm i (posM (S.take i)) rfl hown (by unfold maxLen; omega) _ _ (intK.kl a) rfl rfl (intK.key a hwf) (.lit (.int .i64 (i : Int))) [] (plainElem_int Tryz.underlying3 (int_wf hi0 (by omega))) ?_; intro w4 hown1 hgrow1))
        have hk5 : Hp [] w [imap gm (S.take (i + 1)), iorder (.slice (some ad) S.length oc) S, iblk g2 26 zPc, iblk g1 26 (polcs d L)] w4 := by
          rw [HTK.out.1]
          refine hMx.mapPut 0 rfl hwf ?_ hgrow1
          rw [HTK.out.2]
          exact hown1
        clear hown hown1 hgrow1 hMx ca
        go_wp2_with fail
        go_roundg (S.length - (i + 1))
        case measure => omega
        case rel => exact ⟨i + 1, hil, rfl, by first | rfl | simp, hk5⟩
      · obtain rfl : i = S.length := by omega
        have hii : ¬ (S.length : Int) < (S.length : Int) := by omega
        have hk3 : Hp [] w [imap gm S, iorder (.slice OA S.length oc) S, iblk g2 26 zPc, iblk g1 26 (polcs d L)] wr := by
          rw [List.take_of_length_le (Nat.le_refl _)] at hMx
          exact hMx
        clear hMx hil hi
        obtain ⟨c0, c1, c2, c3, c4, c5, c6, c7⟩ := (hk3.blk 3 rfl).get8
        obtain ⟨g9, hg9⟩ : ∃ g, wr.heap.size = g := ⟨_, rfl⟩
        have hk4 := hk3.new 26 (polcs d L)
        rw [hg9] at hk4
        go_upto_region 11 with fail
        try simp only [hg9]
        have hk4 : Hp [] w _ (wr.alloc (.cells #[.string d.name, .slice L.ua d.uses.length L.uc, .slice L.ra d.reveal.length L.rc, .slice L.na d.nodes.length L.nc, .int .i64 d.root, .string d.scope, .int .i64 d.limit, .string d.escrow] 26)) := hk4
        clear hk3 c0 c1 c2 c3 c4 c5 c6 c7
        generalize wr.alloc _ = w5 at *
        clear hg9
        have hkd := hk4.drew
        have HN1 := Lib.hid (clone_use L.ua L.uc d.uses w5.drew (hP.up hkd.below0).us hB.ul)
        have HN2 := Lib.hid (fun W (h : Below w.heap.size w W) => clone_ref L.ra L.rc d.reveal W (hP.up h).rv hB.rl)
        have e1 := (hkd.blk 4 rfl).cell 1
        have e2 := (hkd.blk 4 rfl).cell 2
        simp only [List.getElem?_cons_zero, List.getElem?_cons_succ] at e1 e2
        go_upto_region 11 with fail
        refine wp_region_held_drew (S := (fun w' => w'.cell? ⟨g1, 1, none⟩ = some (.slice L.ua d.uses.length L.uc) ∧ w'.cell? ⟨g1, 2, none⟩ = some (.slice L.ra d.reveal.length L.rc))) (by kernel_rfl) ?_ (fun hHeld => ?_)
        · exact ⟨e1, e2⟩
        refine wpAnyH_take (i := 0) (v := ?_) rfl (by kernel_rfl) (by kernel_rfl) (by kernel_rfl) (fun _ _ _ h => h) (Or.inl ⟨by rfl, ?_⟩) (by assumption) ?_
        rotate_left
        · (intro w hSw; (try dsimp only at hSw); (try obtain ⟨hSw1, hSw2⟩ := hSw); go_simp; (try with_reducible rfl))
        try simp only [Act.put, List.getElem_toArray, List.getElem_cons_zero, List.setIfInBounds_toArray, List.set_cons_zero, List.set_cons_succ]
        refine wpAnyH_take (i := 1) (v := ?_) rfl (by kernel_rfl) (by kernel_rfl) (by kernel_rfl) (fun _ _ _ h => h) (Or.inl ⟨by rfl, ?_⟩) (by assumption) ?_
        rotate_left
        · (intro w hSw; (try dsimp only at hSw); (try obtain ⟨hSw1, hSw2⟩ := hSw); go_simp; (try with_reducible rfl))
        try simp only [Act.put, List.getElem_toArray, List.getElem_cons_zero, List.getElem_cons_succ, List.setIfInBounds_toArray, List.set_cons_zero, List.set_cons_succ]
        refine wpAnyH_take (i := 3) (v := ?_) rfl (by kernel_rfl) (by kernel_rfl) (by kernel_rfl) (fun _ _ _ h => h) (Or.inl ⟨by rfl, ?_⟩) (by assumption) ?_
        rotate_left
        · (intro w hSw; (try dsimp only at hSw); (try obtain ⟨hSw1, hSw2⟩ := hSw); go_simp; (try with_reducible rfl))
        try simp only [Act.put, List.getElem_toArray, List.getElem_cons_zero, List.getElem_cons_succ, List.setIfInBounds_toArray, List.set_cons_zero, List.set_cons_succ]
        refine wpAnyH_take (i := 4) (v := ?_) rfl (by kernel_rfl) (by kernel_rfl) (by kernel_rfl) (fun _ _ _ h => h) (Or.inl ⟨by rfl, ?_⟩) (by assumption) ?_
        rotate_left
        · (intro w hSw; (try dsimp only at hSw); (try obtain ⟨hSw1, hSw2⟩ := hSw); go_simp; (try with_reducible rfl))
        try simp only [Act.put, List.getElem_toArray, List.getElem_cons_zero, List.getElem_cons_succ, List.setIfInBounds_toArray, List.set_cons_zero, List.set_cons_succ]
        refine wpAnyH_ready (rs := [2]) (by kernel_rfl) (by simp) ?_
        refine AllReadyH.cons rfl (fun K hK => ?_) ?_
        · go_simp
          refine HN1.out.mono ?_
          rintro e w6 ⟨UA, ucc, rfl, hr6⟩
          have hk6 := Hp.call (a := []) hkd hr6
          clear hr6 e1 e2
          have e1 := (hk6.blk 5 rfl).cell 1
          have e2 := (hk6.blk 5 rfl).cell 2
          simp only [List.getElem?_cons_zero, List.getElem?_cons_succ] at e1 e2
          refine hK.out _ _ ?_ (fun hHeld => ?_)
          · exact ⟨e1, e2⟩
          clear hK K
          refine wpAnyH_take (i := 6) (v := ?_) rfl (by kernel_rfl) (by kernel_rfl) (by kernel_rfl) (fun _ _ _ h => h) (Or.inl ⟨by rfl, ?_⟩) (by assumption) ?_
          rotate_left
          · (intro w hSw; (try dsimp only at hSw); (try obtain ⟨hSw1, hSw2⟩ := hSw); go_simp; (try with_reducible rfl))
          try simp only [Act.put, List.getElem_toArray, List.getElem_cons_zero, List.getElem_cons_succ, List.setIfInBounds_toArray, List.set_cons_zero, List.set_cons_succ]
          refine wpAnyH_ready (rs := [5]) (by kernel_rfl) (by simp) ?_
          refine AllReadyH.cons rfl (fun K hK => ?_) ?_
          · go_simp
            refine (HN2.out _ hk6.below0).mono ?_
            rintro e w7 ⟨RA, rcc, rfl, hr7⟩
            have hk7 := Hp.call (a := []) hk6 hr7
            clear hr7 e1 e2
            have e1 := (hk7.blk 6 rfl).cell 1
            have e2 := (hk7.blk 6 rfl).cell 2
            simp only [List.getElem?_cons_zero, List.getElem?_cons_succ] at e1 e2
            have f1 := (hk7.blk 2 rfl).frozen 1
            have q1 := (hk7.blk 2 rfl).cell 1
            simp only [List.getElem?_cons_zero, List.getElem?_cons_succ] at q1
            refine hK.out _ _ ?_ (fun hHeld => ?_)
            · exact ⟨e1, e2⟩
            clear hK K
            refine wpAnyH_ready (rs := [7]) (by kernel_rfl) (by simp) ?_
            refine AllReadyH.cons rfl (fun K hK => ?_) ?_
            · go_simp
              have hk8 := hk7.set 2 rfl 1 (.slice UA d.uses.length ucc)
              clear e1 e2 f1 q1
              have e1 := (hk8.blk 6 rfl).cell 1
              have e2 := (hk8.blk 6 rfl).cell 2
              simp only [List.getElem?_cons_zero, List.getElem?_cons_succ] at e1 e2
              have f1 := (hk8.blk 2 rfl).frozen 2
              have q1 := (hk8.blk 2 rfl).cell 2
              simp only [List.set_cons_zero, List.set_cons_succ, List.getElem?_cons_zero, List.getElem?_cons_succ] at q1
              refine hK.out _ _ ?_ (fun hHeld => ?_)
              · exact ⟨e1, e2⟩
              clear hK K
              refine wpAnyH_take (i := 8) (v := ?_) rfl (by kernel_rfl) (by kernel_rfl) (by kernel_rfl) (fun _ _ _ h => h) (Or.inl ⟨by rfl, ?_⟩) (by assumption) ?_
              rotate_left
              · (intro w hSw; (try dsimp only at hSw); (try obtain ⟨hSw1, hSw2⟩ := hSw); go_simp; (try with_reducible rfl))
              try simp only [Act.put, List.getElem_toArray, List.getElem_cons_zero, List.getElem_cons_succ, List.setIfInBounds_toArray, List.set_cons_zero, List.set_cons_succ]
              refine wpAnyH_ready (rs := [9]) (by kernel_rfl) (by simp) ?_
              refine AllReadyH.cons rfl (fun K hK => ?_) ?_
              · go_simp
                have hk9 := hk8.set 2 rfl 2 (.slice RA d.reveal.length rcc)
                clear e1 e2 f1 q1
                have e1 := (hk9.blk 6 rfl).cell 1
                have e2 := (hk9.blk 6 rfl).cell 2
                simp only [List.getElem?_cons_zero, List.getElem?_cons_succ] at e1 e2
                refine hK.out _ _ ?_ (fun hHeld => ?_)
                · exact ⟨e1, e2⟩
                clear hK K
                refine wpAnyH_done (by kernel_rfl) ?_ _
                clear e1 e2 hk4 hkd hk6 hk7 hk8 HN1 HN2
                have hkA : Hp [] w [irow 53 2 (.slice RA d.reveal.length rcc) d.reveal.length (bcells d.reveal), irow 51 2 (.slice UA d.uses.length ucc) d.uses.length (bcells d.uses), iblk g9 26 [.string d.name, .slice UA d.uses.length ucc, .slice RA d.reveal.length rcc, .slice L.na d.nodes.length L.nc, .int .i64 d.root, .string d.scope, .int .i64 d.limit, .string d.escrow], imap gm S, iorder (.slice OA S.length oc) S, iblk g2 26 zPc, iblk g1 26 (polcs d L)] _ := hk9
                clear hk9
                generalize World.setCell (World.setCell _ _ _) _ _ = w9 at *
                obtain ⟨c0, c1, c2, c3, c4, c5, c6, c7⟩ := (hkA.blk 2 rfl).get8
                have f3 := (hkA.blk 2 rfl).frozen 3
                have f4 := (hkA.blk 2 rfl).frozen 4
                have hkB := (hkA.set 2 rfl 3 (.slice none 0 0)).set 2 rfl 4 (.int .i64 0)
                go_upto_region 13 with fail
                have hkB : Hp [] w [irow 53 2 (.slice RA d.reveal.length rcc) d.reveal.length (bcells d.reveal), irow 51 2 (.slice UA d.uses.length ucc) d.uses.length (bcells d.uses), iblk g9 26 [.string d.name, .slice UA d.uses.length ucc, .slice RA d.reveal.length rcc, .slice none 0 0, .int .i64 0, .string d.scope, .int .i64 d.limit, .string d.escrow], imap gm S, iorder (.slice OA S.length oc) S, iblk g2 26 zPc, iblk g1 26 (polcs d L)] ((w9.setCell ⟨g9, 3, none⟩ (.slice none 0 0)).setCell ⟨g9, 4, none⟩ (.int .i64 0)) := hkB
                generalize (w9.setCell ⟨g9, 3, none⟩ (.slice none 0 0)).setCell ⟨g9, 4, none⟩ (.int .i64 0) = w10 at *
                clear hkA c0 c1 c2 c3 c4 c5 c6 c7 f3 f4
                go_upto_region 14 with fail
                go_loopg [49] S.length (fun m s49 wx => ∃ (i : Nat) (P : List KV) (NA : Option Addr) (nc : Nat), i ≤ S.length ∧ m = S.length - i ∧ s49 = .int .i64 (i : Int) ∧ Hp [] w (mits d L S RA UA OA rcc ucc oc gm g1 g2 g9 P NA nc) wx ∧ Hid (P.map Prod.fst = (S.take i).map (pickN d S)))
                case atStart =>
                  refine ⟨0, [], none, 0, Nat.zero_le _, rfl, rfl, ?_, Lib.hid rfl⟩
                  refine (hkB.nilrow 41 6).perm ?_
                  refine List.Perm.cons _ (List.Perm.cons _ ?_)
                  refine (List.perm_append_comm (l₁ := [_]) (l₂ := [_, _, _, _, _])).trans ?_
                  refine List.Perm.cons _ (List.Perm.cons _ (List.Perm.cons _ ?_))
                  exact List.perm_append_comm (l₁ := [_]) (l₂ := [_, _])
                case round =>
                  obtain ⟨i, P, NA, nc, hi, rfl, rfl, hMx, HE⟩ := hrel
                  clear hkB
                  have hPb : P.length ≤ 512 := by
                    have := congrArg List.length HE.out
                    rw [List.length_map, List.length_map, List.length_take] at this; omega
                  by_cases hil : i < S.length
                  · have hii : (i : Int) < (S.length : Int) := by omega
                    have hi0 : (0 : Int) ≤ (i : Int) := by omega
                    obtain ⟨a0, ha⟩ : ∃ a, S[i]? = some a := ⟨_, List.getElem?_eq_getElem hil⟩
                    obtain ⟨a1, a2⟩ := HK.out i a0 ha
                    obtain ⟨a, rfl⟩ : ∃ k : Nat, a0 = (k : Int) := ⟨a0.toNat, by omega⟩
                    have hal : a < d.nodes.length := by omega
                    obtain ⟨n, hn⟩ : ∃ n, d.nodes[a]? = some n := ⟨_, List.getElem?_eq_getElem hal⟩
                    have hkl := (hB.ns n (List.mem_of_getElem? hn)).kids
                    have HKN : Hid (∀ k ∈ n.kids, (Lit.int .i64 k).wf = true) := Lib.hid fun k hk => by
                      have h1 := HCL.out (by trivial) (a : Int) (List.mem_of_getElem? ha) n (by rw [Int.toNat_natCast]; exact hn) k hk
                      have h2 := HR3.out.met.rg k h1
                      exact int_wf h2.1 (by omega)
                    obtain ⟨ads, hOA, ca⟩ := (iord_ints (hMx.row 4 rfl)).at_ i _ ha
                    subst hOA
                    have HPN : Hid (P.map Prod.fst ++ [n.at_pos S] = (S.take (i + 1)).map (pickN d S)) := Lib.hid (by
                      rw [HE.out, take_at ha, List.map_append]
                      congr 1
                      show [n.at_pos S] = [pickN d S (a : Int)]
                      unfold pickN
                      rw [Int.toNat_natCast, hn]; rfl)
                    obtain ⟨ad, KA, kc, hna, nx0⟩ := hP.ns.at_ a n hn
                    have HNX := Lib.hid nx0
                    have HNA := Lib.hid hna
                    clear hna nx0 ha HE hn hal
                    have c3 : wr.cell? ⟨g1, 3, none⟩ = some (.slice L.na d.nodes.length L.nc) := (hMx.blk 5 rfl).cell 3
                    rw [HNA.out] at c3
                    obtain ⟨x0, x1, x2, x3, x4, x5, -⟩ := HNX.out.up hMx.below0
                    obtain ⟨g12, hg12⟩ : ∃ g, wr.heap.size = g := ⟨_, rfl⟩
                    have hk5 := hMx.new 41 (nkcs n KA kc)
                    rw [hg12] at hk5
                    have hai : (a : Int) < (d.nodes.length : Int) := by omega
                    go_upto_region 17 with fail
                    try simp only [hg12]
                    have hk5 : Hp [] w _ (wr.alloc (.cells #[.int .i64 n.kind, .int .i64 n.num, .string n.name, .string n.attr, .slice KA n.kids.length kc, .int .i64 n.at_] 41)) := hk5
                    clear hMx c3 x0 x1 x2 x3 x4 x5 ca
                    generalize wr.alloc _ = w11 at *
                    clear hg12
                    obtain ⟨y0, y1, y2, y3, y4, y5⟩ := (hk5.blk 0 rfl).get6
                    have f4 := (hk5.blk 0 rfl).frozen 4
                    have hk6 := (hk5.set 0 rfl 4 (.slice none 0 0)).nilrow 3 1
                    go_upto_region 18 with fail
                    have hk6 : Hp [] w (iorder (.slice none 0 0) [] :: iblk g12 41 [.int .i64 n.kind, .int .i64 n.num, .string n.name, .string n.attr, .slice none 0 0, .int .i64 n.at_] :: mits d L S RA UA (some ads) rcc ucc oc gm g1 g2 g9 P NA nc) (w11.setCell ⟨g12, 4, none⟩ (.slice none 0 0)) := hk6
                    generalize w11.setCell ⟨g12, 4, none⟩ (.slice none 0 0) = w12 at *
                    clear hk5 y0 y1 y2 y3 y4 y5 f4
                    have c3 : w12.cell? ⟨g1, 3, none⟩ = some (.slice L.na d.nodes.length L.nc) := (hk6.blk 7 rfl).cell 3
                    rw [HNA.out] at c3
                    have x4 := (HNX.out.up hk6.below0).kids
                    go_upto_region 19 with fail
                    clear c3 x4
                    go_loopg [66] n.kids.length (fun m s66 wx => ∃ (j : Nat) (T : List Int) (VA : Option Addr) (vc : Nat), j ≤ n.kids.length ∧ m = n.kids.length - j ∧ s66 = .int .i64 (j : Int) ∧ Hp [] w (iorder (.slice VA T.length vc) T :: iblk g12 41 [.int .i64 n.kind, .int .i64 n.num, .string n.name, .string n.attr, .slice VA T.length vc, .int .i64 n.at_] :: mits d L S RA UA (some ads) rcc ucc oc gm g1 g2 g9 P NA nc) wx ∧ Hid (T = (n.kids.take j).map (posD S)))
                    case atStart => exact ⟨0, [], none, 0, Nat.zero_le _, rfl, rfl, hk6, Lib.hid rfl⟩
                    case round =>
                      obtain ⟨j, T, VA, vc, hj, rfl, rfl, hMy, HT⟩ := hrel
                      clear hk6
                      have hTl : T.length ≤ 1000000 := by rw [HT.out, List.length_map, List.length_take]; omega
                      by_cases hjl : j < n.kids.length
                      · have hjj : (j : Int) < (n.kids.length : Int) := by omega
                        have hj0' : (0 : Int) ≤ (j : Int) := by omega
                        obtain ⟨k, hk⟩ : ∃ k, n.kids[j]? = some k := ⟨_, List.getElem?_eq_getElem hjl⟩
                        obtain ⟨ka, hKA, hkc⟩ := (HNX.out.ints.up hMy.below0).at_ j k hk
                        subst hKA
                        have hlk := imap_look (hMy.sep.ok (imap gm S) (List.mem_of_getElem? (i := 5) rfl)) HR3.out.met.nd k (HKN.out k (List.mem_of_getElem? hk))
                        have HT2 : Hid (T ++ [posD S k] = (n.kids.take (j + 1)).map (posD S)) := Lib.hid (by rw [HT.out, take_at hk, List.map_append]; rfl)
                        clear hk HT
                        generalize posD S k = v at *
                        obtain ⟨y0, y1, y2, y3, y4, y5⟩ := (hMy.blk 1 rfl).get6
                        go_upto_region 22 with (first | (at_builtin; refine wpList_append_own2 rfl _ _ 39 rfl 0 3 j0 _ 1 8 Tryz.underlying39 hj0 hy0 hy1 hy2 rfl (by decide) _ T.length (ivals T) rfl ((hMy.alloc (.cells #[.int .i64 v] 3)).row 0 rfl) ⟨wr.heap.size, 0, none⟩ 1 1 [.int .i64 v] rfl rfl (new1q _ _ _) (by intro u hu; simp at hu; rw [hu]; rfl) (by decide) (by unfold maxLen; omega) (by omega) (Nat.zero_le _) ?_; intro v' w14 hown hgrow hat; obtain ⟨A2, ca2, rfl⟩ := row_forms hown; have hk7 := (hMy.alloc (.cells #[.int .i64 v] 3)).grown 0 rfl hown hgrow hat; have y4' := (hk7.blk 1 rfl).cell 4; have f4 := (hk7.blk 1 rfl).frozen 4; clear hown hgrow hat))
                        have hk8 : Hp [] w (iorder (.slice A2 (T ++ [v]).length ca2) (T ++ [v]) :: iblk g12 41 [.int .i64 n.kind, .int .i64 n.num, .string n.name, .string n.attr, .slice A2 (T ++ [v]).length ca2, .int .i64 n.at_] :: mits d L S RA UA (some ads) rcc ucc oc gm g1 g2 g9 P NA nc) (w14.setCell ⟨g12, 4, none⟩ (.slice A2 (T.length + 1) ca2)) := by
                          have h9 := hk7.set 1 rfl 4 (.slice A2 (T.length + 1) ca2)
                          have e2 : (T ++ [v]).length = T.length + 1 := by simp
                          have e3 : ivals T ++ [.int .i64 v] = ivals (T ++ [v]) := by simp [ivals]
                          unfold iorder
                          rw [e2, ← e3]
                          exact h9
                        clear hk7 hMy y4' f4 y0 y1 y2 y3 y4 y5 hlk hkc
                        generalize w14.setCell ⟨g12, 4, none⟩ (.slice A2 (T.length + 1) ca2) = w15 at *
                        go_wp2_with fail
                        go_roundg (n.kids.length - (j + 1))
                        case measure => omega
                        case rel => exact ⟨j + 1, T ++ [v], A2, ca2, hjl, rfl, by first | rfl | simp, hk8, HT2⟩
                      · have hjj : ¬ (j : Int) < (n.kids.length : Int) := by omega
                        have hTk : T = (n.at_pos S).kids := by rw [HT.out, List.take_of_length_le (by omega)]; rfl
                        subst hTk
                        clear HT hj hjl
                        obtain ⟨y0, y1, y2, y3, y4, y5⟩ := (hMy.blk 1 rfl).get6
                        have c3 : wr.cell? ⟨g9, 3, none⟩ = some (.slice NA P.length nc) := (hMy.blk 4 rfl).cell 3
                        go_upto_region 24 with (first | (at_builtin; refine wpList_append_own2 rfl _ _ 24 rfl 0 41 i0 _ 6 80 Tryz.underlying24 hi0x hz0 hz1 hz2 rfl (by decide) _ P.length (kvcs P) rfl ((hMy.alloc _).row 2 rfl) ⟨wr.heap.size, 0, none⟩ 1 1 (kvc (n.at_pos S, (VA, vc))) rfl rfl (new6p _ _ _ _ _ _ _ _) (by intro u hu; simp at hu; rcases hu with rfl | rfl | rfl | rfl | rfl | rfl <;> rfl) (by decide) (by unfold maxLen; omega) (by omega) (Nat.zero_le _) ?_; intro v' w14 hown hgrow hat; obtain ⟨A2, ca2, rfl⟩ := row_forms hown; have hk7 := (hMy.alloc (.cells (kvc (n.at_pos S, (VA, vc))).toArray 41)).grown 2 rfl hown hgrow hat; have c3' := (hk7.blk 4 rfl).cell 3; have f3 := (hk7.blk 4 rfl).frozen 3; clear hown hgrow hat))
                        have hk8 : Hp [] w (mits d L S RA UA (some ads) rcc ucc oc gm g1 g2 g9 (P ++ [(n.at_pos S, (VA, vc))]) A2 ca2) (w14.setCell ⟨g9, 3, none⟩ (.slice A2 (P.length + 1) ca2)) := by
                          have h9 := hk7.set 4 rfl 3 (.slice A2 (P.length + 1) ca2)
                          have e2 : (P ++ [((n.at_pos S, (VA, vc)) : KV)]).length = P.length + 1 := by simp
                          unfold mits
                          rw [e2, kvcs_snoc, List.map_append]
                          refine Hp.tail (x := iblk g12 41 [.int .i64 n.kind, .int .i64 n.num, .string n.name, .string n.attr, .slice VA (n.at_pos S).kids.length vc, .int .i64 n.at_]) (h9.perm ?_)
                          refine (List.Perm.swap _ _ _).trans (List.Perm.cons _ ?_)
                          exact (List.perm_append_singleton _ (irow 41 6 (.slice A2 (P.length + 1) ca2) (P.length + 1) (kvcs P ++ kvc (n.at_pos S, (VA, vc))) :: irow 53 2 (.slice RA d.reveal.length rcc) d.reveal.length (bcells d.reveal) :: iblk g9 26 [.string d.name, .slice UA d.uses.length ucc, .slice RA d.reveal.length rcc, .slice A2 (P.length + 1) ca2, .int .i64 0, .string d.scope, .int .i64 d.limit, .string d.escrow] :: imap gm S :: iorder (.slice (some ads) S.length oc) S :: iblk g1 26 (polcs d L) :: irow 51 2 (.slice UA d.uses.length ucc) d.uses.length (bcells d.uses) :: iblk g2 26 zPc :: P.map kvIt)).symm
                        clear hk7 hMy c3 c3' f3 y0 y1 y2 y3 y4 y5
                        generalize w14.setCell ⟨g9, 3, none⟩ (.slice A2 (P.length + 1) ca2) = w15 at *
                        have HPN2 : Hid ((P ++ [((n.at_pos S, (VA, vc)) : KV)]).map Prod.fst = (S.take (i + 1)).map (pickN d S)) := Lib.hid (by rw [List.map_append]; exact HPN.out)
                        clear HPN
                        go_wp2_with fail
                        go_roundg (S.length - (i + 1))
                        case measure => omega
                        case rel => exact ⟨i + 1, _, A2, ca2, hil, rfl, by first | rfl | simp, hk8, HPN2⟩
                  · obtain rfl : i = S.length := by omega
                    have hii : ¬ (S.length : Int) < (S.length : Int) := by omega
                    have hQ : (d.pick S).nodes = P.map Prod.fst := by
                      rw [HE.out, List.take_of_length_le (Nat.le_refl _)]; rfl
                    have hQl : (d.pick S).nodes.length = P.length := by rw [hQ, List.length_map]
                    have hPM : PolM wr (d.pick S) ⟨UA, ucc, RA, rcc, NA, nc⟩ := ⟨bprs_row (hMx.row 6 rfl), bprs_row (hMx.row 1 rfl), by
                      rw [hQ]
                      exact kv_nks (hMx.row 0 rfl) (fun x hx => hMx.sep.ok _ (by unfold mits; simp only [List.mem_cons]; right; right; right; right; right; right; right; right; exact List.mem_map.2 ⟨x, hx, rfl⟩))⟩
                    have hBQ := pick_bd hB S hSl
                    have HC : Hid (Calls Tryz.prog 19 #[.agg #[.string d.name, .slice UA d.uses.length ucc, .slice RA d.reveal.length rcc, .slice NA P.length nc, .int .i64 0, .string d.scope, .int .i64 d.limit, .string d.escrow]] wr fun e w' => e = .returned (.int .i64 (checkP (d.pick S))) ∧ Below wr.heap.size wr w') := Lib.hid (by
                      have h9 := pcheck_any (d.pick S) ⟨UA, ucc, RA, rcc, NA, nc⟩ hBQ wr hPM
                      unfold polV at h9
                      rw [hQl] at h9
                      exact h9)
                    have HQL := Lib.hid hQl
                    have HQ := Lib.hid hQ
                    obtain ⟨c0, c1, c2, c3, c4, c5, c6, c7⟩ := (hMx.blk 2 rfl).get8
                    clear hil hi hQl hQ
                    by_cases hE : checkP (d.pick S) = 0
                    · have HRR : Hid (R = (d.pick S, 0)) := Lib.hid (by rw [HV3.out, if_neg (by simp), if_neg (by rw [hE]; simp)])
                      rw [hE] at HC
                      clear HV3 hE HE
                      go_wp2_with fail
                      refine HC.out.mono ?_
                      rintro e w16 ⟨rfl, hb16⟩
                      have hk9 := hMx.next hb16
                      have hPM9 := hPM.up hb16
                      clear HC hMx hPM hb16 c0 c1 c2 c3 c4 c5 c6 c7
                      obtain ⟨c0, c1, c2, c3, c4, c5, c6, c7⟩ := (hk9.blk 2 rfl).get8
                      go_wp2_with (first | refine wpList_store_row rfl 26 (.tmp 2) (.tmp 92) rfl g2 ([.string d.name, .slice UA d.uses.length ucc, .slice RA d.reveal.length rcc, .slice NA P.length nc, .int .i64 0, .string d.scope, .int .i64 d.limit, .string d.escrow] : List Value).toArray rfl rfl 26 zPc.toArray (hk9.blk 7 rfl) (by kernel_rfl) (by kernel_rfl) (by kernel_rfl) ?_)
                      have hk10 := hk9.rowAt 7 rfl [.string d.name, .slice UA d.uses.length ucc, .slice RA d.reveal.length rcc, .slice NA P.length nc, .int .i64 0, .string d.scope, .int .i64 d.limit, .string d.escrow]
                      have hPM10 : PolM (w16.setRow g2 ([.string d.name, .slice UA d.uses.length ucc, .slice RA d.reveal.length rcc, .slice NA P.length nc, .int .i64 0, .string d.scope, .int .i64 d.limit, .string d.escrow] : List Value).toArray) (d.pick S) ⟨UA, ucc, RA, rcc, NA, nc⟩ := ⟨bprs_row (hk10.row 6 rfl), bprs_row (hk10.row 1 rfl), by
                        rw [HQ.out]
                        exact kv_nks (hk10.row 0 rfl) (fun x hx => hk10.sep.ok _ (by
                          show kvIt x ∈ _ :: _ :: _ :: _ :: _ :: _ :: _ :: _ :: P.map kvIt
                          simp only [List.mem_cons]; right; right; right; right; right; right; right; right; exact List.mem_map.2 ⟨x, hx, rfl⟩))⟩
                      obtain ⟨c0, c1, c2, c3, c4, c5, c6, c7⟩ := (hk10.blk 7 rfl).get8
                      refine bodyPost_ret (by simp [results, Tryz.results22, go_sem, c0, c1, c2, c3, c4, c5, c6, c7]; try rfl) rfl ?_
                      rw [HRR.out]
                      exact ⟨⟨⟨UA, ucc, RA, rcc, NA, nc⟩, by unfold polV; rw [HQL.out]; rfl, hPM10⟩, hk10.below0⟩
                    · have hne : (checkP (d.pick S) != 0) = true := by rw [bne_iff_ne]; exact hE
                      have HRR : Hid (R = (noPo, checkP (d.pick S))) := Lib.hid (by rw [HV3.out, if_neg (by simp), if_pos hE])
                      clear HV3 hE HE
                      generalize checkP (d.pick S) = E at *
                      go_wp2_with fail
                      refine HC.out.mono ?_
                      rintro e w16 ⟨rfl, hb16⟩
                      have hk9 := hMx.next hb16
                      clear HC hMx hPM hb16 c0 c1 c2 c3 c4 c5 c6 c7
                      go_wp2_with (first | refine wpList_store_row rfl 26 (.tmp 2) (.tmp 90) rfl g2 zPc.toArray rfl rfl 26 zPc.toArray (hk9.blk 7 rfl) (by kernel_rfl) (by kernel_rfl) (by kernel_rfl) ?_)
                      have hk10 := hk9.rowAt 7 rfl zPc
                      obtain ⟨c0, c1, c2, c3, c4, c5, c6, c7⟩ := (hk10.blk 7 rfl).get8
                      refine bodyPost_ret (by simp [results, Tryz.results22, go_sem, c0, c1, c2, c3, c4, c5, c6, c7]; try rfl) rfl ?_
                      exact TO.bad HRR.out hk10.below0
              exact AllReadyH.nil
            exact AllReadyH.nil
          exact AllReadyH.nil
        exact AllReadyH.nil
end Go.Proofs.YtpfiggokicedbaaGreatDoor
