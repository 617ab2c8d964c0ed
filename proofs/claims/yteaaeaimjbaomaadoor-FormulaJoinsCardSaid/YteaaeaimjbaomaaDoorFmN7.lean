/-
  formula.Minimal: the closure search.
-/
import Derived.Test.YteaaeaimjbaomaaDoorFmN
import Derived.Test.YteaaeaimjbaomaaDoorFmS
import Derived.Test.YteaaeaimjbaomaaDoorRgo
import Derived.Test.YteaaeaimjbaomaaDoorAppF
import Derived.Deep.RegionHeld3
namespace Go.Proofs.YteaaeaimjbaomaaDoor
open Go.RowKit
set_option linter.unusedVariables false

/-- []int is cloned, out of a row of the call's own -/
theorem clone_row {W : World} {v : Value} {l : List Int} (h : W.ownsRow 0 3 1 v l.length (ivals l)) (hl : l.length ≤ 1000000) :
    Calls Tryd.prog 38 #[v] W fun e w' => ∃ v', e = .returned v' ∧ Hp [] W [irow 3 1 v' l.length (ivals l)] w' := by
  obtain ⟨A, c, rfl⟩ := row_forms h
  refine clone_kids (B := W.heap.size) (w := W) ⟨fun hne => ?_⟩ (Below.refl _ _) (Nat.le_refl _) hl
  obtain ⟨g, cap, hv, -⟩ := row_form h (List.length_pos_iff.2 hne)
  injection hv with hA _ hc
  subst hA
  exact ⟨_, rfl, (h.lt g rfl).2, fun j u hu => h.cells (g := g) rfl j u hu⟩
theorem run_full {P : Program} (t e : TypeId) (ht : P.underlying t = some (.slice e)) (hi : (P.info? e).isSome = true) (A : Option Addr) (n k : Nat) (h : n ≤ k) (w : World) :
    (Instr.slice t (.slice A n k) none (some (.int .i64 (n : Int))) (some (.int .i64 (n : Int)))).run P w = .ok (.slice A n n) w := by
  obtain ⟨i, hi⟩ := Option.isSome_iff_exists.1 hi
  have h1 : (n : Int) ≤ (k : Int) := by omega
  have h2 : (0 : Int) ≤ (n : Int) := by omega
  have ha : A.map (·.add 0) = A := by cases A <;> simp [Addr.add]
  unfold Instr.slice Instr.sliceBounds
  simp [Sem.run_bind, run_underlying ht, sizeOf, typeInfo, hi, h1, h2, run_sliceBound]
  intro _
  exact ha
/-- what a round is handed -/
def encI (x : List Int) (v : Value) (o : List Nat) (W : World) : Prop := W.ownsRow 0 3 1 v x.length (ivals x) ∧ (∀ b, v.ownBlock = some b → b ∈ o) ∧ x.length ≤ 256
/-- the iterator's pieces hold, the caller's word stands -/
structure Sst (J : List Nat → List (List Int) → World → Prop) (it : List It) (pre : List (List Int)) (W : World) : Prop where
  sep : Sep W it
  j : J (ow it) pre W
theorem Sst.hp {J : List Nat → List (List Int) → World → Prop} {it it' : List It} {pre : List (List Int)} {W W' : World} (h : Sst J it pre W) (hJ : Abd J) (k : Hp (ow it) W it' W') : Sst J it' pre W' :=
  ⟨k.sep, hJ _ _ _ _ _ h.j k.stp (fun b hb => k.sep.lt b hb)⟩
structure SEnv (E : En) (l N : Nat) (J Jx : List Nat → List (List Int) → World → Prop) : Prop where
  E : FEnv E
  abJ : Abd J
  abJx : Abd Jx
  hY : ∀ o pre x v W1, J o pre W1 → pre.length < N → encI x v o W1 → YieldAt Fence.wide 0 Tryd.prog l #[v] W1 fun e W' => Kpt o W1 W' ∧ ((e = .returned (.bool true) ∧ J o (pre ++ [x]) W') ∨ (e = .returned (.bool false) ∧ Jx o (pre ++ [x]) W'))
/-- the pieces of a search -/
abbrev sits (E : En) (gh gcv gch gm gp gy gs l : Nat) (c : List Bool) (R : List It) : List It :=
  cits E gh gcv gch c ++ (iblk gm 26 [.func (Fn.func 55) #[] #[.pointer (some ⟨gcv, 0, none⟩), .pointer (some ⟨gh, 0, none⟩)]] ::
    iblk gp 94 [.func (Fn.func 56) #[] #[.pointer (some ⟨gcv, 0, none⟩), .pointer (some ⟨E.gn, 0, none⟩), .pointer (some ⟨gh, 0, none⟩)]] ::
    iblk gy 98 [.func (.yield l) #[] #[]] ::
    iblk gs 101 [.func (Fn.func 58) #[] #[.pointer (some ⟨gh, 0, none⟩), .pointer (some ⟨gcv, 0, none⟩), .pointer (some ⟨gm, 0, none⟩), .pointer (some ⟨gy, 0, none⟩), .pointer (some ⟨E.gn, 0, none⟩), .pointer (some ⟨gp, 0, none⟩), .pointer (some ⟨gs, 0, none⟩)]] :: R)
theorem sits_in (E : En) (gh gcv gch gm gp gy gs l : Nat) (c : List Bool) (x : It) (R : List It) : (x :: sits E gh gcv gch gm gp gy gs l c R).Perm (sits E gh gcv gch gm gp gy gs l c (x :: R)) := by
  have e : ∀ R, sits E gh gcv gch gm gp gy gs l c R = sits E gh gcv gch gm gp gy gs l c [] ++ R := fun R => by simp [sits]
  rw [e R, e (x :: R)]
  exact List.perm_middle.symm
/-- what a search leaves behind -/
structure SPost (J Jx : List Nat → List (List Int) → World → Prop) (it : List It) (pre xs : List (List Int)) (e : Ending) (W' : World) : Prop where
  sep : Sep W' it
  ret : ∃ b, e = .returned (.bool b) ∧ (b = true → Sst J it (pre ++ xs) W') ∧ (b = false → ∃ q, q <+: xs ∧ Sst Jx it (pre ++ q) W')
theorem hpo {o o' : List Nat} {w W : World} {it : List It} (ho : o' = o) (h : Hp o w it W) : Hp o' w it W := ho ▸ h
theorem s_in {E : En} {gh gcv gch gm gp gy gs l : Nat} {c c' : List Bool} {x : Int} {v : Value} {R : List It} {o : List Nat} {w W : World} (h : Hp o w (irow 3 1 v ((idxM c).length + 1) (ivals (idxM c) ++ [.int .i64 x]) :: sits E gh gcv gch gm gp gy gs l c' R) W) (hx : idxM c' = idxM c ++ [x]) :
    Hp o w (sits E gh gcv gch gm gp gy gs l c' (irow 3 1 v (idxM c').length (ivals (idxM c')) :: R)) W := by
  have e : irow 3 1 v (idxM c').length (ivals (idxM c')) = irow 3 1 v ((idxM c).length + 1) (ivals (idxM c) ++ [.int .i64 x]) := by
    rw [hx]; simp [ivals]
  rw [e]
  exact h.perm (sits_in E gh gcv gch gm gp gy gs l c' _ R)
theorem s_out {E : En} {gh gcv gch gm gp gy gs l i : Nat} {c : List Bool} {x : It} {R : List It} {o : List Nat} {w W : World} (h : Hp o w (sits E gh gcv gch gm gp gy gs l (c.set i true) (x :: R)) W) (hi : i < c.length) (hx : gb c i = false) :
    Hp o w (sits E gh gcv gch gm gp gy gs l c R) (W.setCell ⟨gch, i, none⟩ (.bool false)) := by
  have h1 := (h.perm (sits_in E gh gcv gch gm gp gy gs l (c.set i true) x R).symm).tail
  have h2 := h1.set 0 rfl i (.bool false)
  have e1 : (blv (c.set i true)).set i (.bool false) = blv c := by
    rw [show (blv (c.set i true)).set i (.bool false) = blv ((c.set i true).set i false) from by simp [blv, List.map_set], List.set_set]
    congr 1
    apply List.ext_getElem?
    intro j
    rw [List.getElem?_set]
    split
    · rename_i hij
      subst hij
      unfold gb at hx
      rw [List.getD_eq_getElem?_getD, List.getElem?_eq_getElem hi] at hx
      simp only [Option.getD_some] at hx
      rw [List.getElem?_eq_getElem hi, hx]
    · rfl
  rw [e1] at h2
  have e : sits E gh gcv gch gm gp gy gs l c R = (sits E gh gcv gch gm gp gy gs l (c.set i true) R).set 0 (iblk gch 4 (blv c)) := by
    simp only [sits, cits, List.length_set, List.cons_append, List.nil_append, List.set_cons_zero]
  rw [e]
  exact h2
/-- a set is yielded -/
theorem yield_at {E : En} {l N : Nat} {J Jx : List Nat → List (List Int) → World → Prop} (hE : SEnv E l N J Jx) {it : List It} {pre : List (List Int)} {w1 w3 : World} {x : List Int} {v3 : Value}
    (h1 : Sst J it pre w1) (h3 : Hp (ow it) w1 (irow 3 1 v3 x.length (ivals x) :: it) w3) (hN : pre.length < N) (hx : x.length ≤ 256) :
    YieldAt Fence.wide 0 Tryd.prog l #[v3] w3 fun e W' => Sep W' it ∧ ∃ b, e = .returned (.bool b) ∧ (b = true → Sst J it (pre ++ [x]) W') ∧ (b = false → Sst Jx it (pre ++ [x]) W') := by
  have h4 := h1.hp hE.abJ h3
  have hown : ∀ b, v3.ownBlock = some b → b ∈ ow (irow 3 1 v3 x.length (ivals x) :: it) := fun b hb => by
    show b ∈ v3.ownBlock.toList ++ _
    rw [hb]; simp
  refine YieldAt.mono (hE.hY _ pre x v3 w3 h4.j hN ⟨h3.row 0 rfl, hown, hx⟩) ?_
  rintro e W' ⟨hk, hh⟩
  have hsep : Sep W' (irow 3 1 v3 x.length (ivals x) :: it) := ⟨fun y hy => y.st w3 W' (fun b hb => by
    have hbo := List.mem_flatMap.2 ⟨y, hy, hb⟩
    exact hk.own b hbo (h4.sep.lt b hbo)) (h4.sep.ok y hy), h4.sep.ap⟩
  have hdrop : Hp (ow (irow 3 1 v3 x.length (ivals x) :: it)) W' it W' := (Hp.self hsep).tail
  refine ⟨hdrop.sep, ?_⟩
  rcases hh with ⟨rfl, hj⟩ | ⟨rfl, hj⟩
  · exact ⟨true, rfl, fun _ => Sst.hp ⟨hsep, hj⟩ hE.abJ hdrop, fun h => (by cases h)⟩
  · exact ⟨false, rfl, fun h => (by cases h), fun _ => Sst.hp ⟨hsep, hj⟩ hE.abJx hdrop⟩
set_option maxRecDepth 20000 in
set_option maxHeartbeats 8000000 in
theorem search_any {E : En} {gh gcv gch gm gp gy gs l N : Nat} {J Jx : List Nat → List (List Int) → World → Prop} (hE : SEnv E l N J Jx) (n : Nat) (hnn : n = E.n) :
    ∀ (m : Nat), m ≤ n → ∀ (c : List Bool) (v : Value) (R : List It) (pre : List (List Int)) (W : World), c.length = n → (∀ j, n - m ≤ j → gb c j = false) →
      Sst J (sits E gh gcv gch gm gp gy gs l c (irow 3 1 v (idxM c).length (ivals (idxM c)) :: R)) pre W → pre.length + (srchM (holdsP E.F) n m c).length ≤ N →
      Calls Tryd.prog 58 #[.int .i64 ((n - m : Nat) : Int), v, .pointer (some ⟨gh, 0, none⟩), .pointer (some ⟨gcv, 0, none⟩), .pointer (some ⟨gm, 0, none⟩), .pointer (some ⟨gy, 0, none⟩), .pointer (some ⟨E.gn, 0, none⟩), .pointer (some ⟨gp, 0, none⟩), .pointer (some ⟨gs, 0, none⟩)] W
        fun e W' => SPost J Jx (sits E gh gcv gch gm gp gy gs l c (irow 3 1 v (idxM c).length (ivals (idxM c)) :: R)) pre ((srchM (holdsP E.F) n m c).map idxM) e W' := by
  intro m
  induction m using Nat.strongRecOn with
  | _ m ih =>
  intro hm c v R pre W hc hz hSt hN
  have hS := Hp.self hSt.sep
  obtain ⟨Av, kv, rfl⟩ := row_forms (hS.row 10 rfl)
  have c1 := (hS.blk 1 rfl).cell 0
  have c2 := (hS.blk 2 rfl).cell 0
  simp only [List.getElem?_cons_zero] at c1 c2
  obtain ⟨o, ho⟩ : ∃ o, ow (sits E gh gcv gch gm gp gy gs l c (irow 3 1 (.slice Av (idxM c).length kv) (idxM c).length (ivals (idxM c)) :: R)) = o := ⟨_, rfl⟩
  rw [ho] at hS
  have HC := Lib.hid (holds_call (hE.E) (hc.trans hnn) hS c.length)
  have HL := Lib.hid hc
  have HNN := Lib.hid hnn
  have hn256 : n ≤ 256 := by have := hE.E.n256; omega
  clear hc hnn
  go_enter Tryd.func58, Tryd.ntmps58
  go_wp2_with fail
  refine HC.out.mono ?_
  rintro e w1 ⟨rfl, hb1⟩
  have hS1 := hS.next hb1
  clear HC hS c1 c2 hb1
  have hSt1 := hSt.hp hE.abJ (ho ▸ hS1)
  clear hS1 ho
  clear o
  cases hh : holdsP E.F c with
  | true =>
    have HH := Lib.hid hh
    clear hh
    go_upto_region 2 with fail
    have hS := Hp.self hSt1.sep
    obtain ⟨o, ho⟩ : ∃ o, ow (sits E gh gcv gch gm gp gy gs l c (irow 3 1 (.slice Av (idxM c).length kv) (idxM c).length (ivals (idxM c)) :: R)) = o := ⟨_, rfl⟩
    rw [ho] at hS
    have HM := Lib.hid (minimal_any hE.E c (HL.out.trans HNN.out) w1.drew (Hp.sub hS.drew).sep)
    have c3 := (hS.blk 6 rfl).cell 0
    have c5 := (hS.blk 8 rfl).cell 0
    simp only [List.getElem?_cons_zero] at c3 c5
    cases hm2 : minM (holdsP E.F) c with
    | false =>
      have HV : Hid (srchM (holdsP E.F) n m c = []) := by
        refine Lib.hid ?_
        rw [srchM, HH.out, hm2]; rfl
      rw [hm2] at HM
      have c3d : w1.drew.cell? ⟨gm, 0, none⟩ = _ := c3
      first | go_region_with ((go_at_call 55; refine HM.out.mono ?_; rintro e w2 ⟨rfl, hP⟩; have hS2 := Hp.call hS.drew hP)) | fail
      all_goals
        have hSy := Lib.hid (hSt1.hp hE.abJ (hpo ho hS2))
        go_wp2_with fail
        go_ret
        exact ⟨hSy.out.sep, true, rfl, fun _ => by rw [HV.out, List.map_nil, List.append_nil]; exact hSy.out, fun h => (by cases h)⟩
    | true =>
      rw [hm2] at HM
      have HV : Hid (srchM (holdsP E.F) n m c = [c]) := by
        refine Lib.hid ?_
        rw [srchM, HH.out, hm2]; rfl
      refine (wpIn_wide (n := 0)).1 ?_
      have hmix : Tryd.prog.follows .mixedOrders = true := by kernel_rfl
      have hxl : (idxM c).length ≤ 256 := by
        have := idx_length c
        have := hn256
        have := HL.out
        omega
      have hNN : pre.length < N := by
        rw [HV.out, List.length_singleton] at hN
        omega
      first | gi_region_with_o (first
        | (refine ⟨trivial, rfl, ?_⟩; gi_at_call 55; refine (callsIn_wide.2 HM.out).mono ?_; rintro e w2 ⟨rfl, hP⟩; have hS2 := Hp.call hS.drew hP; have c5b := (hS2.blk 8 rfl).cell 0)
        | (refine ⟨trivial, rfl, ?_⟩; gi_at_call 38; refine (callsIn_wide.2 (clone_row (hS2.row 10 rfl) (by omega))).mono ?_; rintro e w3 ⟨v3, rfl, hv3⟩; have hS3 := Hp.call (a := []) hS2 hv3; have c5c := (hS3.blk 9 rfl).cell 0; obtain ⟨fn7, tm7, as7, bd7, hy, hR⟩ := yield_at hE hSt1 (hpo ho hS3) hNN hxl)
        | (refine ⟨rfl, ?_⟩; refine hR.mono ?_; rintro e w4 ⟨hsep4, b4, rfl, ht4, hf4⟩)) | fail
      all_goals
        clear hR hy hS hS2 hS3 hP hv3 c5b c5c HM
        go_wp2_with fail
        go_ret
        exact ⟨hsep4, b4, rfl, fun h => by rw [HV.out]; exact ht4 h, fun h => ⟨[idxM c], by rw [HV.out]; exact List.prefix_refl _, hf4 h⟩⟩
  | false =>
    have HT : Hid (srchM (holdsP E.F) n m c = lpM (holdsP E.F) n m c) := by
      refine Lib.hid ?_
      rw [srchM, hh]; rfl
    clear hh
    go_upto_region 4 with fail
    go_loopg [12] m (fun m2 s12 wx => ∃ (i : Nat) (dn : List (List Int)), n - m ≤ i ∧ i ≤ n ∧ m2 = n - i ∧ s12 = .int .i64 (i : Int) ∧ Sst J (sits E gh gcv gch gm gp gy gs l c (irow 3 1 (.slice Av (idxM c).length kv) (idxM c).length (ivals (idxM c)) :: R)) (pre ++ dn) wx ∧ Hid (dn ++ (lpM (holdsP E.F) n (n - i) c).map idxM = (srchM (holdsP E.F) n m c).map idxM))
    case atStart => exact ⟨n - m, [], Nat.le_refl _, Nat.sub_le _ _, (Nat.sub_sub_self hm).symm, rfl, by rw [List.append_nil]; exact hSt1, Lib.hid (by rw [HT.out, List.nil_append, Nat.sub_sub_self hm])⟩
    case round =>
      obtain ⟨i, dn, hfi, hi, rfl, rfl, hSx, HD⟩ := hrel
      clear hSt1
      have hS := Hp.self hSx.sep
      have cn : wr.cell? ⟨E.gn, 0, none⟩ = some (.int .i64 (n : Int)) := by rw [HNN.out]; exact (hS.blk 4 rfl).cell 0
      obtain ⟨o, ho⟩ : ∃ o, ow (sits E gh gcv gch gm gp gy gs l c (irow 3 1 (.slice Av (idxM c).length kv) (idxM c).length (ivals (idxM c)) :: R)) = o := ⟨_, rfl⟩
      rw [ho] at hS
      by_cases hil : i < n
      · have hii : (i : Int) < (n : Int) := by omega
        have hicl : i < c.length := by rw [HL.out]; exact hil
        have c1 := (hS.blk 1 rfl).cell 0
        have c4 := (hS.blk 7 rfl).cell 0
        simp only [List.getElem?_cons_zero] at c1 c4
        have HP := Lib.hid (possible_any (gh := gh) (gcv := gcv) (gch := gch) c hE.E (HNN.out.symm.trans HL.out.symm) i (Nat.le_of_lt hicl) wr (Hp.sub hS).sep)
        go_wp2_with fail
        refine HP.out.mono ?_
        rintro e w2 ⟨rfl, hP⟩
        have hS2 := Hp.call hS hP
        clear HP hP hS c1 c4
        cases hf : holdsP E.F (fillM c i) with
        | false =>
          have HV : Hid (dn = (srchM (holdsP E.F) n m c).map idxM) := by
            refine Lib.hid ?_
            rw [← HD.out, show n - i = (n - i - 1) + 1 by omega, lpM, show n - (n - i - 1 + 1) = i by omega, hf]; simp
          have hSy := hSx.hp hE.abJ (ho ▸ hS2)
          clear hf HD hS2 hSx ho
          go_wp2_with fail
          go_ret
          exact ⟨hSy.sep, true, rfl, fun _ => by rw [← HV.out]; exact hSy, fun h => (by cases h)⟩
        | true =>
          have HD2 : Hid (dn ++ ((srchM (holdsP E.F) n (n - (i + 1)) (c.set i true)).map idxM ++ (lpM (holdsP E.F) n (n - (i + 1)) c).map idxM) = (srchM (holdsP E.F) n m c).map idxM) := by
            refine Lib.hid ?_
            rw [← HD.out, show n - i = (n - i - 1) + 1 by omega, lpM_succ, show n - (n - i - 1 + 1) = i by omega, hf, if_pos rfl, List.map_append, show n - (i + 1) = n - i - 1 by omega]
          clear hf HD
          have c1 := (hS2.blk 1 rfl).cell 0
          simp only [List.getElem?_cons_zero] at c1
          have hx : gb c i = false := hz i hfi
          have cx : w2.cell? ⟨gch, i, none⟩ = some (.bool false) := by
            rw [(hS2.blk 0 rfl).cell i, blv, List.getElem?_map, List.getElem?_eq_getElem hicl]
            unfold gb at hx
            rw [List.getD_eq_getElem?_getD, List.getElem?_eq_getElem hicl] at hx
            simp only [Option.getD_some] at hx
            rw [hx]; rfl
          have f0 := (hS2.blk 0 rfl).frozen i
          have hci : (i : Int) < (c.length : Int) := by omega
          go_upto_region 9 with fail
          have hS3 : Hp o wr (sits E gh gcv gch gm gp gy gs l (c.set i true) (irow 3 1 (.slice Av (idxM c).length kv) (idxM c).length (ivals (idxM c)) :: R)) (w2.setCell ⟨gch, i, none⟩ (.bool true)) := by
            have h9 := hS2.set 0 rfl i (.bool true)
            rw [show (blv c).set i (.bool true) = blv (c.set i true) from by simp [blv, List.map_set]] at h9
            have e : sits E gh gcv gch gm gp gy gs l (c.set i true) (irow 3 1 (.slice Av (idxM c).length kv) (idxM c).length (ivals (idxM c)) :: R) = (sits E gh gcv gch gm gp gy gs l c (irow 3 1 (.slice Av (idxM c).length kv) (idxM c).length (ivals (idxM c)) :: R)).set 0 (iblk gch 4 (blv (c.set i true))) := by
              simp only [sits, cits, List.length_set, List.cons_append, List.nil_append, List.set_cons_zero]
            rw [e]
            exact h9
          clear hS2 c1 cx f0
          generalize w2.setCell ⟨gch, i, none⟩ (.bool true) = w3 at *
          have HI : Hid (∀ (v2 : Value) (W2 : World), Sst J (sits E gh gcv gch gm gp gy gs l (c.set i true) (irow 3 1 v2 (idxM (c.set i true)).length (ivals (idxM (c.set i true))) :: irow 3 1 (.slice Av (idxM c).length kv) (idxM c).length (ivals (idxM c)) :: R)) (pre ++ dn) W2 →
              Calls Tryd.prog 58 #[.int .i64 ((i : Int) + 1), v2, .pointer (some ⟨gh, 0, none⟩), .pointer (some ⟨gcv, 0, none⟩), .pointer (some ⟨gm, 0, none⟩), .pointer (some ⟨gy, 0, none⟩), .pointer (some ⟨E.gn, 0, none⟩), .pointer (some ⟨gp, 0, none⟩), .pointer (some ⟨gs, 0, none⟩)] W2
                fun e W' => SPost J Jx (sits E gh gcv gch gm gp gy gs l (c.set i true) (irow 3 1 v2 (idxM (c.set i true)).length (ivals (idxM (c.set i true))) :: irow 3 1 (.slice Av (idxM c).length kv) (idxM c).length (ivals (idxM c)) :: R)) (pre ++ dn) ((srchM (holdsP E.F) n (n - (i + 1)) (c.set i true)).map idxM) e W') := by
            refine Lib.hid fun v2 W2 h2 => ?_
            have hlen := congrArg List.length HD2.out
            rw [List.length_append, List.length_append, List.length_map, List.length_map, List.length_map] at hlen
            have h9 := ih (n - (i + 1)) (by omega) (Nat.sub_le _ _) (c.set i true) v2 (irow 3 1 (.slice Av (idxM c).length kv) (idxM c).length (ivals (idxM c)) :: R) (pre ++ dn) W2 (by rw [List.length_set]; exact HL.out) (fun j hj => by
              rw [gb_set _ _ _ _ hicl, if_neg (by omega)]; exact hz j (by omega)) h2 (by rw [List.length_append]; omega)
            rw [show n - (n - (i + 1)) = i + 1 by omega, show ((i + 1 : Nat) : Int) = (i : Int) + 1 from rfl] at h9
            exact h9
          have HX : Hid (idxM (c.set i true) = idxM c ++ [(i : Int)]) := Lib.hid (idx_set hicl (fun j hj => hz j (by omega)))
          clear ih
          obtain ⟨j0, hj0, hy0, hy1, hy2⟩ := info_parts int_info
          have hlx : (idxM c).length ≤ 256 := by
            have := idx_length c
            have := hn256
            have := HL.out
            omega
          have hkv : (idxM c).length ≤ kv := by
            rcases (hS3.row 10 rfl).2 with ⟨h9, h8⟩ | ⟨g, cap, cur, h9, _, _, h7, _⟩
            · omega
            · injection h9 with _ _ h6; omega
          have hwr : IntKind.i64.wrap ((i : Int) + 1) = (i : Int) + 1 := IntWalk.i64_in _ (by have := hn256; omega)
          have hsl := run_full (P := Tryd.prog) 38 3 Tryd.underlying38 rfl Av (idxM c).length kv hkv
          have HSd := Lib.hid hS3.drew
          have HSA := Lib.hid (hS3.drew.alloc (.cells #[.int .i64 (i : Int)] 3))
          have d1 : w3.drew.cell? ⟨gs, 0, none⟩ = _ := (HSd.out.blk 9 rfl).cell 0
          have d2 : (w3.drew.alloc (.cells #[.int .i64 (i : Int)] 3)).cell? ⟨gs, 0, none⟩ = _ := (HSA.out.blk 9 rfl).cell 0
          simp only [List.getElem?_cons_zero] at d1 d2
          clear hS3
          go_region_held3 (fun w' => w'.cell? ⟨gs, 0, none⟩ = some (.func (Fn.func 58) #[] #[.pointer (some ⟨gh, 0, none⟩), .pointer (some ⟨gcv, 0, none⟩), .pointer (some ⟨gm, 0, none⟩), .pointer (some ⟨gy, 0, none⟩), .pointer (some ⟨E.gn, 0, none⟩), .pointer (some ⟨gp, 0, none⟩), .pointer (some ⟨gs, 0, none⟩)])) (first | exact d1 | exact d2 | exact d3 | exact d4) (first
            | (refine step_append_full _ (by rfl) (.tmp 47) (.tmp 49) 38 (by rfl) 3 j0 _ 1 8 Tryd.underlying38 hj0 hy0 hy1 hy2 rfl (by decide) Av (idxM c).length kv (ivals (idxM c)) (by rfl) ?o1 _ 1 1 [.int .i64 (i : Int)] (by rfl) (by rfl) ?nw (by decide) ?l1 ?l2 (w3.heap.size + 1) (by simp) ?_; (case o1 => exact HSA.out.row 10 rfl); (case nw => exact new1' _ _ _); (case l1 => (unfold maxLen; omega)); (case l2 => omega); intro c4 w4 hown4 hb4 hsz4; have hS4 := HSA.out.newrow (H := w3.heap.size + 1) (by simp) hown4 hb4; have d3 := (hS4.blk 10 rfl).cell 0; have HC := Lib.hid (HI.out _ _ (hSx.hp hE.abJ (hpo ho (s_in hS4 HX.out)))); clear hS4)
            | (go_at_call 58; refine HC.out.mono ?_; rintro e w5 ⟨hsep5, b5, rfl, ht5, hf5⟩; have d4 := (Hp.self hsep5).blk 9 rfl |>.cell 0))
          have hS5 := Hp.self hsep5
          have c1 := (hS5.blk 1 rfl).cell 0
          simp only [List.getElem?_cons_zero, List.length_set] at c1
          have cx : w5.cell? ⟨gch, i, none⟩ = some (.bool true) := by
            rw [(hS5.blk 0 rfl).cell i, blv, List.getElem?_map, List.getElem?_set_self hicl]; rfl
          have f0 := (hS5.blk 0 rfl).frozen i
          have HS6 := Lib.hid (s_out hS5 hicl hx)
          clear hS5 HSd HSA d1 d2 d3 d4 hb4 hsz4 hown4 HC HI HX hsl hj0 hy0 hy1 hy2
          cases b5 with
          | false =>
            obtain ⟨q, hq, hJq⟩ := hf5 rfl
            have hJ6 := hJq.hp hE.abJx HS6.out
            have HQ : Hid (dn ++ q <+: (srchM (holdsP E.F) n m c).map idxM) := by
              refine Lib.hid ?_
              rw [← HD2.out]
              exact (List.prefix_append_right_inj dn).2 (hq.trans (List.prefix_append _ _))
            have HJ := Lib.hid hJ6
            clear hJ6 hJq hq ht5 hf5 HS6 HD2
            go_wp2_with fail
            go_ret
            exact ⟨HJ.out.sep, false, rfl, fun h => (by cases h), fun _ => ⟨dn ++ q, HQ.out, by rw [← List.append_assoc]; exact HJ.out⟩⟩
          | true =>
            have HJ := Lib.hid ((ht5 rfl).hp hE.abJ HS6.out)
            clear ht5 hf5 HS6
            go_wp2_with fail
            go_roundg (n - (i + 1))
            case measure => omega
            case rel => exact ⟨i + 1, dn ++ (srchM (holdsP E.F) n (n - (i + 1)) (c.set i true)).map idxM, by omega, by omega, rfl, by first | rfl | simp, by rw [← List.append_assoc]; exact HJ.out, Lib.hid (by rw [List.append_assoc]; exact HD2.out)⟩
      · have hii : ¬ (i : Int) < (n : Int) := by omega
        have HV : Hid (dn = (srchM (holdsP E.F) n m c).map idxM) := by
          refine Lib.hid ?_
          rw [← HD.out, show n - i = 0 by omega, lpM, List.map_nil, List.append_nil]
        clear hS ho HD
        go_wp2_with fail
        go_ret
        exact ⟨hSx.sep, true, rfl, fun _ => by rw [← HV.out]; exact hSx, fun h => (by cases h)⟩
end Go.Proofs.YteaaeaimjbaomaaDoor
