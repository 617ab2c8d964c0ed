/-
  formula.Join.
-/
import Derived.Test.YteaaeaimjbaomaaDoorFmJ2
import Derived.Test.YteaaeaimjbaomaaDoorFmO
import Derived.Test.YteaaeaimjbaomaaDoorAppF
import Derived.Deep.RegionHeld3
namespace Go.Proofs.YteaaeaimjbaomaaDoor
open Go.RowKit
set_option linter.unusedVariables false

def JoinOut (r : List Gt × Int) (e : Ending) (w' : World) : Prop := ∃ A c, e = .returned (.tuple #[.agg #[.slice A r.1.length c], .int .i64 r.2]) ∧ Gates w' w'.heap.size A r.1
abbrev jits (need : Int) (ks : List Int) (vg vk : Value) (P : List GV) : List It := irow 40 3 vg (P.length + 1) (gcells ((⟨need, ks, 0⟩, vk) :: P)) :: irow 3 1 vk ks.length (ivals ks) :: kidIts P
theorem gates_none (W : World) (A : Option Addr) : Gates W W.heap.size A [] := ⟨fun h => absurd rfl h⟩
theorem join_all {L : List (List Gt)} (h : ∀ j F, j < L.length → L[j]? = some F → okJ F = true) : L.all okJ = true := by
  rw [List.all_eq_true]
  intro F hF
  obtain ⟨j, hj⟩ := List.mem_iff_getElem?.1 hF
  exact h j F (List.getElem?_eq_some_iff.1 hj).1 hj
theorem join_bad {L : List (List Gt)} {i : Nat} {F : List Gt} (hF : L[i]? = some F) (h : okJ F = false) : L.all okJ = false := by
  rw [Bool.eq_false_iff]
  intro h9
  rw [List.all_eq_true] at h9
  rw [h9 F (List.mem_of_getElem? hF)] at h; cases h
theorem row_new (W : World) (e : TypeId) (size n : Nat) (cs : List Value) (hl : cs.length = n * size) (hn : n ≤ 1000000) : (W.alloc (.cells cs.toArray e)).ownsRow 0 e size (.slice (some ⟨W.heap.size, 0, none⟩) n n) n cs := by
  refine ⟨hl, .inr ⟨W.heap.size, n, cs.toArray, rfl, Nat.zero_le _, ?_, Nat.le_refl _, by unfold maxLen; omega, by simpa using hl, by rw [← hl]; simp⟩⟩
  exact Blk.new W e cs
theorem gcells_push (P : List GV) (x : GV) : gcells (P ++ [x]) = gcells P ++ gcell x := by rw [gcells_append]; simp [gcells]
theorem jits_push {o : List Nat} {w W : World} {need : Int} {ks : List Int} {vg vk vx : Value} {P : List GV} {g : Gt} {n nk : Nat} {vs : List Value} {b1 b2 b3 : It} (hnk : nk = g.kids.length) (hn : n = P.length + 2) (hvs : vs = gcells ((⟨need, ks, 0⟩, vk) :: P) ++ gcell (g, vx))
    (h : Hp o w (b1 :: irow 3 1 vx nk (ivals g.kids) :: b2 :: b3 :: irow 40 3 vg n vs :: irow 3 1 vk ks.length (ivals ks) :: kidIts P) W) : Hp o w (b3 :: jits need ks vg vk (P ++ [(g, vx)])) W := by
  subst hn
  subst hvs
  subst hnk
  have h1 := h.tail
  have h2 := h1.perm (List.perm_append_singleton _ _).symm
  have h3 : Hp o w (b2 :: (b3 :: jits need ks vg vk (P ++ [(g, vx)]))) W := by
    have e : (b2 :: (b3 :: jits need ks vg vk (P ++ [(g, vx)]))) = (b2 :: b3 :: irow 40 3 vg (P.length + 2) (gcells ((⟨need, ks, 0⟩, vk) :: P) ++ gcell (g, vx)) :: irow 3 1 vk ks.length (ivals ks) :: kidIts P) ++ [irow 3 1 vx g.kids.length (ivals g.kids)] := by
      rw [← gcells_push]
      simp [jits, kidIts, kidIt]
    rw [e]; exact h2
  exact h3.tail
theorem cell_al {W : World} {p : Addr} {v : Value} (h : W.cell? p = some v) (o : Obj) : (W.alloc o).cell? p = some v := by
  rw [Below.cell (B := W.heap.size) ((Below.refl _ _).alloc (Nat.le_refl _) o) (World.block_lt_of_cell? _ _ h)]; exact h
theorem cell_far {W : World} {p q : Addr} {v : Value} (h : W.cell? p = some v) (hq : q.block ≠ p.block) (u : Value) : (W.setCell q u).cell? p = some v := by
  rw [← h]
  simp only [World.cell?]
  rw [Below.heap_setCell _ _ _ _ (fun e => hq e.symm)]
/-- the first i numbers moved -/
def addP (b : Int) (i : Nat) (l : List Int) : List Int := (l.take i).map (· + b) ++ l.drop i
theorem addP_length (b : Int) (i : Nat) (l : List Int) : (addP b i l).length = l.length := by unfold addP; simp; omega
theorem addP_all (b : Int) (l : List Int) {i : Nat} (h : l.length ≤ i) : addP b i l = l.map (· + b) := by
  unfold addP; rw [List.take_of_length_le h, List.drop_of_length_le h, List.append_nil]
theorem addP_at {b x : Int} {l : List Int} {i : Nat} (h : l[i]? = some x) : (addP b i l)[i]? = some x ∧ (addP b i l).set i (x + b) = addP b (i + 1) l := by
  obtain ⟨hi, rfl⟩ := List.getElem?_eq_some_iff.1 h
  have hl : ((l.take i).map (· + b)).length = i := by simp; omega
  unfold addP
  constructor
  · rw [List.getElem?_append_right (by omega), hl, Nat.sub_self, List.drop_eq_getElem_cons hi]; rfl
  · rw [List.set_append_right _ _ (by omega), hl, Nat.sub_self, List.drop_eq_getElem_cons hi, List.set_cons_zero, take_last h, List.map_append, List.append_assoc]; rfl
set_option maxRecDepth 20000 in
set_option maxHeartbeats 16000000 in
theorem Join_any (A : Option Addr) (c : Nat) (L : List (List Gt)) (need : Int) (hL : FewJ L) (w : World) (hF : Forms w A L) :
    Calls Tryd.prog 31 #[.int .i64 need, .slice A L.length c] w fun e w' => JoinOut (joinP need L) e w' ∧ Below w.heap.size w w' := by
  have hk : Hp [] w [iblk w.heap.size 24 [.slice none 0 0]] (w.alloc (.cells #[.slice none 0 0] 24)) := (Hp.start w).new 24 [.slice none 0 0]
  have hL12 := hL.len
  obtain ⟨g4, hg4⟩ : ∃ g, w.heap.size = g := ⟨_, rfl⟩
  rw [hg4] at hk
  by_cases hz : L = []
  · have HV : Hid (joinP need L = ([], 6)) := by refine Lib.hid ?_; rw [joinP, if_pos hz]
    have hl0 : L.length = 0 := by rw [hz]; rfl
    have h9 : ((L.length : Int) == 0) = true := by rw [hl0]; rfl
    clear hz hl0
    go_enter Tryd.func31, Tryd.ntmps31
    have c4 := (hk.blk 0 rfl).cell 0
    have f4 := (hk.blk 0 rfl).frozen 0
    simp only [List.getElem?_cons_zero] at c4
    go_wp2_with fail
    refine bodyPost_ret (v := .tuple #[.agg #[.slice none 0 0], .int .i64 6]) (by simp [results, Tryd.results31, go_sem, c4]) rfl ?_
    exact ⟨⟨none, 0, by rw [HV.out]; rfl, by rw [HV.out]; exact gates_none _ _⟩, by first | exact hk.below0 | (subst hg4; exact hk.below0)⟩
  · have hpos : 0 < L.length := List.length_pos_iff.2 hz
    have h9 : ((L.length : Int) == 0) = false := by rw [beq_eq_false_iff_ne]; omega
    have HZ := Lib.hid hz
    clear hz
    go_enter Tryd.func31, Tryd.ntmps31
    go_upto_region 1 with fail
    generalize w.alloc (.cells #[.slice none 0 0] 24) = W at *
    go_upto_region 4 with fail
    go_loopg [26] L.length (fun m s26 wx => ∃ i : Nat, i ≤ L.length ∧ m = L.length - i ∧ s26 = .int .i64 (i : Int) ∧ Hp [] w [iblk g4 24 [.slice none 0 0]] wx ∧ Hid (∀ j F, j < i → L[j]? = some F → okJ F = true))
    case atStart => exact ⟨0, Nat.zero_le _, rfl, rfl, hk, Lib.hid (fun j F hj => absurd hj (Nat.not_lt_zero _))⟩
    case round =>
      obtain ⟨i, hi, rfl, rfl, hS, HI⟩ := hrel
      clear hk
      by_cases hil : i < L.length
      · have hii : (i : Int) < (L.length : Int) := by omega
        have hi0 : (0 : Int) ≤ (i : Int) := by omega
        obtain ⟨F, hFi⟩ : ∃ F, L[i]? = some F := ⟨_, List.getElem?_eq_getElem hil⟩
        have hF40 := hL.gates F (List.mem_of_getElem? hFi)
        have hK40 := hL.kids F (List.mem_of_getElem? hFi)
        obtain ⟨ad, GA, gc, rfl, ca, hG⟩ := (hF.up hS.below0).at_ hFi
        have HFi := Lib.hid hFi
        clear hFi
        go_upto_region 6 with fail
        have hS1 := hS.new 24 [.slice GA F.length gc]
        have hG1 := hG.keep' ((Below.refl wr.heap.size wr).alloc (Nat.le_refl _) (.cells #[.slice GA F.length gc] 24))
        clear hS hG ca
        have HC := Lib.hid (leaves_any GA gc F (by omega) (fun g hg => by have := hK40 g hg; omega) _ hG1)
        generalize wr.alloc (.cells #[.slice GA F.length gc] 24) = w2 at *
        generalize wr.heap.size = g7 at *
        have c7 := (hS1.blk 0 rfl).cell 0
        simp only [List.getElem?_cons_zero] at c7
        go_wp2_with fail
        refine HC.out.mono ?_
        rintro e w3 ⟨rfl, hb3⟩
        have hS3 := hS1.next hb3
        clear HC hS1 hb3 c7 hG1
        have c7 := (hS3.blk 0 rfl).cell 0
        simp only [List.getElem?_cons_zero] at c7
        have c4 := (hS3.blk 1 rfl).cell 0
        have f4 := (hS3.blk 1 rfl).frozen 0
        have hk2 := hS3.set 1 rfl 0 (.slice none 0 0)
        have d4 := (hk2.blk 1 rfl).cell 0
        simp only [List.getElem?_cons_zero, List.set_cons_zero] at c4 d4
        cases hok : okJ F with
        | false =>
          have HV : Hid (joinP need L = ([], 3)) := by refine Lib.hid ?_; rw [joinP, if_neg HZ.out, if_pos (join_bad HFi.out hok)]
          cases hlv : (leavesP F).2 with
          | false =>
            clear hok hS3
            go_wp2_with fail
            refine bodyPost_ret (v := .tuple #[.agg #[.slice none 0 0], .int .i64 3]) (by simp [results, Tryd.results31, go_sem, d4]) rfl ?_
            exact ⟨⟨none, 0, by rw [HV.out]; rfl, by rw [HV.out]; exact gates_none _ _⟩, by first | exact hk2.below0 | (subst hg4; exact hk2.below0)⟩
          | true =>
            have hF0 : F = [] := by
              unfold okJ at hok
              rw [hlv] at hok
              simpa using hok
            have hl0 : ((F.length : Int) == 0) = true := by rw [hF0]; rfl
            clear hok hS3 hF0
            go_wp2_with fail
            refine bodyPost_ret (v := .tuple #[.agg #[.slice none 0 0], .int .i64 3]) (by simp [results, Tryd.results31, go_sem, d4]) rfl ?_
            exact ⟨⟨none, 0, by rw [HV.out]; rfl, by rw [HV.out]; exact gates_none _ _⟩, by first | exact hk2.below0 | (subst hg4; exact hk2.below0)⟩
        | true =>
          have hlv : (leavesP F).2 = true := by unfold okJ at hok; rw [Bool.and_eq_true] at hok; exact hok.1
          have hF0 : F ≠ [] := by unfold okJ at hok; rw [Bool.and_eq_true] at hok; exact of_decide_eq_true hok.2
          have hFp := List.length_pos_iff.2 hF0
          have hl0 : ((F.length : Int) == 0) = false := by rw [beq_eq_false_iff_ne]; omega
          have hl5 : ¬ (512 : Int) < (F.length : Int) := by omega
          have HI2 : Hid (∀ j F, j < i + 1 → L[j]? = some F → okJ F = true) := Lib.hid (fun j G hj hG => by
            by_cases hji : j = i
            · subst hji
              rw [HFi.out] at hG
              injection hG with hG
              rw [← hG]; exact hok
            · exact HI.out j G (by omega) hG)
          have hS4 := hS3.tail
          clear hok hF0 hk2 d4 HI hS3
          go_wp2_with fail
          go_roundg (L.length - (i + 1))
          case measure => omega
          case rel => exact ⟨i + 1, hil, rfl, by first | rfl | simp, hS4, HI2⟩
      · have hii : ¬ (i : Int) < (L.length : Int) := by omega
        have hall := join_all (fun j F hj => HI.out j F (by omega))
        clear HI
        by_cases hnd : need < 1 ∨ (L.length : Int) < need
        · have HV : Hid (joinP need L = ([], 2)) := by refine Lib.hid ?_; rw [joinP, if_neg HZ.out, if_neg (by rw [hall]; simp), if_pos hnd]
          have c4 := (hS.blk 0 rfl).cell 0
          have f4 := (hS.blk 0 rfl).frozen 0
          have hk2 := hS.set 0 rfl 0 (.slice none 0 0)
          have d4 := (hk2.blk 0 rfl).cell 0
          simp only [List.getElem?_cons_zero, List.set_cons_zero] at c4 d4
          by_cases hn1 : need < 1
          · clear hnd
            go_wp2_with fail
            refine bodyPost_ret (v := .tuple #[.agg #[.slice none 0 0], .int .i64 2]) (by simp [results, Tryd.results31, go_sem, d4]) rfl ?_
            exact ⟨⟨none, 0, by rw [HV.out]; rfl, by rw [HV.out]; exact gates_none _ _⟩, by first | exact hk2.below0 | (subst hg4; exact hk2.below0)⟩
          · have hn2 : (L.length : Int) < need := by omega
            clear hnd
            go_wp2_with fail
            refine bodyPost_ret (v := .tuple #[.agg #[.slice none 0 0], .int .i64 2]) (by simp [results, Tryd.results31, go_sem, d4]) rfl ?_
            exact ⟨⟨none, 0, by rw [HV.out]; rfl, by rw [HV.out]; exact gates_none _ _⟩, by first | exact hk2.below0 | (subst hg4; exact hk2.below0)⟩
        · have hn1 : ¬ need < 1 := fun h => hnd (.inl h)
          have hn2 : ¬ (L.length : Int) < need := fun h => hnd (.inr h)
          have HV : Hid (joinP need L = if 512 < (joinF L).1.length + 1 ∨ 256 < (joinF L).2.2 then ([], 6) else (⟨need, (joinF L).2.1, 0⟩ :: (joinF L).1, 0)) := by refine Lib.hid ?_; rw [joinP, if_neg HZ.out, if_neg (by rw [hall]; simp), if_neg hnd]
          have HA := Lib.hid hall
          clear hnd hall
          obtain ⟨j0, hj0, hy0, hy1, hy2⟩ := info_parts int_info
          obtain ⟨i0, hi0, hz0, hz1, hz2⟩ := info_parts gate_info
          go_upto_region 15 with fail
          have hS0 : Hp [] w (iblk g4 24 [.slice none 0 0] :: jits need [] (.slice (some ⟨wr.heap.size, 0, none⟩) 1 1) (.slice none 0 0) []) (wr.alloc (.cells #[.int .i64 need, .slice none 0 0, .int .i64 0] 40)) := by
            have h7 := (hS.newrow rfl (row_new wr 40 3 1 [.int .i64 need, .slice none 0 0, .int .i64 0] rfl (by omega)) ((Below.refl _ _).alloc (Nat.le_refl _) _)).nilrow 3 1
            exact h7.perm ((List.Perm.swap _ _ _).trans (((List.Perm.swap _ _ _).cons _).trans (List.Perm.swap _ _ _)))
          clear hS
          go_loopg [10, 11, 65] L.length (fun m s10 s11 s65 wx => ∃ (i : Nat) (P : List GV) (vk : Value), i ≤ L.length ∧ m = L.length - i ∧ s65 = .int .i64 (i : Int) ∧ s11 = .int .i64 ((joinF (L.take i)).2.2 : Int) ∧ gts P = (joinF (L.take i)).1 ∧ Hp [] w (iblk g4 24 [.slice none 0 0] :: jits need (joinF (L.take i)).2.1 s10 vk P) wx)
          case atStart => exact ⟨0, [], .slice none 0 0, Nat.zero_le _, rfl, rfl, rfl, rfl, hS0⟩
          case round =>
            obtain ⟨i, P, vk, hi, rfl, rfl, rfl, hP, hS⟩ := hrel
            clear hS0
            have hT40 : ∀ F ∈ L.take i, F.length ≤ 40 := fun F h => hL.gates F (List.mem_of_mem_take h)
            obtain ⟨bd1, bd2, bd3⟩ := joinF_bd (L.take i) hT40
            have htl : (L.take i).length ≤ 12 := by rw [List.length_take]; omega
            have hPl : P.length = (joinF (L.take i)).1.length := by rw [← hP]; simp [gts]
            by_cases hil2 : i < L.length
            · have hii2 : (i : Int) < (L.length : Int) := by omega
              have hi0' : (0 : Int) ≤ (i : Int) := by omega
              obtain ⟨F, hFi⟩ : ∃ F, L[i]? = some F := ⟨_, List.getElem?_eq_getElem hil2⟩
              have hF40 := hL.gates F (List.mem_of_getElem? hFi)
              have hK40 := hL.kids F (List.mem_of_getElem? hFi)
              have hokF : okJ F = true := List.all_eq_true.1 HA.out F (List.mem_of_getElem? hFi)
              have HFK := Lib.hid (kid_bd hokF)
              have HFR : Hid (∀ j g, F[j]? = some g → g.kids = [] → g.leaf = (leafN (F.take j) : Int)) := Lib.hid (fun j g hg hk => leaf_rank hF40 hK40 hokF hg hk)
              have HST : Hid (joinF (L.take (i + 1)) = jstep (joinF (L.take i)) F) := Lib.hid (by rw [take_last hFi, joinF_last])
              obtain ⟨ad, GA, gc, rfl, ca0, hG⟩ := hF.at_ hFi
              have ca := (hS.below0.cell (cell_lt ca0)).trans ca0
              clear hokF hFi hT40 ca0
              have HP := Lib.hid hP
              generalize joinF (L.take i) = S at *
              obtain ⟨R, ks, k⟩ := S
              simp only at bd1 bd2 bd3 hPl hS hP HP ⊢
              have hP480 : P.length ≤ 480 := by omega
              have hks12 : ks.length ≤ 12 := by omega
              have hk480 : k ≤ 480 := by omega
              clear hP bd1 bd2 bd3 hPl htl
              go_upto_region 17 with fail
              have hS1 := hS.new 24 [.slice GA F.length gc]
              clear hS ca
              generalize wr.alloc (.cells #[.slice GA F.length gc] 24) = w2 at *
              generalize wr.heap.size = g13 at *
              obtain ⟨gr, cr, rfl, -⟩ := row_form (hS1.row 2 rfl) (by omega)
              obtain ⟨VK, vc, rfl⟩ := row_forms (hS1.row 3 rfl)
              go_upto_region 18 with fail
              have cv := row_cell (hS1.row 2 rfl) (j := 1) (u := .slice VK ks.length vc) rfl
              have fv := row_frozen (hS1.row 2 rfl) 1
              go_upto_region 19 with (at_builtin; refine wpList_append_own2 rfl _ _ 38 rfl 0 3 j0 _ 1 8 Tryd.underlying38 hj0 hy0 hy1 hy2 rfl (by decide) _ ks.length (ivals ks) rfl ((hS1.alloc _).row 3 rfl) ⟨w2.heap.size, 0, none⟩ 1 1 [.int .i64 ((P.length : Int) + 1)] rfl rfl (new1' _ _ _) (by intro u hu; simp at hu; rw [hu]; rfl) (by decide) (by unfold maxLen; omega) (by omega) (Nat.zero_le _) ?_; intro v' w4 hown hgrow hat; obtain ⟨VA, va, rfl⟩ := row_forms hown; have hS4 := (hS1.alloc (.cells #[.int .i64 ((P.length : Int) + 1)] 3)).grown 3 rfl hown hgrow hat; have cv4 := row_cell (hS4.row 2 rfl) (j := 1) (u := .slice VK ks.length vc) rfl; have fv4 := row_frozen (hS4.row 2 rfl) 1; clear hown hgrow hat)
              have hS5 : Hp [] w (iblk g13 24 [.slice GA F.length gc] :: iblk g4 24 [.slice none 0 0] :: jits need (ks ++ [(P.length : Int) + 1]) (.slice (some ⟨gr, 0, none⟩) (P.length + 1) cr) (.slice VA (ks.length + 1) va) P) (w4.setCell ⟨gr, 1, none⟩ (.slice VA (ks.length + 1) va)) := by
                have h7 := hS4.rowset 2 rfl 1 (by omega) (.slice VA (ks.length + 1) va)
                have e : irow 3 1 (.slice VA (ks.length + 1) va) (ks ++ [(P.length : Int) + 1]).length (ivals (ks ++ [(P.length : Int) + 1])) = irow 3 1 (.slice VA (ks.length + 1) va) (ks.length + 1) (ivals ks ++ [.int .i64 ((P.length : Int) + 1)]) := by simp [ivals]
                rw [jits, e]
                exact h7
              clear hS4 cv cv4 fv fv4
              clear hS1
              generalize w4.setCell ⟨gr, 1, none⟩ (.slice VA (ks.length + 1) va) = w5 at *
              have c13 := (hS5.blk 0 rfl).cell 0
              simp only [List.getElem?_cons_zero] at c13
              go_upto_region 20 with fail
              have hS6 := hS5.tail
              have HB := Lib.hid (rfl : ks ++ [(P.length : Int) + 1] = ks ++ [(P.length : Int) + 1])
              obtain ⟨ks2, hks2⟩ : ∃ ks2, ks ++ [(P.length : Int) + 1] = ks2 := ⟨_, rfl⟩
              rw [hks2] at hS6
              have HK2 := Lib.hid hks2
              clear hS5 c13 HB hks2
              go_loopg [10, 15, 84] F.length (fun m s10 s15 s84 wx => ∃ (j : Nat) (Q : List GV), j ≤ F.length ∧ m = F.length - j ∧ s84 = .int .i64 (j : Int) ∧ s15 = .int .i64 (leafN (F.take j) : Int) ∧ gts Q = R ++ movG ((R.length : Int) + 1) k (F.take j) ∧ Hp [] w (iblk g4 24 [.slice none 0 0] :: jits need ks2 s10 (.slice VA (ks.length + 1) va) Q) wx)
              case atStart => exact ⟨0, P, Nat.zero_le _, rfl, rfl, rfl, by rw [HP.out]; simp [movG], hS6⟩
              case round =>
                obtain ⟨j, Q, hj, rfl, rfl, rfl, hQ, hS⟩ := hrel
                clear hS6
                have hQl : Q.length = R.length + j := by
                  have h7 := congrArg List.length hQ
                  rw [List.length_append, movG_length, List.length_take, Nat.min_eq_left hj] at h7
                  simpa [gts] using h7
                have hRP : R.length = P.length := by rw [← HP.out]; simp [gts]
                have hQ520 : Q.length ≤ 520 := by omega
                have hlf := leafN_le (F.take j)
                have hlf40 : leafN (F.take j) ≤ 40 := by rw [List.length_take] at hlf; omega
                clear hlf hQl
                have HQ := Lib.hid hQ
                have HRP := Lib.hid hRP
                clear hQ hRP
                by_cases hjl : j < F.length
                · have hjj : (j : Int) < (F.length : Int) := by omega
                  have hj0' : (0 : Int) ≤ (j : Int) := by omega
                  obtain ⟨g, hg⟩ : ∃ g, F[j]? = some g := ⟨_, List.getElem?_eq_getElem hjl⟩
                  have hgk := hK40 g (List.mem_of_getElem? hg)
                  have HGK := Lib.hid (HFK.out g (List.mem_of_getElem? hg))
                  have HGL := Lib.hid (HFR.out j g hg)
                  have HTK := Lib.hid (take_last hg)
                  obtain ⟨fd, rfl, KA, kc, gn1, gk1, gl1, hKI⟩ := hG.read hS.below0 hg
                  clear hg
                  go_upto_region 22 with fail
                  have hS1 := hS.new 40 [.int .i64 g.need, .slice KA g.kids.length kc, .int .i64 g.leaf]
                  clear hS gn1 gk1 gl1
                  generalize wr.alloc (.cells #[.int .i64 g.need, .slice KA g.kids.length kc, .int .i64 g.leaf] 40) = w6 at *
                  generalize wr.heap.size = g17 at *
                  have HCl : Hid (∀ W', Below w6.heap.size w6 W' → Calls Tryd.prog 38 #[.slice KA g.kids.length kc] W' fun e w' => ∃ v, e = .returned v ∧ Hp [] W' [irow 3 1 v g.kids.length (ivals g.kids)] w') := Lib.hid (fun W' hb => clone_kids hKI (hS1.below0.trans (hb.mono hS1.size)) (Nat.le_trans hS1.size hb.size) (by omega))
                  go_cut [18] (fun s18 wx => ∃ (g18 : Nat) (v : Value), s18 = .pointer (some ⟨g18, 0, none⟩) ∧ Hp [] w (iblk g18 40 [.int .i64 g.need, v, .int .i64 0] :: irow 3 1 v g.kids.length (ivals g.kids) :: iblk g17 40 [.int .i64 g.need, .slice KA g.kids.length kc, .int .i64 g.leaf] :: iblk g4 24 [.slice none 0 0] :: jits need ks2 u10 (.slice VA (ks.length + 1) va) Q) wx)
                  case first => as_aux_lemma =>
                    --F22
                    have hSd := hS1.drew
                    have hSn := (hS1.new 40 [.int .i64 0, .slice none 0 0, .int .i64 0]).drew
                    have hb1 : Below w6.heap.size w6 w6.drew := (Below.refl _ _).drew
                    have hb2 : Below w6.heap.size w6 (w6.alloc (.cells #[.int .i64 0, .slice none 0 0, .int .i64 0] 40)).drew := ((Below.refl _ _).alloc (Nat.le_refl _) _).drew
                    obtain ⟨d0, d1, -⟩ := (hSd.blk 0 rfl).get3
                    obtain ⟨e0, e1, -⟩ := (hSn.blk 1 rfl).get3
                    have hne : w6.heap.size ≠ g17 := by have := (hS1.blk 0 rfl).lt; omega
                    clear hS1
                    go_region_held3 (fun w' => w'.cell? ⟨g17, 0, none⟩ = some (.int .i64 g.need) ∧ w'.cell? ⟨g17, 1, none⟩ = some (.slice KA g.kids.length kc)) (first | exact ⟨d0, d1⟩ | exact ⟨e0, e1⟩ | exact ⟨f0, f1⟩ | exact ⟨cell_al f0 _, cell_al f1 _⟩ | exact ⟨cell_far (cell_far (cell_far f0 hne _) hne _) hne _, cell_far (cell_far (cell_far f1 hne _) hne _) hne _⟩) ((go_at_call 38; refine (HCl.out _ (by first | exact hb1 | exact hb2)).mono ?_; rintro e w7 ⟨v7, rfl, hv7⟩; obtain ⟨XA, xc, rfl⟩ := row_forms (hv7.row 0 rfl); first | (have hS7 := Hp.call (a := []) hSd hv7; obtain ⟨f0, f1, -⟩ := (hS7.blk 1 rfl).get3) | (have hS7 := Hp.call (a := []) hSn hv7; obtain ⟨f0, f1, -⟩ := (hS7.blk 2 rfl).get3; obtain ⟨p0, p1, p2⟩ := (hS7.blk 1 rfl).get3; have q0 := (hS7.blk 1 rfl).frozen 0; have q1 := (hS7.blk 1 rfl).frozen 1; have q2 := (hS7.blk 1 rfl).frozen 2)))
                    all_goals
                      go_wp2_with fail
                      go_meet
                      first
                        | exact ⟨_, _, rfl, hS7.new 40 [.int .i64 g.need, .slice XA g.kids.length xc, .int .i64 0]⟩
                        | exact ⟨_, _, rfl, (((hS7.set 1 rfl 0 (.int .i64 g.need)).set 1 rfl 1 (.slice XA g.kids.length xc)).set 1 rfl 2 (.int .i64 0)).perm (List.Perm.swap _ _ _)⟩
                    --E22
                  case rest => as_aux_lemma =>
                    obtain ⟨g18, v18, rfl, hS2⟩ := hcut
                    clear hS1 HCl
                    obtain ⟨XA, xc, rfl⟩ := row_forms (hS2.row 1 rfl)
                    obtain ⟨p0, p1, p2⟩ := (hS2.blk 0 rfl).get3
                    go_upto_region 24 with fail
                    clear p0 p1 p2
                    go_loopg [97] g.kids.length (fun m s97 wx => ∃ (q : Nat), q ≤ g.kids.length ∧ m = g.kids.length - q ∧ s97 = .int .i64 (q : Int) ∧ Hp [] w (iblk g18 40 [.int .i64 g.need, .slice XA g.kids.length xc, .int .i64 0] :: irow 3 1 (.slice XA g.kids.length xc) g.kids.length (ivals (addP ((P.length : Int) + 1) q g.kids)) :: iblk g17 40 [.int .i64 g.need, .slice KA g.kids.length kc, .int .i64 g.leaf] :: iblk g4 24 [.slice none 0 0] :: jits need ks2 u10 (.slice VA (ks.length + 1) va) Q) wx)
                    case atStart => exact ⟨0, Nat.zero_le _, rfl, rfl, by rw [show addP ((P.length : Int) + 1) 0 g.kids = g.kids from by simp [addP]]; exact hS2⟩
                    case round =>
                      obtain ⟨q, hq, rfl, rfl, hS⟩ := hrel
                      clear hS2
                      by_cases hql : q < g.kids.length
                      · have hqq : (q : Int) < (g.kids.length : Int) := by omega
                        obtain ⟨x, hx⟩ : ∃ x, g.kids[q]? = some x := ⟨_, List.getElem?_eq_getElem hql⟩
                        obtain ⟨hx0, hx1⟩ := HGK.out x (List.mem_of_getElem? hx)
                        obtain ⟨gx, cx, hv, -⟩ := row_form (hS.row 1 rfl) (by omega)
                        have hXA : XA = some ⟨gx, 0, none⟩ := by injection hv
                        subst hXA
                        clear hv
                        obtain ⟨a1, a2⟩ := addP_at (b := (P.length : Int) + 1) hx
                        have cxx := row_cell (hS.row 1 rfl) (j := q) (u := .int .i64 x) (by rw [ivals, List.getElem?_map, a1]; rfl)
                        have fxx := row_frozen (hS.row 1 rfl) q
                        obtain ⟨p0, p1, p2⟩ := (hS.blk 0 rfl).get3
                        have hS2 := hS.rowset 1 rfl q (by omega) (.int .i64 (x + ((P.length : Int) + 1)))
                        rw [show (ivals (addP ((P.length : Int) + 1) q g.kids)).set q (.int .i64 (x + ((P.length : Int) + 1))) = ivals (addP ((P.length : Int) + 1) (q + 1) g.kids) from by rw [← a2]; simp [ivals, List.map_set]] at hS2
                        have HS2 := Lib.hid hS2
                        clear hS hS2 a1 a2 hx
                        go_wp2_with fail
                        go_roundg (g.kids.length - (q + 1))
                        case measure => omega
                        case rel => exact ⟨q + 1, hql, rfl, by first | rfl | simp, HS2.out⟩
                      · have hqq : ¬ (q : Int) < (g.kids.length : Int) := by omega
                        rw [addP_all _ _ (by omega)] at hS
                        obtain ⟨r0, r1, r2⟩ := (hS.blk 2 rfl).get3
                        obtain ⟨p0, p1, p2⟩ := (hS.blk 0 rfl).get3
                        have f2 := (hS.blk 0 rfl).frozen 2
                        obtain ⟨QA, qc, rfl⟩ := row_forms (hS.row 4 rfl)
                        by_cases hkz : g.kids = []
                        · have hk0 : ((g.kids.length : Int) == 0) = true := by rw [hkz]; rfl
                          have hgl0 : 0 ≤ g.leaf := by rw [HGL.out hkz]; omega
                          have hgl1 : g.leaf ≤ 40 := by rw [HGL.out hkz]; omega
                          have hS3 := hS.set 0 rfl 2 (.int .i64 (g.leaf + (k : Int)))
                          have HKZ := Lib.hid hkz
                          clear hkz
                          clear hS
                          go_upto_region 31 with fail
                          generalize wr.setCell ⟨g18, 2, none⟩ (.int .i64 (g.leaf + (k : Int))) = w8 at *
                          obtain ⟨m0, m1, m2⟩ := (hS3.blk 0 rfl).get3
                          go_wp2_with (at_builtin; refine wpList_append_own2 rfl _ _ 22 rfl 0 40 i0 _ 3 40 Tryd.underlying22 hi0 hz0 hz1 hz2 rfl (by decide) _ (Q.length + 1) (gcells ((⟨need, ks2, 0⟩, .slice VA (ks.length + 1) va) :: Q)) rfl ((hS3.alloc _).row 4 rfl) ⟨w8.heap.size, 0, none⟩ 1 1 [.int .i64 g.need, .slice XA g.kids.length xc, .int .i64 (g.leaf + (k : Int))] rfl rfl (new3' _ _ _ _ _) (by intro u hu; simp at hu; rcases hu with rfl | rfl | rfl <;> rfl) (by decide) (by unfold maxLen; omega) (by omega) (Nat.zero_le _) ?_; intro v' w9 hown hgrow hat)
                          have hS5 := (hS3.alloc (.cells #[.int .i64 g.need, .slice XA g.kids.length xc, .int .i64 (g.leaf + (k : Int))] 40)).grown 4 rfl hown hgrow hat
                          have hS6 := jits_push (g := ⟨g.need, g.kids.map (· + ((P.length : Int) + 1)), g.leaf + (k : Int)⟩) (vx := .slice XA g.kids.length xc) (by simp) rfl rfl hS5
                          clear hS5 hown hgrow hat hS3
                          go_roundg (F.length - (j + 1))
                          case measure => omega
                          case rel =>
                            refine ⟨j + 1, Q ++ [(⟨g.need, g.kids.map (· + ((P.length : Int) + 1)), g.leaf + (k : Int)⟩, .slice XA g.kids.length xc)], hjl, rfl, by first | rfl | simp, ?_, ?_, hS6⟩
                            · rw [HTK.out, leafN_append, if_pos HKZ.out]; simp
                            · rw [HTK.out, movG_append, if_pos HKZ.out, ← List.append_assoc, ← HQ.out, HRP.out]
                              simp [gts, HGL.out HKZ.out, Int.add_comm]
                        · have hk0 : ((g.kids.length : Int) == 0) = false := by rw [beq_eq_false_iff_ne]; have := List.length_pos_iff.2 hkz; omega
                          have HKZ := Lib.hid hkz
                          clear hkz f2
                          go_upto_region 31 with fail
                          generalize wr = w8 at *
                          have hS3 := hS
                          clear hS
                          obtain ⟨m0, m1, m2⟩ := (hS3.blk 0 rfl).get3
                          go_wp2_with (at_builtin; refine wpList_append_own2 rfl _ _ 22 rfl 0 40 i0 _ 3 40 Tryd.underlying22 hi0 hz0 hz1 hz2 rfl (by decide) _ (Q.length + 1) (gcells ((⟨need, ks2, 0⟩, .slice VA (ks.length + 1) va) :: Q)) rfl ((hS3.alloc _).row 4 rfl) ⟨w8.heap.size, 0, none⟩ 1 1 [.int .i64 g.need, .slice XA g.kids.length xc, .int .i64 (0)] rfl rfl (new3' _ _ _ _ _) (by intro u hu; simp at hu; rcases hu with rfl | rfl | rfl <;> rfl) (by decide) (by unfold maxLen; omega) (by omega) (Nat.zero_le _) ?_; intro v' w9 hown hgrow hat)
                          have hS5 := (hS3.alloc (.cells #[.int .i64 g.need, .slice XA g.kids.length xc, .int .i64 (0)] 40)).grown 4 rfl hown hgrow hat
                          have hS6 := jits_push (g := ⟨g.need, g.kids.map (· + ((P.length : Int) + 1)), 0⟩) (vx := .slice XA g.kids.length xc) (by simp) rfl rfl hS5
                          clear hS5 hown hgrow hat hS3
                          go_roundg (F.length - (j + 1))
                          case measure => omega
                          case rel =>
                            refine ⟨j + 1, Q ++ [(⟨g.need, g.kids.map (· + ((P.length : Int) + 1)), 0⟩, .slice XA g.kids.length xc)], hjl, rfl, by first | rfl | simp, ?_, ?_, hS6⟩
                            · rw [HTK.out, leafN_append, if_neg HKZ.out]; simp
                            · rw [HTK.out, movG_append, if_neg HKZ.out, ← List.append_assoc, ← HQ.out, HRP.out]
                              simp [gts]
                · have hjj : ¬ (j : Int) < (F.length : Int) := by omega
                  have hjF : F.take j = F := List.take_of_length_le (by omega)
                  rw [hjF] at HQ hlf40 ⊢
                  have hSS := HST.out
                  clear hjF hjl
                  go_wp2_with fail
                  go_roundg (L.length - (i + 1))
                  case measure => omega
                  case rel =>
                    refine ⟨i + 1, Q, .slice VA (ks.length + 1) va, hil2, rfl, by first | rfl | simp, ?_, ?_, ?_⟩
                    · rw [hSS]; simp [jstep]
                    · rw [hSS, HQ.out]; simp [jstep]
                    · rw [hSS]
                      have e : (jstep (R, ks, k) F).2.1 = ks2 := by rw [← HK2.out, ← HRP.out]; rfl
                      rw [e]; exact hS
            · have hii2 : ¬ (i : Int) < (L.length : Int) := by omega
              have hiL : L.take i = L := List.take_of_length_le (by omega)
              rw [hiL] at bd1 bd2 bd3 hPl hP hS htl ⊢
              have hP480 : P.length ≤ 480 := by omega
              have h512 : ¬ (512 : Int) < (P.length : Int) + 1 := by omega
              have hV2 := HV.out
              have HP := Lib.hid hP
              have HPl := Lib.hid hPl
              obtain ⟨VA, va, rfl⟩ := row_forms (hS.row 1 rfl)
              have c4 := (hS.blk 0 rfl).cell 0
              have f4 := (hS.blk 0 rfl).frozen 0
              simp only [List.getElem?_cons_zero] at c4
              generalize joinF L = S at *
              obtain ⟨R, ks, k⟩ := S
              simp only at bd1 bd2 bd3 hPl hP hV2 hS HP HPl ⊢
              by_cases hk : 256 < k
              · have hki : (256 : Int) < (k : Int) := by omega
                rw [if_pos (.inr hk)] at hV2
                have HV2 := Lib.hid hV2
                have hS2 := hS.set 0 rfl 0 (.slice none 0 0)
                have d4 := (hS2.blk 0 rfl).cell 0
                simp only [List.getElem?_cons_zero, List.set_cons_zero] at d4
                clear hP hV2 bd1 bd2 bd3 hPl htl hS HV hiL
                go_wp2_with fail
                refine bodyPost_ret (v := .tuple #[.agg #[.slice none 0 0], .int .i64 6]) (by simp [results, Tryd.results31, go_sem, d4]) rfl ?_
                exact ⟨⟨none, 0, by rw [HV2.out]; rfl, by rw [HV2.out]; exact gates_none _ _⟩, by first | exact hS2.below0 | (subst hg4; exact hS2.below0)⟩
              · have hki : ¬ (256 : Int) < (k : Int) := by omega
                rw [if_neg (by omega)] at hV2
                have HV2 := Lib.hid hV2
                have hS2 := hS.set 0 rfl 0 (.slice VA (P.length + 1) va)
                have d4 := (hS2.blk 0 rfl).cell 0
                simp only [List.getElem?_cons_zero, List.set_cons_zero] at d4
                have HG2 := gates_of (r := []) (P := (⟨need, ks, 0⟩, vk) :: P) (n := P.length + 1) (by rw [List.append_nil]; exact hS2)
                clear hP hV2 bd1 bd2 bd3 hPl htl hS HV hiL
                go_wp2_with fail
                refine bodyPost_ret (v := .tuple #[.agg #[.slice VA (P.length + 1) va], .int .i64 0]) (by simp [results, Tryd.results31, go_sem, d4]) rfl ?_
                refine ⟨⟨VA, va, ?_, ?_⟩, by first | exact hS2.below0 | (subst hg4; exact hS2.below0)⟩
                · rw [HV2.out]; simp [HPl.out]
                · rw [HV2.out]
                  have e : gts ((⟨need, ks, 0⟩, vk) :: P) = ⟨need, ks, 0⟩ :: R := by rw [← HP.out]; rfl
                  rw [e] at HG2
                  exact HG2
end Go.Proofs.YteaaeaimjbaomaaDoor
