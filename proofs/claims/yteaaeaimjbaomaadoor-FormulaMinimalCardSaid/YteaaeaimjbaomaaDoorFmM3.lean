/-
  dominoref20.Minimal.
-/
import Derived.Test.YteaaeaimjbaomaaDoorFmM2
import Derived.Test.YteaaeaimjbaomaaDoorFmAw
namespace Go.Proofs.YteaaeaimjbaomaaDoor
open Go.RowKit
set_option linter.unusedVariables false

theorem bit_rem (s i : Nat) : ((((s : Int) / 2 ^ i).tmod 2) == 1) = s.testBit i := by
  have h1 : ((s : Int) / 2 ^ i) = ((s / 2 ^ i : Nat) : Int) := by simp
  rw [h1]
  have h2 : (((s / 2 ^ i : Nat) : Int).tmod 2) = (((s / 2 ^ i) % 2 : Nat) : Int) := rfl
  rw [h2, Nat.testBit_eq_decide_div_mod_eq]
  by_cases h : s / 2 ^ i % 2 = 1
  · rw [h]; simp
  · rw [decide_eq_false h, beq_eq_false_iff_ne]; omega
abbrev mits (g : Nat) (A : Option Addr) (c : Nat) (F : List Gt) : It := iblk g 24 [.slice A F.length c]
theorem rholds_call {A : Option Addr} {c : Nat} {F : List Gt} {n gi : Nat} {M : List Bool} {o : List Nat} {w w1 W : World} {it : List It} (hF : F.length ≤ 512) (hK : ∀ g ∈ F, g.kids.length ≤ 1000000) (h0 : checkP F n = 0) (hn : n ≤ 9) (hM : M.length = n) (hG : Gates w w.heap.size A F) (hb : Below w.heap.size w W) (h : Hp o w1 it W) (i : Nat) (hx : it[i]? = some (iblk gi 4 (blv M))) :
    Calls Tryd.prog 48 #[.agg #[.slice A F.length c], .slice (some ⟨gi, 0, none⟩) n n] W fun e w' => e = .returned (.bool (holdsP F M)) ∧ Below W.heap.size W w' := by
  subst hM
  exact rholds_any A (some ⟨gi, 0, none⟩) c M.length F M hF hK h0 W (hG.keep' hb) (Blk.bools (h.blk i hx)) (by omega)
theorem blv_set (c : List Bool) (i : Nat) (b : Bool) : (blv c).set i (.bool b) = blv (c.set i b) := by simp [blv, List.map_set]
theorem set_back {c : List Bool} {i : Nat} {b : Bool} (h : gb c i = true) : (c.set i b).set i true = c := by
  rw [List.set_set]
  have hi := gb_lt h
  refine mask_ext (by simp) fun j _ => ?_
  rw [gb_set _ _ _ _ hi]
  split
  · rename_i e; rw [e, h]
  · rfl
def insV (x : LV) (L : List LV) (a : Nat) : List LV := L.take a ++ x :: L.drop a
theorem insV_length {x : LV} {L : List LV} {a : Nat} : (insV x L a).length = L.length + 1 := by
  unfold insV; simp; omega
theorem insV_fst {x : LV} {L : List LV} {a : Nat} : (insV x L a).map Prod.fst = insL x.1 (L.map Prod.fst) a := by
  unfold insV insL
  rw [List.map_append, List.map_cons, List.map_take, List.map_drop]
theorem insV_end (x : LV) (L : List LV) : insV x L L.length = L ++ [x] := by
  unfold insV; rw [List.take_length, List.drop_length]
theorem insV_two {x y : LV} {L : List LV} {k : Nat} (h : L[k]? = some y) : insV x L (k + 1) = L.take k ++ y :: x :: L.drop (k + 1) ∧ insV x L k = L.take k ++ x :: y :: L.drop (k + 1) := by
  obtain ⟨hk, rfl⟩ := List.getElem?_eq_some_iff.1 h
  unfold insV
  constructor
  · rw [List.take_add_one, h, List.append_assoc]; rfl
  · rw [List.drop_eq_getElem_cons hk]
theorem swap_set {α β : Type} (f : α → β) (x y : α) (q : List α) : ∀ (p : List α), (((p ++ y :: x :: q).map f).set (p.length + 1) (f y)).set p.length (f x) = (p ++ x :: y :: q).map f
  | [] => rfl
  | a :: p => by
    simp only [List.cons_append, List.map_cons, List.length_cons, List.set_cons_succ]
    rw [swap_set f x y q p]
theorem insV_set {x y : LV} {L : List LV} {k : Nat} (h : L[k]? = some y) : (((insV x L (k + 1)).map Prod.snd).set (k + 1) y.2).set k x.2 = (insV x L k).map Prod.snd := by
  have hk := (List.getElem?_eq_some_iff.1 h).1
  obtain ⟨e1, e2⟩ := insV_two (x := x) h
  have := swap_set (Prod.snd) x y (L.drop (k + 1)) (L.take k)
  rw [List.length_take, Nat.min_eq_left (by omega)] at this
  rw [e1, e2]; exact this
theorem insV_perm {x y : LV} {L : List LV} {k : Nat} (h : L[k]? = some y) : ((insV x L (k + 1)).map lvIt).Perm ((insV x L k).map lvIt) := by
  obtain ⟨e1, e2⟩ := insV_two (x := x) h
  rw [e1, e2]
  exact ((List.Perm.swap _ _ _).append_left _).map _
theorem insV_at {x y : LV} {L : List LV} {k : Nat} (h : L[k]? = some y) : (insV x L (k + 1))[k]? = some y ∧ (insV x L (k + 1))[k + 1]? = some x := by
  have hk := (List.getElem?_eq_some_iff.1 h).1
  obtain ⟨e1, _⟩ := insV_two (x := x) h
  have hl : (L.take k).length = k := by rw [List.length_take, Nat.min_eq_left (by omega)]
  rw [e1]
  constructor
  · rw [List.getElem?_append_right (by omega), hl, Nat.sub_self]; rfl
  · rw [List.getElem?_append_right (by omega), hl, show k + 1 - k = 1 by omega]; rfl
theorem insV_mem {x : LV} {L : List LV} {a : Nat} : x ∈ insV x L a := by unfold insV; simp
abbrev nits (g4 c4 : Nat) (x : LV) (L : List LV) (a : Nat) : List It := irow 38 1 (.slice (some ⟨g4, 0, none⟩) (L.length + 1) c4) (L.length + 1) ((insV x L a).map Prod.snd) :: (insV x L a).map lvIt
theorem nits_eq (g4 c4 : Nat) (x : LV) (L : List LV) (a : Nat) : nits g4 c4 x L a = lits (.slice (some ⟨g4, 0, none⟩) (L.length + 1) c4) (insV x L a) := by
  unfold nits lits; rw [insV_length]
theorem nits_step {o : List Nat} {w W : World} {b : It} {g4 c4 : Nat} {x y : LV} {L : List LV} {k : Nat} (h : Hp o w (b :: nits g4 c4 x L (k + 1)) W) (hy : L[k]? = some y) : Hp o w (b :: nits g4 c4 x L k) ((W.setCell ⟨g4, k + 1, none⟩ y.2).setCell ⟨g4, k, none⟩ x.2) := by
  have hk := (List.getElem?_eq_some_iff.1 hy).1
  have h1 := h.rowset 1 rfl (k + 1) (by omega) y.2
  have h2 := h1.rowset 1 rfl k (by omega) x.2
  rw [insV_set hy] at h2
  exact h2.perm (((insV_perm hy).cons _).cons _)
theorem lits_push {o : List Nat} {w W : World} {gi : Nat} {M : List Bool} {b : It} {x : List Int} {v3 v4 : Value} {L : List LV} {n : Nat} (hn : n = L.length + 1)
    (h : Hp o w (irow 3 1 v3 x.length (ivals x) :: iblk gi 4 (blv M) :: b :: irow 38 1 v4 n (L.map Prod.snd ++ [v3]) :: L.map lvIt) W) :
    Hp o w (b :: lits v4 (insV (x, v3) L L.length)) W := by
  subst hn
  rw [insV_end]
  have h2 := (h.perm (List.Perm.swap _ _ _)).tail
  have h3 := h2.perm (List.perm_append_singleton _ _).symm
  have e : b :: lits v4 (L ++ [(x, v3)]) = (b :: irow 38 1 v4 (L.length + 1) (L.map Prod.snd ++ [v3]) :: L.map lvIt) ++ [irow 3 1 v3 x.length (ivals x)] := by
    simp [lits, lvIt]
  rw [e]
  exact h3
theorem lits_ints {o : List Nat} {w W : World} {b : It} {v : Value} {L : List LV} (h : Hp o w (b :: lits v L) W) {x : LV} (hx : x ∈ L) : ∃ A c, x.2 = .slice A x.1.length c ∧ Ints W W.heap.size A x.1 := by
  have h1 : W.ownsRow 0 3 1 x.2 x.1.length (ivals x.1) := h.sep.ok (lvIt x) (List.mem_cons_of_mem _ (List.mem_cons_of_mem _ (List.mem_map.2 ⟨x, hx, rfl⟩)))
  obtain ⟨A, c', e⟩ := row_forms h1
  refine ⟨A, c', e, ?_⟩
  rw [e] at h1
  exact row_ints h1
theorem good_min {H : List Bool → Bool} {M : List Bool} {g : Bool} (h : g = (H M && ((idxM M).take (idxM M).length).all fun x => !H (M.set x.toNat false))) : g = true ↔ (H M = true ∧ minM H M = true) := by
  rw [List.take_length] at h
  rw [h, Bool.and_eq_true, minM_iff, List.all_eq_true]
  refine and_congr_right fun _ => ?_
  constructor
  · intro h1 i hi
    have := h1 (i : Int) (idx_mem.2 ⟨i, rfl, hi⟩)
    simpa using this
  · intro h1 x hx
    obtain ⟨j, rfl, hj⟩ := idx_mem.1 hx
    simp [h1 j hj]
set_option maxRecDepth 20000 in
set_option maxHeartbeats 16000000 in
theorem rMinimal_ok (A : Option Addr) (c : Nat) (F : List Gt) (n : Nat) (hF : F.length ≤ 512) (hK : ∀ g ∈ F, g.kids.length ≤ 1000000) (hn : n ≤ 9) (h0 : checkP F n = 0) (w : World) (hG : Gates w w.heap.size A F) :
    Calls Tryd.prog 27 #[.agg #[.slice A F.length c], .int .i64 (n : Int)] w fun e w' => ∃ v L, e = .returned v ∧ L.map Prod.fst = minsP F n ∧ Hp [] w (lits v L) w' := by
  have hk : Hp [] w [mits w.heap.size A c F] (w.alloc (.cells #[.slice A F.length c] 24)) := (Hp.start w).new 24 [.slice A F.length c]
  have HCk := Lib.hid (rcheck_any A c F (n : Int) (by omega) hK _ (hG.keep' hk.below0))
  have hp2 : 2 ^ n ≤ 2 ^ 9 := Nat.pow_le_pow_right (by omega) hn
  have hw2 : Hid (wrap64 (2 ^ n) = ((2 ^ n : Nat) : Int)) := by
    refine Lib.hid ?_
    rw [show ((2 : Int) ^ n) = ((2 ^ n : Nat) : Int) by simp]
    have h9 : ((2 ^ n : Nat) : Int) ≤ 512 := Int.ofNat_le.2 hp2
    have h8 : (0 : Int) ≤ ((2 ^ n : Nat) : Int) := Int.natCast_nonneg _
    generalize ((2 ^ n : Nat) : Int) = z at *
    exact IntWalk.wrap64_in _ ⟨by omega, by omega⟩
  have hc0 : (checkP F (n : Int) != 0) = false := by rw [h0]; rfl
  obtain ⟨j0, hj0, hy0, hy1, hy2⟩ := info_parts int_info
  obtain ⟨i0, hi0, hz0, hz1, hz2⟩ := info_parts list_info
  obtain ⟨gb0, hgb0⟩ : ∃ g, w.heap.size = g := ⟨_, rfl⟩
  go_enter Tryd.func27, Tryd.ntmps27
  go_upto_region 1 with fail
  generalize w.alloc (.cells #[.slice A F.length c] 24) = W at *
  rw [hgb0] at hk
  try simp only [hgb0]
  have c0 := (hk.blk 0 rfl).cell 0
  simp only [List.getElem?_cons_zero] at c0
  go_wp2_with fail
  refine HCk.out.mono ?_
  rintro e w1 ⟨rfl, hb1⟩
  have hk1 := hk.next hb1
  clear HCk c0 hk hb1
  have H0 := Lib.hid h0
  clear h0
  go_upto_region 5 with fail
  have hS0 : Hp [] w (mits gb0 A c F :: lits (.slice none 0 0) []) w1 := (hk1.nilrow 38 1).perm (List.Perm.swap _ _ _)
  clear hk1
  go_loopg [5, 6] (2 ^ n) (fun m s5 s6 wx => ∃ (s : Nat) (L : List LV), s ≤ 2 ^ n ∧ m = 2 ^ n - s ∧ s6 = .int .i64 (s : Int) ∧ Hp [] w (mits gb0 A c F :: lits s5 L) wx ∧ Hid (Tried (holdsP F) n s (L.map Prod.fst)))
  case atStart => exact ⟨0, [], Nat.zero_le _, rfl, rfl, hS0, Lib.hid (Tried.zero _ _)⟩
  case round =>
    obtain ⟨s, L, hs, rfl, rfl, hS, HT⟩ := hrel
    clear hS0
    by_cases hsn : s < 2 ^ n
    · have hlt : (s : Int) < wrap64 (2 ^ n) := by rw [hw2.out]; exact Int.ofNat_lt.2 hsn
      have hmk := make_bools n (by omega)
      have hLl : L.length ≤ 512 := by have := HT.out.len; rw [List.length_map] at this; omega
      go_upto_region 10 with fail
      have hS1 := (hS.new 4 (List.replicate n (.bool false))).nilrow 3 1
      simp only [List.toArray_replicate] at hS1
      clear hS hmk
      generalize wr.alloc (.cells (Array.replicate n (.bool false)) 4) = w2 at *
      generalize wr.heap.size = gi at *
      obtain ⟨c0, hc⟩ : ∃ c, List.replicate n false = c := ⟨_, rfl⟩
      have hS2 : Hp [] w (irow 3 1 (.slice none 0 0) (idxM c0).length (ivals (idxM c0)) :: iblk gi 4 (blv c0) :: mits gb0 A c F :: lits u5 L) w2 := by
        rw [← hc, idx_zero]
        have e : blv (List.replicate n false) = List.replicate n (.bool false) := by simp [blv]
        rw [e]; exact hS1
      have HC0 : Hid (c0.length = n ∧ (∀ j, j < 0 → gb c0 j = s.testBit j) ∧ ∀ j, 0 ≤ j → gb c0 j = false) := by
        refine Lib.hid ⟨by rw [← hc]; simp, fun j hj => absurd hj (Nat.not_lt_zero _), fun j _ => by rw [← hc]; exact zero_gb n j⟩
      clear hS1 hc
      go_loopg [8, 9] n (fun m s8 s9 wx => ∃ (i : Nat) (d : List Bool), i ≤ n ∧ m = n - i ∧ s9 = .int .i64 (i : Int) ∧ Hp [] w (irow 3 1 s8 (idxM d).length (ivals (idxM d)) :: iblk gi 4 (blv d) :: mits gb0 A c F :: lits u5 L) wx ∧ Hid (d.length = n ∧ (∀ j, j < i → gb d j = s.testBit j) ∧ ∀ j, i ≤ j → gb d j = false))
      case atStart => exact ⟨0, c0, Nat.zero_le _, rfl, rfl, hS2, HC0⟩
      case round =>
        obtain ⟨i, d, hi, rfl, rfl, hS, HD⟩ := hrel
        clear hS2 HC0
        by_cases hin : i < n
        · have hii : (i : Int) < (n : Int) := by omega
          have hdl : i < d.length := by have := HD.out.1; omega
          have hbit := bit_rem s i
          cases hb : s.testBit i with
          | false =>
            rw [hb] at hbit
            have HD2 : Hid (d.length = n ∧ (∀ j, j < i + 1 → gb d j = s.testBit j) ∧ ∀ j, i + 1 ≤ j → gb d j = false) := by
              refine Lib.hid ⟨HD.out.1, fun j hj => ?_, fun j hj => HD.out.2.2 j (by omega)⟩
              by_cases hji : j = i
              · subst hji; rw [hb]; exact HD.out.2.2 j (Nat.le_refl _)
              · exact HD.out.2.1 j (by omega)
            clear hb HD
            go_wp2_with fail
            go_roundg (n - (i + 1))
            case measure => omega
            case rel => exact ⟨i + 1, d, hin, rfl, by first | rfl | simp, hS, HD2⟩
          | true =>
            rw [hb] at hbit
            have hdb : (blv d)[i]? = some (.bool false) := by
              rw [blv, List.getElem?_map, List.getElem?_eq_getElem hdl]
              have := HD.out.2.2 i (Nat.le_refl _)
              unfold gb at this
              rw [List.getD_eq_getElem?_getD, List.getElem?_eq_getElem hdl] at this
              simpa using this
            have cd := (hS.blk 1 rfl).cell i
            have fd := (hS.blk 1 rfl).frozen i
            rw [hdb] at cd
            have HX : Hid (idxM (d.set i true) = idxM d ++ [(i : Int)]) := Lib.hid (idx_set hdl fun j hj => HD.out.2.2 j hj)
            have hdl9 : (idxM d).length ≤ 9 := by have := idx_length d; have := HD.out.1; omega
            have HD2 : Hid ((d.set i true).length = n ∧ (∀ j, j < i + 1 → gb (d.set i true) j = s.testBit j) ∧ ∀ j, i + 1 ≤ j → gb (d.set i true) j = false) := by
              refine Lib.hid ⟨by rw [List.length_set]; exact HD.out.1, fun j hj => ?_, fun j hj => ?_⟩
              · rw [gb_set _ _ _ _ hdl]
                by_cases hji : j = i
                · rw [if_pos hji, hji, hb]
                · rw [if_neg hji]; exact HD.out.2.1 j (by omega)
              · rw [gb_set _ _ _ _ hdl, if_neg (by omega)]; exact HD.out.2.2 j (by omega)
            clear hb HD hdb
            go_upto_region 14 with fail
            have hS3 := hS.set 1 rfl i (.bool true)
            rw [blv_set] at hS3
            have hS3 : Hp [] w (irow 3 1 u8 (idxM d).length (ivals (idxM d)) :: iblk gi 4 (blv (d.set i true)) :: mits gb0 A c F :: lits u5 L) (wr.setCell ⟨gi, i, none⟩ (.bool true)) := hS3
            clear hS cd fd
            generalize wr.setCell ⟨gi, i, none⟩ (.bool true) = w3 at *
            go_wp2_with (at_builtin; refine wpList_append_own2 rfl _ _ 38 rfl 0 3 j0 _ 1 8 Tryd.underlying38 hj0 hy0 hy1 hy2 rfl (by decide) _ (idxM d).length (ivals (idxM d)) rfl ((hS3.alloc _).row 0 rfl) ⟨w3.heap.size, 0, none⟩ 1 1 [.int .i64 (i : Int)] rfl rfl (new1' _ _ _) (by intro u hu; simp at hu; rw [hu]; rfl) (by decide) (by unfold maxLen; omega) (by omega) (Nat.zero_le _) ?_; intro v' w4 hown hgrow hat)
            have hS4 := (hS3.alloc (.cells #[.int .i64 (i : Int)] 3)).grown 0 rfl hown hgrow hat
            go_roundg (n - (i + 1))
            case measure => omega
            case rel =>
              refine ⟨i + 1, d.set i true, hin, rfl, by first | rfl | simp, ?_, HD2⟩
              rw [HX.out]
              have e : irow 3 1 v' (idxM d ++ [(i : Int)]).length (ivals (idxM d ++ [(i : Int)])) = irow 3 1 v' ((idxM d).length + 1) (ivals (idxM d) ++ [.int .i64 (i : Int)]) := by simp [ivals]
              rw [e]
              exact hS4
        · have hii : ¬ (i : Int) < (n : Int) := by omega
          have hM : d = maskN n s := mask_ext (by rw [maskN_length]; exact HD.out.1) fun j hj => by
            have := HD.out.1
            rw [HD.out.2.1 j (by omega), maskN_gb _ _ _ (by omega)]
          have HM : Hid (maskN n s = d) := Lib.hid hM.symm
          have hdn : d.length = n := HD.out.1
          clear hM HD
          have hl9 : (idxM d).length ≤ 9 := by have := idx_length d; omega
          have HDn := Lib.hid hdn
          clear hdn
          obtain ⟨KA, kc, rfl⟩ := row_forms (hS.row 0 rfl)
          go_upto_region 15 with fail
          have c2 := (hS.blk 2 rfl).cell 0
          simp only [List.getElem?_cons_zero] at c2
          have HC := Lib.hid (rholds_call (c := c) hF hK H0.out hn HDn.out hG hS.below0 hS 1 rfl)
          go_wp2_with fail
          refine HC.out.mono ?_
          rintro e w3 ⟨rfl, hb3⟩
          have hS3 := hS.next hb3
          clear HC hS hb3 c2
          go_upto_region 17 with fail
          go_loopg [10, 11] (idxM d).length (fun m s10 s11 wx => ∃ (k : Nat) (g : Bool), k ≤ (idxM d).length ∧ m = (idxM d).length - k ∧ s11 = .int .i64 (k : Int) ∧ s10 = .bool g ∧ Hp [] w (irow 3 1 (.slice KA (idxM d).length kc) (idxM d).length (ivals (idxM d)) :: iblk gi 4 (blv d) :: mits gb0 A c F :: lits u5 L) wx ∧ Hid (g = (holdsP F d && ((idxM d).take k).all fun x => !holdsP F (d.set x.toNat false))))
          case atStart => exact ⟨0, _, Nat.zero_le _, rfl, rfl, rfl, hS3, Lib.hid (by simp)⟩
          case round =>
            obtain ⟨k, g, hkl, rfl, rfl, rfl, hS, HGd⟩ := hrel
            clear hS3
            by_cases hkn : k < (idxM d).length
            · have hii2 : (k : Int) < ((idxM d).length : Int) := by omega
              obtain ⟨x, hx⟩ : ∃ x, (idxM d)[k]? = some x := ⟨_, List.getElem?_eq_getElem hkn⟩
              obtain ⟨q, rfl, hq⟩ := idx_mem.1 (List.mem_of_getElem? hx)
              have hqd := gb_lt hq
              have hqn : (q : Int) < (n : Int) := by have := HDn.out; omega
              obtain ⟨gl, cl, hv, -⟩ := row_form (hS.row 0 rfl) (by omega)
              have hv1 : KA = some ⟨gl, 0, none⟩ := by injection hv
              subst hv1
              clear hv
              have hxv : (ivals (idxM d))[k]? = some (.int .i64 (q : Int)) := by rw [ivals, List.getElem?_map, hx]; rfl
              have cx := row_cell (hS.row 0 rfl) hxv
              have hdq : (blv d)[q]? = some (.bool true) := by
                rw [blv, List.getElem?_map, List.getElem?_eq_getElem hqd]
                unfold gb at hq
                rw [List.getD_eq_getElem?_getD, List.getElem?_eq_getElem hqd] at hq
                simpa using hq
              have cd := (hS.blk 1 rfl).cell q
              have fd := (hS.blk 1 rfl).frozen q
              rw [hdq] at cd
              have HGs : Hid ((holdsP F d && ((idxM d).take (k + 1)).all fun x => !holdsP F (d.set x.toNat false)) = (g && !holdsP F (d.set q false))) := by
                refine Lib.hid ?_
                rw [HGd.out, List.take_add_one, hx]
                simp [Bool.and_assoc]
              have HQ := Lib.hid hq
              clear HGd hx hq hdq
              go_upto_region 20 with fail
              have hS4 := hS.set 1 rfl q (.bool false)
              rw [blv_set] at hS4
              have hS4 : Hp [] w (irow 3 1 (.slice (some ⟨gl, 0, none⟩) (idxM d).length kc) (idxM d).length (ivals (idxM d)) :: iblk gi 4 (blv (d.set q false)) :: mits gb0 A c F :: lits u5 L) (wr.setCell ⟨gi, q, none⟩ (.bool false)) := hS4
              clear hS cd fd cx
              generalize wr.setCell ⟨gi, q, none⟩ (.bool false) = w4 at *
              have c2 := (hS4.blk 2 rfl).cell 0
              simp only [List.getElem?_cons_zero] at c2
              cases g with
              | false =>
                have cx := row_cell (hS4.row 0 rfl) hxv
                have cd := (hS4.blk 1 rfl).cell q
                have fd := (hS4.blk 1 rfl).frozen q
                have hdq : (blv (d.set q false))[q]? = some (.bool false) := by
                  rw [blv, List.getElem?_map, List.getElem?_set_self hqd]; rfl
                rw [hdq] at cd
                have HS5 := hS4.set 1 rfl q (.bool true)
                rw [blv_set, set_back HQ.out] at HS5
                have HS5 := Lib.hid HS5
                clear hdq hxv hS4
                go_wp2_with fail
                go_roundg ((idxM d).length - (k + 1))
                case measure => omega
                case rel => exact ⟨k + 1, false, hkn, rfl, by first | rfl | simp, rfl, HS5.out, Lib.hid (by rw [HGs.out]; rfl)⟩
              | true =>
                have HC := Lib.hid (rholds_call (c := c) hF hK H0.out hn (by rw [List.length_set]; exact HDn.out) hG hS4.below0 hS4 1 rfl)
                go_wp2_with fail
                refine HC.out.mono ?_
                rintro e w5 ⟨rfl, hb5⟩
                have hS5 := hS4.next hb5
                clear HC hS4 hb5 c2
                have cx := row_cell (hS5.row 0 rfl) hxv
                have cd := (hS5.blk 1 rfl).cell q
                have fd := (hS5.blk 1 rfl).frozen q
                have hdq : (blv (d.set q false))[q]? = some (.bool false) := by
                  rw [blv, List.getElem?_map, List.getElem?_set_self hqd]; rfl
                rw [hdq] at cd
                have HS5 := hS5.set 1 rfl q (.bool true)
                rw [blv_set, set_back HQ.out] at HS5
                have HS5 := Lib.hid HS5
                clear hdq hxv hS5
                go_wp2_with fail
                go_roundg ((idxM d).length - (k + 1))
                case measure => omega
                case rel => exact ⟨k + 1, !holdsP F (d.set q false), hkn, rfl, by first | rfl | simp, rfl, HS5.out, Lib.hid (by rw [HGs.out]; rfl)⟩
            · have hii2 : ¬ (k : Int) < ((idxM d).length : Int) := by omega
              obtain rfl : k = (idxM d).length := by omega
              have HGm := Lib.hid (good_min HGd.out)
              clear HGd
              cases g with
              | false =>
                have HT2 : Hid (Tried (holdsP F) n (s + 1) (L.map Prod.fst)) := Lib.hid (HT.out.skip (by
                  rw [HM.out]
                  intro h9
                  have := HGm.out.2 h9
                  cases this))
                clear HGm HT
                go_wp2_with fail
                go_roundg (2 ^ n - (s + 1))
                case measure => omega
                case rel => exact ⟨s + 1, L, hsn, rfl, by first | rfl | simp, hS.tail.tail, HT2⟩
              | true =>
                have HT2 : Hid (∀ a, InsAt (idxM d) (L.map Prod.fst) a → Tried (holdsP F) n (s + 1) (insL (idxM d) (L.map Prod.fst) a)) := Lib.hid (fun a ha => by
                  have := HT.out.put hsn (by rw [HM.out]; exact HGm.out.1 rfl) (by rw [HM.out]; exact ha)
                  rw [HM.out] at this; exact this)
                have HLB : Hid (∀ y ∈ L, y.1.length ≤ 9) := Lib.hid (fun y hy => by
                  obtain ⟨t, _, _, e⟩ := (HT.out.mem y.1).1 (List.mem_map.2 ⟨y, hy, rfl⟩)
                  rw [e]
                  have := idx_length (maskN n t)
                  rw [maskN_length] at this; omega)
                clear HGm HT
                obtain ⟨OA, oc, rfl⟩ := row_forms (hS.row 3 rfl)
                go_upto_region 24 with fail
                go_wp2_with (at_builtin; refine wpList_append_own2 rfl _ _ 42 rfl 0 38 i0 _ 1 24 Tryd.underlying42 hi0 hz0 hz1 hz2 rfl (by decide) _ L.length (L.map Prod.snd) rfl ((hS.alloc _).row 3 rfl) ⟨wr.heap.size, 0, none⟩ 1 1 [.slice KA (idxM d).length kc] rfl rfl (new1' _ _ _) (by intro u hu; simp at hu; rw [hu]; rfl) (by decide) (by unfold maxLen; omega) (by omega) (Nat.zero_le _) ?_; intro v' w4 hown hgrow hat)
                have hS5 := lits_push rfl ((hS.alloc (.cells #[.slice KA (idxM d).length kc] 38)).grown 3 rfl hown hgrow hat)
                clear hS hown hgrow hat
                obtain ⟨xv, hxv⟩ : ∃ xv : LV, xv = (idxM d, .slice KA (idxM d).length kc) := ⟨_, rfl⟩
                rw [← hxv] at hS5
                have hrw := hS5.row 1 rfl
                rw [insV_length] at hrw
                obtain ⟨g4, c4, rfl, -⟩ := row_form hrw (by omega)
                clear hrw
                rw [← nits_eq] at hS5
                go_upto_region 25 with fail
                go_loopg [12] L.length (fun m s12 wx => ∃ (a : Nat), a ≤ L.length ∧ m = a ∧ s12 = .int .i64 (a : Int) ∧ Hp [] w (mits gb0 A c F :: nits g4 c4 xv L a) wx ∧ Hid (∀ j x, a ≤ j → (L.map Prod.fst)[j]? = some x → lexI (idxM d) x = true))
                case atStart => exact ⟨L.length, Nat.le_refl _, rfl, rfl, hS5, Lib.hid (fun j x hj hx => by
                  have := (List.getElem?_eq_some_iff.1 hx).1
                  rw [List.length_map] at this; omega)⟩
                case round =>
                  obtain ⟨a, ha, rfl, rfl, hS, HL⟩ := hrel
                  clear hS5
                  cases gk with
                  | zero =>
                    have HT3 := Lib.hid (HT2.out 0 ⟨Nat.zero_le _, HL.out, fun k x e => by omega⟩)
                    clear HT2 HL
                    go_wp2_with fail
                    go_roundg (2 ^ n - (s + 1))
                    case measure => omega
                    case rel => exact ⟨s + 1, insV xv L 0, hsn, rfl, by first | rfl | simp, by rw [← nits_eq]; exact hS, by rw [insV_fst, hxv]; exact HT3⟩
                  | succ k =>
                    have hkp : (0 : Int) < ((k + 1 : Nat) : Int) := by omega
                    have hkl2 : (k : Int) < ((L.length + 1 : Nat) : Int) := by omega
                    obtain ⟨y, hy⟩ : ∃ y, L[k]? = some y := ⟨_, List.getElem?_eq_getElem (by omega)⟩
                    obtain ⟨hy1', hy2'⟩ := insV_at (x := xv) hy
                    obtain ⟨YA, yc, hyv, hYI⟩ := lits_ints (nits_eq .. ▸ hS) (List.mem_of_getElem? hy1')
                    obtain ⟨XA, xc, hxv2, hXI⟩ := lits_ints (nits_eq .. ▸ hS) (insV_mem (x := xv) (L := L) (a := k + 1))
                    have hyl : y.1.length ≤ 1000000 := by have := HLB.out y (List.mem_of_getElem? hy); omega
                    have HS2 := Lib.hid (nits_step hS hy)
                    have hyf : (L.map Prod.fst)[k]? = some y.1 := by rw [List.getElem?_map, hy]; rfl
                    obtain ⟨y, yv⟩ := y
                    simp only at hyv hYI hyl HS2 hyf
                    subst hyv
                    subst hxv
                    simp only at hXI hxv2 HS2
                    have hXK : XA = KA ∧ xc = kc := by injection hxv2 with a _ b; exact ⟨a.symm, b.symm⟩
                    obtain ⟨rfl, rfl⟩ := hXK
                    clear hxv2
                    have cy := row_cell (hS.row 1 rfl) (j := k) (u := .slice YA y.length yc) (by rw [List.getElem?_map, hy1']; rfl)
                    have cx := row_cell (hS.row 1 rfl) (j := k + 1) (u := .slice XA (idxM d).length xc) (by rw [List.getElem?_map, hy2']; rfl)
                    have fy := row_frozen (hS.row 1 rfl) k
                    have fx := row_frozen (hS.row 1 rfl) (k + 1)
                    have HB := Lib.hid (rbefore_any XA YA xc yc (idxM d) y wr hXI hYI (by omega) hyl)
                    have HYF := Lib.hid hyf
                    clear hXI hYI hyf HS2 fy fx cx
                    have HYk := Lib.hid hy
                    have H1 := Lib.hid hy1'
                    have H2 := Lib.hid hy2'
                    clear hy hy1' hy2'
                    go_wp2_with fail
                    refine HB.out.mono ?_
                    rintro e w5 ⟨rfl, hb5⟩
                    have hS5 := hS.next hb5
                    clear HB hS hb5 cy
                    cases hlx : lexI (idxM d) y with
                    | false =>
                      have HT3 := Lib.hid (HT2.out (k + 1) ⟨by rw [List.length_map]; exact ha, HL.out, fun k' x e hx => by
                        obtain rfl : k' = k := by omega
                        rw [HYF.out] at hx
                        injection hx with hx
                        rw [← hx]; exact hlx⟩)
                      clear HT2 HL hlx
                      go_wp2_with fail
                      go_roundg (2 ^ n - (s + 1))
                      case measure => omega
                      case rel => exact ⟨s + 1, insV _ L (k + 1), hsn, rfl, by first | rfl | simp, by rw [← nits_eq]; exact hS5, by rw [insV_fst]; exact HT3⟩
                    | true =>
                      have HL2 : Hid (∀ j x, k ≤ j → (L.map Prod.fst)[j]? = some x → lexI (idxM d) x = true) := Lib.hid (fun j x hj hx => by
                        by_cases hjk : j = k
                        · subst hjk
                          rw [HYF.out] at hx
                          injection hx with hx
                          rw [← hx]; exact hlx
                        · exact HL.out j x (by omega) hx)
                      have HS2 := Lib.hid (nits_step hS5 HYk.out)
                      have cy := row_cell (hS5.row 1 rfl) (j := k) (u := .slice YA y.length yc) (by rw [List.getElem?_map, H1.out]; rfl)
                      have cx := row_cell (hS5.row 1 rfl) (j := k + 1) (u := .slice XA (idxM d).length xc) (by rw [List.getElem?_map, H2.out]; rfl)
                      have fy := row_frozen (hS5.row 1 rfl) k
                      have fx := row_frozen (hS5.row 1 rfl) (k + 1)
                      simp only at HS2
                      clear HL hlx hS5
                      go_wp2_with fail
                      go_roundg k
                      case measure => omega
                      case rel => exact ⟨k, by omega, rfl, by first | rfl | simp, HS2.out, HL2⟩
    · have hlt : ¬ (s : Int) < wrap64 (2 ^ n) := by rw [hw2.out, Int.not_lt]; exact Int.ofNat_le.2 (by omega)
      have hsn' : s = 2 ^ n := by omega
      rw [hsn'] at HT
      have HR := Lib.hid (HT.out.all H0.out)
      clear HT hsn'
      go_wp2_with fail
      go_ret
      exact ⟨u5, rfl, L, HR.out, hS.tail⟩
set_option maxHeartbeats 2000000 in
theorem rMinimal_any (A : Option Addr) (c : Nat) (F : List Gt) (n : Int) (hF : F.length ≤ 512) (hK : ∀ g ∈ F, g.kids.length ≤ 1000000) (hn : n ≤ 9) (w : World) (hG : Gates w w.heap.size A F) :
    Calls Tryd.prog 27 #[.agg #[.slice A F.length c], .int .i64 n] w fun e w' => ∃ v L, e = .returned v ∧ L.map Prod.fst = minsP F n ∧ Hp [] w (lits v L) w' := by
  by_cases h0 : checkP F n = 0
  · have := check_bounds h0
    obtain ⟨m, rfl⟩ : ∃ m : Nat, n = m := ⟨n.toNat, by omega⟩
    exact rMinimal_ok A c F m hF hK (by omega) h0 w hG
  · have hk : Hp [] w [mits w.heap.size A c F] (w.alloc (.cells #[.slice A F.length c] 24)) := (Hp.start w).new 24 [.slice A F.length c]
    have HCk := Lib.hid (rcheck_any A c F n (by omega) hK _ (hG.keep' hk.below0))
    have hc0 : (checkP F n != 0) = true := by rw [bne_iff_ne]; exact h0
    have HV : Hid (minsP F n = []) := by refine Lib.hid ?_; rw [minsP, if_neg h0]
    clear h0
    go_enter Tryd.func27, Tryd.ntmps27
    go_upto_region 1 with fail
    have c0 := (hk.blk 0 rfl).cell 0
    simp only [List.getElem?_cons_zero] at c0
    go_wp2_with fail
    refine HCk.out.mono ?_
    rintro e w1 ⟨rfl, hb1⟩
    have hk1 := hk.next hb1
    have hk2 : Hp [] w (lits (.slice none 0 0) []) w1 := ((hk1.nilrow 38 1).perm (List.Perm.swap _ _ _)).tail
    clear HCk c0 hk hb1
    go_wp2_with fail
    go_ret
    exact ⟨.slice none 0 0, [], rfl, HV.out.symm, hk2⟩
end Go.Proofs.YteaaeaimjbaomaaDoor
