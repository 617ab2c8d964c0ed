/-
  dominoref20.Join.
-/
import Derived.Test.YteaaeaimjbaomaaDoorFmJ3
import Derived.Test.YteaaeaimjbaomaaDoorFmB
import Derived.Deep.RegionHeldLaw
import Derived.Deep.AppendLies
namespace Go.Proofs.YteaaeaimjbaomaaDoor
open Go.RowKit
set_option linter.unusedVariables false

theorem lies_alt' {W : World} {v : Value} {g n c : Nat} (h : v.ownBlock = some g ∨ g = W.heap.size) : (Value.slice (some ⟨g, 0, none⟩) n c).ownBlock = v.ownBlock ∨ ∀ b, (Value.slice (some ⟨g, 0, none⟩) n c).ownBlock = some b → W.heap.size ≤ b := by
  rcases h with h | h
  · exact .inl (by rw [h]; rfl)
  · exact .inr fun b hb => by simp [Value.ownBlock] at hb; omega
theorem jits_push2 {o : List Nat} {w W : World} {need : Int} {ks : List Int} {vg vk vx : Value} {P : List GV} {g : Gt} {n nk : Nat} {vs : List Value} {b1 b2 b3 b4 : It} (hnk : nk = g.kids.length) (hn : n = P.length + 2) (hvs : vs = gcells ((⟨need, ks, 0⟩, vk) :: P) ++ gcell (g, vx))
    (h : Hp o w (b1 :: irow 3 1 vx nk (ivals g.kids) :: b2 :: b3 :: b4 :: irow 40 3 vg n vs :: irow 3 1 vk ks.length (ivals ks) :: kidIts P) W) : Hp o w (b3 :: b4 :: jits need ks vg vk (P ++ [(g, vx)])) W := by
  subst hn
  subst hvs
  subst hnk
  have h1 := h.tail
  have h2 := h1.perm (List.perm_append_singleton _ _).symm
  have h3 : Hp o w (b2 :: (b3 :: b4 :: jits need ks vg vk (P ++ [(g, vx)]))) W := by
    have e : (b2 :: (b3 :: b4 :: jits need ks vg vk (P ++ [(g, vx)]))) = (b2 :: b3 :: b4 :: irow 40 3 vg (P.length + 2) (gcells ((⟨need, ks, 0⟩, vk) :: P) ++ gcell (g, vx)) :: irow 3 1 vk ks.length (ivals ks) :: kidIts P) ++ [irow 3 1 vx g.kids.length (ivals g.kids)] := by
      rw [← gcells_push]
      simp [jits, kidIts, kidIt]
    rw [e]; exact h2
  exact h3.tail
theorem map_last {l : List Int} {q : Nat} {x b : Int} (h : l.take (q + 1) = l.take q ++ [x]) : (l.take (q + 1)).map (· + b) = (l.take q).map (· + b) ++ [x + b] := by rw [h, List.map_append]; rfl
theorem apart3 {o : List Nat} {w W : World} {g9 gr : Nat} {t e : TypeId} {cs xs : List Value} {b2 : It} {s n m c : Nat} {r : List It} (h : Hp o w (iblk g9 t cs :: b2 :: irow e s (.slice (some ⟨gr, 0, none⟩) n c) m xs :: r) W) : gr ≠ g9 := by
  have hn := h.ne
  rintro rfl
  simp [ow, iblk, irow, Value.ownBlock] at hn
theorem apart2 {o : List Nat} {w W : World} {g1 g2 : Nat} {t e : TypeId} {cs xs : List Value} {b2 : It} {r : List It} (h : Hp o w (iblk g1 t cs :: b2 :: iblk g2 e xs :: r) W) : g1 ≠ g2 := by
  have hn := h.ne
  rintro rfl
  simp [ow, iblk] at hn
/-- a kid more for a gate in a block of its own -/
theorem kid_push2 {w W W1 : World} {g15 g14 n g cap : Nat} {t : TypeId} {a c vx : Value} {l : List Int} {cs : List Value} {r : List It} {b : Int}
    (h : Hp [] w (iblk g15 40 [a, vx, c] :: irow 3 1 vx n (ivals l) :: iblk g14 t cs :: r) W) (hown : W1.ownsRow 0 3 1 (.slice (some ⟨g, 0, none⟩) (n + 1) cap) (n + 1) (ivals l ++ [.int .i64 b])) (hgr : W.grownBy W1 vx.ownBlock) (hat : vx.ownBlock = some g ∨ g = W.heap.size) :
    W1.cell? ⟨g15, 1, none⟩ = some vx ∧ W1.frozen? ⟨g15, 1, none⟩ = false ∧ Hp [] w (iblk g15 40 [a, .slice (some ⟨g, 0, none⟩) (n + 1) cap, c] :: irow 3 1 (.slice (some ⟨g, 0, none⟩) (n + 1) cap) (n + 1) (ivals (l ++ [b])) :: iblk g14 t cs :: r) (W1.setCell ⟨g15, 1, none⟩ (.slice (some ⟨g, 0, none⟩) (n + 1) cap)) ∧
    (∀ i, W1.cell? ⟨g14, i, none⟩ = cs[i]?) ∧ Below w.heap.size w W1 := by
  have h4 := h.grown 1 rfl hown hgr (lies_alt' hat)
  refine ⟨(h4.blk 0 rfl).cell 1, (h4.blk 0 rfl).frozen 1, ?_, fun i => (h4.blk 2 rfl).cell i, h4.below0⟩
  have h7 := h4.set 0 rfl 1 (.slice (some ⟨g, 0, none⟩) (n + 1) cap)
  have e : irow 3 1 (.slice (some ⟨g, 0, none⟩) (n + 1) cap) (n + 1) (ivals (l ++ [b])) = irow 3 1 (.slice (some ⟨g, 0, none⟩) (n + 1) cap) (n + 1) (ivals l ++ [.int .i64 b]) := by simp [ivals]
  rw [e]
  exact h7
/-- a kid more for the root: the row has grown, then its slice is stored -/
theorem kid_push {o : List Nat} {w W W1 : World} {b1 b2 : It} {need : Int} {ks : List Int} {gr cr g cap : Nat} {vk : Value} {P : List GV} {b : Int}
    (h : Hp o w (b1 :: b2 :: jits need ks (.slice (some ⟨gr, 0, none⟩) (P.length + 1) cr) vk P) W) (hown : W1.ownsRow 0 3 1 (.slice (some ⟨g, 0, none⟩) (ks.length + 1) cap) (ks.length + 1) (ivals ks ++ [.int .i64 b])) (hgr : W.grownBy W1 vk.ownBlock) (hat : vk.ownBlock = some g ∨ g = W.heap.size) :
    W1.cell? ⟨gr, 1, none⟩ = some vk ∧ W1.frozen? ⟨gr, 1, none⟩ = false ∧ Hp o w (b1 :: b2 :: jits need (ks ++ [b]) (.slice (some ⟨gr, 0, none⟩) (P.length + 1) cr) (.slice (some ⟨g, 0, none⟩) (ks.length + 1) cap) P) (W1.setCell ⟨gr, 1, none⟩ (.slice (some ⟨g, 0, none⟩) (ks.length + 1) cap)) ∧
    (∀ (t : TypeId) (g9 : Nat) (v : Value), b1 = iblk g9 t [v] → W1.cell? ⟨g9, 0, none⟩ = some v) := by
  have h4 := h.grown 3 rfl hown hgr (lies_alt' hat)
  refine ⟨row_cell (h4.row 2 rfl) (j := 1) rfl, row_frozen (h4.row 2 rfl) 1, ?_, ?_⟩
  · have h7 := h4.rowset 2 rfl 1 (by omega) (.slice (some ⟨g, 0, none⟩) (ks.length + 1) cap)
    have e : irow 3 1 (.slice (some ⟨g, 0, none⟩) (ks.length + 1) cap) (ks ++ [b]).length (ivals (ks ++ [b])) = irow 3 1 (.slice (some ⟨g, 0, none⟩) (ks.length + 1) cap) (ks.length + 1) (ivals ks ++ [.int .i64 b]) := by simp [ivals]
    rw [jits, e]
    exact h7
  · intro t g9 v e
    subst e
    exact (h4.blk 0 rfl).cell 0
set_option maxRecDepth 20000 in
set_option maxHeartbeats 16000000 in
theorem rJoin_any (A : Option Addr) (c : Nat) (L : List (List Gt)) (need : Int) (hL : FewJ L) (w : World) (hF : Forms w A L) :
    Calls Tryd.prog 32 #[.int .i64 need, .slice A L.length c] w fun e w' => JoinOut (joinP need L) e w' ∧ Below w.heap.size w w' := by
  have hk : Hp [] w [iblk w.heap.size 24 [.slice none 0 0]] (w.alloc (.cells #[.slice none 0 0] 24)) := (Hp.start w).new 24 [.slice none 0 0]
  have hL12 := hL.len
  obtain ⟨g4, hg4⟩ : ∃ g, w.heap.size = g := ⟨_, rfl⟩
  rw [hg4] at hk
  by_cases hz : L = []
  · have HV : Hid (joinP need L = ([], 6)) := by refine Lib.hid ?_; rw [joinP, if_pos hz]
    have hl0 : L.length = 0 := by rw [hz]; rfl
    have h9 : ((L.length : Int) == 0) = true := by rw [hl0]; rfl
    clear hz hl0
    go_enter Tryd.func32, Tryd.ntmps32
    go_upto_region 1 with fail
    have c4 := (hk.blk 0 rfl).cell 0
    have f4 := (hk.blk 0 rfl).frozen 0
    simp only [List.getElem?_cons_zero] at c4
    go_wp2_with fail
    refine bodyPost_ret (v := .tuple #[.agg #[.slice none 0 0], .int .i64 6]) (by simp [results, Tryd.results32, go_sem, c4]) rfl ?_
    exact ⟨⟨none, 0, by rw [HV.out]; rfl, by rw [HV.out]; exact gates_none _ _⟩, by first | exact hk.below0 | (subst hg4; exact hk.below0)⟩
  · have hpos : 0 < L.length := List.length_pos_iff.2 hz
    have h9 : ((L.length : Int) == 0) = false := by rw [beq_eq_false_iff_ne]; omega
    have HZ := Lib.hid hz
    clear hz
    go_enter Tryd.func32, Tryd.ntmps32
    go_upto_region 1 with fail
    generalize w.alloc (.cells #[.slice none 0 0] 24) = W at *
    go_upto_region 4 with fail
    go_loopg [6] L.length (fun m s6 wx => ∃ i : Nat, i ≤ L.length ∧ m = L.length - i ∧ s6 = .int .i64 (i : Int) ∧ Hp [] w [iblk g4 24 [.slice none 0 0]] wx ∧ Hid (∀ j F, j < i → L[j]? = some F → okJ F = true))
    case atStart => exact ⟨0, Nat.zero_le _, rfl, rfl, hk, Lib.hid (fun j F hj => absurd hj (Nat.not_lt_zero _))⟩
    case round =>
      obtain ⟨i, hi, rfl, rfl, hS, HI⟩ := hrel
      clear hk
      by_cases hil : i < L.length
      · have hii : (i : Int) < (L.length : Int) := by omega
        have hi0 : (0 : Int) ≤ (i : Int) := by omega
        obtain ⟨F, hFi⟩ : ∃ F, L[i]? = some F := ⟨_, List.getElem?_eq_getElem hil⟩
        have hF40 := hL.gates F (List.mem_of_getElem? hFi)
        have hK40 := hL.kids F (List.mem_of_getElem? hFi)
        obtain ⟨ad, GA, gc, rfl, ca0, hG⟩ := hF.at_ hFi
        have ca := (hS.below0.cell (cell_lt ca0)).trans ca0
        have HC := Lib.hid (rleaves_any GA gc F (by omega) (fun g hg => by have := hK40 g hg; omega) wr (hG.keep' hS.below0))
        have HFi := Lib.hid hFi
        clear hFi
        go_wp2_with fail
        refine HC.out.mono ?_
        rintro e w3 ⟨⟨y, rfl, -⟩, hb3⟩
        have hS3 := hS.next hb3
        have ca3 := (hb3.cell (cell_lt ca)).trans ca
        clear HC hS hb3 ca ca0 hG
        have c4 := (hS3.blk 0 rfl).cell 0
        have f4 := (hS3.blk 0 rfl).frozen 0
        have hk2 := hS3.set 0 rfl 0 (.slice none 0 0)
        have d4 := (hk2.blk 0 rfl).cell 0
        simp only [List.getElem?_cons_zero, List.set_cons_zero] at c4 d4
        have hoL : okL F = (leavesP F).2 := by unfold okL; rw [decide_eq_true (by omega : F.length ≤ 512)]; rfl
        rw [hoL]
        cases hok : okJ F with
        | false =>
          have HV : Hid (joinP need L = ([], 3)) := by refine Lib.hid ?_; rw [joinP, if_neg HZ.out, if_pos (join_bad HFi.out hok)]
          cases hlv : (leavesP F).2 with
          | false =>
            clear hok hS3 hoL
            go_wp2_with fail
            refine bodyPost_ret (v := .tuple #[.agg #[.slice none 0 0], .int .i64 3]) (by simp [results, Tryd.results32, go_sem, d4]) rfl ?_
            exact ⟨⟨none, 0, by rw [HV.out]; rfl, by rw [HV.out]; exact gates_none _ _⟩, by first | exact hk2.below0 | (subst hg4; exact hk2.below0)⟩
          | true =>
            have hF0 : F = [] := by
              unfold okJ at hok
              rw [hlv] at hok
              simpa using hok
            have hl0 : ((F.length : Int) == 0) = true := by rw [hF0]; rfl
            clear hok hS3 hF0 hoL
            go_wp2_with fail
            refine bodyPost_ret (v := .tuple #[.agg #[.slice none 0 0], .int .i64 3]) (by simp [results, Tryd.results32, go_sem, d4]) rfl ?_
            exact ⟨⟨none, 0, by rw [HV.out]; rfl, by rw [HV.out]; exact gates_none _ _⟩, by first | exact hk2.below0 | (subst hg4; exact hk2.below0)⟩
        | true =>
          have hlv : (leavesP F).2 = true := by unfold okJ at hok; rw [Bool.and_eq_true] at hok; exact hok.1
          have hF0 : F ≠ [] := by unfold okJ at hok; rw [Bool.and_eq_true] at hok; exact of_decide_eq_true hok.2
          have hFp := List.length_pos_iff.2 hF0
          have hl0 : ((F.length : Int) == 0) = false := by rw [beq_eq_false_iff_ne]; omega
          have HI2 : Hid (∀ j F, j < i + 1 → L[j]? = some F → okJ F = true) := Lib.hid (fun j G hj hG => by
            by_cases hji : j = i
            · subst hji
              rw [HFi.out] at hG
              injection hG with hG
              rw [← hG]; exact hok
            · exact HI.out j G (by omega) hG)
          clear hok hF0 hk2 d4 HI hoL
          go_wp2_with fail
          go_roundg (L.length - (i + 1))
          case measure => omega
          case rel => exact ⟨i + 1, hil, rfl, by first | rfl | simp, hS3, HI2⟩
      · have hii : ¬ (i : Int) < (L.length : Int) := by omega
        have hall := join_all (fun j F hj => HI.out j F (by omega))
        clear HI
        by_cases hnd : need < 1 ∨ (L.length : Int) < need
        · have HV : Hid (joinP need L = ([], 2)) := by refine Lib.hid ?_; rw [joinP, if_neg HZ.out, if_neg (by rw [hall]; simp), if_pos hnd]
          have c4 := (hS.blk 0 rfl).cell 0
          have f4 := (hS.blk 0 rfl).frozen 0
          have hk2 := hS.set 0 rfl 0 (.slice none 0 0)
          have d4 := (hk2.blk 0 rfl).cell 0
          simp only [List.getElem?_cons_zero, List.set_cons_zero] at c4 d4
          by_cases hn1 : need < 1
          · clear hnd
            go_wp2_with fail
            refine bodyPost_ret (v := .tuple #[.agg #[.slice none 0 0], .int .i64 2]) (by simp [results, Tryd.results32, go_sem, d4]) rfl ?_
            exact ⟨⟨none, 0, by rw [HV.out]; rfl, by rw [HV.out]; exact gates_none _ _⟩, by first | exact hk2.below0 | (subst hg4; exact hk2.below0)⟩
          · have hn2 : (L.length : Int) < need := by omega
            clear hnd
            go_wp2_with fail
            refine bodyPost_ret (v := .tuple #[.agg #[.slice none 0 0], .int .i64 2]) (by simp [results, Tryd.results32, go_sem, d4]) rfl ?_
            exact ⟨⟨none, 0, by rw [HV.out]; rfl, by rw [HV.out]; exact gates_none _ _⟩, by first | exact hk2.below0 | (subst hg4; exact hk2.below0)⟩
        · have hn1 : ¬ need < 1 := fun h => hnd (.inl h)
          have hn2 : ¬ (L.length : Int) < need := fun h => hnd (.inr h)
          have HV : Hid (joinP need L = if 512 < (joinF L).1.length + 1 ∨ 256 < (joinF L).2.2 then ([], 6) else (⟨need, (joinF L).2.1, 0⟩ :: (joinF L).1, 0)) := by refine Lib.hid ?_; rw [joinP, if_neg HZ.out, if_neg (by rw [hall]; simp), if_neg hnd]
          have HA := Lib.hid hall
          clear hnd hall
          obtain ⟨j0, hj0, hy0, hy1, hy2⟩ := info_parts int_info
          obtain ⟨i0, hi0, hz0, hz1, hz2⟩ := info_parts gate_info
          go_upto_region 14 with fail
          have hS0 : Hp [] w (iblk (wr.heap.size + 1) 24 [.slice (some ⟨wr.heap.size, 0, none⟩) 1 1] :: iblk g4 24 [.slice none 0 0] :: jits need [] (.slice (some ⟨wr.heap.size, 0, none⟩) 1 1) (.slice none 0 0) []) ((wr.alloc (.cells #[.int .i64 need, .slice none 0 0, .int .i64 0] 40)).alloc (.cells #[.slice (some ⟨wr.heap.size, 0, none⟩) 1 1] 24)) := by
            have h7 := (hS.newrow rfl (row_new wr 40 3 1 [.int .i64 need, .slice none 0 0, .int .i64 0] rfl (by omega)) ((Below.refl _ _).alloc (Nat.le_refl _) _)).nilrow 3 1
            have h8 := (h7.perm ((List.Perm.swap _ _ _).trans (((List.Perm.swap _ _ _).cons _).trans (List.Perm.swap _ _ _)))).new 24 [.slice (some ⟨wr.heap.size, 0, none⟩) 1 1]
            have hsz : ∀ (w : World) (o : Obj), (w.alloc o).heap.size = w.heap.size + 1 := fun w o => by simp
            rw [hsz] at h8
            exact h8
          clear hS
          generalize wr.heap.size + 1 = g9 at *
          go_loopg [10, 11] L.length (fun m s10 s11 wx => ∃ (i : Nat) (P : List GV) (vk vg : Value), i ≤ L.length ∧ m = L.length - i ∧ s11 = .int .i64 (i : Int) ∧ s10 = .int .i64 ((joinF (L.take i)).2.2 : Int) ∧ gts P = (joinF (L.take i)).1 ∧ Hp [] w (iblk g9 24 [vg] :: iblk g4 24 [.slice none 0 0] :: jits need (joinF (L.take i)).2.1 vg vk P) wx)
          case atStart => exact ⟨0, [], .slice none 0 0, _, Nat.zero_le _, rfl, rfl, rfl, rfl, hS0⟩
          case round =>
            obtain ⟨i, P, vk, vg, hi, rfl, rfl, rfl, hP, hS⟩ := hrel
            clear hS0
            have hT40 : ∀ F ∈ L.take i, F.length ≤ 40 := fun F h => hL.gates F (List.mem_of_mem_take h)
            obtain ⟨bd1, bd2, bd3⟩ := joinF_bd (L.take i) hT40
            have htl : (L.take i).length ≤ 12 := by rw [List.length_take]; omega
            have hPl : P.length = (joinF (L.take i)).1.length := by rw [← hP]; simp [gts]
            by_cases hil2 : i < L.length
            · have hii2 : (i : Int) < (L.length : Int) := by omega
              have hi0' : (0 : Int) ≤ (i : Int) := by omega
              obtain ⟨F, hFi⟩ : ∃ F, L[i]? = some F := ⟨_, List.getElem?_eq_getElem hil2⟩
              have hF40 := hL.gates F (List.mem_of_getElem? hFi)
              have hK40 := hL.kids F (List.mem_of_getElem? hFi)
              have hokF : okJ F = true := List.all_eq_true.1 HA.out F (List.mem_of_getElem? hFi)
              have HFK := Lib.hid (kid_bd hokF)
              have HST : Hid (joinF (L.take (i + 1)) = jstep (joinF (L.take i)) F) := Lib.hid (by rw [take_last hFi, joinF_last])
              obtain ⟨ad, GA, gc, rfl, ca0, hG⟩ := hF.at_ hFi
              clear hokF hFi hT40
              have HP := Lib.hid hP
              generalize joinF (L.take i) = S at *
              obtain ⟨R, ks, k⟩ := S
              simp only at bd1 bd2 bd3 hPl hS hP HP ⊢
              have hP480 : P.length ≤ 480 := by omega
              have hks12 : ks.length ≤ 12 := by omega
              have hk480 : k ≤ 480 := by omega
              clear hP bd1 bd2 bd3 hPl htl
              obtain ⟨gr, cr, rfl, -⟩ := row_form (hS.row 2 rfl) (by omega)
              obtain ⟨VK, vc, rfl⟩ := row_forms (hS.row 3 rfl)
              have c9 := (hS.blk 0 rfl).cell 0
              simp only [List.getElem?_cons_zero] at c9
              go_upto_region 17 with fail
              go_cut [] (fun wx => ∃ vk2, Hp [] w (iblk g9 24 [.slice (some ⟨gr, 0, none⟩) (P.length + 1) cr] :: iblk g4 24 [.slice none 0 0] :: jits need (ks ++ [(P.length : Int) + 1]) (.slice (some ⟨gr, 0, none⟩) (P.length + 1) cr) vk2 P) wx)
              case first => as_aux_lemma =>
                --F17
                have hSd := hS.drew
                have hSn := (hS.alloc (.cells #[.int .i64 ((P.length : Int) + 1)] 3)).drew
                have hSe := hS.drew.alloc (.cells #[.int .i64 ((P.length : Int) + 1)] 3)
                have hgn : gr ≠ g9 := apart3 hS
                clear hS c9
                have d9 := (hSd.blk 0 rfl).cell 0
                have e9 := (hSe.blk 0 rfl).cell 0
                have dv := row_cell (hSd.row 2 rfl) (j := 1) (u := .slice VK ks.length vc) rfl
                have ev := row_cell (hSe.row 2 rfl) (j := 1) (u := .slice VK ks.length vc) rfl
                simp only [List.getElem?_cons_zero] at d9 e9
                have HSe := Lib.hid hSe
                have HSn := Lib.hid hSn
                have n9 := (hSn.blk 0 rfl).cell 0
                have nv := row_cell (hSn.row 2 rfl) (j := 1) (u := .slice VK ks.length vc) rfl
                simp only [List.getElem?_cons_zero] at n9
                clear hSe hSn
                --BEGIN17
                refine wp_region_held_drew (S := (fun w' => w'.cell? ⟨g9, 0, none⟩ = some (.slice (some ⟨gr, 0, none⟩) (P.length + 1) cr))) (by kernel_rfl) ?_ (fun hHeld => ?_)
                · exact d9
                refine wpAnyH_take (i := 0) (v := ?_) rfl (by kernel_rfl) (by kernel_rfl) (by kernel_rfl) (fun _ _ _ h => h) (Or.inl ⟨by rfl, ?_⟩) (by assumption) ?_
                rotate_left
                · (intro w hSw; (try dsimp only at hSw); (try obtain ⟨hSw1, hSw2⟩ := hSw); go_simp; (try with_reducible rfl))
                try simp only [Act.put, List.getElem_toArray, List.getElem_cons_zero, List.setIfInBounds_toArray, List.set_cons_zero, List.set_cons_succ]
                refine wpAnyH_take (i := 1) (v := ?_) rfl (by kernel_rfl) (by kernel_rfl) (by kernel_rfl) (fun _ _ _ h => h) (Or.inl ⟨by rfl, ?_⟩) (by assumption) ?_
                rotate_left
                · (intro w hSw; (try dsimp only at hSw); (try obtain ⟨hSw1, hSw2⟩ := hSw); go_simp; (try with_reducible rfl))
                try simp only [Act.put, List.getElem_toArray, List.getElem_cons_zero, List.getElem_cons_succ, List.setIfInBounds_toArray, List.set_cons_zero, List.set_cons_succ]
                refine wpAnyH_take (i := 2) (v := ?_) rfl (by kernel_rfl) (by kernel_rfl) (by kernel_rfl) (fun _ _ _ h => h) (Or.inl ⟨by rfl, ?_⟩) (by assumption) ?_
                rotate_left
                · (intro w hSw; (try dsimp only at hSw); (try obtain ⟨hSw1, hSw2⟩ := hSw); go_simp; (try with_reducible rfl))
                try simp only [Act.put, List.getElem_toArray, List.getElem_cons_zero, List.getElem_cons_succ, List.setIfInBounds_toArray, List.set_cons_zero, List.set_cons_succ]
                refine wpAnyH_take (i := 3) (v := ?_) rfl (by kernel_rfl) (by kernel_rfl) (by kernel_rfl) (fun _ _ _ h => h) (Or.inl ⟨by rfl, ?_⟩) (by assumption) ?_
                rotate_left
                · (intro w hSw; (try dsimp only at hSw); (try obtain ⟨hSw1, hSw2⟩ := hSw); go_simp; (try with_reducible rfl))
                try simp only [Act.put, List.getElem_toArray, List.getElem_cons_zero, List.getElem_cons_succ, List.setIfInBounds_toArray, List.set_cons_zero, List.set_cons_succ]
                refine wpAnyH_take (i := 4) (v := ?_) rfl (by kernel_rfl) (by kernel_rfl) (by kernel_rfl) (fun _ _ _ h => h) (Or.inl ⟨by rfl, ?_⟩) (by assumption) ?_
                rotate_left
                · (intro w hSw; (try dsimp only at hSw); (try obtain ⟨hSw1, hSw2⟩ := hSw); go_simp; (try with_reducible rfl))
                try simp only [Act.put, List.getElem_toArray, List.getElem_cons_zero, List.getElem_cons_succ, List.setIfInBounds_toArray, List.set_cons_zero, List.set_cons_succ]
                refine wpAnyH_take (i := 5) (v := ?_) rfl (by kernel_rfl) (by kernel_rfl) (by kernel_rfl) (fun _ _ _ h => h) (Or.inl ⟨by rfl, ?_⟩) (by assumption) ?_
                rotate_left
                · (intro w hSw; (try dsimp only at hSw); (try obtain ⟨hSw1, hSw2⟩ := hSw); go_simp; (try with_reducible rfl))
                try simp only [Act.put, List.getElem_toArray, List.getElem_cons_zero, List.getElem_cons_succ, List.setIfInBounds_toArray, List.set_cons_zero, List.set_cons_succ]
                refine wpAnyH_take (i := 7) (v := ?_) rfl (by kernel_rfl) (by kernel_rfl) (by kernel_rfl) (fun _ _ _ h => h) (Or.inl ⟨by rfl, ?_⟩) (by assumption) ?_
                rotate_left
                · (intro w hSw; (try dsimp only at hSw); (try obtain ⟨hSw1, hSw2⟩ := hSw); go_simp; (try with_reducible rfl))
                try simp only [Act.put, List.getElem_toArray, List.getElem_cons_zero, List.getElem_cons_succ, List.setIfInBounds_toArray, List.set_cons_zero, List.set_cons_succ]
                refine wpAnyH_ready (rs := [6, 8]) (by kernel_rfl) (by simp) ?_
                refine AllReadyH.cons rfl (fun K hK => ?_) ?_
                · go_simp
                  refine hK.out _ _ ?_ (fun hHeld => ?_)
                  · first | exact d9 | exact e9 | exact n9 | exact k9 | exact l9
                  clear hK K
                  refine wpAnyH_ready (rs := [8]) (by kernel_rfl) (by simp) ?_
                  refine AllReadyH.cons rfl (fun K hK => ?_) ?_
                  · go_simp
                    refine hK.out _ _ ?_ (fun hHeld => ?_)
                    · first | exact d9 | exact e9 | exact n9 | exact k9 | exact l9
                    clear hK K
                    refine wpAnyH_ready (rs := [9]) (by kernel_rfl) (by simp) ?_
                    refine AllReadyH.cons rfl (fun K hK => ?_) ?_
                    · refine step_append_lies _ (by rfl) (.tmp 75) (.tmp 77) 38 (by rfl) 0 3 j0 _ 1 8 Tryd.underlying38 hj0 hy0 hy1 hy2 rfl (by decide) (.slice VK ks.length vc) ks.length (ivals ks) (by rfl) ?o1 _ 1 1 [.int .i64 ((P.length : Int) + 1)] (by rfl) (by rfl) ?nw ?oc (by decide) ?l1 ?l2 ?l3 _ (by rfl) ?_
                      case o1 => (first | exact HSe.out.row 3 rfl | exact HSn.out.row 3 rfl)
                      case nw => exact new1' _ _ _
                      case oc => (intro u hu; simp at hu; rw [hu]; rfl)
                      case l1 => (unfold maxLen; omega)
                      case l2 => omega
                      case l3 => exact Nat.zero_le _
                      intro gn cn w1 hownn hgrow hat hltn
                      first | (obtain ⟨k1, k2, k3, k4⟩ := kid_push HSe.out hownn hgrow hat) | (obtain ⟨k1, k2, k3, k4⟩ := kid_push HSn.out hownn hgrow hat)
                      have k9 := k4 _ _ _ rfl
                      have l9 := cell_far (q := ⟨gr, 1, none⟩) k9 hgn (.slice (some ⟨gn, 0, none⟩) (ks.length + 1) cn)
                      clear hownn hgrow hat hltn k4
                      refine hK.out _ _ ?_ (fun hHeld => ?_)
                      · first | exact d9 | exact e9 | exact n9 | exact k9 | exact l9
                      clear hK K
                      refine wpAnyH_take (i := 10) (v := ?_) rfl (by kernel_rfl) (by kernel_rfl) (by kernel_rfl) (fun _ _ _ h => h) (Or.inl ⟨by rfl, ?_⟩) (by assumption) ?_
                      rotate_left
                      · (intro w hSw; (try dsimp only at hSw); (try obtain ⟨hSw1, hSw2⟩ := hSw); go_simp; (try with_reducible rfl))
                      try simp only [Act.put, List.getElem_toArray, List.getElem_cons_zero, List.getElem_cons_succ, List.setIfInBounds_toArray, List.set_cons_zero, List.set_cons_succ]
                      refine wpAnyH_take (i := 11) (v := ?_) rfl (by kernel_rfl) (by kernel_rfl) (by kernel_rfl) (fun _ _ _ h => h) (Or.inl ⟨by rfl, ?_⟩) (by assumption) ?_
                      rotate_left
                      · (intro w hSw; (try dsimp only at hSw); (try obtain ⟨hSw1, hSw2⟩ := hSw); go_simp; (try with_reducible rfl))
                      try simp only [Act.put, List.getElem_toArray, List.getElem_cons_zero, List.getElem_cons_succ, List.setIfInBounds_toArray, List.set_cons_zero, List.set_cons_succ]
                      refine wpAnyH_ready (rs := [12]) (by kernel_rfl) (by simp) ?_
                      refine AllReadyH.cons rfl (fun K hK => ?_) ?_
                      · go_simp
                        refine hK.out _ _ ?_ (fun hHeld => ?_)
                        · first | exact d9 | exact e9 | exact n9 | exact k9 | exact l9
                        clear hK K
                        refine wpAnyH_done (by kernel_rfl) ?_ _
                        go_wp2_with fail
                        go_meet
                        exact ⟨_, k3⟩
                      exact AllReadyH.nil
                    exact AllReadyH.nil
                  exact AllReadyH.nil
                refine AllReadyH.cons rfl (fun K hK => ?_) ?_
                · go_simp
                  refine hK.out _ _ ?_ (fun hHeld => ?_)
                  · first | exact d9 | exact e9 | exact n9 | exact k9 | exact l9
                  clear hK K
                  refine wpAnyH_ready (rs := [6]) (by kernel_rfl) (by simp) ?_
                  refine AllReadyH.cons rfl (fun K hK => ?_) ?_
                  · go_simp
                    refine hK.out _ _ ?_ (fun hHeld => ?_)
                    · first | exact d9 | exact e9 | exact n9 | exact k9 | exact l9
                    clear hK K
                    refine wpAnyH_ready (rs := [9]) (by kernel_rfl) (by simp) ?_
                    refine AllReadyH.cons rfl (fun K hK => ?_) ?_
                    · refine step_append_lies _ (by rfl) (.tmp 75) (.tmp 77) 38 (by rfl) 0 3 j0 _ 1 8 Tryd.underlying38 hj0 hy0 hy1 hy2 rfl (by decide) (.slice VK ks.length vc) ks.length (ivals ks) (by rfl) ?o1 _ 1 1 [.int .i64 ((P.length : Int) + 1)] (by rfl) (by rfl) ?nw ?oc (by decide) ?l1 ?l2 ?l3 _ (by rfl) ?_
                      case o1 => (first | exact HSe.out.row 3 rfl | exact HSn.out.row 3 rfl)
                      case nw => exact new1' _ _ _
                      case oc => (intro u hu; simp at hu; rw [hu]; rfl)
                      case l1 => (unfold maxLen; omega)
                      case l2 => omega
                      case l3 => exact Nat.zero_le _
                      intro gn cn w1 hownn hgrow hat hltn
                      first | (obtain ⟨k1, k2, k3, k4⟩ := kid_push HSe.out hownn hgrow hat) | (obtain ⟨k1, k2, k3, k4⟩ := kid_push HSn.out hownn hgrow hat)
                      have k9 := k4 _ _ _ rfl
                      have l9 := cell_far (q := ⟨gr, 1, none⟩) k9 hgn (.slice (some ⟨gn, 0, none⟩) (ks.length + 1) cn)
                      clear hownn hgrow hat hltn k4
                      refine hK.out _ _ ?_ (fun hHeld => ?_)
                      · first | exact d9 | exact e9 | exact n9 | exact k9 | exact l9
                      clear hK K
                      refine wpAnyH_take (i := 10) (v := ?_) rfl (by kernel_rfl) (by kernel_rfl) (by kernel_rfl) (fun _ _ _ h => h) (Or.inl ⟨by rfl, ?_⟩) (by assumption) ?_
                      rotate_left
                      · (intro w hSw; (try dsimp only at hSw); (try obtain ⟨hSw1, hSw2⟩ := hSw); go_simp; (try with_reducible rfl))
                      try simp only [Act.put, List.getElem_toArray, List.getElem_cons_zero, List.getElem_cons_succ, List.setIfInBounds_toArray, List.set_cons_zero, List.set_cons_succ]
                      refine wpAnyH_take (i := 11) (v := ?_) rfl (by kernel_rfl) (by kernel_rfl) (by kernel_rfl) (fun _ _ _ h => h) (Or.inl ⟨by rfl, ?_⟩) (by assumption) ?_
                      rotate_left
                      · (intro w hSw; (try dsimp only at hSw); (try obtain ⟨hSw1, hSw2⟩ := hSw); go_simp; (try with_reducible rfl))
                      try simp only [Act.put, List.getElem_toArray, List.getElem_cons_zero, List.getElem_cons_succ, List.setIfInBounds_toArray, List.set_cons_zero, List.set_cons_succ]
                      refine wpAnyH_ready (rs := [12]) (by kernel_rfl) (by simp) ?_
                      refine AllReadyH.cons rfl (fun K hK => ?_) ?_
                      · go_simp
                        refine hK.out _ _ ?_ (fun hHeld => ?_)
                        · first | exact d9 | exact e9 | exact n9 | exact k9 | exact l9
                        clear hK K
                        refine wpAnyH_done (by kernel_rfl) ?_ _
                        go_wp2_with fail
                        go_meet
                        exact ⟨_, k3⟩
                      exact AllReadyH.nil
                    exact AllReadyH.nil
                  exact AllReadyH.nil
                exact AllReadyH.nil
                --END17
                --E17
              case rest => as_aux_lemma =>
                obtain ⟨vk2, hS2⟩ := hcut
                clear hS c9
                obtain ⟨ks2, hks2⟩ : ∃ ks2, ks ++ [(P.length : Int) + 1] = ks2 := ⟨_, rfl⟩
                rw [hks2] at hS2
                have HK2 := Lib.hid hks2
                clear hks2
                go_upto_region 19 with fail
                go_loopg [10, 13] F.length (fun m s10 s13 wx => ∃ (j : Nat) (Q : List GV) (vg : Value), j ≤ F.length ∧ m = F.length - j ∧ s13 = .int .i64 (j : Int) ∧ s10 = .int .i64 ((k + leafN (F.take j) : Nat) : Int) ∧ gts Q = R ++ movG ((R.length : Int) + 1) k (F.take j) ∧ Hp [] w (iblk g9 24 [vg] :: iblk g4 24 [.slice none 0 0] :: jits need ks2 vg vk2 Q) wx)
                case atStart => exact ⟨0, P, _, Nat.zero_le _, rfl, rfl, rfl, by rw [HP.out]; simp [movG], hS2⟩
                case round =>
                  obtain ⟨j, Q, vg, hj, rfl, rfl, rfl, hQ, hS⟩ := hrel
                  clear hS2
                  have hQl : Q.length = R.length + j := by
                    have h7 := congrArg List.length hQ
                    rw [List.length_append, movG_length, List.length_take, Nat.min_eq_left hj] at h7
                    simpa [gts] using h7
                  have hRP : R.length = P.length := by rw [← HP.out]; simp [gts]
                  have hQ520 : Q.length ≤ 520 := by omega
                  have hlf := leafN_le (F.take j)
                  have hlf40 : k + leafN (F.take j) ≤ 520 := by rw [List.length_take] at hlf; omega
                  clear hlf hQl
                  have HQ := Lib.hid hQ
                  have HRP := Lib.hid hRP
                  clear hQ hRP
                  have ca := (hS.below0.cell (cell_lt ca0)).trans ca0
                  by_cases hjl : j < F.length
                  · have hjj : (j : Int) < (F.length : Int) := by omega
                    have hj0' : (0 : Int) ≤ (j : Int) := by omega
                    obtain ⟨g, hg⟩ : ∃ g, F[j]? = some g := ⟨_, List.getElem?_eq_getElem hjl⟩
                    have hgk := hK40 g (List.mem_of_getElem? hg)
                    have HGK := Lib.hid (HFK.out g (List.mem_of_getElem? hg))
                    have HTK := Lib.hid (take_last hg)
                    obtain ⟨fd, rfl, KA, kc, gn1, gk1, gl1, hKI⟩ := hG.read hS.below0 hg
                    clear hg
                    generalize hqq : ((k + leafN (F.take j) : Nat) : Int) = kl at *
                    have hkl0 : 0 ≤ kl := by omega
                    have hkl1 : kl ≤ 520 := by omega
                    have HKL := Lib.hid hqq
                    clear hqq
                    go_upto_region 22 with fail
                    have hS1 := hS.new 40 [.int .i64 g.need, .slice KA g.kids.length kc, .int .i64 g.leaf]
                    clear hS gn1 gk1 gl1 ca
                    generalize wr.alloc (.cells #[.int .i64 g.need, .slice KA g.kids.length kc, .int .i64 g.leaf] 40) = w6 at *
                    generalize wr.heap.size = g14 at *
                    obtain ⟨p0, p1, p2⟩ := (hS1.blk 0 rfl).get3
                    go_upto_region 24 with fail
                    have hS2 := (hS1.nilrow 3 1).new 40 [.int .i64 g.need, .slice none 0 0, .int .i64 0]
                    clear hS1 p0 p1 p2
                    generalize w6.alloc (.cells #[.int .i64 g.need, .slice none 0 0, .int .i64 0] 40) = w7 at *
                    generalize w6.heap.size = g15 at *
                    go_loopg [16] g.kids.length (fun m s16 wx => ∃ (q : Nat) (vx : Value), q ≤ g.kids.length ∧ m = g.kids.length - q ∧ s16 = .int .i64 (q : Int) ∧ Hp [] w (iblk g15 40 [.int .i64 g.need, vx, .int .i64 0] :: irow 3 1 vx q (ivals ((g.kids.take q).map (· + ((P.length : Int) + 1)))) :: iblk g14 40 [.int .i64 g.need, .slice KA g.kids.length kc, .int .i64 g.leaf] :: iblk g9 24 [vg] :: iblk g4 24 [.slice none 0 0] :: jits need ks2 vg vk2 Q) wx)
                    case atStart => exact ⟨0, .slice none 0 0, Nat.zero_le _, rfl, rfl, hS2⟩
                    case round =>
                      obtain ⟨q, vx, hq, rfl, rfl, hS⟩ := hrel
                      clear hS2
                      obtain ⟨p0, p1, p2⟩ := (hS.blk 2 rfl).get3
                      by_cases hql : q < g.kids.length
                      · have hqq2 : (q : Int) < (g.kids.length : Int) := by omega
                        have hq0' : (0 : Int) ≤ (q : Int) := by omega
                        obtain ⟨x, hx⟩ : ∃ x, g.kids[q]? = some x := ⟨_, List.getElem?_eq_getElem hql⟩
                        obtain ⟨hx0, hx1⟩ := HGK.out x (List.mem_of_getElem? hx)
                        obtain ⟨kd, rfl, cx0⟩ := hKI.read (Below.refl _ _) hx
                        have HTQ := Lib.hid (take_last hx)
                        obtain ⟨XA, xc, rfl⟩ := row_forms (hS.row 1 rfl)
                        clear hx
                        go_upto_region 26 with fail
                        --F26
                        have hSd := hS.drew
                        have hSe := hS.drew.alloc (.cells #[.int .i64 (x + ((P.length : Int) + 1))] 3)
                        have hSn := (hS.alloc (.cells #[.int .i64 (x + ((P.length : Int) + 1))] 3)).drew
                        have hgn : g15 ≠ g14 := apart2 hS
                        have hwr : IntKind.i64.wrap (x + ((P.length : Int) + 1)) = x + ((P.length : Int) + 1) := IntWalk.i64_in _ (by omega)
                        have d1 := (hSd.blk 0 rfl).cell 1
                        have e1 := (hSe.blk 0 rfl).cell 1
                        have n1 := (hSn.blk 0 rfl).cell 1
                        have d2 : wr.drew.cell? ⟨g14, 1, none⟩ = some (.slice (some kd) g.kids.length kc) := (hSd.blk 2 rfl).cell 1
                        have e2 := (hSe.blk 2 rfl).cell 1
                        have n2 := (hSn.blk 2 rfl).cell 1
                        have d3 := (hSd.below0.cell (cell_lt cx0)).trans cx0
                        have e3 := (hSe.below0.cell (cell_lt cx0)).trans cx0
                        have n3 := (hSn.below0.cell (cell_lt cx0)).trans cx0
                        simp only [List.getElem?_cons_zero, List.getElem?_cons_succ] at d1 e1 n1 e2 n2
                        have HSe := Lib.hid hSe
                        have HSn := Lib.hid hSn
                        clear hS hSd hSe hSn p0 p1 p2
                        --BEGIN26
                        refine wp_region_held_drew (S := (fun w' => w'.cell? ⟨g14, 1, none⟩ = some (.slice (some kd) g.kids.length kc) ∧ w'.cell? (kd.add q) = some (.int .i64 x))) (by kernel_rfl) ?_ (fun hHeld => ?_)
                        · exact ⟨d2, d3⟩
                        refine wpAnyH_take (i := 0) (v := ?_) rfl (by kernel_rfl) (by kernel_rfl) (by kernel_rfl) (fun _ _ _ h => h) (Or.inl ⟨by rfl, ?_⟩) (by assumption) ?_
                        rotate_left
                        · (intro w hSw; (try dsimp only at hSw); (try obtain ⟨hSw1, hSw2⟩ := hSw); go_simp; (try with_reducible rfl))
                        try simp only [Act.put, List.getElem_toArray, List.getElem_cons_zero, List.setIfInBounds_toArray, List.set_cons_zero, List.set_cons_succ]
                        refine wpAnyH_take (i := 2) (v := ?_) rfl (by kernel_rfl) (by kernel_rfl) (by kernel_rfl) (fun _ _ _ h => h) (Or.inl ⟨by rfl, ?_⟩) (by assumption) ?_
                        rotate_left
                        · (intro w hSw; (try dsimp only at hSw); (try obtain ⟨hSw1, hSw2⟩ := hSw); go_simp; (try with_reducible rfl))
                        try simp only [Act.put, List.getElem_toArray, List.getElem_cons_zero, List.getElem_cons_succ, List.setIfInBounds_toArray, List.set_cons_zero, List.set_cons_succ]
                        refine wpAnyH_take (i := 3) (v := ?_) rfl (by kernel_rfl) (by kernel_rfl) (by kernel_rfl) (fun _ _ _ h => h) (Or.inl ⟨by rfl, ?_⟩) (by assumption) ?_
                        rotate_left
                        · (intro w hSw; (try dsimp only at hSw); (try obtain ⟨hSw1, hSw2⟩ := hSw); go_simp; (try with_reducible rfl))
                        try simp only [Act.put, List.getElem_toArray, List.getElem_cons_zero, List.getElem_cons_succ, List.setIfInBounds_toArray, List.set_cons_zero, List.set_cons_succ]
                        refine wpAnyH_take (i := 4) (v := ?_) rfl (by kernel_rfl) (by kernel_rfl) (by kernel_rfl) (fun _ _ _ h => h) (Or.inl ⟨by rfl, ?_⟩) (by assumption) ?_
                        rotate_left
                        · (intro w hSw; (try dsimp only at hSw); (try obtain ⟨hSw1, hSw2⟩ := hSw); go_simp; (try with_reducible rfl))
                        try simp only [Act.put, List.getElem_toArray, List.getElem_cons_zero, List.getElem_cons_succ, List.setIfInBounds_toArray, List.set_cons_zero, List.set_cons_succ]
                        refine wpAnyH_take (i := 5) (v := ?_) rfl (by kernel_rfl) (by kernel_rfl) (by kernel_rfl) (fun _ _ _ h => h) (Or.inl ⟨by rfl, ?_⟩) (by assumption) ?_
                        rotate_left
                        · (intro w hSw; (try dsimp only at hSw); (try obtain ⟨hSw1, hSw2⟩ := hSw); go_simp; (try with_reducible rfl))
                        try simp only [Act.put, List.getElem_toArray, List.getElem_cons_zero, List.getElem_cons_succ, List.setIfInBounds_toArray, List.set_cons_zero, List.set_cons_succ]
                        refine wpAnyH_take (i := 6) (v := ?_) rfl (by kernel_rfl) (by kernel_rfl) (by kernel_rfl) (fun _ _ _ h => h) (Or.inl ⟨by rfl, ?_⟩) (by assumption) ?_
                        rotate_left
                        · (intro w hSw; (try dsimp only at hSw); (try obtain ⟨hSw1, hSw2⟩ := hSw); go_simp; (try with_reducible rfl))
                        try simp only [Act.put, List.getElem_toArray, List.getElem_cons_zero, List.getElem_cons_succ, List.setIfInBounds_toArray, List.set_cons_zero, List.set_cons_succ]
                        refine wpAnyH_take (i := 7) (v := ?_) rfl (by kernel_rfl) (by kernel_rfl) (by kernel_rfl) (fun _ _ _ h => h) (Or.inl ⟨by rfl, ?_⟩) (by assumption) ?_
                        rotate_left
                        · (intro w hSw; (try dsimp only at hSw); (try obtain ⟨hSw1, hSw2⟩ := hSw); go_simp; (try with_reducible rfl))
                        try simp only [Act.put, List.getElem_toArray, List.getElem_cons_zero, List.getElem_cons_succ, List.setIfInBounds_toArray, List.set_cons_zero, List.set_cons_succ]
                        refine wpAnyH_take (i := 8) (v := ?_) rfl (by kernel_rfl) (by kernel_rfl) (by kernel_rfl) (fun _ _ _ h => h) (Or.inl ⟨by rfl, ?_⟩) (by assumption) ?_
                        rotate_left
                        · (intro w hSw; (try dsimp only at hSw); (try obtain ⟨hSw1, hSw2⟩ := hSw); go_simp; (try with_reducible rfl))
                        try simp only [Act.put, List.getElem_toArray, List.getElem_cons_zero, List.getElem_cons_succ, List.setIfInBounds_toArray, List.set_cons_zero, List.set_cons_succ]
                        refine wpAnyH_ready (rs := [1, 9]) (by kernel_rfl) (by simp) ?_
                        refine AllReadyH.cons rfl (fun K hK => ?_) ?_
                        · go_simp
                          refine hK.out _ _ ?_ (fun hHeld => ?_)
                          · first | exact ⟨d2, d3⟩ | exact ⟨e2, e3⟩ | exact ⟨n2, n3⟩ | exact ⟨k6, k7⟩ | exact ⟨l6, l7⟩
                          clear hK K
                          refine wpAnyH_ready (rs := [9]) (by kernel_rfl) (by simp) ?_
                          refine AllReadyH.cons rfl (fun K hK => ?_) ?_
                          · go_simp
                            refine hK.out _ _ ?_ (fun hHeld => ?_)
                            · first | exact ⟨d2, d3⟩ | exact ⟨e2, e3⟩ | exact ⟨n2, n3⟩ | exact ⟨k6, k7⟩ | exact ⟨l6, l7⟩
                            clear hK K
                            refine wpAnyH_ready (rs := [10]) (by kernel_rfl) (by simp) ?_
                            refine AllReadyH.cons rfl (fun K hK => ?_) ?_
                            · refine step_append_lies _ (by rfl) (.tmp 110) (.tmp 118) 38 (by rfl) 0 3 j0 _ 1 8 Tryd.underlying38 hj0 hy0 hy1 hy2 rfl (by decide) (.slice XA q xc) q (ivals ((g.kids.take q).map (· + ((P.length : Int) + 1)))) (by rfl) ?o1 _ 1 1 [.int .i64 (x + ((P.length : Int) + 1))] (by rfl) (by rfl) ?nw ?oc (by decide) ?l1 ?l2 ?l3 _ (by rfl) ?_
                              case o1 => (first | exact HSe.out.row 1 rfl | exact HSn.out.row 1 rfl)
                              case nw => exact new1' _ _ _
                              case oc => (intro u hu; simp at hu; rw [hu]; rfl)
                              case l1 => (unfold maxLen; omega)
                              case l2 => omega
                              case l3 => exact Nat.zero_le _
                              intro gn cn w1 hownn hgrow hat hltn
                              first | (obtain ⟨k1, k2, k3, k4, k5⟩ := kid_push2 HSe.out hownn hgrow hat) | (obtain ⟨k1, k2, k3, k4, k5⟩ := kid_push2 HSn.out hownn hgrow hat)
                              have k6 : w1.cell? ⟨g14, 1, none⟩ = some (.slice (some kd) g.kids.length kc) := k4 1
                              have k7 := (k5.cell (cell_lt cx0)).trans cx0
                              have l6 := cell_far (q := ⟨g15, 1, none⟩) k6 hgn (.slice (some ⟨gn, 0, none⟩) (q + 1) cn)
                              have l7 := (k3.below0.cell (cell_lt cx0)).trans cx0
                              clear hownn hgrow hat hltn k4
                              refine hK.out _ _ ?_ (fun hHeld => ?_)
                              · first | exact ⟨d2, d3⟩ | exact ⟨e2, e3⟩ | exact ⟨n2, n3⟩ | exact ⟨k6, k7⟩ | exact ⟨l6, l7⟩
                              clear hK K
                              refine wpAnyH_take (i := 11) (v := ?_) rfl (by kernel_rfl) (by kernel_rfl) (by kernel_rfl) (fun _ _ _ h => h) (Or.inl ⟨by rfl, ?_⟩) (by assumption) ?_
                              rotate_left
                              · (intro w hSw; (try dsimp only at hSw); (try obtain ⟨hSw1, hSw2⟩ := hSw); go_simp; (try with_reducible rfl))
                              try simp only [Act.put, List.getElem_toArray, List.getElem_cons_zero, List.getElem_cons_succ, List.setIfInBounds_toArray, List.set_cons_zero, List.set_cons_succ]
                              refine wpAnyH_ready (rs := [12]) (by kernel_rfl) (by simp) ?_
                              refine AllReadyH.cons rfl (fun K hK => ?_) ?_
                              · go_simp
                                refine hK.out _ _ ?_ (fun hHeld => ?_)
                                · first | exact ⟨d2, d3⟩ | exact ⟨e2, e3⟩ | exact ⟨n2, n3⟩ | exact ⟨k6, k7⟩ | exact ⟨l6, l7⟩
                                clear hK K
                                refine wpAnyH_done (by kernel_rfl) ?_ _
                                rw [← map_last HTQ.out] at k3
                                have K3 := Lib.hid k3
                                clear k3
                                go_wp2_with fail
                                go_roundg (g.kids.length - (q + 1))
                                case measure => omega
                                case rel => exact ⟨q + 1, _, hql, rfl, by first | rfl | simp, K3.out⟩
                              exact AllReadyH.nil
                            exact AllReadyH.nil
                          exact AllReadyH.nil
                        refine AllReadyH.cons rfl (fun K hK => ?_) ?_
                        · go_simp
                          refine hK.out _ _ ?_ (fun hHeld => ?_)
                          · first | exact ⟨d2, d3⟩ | exact ⟨e2, e3⟩ | exact ⟨n2, n3⟩ | exact ⟨k6, k7⟩ | exact ⟨l6, l7⟩
                          clear hK K
                          refine wpAnyH_ready (rs := [1]) (by kernel_rfl) (by simp) ?_
                          refine AllReadyH.cons rfl (fun K hK => ?_) ?_
                          · go_simp
                            refine hK.out _ _ ?_ (fun hHeld => ?_)
                            · first | exact ⟨d2, d3⟩ | exact ⟨e2, e3⟩ | exact ⟨n2, n3⟩ | exact ⟨k6, k7⟩ | exact ⟨l6, l7⟩
                            clear hK K
                            refine wpAnyH_ready (rs := [10]) (by kernel_rfl) (by simp) ?_
                            refine AllReadyH.cons rfl (fun K hK => ?_) ?_
                            · refine step_append_lies _ (by rfl) (.tmp 110) (.tmp 118) 38 (by rfl) 0 3 j0 _ 1 8 Tryd.underlying38 hj0 hy0 hy1 hy2 rfl (by decide) (.slice XA q xc) q (ivals ((g.kids.take q).map (· + ((P.length : Int) + 1)))) (by rfl) ?o1 _ 1 1 [.int .i64 (x + ((P.length : Int) + 1))] (by rfl) (by rfl) ?nw ?oc (by decide) ?l1 ?l2 ?l3 _ (by rfl) ?_
                              case o1 => (first | exact HSe.out.row 1 rfl | exact HSn.out.row 1 rfl)
                              case nw => exact new1' _ _ _
                              case oc => (intro u hu; simp at hu; rw [hu]; rfl)
                              case l1 => (unfold maxLen; omega)
                              case l2 => omega
                              case l3 => exact Nat.zero_le _
                              intro gn cn w1 hownn hgrow hat hltn
                              first | (obtain ⟨k1, k2, k3, k4, k5⟩ := kid_push2 HSe.out hownn hgrow hat) | (obtain ⟨k1, k2, k3, k4, k5⟩ := kid_push2 HSn.out hownn hgrow hat)
                              have k6 : w1.cell? ⟨g14, 1, none⟩ = some (.slice (some kd) g.kids.length kc) := k4 1
                              have k7 := (k5.cell (cell_lt cx0)).trans cx0
                              have l6 := cell_far (q := ⟨g15, 1, none⟩) k6 hgn (.slice (some ⟨gn, 0, none⟩) (q + 1) cn)
                              have l7 := (k3.below0.cell (cell_lt cx0)).trans cx0
                              clear hownn hgrow hat hltn k4
                              refine hK.out _ _ ?_ (fun hHeld => ?_)
                              · first | exact ⟨d2, d3⟩ | exact ⟨e2, e3⟩ | exact ⟨n2, n3⟩ | exact ⟨k6, k7⟩ | exact ⟨l6, l7⟩
                              clear hK K
                              refine wpAnyH_take (i := 11) (v := ?_) rfl (by kernel_rfl) (by kernel_rfl) (by kernel_rfl) (fun _ _ _ h => h) (Or.inl ⟨by rfl, ?_⟩) (by assumption) ?_
                              rotate_left
                              · (intro w hSw; (try dsimp only at hSw); (try obtain ⟨hSw1, hSw2⟩ := hSw); go_simp; (try with_reducible rfl))
                              try simp only [Act.put, List.getElem_toArray, List.getElem_cons_zero, List.getElem_cons_succ, List.setIfInBounds_toArray, List.set_cons_zero, List.set_cons_succ]
                              refine wpAnyH_ready (rs := [12]) (by kernel_rfl) (by simp) ?_
                              refine AllReadyH.cons rfl (fun K hK => ?_) ?_
                              · go_simp
                                refine hK.out _ _ ?_ (fun hHeld => ?_)
                                · first | exact ⟨d2, d3⟩ | exact ⟨e2, e3⟩ | exact ⟨n2, n3⟩ | exact ⟨k6, k7⟩ | exact ⟨l6, l7⟩
                                clear hK K
                                refine wpAnyH_done (by kernel_rfl) ?_ _
                                rw [← map_last HTQ.out] at k3
                                have K3 := Lib.hid k3
                                clear k3
                                go_wp2_with fail
                                go_roundg (g.kids.length - (q + 1))
                                case measure => omega
                                case rel => exact ⟨q + 1, _, hql, rfl, by first | rfl | simp, K3.out⟩
                              exact AllReadyH.nil
                            exact AllReadyH.nil
                          exact AllReadyH.nil
                        exact AllReadyH.nil
                        --END26
                        --E26
                      · have hqq2 : ¬ (q : Int) < (g.kids.length : Int) := by omega
                        have hqe : q = g.kids.length := by omega
                        rw [List.take_of_length_le (by omega)] at hS
                        have HQE := Lib.hid hqe
                        clear hqe hql
                        obtain ⟨m0, m1, m2⟩ := (hS.blk 0 rfl).get3
                        have f2 := (hS.blk 0 rfl).frozen 2
                        obtain ⟨QA, qc, rfl⟩ := row_forms (hS.row 5 rfl)
                        obtain ⟨XA, xc, rfl⟩ := row_forms (hS.row 1 rfl)
                        by_cases hkz : g.kids = []
                        · have hk0 : ((g.kids.length : Int) == 0) = true := by rw [hkz]; rfl
                          have HKZ := Lib.hid hkz
                          clear hkz
                          have hS3 := hS.set 0 rfl 2 (.int .i64 kl)
                          clear hS
                          go_upto_region 30 with fail
                          generalize wr.setCell ⟨g15, 2, none⟩ (.int .i64 kl) = w8 at *
                          obtain ⟨m0, m1, m2⟩ := (hS3.blk 0 rfl).get3
                          have c9 := (hS3.blk 3 rfl).cell 0
                          simp only [List.getElem?_cons_zero] at c9
                          go_wp2_with (at_builtin; refine wpList_append_own2 rfl _ _ 22 rfl 0 40 i0 _ 3 40 Tryd.underlying22 hi0 hz0 hz1 hz2 rfl (by decide) _ (Q.length + 1) (gcells ((⟨need, ks2, 0⟩, vk2) :: Q)) rfl ((hS3.alloc _).row 5 rfl) ⟨w8.heap.size, 0, none⟩ 1 1 [.int .i64 g.need, .slice XA q xc, .int .i64 kl] rfl rfl (new3' _ _ _ _ _) (by intro u hu; simp at hu; rcases hu with rfl | rfl | rfl <;> rfl) (by decide) (by unfold maxLen; omega) (by omega) (Nat.zero_le _) ?_; intro v' w9 hown hgrow hat; obtain ⟨VA, va, rfl⟩ := row_forms hown; have hS5 := (hS3.alloc (.cells #[.int .i64 g.need, .slice XA q xc, .int .i64 kl] 40)).grown 5 rfl hown hgrow hat; have c10 := (hS5.blk 3 rfl).cell 0; have f10 := (hS5.blk 3 rfl).frozen 0; simp only [List.getElem?_cons_zero] at c10; have HS6 : Hid (Hp [] w (iblk g9 24 [.slice VA (Q.length + 1 + 1) va] :: _ :: jits need ks2 (.slice VA (Q.length + 1 + 1) va) vk2 (Q ++ [(_, _)])) _) := Lib.hid (jits_push2 (g := ⟨g.need, g.kids.map (· + ((P.length : Int) + 1)), kl⟩) (vx := .slice XA q xc) (by rw [HQE.out]; simp) rfl rfl (hS5.set 3 rfl 0 (.slice VA (Q.length + 1 + 1) va))); clear hown hgrow hat hS5)
                          clear hS3
                          go_roundg (F.length - (j + 1))
                          case measure => omega
                          case rel =>
                            refine ⟨j + 1, _, .slice VA (Q.length + 1 + 1) va, hjl, rfl, by first | rfl | simp, ?_, ?_, HS6.out⟩
                            · rw [HTK.out, leafN_append, if_pos HKZ.out, ← HKL.out]; first | rfl | simp [Int.add_assoc]
                            · rw [HTK.out, movG_append, if_pos HKZ.out, ← List.append_assoc, ← HQ.out, HRP.out]
                              simp [gts, HKL.out]
                        · have hk0 : ((g.kids.length : Int) == 0) = false := by rw [beq_eq_false_iff_ne]; have := List.length_pos_iff.2 hkz; omega
                          have HKZ := Lib.hid hkz
                          clear hkz f2
                          go_upto_region 30 with fail
                          generalize wr = w8 at *
                          have hS3 := hS
                          clear hS
                          obtain ⟨m0, m1, m2⟩ := (hS3.blk 0 rfl).get3
                          have c9 := (hS3.blk 3 rfl).cell 0
                          simp only [List.getElem?_cons_zero] at c9
                          go_wp2_with (at_builtin; refine wpList_append_own2 rfl _ _ 22 rfl 0 40 i0 _ 3 40 Tryd.underlying22 hi0 hz0 hz1 hz2 rfl (by decide) _ (Q.length + 1) (gcells ((⟨need, ks2, 0⟩, vk2) :: Q)) rfl ((hS3.alloc _).row 5 rfl) ⟨w8.heap.size, 0, none⟩ 1 1 [.int .i64 g.need, .slice XA q xc, .int .i64 0] rfl rfl (new3' _ _ _ _ _) (by intro u hu; simp at hu; rcases hu with rfl | rfl | rfl <;> rfl) (by decide) (by unfold maxLen; omega) (by omega) (Nat.zero_le _) ?_; intro v' w9 hown hgrow hat; obtain ⟨VA, va, rfl⟩ := row_forms hown; have hS5 := (hS3.alloc (.cells #[.int .i64 g.need, .slice XA q xc, .int .i64 0] 40)).grown 5 rfl hown hgrow hat; have c10 := (hS5.blk 3 rfl).cell 0; have f10 := (hS5.blk 3 rfl).frozen 0; simp only [List.getElem?_cons_zero] at c10; have HS6 : Hid (Hp [] w (iblk g9 24 [.slice VA (Q.length + 1 + 1) va] :: _ :: jits need ks2 (.slice VA (Q.length + 1 + 1) va) vk2 (Q ++ [(_, _)])) _) := Lib.hid (jits_push2 (g := ⟨g.need, g.kids.map (· + ((P.length : Int) + 1)), 0⟩) (vx := .slice XA q xc) (by rw [HQE.out]; simp) rfl rfl (hS5.set 3 rfl 0 (.slice VA (Q.length + 1 + 1) va))); clear hown hgrow hat hS5)
                          clear hS3
                          go_roundg (F.length - (j + 1))
                          case measure => omega
                          case rel =>
                            refine ⟨j + 1, _, .slice VA (Q.length + 1 + 1) va, hjl, rfl, by first | rfl | simp, ?_, ?_, HS6.out⟩
                            · rw [HTK.out, leafN_append, if_neg HKZ.out, ← HKL.out]; first | rfl | simp [Int.add_assoc]
                            · rw [HTK.out, movG_append, if_neg HKZ.out, ← List.append_assoc, ← HQ.out, HRP.out]
                              simp [gts]
                  · have hjj : ¬ (j : Int) < (F.length : Int) := by omega
                    have hjF : F.take j = F := List.take_of_length_le (by omega)
                    rw [hjF] at HQ hlf40 ⊢
                    have HSS := HST
                    clear hjF hjl
                    go_wp2_with fail
                    go_roundg (L.length - (i + 1))
                    case measure => omega
                    case rel =>
                      refine ⟨i + 1, Q, vk2, vg, hil2, rfl, by first | rfl | simp, ?_, ?_, ?_⟩
                      · rw [HSS.out]; rfl
                      · rw [HSS.out, HQ.out]; simp [jstep]
                      · rw [HSS.out]
                        have e : (jstep (R, ks, k) F).2.1 = ks2 := by rw [← HK2.out, ← HRP.out]; rfl
                        rw [e]; exact hS
            · have hii2 : ¬ (i : Int) < (L.length : Int) := by omega
              have hiL : L.take i = L := List.take_of_length_le (by omega)
              rw [hiL] at bd1 bd2 bd3 hPl hP hS htl ⊢
              have hP480 : P.length ≤ 480 := by omega
              have hV2 := HV.out
              have HP := Lib.hid hP
              have HPl := Lib.hid hPl
              obtain ⟨VA, va, rfl⟩ := row_forms (hS.row 2 rfl)
              have c9 := (hS.blk 0 rfl).cell 0
              have c4 := (hS.blk 1 rfl).cell 0
              have f4 := (hS.blk 1 rfl).frozen 0
              simp only [List.getElem?_cons_zero] at c4 c9
              generalize joinF L = S at *
              obtain ⟨R, ks, k⟩ := S
              simp only at bd1 bd2 bd3 hPl hP hV2 hS HP HPl ⊢
              have h512 : ¬ (512 : Int) < (P.length : Int) + 1 := by omega
              by_cases hk : 256 < k
              · have hki : (256 : Int) < (k : Int) := by omega
                rw [if_pos (.inr hk)] at hV2
                have HV2 := Lib.hid hV2
                have hS2 := hS.set 1 rfl 0 (.slice none 0 0)
                have d4 := (hS2.blk 1 rfl).cell 0
                simp only [List.getElem?_cons_zero, List.set_cons_zero] at d4
                clear hP hV2 bd1 bd2 bd3 hPl htl hS HV hiL
                go_wp2_with fail
                refine bodyPost_ret (v := .tuple #[.agg #[.slice none 0 0], .int .i64 6]) (by simp [results, Tryd.results32, go_sem, d4]) rfl ?_
                exact ⟨⟨none, 0, by rw [HV2.out]; rfl, by rw [HV2.out]; exact gates_none _ _⟩, by first | exact hS2.below0 | (subst hg4; exact hS2.below0)⟩
              · have hki : ¬ (256 : Int) < (k : Int) := by omega
                rw [if_neg (by omega)] at hV2
                have HV2 := Lib.hid hV2
                have hS2 := hS.set 1 rfl 0 (.slice VA (P.length + 1) va)
                have d4 := (hS2.blk 1 rfl).cell 0
                simp only [List.getElem?_cons_zero, List.set_cons_zero] at d4
                have HG2 := gates_of (r := []) (P := (⟨need, ks, 0⟩, vk) :: P) (n := P.length + 1) (by rw [List.append_nil]; exact hS2.tail)
                clear hP hV2 bd1 bd2 bd3 hPl htl hS HV hiL
                go_wp2_with fail
                refine bodyPost_ret (v := .tuple #[.agg #[.slice VA (P.length + 1) va], .int .i64 0]) (by simp [results, Tryd.results32, go_sem, d4]) rfl ?_
                refine ⟨⟨VA, va, ?_, ?_⟩, by first | exact hS2.below0 | (subst hg4; exact hS2.below0)⟩
                · rw [HV2.out]; simp [HPl.out]
                · rw [HV2.out]
                  have e : gts ((⟨need, ks, 0⟩, vk) :: P) = ⟨need, ks, 0⟩ :: R := by rw [← HP.out]; rfl
                  rw [e] at HG2
                  exact HG2
end Go.Proofs.YteaaeaimjbaomaaDoor
