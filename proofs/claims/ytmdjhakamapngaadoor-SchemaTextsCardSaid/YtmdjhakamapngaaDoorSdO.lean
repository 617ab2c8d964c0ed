/-
  strings.Join over owned rows; schema.Text.
-/
import Derived.Test.YtmdjhakamapngaaDoorSdN
namespace Go.Proofs.YtmdjhakamapngaaDoor
open Go.RowKit Go.Shelf
set_option linter.unusedVariables false

theorem join_row (us : List ByteArray) (sep : ByteArray) (g c : Nat) (W : World) (ho : W.ownsRow 0 9 1 (.slice (some ⟨g, 0, none⟩) us.length c) us.length (svals us)) (hlen : us.length ≤ 1000) (hj : (Lib.join (us.map tl) (tl sep)).length ≤ 1000000) :
    Calls Tryd.prog 47 #[.slice (some ⟨g, 0, none⟩) us.length c, .string sep] W fun e w' => e = .returned (Sv (Lib.join (us.map tl) (tl sep))) ∧ Below W.heap.size W w' := by
  have hlt := ho.lt g rfl
  have hcap : us.length ≤ c := by
    rcases ho.2 with ⟨h, _⟩ | ⟨g', cap, cur, hv, _, _, hc, _⟩
    · cases h
    · simp only [Value.slice.injEq] at hv; omega
  exact Tryd.strings_Join g 0 c us sep W (fun j x hx => by
    rw [Nat.zero_add]
    exact row_cell ho (j := j) (u := .string x) (by rw [List.getElem?_map, hx]; rfl)) hlt.2 (by omega) hcap (by
      show (Lib.join (us.map tl) (tl sep)).length ≤ _
      omega)
theorem partsF_len (f : Fd) : (partsF f).length = 1 + (if f.kind = 0 then 3 else 0) + f.words.length := by
  unfold partsF
  split <;> simp <;> omega
theorem quoteB_eq (s : ByteArray) : (⟨#[39]⟩ ++ s ++ ⟨#[39]⟩ : ByteArray) = quoteB s := by
  unfold quoteB
  have h : ∀ c : UInt8, (⟨#[c]⟩ : ByteArray) = bs [c] := fun c => rfl
  conv => lhs; rw [h 39, ← bs_tl s, bs_app, bs_app]
  rfl
theorem new3s (w : World) (t : TypeId) (a b c : Value) : ∀ (j : Nat) u, [a, b, c][j]? = some u → (w.alloc (.cells #[a, b, c] t)).cell? ((⟨w.heap.size, 0, none⟩ : Addr).add j) = some u := by
  intro j u hu
  have e : (⟨w.heap.size, 0, none⟩ : Addr).add j = ⟨w.heap.size, j, none⟩ := by unfold Addr.add; split <;> simp_all
  rw [e, (show Blk (w.alloc (.cells #[a, b, c] t)) w.heap.size t [a, b, c] from Blk.new w t [a, b, c]).cell j]
  exact hu
theorem Hp.row1 {o : List Nat} {w W : World} {it : List It} (h : Hp o w it W) (s : ByteArray) : Hp o w (iws (.slice (some ⟨W.heap.size, 0, Option.none⟩) 1 1) [s] :: it) (W.alloc (.cells #[.string s] 9)) := by
  have h1 := h.new 9 [.string s]
  refine h1.upd 0 rfl (x' := iws (.slice (some ⟨W.heap.size, 0, Option.none⟩) 1 1) [s]) ?_ (Stp.refl _ _) (by simp [irow, Value.ownBlock])
  exact blk_row (h1.blk 0 rfl) 1 1 rfl (by decide)
set_option maxRecDepth 20000 in
set_option maxHeartbeats 16000000 in
theorem stext_any (nm : ByteArray) (A : Option Addr) (c : Nat) (L : List Fd) (hB : SBd nm L) (w : World) (hG : Glob w) (hS : Flds w A L) :
    Calls Tryd.prog 24 #[schV nm A L.length c] w fun e w' => e = .returned (.tuple #[Sv (textP nm L).1, .int .i64 (textP nm L).2]) ∧ Below w.heap.size w w' := by
  have hk := (Hp.start w).new 24 [.string nm, .slice A L.length c]
  have HC := Lib.hid (check_any nm A c L hB _ (hS.up hk.below0))
  have HP : Hid (textP nm L = if schemaE nm L ≠ 0 then ([], schemaE nm L) else (schemaT nm L, 0)) := Lib.hid rfl
  obtain ⟨g1, hg1⟩ : ∃ g, w.heap.size = g := ⟨_, rfl⟩
  rw [hg1] at hk
  obtain ⟨E, hE⟩ : ∃ E, schemaE nm L = E := ⟨_, rfl⟩
  rw [hE] at HC HP
  go_enter Tryd.func24, Tryd.ntmps24
  go_upto_region 1 with fail
  try simp only [hg1]
  generalize w.alloc (.cells #[.string nm, .slice A L.length c] 24) = W at *
  obtain ⟨c0, c1⟩ := (hk.blk 0 rfl).get2
  go_wp2_with fail
  refine HC.out.mono ?_
  rintro e w1 ⟨rfl, hb1⟩
  have hk1 := hk.next hb1
  clear hk hb1 HC c0 c1
  cases hE0 : (E != 0) with
  | true =>
    have HR : Hid (textP nm L = ([], E)) := Lib.hid (by rw [HP.out, if_pos (by simpa using hE0)])
    go_wp2_with fail
    go_ret2
    rw [HR.out]
    exact ⟨rfl, by first | exact hk1.below0 | (subst hg1; exact hk1.below0)⟩
  | false =>
    have hE1 : E = 0 := by simpa using hE0
    subst hE1
    have HR : Hid (textP nm L = (schemaT nm L, 0)) := Lib.hid (by rw [HP.out, if_neg (by simp)])
    have hL16 := (schemaE_ok hE).2.2.1
    have hL1 := (schemaE_ok hE).2.1
    have HOk := Lib.hid (schemaE_ok hE).2.2.2
    have HTL := Lib.hid (schemaT_len hE)
    have HST := Lib.hid (schema_text nm L)
    have HN32 := Lib.hid (name_size (schemaE_ok hE).1)
    clear HP hE0
    obtain ⟨i0, hi0, hz0, hz1, hz2⟩ := info_parts str_info
    obtain ⟨c0, c1⟩ := (hk1.blk 0 rfl).get2
    go_upto_region 6 with fail
    have hk2 : Hp [] w [iblk g1 24 [.string nm, .slice A L.length c], iws (.slice none 0 0) []] w1 := (hk1.nilrow 9 1).perm (List.Perm.swap _ _ _)
    clear hk1 c0 c1
    go_loopg [19, 5] L.length (fun m s19 s5 wx => ∃ (i : Nat) (OA : Option Addr) (oc : Nat) (out : List ByteArray), i ≤ L.length ∧ m = L.length - i ∧ s19 = .int .i64 (i : Int) ∧ s5 = .slice OA out.length oc ∧ Hp [] w [iblk g1 24 [.string nm, .slice A L.length c], iws (.slice OA out.length oc) out] wx ∧ Hid (out.length = i ∧ out.map tl = (L.take i).map fieldT))
    case atStart => exact ⟨0, none, 0, [], Nat.zero_le _, rfl, rfl, rfl, hk2, Lib.hid ⟨rfl, rfl⟩⟩
    case round =>
      obtain ⟨i, OA, oc, out, hi, rfl, rfl, rfl, hM, HO⟩ := hrel
      clear hk2
      by_cases hil : i < L.length
      · have hii : (i : Int) < (L.length : Int) := by omega
        have hi0' : (0 : Int) ≤ (i : Int) := by omega
        obtain ⟨f, hf⟩ : ∃ f, L[i]? = some f := ⟨_, List.getElem?_eq_getElem hil⟩
        obtain ⟨ad, WA, wk, rfl, hF0⟩ := hS.at_ i f hf
        have HS0 := Lib.hid hF0.strs
        have hF := hF0.up hM.below0
        have d0 := hF.name
        have d1 := hF.kind
        have d2 := hF.min
        have d3 := hF.max
        have d4 := hF.words
        have hFOk := HOk.out f (List.mem_of_getElem? hf)
        obtain ⟨b1, b2, b3, b4, b5, b6, b7, b8⟩ := fieldT_len hFOk
        have HB1 := Lib.hid b1
        have HB4 := Lib.hid b4
        have HTk : Hid ((L.take (i + 1)).map fieldT = (L.take i).map fieldT ++ [fieldT f]) := Lib.hid (by rw [take_at hf, List.map_append]; rfl)
        have HPT := Lib.hid (parts_text f)
        have HPV : Hid (partsF f = (f.name :: if f.kind = 0 then [bs numberB, bs (Lib.itoa f.min), bs (Lib.itoa f.max)] else []) ++ f.words.map quoteB) := Lib.hid rfl
        have hM1 := (hM.new 49 (fcs f WA wk)).perm (List.Perm.refl _)
        have hM2 := hM1.row1 f.name
        have hsz : (wr.alloc (.cells (fcs f WA wk).toArray 49)).heap.size = wr.heap.size + 1 := by simp
        rw [hsz] at hM2
        clear hf hF hF0 hFOk b1 b4 hM1
        obtain ⟨g5, hg5⟩ : ∃ g, wr.heap.size = g := ⟨_, rfl⟩
        rw [hg5] at hM2
        go_upto_region 9 with fail
        try simp only [hg5]
        have hM2 : Hp [] w [iws (.slice (some ⟨g5 + 1, 0, none⟩) 1 1) [f.name], iblk g5 49 (fcs f WA wk), iblk g1 24 [.string nm, .slice (some ad) L.length c], iws (.slice OA out.length oc) out] ((wr.alloc (.cells #[.string f.name, .int .i64 f.kind, .int .i64 f.min, .int .i64 f.max, .slice WA f.words.length wk] 49)).alloc (.cells #[.string f.name] 9)) := hM2
        clear hM d0 d1 d2 d3 d4 hsz
        generalize (wr.alloc (.cells #[.string f.name, .int .i64 f.kind, .int .i64 f.min, .int .i64 f.max, .slice WA f.words.length wk] 49)).alloc (.cells #[.string f.name] 9) = w3 at *
        clear hg5
        obtain ⟨d0, d1, d2, d3, d4⟩ := (hM2.blk 1 rfl).get5
        go_upto_if 28 with fail
        go_cut [8] (fun s8 wx => ∃ (PA : Option Addr) (pc : Nat) (ps : List ByteArray), s8 = .slice PA ps.length pc ∧ Hp [] w [iws (.slice PA ps.length pc) ps, iblk g5 49 (fcs f WA wk), iblk g1 24 [.string nm, .slice (some ad) L.length c], iws (.slice OA out.length oc) out] wx ∧ Hid (ps.length ≤ 4 ∧ partsF f = ps ++ f.words.map quoteB))
        case first =>
          cases hke : (f.kind == 0) with
          | true =>
            have hk0 : f.kind = 0 := by simpa using hke
            have HPW : Hid (partsF f = [f.name, bs numberB, bs (Lib.itoa f.min), bs (Lib.itoa f.max)] ++ f.words.map quoteB) := Lib.hid (by rw [HPV.out, if_pos hk0])
            have HI1 := Lib.hid (fun W' h => itoa_any f.min (by omega) (by omega) W' h)
            have HI2 := Lib.hid (fun W' h => itoa_any f.max (by omega) (by omega) W' h)
            clear hk0 HPV
            go_upto_region 10 with fail
            have hMd := hM2.drew
            clear hM2 d0 d1 d2 d3 d4
            obtain ⟨d0, d1, d2, d3, d4⟩ := (hMd.blk 1 rfl).get5
            --BEGINN
            refine wp_region_held_drew (S := (fun w' => w'.cell? ⟨g5, 2, none⟩ = some (.int .i64 f.min) ∧ w'.cell? ⟨g5, 3, none⟩ = some (.int .i64 f.max))) (by kernel_rfl) ?_ (fun hHeld => ?_)
            · exact ⟨d2, d3⟩
            refine wpAnyH_take (i := 0) (v := ?_) rfl (by kernel_rfl) (by kernel_rfl) (by kernel_rfl) (fun _ _ _ h => h) (Or.inl ⟨by rfl, ?_⟩) (by assumption) ?_
            rotate_left
            · (intro w hSw; (try dsimp only at hSw); (try obtain ⟨hSw1, hSw2⟩ := hSw); go_simp; (try with_reducible rfl))
            try simp only [Act.put, List.getElem_toArray, List.getElem_cons_zero, List.setIfInBounds_toArray, List.set_cons_zero, List.set_cons_succ]
            refine wpAnyH_take (i := 1) (v := ?_) rfl (by kernel_rfl) (by kernel_rfl) (by kernel_rfl) (fun _ _ _ h => h) (Or.inl ⟨by rfl, ?_⟩) (by assumption) ?_
            rotate_left
            · (intro w hSw; (try dsimp only at hSw); (try obtain ⟨hSw1, hSw2⟩ := hSw); go_simp; (try with_reducible rfl))
            try simp only [Act.put, List.getElem_toArray, List.getElem_cons_zero, List.getElem_cons_succ, List.setIfInBounds_toArray, List.set_cons_zero, List.set_cons_succ]
            refine wpAnyH_take (i := 2) (v := ?_) rfl (by kernel_rfl) (by kernel_rfl) (by kernel_rfl) (fun _ _ _ h => h) (Or.inl ⟨by rfl, ?_⟩) (by assumption) ?_
            rotate_left
            · (intro w hSw; (try dsimp only at hSw); (try obtain ⟨hSw1, hSw2⟩ := hSw); go_simp; (try with_reducible rfl))
            try simp only [Act.put, List.getElem_toArray, List.getElem_cons_zero, List.getElem_cons_succ, List.setIfInBounds_toArray, List.set_cons_zero, List.set_cons_succ]
            refine wpAnyH_take (i := 4) (v := ?_) rfl (by kernel_rfl) (by kernel_rfl) (by kernel_rfl) (fun _ _ _ h => h) (Or.inl ⟨by rfl, ?_⟩) (by assumption) ?_
            rotate_left
            · (intro w hSw; (try dsimp only at hSw); (try obtain ⟨hSw1, hSw2⟩ := hSw); go_simp; (try with_reducible rfl))
            try simp only [Act.put, List.getElem_toArray, List.getElem_cons_zero, List.getElem_cons_succ, List.setIfInBounds_toArray, List.set_cons_zero, List.set_cons_succ]
            refine wpAnyH_take (i := 5) (v := ?_) rfl (by kernel_rfl) (by kernel_rfl) (by kernel_rfl) (fun _ _ _ h => h) (Or.inl ⟨by rfl, ?_⟩) (by assumption) ?_
            rotate_left
            · (intro w hSw; (try dsimp only at hSw); (try obtain ⟨hSw1, hSw2⟩ := hSw); go_simp; (try with_reducible rfl))
            try simp only [Act.put, List.getElem_toArray, List.getElem_cons_zero, List.getElem_cons_succ, List.setIfInBounds_toArray, List.set_cons_zero, List.set_cons_succ]
            refine wpAnyH_ready (rs := [3]) (by kernel_rfl) (by simp) ?_
            refine AllReadyH.cons rfl (fun K hK => ?_) ?_
            · go_simp
              refine (HI1.out _ (hG.up hMd.below0)).mono ?_
              rintro e w5 ⟨rfl, hb5⟩
              simp only []
              have hA3 := hMd.next hb5
              obtain ⟨d0, d1, d2, d3, d4⟩ := (hA3.blk 1 rfl).get5
              refine hK.out _ _ ?_ (fun hHeld => ?_)
              · exact ⟨d2, d3⟩
              clear hK K
              refine wpAnyH_ready (rs := [6]) (by kernel_rfl) (by simp) ?_
              refine AllReadyH.cons rfl (fun K hK => ?_) ?_
              · go_simp
                refine (HI2.out _ (hG.up hA3.below0)).mono ?_
                rintro e w6 ⟨rfl, hb6⟩
                simp only []
                have hA4 := hA3.next hb6
                obtain ⟨d0, d1, d2, d3, d4⟩ := (hA4.blk 1 rfl).get5
                refine hK.out _ _ ?_ (fun hHeld => ?_)
                · exact ⟨d2, d3⟩
                clear hK K
                refine wpAnyH_ready (rs := [7]) (by kernel_rfl) (by simp) ?_
                refine AllReadyH.cons rfl (fun K hK => ?_) ?_
                · go_simp
                  have hA5 := hA4.alloc (.cells #[.string (bs numberB), Sv (Lib.itoa f.min), Sv (Lib.itoa f.max)] 9)
                  obtain ⟨d0, d1, d2, d3, d4⟩ := (hA5.blk 1 rfl).get5
                  refine hK.out _ _ ?_ (fun hHeld => ?_)
                  · exact ⟨d2, d3⟩
                  clear hK K
                  refine wpAnyH_ready (rs := [8]) (by kernel_rfl) (by simp) ?_
                  refine AllReadyH.cons rfl (fun K hK => ?_) ?_
                  · refine step_append_lies _ (by rfl) (.tmp 29) (.tmp 36) 47 (by rfl) 0 9 i0 _ 1 16 Tryd.underlying47 hi0 hz0 hz1 hz2 rfl (by decide) (.slice (some ⟨g5 + 1, 0, none⟩) 1 1) 1 (svals [f.name]) (by rfl) ?o1 _ 3 3 [.string (bs numberB), Sv (Lib.itoa f.min), Sv (Lib.itoa f.max)] (by rfl) (by rfl) ?nw ?oc (by decide) ?l1 ?l2 ?l3 _ (by rfl) ?_
                    case o1 => exact (hA5.row 0 rfl)
                    case nw => exact new3s _ _ _ _ _
                    case oc => (intro u hu; simp at hu; rcases hu with h | h | h <;> (rw [h]; rfl))
                    case l1 => (unfold maxLen; omega)
                    case l2 => omega
                    case l3 => exact Nat.zero_le _
                    intro gn cn w7 hownn hgrow hat hltn
                    have hA7 := hA5.grown 0 rfl hownn hgrow (lies_alt' hat)
                    obtain ⟨d0, d1, d2, d3, d4⟩ := (hA7.blk 1 rfl).get5
                    clear hownn hgrow hat hltn
                    refine hK.out _ _ ?_ (fun hHeld => ?_)
                    · exact ⟨d2, d3⟩
                    clear hK K
                    refine wpAnyH_take (i := 9) (v := ?_) rfl (by kernel_rfl) (by kernel_rfl) (by kernel_rfl) (fun _ _ _ h => h) (Or.inl ⟨by rfl, ?_⟩) (by assumption) ?_
                    rotate_left
                    · (intro w hSw; (try dsimp only at hSw); (try obtain ⟨hSw1, hSw2⟩ := hSw); go_simp; (try with_reducible rfl))
                    try simp only [Act.put, List.getElem_toArray, List.getElem_cons_zero, List.getElem_cons_succ, List.setIfInBounds_toArray, List.set_cons_zero, List.set_cons_succ]
                    refine wpAnyH_done (by kernel_rfl) ?_ _
                    go_wp2_with fail
                    go_meet
                    exact ⟨some ⟨gn, 0, none⟩, cn, [f.name, bs numberB, bs (Lib.itoa f.min), bs (Lib.itoa f.max)], rfl, hA7, Lib.hid ⟨by simp, HPW.out⟩⟩
                  exact AllReadyH.nil
                exact AllReadyH.nil
              exact AllReadyH.nil
            exact AllReadyH.nil
            --ENDN
          | false =>
            have hk0 : ¬ f.kind = 0 := by simpa using hke
            have HPW : Hid (partsF f = [f.name] ++ f.words.map quoteB) := Lib.hid (by rw [HPV.out, if_neg hk0])
            go_wp2_with fail
            go_meet
            exact ⟨_, _, [f.name], rfl, hM2, Lib.hid ⟨by simp, HPW.out⟩⟩
        case rest =>
          clear hM2 d0 d1 d2 d3 d4 HPV
          obtain ⟨PA, pc, ps, rfl, hM3, HPS⟩ := hcut
          obtain ⟨d0, d1, d2, d3, d4⟩ := (hM3.blk 1 rfl).get5
          go_upto_region 12 with fail
          clear d0 d1 d2 d3 d4
          go_loopg [41, 8] f.words.length (fun m s41 s8 wx => ∃ (k : Nat) (PA : Option Addr) (pc : Nat) (qs : List ByteArray), k ≤ f.words.length ∧ m = f.words.length - k ∧ s41 = .int .i64 (k : Int) ∧ s8 = .slice PA qs.length pc ∧ Hp [] w [iws (.slice PA qs.length pc) qs, iblk g5 49 (fcs f WA wk), iblk g1 24 [.string nm, .slice (some ad) L.length c], iws (.slice OA out.length oc) out] wx ∧ Hid (qs = ps ++ (f.words.take k).map quoteB))
          case atStart => exact ⟨0, PA, pc, ps, Nat.zero_le _, rfl, rfl, rfl, hM3, Lib.hid (by simp)⟩
          case round =>
            clear hM3
            obtain ⟨k, PA, pc, qs, hk, rfl, rfl, rfl, hM4, HQ⟩ := hrel
            by_cases hkl : k < f.words.length
            · have hkk : (k : Int) < (f.words.length : Int) := by omega
              have hk0 : (0 : Int) ≤ (k : Int) := by omega
              obtain ⟨s, hs⟩ : ∃ s, f.words[k]? = some s := ⟨_, List.getElem?_eq_getElem hkl⟩
              obtain ⟨bd, rfl, cb⟩ := (HS0.out.up hM4.below0).at_ k s hs
              have hs32 := HB4.out s (List.mem_of_getElem? hs)
              have hcat1 : ¬ 9223372036854775807 < 1 + s.size := by omega
              have hcat2 : ¬ 9223372036854775807 < 1 + s.size + 1 := by omega
              have hql : qs.length ≤ 70 := by
                rw [HQ.out, List.length_append, List.length_map, List.length_take]
                have := HPS.out.1
                omega
              have HQL := Lib.hid hql
              have HQ2 : Hid (qs ++ [quoteB s] = ps ++ (f.words.take (k + 1)).map quoteB) := Lib.hid (by rw [HQ.out, take_at hs, List.map_append]; simp)
              have hqe := quoteB_eq s
              have HQE := Lib.hid hqe
              have hM5 := hM4.alloc (.cells #[.string (⟨#[39]⟩ ++ s ++ ⟨#[39]⟩)] 9)
              clear hs hM4 hql hqe
              go_wp2_with (refine wpList_append_own2 rfl (.tmp 45) (.tmp 49) 47 rfl 0 9 i0 _ 1 16 Tryd.underlying47 hi0 hz0 hz1 hz2 rfl (by decide) (.slice PA qs.length pc) qs.length (svals qs) rfl (hM5.row 0 rfl) _ 1 1 [.string (⟨#[39]⟩ ++ s ++ ⟨#[39]⟩)] rfl rfl (new1' _ _ _) (by intro u hu; simp at hu; rw [hu]; rfl) (by decide) (by have := HQL.out; unfold maxLen; omega) (by have := HQL.out; omega) (Nat.zero_le _) ?_
                           intro v' w5 hown5 hgr5 hat5
                           have hM6 := hM5.grown 0 rfl hown5 hgr5 hat5
                           obtain ⟨NA, nc, rfl⟩ := row_forms hown5
                           clear hown5 hgr5 hat5)
              have hM7 : Hp [] w [iws (.slice NA (qs ++ [quoteB s]).length nc) (qs ++ [quoteB s]), iblk g5 49 (fcs f (some bd) wk), iblk g1 24 [.string nm, .slice (some ad) L.length c], iws (.slice OA out.length oc) out] w5 := by
                have e : (qs ++ [quoteB s]).length = qs.length + 1 := by simp
                rw [← HQE.out]
                rw [← HQE.out] at e
                rw [iws, e]
                simpa [svals] using hM6
              go_roundg (f.words.length - (k + 1))
              case measure => omega
              case rel => exact ⟨k + 1, NA, nc, qs ++ [quoteB s], hkl, rfl, by first | rfl | simp, by simp, hM7, HQ2⟩
            · have hkk : ¬ (k : Int) < (f.words.length : Int) := by omega
              have HQ2 : Hid (qs = partsF f) := Lib.hid (by rw [HQ.out, List.take_of_length_le (by omega), ← HPS.out.2])
              have hql : 0 < qs.length := by rw [HQ2.out, partsF_len]; omega
              have hql2 : qs.length ≤ 100 := by
                rw [HQ.out, List.length_append, List.length_map, List.length_take]
                have := HPS.out.1
                omega
              obtain ⟨gp, pc', hpv, -⟩ := row_form (hM4.row 0 rfl) hql
              injection hpv with hpA hpn hpc
              subst hpA
              have hjt : Lib.join (qs.map tl) [32] = fieldT f := by rw [HQ2.out]; exact HPT.out
              have hj := join_row qs ⟨#[32]⟩ gp pc wr (hM4.row 0 rfl) (by omega) (by show (Lib.join (qs.map tl) [32]).length ≤ _; rw [hjt]; have := HB1.out; omega)
              have hj2 : Calls Tryd.prog 47 #[.slice (some ⟨gp, 0, none⟩) qs.length pc, .string ⟨#[32]⟩] wr fun e w' => e = .returned (Sv (fieldT f)) ∧ Below wr.heap.size wr w' := by rw [← hjt]; exact hj
              have HJ := Lib.hid hj2
              have HO2 : Hid ((out ++ [bs (fieldT f)]).length = i + 1 ∧ (out ++ [bs (fieldT f)]).map tl = (L.take (i + 1)).map fieldT) := Lib.hid ⟨by have := HO.out.1; simp; omega, by rw [List.map_append, HTk.out, HO.out.2]; simp [tl_bs]⟩
              have HOL := Lib.hid HO.out.1
              clear hj hj2 hjt hpn hpc hql hql2 HQ HPS
              go_wp2_with fail
              refine HJ.out.mono ?_
              rintro e w5 ⟨rfl, hb5⟩
              have hM5 := ((hM4.next hb5).tail).tail
              have hM6 := hM5.alloc (.cells #[Sv (fieldT f)] 9)
              clear hM4 hb5 HJ hM5
              go_wp2_with (refine wpList_append_own2 rfl (.tmp 52) (.tmp 55) 47 rfl 0 9 i0 _ 1 16 Tryd.underlying47 hi0 hz0 hz1 hz2 rfl (by decide) (.slice OA out.length oc) out.length (svals out) rfl (hM6.row 1 rfl) _ 1 1 [Sv (fieldT f)] rfl rfl (new1' _ _ _) (by intro u hu; simp at hu; rw [hu]; rfl) (by decide) (by have := HOL.out; unfold maxLen; omega) (by have := HOL.out; omega) (Nat.zero_le _) ?_
                           intro v' w6 hown6 hgr6 hat6
                           have hM7 := hM6.grown 1 rfl hown6 hgr6 hat6
                           obtain ⟨NA, nc, rfl⟩ := row_forms hown6
                           clear hown6 hgr6 hat6)
              have hM8 : Hp [] w [iblk g1 24 [.string nm, .slice (some ad) L.length c], iws (.slice NA (out ++ [bs (fieldT f)]).length nc) (out ++ [bs (fieldT f)])] w6 := by
                have e : (out ++ [bs (fieldT f)]).length = out.length + 1 := by simp
                rw [iws, e]
                simpa [svals] using hM7
              go_roundg (L.length - (i + 1))
              case measure => omega
              case rel => exact ⟨i + 1, NA, nc, out ++ [bs (fieldT f)], hil, rfl, by first | rfl | simp, by simp, hM8, HO2⟩
      · have hii : ¬ (i : Int) < (L.length : Int) := by omega
        have hol : out.length = L.length := by have := HO.out.1; omega
        have hot : out.map tl = L.map fieldT := by
          have := HO.out.2
          rwa [List.take_of_length_le (by omega)] at this
        obtain ⟨gp, pc', hpv, -⟩ := row_form (hM.row 1 rfl) (by omega)
        injection hpv with hpA hpn hpc
        subst hpA
        have hjl : (Lib.join (L.map fieldT) [44, 32]).length ≤ 65536 := by
          have h1 := congrArg List.length HST.out
          have h2 := HTL.out
          simp only [List.length_append] at h1
          omega
        have HJ : Hid (∀ W', Hp [] w [iblk g1 24 [.string nm, .slice A L.length c], iws (.slice (some ⟨gp, 0, none⟩) out.length oc) out] W' → Calls Tryd.prog 47 #[.slice (some ⟨gp, 0, none⟩) out.length oc, .string ⟨#[44, 32]⟩] W' fun e w' => e = .returned (Sv (Lib.join (L.map fieldT) [44, 32])) ∧ Below W'.heap.size W' w') := Lib.hid (fun W' h => by
          have hj := join_row out ⟨#[44, 32]⟩ gp oc W' (h.row 1 rfl) (by omega) (by show (Lib.join (out.map tl) [44, 32]).length ≤ _; rw [hot]; omega)
          have e : Lib.join (L.map fieldT) [44, 32] = Lib.join (out.map tl) (tl ⟨#[44, 32]⟩) := by rw [hot]
          rw [e]
          exact hj)
        have hnz := HN32.out
        have hjs : (bs (Lib.join (L.map fieldT) [44, 32])).size ≤ 65536 := by rw [size_bs]; exact hjl
        have HST2 := Lib.hid HST.out
        clear hjl hpn hpc hot HO hol
        generalize Lib.join (L.map fieldT) [44, 32] = jt at *
        have hcat1 : ¬ 9223372036854775807 < nm.size + 1 := by omega
        have hcat2 : ¬ 9223372036854775807 < nm.size + 1 + (bs jt).size := by omega
        have hcat3 : ¬ 9223372036854775807 < nm.size + 1 + (bs jt).size + 1 := by omega
        go_upto_region 18 with fail
        have hMd := hM.drew
        clear hM
        obtain ⟨c0, c1⟩ := (hMd.blk 0 rfl).get2
        first | go_region_held3 (fun w' => w'.cell? ⟨g1, 0, none⟩ = some (.string nm)) (first | exact c0 | exact e0)
          (first | (go_at_call 47; refine (HJ.out _ hMd).mono ?_; rintro e w4 ⟨rfl, hb4⟩; have hM4 := hMd.next hb4; obtain ⟨e0, e1⟩ := (hM4.blk 0 rfl).get2)) | fail
        all_goals
          go_wp2_with fail
          go_ret2
          rw [HR.out]
          refine ⟨ret_two (congrArg Value.string ?_) rfl, by first | exact hM4.below0 | (subst hg1; exact hM4.below0)⟩
          rw [← HST2.out]
          conv => lhs; rw [← bs_tl nm]
          show bs (tl nm) ++ bs [40] ++ bs jt ++ bs [41] = _
          rw [bs_app, bs_app, bs_app]
end Go.Proofs.YtmdjhakamapngaaDoor
