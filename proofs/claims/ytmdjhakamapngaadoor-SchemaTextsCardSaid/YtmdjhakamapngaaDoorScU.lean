/-
  The reader of schema: field.
-/
import Derived.Test.YtmdjhakamapngaaDoorScT
import Derived.Test.YtmdjhakamapngaaDoorScI
import Derived.Deep.AppendLies
import Derived.Deep.RegionHeldLaw
namespace Go.Proofs.YtmdjhakamapngaaDoor
open Go.RowKit Go.Shelf
set_option linter.unusedVariables false

theorem str_info : (Tryd.prog.info? 9).map (fun i => (i.zero, i.size, i.bytes)) = some (some (.string ByteArray.empty), 1, 16) := by kernel_rfl
theorem new1' (w : World) (t : TypeId) (a : Value) : ∀ (j : Nat) u, [a][j]? = some u → (w.alloc (.cells #[a] t)).cell? ((⟨w.heap.size, 0, none⟩ : Addr).add j) = some u := by
  intro j u hu
  have e : (⟨w.heap.size, 0, none⟩ : Addr).add j = ⟨w.heap.size, j, none⟩ := by unfold Addr.add; split <;> simp_all
  rw [e, (show Blk (w.alloc (.cells #[a] t)) w.heap.size t [a] from Blk.new w t [a]).cell j]
  exact hu
theorem lies_alt' {W : World} {v : Value} {g n c : Nat} (h : v.ownBlock = some g ∨ g = W.heap.size) : (Value.slice (some ⟨g, 0, none⟩) n c).ownBlock = v.ownBlock ∨ ∀ b, (Value.slice (some ⟨g, 0, none⟩) n c).ownBlock = some b → W.heap.size ≤ b := by
  rcases h with h | h
  · exact .inl (by rw [h]; rfl)
  · exact .inr fun b hb => by simp [Value.ownBlock] at hb; omega
theorem Hp.rowAt {o : List Nat} {w W : World} {it : List It} (h : Hp o w it W) (i : Nat) {g : Nat} {t : TypeId} {cs : List Value} (hx : it[i]? = some (iblk g t cs)) (ds : List Value) : Hp o w (it.set i (iblk g t ds)) (W.setRow g ds.toArray) :=
  h.upd i hx (row_cells (h.blk i hx) ds) ⟨⟨rfl, rfl, rfl, by simp [World.setRow], fun k hk => absurd hk (Nat.not_lt_zero _)⟩, fun k hk ho => by
    simp only [World.setRow, Array.getElem?_modify]
    rw [if_neg (by simp [iblk] at ho; omega)], fun b hb => .inl hb⟩ (by simp [iblk])
abbrev svals (l : List ByteArray) : List Value := l.map Value.string
abbrev iws (v : Value) (l : List ByteArray) : It := irow 9 1 v l.length (svals l)
theorem wordR_out {l : List UInt8} {w r : List UInt8} (h : wordR l = (some w, r)) : r.length < l.length ∧ r <:+ l := by
  unfold wordR at h
  split at h
  · rename_i h1
    split at h
    · rename_i h2
      cases h
      have h3 : (skS l) ≠ [] := fun e => by unfold isR at h1; rw [e] at h1; cases h1
      have h4 : (runD wdN (skS l).tail) ≠ [] := fun e => by rw [e] at h2; cases h2
      have h5 := (skS_suf l).length_le
      have h6 := (runD_suf wdN (skS l).tail).length_le
      have h7 := List.length_pos_iff.2 h3
      have h8 := List.length_pos_iff.2 h4
      rw [List.length_tail] at h6
      refine ⟨by rw [List.length_tail]; omega, ?_⟩
      exact (tail_suf _).trans ((runD_suf _ _).trans ((tail_suf _).trans (skS_suf _)))
    · cases h
  · cases h
theorem word_suf (l : List UInt8) : (wordR l).2 <:+ l := by
  unfold wordR
  split
  · split
    · exact (tail_suf _).trans ((runD_suf _ _).trans ((tail_suf _).trans (skS_suf _)))
    · exact skS_suf _
  · exact skS_suf _
theorem name_suf (l : List UInt8) : (nameR l).2 <:+ l := by
  unfold nameR
  split
  · exact (runD_suf _ _).trans (skS_suf _)
  · exact skS_suf _
theorem num_suf (l : List UInt8) : (numR l).2 <:+ l := by
  unfold numR
  split
  · exact (drop_suf _).trans (skS_suf _)
  · exact skS_suf _
theorem words_suf : ∀ (k : Nat) (l : List UInt8) (ws : List ByteArray), (wordsR k l ws).2 <:+ l
  | 0, l, ws => List.suffix_refl _
  | k + 1, l, ws => by
    rw [wordsR]
    split
    · have h := word_suf l
      split
      · rename_i r hr; rw [hr] at h; exact h
      · rename_i w r hr; rw [hr] at h; exact (words_suf k r _).trans h
    · exact skS_suf _
theorem skS_sk (l : List UInt8) : skS (skS l) = skS l := by
  unfold skS runD
  generalize hp : (fun b : UInt8 => eqN 32 b.toNat) = p
  induction l with
  | nil => rfl
  | cons a l ih =>
    rw [List.dropWhile_cons]
    split
    · exact ih
    · rename_i h
      rw [List.dropWhile_cons, if_neg h]
theorem isR_sk (c : Nat) (l : List UInt8) : isR c (skS l) = isR c l := by unfold isR; rw [skS_sk]
theorem wordR_sk (l : List UInt8) : wordR (skS l) = wordR l := by unfold wordR; rw [isR_sk, skS_sk]
theorem nameR_sk (l : List UInt8) : nameR (skS l) = nameR l := by unfold nameR; rw [skS_sk]
theorem wordsR_sk (k : Nat) (l : List UInt8) (ws : List ByteArray) : wordsR (k + 1) (skS l) ws = wordsR (k + 1) l ws := by rw [wordsR, wordsR, isR_sk, wordR_sk, skS_sk]
/-- what reading a field leaves behind -/
def FOut (W : World) (g : Nat) (s : ByteArray) (r : Option Fd × List UInt8) (e : Ending) (w' : World) : Prop :=
  match r.1 with
  | none => e = panR ∧ Hp [g] W [irdS g s r.2] w'
  | some f => ∃ WA c, e = .returned (.agg (fcs f WA c).toArray) ∧ Hp [g] W [irdS g s r.2, iws (.slice WA f.words.length c) f.words] w'
theorem FOut.bad {W : World} {g : Nat} {s : ByteArray} {r : Option Fd × List UInt8} {q : List UInt8} {w' : World} (h : r = (none, q)) (hH : Hp [g] W [irdS g s q] w') : FOut W g s r panR w' := by subst h; exact ⟨rfl, hH⟩
set_option maxRecDepth 20000 in
set_option maxHeartbeats 8000000 in
theorem rdfield_any (g : Nat) (s : ByteArray) (hs : s.size ≤ 1000000) (l : List UInt8) (hl : l <:+ tl s) (W : World) (hB : rdB W g s l) (hG : GlobG g W) :
    Calls Tryd.prog 70 #[ptr g] W fun e w' => FOut W g s (fieldR l) e w' := by
  have hk0 := (hB.self.new 49 zF).perm (List.Perm.swap _ _ _)
  have HN := Lib.hid (rdname_any g s hs l hl _ hk0.rdB)
  have HV : Hid (fieldR l = match nameR l with
  | (none, r) => (none, r)
  | (some nm, r) =>
    if isR 39 r then (match wordsR (r.length + 1) r [] with
      | (none, q) => (none, q)
      | (some ws, q) => (some ⟨bs nm, 1, 0, 0, ws⟩, q))
    else match nameR r with
      | (none, q) => (none, q)
      | (some t, q) => if t = numberB then (match numR q with
          | (none, x) => (none, x)
          | (some a, x) => match numR x with
            | (none, y) => (none, y)
            | (some b, y) => (some ⟨bs nm, 0, a, b, []⟩, y)) else (none, skS r)) := Lib.hid rfl
  have hns := (name_suf l).trans hl
  generalize nameR l = nr at *
  obtain ⟨no, r⟩ := nr
  simp only at HN hns
  obtain ⟨g2, hg2⟩ : ∃ x, W.heap.size = x := ⟨_, rfl⟩
  rw [hg2] at hk0
  cases no with
  | none =>
    simp only [outS, panR] at HN
    go_enter Tryd.func70, Tryd.ntmps70
    go_wp2_with fail
    refine HN.out.mono ?_
    rintro e w1 ⟨rfl, hH⟩
    go_wp2_with fail
    exact ⟨rfl, FOut.bad HV.out ((hk0.rd hH).sub (r := [_]))⟩
  | some nm =>
    simp only [outS] at HN
    simp only at HV
    go_enter Tryd.func70, Tryd.ntmps70
    go_wp2_with fail
    refine HN.out.mono ?_
    rintro e w1 ⟨rfl, hH⟩
    have hk1 := (hk0.rd hH).new 49 zF
    clear hH hk0 HN
    go_wp2_with (refine wpList_store_row rfl 49 (.tmp 3) (.tmp 7) rfl w1.heap.size ([.string (bs nm), .int .i64 0, .int .i64 0, .int .i64 0, .slice none 0 0] : List Value).toArray rfl rfl 49 zF.toArray (hk1.blk 0 rfl) (by kernel_rfl) (by kernel_rfl) (by kernel_rfl) ?_)
    have hk2 := (hk1.rowAt 0 rfl [.string (bs nm), .int .i64 0, .int .i64 0, .int .i64 0, .slice none 0 0]).perm (List.Perm.swap _ _ _)
    clear hk1
    have hk2 : Hp [g] W [irdS g s r, iblk w1.heap.size 49 [.string (bs nm), .int .i64 0, .int .i64 0, .int .i64 0, .slice none 0 0], iblk g2 49 zF] ((w1.alloc (.cells #[.string ⟨#[]⟩, .int .i64 0, .int .i64 0, .int .i64 0, .slice none 0 0] 49)).setRow w1.heap.size #[.string (bs nm), .int .i64 0, .int .i64 0, .int .i64 0, .slice none 0 0]) := hk2
    obtain ⟨g3, hg3⟩ : ∃ x, w1.heap.size = x := ⟨_, rfl⟩
    generalize (w1.alloc (.cells #[.string ⟨#[]⟩, .int .i64 0, .int .i64 0, .int .i64 0, .slice none 0 0] 49)).setRow w1.heap.size #[.string (bs nm), .int .i64 0, .int .i64 0, .int .i64 0, .slice none 0 0] = w2 at *
    rw [hg3] at hk2 ⊢
    clear hg3
    refine (is_any 39 g s hs r hns w2 hk2.rdB).mono ?_
    rintro e w3 ⟨rfl, hH⟩
    have hk3 := hk2.rd hH
    clear hH hk2
    have hsk := (skS_suf r).trans hns
    cases hq : isR 39 r with
    | true =>
      have HV2 : Hid (fieldR l = match wordsR (r.length + 1) r [] with
        | (none, q) => (none, q)
        | (some ws, q) => (some ⟨bs nm, 1, 0, 0, ws⟩, q)) := Lib.hid (by rw [HV.out, if_pos hq])
      clear HV hq
      obtain ⟨d0, d1, d2, d3, d4⟩ := (hk3.blk 1 rfl).get5
      have f1 := (hk3.blk 1 rfl).frozen 1
      have hlr := (skS_suf r).length_le
      have hsl := suf_len hsk
      obtain ⟨i0, hi0, hz0, hz1, hz2⟩ := info_parts str_info
      go_upto_region 4 with fail
      have hk4 := ((hk3.set 1 rfl 1 (.int .i64 1)).nilrow 9 1).perm (pull_perm [irdS g s (skS r), iblk g3 49 [.string (bs nm), .int .i64 1, .int .i64 0, .int .i64 0, .slice none 0 0], iblk g2 49 zF, irow 9 1 (.slice none 0 0) 0 []] 3 (by simp))
      clear hk3 d0 d1 d2 d3 d4 f1
      generalize w3.setCell ⟨g3, 1, none⟩ (.int .i64 1) = w4 at *
      go_loopg [] (r.length + 1) (fun m wx => ∃ (k : Nat) (l' : List UInt8) (ws : List ByteArray) (WA : Option Addr) (wc : Nat), m = k ∧ Hp [g] W [irdS g s l', iblk g3 49 [.string (bs nm), .int .i64 1, .int .i64 0, .int .i64 0, .slice WA ws.length wc], iblk g2 49 zF, iws (.slice WA ws.length wc) ws] wx ∧ ws.length + l'.length ≤ s.size ∧ l'.length < k ∧ Hid (l' <:+ tl s ∧ wordsR (r.length + 1) r [] = wordsR k l' ws))
      case atStart => exact ⟨r.length + 1, skS r, [], none, 0, rfl, hk4, by simpa using hsl, by omega, Lib.hid ⟨hsk, (wordsR_sk _ _ _).symm⟩⟩
      case round =>
        obtain ⟨k, l', ws, WA, wc, hmk, hM, hwl, hlk, HE⟩ := hrel
        clear hk4
        obtain ⟨k, rfl⟩ : ∃ j, k = j + 1 := ⟨k - 1, by omega⟩
        have hl' := HE.out.1
        have HW2 : Hid (wordsR (r.length + 1) r [] = if isR 39 l' then (match wordR l' with
          | (none, r) => (none, r)
          | (some w, r) => wordsR k r (ws ++ [bs w])) else (some ws, skS l')) := Lib.hid (by rw [HE.out.2, wordsR]; rfl)
        go_wp2_with fail
        refine (is_any 39 g s hs l' hl' wr hM.rdB).mono ?_
        rintro e w5 ⟨rfl, hH⟩
        have hM1 := hM.rd hH
        clear hM hH
        have hsk' := (skS_suf l').trans hl'
        cases hq : isR 39 l' with
        | false =>
          have HF : Hid (fieldR l = (some ⟨bs nm, 1, 0, 0, ws⟩, skS l')) := Lib.hid (by rw [HV2.out, HW2.out, if_neg (by rw [hq]; simp)])
          clear HW2 HE hq
          have hkE := hM1
          clear hM1
          obtain ⟨d0, d1, d2, d3, d4⟩ := (hkE.blk 1 rfl).get5
          go_wp2_with (refine wpList_store_row rfl 49 (.tmp 2) (.tmp 20) rfl g2 (fcs ⟨bs nm, 1, 0, 0, ws⟩ WA wc).toArray rfl rfl 49 zF.toArray (hkE.blk 2 rfl) (by kernel_rfl) (by kernel_rfl) (by kernel_rfl) ?_)
          have hkF := hkE.rowAt 2 rfl (fcs ⟨bs nm, 1, 0, 0, ws⟩ WA wc)
          obtain ⟨e0, e1, e2, e3, e4⟩ := (hkF.blk 2 rfl).get5
          refine bodyPost_ret (v := .agg (fcs ⟨bs nm, 1, 0, 0, ws⟩ WA wc).toArray) (by simp [results, Tryd.results70, go_sem, e0, e1, e2, e3, e4]) rfl ?_
          rw [HF.out]
          exact ⟨WA, wc, rfl, (hkF.perm (pull_perm _ 3 (by simp)).symm |>.perm (List.Perm.swap _ _ _)).sub (r := [_, _])⟩
        | true =>
          have HWd := Lib.hid (fun W' h => rdword_any g s hs (skS l') hsk' W' h)
          rw [wordR_sk] at HWd
          have HW3 : Hid (wordsR (r.length + 1) r [] = match wordR l' with
          | (none, r) => (none, r)
          | (some w, r) => wordsR k r (ws ++ [bs w])) := Lib.hid (by rw [HW2.out, if_pos hq])
          have hout : ∀ w r, wordR l' = (some w, r) → r.length < l'.length ∧ r <:+ l' := fun w r h => wordR_out h
          clear HW2 HE hq
          have hd4 := hM1.drew
          clear hM1
          obtain ⟨d0, d1, d2, d3, d4⟩ := (hd4.blk 1 rfl).get5
          have f4 := (hd4.blk 1 rfl).frozen 4
          generalize hwr : wordR l' = wo at *
          obtain ⟨wo, r'⟩ := wo
          cases wo with
          | none =>
            simp only [outS, panR] at HWd
            have HF : Hid (fieldR l = (none, r')) := Lib.hid (by rw [HV2.out, HW3.out])
            clear HW3 HV2 hout hwr
            go_upto_region 5 with fail
            --BEGINP
            refine wp_region_held_drew (S := (fun _ => True)) (by kernel_rfl) ?_ (fun hHeld => ?_)
            · trivial
            refine wpAnyH_take (i := 0) (v := ?_) rfl (by kernel_rfl) (by kernel_rfl) (by kernel_rfl) (fun _ _ _ h => h) (Or.inl ⟨by rfl, ?_⟩) (by assumption) ?_
            rotate_left
            · (intro w hSw; (try dsimp only at hSw); (try obtain ⟨hSw1, hSw2⟩ := hSw); go_simp; (try with_reducible rfl))
            try simp only [Act.put, List.getElem_toArray, List.getElem_cons_zero, List.setIfInBounds_toArray, List.set_cons_zero, List.set_cons_succ]
            refine wpAnyH_take (i := 2) (v := ?_) rfl (by kernel_rfl) (by kernel_rfl) (by kernel_rfl) (fun _ _ _ h => h) (Or.inl ⟨by rfl, ?_⟩) (by assumption) ?_
            rotate_left
            · (intro w hSw; (try dsimp only at hSw); (try obtain ⟨hSw1, hSw2⟩ := hSw); go_simp; (try with_reducible rfl))
            try simp only [Act.put, List.getElem_toArray, List.getElem_cons_zero, List.getElem_cons_succ, List.setIfInBounds_toArray, List.set_cons_zero, List.set_cons_succ]
            refine wpAnyH_ready (rs := [1, 3]) (by kernel_rfl) (by simp) ?_
            refine AllReadyH.cons rfl (fun K hK => ?_) ?_
            · go_simp
              refine hK.out _ _ ?_ (fun hHeld => ?_)
              · trivial
              clear hK K
              refine wpAnyH_ready (rs := [3]) (by kernel_rfl) (by simp) ?_
              refine AllReadyH.cons rfl (fun K hK => ?_) ?_
              · go_simp
                refine (HWd.out _ hd4.rdB).mono ?_
                rintro e w6 ⟨rfl, hH⟩
                go_wp2_with fail
                exact ⟨rfl, FOut.bad HF.out ((hd4.rd hH).sub (r := [_, _, _]))⟩
              exact AllReadyH.nil
            refine AllReadyH.cons rfl (fun K hK => ?_) ?_
            · go_simp
              refine (HWd.out _ hd4.rdB).mono ?_
              rintro e w6 ⟨rfl, hH⟩
              go_wp2_with fail
              exact ⟨rfl, FOut.bad HF.out ((hd4.rd hH).sub (r := [_, _, _]))⟩
            exact AllReadyH.nil
            --ENDP
          | some wd =>
            simp only [outS] at HWd
            have ho := hout wd r' rfl
            have hr' := ho.2.trans hl'
            have hrl := ho.1
            have HW4 : Hid (wordsR (r.length + 1) r [] = wordsR k r' (ws ++ [bs wd])) := Lib.hid HW3.out
            clear HW3 hout hwr ho
            go_upto_region 5 with fail
            --BEGINW
            refine wp_region_held_drew (S := (fun _ => True)) (by kernel_rfl) ?_ (fun hHeld => ?_)
            · trivial
            refine wpAnyH_take (i := 0) (v := ?_) rfl (by kernel_rfl) (by kernel_rfl) (by kernel_rfl) (fun _ _ _ h => h) (Or.inl ⟨by rfl, ?_⟩) (by assumption) ?_
            rotate_left
            · (intro w hSw; (try dsimp only at hSw); (try obtain ⟨hSw1, hSw2⟩ := hSw); go_simp; (try with_reducible rfl))
            try simp only [Act.put, List.getElem_toArray, List.getElem_cons_zero, List.setIfInBounds_toArray, List.set_cons_zero, List.set_cons_succ]
            refine wpAnyH_take (i := 2) (v := ?_) rfl (by kernel_rfl) (by kernel_rfl) (by kernel_rfl) (fun _ _ _ h => h) (Or.inl ⟨by rfl, ?_⟩) (by assumption) ?_
            rotate_left
            · (intro w hSw; (try dsimp only at hSw); (try obtain ⟨hSw1, hSw2⟩ := hSw); go_simp; (try with_reducible rfl))
            try simp only [Act.put, List.getElem_toArray, List.getElem_cons_zero, List.getElem_cons_succ, List.setIfInBounds_toArray, List.set_cons_zero, List.set_cons_succ]
            refine wpAnyH_ready (rs := [1, 3]) (by kernel_rfl) (by simp) ?_
            refine AllReadyH.cons rfl (fun K hK => ?_) ?_
            · go_simp
              refine hK.out _ _ ?_ (fun hHeld => ?_)
              · trivial
              clear hK K
              refine wpAnyH_ready (rs := [3]) (by kernel_rfl) (by simp) ?_
              refine AllReadyH.cons rfl (fun K hK => ?_) ?_
              · go_simp
                refine (HWd.out _ hd4.rdB).mono ?_
                rintro e w6 ⟨rfl, hH⟩
                simp only []
                have hA4 := hd4.rd hH
                obtain ⟨d0, d1, d2, d3, d4⟩ := (hA4.blk 1 rfl).get5
                refine hK.out _ _ ?_ (fun hHeld => ?_)
                · trivial
                clear hK K
                refine wpAnyH_ready (rs := [4]) (by kernel_rfl) (by simp) ?_
                refine AllReadyH.cons rfl (fun K hK => ?_) ?_
                · go_simp
                  have hA5 := hA4.alloc (.cells #[.string (bs wd)] 9)
                  obtain ⟨d0, d1, d2, d3, d4⟩ := (hA5.blk 1 rfl).get5
                  refine hK.out _ _ ?_ (fun hHeld => ?_)
                  · trivial
                  clear hK K
                  refine wpAnyH_ready (rs := [5]) (by kernel_rfl) (by simp) ?_
                  refine AllReadyH.cons rfl (fun K hK => ?_) ?_
                  · refine step_append_lies _ (by rfl) (.tmp 14) (.tmp 17) 47 (by rfl) 0 9 i0 _ 1 16 Tryd.underlying47 hi0 hz0 hz1 hz2 rfl (by decide) (.slice WA ws.length wc) ws.length (svals ws) (by rfl) ?o1 _ 1 1 [.string (bs wd)] (by rfl) (by rfl) ?nw ?oc (by decide) ?l1 ?l2 ?l3 _ (by rfl) ?_
                    case o1 => exact (hA5.row 3 rfl)
                    case nw => exact new1' _ _ _
                    case oc => (intro u hu; simp at hu; rw [hu]; rfl)
                    case l1 => (unfold maxLen; omega)
                    case l2 => omega
                    case l3 => exact Nat.zero_le _
                    intro gn cn w7 hownn hgrow hat hltn
                    have hA7 := hA5.grown 3 rfl hownn hgrow (lies_alt' hat)
                    obtain ⟨d0, d1, d2, d3, d4⟩ := (hA7.blk 1 rfl).get5
                    have f4 := (hA7.blk 1 rfl).frozen 4
                    clear hownn hgrow hat hltn
                    refine hK.out _ _ ?_ (fun hHeld => ?_)
                    · trivial
                    clear hK K
                    refine wpAnyH_take (i := 6) (v := ?_) rfl (by kernel_rfl) (by kernel_rfl) (by kernel_rfl) (fun _ _ _ h => h) (Or.inl ⟨by rfl, ?_⟩) (by assumption) ?_
                    rotate_left
                    · (intro w hSw; (try dsimp only at hSw); (try obtain ⟨hSw1, hSw2⟩ := hSw); go_simp; (try with_reducible rfl))
                    try simp only [Act.put, List.getElem_toArray, List.getElem_cons_zero, List.getElem_cons_succ, List.setIfInBounds_toArray, List.set_cons_zero, List.set_cons_succ]
                    refine wpAnyH_ready (rs := [7]) (by kernel_rfl) (by simp) ?_
                    refine AllReadyH.cons rfl (fun K hK => ?_) ?_
                    · go_simp
                      refine hK.out _ _ ?_ (fun hHeld => ?_)
                      · trivial
                      clear hK K
                      refine wpAnyH_done (by kernel_rfl) ?_ _
                      have hA8 := hA7.set 1 rfl 4 (.slice (some ⟨gn, 0, none⟩) (ws.length + 1) cn)
                      go_wp2_with fail
                      go_roundg k
                      case measure => omega
                      case rel => exact ⟨k, r', ws ++ [bs wd], some ⟨gn, 0, none⟩, cn, rfl, (by simpa [iws, svals] using hA8), by simp; omega, by omega, Lib.hid ⟨hr', HW4.out⟩⟩
                    exact AllReadyH.nil
                  exact AllReadyH.nil
                exact AllReadyH.nil
              exact AllReadyH.nil
            refine AllReadyH.cons rfl (fun K hK => ?_) ?_
            · go_simp
              refine (HWd.out _ hd4.rdB).mono ?_
              rintro e w6 ⟨rfl, hH⟩
              simp only []
              have hA4 := hd4.rd hH
              obtain ⟨d0, d1, d2, d3, d4⟩ := (hA4.blk 1 rfl).get5
              refine hK.out _ _ ?_ (fun hHeld => ?_)
              · trivial
              clear hK K
              refine wpAnyH_ready (rs := [1, 4]) (by kernel_rfl) (by simp) ?_
              refine AllReadyH.cons rfl (fun K hK => ?_) ?_
              · go_simp
                refine hK.out _ _ ?_ (fun hHeld => ?_)
                · trivial
                clear hK K
                refine wpAnyH_ready (rs := [4]) (by kernel_rfl) (by simp) ?_
                refine AllReadyH.cons rfl (fun K hK => ?_) ?_
                · go_simp
                  have hA5 := hA4.alloc (.cells #[.string (bs wd)] 9)
                  obtain ⟨d0, d1, d2, d3, d4⟩ := (hA5.blk 1 rfl).get5
                  refine hK.out _ _ ?_ (fun hHeld => ?_)
                  · trivial
                  clear hK K
                  refine wpAnyH_ready (rs := [5]) (by kernel_rfl) (by simp) ?_
                  refine AllReadyH.cons rfl (fun K hK => ?_) ?_
                  · refine step_append_lies _ (by rfl) (.tmp 14) (.tmp 17) 47 (by rfl) 0 9 i0 _ 1 16 Tryd.underlying47 hi0 hz0 hz1 hz2 rfl (by decide) (.slice WA ws.length wc) ws.length (svals ws) (by rfl) ?o1 _ 1 1 [.string (bs wd)] (by rfl) (by rfl) ?nw ?oc (by decide) ?l1 ?l2 ?l3 _ (by rfl) ?_
                    case o1 => exact (hA5.row 3 rfl)
                    case nw => exact new1' _ _ _
                    case oc => (intro u hu; simp at hu; rw [hu]; rfl)
                    case l1 => (unfold maxLen; omega)
                    case l2 => omega
                    case l3 => exact Nat.zero_le _
                    intro gn cn w7 hownn hgrow hat hltn
                    have hA7 := hA5.grown 3 rfl hownn hgrow (lies_alt' hat)
                    obtain ⟨d0, d1, d2, d3, d4⟩ := (hA7.blk 1 rfl).get5
                    have f4 := (hA7.blk 1 rfl).frozen 4
                    clear hownn hgrow hat hltn
                    refine hK.out _ _ ?_ (fun hHeld => ?_)
                    · trivial
                    clear hK K
                    refine wpAnyH_take (i := 6) (v := ?_) rfl (by kernel_rfl) (by kernel_rfl) (by kernel_rfl) (fun _ _ _ h => h) (Or.inl ⟨by rfl, ?_⟩) (by assumption) ?_
                    rotate_left
                    · (intro w hSw; (try dsimp only at hSw); (try obtain ⟨hSw1, hSw2⟩ := hSw); go_simp; (try with_reducible rfl))
                    try simp only [Act.put, List.getElem_toArray, List.getElem_cons_zero, List.getElem_cons_succ, List.setIfInBounds_toArray, List.set_cons_zero, List.set_cons_succ]
                    refine wpAnyH_ready (rs := [7]) (by kernel_rfl) (by simp) ?_
                    refine AllReadyH.cons rfl (fun K hK => ?_) ?_
                    · go_simp
                      refine hK.out _ _ ?_ (fun hHeld => ?_)
                      · trivial
                      clear hK K
                      refine wpAnyH_done (by kernel_rfl) ?_ _
                      have hA8 := hA7.set 1 rfl 4 (.slice (some ⟨gn, 0, none⟩) (ws.length + 1) cn)
                      go_wp2_with fail
                      go_roundg k
                      case measure => omega
                      case rel => exact ⟨k, r', ws ++ [bs wd], some ⟨gn, 0, none⟩, cn, rfl, (by simpa [iws, svals] using hA8), by simp; omega, by omega, Lib.hid ⟨hr', HW4.out⟩⟩
                    exact AllReadyH.nil
                  exact AllReadyH.nil
                exact AllReadyH.nil
              refine AllReadyH.cons rfl (fun K hK => ?_) ?_
              · go_simp
                have hA5 := hA4.alloc (.cells #[.string (bs wd)] 9)
                obtain ⟨d0, d1, d2, d3, d4⟩ := (hA5.blk 1 rfl).get5
                refine hK.out _ _ ?_ (fun hHeld => ?_)
                · trivial
                clear hK K
                refine wpAnyH_ready (rs := [1]) (by kernel_rfl) (by simp) ?_
                refine AllReadyH.cons rfl (fun K hK => ?_) ?_
                · go_simp
                  refine hK.out _ _ ?_ (fun hHeld => ?_)
                  · trivial
                  clear hK K
                  refine wpAnyH_ready (rs := [5]) (by kernel_rfl) (by simp) ?_
                  refine AllReadyH.cons rfl (fun K hK => ?_) ?_
                  · refine step_append_lies _ (by rfl) (.tmp 14) (.tmp 17) 47 (by rfl) 0 9 i0 _ 1 16 Tryd.underlying47 hi0 hz0 hz1 hz2 rfl (by decide) (.slice WA ws.length wc) ws.length (svals ws) (by rfl) ?o1 _ 1 1 [.string (bs wd)] (by rfl) (by rfl) ?nw ?oc (by decide) ?l1 ?l2 ?l3 _ (by rfl) ?_
                    case o1 => exact (hA5.row 3 rfl)
                    case nw => exact new1' _ _ _
                    case oc => (intro u hu; simp at hu; rw [hu]; rfl)
                    case l1 => (unfold maxLen; omega)
                    case l2 => omega
                    case l3 => exact Nat.zero_le _
                    intro gn cn w7 hownn hgrow hat hltn
                    have hA7 := hA5.grown 3 rfl hownn hgrow (lies_alt' hat)
                    obtain ⟨d0, d1, d2, d3, d4⟩ := (hA7.blk 1 rfl).get5
                    have f4 := (hA7.blk 1 rfl).frozen 4
                    clear hownn hgrow hat hltn
                    refine hK.out _ _ ?_ (fun hHeld => ?_)
                    · trivial
                    clear hK K
                    refine wpAnyH_take (i := 6) (v := ?_) rfl (by kernel_rfl) (by kernel_rfl) (by kernel_rfl) (fun _ _ _ h => h) (Or.inl ⟨by rfl, ?_⟩) (by assumption) ?_
                    rotate_left
                    · (intro w hSw; (try dsimp only at hSw); (try obtain ⟨hSw1, hSw2⟩ := hSw); go_simp; (try with_reducible rfl))
                    try simp only [Act.put, List.getElem_toArray, List.getElem_cons_zero, List.getElem_cons_succ, List.setIfInBounds_toArray, List.set_cons_zero, List.set_cons_succ]
                    refine wpAnyH_ready (rs := [7]) (by kernel_rfl) (by simp) ?_
                    refine AllReadyH.cons rfl (fun K hK => ?_) ?_
                    · go_simp
                      refine hK.out _ _ ?_ (fun hHeld => ?_)
                      · trivial
                      clear hK K
                      refine wpAnyH_done (by kernel_rfl) ?_ _
                      have hA8 := hA7.set 1 rfl 4 (.slice (some ⟨gn, 0, none⟩) (ws.length + 1) cn)
                      go_wp2_with fail
                      go_roundg k
                      case measure => omega
                      case rel => exact ⟨k, r', ws ++ [bs wd], some ⟨gn, 0, none⟩, cn, rfl, (by simpa [iws, svals] using hA8), by simp; omega, by omega, Lib.hid ⟨hr', HW4.out⟩⟩
                    exact AllReadyH.nil
                  exact AllReadyH.nil
                exact AllReadyH.nil
              exact AllReadyH.nil
            exact AllReadyH.nil
            --ENDW
    | false =>
      have HV2 : Hid (fieldR l = match nameR r with
      | (none, q) => (none, q)
      | (some t, q) => if t = numberB then (match numR q with
          | (none, x) => (none, x)
          | (some a, x) => match numR x with
            | (none, y) => (none, y)
            | (some b, y) => (some ⟨bs nm, 0, a, b, []⟩, y)) else (none, skS r)) := Lib.hid (by rw [HV.out, if_neg (by rw [hq]; simp)])
      clear HV hq
      have HN := Lib.hid (fun W' h => rdname_any g s hs (skS r) hsk W' h)
      rw [nameR_sk] at HN
      have hns2 := (name_suf r).trans hns
      obtain ⟨c0, c1, -⟩ := rd_cells hk3
      generalize nameR r = nr at *
      obtain ⟨no, q⟩ := nr
      simp only at hns2
      cases no with
      | none =>
        simp only [outS, panR] at HN
        have HF : Hid (fieldR l = (none, q)) := Lib.hid HV2.out
        go_wp2_with fail
        refine (HN.out w3 hk3.rdB).mono ?_
        rintro e w4 ⟨rfl, hH⟩
        go_wp2_with fail
        exact ⟨rfl, FOut.bad HF.out ((hk3.rd hH).sub (r := [_, _]))⟩
      | some t =>
        simp only [outS] at HN
        have HV3 : Hid (fieldR l = if t = numberB then (match numR q with
          | (none, x) => (none, x)
          | (some a, x) => match numR x with
            | (none, y) => (none, y)
            | (some b, y) => (some ⟨bs nm, 0, a, b, []⟩, y)) else (none, skS r)) := Lib.hid HV2.out
        clear HV2
        have hte : ((bs t).toList == [110, 117, 109, 98, 101, 114]) = decide (t = numberB) := by
          rw [toList_tl, tl_bs, Bool.eq_iff_iff, beq_iff_eq, decide_eq_true_iff]; rfl
        go_wp2_with fail
        refine (HN.out w3 hk3.rdB).mono ?_
        rintro e w4 ⟨rfl, hH⟩
        have hk4 := hk3.rd hH
        clear hH hk3 c0 c1 HN
        by_cases hn : t = numberB
        · rw [decide_eq_true hn] at hte
          have HV4 : Hid (fieldR l = match numR q with
          | (none, x) => (none, x)
          | (some a, x) => match numR x with
            | (none, y) => (none, y)
            | (some b, y) => (some ⟨bs nm, 0, a, b, []⟩, y)) := Lib.hid (by rw [HV3.out, if_pos hn])
          clear HV3 hn
          have hgl := hB.lt
          have HN1 := Lib.hid (fun W' h hG => rdnumber_any g s hs q hns2 W' h hG)
          have hn1 := (num_suf q).trans hns2
          generalize numR q = nq at *
          obtain ⟨no, x⟩ := nq
          simp only at hn1
          cases no with
          | none =>
            simp only [outI, panR] at HN1
            have HF : Hid (fieldR l = (none, x)) := Lib.hid HV4.out
            go_wp2_with fail
            refine (HN1.out w4 hk4.rdB (Hp.glob hG hgl hk4)).mono ?_
            rintro e w5 ⟨rfl, hH⟩
            go_wp2_with fail
            exact ⟨rfl, FOut.bad HF.out ((hk4.rd hH).sub (r := [_, _]))⟩
          | some a =>
            simp only [outI] at HN1
            have HV5 : Hid (fieldR l = match numR x with
            | (none, y) => (none, y)
            | (some b, y) => (some ⟨bs nm, 0, a, b, []⟩, y)) := Lib.hid HV4.out
            clear HV4
            go_wp2_with fail
            refine (HN1.out w4 hk4.rdB (Hp.glob hG hgl hk4)).mono ?_
            rintro e w5 ⟨rfl, hH⟩
            have hk5 := hk4.rd hH
            clear hH hk4 HN1
            obtain ⟨d0, d1, d2, d3, d4⟩ := (hk5.blk 1 rfl).get5
            have f2 := (hk5.blk 1 rfl).frozen 2
            have hk6 := hk5.set 1 rfl 2 (.int .i64 a)
            have HN2 := Lib.hid (fun W' h hG => rdnumber_any g s hs x hn1 W' h hG)
            have hn2 := (num_suf x).trans hn1
            generalize numR x = nq at *
            obtain ⟨no, y⟩ := nq
            cases no with
            | none =>
              simp only [outI, panR] at HN2
              have HF : Hid (fieldR l = (none, y)) := Lib.hid HV5.out
              go_wp2_with fail
              refine (HN2.out _ hk6.rdB (Hp.glob hG hgl hk6)).mono ?_
              rintro e w6 ⟨rfl, hH⟩
              go_wp2_with fail
              exact ⟨rfl, FOut.bad HF.out ((hk6.rd hH).sub (r := [_, _]))⟩
            | some b =>
              simp only [outI] at HN2
              have HF : Hid (fieldR l = (some ⟨bs nm, 0, a, b, []⟩, y)) := Lib.hid HV5.out
              clear HV5
              go_wp2_with fail
              refine (HN2.out _ hk6.rdB (Hp.glob hG hgl hk6)).mono ?_
              rintro e w6 ⟨rfl, hH⟩
              have hk7 := hk6.rd hH
              clear hH hk6 hk5 HN2 d0 d1 d2 d3 d4 f2
              obtain ⟨d0, d1, d2, d3, d4⟩ := (hk7.blk 1 rfl).get5
              have f3 := (hk7.blk 1 rfl).frozen 3
              go_upto_region 13 with fail
              have hkE := hk7.set 1 rfl 3 (.int .i64 b)
              clear hk7 d0 d1 d2 d3 d4 f3
              obtain ⟨d0, d1, d2, d3, d4⟩ := (hkE.blk 1 rfl).get5
              go_wp2_with (refine wpList_store_row rfl 49 (.tmp 2) (.tmp 40) rfl g2 (fcs ⟨bs nm, 0, a, b, []⟩ none 0).toArray rfl rfl 49 zF.toArray (hkE.blk 2 rfl) (by kernel_rfl) (by kernel_rfl) (by kernel_rfl) ?_)
              have hkF := hkE.rowAt 2 rfl (fcs ⟨bs nm, 0, a, b, []⟩ none 0)
              obtain ⟨e0, e1, e2, e3, e4⟩ := (hkF.blk 2 rfl).get5
              refine bodyPost_ret (v := .agg (fcs ⟨bs nm, 0, a, b, []⟩ none 0).toArray) (by simp [results, Tryd.results70, go_sem, e0, e1, e2, e3, e4]) rfl ?_
              rw [HF.out]
              exact ⟨none, 0, rfl, ((hkF.nilrow 9 1).perm (List.Perm.swap _ _ _)).sub (r := [_, _])⟩
        · rw [decide_eq_false hn] at hte
          have HF : Hid (fieldR l = (none, skS r)) := Lib.hid (by rw [HV3.out, if_neg hn])
          clear HV3 hn
          obtain ⟨c0, c1, f1⟩ := rd_cells hk4
          have hk5 := rd_next (l' := skS r) hk4 rfl
          go_wp2_with fail
          exact ⟨rfl, FOut.bad HF.out (hk5.sub (r := [_, _]))⟩
end Go.Proofs.YtmdjhakamapngaaDoor
