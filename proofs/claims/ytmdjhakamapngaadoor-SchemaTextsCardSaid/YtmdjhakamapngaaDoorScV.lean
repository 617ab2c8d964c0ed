/-
  The reader of schema: the whole description.
-/
import Derived.Test.YtmdjhakamapngaaDoorScU
namespace Go.Proofs.YtmdjhakamapngaaDoor
open Go.RowKit Go.Shelf
set_option linter.unusedVariables false

abbrev FV := Fd × (Option Addr × Nat)
def fcells (P : List FV) : List Value := P.flatMap fun x => fcs x.1 x.2.1 x.2.2
def wIts (P : List FV) : List It := P.map fun x => iws (.slice x.2.1 x.1.words.length x.2.2) x.1.words
abbrev fds (P : List FV) : List Fd := P.map Prod.fst
abbrev ifs (v : Value) (P : List FV) : It := irow 49 5 v P.length (fcells P)
theorem fcells_snoc (P : List FV) (x : FV) : fcells (P ++ [x]) = fcells P ++ fcs x.1 x.2.1 x.2.2 := by simp [fcells]
theorem wIts_snoc (P : List FV) (x : FV) : wIts (P ++ [x]) = wIts P ++ [iws (.slice x.2.1 x.1.words.length x.2.2) x.1.words] := by simp [wIts]
theorem fd_info : (Tryd.prog.info? 49).map (fun i => (i.zero, i.size, i.bytes)) = some (some zFd, 5, 64) := by kernel_rfl
theorem new5' (w : World) (t : TypeId) (a b c d f : Value) : ∀ (j : Nat) u, [a, b, c, d, f][j]? = some u → (w.alloc (.cells #[a, b, c, d, f] t)).cell? ((⟨w.heap.size, 0, none⟩ : Addr).add j) = some u := by
  intro j u hu
  have e : (⟨w.heap.size, 0, none⟩ : Addr).add j = ⟨w.heap.size, j, none⟩ := by unfold Addr.add; split <;> simp_all
  rw [e, (show Blk (w.alloc (.cells #[a, b, c, d, f] t)) w.heap.size t [a, b, c, d, f] from Blk.new w t [a, b, c, d, f]).cell j]
  exact hu
theorem field_suf (l : List UInt8) : (fieldR l).2 <:+ l := by
  unfold fieldR
  have h := name_suf l
  split
  · rename_i r hr; rw [hr] at h; exact h
  · rename_i nm r hr
    rw [hr] at h
    split
    · have h2 := words_suf (r.length + 1) r []
      split
      · rename_i q hq; rw [hq] at h2; exact h2.trans h
      · rename_i ws q hq; rw [hq] at h2; exact h2.trans h
    · have h2 := name_suf r
      split
      · rename_i q hq; rw [hq] at h2; exact h2.trans h
      · rename_i t q hq
        rw [hq] at h2
        split
        · have h3 := num_suf q
          split
          · rename_i x hx; rw [hx] at h3; exact h3.trans (h2.trans h)
          · rename_i a x hx
            rw [hx] at h3
            have h4 := num_suf x
            split
            · rename_i y hy; rw [hy] at h4; exact h4.trans (h3.trans (h2.trans h))
            · rename_i b y hy; rw [hy] at h4; exact h4.trans (h3.trans (h2.trans h))
        · exact (skS_suf r).trans h
theorem signR_sk (c : Nat) (l : List UInt8) : signR c (skS l) = signR c l := by unfold signR; rw [isR_sk, skS_sk]
theorem fieldsR_sk (k : Nat) (l : List UInt8) (fs : List Fd) : fieldsR (k + 1) (skS l) fs = fieldsR (k + 1) l fs := by rw [fieldsR, fieldsR, isR_sk, skS_sk]
theorem push_it {o : List Nat} {w W : World} {a x : It} {L : List It} (h : Hp o w (a :: x :: L) W) : Hp o w (a :: (L ++ [x])) W := h.perm (List.Perm.cons _ (List.perm_append_singleton x L).symm)
theorem any_any (n : Nat) (w : World) : Calls Tryd.prog 73 #[.int .u8 (n : Int)] w fun e w' => e = .returned (.bool ((fun _ => true : Nat → Bool) n)) ∧ w' = w := by
  go_enter Tryd.func73, Tryd.ntmps73
  go_wp2_with fail
  go_ret
  exact ⟨rfl, rfl⟩
theorem decAny : Decides 73 (fun _ => true) := ⟨enters_of Tryd.func73 (by kernel_rfl) rfl, any_any⟩
abbrev zS : List Value := [.string ByteArray.empty, .slice none 0 0]
/-- what reading a description leaves behind -/
def SOut (W : World) (g : Nat) (s : ByteArray) (r : Option (ByteArray × List Fd) × List UInt8) (e : Ending) (w' : World) : Prop :=
  match r.1 with
  | none => e = panR ∧ Hp [g] W [irdS g s r.2] w'
  | some x => ∃ A c P, fds P = x.2 ∧ e = .returned (.agg #[.string x.1, .slice A P.length c]) ∧ Hp [g] W (irdS g s r.2 :: ifs (.slice A P.length c) P :: wIts P) w'
theorem SOut.bad {W : World} {g : Nat} {s : ByteArray} {r : Option (ByteArray × List Fd) × List UInt8} {q : List UInt8} {w' : World} (h : r = (none, q)) (hH : Hp [g] W [irdS g s q] w') : SOut W g s r panR w' := by subst h; exact ⟨rfl, hH⟩
theorem Hp.drop23 {o : List Nat} {w W : World} {a b c : It} {L : List It} (h : Hp o w (a :: b :: c :: L) W) : Hp o w (a :: L) W := (h.perm ((List.Perm.swap _ _ _).trans (List.Perm.cons _ (List.Perm.swap _ _ _)))).tail.tail
theorem Hp.one {o : List Nat} {w W : World} {a : It} {L : List It} (h : Hp o w (a :: L) W) : Hp o w [a] W := Hp.sub (r := L) h
theorem Hp.fld {W0 W w' : World} {g : Nat} {s : ByteArray} {l : List UInt8} {q : List UInt8} {v : It} {L : List It} (h : Hp [g] W0 (irdS g s l :: L) W) (h' : Hp [g] W [irdS g s q, v] w') : Hp [g] W0 (irdS g s q :: v :: L) w' := Hp.call (a := [irdS g s l]) (a' := [irdS g s q, v]) h h'

set_option maxRecDepth 20000 in
set_option maxHeartbeats 16000000 in
theorem rdschema_any (g : Nat) (s : ByteArray) (hs : s.size ≤ 1000000) (l : List UInt8) (hl : l <:+ tl s) (W : World) (hB : rdB W g s l) (hG : GlobG g W) :
    Calls Tryd.prog 49 #[ptr g] W fun e w' => SOut W g s (schemaR l) e w' := by
  have hk0 := (hB.self.new 24 zS).perm (List.Perm.swap _ _ _)
  have hgl := hB.lt
  have HN := Lib.hid (rdname_any g s hs l hl _ hk0.rdB)
  have HV : Hid (schemaR l = match nameR l with
  | (none, r) => (none, r)
  | (some nm, r) => if isR 40 r then (match fieldR (skS r).tail with
      | (none, q) => (none, q)
      | (some f, q) => match fieldsR (q.length + 1) q [f] with
        | (none, x) => (none, x)
        | (some fs, x) => if isR 41 x then (if skS (skS x).tail = [] then (some (bs nm, fs), []) else (none, skS (skS x).tail)) else (none, skS x)) else (none, skS r)) := Lib.hid rfl
  have hns := (name_suf l).trans hl
  generalize nameR l = nr at *
  obtain ⟨no, r⟩ := nr
  simp only at HN hns
  obtain ⟨g2, hg2⟩ : ∃ x, W.heap.size = x := ⟨_, rfl⟩
  rw [hg2] at hk0
  cases no with
  | none =>
    simp only [outS, panR] at HN
    go_enter Tryd.func49, Tryd.ntmps49
    go_wp2_with fail
    refine HN.out.mono ?_
    rintro e w1 ⟨rfl, hH⟩
    go_wp2_with fail
    exact ⟨rfl, SOut.bad HV.out (hk0.rd hH).one⟩
  | some nm =>
    simp only [outS] at HN
    simp only at HV
    go_enter Tryd.func49, Tryd.ntmps49
    go_wp2_with fail
    refine HN.out.mono ?_
    rintro e w1 ⟨rfl, hH⟩
    have hk1 := (hk0.rd hH).new 24 zS
    clear hH hk0 HN
    go_wp2_with (refine wpList_store_row rfl 24 (.tmp 3) (.tmp 6) rfl w1.heap.size ([.string (bs nm), .slice none 0 0] : List Value).toArray rfl rfl 24 zS.toArray (hk1.blk 0 rfl) (by kernel_rfl) (by kernel_rfl) (by kernel_rfl) ?_)
    have hk2 : Hp [g] W [irdS g s r, iblk w1.heap.size 24 [.string (bs nm), .slice none 0 0], iblk g2 24 zS] ((w1.alloc (.cells #[.string ⟨#[]⟩, .slice none 0 0] 24)).setRow w1.heap.size #[.string (bs nm), .slice none 0 0]) := (hk1.rowAt 0 rfl [.string (bs nm), .slice none 0 0]).perm (List.Perm.swap _ _ _)
    clear hk1
    obtain ⟨g3, hg3⟩ : ∃ x, w1.heap.size = x := ⟨_, rfl⟩
    generalize (w1.alloc (.cells #[.string ⟨#[]⟩, .slice none 0 0] 24)).setRow w1.heap.size #[.string (bs nm), .slice none 0 0] = w2 at *
    rw [hg3] at hk2 ⊢
    clear hg3
    refine (sign_any 40 g s hs r hns w2 hk2.rdB).mono ?_
    rintro e w3 ⟨he, hH⟩
    have hsk := (skS_suf r).trans hns
    have hsr : signR 40 r = if isR 40 r then (true, (skS r).tail) else (false, skS r) := rfl
    cases hq : isR 40 r with
    | false =>
      rw [hq, if_neg (by simp)] at hsr
      rw [hsr] at he hH
      simp only [outU, panR] at he
      subst he
      have HF : Hid (schemaR l = (none, skS r)) := Lib.hid (by rw [HV.out, if_neg (by rw [hq]; simp)])
      go_wp2_with fail
      exact ⟨rfl, SOut.bad HF.out (hk2.rd hH).one⟩
    | true =>
      rw [hq, if_pos rfl] at hsr
      rw [hsr] at he hH
      simp only [outU] at he
      subst he
      have hk3 := hk2.rd hH
      clear hk2 hH hsr
      have ht := (tail_suf (skS r)).trans hsk
      have HV2 : Hid (schemaR l = match fieldR (skS r).tail with
      | (none, q) => (none, q)
      | (some f, q) => match fieldsR (q.length + 1) q [f] with
        | (none, x) => (none, x)
        | (some fs, x) => if isR 41 x then (if skS (skS x).tail = [] then (some (bs nm, fs), []) else (none, skS (skS x).tail)) else (none, skS x)) := Lib.hid (by rw [HV.out, if_pos hq])
      clear HV hq
      generalize (skS r).tail = l0 at *
      have HFd := Lib.hid (fun W' h hG => rdfield_any g s hs l0 ht W' h hG)
      have hfs := (field_suf l0).trans ht
      obtain ⟨i0, hi0, hz0, hz1, hz2⟩ := info_parts fd_info
      have hd4 := ((hk3.nilrow 49 5).perm (pull_perm [irdS g s l0, iblk g3 24 [.string (bs nm), .slice none 0 0], iblk g2 24 zS, irow 49 5 (.slice none 0 0) 0 []] 3 (by simp))).drew
      clear hk3
      obtain ⟨d0, d1⟩ := (hd4.blk 1 rfl).get2
      have f1 := (hd4.blk 1 rfl).frozen 1
      generalize hfr : fieldR l0 = fr at *
      obtain ⟨fo, q⟩ := fr
      simp only at hfs
      cases fo with
      | none =>
        simp only [FOut, panR] at HFd
        have HF : Hid (schemaR l = (none, q)) := Lib.hid HV2.out
        clear HV2
        go_upto_region 3 with fail
        --BEGINA
        refine wp_region_held_drew (S := (fun _ => True)) (by kernel_rfl) ?_ (fun hHeld => ?_)
        · trivial
        refine wpAnyH_take (i := 0) (v := ?_) rfl (by kernel_rfl) (by kernel_rfl) (by kernel_rfl) (fun _ _ _ h => h) (Or.inl ⟨by rfl, ?_⟩) (by assumption) ?_
        rotate_left
        · (intro w hSw; (try dsimp only at hSw); (try obtain ⟨hSw1, hSw2⟩ := hSw); go_simp; (try with_reducible rfl))
        try simp only [Act.put, List.getElem_toArray, List.getElem_cons_zero, List.setIfInBounds_toArray, List.set_cons_zero, List.set_cons_succ]
        refine wpAnyH_take (i := 2) (v := ?_) rfl (by kernel_rfl) (by kernel_rfl) (by kernel_rfl) (fun _ _ _ h => h) (Or.inl ⟨by rfl, ?_⟩) (by assumption) ?_
        rotate_left
        · (intro w hSw; (try dsimp only at hSw); (try obtain ⟨hSw1, hSw2⟩ := hSw); go_simp; (try with_reducible rfl))
        try simp only [Act.put, List.getElem_toArray, List.getElem_cons_zero, List.getElem_cons_succ, List.setIfInBounds_toArray, List.set_cons_zero, List.set_cons_succ]
        refine wpAnyH_ready (rs := [1, 3]) (by kernel_rfl) (by simp) ?_
        refine AllReadyH.cons rfl (fun K hK => ?_) ?_
        · go_simp
          refine hK.out _ _ ?_ (fun hHeld => ?_)
          · trivial
          clear hK K
          refine wpAnyH_ready (rs := [3]) (by kernel_rfl) (by simp) ?_
          refine AllReadyH.cons rfl (fun K hK => ?_) ?_
          · go_simp
            refine (HFd.out _ hd4.rdB (Hp.glob hG hgl hd4)).mono ?_
            rintro e w6 ⟨rfl, hH⟩
            go_wp2_with fail
            exact ⟨rfl, SOut.bad HF.out (hd4.rd hH).one⟩
          exact AllReadyH.nil
        refine AllReadyH.cons rfl (fun K hK => ?_) ?_
        · go_simp
          refine (HFd.out _ hd4.rdB (Hp.glob hG hgl hd4)).mono ?_
          rintro e w6 ⟨rfl, hH⟩
          go_wp2_with fail
          exact ⟨rfl, SOut.bad HF.out (hd4.rd hH).one⟩
        exact AllReadyH.nil
        --ENDA
      | some f =>
        simp only [FOut] at HFd
        have HV3 : Hid (schemaR l = match fieldsR (q.length + 1) q [f] with
        | (none, x) => (none, x)
        | (some fs, x) => if isR 41 x then (if skS (skS x).tail = [] then (some (bs nm, fs), []) else (none, skS (skS x).tail)) else (none, skS x)) := Lib.hid HV2.out
        clear HV2
        have hql := suf_len hfs
        clear hfr
        go_upto_block 2 with fail
        go_cut [] (fun wx => ∃ (A : Option Addr) (c : Nat) (P : List FV), fds P = [f] ∧ Hp [g] W (irdS g s q :: iblk g3 24 [.string (bs nm), .slice A P.length c] :: iblk g2 24 zS :: ifs (.slice A P.length c) P :: wIts P) wx)
        case first =>
          go_upto_region 3 with fail
          --BEGINB
          refine wp_region_held_drew (S := (fun _ => True)) (by kernel_rfl) ?_ (fun hHeld => ?_)
          · trivial
          refine wpAnyH_take (i := 0) (v := ?_) rfl (by kernel_rfl) (by kernel_rfl) (by kernel_rfl) (fun _ _ _ h => h) (Or.inl ⟨by rfl, ?_⟩) (by assumption) ?_
          rotate_left
          · (intro w hSw; (try dsimp only at hSw); (try obtain ⟨hSw1, hSw2⟩ := hSw); go_simp; (try with_reducible rfl))
          try simp only [Act.put, List.getElem_toArray, List.getElem_cons_zero, List.setIfInBounds_toArray, List.set_cons_zero, List.set_cons_succ]
          refine wpAnyH_take (i := 2) (v := ?_) rfl (by kernel_rfl) (by kernel_rfl) (by kernel_rfl) (fun _ _ _ h => h) (Or.inl ⟨by rfl, ?_⟩) (by assumption) ?_
          rotate_left
          · (intro w hSw; (try dsimp only at hSw); (try obtain ⟨hSw1, hSw2⟩ := hSw); go_simp; (try with_reducible rfl))
          try simp only [Act.put, List.getElem_toArray, List.getElem_cons_zero, List.getElem_cons_succ, List.setIfInBounds_toArray, List.set_cons_zero, List.set_cons_succ]
          refine wpAnyH_ready (rs := [1, 3]) (by kernel_rfl) (by simp) ?_
          refine AllReadyH.cons rfl (fun K hK => ?_) ?_
          · go_simp
            refine hK.out _ _ ?_ (fun hHeld => ?_)
            · trivial
            clear hK K
            refine wpAnyH_ready (rs := [3]) (by kernel_rfl) (by simp) ?_
            refine AllReadyH.cons rfl (fun K hK => ?_) ?_
            · go_simp
              refine (HFd.out _ hd4.rdB (Hp.glob hG hgl hd4)).mono ?_
              rintro e w6 ⟨WA, wc, rfl, hH⟩
              simp only []
              have hA4 := hd4.fld hH
              obtain ⟨d0, d1⟩ := (hA4.blk 2 rfl).get2
              refine hK.out _ _ ?_ (fun hHeld => ?_)
              · trivial
              clear hK K
              refine wpAnyH_ready (rs := [4]) (by kernel_rfl) (by simp) ?_
              refine AllReadyH.cons rfl (fun K hK => ?_) ?_
              · go_simp
                have hA5 := hA4.alloc (.cells (fcs f WA wc).toArray 49)
                obtain ⟨d0, d1⟩ := (hA5.blk 2 rfl).get2
                refine hK.out _ _ ?_ (fun hHeld => ?_)
                · trivial
                clear hK K
                refine wpAnyH_ready (rs := [5]) (by kernel_rfl) (by simp) ?_
                refine AllReadyH.cons rfl (fun K hK => ?_) ?_
                · refine step_append_lies _ (by rfl) (.tmp 10) (.tmp 13) 22 (by rfl) 0 49 i0 _ 5 64 Tryd.underlying22 hi0 hz0 hz1 hz2 rfl (by decide) (.slice none 0 0) 0 (fcells []) (by rfl) ?o1 _ 1 1 (fcs f WA wc) (by rfl) (by rfl) ?nw ?oc (by decide) ?l1 ?l2 ?l3 _ (by rfl) ?_
                  case o1 => exact (hA5.row 4 rfl)
                  case nw => exact new5' _ _ _ _ _ _ _
                  case oc => (intro u hu; simp at hu; rcases hu with h | h | h | h | h <;> (rw [h]; rfl))
                  case l1 => (unfold maxLen; omega)
                  case l2 => omega
                  case l3 => exact Nat.zero_le _
                  intro gn cn w7 hownn hgrow hat hltn
                  have hA7 := hA5.grown 4 rfl hownn hgrow (lies_alt' hat)
                  obtain ⟨d0, d1⟩ := (hA7.blk 2 rfl).get2
                  have f1 := (hA7.blk 2 rfl).frozen 1
                  clear hownn hgrow hat hltn
                  refine hK.out _ _ ?_ (fun hHeld => ?_)
                  · trivial
                  clear hK K
                  refine wpAnyH_take (i := 6) (v := ?_) rfl (by kernel_rfl) (by kernel_rfl) (by kernel_rfl) (fun _ _ _ h => h) (Or.inl ⟨by rfl, ?_⟩) (by assumption) ?_
                  rotate_left
                  · (intro w hSw; (try dsimp only at hSw); (try obtain ⟨hSw1, hSw2⟩ := hSw); go_simp; (try with_reducible rfl))
                  try simp only [Act.put, List.getElem_toArray, List.getElem_cons_zero, List.getElem_cons_succ, List.setIfInBounds_toArray, List.set_cons_zero, List.set_cons_succ]
                  refine wpAnyH_ready (rs := [7]) (by kernel_rfl) (by simp) ?_
                  refine AllReadyH.cons rfl (fun K hK => ?_) ?_
                  · go_simp
                    refine hK.out _ _ ?_ (fun hHeld => ?_)
                    · trivial
                    clear hK K
                    refine wpAnyH_done (by kernel_rfl) ?_ _
                    have hA8 := hA7.set 2 rfl 1 (.slice (some ⟨gn, 0, none⟩) (0 + 1) cn)
                    go_wp2_with fail
                    go_meet
                    exact ⟨some ⟨gn, 0, none⟩, cn, [(f, WA, wc)], rfl, (by have := push_it hA8; simpa [ifs, fcells, wIts] using this)⟩
                  exact AllReadyH.nil
                exact AllReadyH.nil
              exact AllReadyH.nil
            exact AllReadyH.nil
          refine AllReadyH.cons rfl (fun K hK => ?_) ?_
          · go_simp
            refine (HFd.out _ hd4.rdB (Hp.glob hG hgl hd4)).mono ?_
            rintro e w6 ⟨WA, wc, rfl, hH⟩
            simp only []
            have hA4 := hd4.fld hH
            obtain ⟨d0, d1⟩ := (hA4.blk 2 rfl).get2
            refine hK.out _ _ ?_ (fun hHeld => ?_)
            · trivial
            clear hK K
            refine wpAnyH_ready (rs := [1, 4]) (by kernel_rfl) (by simp) ?_
            refine AllReadyH.cons rfl (fun K hK => ?_) ?_
            · go_simp
              refine hK.out _ _ ?_ (fun hHeld => ?_)
              · trivial
              clear hK K
              refine wpAnyH_ready (rs := [4]) (by kernel_rfl) (by simp) ?_
              refine AllReadyH.cons rfl (fun K hK => ?_) ?_
              · go_simp
                have hA5 := hA4.alloc (.cells (fcs f WA wc).toArray 49)
                obtain ⟨d0, d1⟩ := (hA5.blk 2 rfl).get2
                refine hK.out _ _ ?_ (fun hHeld => ?_)
                · trivial
                clear hK K
                refine wpAnyH_ready (rs := [5]) (by kernel_rfl) (by simp) ?_
                refine AllReadyH.cons rfl (fun K hK => ?_) ?_
                · refine step_append_lies _ (by rfl) (.tmp 10) (.tmp 13) 22 (by rfl) 0 49 i0 _ 5 64 Tryd.underlying22 hi0 hz0 hz1 hz2 rfl (by decide) (.slice none 0 0) 0 (fcells []) (by rfl) ?o1 _ 1 1 (fcs f WA wc) (by rfl) (by rfl) ?nw ?oc (by decide) ?l1 ?l2 ?l3 _ (by rfl) ?_
                  case o1 => exact (hA5.row 4 rfl)
                  case nw => exact new5' _ _ _ _ _ _ _
                  case oc => (intro u hu; simp at hu; rcases hu with h | h | h | h | h <;> (rw [h]; rfl))
                  case l1 => (unfold maxLen; omega)
                  case l2 => omega
                  case l3 => exact Nat.zero_le _
                  intro gn cn w7 hownn hgrow hat hltn
                  have hA7 := hA5.grown 4 rfl hownn hgrow (lies_alt' hat)
                  obtain ⟨d0, d1⟩ := (hA7.blk 2 rfl).get2
                  have f1 := (hA7.blk 2 rfl).frozen 1
                  clear hownn hgrow hat hltn
                  refine hK.out _ _ ?_ (fun hHeld => ?_)
                  · trivial
                  clear hK K
                  refine wpAnyH_take (i := 6) (v := ?_) rfl (by kernel_rfl) (by kernel_rfl) (by kernel_rfl) (fun _ _ _ h => h) (Or.inl ⟨by rfl, ?_⟩) (by assumption) ?_
                  rotate_left
                  · (intro w hSw; (try dsimp only at hSw); (try obtain ⟨hSw1, hSw2⟩ := hSw); go_simp; (try with_reducible rfl))
                  try simp only [Act.put, List.getElem_toArray, List.getElem_cons_zero, List.getElem_cons_succ, List.setIfInBounds_toArray, List.set_cons_zero, List.set_cons_succ]
                  refine wpAnyH_ready (rs := [7]) (by kernel_rfl) (by simp) ?_
                  refine AllReadyH.cons rfl (fun K hK => ?_) ?_
                  · go_simp
                    refine hK.out _ _ ?_ (fun hHeld => ?_)
                    · trivial
                    clear hK K
                    refine wpAnyH_done (by kernel_rfl) ?_ _
                    have hA8 := hA7.set 2 rfl 1 (.slice (some ⟨gn, 0, none⟩) (0 + 1) cn)
                    go_wp2_with fail
                    go_meet
                    exact ⟨some ⟨gn, 0, none⟩, cn, [(f, WA, wc)], rfl, (by have := push_it hA8; simpa [ifs, fcells, wIts] using this)⟩
                  exact AllReadyH.nil
                exact AllReadyH.nil
              exact AllReadyH.nil
            refine AllReadyH.cons rfl (fun K hK => ?_) ?_
            · go_simp
              have hA5 := hA4.alloc (.cells (fcs f WA wc).toArray 49)
              obtain ⟨d0, d1⟩ := (hA5.blk 2 rfl).get2
              refine hK.out _ _ ?_ (fun hHeld => ?_)
              · trivial
              clear hK K
              refine wpAnyH_ready (rs := [1]) (by kernel_rfl) (by simp) ?_
              refine AllReadyH.cons rfl (fun K hK => ?_) ?_
              · go_simp
                refine hK.out _ _ ?_ (fun hHeld => ?_)
                · trivial
                clear hK K
                refine wpAnyH_ready (rs := [5]) (by kernel_rfl) (by simp) ?_
                refine AllReadyH.cons rfl (fun K hK => ?_) ?_
                · refine step_append_lies _ (by rfl) (.tmp 10) (.tmp 13) 22 (by rfl) 0 49 i0 _ 5 64 Tryd.underlying22 hi0 hz0 hz1 hz2 rfl (by decide) (.slice none 0 0) 0 (fcells []) (by rfl) ?o1 _ 1 1 (fcs f WA wc) (by rfl) (by rfl) ?nw ?oc (by decide) ?l1 ?l2 ?l3 _ (by rfl) ?_
                  case o1 => exact (hA5.row 4 rfl)
                  case nw => exact new5' _ _ _ _ _ _ _
                  case oc => (intro u hu; simp at hu; rcases hu with h | h | h | h | h <;> (rw [h]; rfl))
                  case l1 => (unfold maxLen; omega)
                  case l2 => omega
                  case l3 => exact Nat.zero_le _
                  intro gn cn w7 hownn hgrow hat hltn
                  have hA7 := hA5.grown 4 rfl hownn hgrow (lies_alt' hat)
                  obtain ⟨d0, d1⟩ := (hA7.blk 2 rfl).get2
                  have f1 := (hA7.blk 2 rfl).frozen 1
                  clear hownn hgrow hat hltn
                  refine hK.out _ _ ?_ (fun hHeld => ?_)
                  · trivial
                  clear hK K
                  refine wpAnyH_take (i := 6) (v := ?_) rfl (by kernel_rfl) (by kernel_rfl) (by kernel_rfl) (fun _ _ _ h => h) (Or.inl ⟨by rfl, ?_⟩) (by assumption) ?_
                  rotate_left
                  · (intro w hSw; (try dsimp only at hSw); (try obtain ⟨hSw1, hSw2⟩ := hSw); go_simp; (try with_reducible rfl))
                  try simp only [Act.put, List.getElem_toArray, List.getElem_cons_zero, List.getElem_cons_succ, List.setIfInBounds_toArray, List.set_cons_zero, List.set_cons_succ]
                  refine wpAnyH_ready (rs := [7]) (by kernel_rfl) (by simp) ?_
                  refine AllReadyH.cons rfl (fun K hK => ?_) ?_
                  · go_simp
                    refine hK.out _ _ ?_ (fun hHeld => ?_)
                    · trivial
                    clear hK K
                    refine wpAnyH_done (by kernel_rfl) ?_ _
                    have hA8 := hA7.set 2 rfl 1 (.slice (some ⟨gn, 0, none⟩) (0 + 1) cn)
                    go_wp2_with fail
                    go_meet
                    exact ⟨some ⟨gn, 0, none⟩, cn, [(f, WA, wc)], rfl, (by have := push_it hA8; simpa [ifs, fcells, wIts] using this)⟩
                  exact AllReadyH.nil
                exact AllReadyH.nil
              exact AllReadyH.nil
            exact AllReadyH.nil
          exact AllReadyH.nil
          --ENDB
        case rest =>
          obtain ⟨A, c, P, hP, hM0⟩ := hcut
          clear hd4 d0 d1 f1 HFd
          have hP1 : P.length = 1 := by have := congrArg List.length hP; simpa using this
          go_upto_region 4 with fail
          go_loopg [] (q.length + 1) (fun m wx => ∃ (k : Nat) (l' : List UInt8) (A : Option Addr) (c : Nat) (P : List FV), m = k ∧ Hp [g] W (irdS g s l' :: iblk g3 24 [.string (bs nm), .slice A P.length c] :: iblk g2 24 zS :: ifs (.slice A P.length c) P :: wIts P) wx ∧ P.length + l'.length ≤ s.size + 1 ∧ l'.length < k ∧ Hid (l' <:+ tl s ∧ fieldsR (q.length + 1) q [f] = fieldsR k l' (fds P)))
          case atStart => exact ⟨q.length + 1, q, A, c, P, rfl, hM0, by omega, by omega, Lib.hid ⟨hfs, by rw [hP]⟩⟩
          case round =>
            clear hM0 hP hP1 hfs hql
            obtain ⟨k, l', A, c, P, hmk, hM, hwl, hlk, HE⟩ := hrel
            obtain ⟨k, rfl⟩ : ∃ j, k = j + 1 := ⟨k - 1, by omega⟩
            have hl' := HE.out.1
            have HW2 : Hid (fieldsR (q.length + 1) q [f] = if isR 44 l' then (match fieldR (skS l').tail with
              | (none, r) => (none, r)
              | (some f, r) => fieldsR k r (fds P ++ [f])) else (some (fds P), skS l')) := Lib.hid (by rw [HE.out.2, fieldsR]; rfl)
            go_wp2_with fail
            refine (is_any 44 g s hs l' hl' wr hM.rdB).mono ?_
            rintro e w5 ⟨rfl, hH⟩
            have hM1 := hM.rd hH
            clear hM hH
            have hsk' := (skS_suf l').trans hl'
            cases hq : isR 44 l' with
            | false =>
              have HF : Hid (schemaR l = if isR 41 (skS l') then (if skS (skS (skS l')).tail = [] then (some (bs nm, fds P), []) else (none, skS (skS (skS l')).tail)) else (none, skS (skS l'))) := Lib.hid (by rw [HV3.out, HW2.out, if_neg (by rw [hq]; simp)])
              clear HW2 HE hq HV3
              generalize skS l' = x at *
              have hsr : signR 41 x = if isR 41 x then (true, (skS x).tail) else (false, skS x) := rfl
              go_wp2_with fail
              refine (sign_any 41 g s hs x hsk' w5 hM1.rdB).mono ?_
              rintro e w6 ⟨he, hH⟩
              have hsx := (skS_suf x).trans hsk'
              cases hq : isR 41 x with
              | false =>
                rw [hq, if_neg (by simp)] at hsr
                rw [hsr] at he hH
                simp only [outU, panR] at he
                subst he
                have HF2 : Hid (schemaR l = (none, skS x)) := Lib.hid (by rw [HF.out, if_neg (by rw [hq]; simp)])
                go_wp2_with fail
                exact ⟨rfl, SOut.bad HF2.out (hM1.rd hH).one⟩
              | true =>
                rw [hq, if_pos rfl] at hsr
                rw [hsr] at he hH
                simp only [outU] at he
                subst he
                have hM2 := hM1.rd hH
                clear hM1 hH hsr
                have htx := (tail_suf (skS x)).trans hsx
                have HF2 : Hid (schemaR l = if skS (skS x).tail = [] then (some (bs nm, fds P), []) else (none, skS (skS x).tail)) := Lib.hid (by rw [HF.out, if_pos hq])
                clear HF hq
                generalize (skS x).tail = y at *
                have hMo := moreN decAny g s hs y htx w6 hM2.rdB
                generalize skS y = z at *
                go_wp2_with fail
                refine hMo.mono ?_
                rintro e w7 ⟨rfl, hH⟩
                have hM3 := hM2.rd hH
                clear hM2 hH hMo
                cases z with
                | cons b z =>
                  have HF3 : Hid (schemaR l = (none, b :: z)) := Lib.hid (by rw [HF2.out, if_neg (by simp)])
                  simp only [hd]
                  go_wp2_with fail
                  exact ⟨rfl, SOut.bad HF3.out hM3.one⟩
                | nil =>
                  have HF3 : Hid (schemaR l = (some (bs nm, fds P), [])) := Lib.hid (by rw [HF2.out, if_pos rfl])
                  clear HF2
                  simp only [hd]
                  obtain ⟨d0, d1⟩ := (hM3.blk 1 rfl).get2
                  go_wp2_with (refine wpList_store_row rfl 24 (.tmp 2) (.tmp 33) rfl g2 ([.string (bs nm), .slice A P.length c] : List Value).toArray rfl rfl 24 zS.toArray (hM3.blk 2 rfl) (by kernel_rfl) (by kernel_rfl) (by kernel_rfl) ?_)
                  have hM4 := hM3.rowAt 2 rfl [.string (bs nm), .slice A P.length c]
                  obtain ⟨e0, e1⟩ := (hM4.blk 2 rfl).get2
                  refine bodyPost_ret (v := .agg #[.string (bs nm), .slice A P.length c]) (by simp [results, Tryd.results49, go_sem, e0, e1]) rfl ?_
                  rw [HF3.out]
                  refine ⟨A, c, P, rfl, rfl, ?_⟩
                  exact hM4.drop23
            | true =>
              have HW3 : Hid (fieldsR (q.length + 1) q [f] = match fieldR (skS l').tail with
              | (none, r) => (none, r)
              | (some f, r) => fieldsR k r (fds P ++ [f])) := Lib.hid (by rw [HW2.out, if_pos hq])
              have hne : skS l' ≠ [] := fun h9 => by unfold isR at hq; rw [h9] at hq; cases hq
              have hsl := (skS_suf l').length_le
              have hsr : signR 44 (skS l') = (true, (skS l').tail) := by unfold signR; rw [isR_sk, if_pos hq, skS_sk]
              clear HW2 HE hq
              go_wp2_with fail
              refine (sign_any 44 g s hs (skS l') hsk' w5 hM1.rdB).mono ?_
              rintro e w6 ⟨he, hH⟩
              rw [hsr] at he hH
              simp only [outU] at he
              subst he
              have hM2 := hM1.rd hH
              clear hM1 hH hsr
              have htx := (tail_suf (skS l')).trans hsk'
              have htl : (skS l').tail.length < l'.length := by
                have := List.length_pos_iff.2 hne
                rw [List.length_tail]; omega
              clear hsl hne
              generalize (skS l').tail = x at *
              have HFd := Lib.hid (fun W' h hG => rdfield_any g s hs x htx W' h hG)
              have hfs := (field_suf x).trans htx
              have hfl := (field_suf x).length_le
              have hd4 := hM2.drew
              clear hM2
              obtain ⟨d0, d1⟩ := (hd4.blk 1 rfl).get2
              have f1 := (hd4.blk 1 rfl).frozen 1
              generalize fieldR x = fr at *
              obtain ⟨fo, y⟩ := fr
              simp only at hfs hfl
              cases fo with
              | none =>
                simp only [FOut, panR] at HFd
                have HF : Hid (schemaR l = (none, y)) := Lib.hid (by rw [HV3.out, HW3.out])
                clear HV3 HW3
                go_upto_region 6 with fail
                --BEGINC
                refine wp_region_held_drew (S := (fun _ => True)) (by kernel_rfl) ?_ (fun hHeld => ?_)
                · trivial
                refine wpAnyH_take (i := 0) (v := ?_) rfl (by kernel_rfl) (by kernel_rfl) (by kernel_rfl) (fun _ _ _ h => h) (Or.inl ⟨by rfl, ?_⟩) (by assumption) ?_
                rotate_left
                · (intro w hSw; (try dsimp only at hSw); (try obtain ⟨hSw1, hSw2⟩ := hSw); go_simp; (try with_reducible rfl))
                try simp only [Act.put, List.getElem_toArray, List.getElem_cons_zero, List.setIfInBounds_toArray, List.set_cons_zero, List.set_cons_succ]
                refine wpAnyH_take (i := 2) (v := ?_) rfl (by kernel_rfl) (by kernel_rfl) (by kernel_rfl) (fun _ _ _ h => h) (Or.inl ⟨by rfl, ?_⟩) (by assumption) ?_
                rotate_left
                · (intro w hSw; (try dsimp only at hSw); (try obtain ⟨hSw1, hSw2⟩ := hSw); go_simp; (try with_reducible rfl))
                try simp only [Act.put, List.getElem_toArray, List.getElem_cons_zero, List.getElem_cons_succ, List.setIfInBounds_toArray, List.set_cons_zero, List.set_cons_succ]
                refine wpAnyH_ready (rs := [1, 3]) (by kernel_rfl) (by simp) ?_
                refine AllReadyH.cons rfl (fun K hK => ?_) ?_
                · go_simp
                  refine hK.out _ _ ?_ (fun hHeld => ?_)
                  · trivial
                  clear hK K
                  refine wpAnyH_ready (rs := [3]) (by kernel_rfl) (by simp) ?_
                  refine AllReadyH.cons rfl (fun K hK => ?_) ?_
                  · go_simp
                    refine (HFd.out _ hd4.rdB (Hp.glob hG hgl hd4)).mono ?_
                    rintro e w6 ⟨rfl, hH⟩
                    go_wp2_with fail
                    exact ⟨rfl, SOut.bad HF.out (hd4.rd hH).one⟩
                  exact AllReadyH.nil
                refine AllReadyH.cons rfl (fun K hK => ?_) ?_
                · go_simp
                  refine (HFd.out _ hd4.rdB (Hp.glob hG hgl hd4)).mono ?_
                  rintro e w6 ⟨rfl, hH⟩
                  go_wp2_with fail
                  exact ⟨rfl, SOut.bad HF.out (hd4.rd hH).one⟩
                exact AllReadyH.nil
                --ENDC
              | some f9 =>
                simp only [FOut] at HFd
                have HW4 : Hid (fieldsR (q.length + 1) q [f] = fieldsR k y (fds P ++ [f9])) := Lib.hid HW3.out
                clear HW3
                go_upto_region 6 with fail
                --BEGIND
                refine wp_region_held_drew (S := (fun _ => True)) (by kernel_rfl) ?_ (fun hHeld => ?_)
                · trivial
                refine wpAnyH_take (i := 0) (v := ?_) rfl (by kernel_rfl) (by kernel_rfl) (by kernel_rfl) (fun _ _ _ h => h) (Or.inl ⟨by rfl, ?_⟩) (by assumption) ?_
                rotate_left
                · (intro w hSw; (try dsimp only at hSw); (try obtain ⟨hSw1, hSw2⟩ := hSw); go_simp; (try with_reducible rfl))
                try simp only [Act.put, List.getElem_toArray, List.getElem_cons_zero, List.setIfInBounds_toArray, List.set_cons_zero, List.set_cons_succ]
                refine wpAnyH_take (i := 2) (v := ?_) rfl (by kernel_rfl) (by kernel_rfl) (by kernel_rfl) (fun _ _ _ h => h) (Or.inl ⟨by rfl, ?_⟩) (by assumption) ?_
                rotate_left
                · (intro w hSw; (try dsimp only at hSw); (try obtain ⟨hSw1, hSw2⟩ := hSw); go_simp; (try with_reducible rfl))
                try simp only [Act.put, List.getElem_toArray, List.getElem_cons_zero, List.getElem_cons_succ, List.setIfInBounds_toArray, List.set_cons_zero, List.set_cons_succ]
                refine wpAnyH_ready (rs := [1, 3]) (by kernel_rfl) (by simp) ?_
                refine AllReadyH.cons rfl (fun K hK => ?_) ?_
                · go_simp
                  refine hK.out _ _ ?_ (fun hHeld => ?_)
                  · trivial
                  clear hK K
                  refine wpAnyH_ready (rs := [3]) (by kernel_rfl) (by simp) ?_
                  refine AllReadyH.cons rfl (fun K hK => ?_) ?_
                  · go_simp
                    refine (HFd.out _ hd4.rdB (Hp.glob hG hgl hd4)).mono ?_
                    rintro e w6 ⟨WA, wc, rfl, hH⟩
                    simp only []
                    have hA4 := hd4.fld hH
                    obtain ⟨d0, d1⟩ := (hA4.blk 2 rfl).get2
                    refine hK.out _ _ ?_ (fun hHeld => ?_)
                    · trivial
                    clear hK K
                    refine wpAnyH_ready (rs := [4]) (by kernel_rfl) (by simp) ?_
                    refine AllReadyH.cons rfl (fun K hK => ?_) ?_
                    · go_simp
                      have hA5 := hA4.alloc (.cells (fcs f9 WA wc).toArray 49)
                      obtain ⟨d0, d1⟩ := (hA5.blk 2 rfl).get2
                      refine hK.out _ _ ?_ (fun hHeld => ?_)
                      · trivial
                      clear hK K
                      refine wpAnyH_ready (rs := [5]) (by kernel_rfl) (by simp) ?_
                      refine AllReadyH.cons rfl (fun K hK => ?_) ?_
                      · refine step_append_lies _ (by rfl) (.tmp 21) (.tmp 24) 22 (by rfl) 0 49 i0 _ 5 64 Tryd.underlying22 hi0 hz0 hz1 hz2 rfl (by decide) (.slice A P.length c) P.length (fcells P) (by rfl) ?o1 _ 1 1 (fcs f9 WA wc) (by rfl) (by rfl) ?nw ?oc (by decide) ?l1 ?l2 ?l3 _ (by rfl) ?_
                        case o1 => exact (hA5.row 4 rfl)
                        case nw => exact new5' _ _ _ _ _ _ _
                        case oc => (intro u hu; simp at hu; rcases hu with h | h | h | h | h <;> (rw [h]; rfl))
                        case l1 => (unfold maxLen; omega)
                        case l2 => omega
                        case l3 => exact Nat.zero_le _
                        intro gn cn w7 hownn hgrow hat hltn
                        have hA7 := hA5.grown 4 rfl hownn hgrow (lies_alt' hat)
                        obtain ⟨d0, d1⟩ := (hA7.blk 2 rfl).get2
                        have f1 := (hA7.blk 2 rfl).frozen 1
                        clear hownn hgrow hat hltn
                        refine hK.out _ _ ?_ (fun hHeld => ?_)
                        · trivial
                        clear hK K
                        refine wpAnyH_take (i := 6) (v := ?_) rfl (by kernel_rfl) (by kernel_rfl) (by kernel_rfl) (fun _ _ _ h => h) (Or.inl ⟨by rfl, ?_⟩) (by assumption) ?_
                        rotate_left
                        · (intro w hSw; (try dsimp only at hSw); (try obtain ⟨hSw1, hSw2⟩ := hSw); go_simp; (try with_reducible rfl))
                        try simp only [Act.put, List.getElem_toArray, List.getElem_cons_zero, List.getElem_cons_succ, List.setIfInBounds_toArray, List.set_cons_zero, List.set_cons_succ]
                        refine wpAnyH_ready (rs := [7]) (by kernel_rfl) (by simp) ?_
                        refine AllReadyH.cons rfl (fun K hK => ?_) ?_
                        · go_simp
                          refine hK.out _ _ ?_ (fun hHeld => ?_)
                          · trivial
                          clear hK K
                          refine wpAnyH_done (by kernel_rfl) ?_ _
                          have hA8 := hA7.set 2 rfl 1 (.slice (some ⟨gn, 0, none⟩) (P.length + 1) cn)
                          go_wp2_with fail
                          go_roundg k
                          case measure => omega
                          case rel => exact ⟨k, y, some ⟨gn, 0, none⟩, cn, P ++ [(f9, WA, wc)], rfl, (by have := push_it hA8; simpa [ifs, wIts_snoc, fcells_snoc] using this), by simp; omega, by omega, Lib.hid ⟨hfs, by rw [HW4.out]; simp [fds]⟩⟩
                        exact AllReadyH.nil
                      exact AllReadyH.nil
                    exact AllReadyH.nil
                  exact AllReadyH.nil
                refine AllReadyH.cons rfl (fun K hK => ?_) ?_
                · go_simp
                  refine (HFd.out _ hd4.rdB (Hp.glob hG hgl hd4)).mono ?_
                  rintro e w6 ⟨WA, wc, rfl, hH⟩
                  simp only []
                  have hA4 := hd4.fld hH
                  obtain ⟨d0, d1⟩ := (hA4.blk 2 rfl).get2
                  refine hK.out _ _ ?_ (fun hHeld => ?_)
                  · trivial
                  clear hK K
                  refine wpAnyH_ready (rs := [1, 4]) (by kernel_rfl) (by simp) ?_
                  refine AllReadyH.cons rfl (fun K hK => ?_) ?_
                  · go_simp
                    refine hK.out _ _ ?_ (fun hHeld => ?_)
                    · trivial
                    clear hK K
                    refine wpAnyH_ready (rs := [4]) (by kernel_rfl) (by simp) ?_
                    refine AllReadyH.cons rfl (fun K hK => ?_) ?_
                    · go_simp
                      have hA5 := hA4.alloc (.cells (fcs f9 WA wc).toArray 49)
                      obtain ⟨d0, d1⟩ := (hA5.blk 2 rfl).get2
                      refine hK.out _ _ ?_ (fun hHeld => ?_)
                      · trivial
                      clear hK K
                      refine wpAnyH_ready (rs := [5]) (by kernel_rfl) (by simp) ?_
                      refine AllReadyH.cons rfl (fun K hK => ?_) ?_
                      · refine step_append_lies _ (by rfl) (.tmp 21) (.tmp 24) 22 (by rfl) 0 49 i0 _ 5 64 Tryd.underlying22 hi0 hz0 hz1 hz2 rfl (by decide) (.slice A P.length c) P.length (fcells P) (by rfl) ?o1 _ 1 1 (fcs f9 WA wc) (by rfl) (by rfl) ?nw ?oc (by decide) ?l1 ?l2 ?l3 _ (by rfl) ?_
                        case o1 => exact (hA5.row 4 rfl)
                        case nw => exact new5' _ _ _ _ _ _ _
                        case oc => (intro u hu; simp at hu; rcases hu with h | h | h | h | h <;> (rw [h]; rfl))
                        case l1 => (unfold maxLen; omega)
                        case l2 => omega
                        case l3 => exact Nat.zero_le _
                        intro gn cn w7 hownn hgrow hat hltn
                        have hA7 := hA5.grown 4 rfl hownn hgrow (lies_alt' hat)
                        obtain ⟨d0, d1⟩ := (hA7.blk 2 rfl).get2
                        have f1 := (hA7.blk 2 rfl).frozen 1
                        clear hownn hgrow hat hltn
                        refine hK.out _ _ ?_ (fun hHeld => ?_)
                        · trivial
                        clear hK K
                        refine wpAnyH_take (i := 6) (v := ?_) rfl (by kernel_rfl) (by kernel_rfl) (by kernel_rfl) (fun _ _ _ h => h) (Or.inl ⟨by rfl, ?_⟩) (by assumption) ?_
                        rotate_left
                        · (intro w hSw; (try dsimp only at hSw); (try obtain ⟨hSw1, hSw2⟩ := hSw); go_simp; (try with_reducible rfl))
                        try simp only [Act.put, List.getElem_toArray, List.getElem_cons_zero, List.getElem_cons_succ, List.setIfInBounds_toArray, List.set_cons_zero, List.set_cons_succ]
                        refine wpAnyH_ready (rs := [7]) (by kernel_rfl) (by simp) ?_
                        refine AllReadyH.cons rfl (fun K hK => ?_) ?_
                        · go_simp
                          refine hK.out _ _ ?_ (fun hHeld => ?_)
                          · trivial
                          clear hK K
                          refine wpAnyH_done (by kernel_rfl) ?_ _
                          have hA8 := hA7.set 2 rfl 1 (.slice (some ⟨gn, 0, none⟩) (P.length + 1) cn)
                          go_wp2_with fail
                          go_roundg k
                          case measure => omega
                          case rel => exact ⟨k, y, some ⟨gn, 0, none⟩, cn, P ++ [(f9, WA, wc)], rfl, (by have := push_it hA8; simpa [ifs, wIts_snoc, fcells_snoc] using this), by simp; omega, by omega, Lib.hid ⟨hfs, by rw [HW4.out]; simp [fds]⟩⟩
                        exact AllReadyH.nil
                      exact AllReadyH.nil
                    exact AllReadyH.nil
                  refine AllReadyH.cons rfl (fun K hK => ?_) ?_
                  · go_simp
                    have hA5 := hA4.alloc (.cells (fcs f9 WA wc).toArray 49)
                    obtain ⟨d0, d1⟩ := (hA5.blk 2 rfl).get2
                    refine hK.out _ _ ?_ (fun hHeld => ?_)
                    · trivial
                    clear hK K
                    refine wpAnyH_ready (rs := [1]) (by kernel_rfl) (by simp) ?_
                    refine AllReadyH.cons rfl (fun K hK => ?_) ?_
                    · go_simp
                      refine hK.out _ _ ?_ (fun hHeld => ?_)
                      · trivial
                      clear hK K
                      refine wpAnyH_ready (rs := [5]) (by kernel_rfl) (by simp) ?_
                      refine AllReadyH.cons rfl (fun K hK => ?_) ?_
                      · refine step_append_lies _ (by rfl) (.tmp 21) (.tmp 24) 22 (by rfl) 0 49 i0 _ 5 64 Tryd.underlying22 hi0 hz0 hz1 hz2 rfl (by decide) (.slice A P.length c) P.length (fcells P) (by rfl) ?o1 _ 1 1 (fcs f9 WA wc) (by rfl) (by rfl) ?nw ?oc (by decide) ?l1 ?l2 ?l3 _ (by rfl) ?_
                        case o1 => exact (hA5.row 4 rfl)
                        case nw => exact new5' _ _ _ _ _ _ _
                        case oc => (intro u hu; simp at hu; rcases hu with h | h | h | h | h <;> (rw [h]; rfl))
                        case l1 => (unfold maxLen; omega)
                        case l2 => omega
                        case l3 => exact Nat.zero_le _
                        intro gn cn w7 hownn hgrow hat hltn
                        have hA7 := hA5.grown 4 rfl hownn hgrow (lies_alt' hat)
                        obtain ⟨d0, d1⟩ := (hA7.blk 2 rfl).get2
                        have f1 := (hA7.blk 2 rfl).frozen 1
                        clear hownn hgrow hat hltn
                        refine hK.out _ _ ?_ (fun hHeld => ?_)
                        · trivial
                        clear hK K
                        refine wpAnyH_take (i := 6) (v := ?_) rfl (by kernel_rfl) (by kernel_rfl) (by kernel_rfl) (fun _ _ _ h => h) (Or.inl ⟨by rfl, ?_⟩) (by assumption) ?_
                        rotate_left
                        · (intro w hSw; (try dsimp only at hSw); (try obtain ⟨hSw1, hSw2⟩ := hSw); go_simp; (try with_reducible rfl))
                        try simp only [Act.put, List.getElem_toArray, List.getElem_cons_zero, List.getElem_cons_succ, List.setIfInBounds_toArray, List.set_cons_zero, List.set_cons_succ]
                        refine wpAnyH_ready (rs := [7]) (by kernel_rfl) (by simp) ?_
                        refine AllReadyH.cons rfl (fun K hK => ?_) ?_
                        · go_simp
                          refine hK.out _ _ ?_ (fun hHeld => ?_)
                          · trivial
                          clear hK K
                          refine wpAnyH_done (by kernel_rfl) ?_ _
                          have hA8 := hA7.set 2 rfl 1 (.slice (some ⟨gn, 0, none⟩) (P.length + 1) cn)
                          go_wp2_with fail
                          go_roundg k
                          case measure => omega
                          case rel => exact ⟨k, y, some ⟨gn, 0, none⟩, cn, P ++ [(f9, WA, wc)], rfl, (by have := push_it hA8; simpa [ifs, wIts_snoc, fcells_snoc] using this), by simp; omega, by omega, Lib.hid ⟨hfs, by rw [HW4.out]; simp [fds]⟩⟩
                        exact AllReadyH.nil
                      exact AllReadyH.nil
                    exact AllReadyH.nil
                  exact AllReadyH.nil
                exact AllReadyH.nil
                --ENDD
end Go.Proofs.YtmdjhakamapngaaDoor
