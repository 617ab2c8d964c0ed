/-
  dominoref39.Decode.
-/
import Derived.Test.YtmdjhakamapngaaGreatDoorSdH
namespace Go.Proofs.YtmdjhakamapngaaGreatDoor
open Go.RowKit Go.Shelf
set_option linter.unusedVariables false

theorem smallV_ok' {s : ByteArray} (hv : validB (tl s) = true) (h8 : s.size ≤ 8) : Hid (smallV (tl s) = .tuple #[.int .u64 (Dm.val (tl s) : Nat), .bool true]) := Lib.hid (by rw [smallV_valid hv, length_tl, if_pos h8])

set_option maxHeartbeats 400000 in
theorem ref_small_any (s : ByteArray) (w : World) (hl : s.size ≤ 1073741824) :
    Calls Tryz.prog 28 #[.string s] w fun e w' => e = .returned (smallV (tl s)) ∧ w = w' := by
  cases hs : validB (tl s) with
  | false =>
    have HS := Lib.hid hs
    clear hs
    go_enter Tryz.func28, Tryz.ntmps28
    go_wp2_with fail
    refine (ref_valid_at s false _ hl HS.out).mono ?_
    rintro e w' ⟨rfl, rfl⟩
    go_wp2_with fail
    go_ret2
    exact ⟨by rw [smallV, HS.out]; rfl, rfl⟩
  | true =>
    have HS := Lib.hid hs
    clear hs
    by_cases h8 : s.size ≤ 8
    · have HV : Hid (smallV (tl s) = .tuple #[.int .u64 (Dm.val (tl s) : Nat), .bool true]) := smallV_ok' HS.out h8
      go_enter Tryz.func28, Tryz.ntmps28
      go_wp2_with fail
      refine (ref_valid_at s true _ hl HS.out).mono ?_
      rintro e w' ⟨rfl, rfl⟩
      go_wp2_with fail
      refine (ref_u64_any s _ h8).mono ?_
      rintro e w' ⟨rfl, rfl⟩
      go_wp2_with fail
      go_ret2
      exact ⟨by rw [HV.out]; rfl, rfl⟩
    · go_enter Tryz.func28, Tryz.ntmps28
      go_wp2_with fail
      refine (ref_valid_at s true _ hl HS.out).mono ?_
      rintro e w' ⟨rfl, rfl⟩
      go_wp2_with fail
      go_ret2
      exact ⟨by rw [smallV, HS.out, length_tl]; simp [h8], rfl⟩
theorem decL_len : ∀ (L : List Fd) (xs acc : List ByteArray), (decL L xs acc).1.length ≤ acc.length + xs.length
  | [], [], acc => by simp [decL]
  | [], x :: xs, acc => by simp [decL]
  | f :: L, [], acc => by simp [decL]
  | f :: L, x :: xs, acc => by
    rw [decL]
    split
    · simp
    · split
      · simp
      · have := decL_len L xs (acc ++ [(fnameV f ((Dm.val (tl x) : Int) + f.min)).1])
        rw [List.length_append, List.length_singleton] at this
        rw [List.length_cons]
        omega
/-- no field has so many values -/
theorem fname_far {f : Fd} (h : FOk f) {n : Nat} (hn : 4294967295 < n) : fnameV f ((n : Int) + f.min) = (ByteArray.empty, 2) := by
  unfold fnameV
  rcases fld_kind h.fe with ⟨k1, k2, k3, k4, k5⟩ | ⟨k1, k2, k3, k4, k5, k6⟩
  · rw [if_neg (by omega), if_pos (by omega)]
  · rw [if_pos k1, if_neg (by omega)]
set_option maxRecDepth 20000 in
set_option maxHeartbeats 8000000 in
theorem rdecode_any (nm : ByteArray) (A : Option Addr) (c : Nat) (L : List Fd) (hB : SBd nm L) (XA : Option Addr) (xc : Nat) (xs : List ByteArray) (hxl : xs.length ≤ 1000000) (hxs : ∀ x ∈ xs, x.size ≤ 1000000) (w : World) (hS : Flds w A L) (hX : Strs w XA xs) :
    Calls Tryz.prog 10 #[schV nm A L.length c, .slice XA xs.length xc] w fun e w' => NsOut (decP nm L xs) e w' ∧ Below w.heap.size w w' := by
  have hk := (Hp.start w).new 24 [.string nm, .slice A L.length c]
  have HC := Lib.hid (fun W' h => rcheck_any nm A c L hB W' h)
  have HP : Hid (decP nm L xs = if allV xs = false then ([], 3) else if schemaE nm L ≠ 0 then ([], schemaE nm L) else if xs.length ≠ L.length then ([], 6) else decL L xs []) := Lib.hid rfl
  have HSE : Hid (schemaE nm L = 0 → ∀ f ∈ L, FOk f) := Lib.hid fun h => (schemaE_ok h).2.2.2
  have HVX : Hid (allV xs = true → ∀ x ∈ xs, validB (tl x) = true) := Lib.hid fun h x hx => List.all_eq_true.1 h x hx
  have HVI : Hid (∀ (i : Nat) (v : Int) f, schemaE nm L = 0 → L[i]? = some f → nameV nm L (i : Int) v = fnameV f v) := Lib.hid fun i v f h hf => by
    have hi := (List.getElem?_eq_some_iff.1 hf).1
    unfold nameV
    rw [if_neg (by simpa using h), if_pos (by omega)]
    simp only [Int.toNat_natCast, hf]
  obtain ⟨g1, hg1⟩ : ∃ g, w.heap.size = g := ⟨_, rfl⟩
  rw [hg1] at hk
  obtain ⟨E, hE⟩ : ∃ E, schemaE nm L = E := ⟨_, rfl⟩
  rw [hE] at HC HP HSE HVI
  obtain ⟨al, hal⟩ : ∃ b, allV xs = b := ⟨_, rfl⟩
  rw [hal] at HP HVX
  have HAl := Lib.hid hal
  clear hal
  go_enter Tryz.func10, Tryz.ntmps10
  go_upto_region 1 with fail
  try simp only [hg1]
  generalize w.alloc (.cells #[.string nm, .slice A L.length c] 24) = W at *
  go_upto_region 2 with fail
  go_loopg [6] xs.length (fun m s6 wx => ∃ i : Nat, i ≤ xs.length ∧ m = xs.length - i ∧ s6 = .int .i64 (i : Int) ∧ Hp [] w [iblk g1 24 [.string nm, .slice A L.length c]] wx ∧ Hid (allV (xs.take i) = true))
  case atStart => exact ⟨0, Nat.zero_le _, rfl, rfl, hk, Lib.hid rfl⟩
  case round =>
    obtain ⟨i, hi, rfl, rfl, hM, HI⟩ := hrel
    by_cases hil : i < xs.length
    · have hii : (i : Int) < (xs.length : Int) := by omega
      have hi0 : (0 : Int) ≤ (i : Int) := by omega
      obtain ⟨x, hxi⟩ : ∃ x, xs[i]? = some x := ⟨_, List.getElem?_eq_getElem hil⟩
      obtain ⟨xd, rfl, ca⟩ := (hX.up hM.below0).at_ i x hxi
      have hxz := hxs x (List.mem_of_getElem? hxi)
      have HVl := Lib.hid (fun v h => ref_valid_at x v wr (by omega) h)
      have HT : Hid (allV (xs.take (i + 1)) = (allV (xs.take i) && validB (tl x))) := Lib.hid (all_take hxi)
      have HB : Hid (validB (tl x) = false → allV xs = false) := Lib.hid (fun h => all_bad hxi h)
      clear hxi
      cases hv : validB (tl x) with
      | false =>
        have HR : Hid (decP nm L xs = ([], 3)) := Lib.hid (by
          have h1 := HB.out hv
          rw [HAl.out] at h1
          rw [HP.out, if_pos h1])
        have HV1 := Lib.hid (HVl.out false hv)
        clear hv
        go_wp2_with fail
        refine HV1.out.mono ?_
        rintro e w1 ⟨rfl, rfl⟩
        go_wp2_with fail
        go_ret2
        exact ⟨NsOut.bad HR.out, by first | exact hM.below0 | (subst hg1; exact hM.below0)⟩
      | true =>
        have HI2 : Hid (allV (xs.take (i + 1)) = true) := Lib.hid (by rw [HT.out, HI.out, hv]; rfl)
        have HV1 := Lib.hid (HVl.out true hv)
        clear hv
        go_wp2_with fail
        refine HV1.out.mono ?_
        rintro e w1 ⟨rfl, rfl⟩
        go_wp2_with fail
        go_roundg (xs.length - (i + 1))
        case measure => omega
        case rel => exact ⟨i + 1, hil, rfl, by first | rfl | simp, hM, HI2⟩
    · have hii : ¬ (i : Int) < (xs.length : Int) := by omega
      have hal2 : al = true := by
        have h1 := HI.out
        rw [List.take_of_length_le (by omega)] at h1
        rw [← HAl.out, h1]
      subst hal2
      go_upto_region 6 with fail
      have hk1 := hM
      clear hk HAl HI hM hii hil hi
      generalize wr = w1 at *
      obtain ⟨c0, c1⟩ := (hk1.blk 0 rfl).get2
      go_wp2_with fail
      refine (HC.out w1 (hS.up hk1.below0)).mono ?_
      rintro e w2 ⟨rfl, hb2⟩
      have hk2 := hk1.next hb2
      clear hk1 hb2 HC c0 c1
      obtain ⟨c0, c1⟩ := (hk2.blk 0 rfl).get2
      cases hE0 : (E != 0) with
      | true =>
        have HR : Hid (decP nm L xs = ([], E)) := Lib.hid (by rw [HP.out, if_neg (by simp), if_pos (by simpa using hE0)])
        go_wp2_with fail
        go_ret2
        exact ⟨NsOut.bad HR.out, by first | exact hk2.below0 | (subst hg1; exact hk2.below0)⟩
      | false =>
        have hE1 : E = 0 := by simpa using hE0
        subst hE1
        have hL16 := (schemaE_ok hE).2.2.1
        by_cases hn : xs.length = L.length
        · have hni : ((xs.length : Int) != (L.length : Int)) = false := by simp [hn]
          have HR : Hid (decP nm L xs = decL L xs []) := Lib.hid (by rw [HP.out, if_neg (by simp), if_neg (by simp), if_neg (by simpa using hn)])
          obtain ⟨i0, hi0, hz0, hz1, hz2⟩ := info_parts str_info
          have HN := Lib.hid hn
          clear HP hE0 hn
          go_upto_region 10 with fail
          have hk3 : Hp [] w [iblk g1 24 [.string nm, .slice A L.length c], irow 9 1 (.slice none 0 0) 0 []] w2 := (hk2.nilrow 9 1).perm (List.Perm.swap _ _ _)
          clear hk2 c0 c1
          go_loopg [9, 8] xs.length (fun m s9 s8 wx => ∃ (i : Nat) (OA : Option Addr) (oc : Nat) (out : List ByteArray), i ≤ xs.length ∧ m = xs.length - i ∧ s9 = .int .i64 (i : Int) ∧ s8 = .slice OA out.length oc ∧ Hp [] w [iblk g1 24 [.string nm, .slice A L.length c], irow 9 1 (.slice OA out.length oc) out.length (svals out)] wx ∧ Hid (out.length = i) ∧ Hid (decL L xs [] = decL (L.drop i) (xs.drop i) out))
          case atStart => exact ⟨0, none, 0, [], Nat.zero_le _, rfl, rfl, rfl, hk3, Lib.hid rfl, Lib.hid rfl⟩
          case round =>
            obtain ⟨i, OA, oc, out, hi, rfl, rfl, rfl, hM, hol, HE⟩ := hrel
            clear hk3
            by_cases hil : i < xs.length
            · have hii : (i : Int) < (xs.length : Int) := by omega
              have hi0' : (0 : Int) ≤ (i : Int) := by omega
              have hiL : (i : Int) < (L.length : Int) := by have := HN.out; omega
              obtain ⟨x, hx⟩ : ∃ x, xs[i]? = some x := ⟨_, List.getElem?_eq_getElem hil⟩
              obtain ⟨f, hf⟩ : ∃ f, L[i]? = some f := ⟨_, List.getElem?_eq_getElem (by have := HN.out; omega)⟩
              have hxz := hxs x (List.mem_of_getElem? hx)
              have hxv := HVX.out trivial x (List.mem_of_getElem? hx)
              have hFOk := HSE.out trivial f (List.mem_of_getElem? hf)
              obtain ⟨xd, rfl, ca⟩ := (hX.up hM.below0).at_ i x hx
              obtain ⟨ad, WA, wa, hAe, hF⟩ := hS.at_ i f hf
              subst hAe
              have HEs : Hid (decL L xs [] = if (decide (x.size ≤ 8) && decide (Dm.val (tl x) ≤ 4294967295)) = false then ([], 2) else if (fnameV f ((Dm.val (tl x) : Int) + f.min)).2 ≠ 0 then ([], (fnameV f ((Dm.val (tl x) : Int) + f.min)).2) else decL (L.drop (i + 1)) (xs.drop (i + 1)) (out ++ [(fnameV f ((Dm.val (tl x) : Int) + f.min)).1])) := Lib.hid (by rw [HE.out, drop_at hf, drop_at hx, decL])
              have hsm := ref_small_any x wr (by omega)
              rw [smallV_valid hxv, length_tl] at hsm
              have HFK := Lib.hid (fld_kind hFOk.fe); have HFk := Lib.hid hFOk
              have HF := Lib.hid hF
              have HVf := Lib.hid (fun v => HVI.out i v f trivial hf)
              clear hx hF HE hFOk hf hxv
              generalize Dm.val (tl x) = n at *
              by_cases h8 : x.size ≤ 8
              · rw [if_pos h8] at hsm
                have HSm := Lib.hid hsm
                clear hsm
                by_cases hn4 : n ≤ 8589934592
                · have hni4 : ¬ (8589934592 : Int) < (n : Int) := by omega
                  have hmin : -2147483648 ≤ f.min ∧ f.min ≤ 2147483647 := by
                    rcases HFK.out with ⟨k1, k2, k3, k4, k5⟩ | ⟨k1, k2, k3, k4, k5, k6⟩ <;> omega
                  have hw1 : IntKind.i64.wrap (n : Int) = (n : Int) := IntWalk.i64_in _ (by omega)
                  have hw2 : IntKind.i64.wrap ((n : Int) + f.min) = (n : Int) + f.min := IntWalk.i64_in _ (by omega)
                  have HEt : Hid (decL L xs [] = if (fnameV f ((n : Int) + f.min)).2 ≠ 0 then ([], (fnameV f ((n : Int) + f.min)).2) else decL (L.drop (i + 1)) (xs.drop (i + 1)) (out ++ [(fnameV f ((n : Int) + f.min)).1])) := Lib.hid (by
                      rw [HEs.out]
                      by_cases h32 : n ≤ 4294967295
                      · rw [if_neg (by rw [decide_eq_true h8, decide_eq_true h32]; simp)]
                      · rw [if_pos (by rw [decide_eq_false h32]; simp), fname_far HFk.out (by omega)]; rfl)
                  have hnm := fun W' hS => rname_any' nm (some ad) c L hB (i : Int) ((n : Int) + f.min) W' hS
                  rw [HVf.out] at hnm
                  have HNm := Lib.hid hnm
                  clear hnm HEs h8 hn4 HFK HFk
                  go_wp2_with fail
                  refine HSm.out.mono ?_
                  rintro e w3 ⟨rfl, hw3⟩
                  subst hw3
                  clear HSm ca
                  generalize fnameV f ((n : Int) + f.min) = fv at *
                  obtain ⟨u, Ev⟩ := fv
                  simp only at HEt HNm
                  go_upto_region 18 with fail
                  have hMd := hM.drew
                  have hFd := HF.out.up hMd.below0
                  have x2 := hFd.min
                  obtain ⟨c0, c1⟩ := (hMd.blk 0 rfl).get2
                  clear hM hFd
                  have HAll := Lib.hid (And.intro c0 (And.intro c1 x2))
                  first | go_region_held3 (fun w' => w'.cell? ⟨g1, 0, none⟩ = some (.string nm) ∧ w'.cell? ⟨g1, 1, none⟩ = some (.slice (some ad) L.length c) ∧ w'.cell? ⟨(ad.add (i * 5)).block, (ad.add (i * 5)).off + 2, none⟩ = some (.int .i64 f.min)) (first | exact ⟨c0, c1, x2⟩ | exact ⟨e0, e1, y2⟩)
                    (first | (go_at_call 29; refine (HNm.out _ (hS.up hMd.below0)).mono ?_; rintro e w4 ⟨rfl, hb4⟩; have hM4 := hMd.next hb4; have y2 := (HF.out.up hM4.below0).min; obtain ⟨e0, e1⟩ := (hM4.blk 0 rfl).get2)) | fail
                  cases hEv : (Ev != 0) with
                  | true =>
                    have HR2 : Hid (decP nm L xs = ([], Ev)) := Lib.hid (by rw [HR.out, HEt.out, if_pos (by simpa using hEv)])
                    go_wp2_with fail
                    go_ret2
                    exact ⟨NsOut.bad HR2.out, by first | exact hM4.below0 | (subst hg1; exact hM4.below0)⟩
                  | false =>
                    have HEu : Hid (decL L xs [] = decL (L.drop (i + 1)) (xs.drop (i + 1)) (out ++ [u])) := Lib.hid (by rw [HEt.out, if_neg (by simpa using hEv)])
                    have hM5 := hM4.alloc (.cells #[.string u] 9)
                    clear hM4 hMd e0 e1 y2 c0 c1 x2 HAll
                    go_wp2_with (refine wpList_append_own2 rfl (.tmp 75) (.tmp 77) 25 rfl 0 9 i0 _ 1 16 Tryz.underlying25 hi0 hz0 hz1 hz2 rfl (by decide) (.slice OA out.length oc) out.length (svals out) rfl (hM5.row 1 rfl) _ 1 1 [.string u] rfl rfl (new1' _ _ _) (by intro u hu; simp at hu; rw [hu]; rfl) (by decide) (by have := hol.out; unfold maxLen; omega) (by have := hol.out; omega) (Nat.zero_le _) ?_
                                 intro v' w5 hown5 hgr5 hat5
                                 have hM6 := hM5.grown 1 rfl hown5 hgr5 hat5
                                 obtain ⟨NA, nc, rfl⟩ := row_forms hown5
                                 clear hown5 hgr5 hat5)
                    have hM7 : Hp [] w [iblk g1 24 [.string nm, .slice (some ad) L.length c], irow 9 1 (.slice NA (out ++ [u]).length nc) (out ++ [u]).length (svals (out ++ [u]))] w5 := by
                      have e : (out ++ [u]).length = out.length + 1 := by simp
                      rw [e]
                      simpa [svals] using hM6
                    go_roundg (xs.length - (i + 1))
                    case measure => omega
                    case rel => exact ⟨i + 1, NA, nc, out ++ [u], hil, rfl, by first | rfl | simp, by simp, hM7, Lib.hid (by have := hol.out; simp; omega), HEu⟩
                · have hni4 : (8589934592 : Int) < (n : Int) := by omega
                  have HR2 : Hid (decP nm L xs = ([], 2)) := Lib.hid (by rw [HR.out, HEs.out, if_pos (by rw [decide_eq_false (by omega : ¬ n ≤ 4294967295)]; simp)])
                  go_wp2_with fail
                  refine HSm.out.mono ?_
                  rintro e w3 ⟨rfl, hw3⟩
                  subst hw3
                  go_wp2_with fail
                  go_ret2
                  exact ⟨NsOut.bad HR2.out, by first | exact hM.below0 | (subst hg1; exact hM.below0)⟩
              · rw [if_neg h8] at hsm
                have HSm := Lib.hid hsm
                have HR2 : Hid (decP nm L xs = ([], 2)) := Lib.hid (by rw [HR.out, HEs.out, if_pos (by rw [decide_eq_false h8]; simp)])
                clear hsm
                go_wp2_with fail
                refine HSm.out.mono ?_
                rintro e w3 ⟨rfl, hw3⟩
                subst hw3
                go_wp2_with fail
                go_ret2
                exact ⟨NsOut.bad HR2.out, by first | exact hM.below0 | (subst hg1; exact hM.below0)⟩
            · have hii : ¬ (i : Int) < (xs.length : Int) := by omega
              have HR2 : Hid (decP nm L xs = (out, 0)) := Lib.hid (by rw [HR.out, HE.out, List.drop_of_length_le (by have := HN.out; omega : L.length ≤ i)]; rfl)
              go_wp2_with fail
              go_ret2
              refine ⟨⟨OA, oc, by rw [HR2.out]; rfl, ?_⟩, by first | exact hM.below0 | (subst hg1; exact hM.below0)⟩
              rw [HR2.out]
              exact natS_row (hM.row 1 rfl)
        · have hni : ((xs.length : Int) != (L.length : Int)) = true := by simp; omega
          have HR : Hid (decP nm L xs = ([], 6)) := Lib.hid (by rw [HP.out, if_neg (by simp), if_neg (by simp), if_pos hn])
          go_wp2_with fail
          go_ret2
          exact ⟨NsOut.bad HR.out, by first | exact hk2.below0 | (subst hg1; exact hk2.below0)⟩
end Go.Proofs.YtmdjhakamapngaaGreatDoor
