/-
  schema.Decode.
-/
import Derived.Test.YtmdjhakamapngaaGreatDoorScZ
import Derived.Test.YtmdjhakamapngaaGreatDoorScP
import Derived.Test.YtmdjhakamapngaaGreatDoorSdB
namespace Go.Proofs.YtmdjhakamapngaaGreatDoor
open Go.RowKit Go.Shelf
set_option linter.unusedVariables false

def allV (xs : List ByteArray) : Bool := xs.all fun x => validB (tl x)
def decL : List Fd → List ByteArray → List ByteArray → List ByteArray × Int
  | f :: L, x :: xs, acc => if (decide (x.size ≤ 8) && decide (Dm.val (tl x) ≤ 4294967295)) = false then ([], 2) else if (fnameV f ((Dm.val (tl x) : Int) + f.min)).2 ≠ 0 then ([], (fnameV f ((Dm.val (tl x) : Int) + f.min)).2) else decL L xs (acc ++ [(fnameV f ((Dm.val (tl x) : Int) + f.min)).1])
  | _, _, acc => (acc, 0)
def decP (nm : ByteArray) (L : List Fd) (xs : List ByteArray) : List ByteArray × Int := if allV xs = false then ([], 3) else if schemaE nm L ≠ 0 then ([], schemaE nm L) else if xs.length ≠ L.length then ([], 6) else decL L xs []
set_option maxHeartbeats 2000000 in
theorem dec1_any (x : ByteArray) (hx : x.size ≤ 1000000) (w : World) : Calls Tryz.prog 23 #[.string x] w fun e w' => e = .returned (.bool (!(validB (tl x)))) ∧ w' = w := by
  have HC := Lib.hid (valid_any x w (by omega))
  generalize validB (tl x) = v at *
  go_enter Tryz.func23, Tryz.ntmps23
  go_wp2_with fail
  refine HC.out.mono ?_
  rintro e w1 ⟨rfl, rfl⟩
  go_wp2_with fail
  go_ret
  exact ⟨by cases v <;> rfl, rfl⟩
theorem enDec1 : ∀ args w, (callFunc 23 args).run Tryz.prog w = .ok (.enter 23 args) w := enters_of Tryz.func23 (by kernel_rfl) rfl
set_option maxRecDepth 20000 in
set_option maxHeartbeats 4000000 in
theorem indexV_any (A : Option Addr) (c : Nat) (xs : List ByteArray) (hl : xs.length ≤ 1000000) (hx : ∀ x ∈ xs, x.size ≤ 1000000) (w : World) (hS : Strs w A xs) :
    Calls Tryz.prog 43 #[.slice A xs.length c, .func (.func 23) #[] #[]] w fun e w' => (∃ k : Int, e = .returned (.int .i64 k) ∧ decide (0 ≤ k) = !(allV xs)) ∧ Below w.heap.size w w' := by
  have hen := enDec1
  go_enter Tryz.func43, Tryz.ntmps43
  go_upto_region 2 with fail
  go_loopg [8] xs.length (fun m s8 wx => ∃ i : Nat, i ≤ xs.length ∧ m = xs.length - i ∧ s8 = .int .i64 (i : Int) ∧ Below w.heap.size w wx ∧ Hid (allV (xs.take i) = true))
  case atStart => exact ⟨0, Nat.zero_le _, rfl, rfl, Below.refl _ _, Lib.hid rfl⟩
  case round =>
    obtain ⟨i, hi, rfl, rfl, hb, HI⟩ := hrel
    by_cases hil : i < xs.length
    · have hii : (i : Int) < (xs.length : Int) := by omega
      have hi0 : (0 : Int) ≤ (i : Int) := by omega
      obtain ⟨x, hxi⟩ : ∃ x, xs[i]? = some x := ⟨_, List.getElem?_eq_getElem hil⟩
      obtain ⟨ad, rfl, c0⟩ := (hS.up hb).at_ i x hxi
      have HC := Lib.hid (dec1_any x (hx x (List.mem_of_getElem? hxi)) wr)
      have HT : Hid (allV (xs.take (i + 1)) = (allV (xs.take i) && validB (tl x))) := Lib.hid (all_take hxi)
      have HB : Hid (validB (tl x) = false → allV xs = false) := Lib.hid (fun h => all_bad hxi h)
      clear hxi
      cases hv : validB (tl x) with
      | false =>
        have HR := Lib.hid (HB.out hv)
        rw [hv] at HC
        clear hv
        go_wp2_with fail
        refine HC.out.mono ?_
        rintro e w1 ⟨rfl, hw⟩
        subst hw
        go_wp2_with fail
        go_ret
        exact ⟨⟨(i : Int), rfl, by rw [HR.out]; simp⟩, hb⟩
      | true =>
        have HI2 : Hid (allV (xs.take (i + 1)) = true) := Lib.hid (by rw [HT.out, HI.out, hv]; rfl)
        rw [hv] at HC
        clear hv
        go_wp2_with fail
        refine HC.out.mono ?_
        rintro e w1 ⟨rfl, hw⟩
        subst hw
        go_wp2_with fail
        go_roundg (xs.length - (i + 1))
        case measure => omega
        case rel => exact ⟨i + 1, hil, rfl, by first | rfl | simp, hb, HI2⟩
    · have hii : ¬ (i : Int) < (xs.length : Int) := by omega
      have HR : Hid (allV xs = true) := Lib.hid (by have := HI.out; rwa [List.take_of_length_le (by omega)] at this)
      go_wp2_with fail
      go_ret
      exact ⟨⟨-1, rfl, by rw [HR.out]; rfl⟩, hb⟩
set_option maxRecDepth 20000 in
set_option maxHeartbeats 4000000 in
theorem containsV_any (A : Option Addr) (c : Nat) (xs : List ByteArray) (hl : xs.length ≤ 1000000) (hx : ∀ x ∈ xs, x.size ≤ 1000000) (w : World) (hS : Strs w A xs) :
    Calls Tryz.prog 22 #[.slice A xs.length c, .func (.func 23) #[] #[]] w fun e w' => e = .returned (.bool (!(allV xs))) ∧ Below w.heap.size w w' := by
  have HC := Lib.hid (indexV_any A c xs hl hx w hS)
  go_enter Tryz.func22, Tryz.ntmps22
  go_wp2_with fail
  refine HC.out.mono ?_
  rintro e w1 ⟨⟨k, rfl, hk⟩, hb⟩
  have HK := Lib.hid hk
  clear hk
  go_wp2_with fail
  go_ret
  rw [← HK.out]
  exact ⟨rfl, hb⟩
theorem smallV_valid {l : List UInt8} (h : validB l = true) : smallV l = if l.length ≤ 8 then .tuple #[.int .u64 (Dm.val l : Nat), .bool true] else .tuple #[.int .u64 0, .bool false] := by
  unfold smallV
  by_cases h8 : l.length ≤ 8
  · rw [h, decide_eq_true h8, if_pos h8]; rfl
  · rw [h, decide_eq_false h8, if_neg h8]; rfl
set_option maxRecDepth 20000 in
set_option maxHeartbeats 8000000 in
theorem decode_any (nm : ByteArray) (A : Option Addr) (c : Nat) (L : List Fd) (hB : SBd nm L) (XA : Option Addr) (xc : Nat) (xs : List ByteArray) (hxl : xs.length ≤ 1000000) (hxs : ∀ x ∈ xs, x.size ≤ 1000000) (w : World) (hG : Glob w) (hS : Flds w A L) (hX : Strs w XA xs) :
    Calls Tryz.prog 9 #[schV nm A L.length c, .slice XA xs.length xc] w fun e w' => NsOut (decP nm L xs) e w' ∧ Below w.heap.size w w' := by
  have hk := (Hp.start w).new 24 [.string nm, .slice A L.length c]
  have HCV := Lib.hid (containsV_any XA xc xs hxl hxs _ (hX.up hk.below0))
  have HC := Lib.hid (fun W' h => check_any nm A c L hB W' h)
  have HP : Hid (decP nm L xs = if allV xs = false then ([], 3) else if schemaE nm L ≠ 0 then ([], schemaE nm L) else if xs.length ≠ L.length then ([], 6) else decL L xs []) := Lib.hid rfl
  have HSE : Hid (schemaE nm L = 0 → ∀ f ∈ L, FOk f) := Lib.hid fun h => (schemaE_ok h).2.2.2
  have HVX : Hid (allV xs = true → ∀ x ∈ xs, validB (tl x) = true) := Lib.hid fun h x hx => List.all_eq_true.1 h x hx
  have HVI : Hid (∀ (i : Nat) (v : Int) f, schemaE nm L = 0 → L[i]? = some f → nameV nm L (i : Int) v = fnameV f v) := Lib.hid fun i v f h hf => by
    have hi := (List.getElem?_eq_some_iff.1 hf).1
    unfold nameV
    rw [if_neg (by simpa using h), if_pos (by omega)]
    simp only [Int.toNat_natCast, hf]
  obtain ⟨g1, hg1⟩ : ∃ g, w.heap.size = g := ⟨_, rfl⟩
  rw [hg1] at hk
  obtain ⟨E, hE⟩ : ∃ E, schemaE nm L = E := ⟨_, rfl⟩
  rw [hE] at HC HP HSE HVI
  obtain ⟨al, hal⟩ : ∃ b, allV xs = b := ⟨_, rfl⟩
  rw [hal] at HCV HP HVX
  go_enter Tryz.func9, Tryz.ntmps9
  go_upto_region 1 with fail
  try simp only [hg1]
  generalize w.alloc (.cells #[.string nm, .slice A L.length c] 24) = W at *
  go_wp2_with fail
  refine HCV.out.mono ?_
  rintro e w1 ⟨rfl, hb1⟩
  have hk1 := hk.next hb1
  clear hk hb1 HCV
  cases al with
  | false =>
    have HR : Hid (decP nm L xs = ([], 3)) := Lib.hid (by rw [HP.out, if_pos rfl])
    go_wp2_with fail
    go_ret2
    exact ⟨NsOut.bad HR.out, by first | exact hk1.below0 | (subst hg1; exact hk1.below0)⟩
  | true =>
    obtain ⟨c0, c1⟩ := (hk1.blk 0 rfl).get2
    go_wp2_with fail
    refine (HC.out w1 (hS.up hk1.below0)).mono ?_
    rintro e w2 ⟨rfl, hb2⟩
    have hk2 := hk1.next hb2
    clear hk1 hb2 HC c0 c1
    obtain ⟨c0, c1⟩ := (hk2.blk 0 rfl).get2
    cases hE0 : (E != 0) with
    | true =>
      have HR : Hid (decP nm L xs = ([], E)) := Lib.hid (by rw [HP.out, if_neg (by simp), if_pos (by simpa using hE0)])
      go_wp2_with fail
      go_ret2
      exact ⟨NsOut.bad HR.out, by first | exact hk2.below0 | (subst hg1; exact hk2.below0)⟩
    | false =>
      have hE1 : E = 0 := by simpa using hE0
      subst hE1
      have hL16 := (schemaE_ok hE).2.2.1
      by_cases hn : xs.length = L.length
      · have hni : ((xs.length : Int) != (L.length : Int)) = false := by simp [hn]
        have HR : Hid (decP nm L xs = decL L xs []) := Lib.hid (by rw [HP.out, if_neg (by simp), if_neg (by simp), if_neg (by simpa using hn)])
        obtain ⟨i0, hi0, hz0, hz1, hz2⟩ := info_parts str_info
        have HN := Lib.hid hn
        clear HP hE0 hn
        go_upto_region 10 with fail
        have hk3 : Hp [] w [iblk g1 24 [.string nm, .slice A L.length c], irow 9 1 (.slice none 0 0) 0 []] w2 := (hk2.nilrow 9 1).perm (List.Perm.swap _ _ _)
        clear hk2 c0 c1
        go_loopg [29, 7] xs.length (fun m s29 s7 wx => ∃ (i : Nat) (OA : Option Addr) (oc : Nat) (out : List ByteArray), i ≤ xs.length ∧ m = xs.length - i ∧ s29 = .int .i64 (i : Int) ∧ s7 = .slice OA out.length oc ∧ Hp [] w [iblk g1 24 [.string nm, .slice A L.length c], irow 9 1 (.slice OA out.length oc) out.length (svals out)] wx ∧ Hid (out.length = i) ∧ Hid (decL L xs [] = decL (L.drop i) (xs.drop i) out))
        case atStart => exact ⟨0, none, 0, [], Nat.zero_le _, rfl, rfl, rfl, hk3, Lib.hid rfl, Lib.hid rfl⟩
        case round =>
          obtain ⟨i, OA, oc, out, hi, rfl, rfl, rfl, hM, hol, HE⟩ := hrel
          clear hk3
          by_cases hil : i < xs.length
          · have hii : (i : Int) < (xs.length : Int) := by omega
            have hi0' : (0 : Int) ≤ (i : Int) := by omega
            have hiL : (i : Int) < (L.length : Int) := by have := HN.out; omega
            obtain ⟨x, hx⟩ : ∃ x, xs[i]? = some x := ⟨_, List.getElem?_eq_getElem hil⟩
            obtain ⟨f, hf⟩ : ∃ f, L[i]? = some f := ⟨_, List.getElem?_eq_getElem (by have := HN.out; omega)⟩
            have hxz := hxs x (List.mem_of_getElem? hx)
            have hxv := HVX.out trivial x (List.mem_of_getElem? hx)
            have hFOk := HSE.out trivial f (List.mem_of_getElem? hf)
            obtain ⟨xd, rfl, ca⟩ := (hX.up hM.below0).at_ i x hx
            obtain ⟨ad, WA, wa, hAe, hF⟩ := hS.at_ i f hf
            subst hAe
            have HEs : Hid (decL L xs [] = if (decide (x.size ≤ 8) && decide (Dm.val (tl x) ≤ 4294967295)) = false then ([], 2) else if (fnameV f ((Dm.val (tl x) : Int) + f.min)).2 ≠ 0 then ([], (fnameV f ((Dm.val (tl x) : Int) + f.min)).2) else decL (L.drop (i + 1)) (xs.drop (i + 1)) (out ++ [(fnameV f ((Dm.val (tl x) : Int) + f.min)).1])) := Lib.hid (by rw [HE.out, drop_at hf, drop_at hx, decL])
            have hsm := small_any x wr (by omega)
            rw [smallV_valid hxv, length_tl] at hsm
            have HFK := Lib.hid (fld_kind hFOk.fe)
            have HF := Lib.hid hF
            have HVf := Lib.hid (fun v => HVI.out i v f trivial hf)
            clear hx hF HE hFOk hf hxv
            generalize Dm.val (tl x) = n at *
            by_cases h8 : x.size ≤ 8
            · rw [if_pos h8] at hsm
              have HSm := Lib.hid hsm
              clear hsm
              by_cases hn4 : n ≤ 4294967295
              · have hni4 : ¬ (4294967295 : Int) < (n : Int) := by omega
                have hmin : -2147483648 ≤ f.min ∧ f.min ≤ 2147483647 := by
                  rcases HFK.out with ⟨k1, k2, k3, k4, k5⟩ | ⟨k1, k2, k3, k4, k5, k6⟩ <;> omega
                have hw1 : IntKind.i64.wrap (n : Int) = (n : Int) := IntWalk.i64_in _ (by omega)
                have hw2 : IntKind.i64.wrap ((n : Int) + f.min) = (n : Int) + f.min := IntWalk.i64_in _ (by omega)
                have HEt : Hid (decL L xs [] = if (fnameV f ((n : Int) + f.min)).2 ≠ 0 then ([], (fnameV f ((n : Int) + f.min)).2) else decL (L.drop (i + 1)) (xs.drop (i + 1)) (out ++ [(fnameV f ((n : Int) + f.min)).1])) := Lib.hid (by rw [HEs.out, if_neg (by rw [decide_eq_true h8, decide_eq_true hn4]; simp)])
                have hnm := fun W' hG hS => name_any' nm (some ad) c L hB (i : Int) ((n : Int) + f.min) W' hG hS
                rw [HVf.out] at hnm
                have HNm := Lib.hid hnm
                clear hnm HEs h8 hn4 HFK
                go_wp2_with fail
                refine HSm.out.mono ?_
                rintro e w3 ⟨rfl, hw3⟩
                subst hw3
                clear HSm ca
                generalize fnameV f ((n : Int) + f.min) = fv at *
                obtain ⟨u, Ev⟩ := fv
                simp only at HEt HNm
                go_upto_region 15 with fail
                have hMd := hM.drew
                have hFd := HF.out.up hMd.below0
                have x2 := hFd.min
                obtain ⟨c0, c1⟩ := (hMd.blk 0 rfl).get2
                clear hM hFd
                have HAll := Lib.hid (And.intro c0 (And.intro c1 x2))
                first | go_region_held3 (fun w' => w'.cell? ⟨g1, 0, none⟩ = some (.string nm) ∧ w'.cell? ⟨g1, 1, none⟩ = some (.slice (some ad) L.length c) ∧ w'.cell? ⟨(ad.add (i * 5)).block, (ad.add (i * 5)).off + 2, none⟩ = some (.int .i64 f.min)) (first | exact ⟨c0, c1, x2⟩ | exact ⟨e0, e1, y2⟩)
                  (first | (go_at_call 26; refine (HNm.out _ (hG.up hMd.below0) (hS.up hMd.below0)).mono ?_; rintro e w4 ⟨rfl, hb4⟩; have hM4 := hMd.next hb4; have y2 := (HF.out.up hM4.below0).min; obtain ⟨e0, e1⟩ := (hM4.blk 0 rfl).get2)) | fail
                cases hEv : (Ev != 0) with
                | true =>
                  have HR2 : Hid (decP nm L xs = ([], Ev)) := Lib.hid (by rw [HR.out, HEt.out, if_pos (by simpa using hEv)])
                  go_wp2_with fail
                  go_ret2
                  exact ⟨NsOut.bad HR2.out, by first | exact hM4.below0 | (subst hg1; exact hM4.below0)⟩
                | false =>
                  have HEu : Hid (decL L xs [] = decL (L.drop (i + 1)) (xs.drop (i + 1)) (out ++ [u])) := Lib.hid (by rw [HEt.out, if_neg (by simpa using hEv)])
                  have hM5 := hM4.alloc (.cells #[.string u] 9)
                  clear hM4 hMd e0 e1 y2 c0 c1 x2 HAll
                  go_wp2_with (refine wpList_append_own2 rfl (.tmp 63) (.tmp 65) 25 rfl 0 9 i0 _ 1 16 Tryz.underlying25 hi0 hz0 hz1 hz2 rfl (by decide) (.slice OA out.length oc) out.length (svals out) rfl (hM5.row 1 rfl) _ 1 1 [.string u] rfl rfl (new1' _ _ _) (by intro u hu; simp at hu; rw [hu]; rfl) (by decide) (by have := hol.out; unfold maxLen; omega) (by have := hol.out; omega) (Nat.zero_le _) ?_
                               intro v' w5 hown5 hgr5 hat5
                               have hM6 := hM5.grown 1 rfl hown5 hgr5 hat5
                               obtain ⟨NA, nc, rfl⟩ := row_forms hown5
                               clear hown5 hgr5 hat5)
                  have hM7 : Hp [] w [iblk g1 24 [.string nm, .slice (some ad) L.length c], irow 9 1 (.slice NA (out ++ [u]).length nc) (out ++ [u]).length (svals (out ++ [u]))] w5 := by
                    have e : (out ++ [u]).length = out.length + 1 := by simp
                    rw [e]
                    simpa [svals] using hM6
                  go_roundg (xs.length - (i + 1))
                  case measure => omega
                  case rel => exact ⟨i + 1, NA, nc, out ++ [u], hil, rfl, by first | rfl | simp, by simp, hM7, Lib.hid (by have := hol.out; simp; omega), HEu⟩
              · have hni4 : (4294967295 : Int) < (n : Int) := by omega
                have HR2 : Hid (decP nm L xs = ([], 2)) := Lib.hid (by rw [HR.out, HEs.out, if_pos (by rw [decide_eq_false hn4]; simp)])
                go_wp2_with fail
                refine HSm.out.mono ?_
                rintro e w3 ⟨rfl, hw3⟩
                subst hw3
                go_wp2_with fail
                go_ret2
                exact ⟨NsOut.bad HR2.out, by first | exact hM.below0 | (subst hg1; exact hM.below0)⟩
            · rw [if_neg h8] at hsm
              have HSm := Lib.hid hsm
              have HR2 : Hid (decP nm L xs = ([], 2)) := Lib.hid (by rw [HR.out, HEs.out, if_pos (by rw [decide_eq_false h8]; simp)])
              clear hsm
              go_wp2_with fail
              refine HSm.out.mono ?_
              rintro e w3 ⟨rfl, hw3⟩
              subst hw3
              go_wp2_with fail
              go_ret2
              exact ⟨NsOut.bad HR2.out, by first | exact hM.below0 | (subst hg1; exact hM.below0)⟩
          · have hii : ¬ (i : Int) < (xs.length : Int) := by omega
            have HR2 : Hid (decP nm L xs = (out, 0)) := Lib.hid (by rw [HR.out, HE.out, List.drop_of_length_le (by have := HN.out; omega : L.length ≤ i)]; rfl)
            go_wp2_with fail
            go_ret2
            refine ⟨⟨OA, oc, by rw [HR2.out]; rfl, ?_⟩, by first | exact hM.below0 | (subst hg1; exact hM.below0)⟩
            rw [HR2.out]
            exact natS_row (hM.row 1 rfl)
      · have hni : ((xs.length : Int) != (L.length : Int)) = true := by simp; omega
        have HR : Hid (decP nm L xs = ([], 6)) := Lib.hid (by rw [HP.out, if_neg (by simp), if_neg (by simp), if_pos hn])
        go_wp2_with fail
        go_ret2
        exact ⟨NsOut.bad HR.out, by first | exact hk2.below0 | (subst hg1; exact hk2.below0)⟩
end Go.Proofs.YtmdjhakamapngaaGreatDoor
