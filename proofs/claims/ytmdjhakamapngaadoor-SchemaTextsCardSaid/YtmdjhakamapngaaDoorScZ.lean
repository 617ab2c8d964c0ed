/-
  schema.Encode.
-/
import Derived.Test.YtmdjhakamapngaaDoorScY
import Derived.Test.YtmdjhakamapngaaDoorScL
import Derived.Test.YtmdjhakamapngaaDoorNat1
namespace Go.Proofs.YtmdjhakamapngaaDoor
open Go.RowKit Go.Shelf
set_option linter.unusedVariables false

theorem first_or {s : ByteArray} : ∀ (L : List ByteArray), (∀ (j : Nat) (f : ByteArray), L[j]? = some f → f ≠ s) ∨ ∃ i, L[i]? = some s ∧ ∀ (j : Nat) (f : ByteArray), j < i → L[j]? = some f → f ≠ s
  | [] => .inl fun j f h => by simp at h
  | x :: L => by
    by_cases hx : x = s
    · exact .inr ⟨0, by simp [hx], fun j f h => absurd h (Nat.not_lt_zero _)⟩
    · rcases first_or (s := s) L with h | ⟨i, h1, h2⟩
      · refine .inl fun j f hf => ?_
        cases j with
        | zero =>
          have : x = f := by simpa using hf
          rw [← this]; exact hx
        | succ j => exact h j f (by simpa using hf)
      · refine .inr ⟨i + 1, by simpa using h1, fun j f hj hf => ?_⟩
        cases j with
        | zero =>
          have : x = f := by simpa using hf
          rw [← this]; exact hx
        | succ j => exact h2 j f (by omega) (by simpa using hf)
theorem idx_or (L : List ByteArray) (s : ByteArray) : Lib.idxOfS L s = -1 ∨ ∃ i : Nat, L[i]? = some s ∧ Lib.idxOfS L s = (i : Int) := by
  rcases first_or (s := s) L with h | ⟨i, h1, h2⟩
  · exact .inl (idx_miss h)
  · exact .inr ⟨i, h1, idx_hit h1 h2⟩
theorem fval_range {f : Fd} {t : ByteArray} (h : FOk f) (he : (fvalV f t).2 = 0) : 0 ≤ (fvalV f t).1 - f.min ∧ (fvalV f t).1 - f.min < 4294967296 ∧ 0 ≤ f.max - f.min := by
  unfold fvalV at *
  rcases fld_kind h.fe with ⟨k1, k2, k3, k4, k5⟩ | ⟨k1, k2, k3, k4, k5, k6⟩
  · rw [if_neg (by omega)] at he ⊢
    split at he
    · simp at he
    · rename_i h1
      rw [if_neg h1]
      split at he
      · simp at he
      · rename_i h2
        rw [if_neg h2]
        simp only
        omega
  · rw [if_pos k1] at he ⊢
    split at he
    · simp at he
    · rename_i h1
      rw [if_neg h1]
      simp only
      rcases idx_or f.words t with h2 | ⟨i, h2, h3⟩
      · omega
      · have := (List.getElem?_eq_some_iff.1 h2).1
        omega
def encL : List Fd → List ByteArray → List ByteArray → List ByteArray × Int
  | f :: L, t :: ts, acc => if (fvalV f t).2 ≠ 0 then ([], (fvalV f t).2) else encL L ts (acc ++ [bs (Dm.str ((fvalV f t).1 - f.min).toNat)])
  | _, _, acc => (acc, 0)
def encP (nm : ByteArray) (L : List Fd) (vs : List ByteArray) : List ByteArray × Int := if schemaE nm L ≠ 0 then ([], schemaE nm L) else if vs.length ≠ L.length then ([], 6) else encL L vs []
theorem nat_info : (Tryd.prog.info? 54).map (fun i => (i.zero, i.size, i.bytes)) = some (some (.string ByteArray.empty), 1, 16) := by kernel_rfl
def NsOut (r : List ByteArray × Int) (e : Ending) (w' : World) : Prop := ∃ A c, e = .returned (.tuple #[.slice A r.1.length c, .int .i64 r.2]) ∧ Strs w' A r.1
theorem NsOut.bad {r : List ByteArray × Int} {E : Int} {w' : World} (h : r = ([], E)) : NsOut r (.returned (.tuple #[.slice none 0 0, .int .i64 E])) w' := by
  subst h
  exact ⟨none, 0, rfl, ⟨fun i f hf => by simp at hf⟩⟩
theorem natS_row {e : TypeId} {W : World} {A : Option Addr} {n c : Nat} {l : List ByteArray} (h : W.ownsRow 0 e 1 (.slice A n c) l.length (svals l)) : Strs W A l := by
  refine ⟨fun i s hs => ?_⟩
  have hi := (List.getElem?_eq_some_iff.1 hs).1
  obtain ⟨g, cap, hv, -⟩ := row_form h (by omega)
  injection hv with hA hn hc
  subst hA
  refine ⟨_, rfl, ?_⟩
  rw [addr0]
  rw [hn] at h
  exact row_cell h (j := i) (u := .string s) (by rw [List.getElem?_map, hs]; rfl)
set_option maxRecDepth 20000 in
set_option maxHeartbeats 8000000 in
theorem encode_any (nm : ByteArray) (A : Option Addr) (c : Nat) (L : List Fd) (hB : SBd nm L) (VA : Option Addr) (vc : Nat) (vs : List ByteArray) (hvl : vs.length ≤ 1000000) (hvs : ∀ t ∈ vs, t.size ≤ 1000000) (w : World) (hG : Glob w) (hS : Flds w A L) (hV : Strs w VA vs) :
    Calls Tryd.prog 18 #[schV nm A L.length c, .slice VA vs.length vc] w fun e w' => NsOut (encP nm L vs) e w' ∧ Below w.heap.size w w' := by
  have hk := (Hp.start w).new 24 [.string nm, .slice A L.length c]
  have HC := Lib.hid (check_any nm A c L hB _ (hS.up hk.below0))
  have HP : Hid (encP nm L vs = if schemaE nm L ≠ 0 then ([], schemaE nm L) else if vs.length ≠ L.length then ([], 6) else encL L vs []) := Lib.hid rfl
  have HSE : Hid (schemaE nm L = 0 → ∀ f ∈ L, FOk f) := Lib.hid fun h => (schemaE_ok h).2.2.2
  have HVI : Hid (∀ (i : Nat) (t f), schemaE nm L = 0 → L[i]? = some f → valV nm L (i : Int) t = fvalV f t) := Lib.hid fun i t f h hf => by
    have hi := (List.getElem?_eq_some_iff.1 hf).1
    unfold valV
    rw [if_neg (by simpa using h), if_pos (by omega)]
    simp only [Int.toNat_natCast, hf]
  obtain ⟨g1, hg1⟩ : ∃ g, w.heap.size = g := ⟨_, rfl⟩
  rw [hg1] at hk
  obtain ⟨E, hE⟩ : ∃ E, schemaE nm L = E := ⟨_, rfl⟩
  rw [hE] at HC HP HSE HVI
  go_enter Tryd.func18, Tryd.ntmps18
  go_upto_region 1 with fail
  try simp only [hg1]
  generalize w.alloc (.cells #[.string nm, .slice A L.length c] 24) = W at *
  obtain ⟨c0, c1⟩ := (hk.blk 0 rfl).get2
  go_wp2_with fail
  refine HC.out.mono ?_
  rintro e w1 ⟨rfl, hb1⟩
  have hk1 := hk.next hb1
  clear hk hb1 HC c0 c1
  obtain ⟨c0, c1⟩ := (hk1.blk 0 rfl).get2
  cases hE0 : (E != 0) with
  | true =>
    have HR : Hid (encP nm L vs = ([], E)) := Lib.hid (by rw [HP.out, if_pos (by simpa using hE0)])
    go_wp2_with fail
    go_ret2
    exact ⟨NsOut.bad HR.out, by first | exact hk1.below0 | (subst hg1; exact hk1.below0)⟩
  | false =>
    have hE1 : E = 0 := by simpa using hE0
    subst hE1
    have hL16 := (schemaE_ok hE).2.2.1
    by_cases hn : vs.length = L.length
    · have hni : ((vs.length : Int) != (L.length : Int)) = false := by simp [hn]
      have HR : Hid (encP nm L vs = encL L vs []) := Lib.hid (by rw [HP.out, if_neg (by simp), if_neg (by simpa using hn)])
      obtain ⟨i0, hi0, hz0, hz1, hz2⟩ := info_parts nat_info
      have HN := Lib.hid hn
      clear HP hE0 hn
      go_upto_region 8 with fail
      have hk2 : Hp [] w [iblk g1 24 [.string nm, .slice A L.length c], irow 54 1 (.slice none 0 0) 0 []] w1 := (hk1.nilrow 54 1).perm (List.Perm.swap _ _ _)
      clear hk1 c0 c1
      go_loopg [25, 7] vs.length (fun m s25 s7 wx => ∃ (i : Nat) (OA : Option Addr) (oc : Nat) (out : List ByteArray), i ≤ vs.length ∧ m = vs.length - i ∧ s25 = .int .i64 (i : Int) ∧ s7 = .slice OA out.length oc ∧ Hp [] w [iblk g1 24 [.string nm, .slice A L.length c], irow 54 1 (.slice OA out.length oc) out.length (svals out)] wx ∧ Hid (out.length = i) ∧ Hid (encL L vs [] = encL (L.drop i) (vs.drop i) out))
      case atStart => exact ⟨0, none, 0, [], Nat.zero_le _, rfl, rfl, rfl, hk2, Lib.hid rfl, Lib.hid rfl⟩
      case round =>
        obtain ⟨i, OA, oc, out, hi, rfl, rfl, rfl, hM, hol, HE⟩ := hrel
        clear hk2
        obtain ⟨c0, c1⟩ := (hM.blk 0 rfl).get2
        by_cases hil : i < vs.length
        · have hii : (i : Int) < (vs.length : Int) := by omega
          have hi0' : (0 : Int) ≤ (i : Int) := by omega
          have hiL : (i : Int) < (L.length : Int) := by have := HN.out; omega
          obtain ⟨t, ht⟩ : ∃ t, vs[i]? = some t := ⟨_, List.getElem?_eq_getElem hil⟩
          obtain ⟨f, hf⟩ : ∃ f, L[i]? = some f := ⟨_, List.getElem?_eq_getElem (by have := HN.out; omega)⟩
          have hts := hvs t (List.mem_of_getElem? ht)
          have hFOk := HSE.out trivial f (List.mem_of_getElem? hf)
          obtain ⟨vd, rfl, ca⟩ := (hV.up hM.below0).at_ i t ht
          obtain ⟨ad, WA, wa, hAe, hF⟩ := hS.at_ i f hf
          subst hAe
          have HEs : Hid (encL L vs [] = if (fvalV f t).2 ≠ 0 then ([], (fvalV f t).2) else encL (L.drop (i + 1)) (vs.drop (i + 1)) (out ++ [bs (Dm.str ((fvalV f t).1 - f.min).toNat)])) := Lib.hid (by rw [HE.out, drop_at hf, drop_at ht, encL])
          have hcv := value_any nm (some ad) c L hB (i : Int) t hts wr (hG.up hM.below0) (hS.up hM.below0)
          rw [HVI.out i t f trivial hf] at hcv
          have HCV := Lib.hid hcv
          have HRG : Hid ((fvalV f t).2 = 0 → 0 ≤ (fvalV f t).1 - f.min ∧ (fvalV f t).1 - f.min < 4294967296 ∧ 0 ≤ f.max - f.min) := Lib.hid fun h => fval_range hFOk h
          have HFK := Lib.hid (fld_kind hFOk.fe)
          have HF := Lib.hid hF
          clear hcv ht hf hF HE hFOk
          generalize fvalV f t = fv at *
          obtain ⟨n, Ev⟩ := fv
          simp only at HCV HEs HRG
          go_wp2_with fail
          refine HCV.out.mono ?_
          rintro e w2 ⟨rfl, hb2⟩
          have hM2 := hM.next hb2
          clear hM hb2 HCV c0 c1 ca
          obtain ⟨c0, c1⟩ := (hM2.blk 0 rfl).get2
          cases hEv : (Ev != 0) with
          | true =>
            have HR2 : Hid (encP nm L vs = ([], Ev)) := Lib.hid (by rw [HR.out, HEs.out, if_pos (by simpa using hEv)])
            go_wp2_with fail
            go_ret2
            exact ⟨NsOut.bad HR2.out, by first | exact hM2.below0 | (subst hg1; exact hM2.below0)⟩
          | false =>
            have hEv0 : Ev = 0 := by simpa using hEv
            subst hEv0
            obtain ⟨r1, r2, r3⟩ := HRG.out rfl
            have HEt : Hid (encL L vs [] = encL (L.drop (i + 1)) (vs.drop (i + 1)) (out ++ [bs (Dm.str (n - f.min).toNat)])) := Lib.hid (by rw [HEs.out, if_neg (by simp)])
            have x2 := (HF.out.up hM2.below0).min
            have hmin : -2147483648 ≤ f.min ∧ f.min ≤ 2147483647 := by
              rcases HFK.out with ⟨k1, k2, k3, k4, k5⟩ | ⟨k1, k2, k3, k4, k5, k6⟩ <;> omega
            have hw1 : IntKind.i64.wrap (n - f.min) = n - f.min := IntWalk.i64_in _ (by omega)
            have hw2 : IntKind.u64.wrap (n - f.min) = n - f.min := IntWalk.u64_in _ (by omega)
            have HOf := Lib.hid (fun W' => of_at (n - f.min) (n - f.min).toNat W' (by omega) (by omega))
            generalize (n - f.min).toNat = nn at *
            clear HEs HF HFK HRG hEv
            go_wp2_with fail
            refine (HOf.out w2).mono ?_
            rintro e w3 ⟨rfl, hb3⟩
            have hM3 := hM2.next hb3
            clear hM2 hb3 HOf c0 c1 x2
            have hM4 := hM3.alloc (.cells #[Sv (Dm.str nn)] 54)
            go_wp2_with (refine wpList_append_own2 rfl (.tmp 40) (.tmp 51) 50 rfl 0 54 i0 _ 1 16 Tryd.underlying50 hi0 hz0 hz1 hz2 rfl (by decide) (.slice OA out.length oc) out.length (svals out) rfl (hM4.row 1 rfl) _ 1 1 [Sv (Dm.str nn)] rfl rfl (new1' _ _ _) (by intro u hu; simp at hu; rw [hu]; rfl) (by decide) (by have := hol.out; unfold maxLen; omega) (by have := hol.out; omega) (Nat.zero_le _) ?_
                         intro v' w5 hown5 hgr5 hat5
                         have hM5 := hM4.grown 1 rfl hown5 hgr5 hat5
                         obtain ⟨NA, nc, rfl⟩ := row_forms hown5
                         clear hown5 hgr5 hat5)
            have hM6 : Hp [] w [iblk g1 24 [.string nm, .slice (some ad) L.length c], irow 54 1 (.slice NA (out ++ [bs (Dm.str nn)]).length nc) (out ++ [bs (Dm.str nn)]).length (svals (out ++ [bs (Dm.str nn)]))] w5 := by
              have e : (out ++ [bs (Dm.str nn)]).length = out.length + 1 := by simp
              rw [e]
              simpa [svals] using hM5
            go_roundg (vs.length - (i + 1))
            case measure => omega
            case rel => exact ⟨i + 1, NA, nc, out ++ [bs (Dm.str nn)], hil, rfl, by first | rfl | simp, by simp, hM6, Lib.hid (by have := hol.out; simp; omega), HEt⟩
        · have hii : ¬ (i : Int) < (vs.length : Int) := by omega
          have HR2 : Hid (encP nm L vs = (out, 0)) := Lib.hid (by rw [HR.out, HE.out, List.drop_of_length_le (by have := HN.out; omega : L.length ≤ i)]; rfl)
          go_wp2_with fail
          go_ret2
          refine ⟨⟨OA, oc, by rw [HR2.out]; rfl, ?_⟩, by first | exact hM.below0 | (subst hg1; exact hM.below0)⟩
          rw [HR2.out]
          exact natS_row (hM.row 1 rfl)
    · have hni : ((vs.length : Int) != (L.length : Int)) = true := by simp; omega
      have HR : Hid (encP nm L vs = ([], 6)) := Lib.hid (by rw [HP.out, if_neg (by simp), if_pos hn])
      go_wp2_with fail
      go_ret2
      exact ⟨NsOut.bad HR.out, by first | exact hk1.below0 | (subst hg1; exact hk1.below0)⟩
end Go.Proofs.YtmdjhakamapngaaDoor
