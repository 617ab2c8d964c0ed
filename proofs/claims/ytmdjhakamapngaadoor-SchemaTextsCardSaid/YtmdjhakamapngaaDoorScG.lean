/-
  The library's variables; decimal of schema and its reference.
-/
import Derived.Test.YtmdjhakamapngaaDoorScF
import Derived.Lib.AtoiErrMem
import Derived.Deep.RegionHeld3
namespace Go.Proofs.YtmdjhakamapngaaDoor
open Go.RowKit Go.Shelf Go.Sort
set_option linter.unusedVariables false

/-- the library's variables as the text lays them -/
structure Glob (W : World) : Prop where
  tab : Lib.TabIs Tryd.prog W "internal/strconv.uint64pow10" .u64 Lib.pow10Tab
  syn : ∃ tp p, W.var? Tryd.prog "strconv.ErrSyntax" = some #[.iface tp p]
  rng : ∃ tp p, W.var? Tryd.prog "strconv.ErrRange" = some #[.iface tp p]
theorem var_up {W W' : World} {n : String} {cs : Array Value} (h : W.var? Tryd.prog n = some cs) (hb : Below W.heap.size W W') : W'.var? Tryd.prog n = some cs := by
  unfold World.var? at h ⊢
  cases hg : Tryd.prog.globalNamed n with
  | none => rw [hg] at h; cases h
  | some g =>
    rw [hg] at h
    simp only [Option.bind_some] at h ⊢
    have hlt : g < W.heap.size := by
      rcases Nat.lt_or_ge g W.heap.size with h1 | h1
      · exact h1
      · rw [Array.getElem?_eq_none h1] at h; cases h
    rw [hb.block g hlt]
    exact h
theorem Glob.up {W W' : World} (h : Glob W) (hb : Below W.heap.size W W') : Glob W' := by
  obtain ⟨a, b, c⟩ := h.syn
  obtain ⟨d, e, f⟩ := h.rng
  exact ⟨var_up h.tab hb, ⟨a, b, var_up c hb⟩, ⟨d, e, var_up f hb⟩⟩
theorem below_gr (w : World) (k : Nat) (os : Array Obj) : Below w.heap.size w (grow (w.drewN k) os) := by
  refine ⟨rfl, rfl, rfl, ?_, fun i hi => ?_⟩
  · show w.heap.size ≤ (w.heap ++ os).size
    simp
  · show (w.heap ++ os)[i]? = w.heap[i]?
    rw [Array.getElem?_append_left hi]
theorem itoa_any (n : Int) (h0 : -9223372036854775808 ≤ n) (h1 : n ≤ 9223372036854775807) (w : World) (hG : Glob w) :
    Calls Tryd.prog 39 #[.int .i64 n] w fun e w' => e = .returned (Sv (Lib.itoa n)) ∧ Below w.heap.size w w' := by
  refine (Tryd.strconv_Itoa n h0 h1 w hG.tab).mono ?_
  rintro e w' ⟨rfl, k, os, rfl⟩
  exact ⟨rfl, below_gr w k os⟩
theorem atoi_ok (s : ByteArray) (hs : s.size ≤ 1000000) (v : Int) (h : Lib.atoiAll (tl s) = .ok v) (w : World) : Calls Tryd.prog 59 #[.string s] w fun e w' => e = .returned (.tuple #[.int .i64 v, .nilIface]) ∧ Below w.heap.size w w' := by
  refine (Tryd.strconv_Atoi_ok s (by omega) v h w).mono ?_
  rintro e w' ⟨rfl, hw⟩
  refine ⟨rfl, ?_⟩
  rcases hw with rfl | ⟨t, rfl⟩
  · exact Below.refl _ _
  · exact Lib.bytesWorld_below _ _ _
theorem atoi_bad (s : ByteArray) (hs : s.size ≤ 1000000) (h : ∀ v, Lib.atoiAll (tl s) ≠ .ok v) (w : World) (hG : Glob w) : Calls Tryd.prog 59 #[.string s] w fun e w' => ∃ n t p, e = .returned (.tuple #[.int .i64 n, .iface t p]) ∧ Below w.heap.size w w' := by
  obtain ⟨a, b, c⟩ := hG.syn
  obtain ⟨d, e, f⟩ := hG.rng
  cases hh : Lib.atoiAll (tl s)
  · rename_i v
    exact absurd hh (h v)
  · refine (Tryd.strconv_Atoi_syntax_var s (by omega) hh a b w c).mono ?_
    rintro e w' ⟨N, rfl, -, -, hb⟩
    exact ⟨_, _, _, rfl, hb⟩
  · refine (Tryd.strconv_Atoi_range_var s (by omega) hh d e w f).mono ?_
    rintro e w' ⟨N, rfl, -, -, hb⟩
    exact ⟨_, _, _, rfl, hb⟩
/-- what decimal hands back -/
def decN (s : ByteArray) : Int := if decOk (tl s) then decV (tl s) else 0
theorem decOk_len {l : List UInt8} (h : decOk l = true) : l.length ≤ 11 := by
  obtain ⟨_, h2, _⟩ := decOk_iff.1 h
  unfold magD at h2
  split at h2
  · rw [List.length_tail] at h2; omega
  · omega
set_option maxRecDepth 20000 in
set_option maxHeartbeats 8000000 in
theorem decimal_any (s : ByteArray) (hs : s.size ≤ 1000000) (w : World) (hG : Glob w) :
    Calls Tryd.prog 37 #[.string s] w fun e w' => e = .returned (.tuple #[.int .i64 (decN s), .bool (decOk (tl s))]) ∧ Below w.heap.size w w' := by
  have HV : Hid (decN s = if decOk (tl s) then decV (tl s) else 0) := Lib.hid rfl
  by_cases h11 : 11 < s.size
  · have hi : (11 : Int) < (s.size : Int) := by omega
    have hn : decOk (tl s) = false := by
      rw [Bool.eq_false_iff]
      intro h
      have := decOk_len h
      rw [length_tl] at this
      omega
    have HV : Hid (decN s = 0) := Lib.hid (by rw [HV.out, hn]; rfl)
    rw [hn]
    go_enter Tryd.func37, Tryd.ntmps37
    go_wp2_with fail
    go_ret2
    rw [HV.out]
    exact ⟨rfl, Below.refl _ _⟩
  · have hi : ¬ (11 : Int) < (s.size : Int) := by omega
    cases hd : decOk (tl s) with
    | true =>
      obtain ⟨h1, h2, h3⟩ := dec_ok hd
      obtain ⟨b0, b1⟩ := Lib.atoiAll_bounds h1
      have HA := Lib.hid (atoi_ok s hs _ h1 w)
      have HV : Hid (decN s = decV (tl s)) := Lib.hid (by rw [HV.out, hd]; rfl)
      have hx : ¬ (10 : Int) < ((Lib.trimPrefix s.data.toList [45]).length : Int) := by
        have : (Lib.trimPrefix s.data.toList [45]).length ≤ 10 := h3
        omega
      have hee : (Sv (Lib.itoa (decV (tl s)))) = .string s := by rw [h2, Sv, bs_tl]
      have HEE := Lib.hid hee
      have heq : (s.toList == s.toList) = true := by simp
      have hnq : (s.toList != s.toList) = false := by simp
      generalize decV (tl s) = v at *
      clear h1 h2 h3 hd hee
      go_enter Tryd.func37, Tryd.ntmps37
      go_wp2_with fail
      refine HA.out.mono ?_
      rintro e w1 ⟨rfl, hb1⟩
      have HI := itoa_any v b0 b1 w1 (hG.up hb1)
      rw [HEE.out] at HI
      have HI := Lib.hid HI
      go_wp2_with fail
      refine HI.out.mono ?_
      rintro e w2 ⟨rfl, hb2⟩
      have hb3 := hb1.trans (hb2.mono hb1.size)
      have HT := Lib.hid (Tryd.strings_TrimPrefix s ⟨#[45]⟩ w2)
      go_wp2_with fail
      refine HT.out.mono ?_
      rintro e w3 ⟨rfl, hw⟩
      subst hw
      go_wp2_with fail
      go_ret2
      rw [HV.out]
      exact ⟨rfl, hb3⟩
    | false =>
      have HV : Hid (decN s = 0) := Lib.hid (by rw [HV.out, hd]; rfl)
      by_cases hok : ∃ v, Lib.atoiAll (tl s) = .ok v
      · obtain ⟨v, hv⟩ := hok
        obtain ⟨b0, b1⟩ := Lib.atoiAll_bounds hv
        have HA := Lib.hid (atoi_ok s hs _ hv w)
        have HI := Lib.hid (fun W hg => itoa_any v b0 b1 W hg)
        by_cases he : Lib.itoa v = tl s
        · have h10 : ¬ (Lib.trimPrefix s.data.toList [45]).length ≤ 10 := fun h9 => by
            have := (dec_itoa v (by rw [he]; exact h9)).1
            rw [he, hd] at this; cases this
          have hx : (10 : Int) < ((Lib.trimPrefix s.data.toList [45]).length : Int) := by omega
          have HEE : Hid (Sv (Lib.itoa v) = .string s) := Lib.hid (by rw [he, Sv, bs_tl])
          have hnq : (s.toList != s.toList) = false := by simp
          clear hv hd he h10
          go_enter Tryd.func37, Tryd.ntmps37
          go_wp2_with fail
          refine HA.out.mono ?_
          rintro e w1 ⟨rfl, hb1⟩
          have HI2 := HI.out w1 (hG.up hb1)
          rw [HEE.out] at HI2
          have HI2 := Lib.hid HI2
          go_wp2_with fail
          refine HI2.out.mono ?_
          rintro e w2 ⟨rfl, hb2⟩
          have hb3 := hb1.trans (hb2.mono hb1.size)
          have HT := Lib.hid (Tryd.strings_TrimPrefix s ⟨#[45]⟩ w2)
          go_wp2_with fail
          refine HT.out.mono ?_
          rintro e w3 ⟨rfl, hw⟩
          subst hw
          go_wp2_with fail
          go_ret2
          rw [HV.out]
          exact ⟨rfl, hb3⟩
        · obtain ⟨t, ht⟩ : ∃ t : ByteArray, bs (Lib.itoa v) = t := ⟨_, rfl⟩
          have hne : t ≠ s := fun h9 => he (by rw [← h9, ← ht, tl_bs])
          have hnq : ¬ t.toList = s.toList := fun h9 => by
            rw [toList_tl, toList_tl] at h9
            exact hne (eq_of_tl h9)
          have HEE : Hid (Sv (Lib.itoa v) = .string t) := Lib.hid (by rw [Sv, ht])
          clear hv hd he ht hne
          go_enter Tryd.func37, Tryd.ntmps37
          go_wp2_with fail
          refine HA.out.mono ?_
          rintro e w1 ⟨rfl, hb1⟩
          have HI2 := HI.out w1 (hG.up hb1)
          rw [HEE.out] at HI2
          have HI2 := Lib.hid HI2
          go_wp2_with fail
          refine HI2.out.mono ?_
          rintro e w2 ⟨rfl, hb2⟩
          have hb3 := hb1.trans (hb2.mono hb1.size)
          go_wp2_with fail
          go_ret2
          rw [HV.out]
          exact ⟨rfl, hb3⟩
      · have HA := Lib.hid (atoi_bad s hs (fun v h => hok ⟨v, h⟩) w hG)
        clear hok hd
        go_enter Tryd.func37, Tryd.ntmps37
        go_wp2_with fail
        refine HA.out.mono ?_
        rintro e w1 ⟨n, tp, p, rfl, hb1⟩
        go_wp2_with fail
        go_ret2
        rw [HV.out]
        exact ⟨rfl, hb1⟩
/-- the value of digits, as the reference reckons it -/
theorem dval_take {d : ByteArray} {k : Nat} (h : k < d.size) : dval ((tl d).take (k + 1)) = dval ((tl d).take k) * 10 + (d[k].toNat - 48) := by
  rw [take_snoc d k h]
  exact dval_snoc _ _
theorem neg_at {s : ByteArray} (h : 0 < s.size) : isNeg (tl s) = ((s[0].toNat : Int) == 45) := by
  unfold isNeg
  conv => lhs; rw [tl_cons s h]
  rw [Bool.eq_iff_iff]
  simp
  omega
theorem mag_at {s d : ByteArray} {ng : Bool} (h : 0 < s.size) (hn : isNeg (tl s) = ng) (hd : d = if ng then s.extract 1 s.size else s) : tl d = magD (tl s) := by
  subst hd
  unfold magD
  rw [hn]
  cases ng with
  | false => rfl
  | true =>
    rw [if_pos rfl, if_pos rfl]
    show (s.extract 1 s.size).data.toList = _
    rw [ByteArray.data_extract, Array.toList_extract, List.extract_eq_take_drop]
    rw [← List.drop_one, List.take_of_length_le]
    rw [List.length_drop]
    have := length_tl s
    have h2 : s.data.toList.length = s.size := this
    omega
theorem head_at {d : ByteArray} (h : 0 < d.size) : ((tl d).head?.map (·.toNat) = some 48) ↔ (d[0].toNat = 48) := by
  rw [tl_cons d h]; simp
set_option maxRecDepth 20000 in
set_option maxHeartbeats 8000000 in
theorem rdecimal_any (s : ByteArray) (hs : s.size ≤ 1000000) (w : World) :
    Calls Tryd.prog 38 #[.string s] w fun e w' => e = .returned (.tuple #[.int .i64 (decN s), .bool (decOk (tl s))]) ∧ Below w.heap.size w w' := by
  by_cases h0 : s.size = 0
  · obtain ⟨e1, e2⟩ := str_empty h0
    have hd : decOk (tl s) = false := by rw [tl_empty h0]; rfl
    have HV : Hid (decN s = 0) := Lib.hid (by unfold decN; rw [hd]; rfl)
    rw [hd]
    clear hd
    go_enter Tryd.func38, Tryd.ntmps38
    go_wp2_with fail
    go_ret2
    rw [HV.out]
    exact ⟨rfl, Below.refl _ _⟩
  · obtain ⟨e1, e2⟩ := str_full (s := s) (by omega)
    have hpos : 0 < s.size := by omega
    have HNG := Lib.hid (neg_at hpos)
    go_enter Tryd.func38, Tryd.ntmps38
    go_upto_if 16 with fail
    generalize ((s[0].toNat : Int) == 45) = ng at *
    have HMA := Lib.hid (fun (d : ByteArray) h => mag_at (d := d) hpos HNG.out h)
    go_cut [5] (fun s5 wx => ∃ d : ByteArray, s5 = .string d ∧ d = (if ng then s.extract 1 s.size else s) ∧ wx = w)
    case first =>
      cases ng
      all_goals
        go_wp2_with fail
        go_meet
        exact ⟨_, rfl, by simp, rfl⟩
    case rest =>
      obtain ⟨d, rfl, hd, rfl⟩ := hcut
      have hmag := HMA.out d hd
      have hdl : d.size ≤ 1000000 := by
        have h1 : (tl d).length ≤ (tl s).length := by
          rw [hmag]; unfold magD
          split
          · rw [List.length_tail]; omega
          · exact Nat.le_refl _
        rw [length_tl, length_tl] at h1
        omega
      have HOK := Lib.hid (decOk_iff (l := tl s))
      have HVV : Hid (decN s = if decOk (tl s) then (if ng then -(dval (tl d) : Int) else (dval (tl d) : Int)) else 0) := Lib.hid (by
        unfold decN decV
        rw [HNG.out, ← hmag])
      rw [← hmag, HNG.out] at HOK
      have HMG := Lib.hid hmag
      clear hmag HMA hd e1 e2 HNG
      have hbad : decOk (tl s) = false → decN s = 0 := fun h => by rw [HVV.out, h]; rfl
      have HBAD := Lib.hid hbad
      clear hbad
      by_cases hd0 : d.size = 0
      · obtain ⟨e1, e2⟩ := str_empty hd0
        have HF : Hid (decOk (tl s) = false) := Lib.hid (by
          rw [Bool.eq_false_iff]
          intro h9
          exact (HOK.out.1 h9).1.1 (tl_empty hd0))
        have HN := Lib.hid (HBAD.out HF.out)
        clear hd0
        go_wp2_with fail
        go_ret2
        rw [HF.out, HN.out]
        exact ⟨rfl, Below.refl _ _⟩
      · obtain ⟨e1, e2⟩ := str_full (s := d) (by omega)
        have hdpos : 0 < d.size := by omega
        by_cases h10 : 10 < d.size
        · have hi : (10 : Int) < (d.size : Int) := by omega
          have HF : Hid (decOk (tl s) = false) := Lib.hid (by
            rw [Bool.eq_false_iff]
            intro h9
            have := (HOK.out.1 h9).2.1
            rw [length_tl] at this
            omega)
          have HN := Lib.hid (HBAD.out HF.out)
          clear hd0
          go_wp2_with fail
          go_ret2
          rw [HF.out, HN.out]
          exact ⟨rfl, Below.refl _ _⟩
        · have hi : ¬ (10 : Int) < (d.size : Int) := by omega
          have hz : ∀ b, ((d[0].toNat : Int) == 48) = b → (b = true ↔ (tl d).head?.map (·.toNat) = some 48) := fun b hb => by
            rw [head_at hdpos, ← hb, beq_iff_eq]; omega
          by_cases hbad2 : ((d[0].toNat : Int) == 48) = true ∧ (1 < d.size ∨ ng = true)
          · obtain ⟨hb1, hb2⟩ := hbad2
            have HF : Hid (decOk (tl s) = false) := Lib.hid (by
              rw [Bool.eq_false_iff]
              intro h9
              obtain ⟨g1, g2, g3⟩ := HOK.out.1 h9
              have h48 := (hz _ hb1).1 rfl
              rcases hb2 with hb2 | hb2
              · have := g1.2.2 h48
                rw [length_tl] at this
                omega
              · exact g3 hb2 h48)
            have HN := Lib.hid (HBAD.out HF.out)
            clear hz hd0
            by_cases h1 : 1 < d.size
            · have h1i : (1 : Int) < (d.size : Int) := by omega
              clear hb2
              go_wp2_with fail
              go_ret2
              rw [HF.out, HN.out]
              exact ⟨rfl, Below.refl _ _⟩
            · have h1i : ¬ (1 : Int) < (d.size : Int) := by omega
              have hng : ng = true := by
                rcases hb2 with hb2 | hb2
                · exact absurd hb2 h1
                · exact hb2
              subst hng
              clear hb2
              go_wp2_with fail
              go_ret2
              rw [HF.out, HN.out]
              exact ⟨rfl, Below.refl _ _⟩
          · have HOK2 : Hid (decOk (tl s) = allN dgN (tl d)) := Lib.hid (by
              rw [Bool.eq_iff_iff, HOK.out, digs_iff]
              constructor
              · rintro ⟨g1, _, _⟩; exact g1.2.1
              · intro g
                refine ⟨⟨fun h9 => ?_, g, fun h9 => ?_⟩, by rw [length_tl]; omega, fun h9 h8 => ?_⟩
                · have := length_tl d
                  rw [h9] at this
                  simp at this; omega
                · rw [length_tl]
                  have := (hz _ rfl).2 h9
                  rcases Nat.lt_or_ge 1 d.size with h7 | h7
                  · exact absurd ⟨this, .inl h7⟩ hbad2
                  · omega
                · exact hbad2 ⟨(hz _ rfl).2 h8, .inr h9⟩)
            have hstep : ∃ b : Bool, ((d[0].toNat : Int) == 48) = b ∧ (b = true → ¬ (1 : Int) < (d.size : Int) ∧ ng = false) := ⟨_, rfl, fun h => ⟨fun h9 => hbad2 ⟨h, .inl (by omega)⟩, by
              cases hng : ng with
              | false => rfl
              | true => exact absurd ⟨h, .inr hng⟩ hbad2⟩⟩
            obtain ⟨b48, hb48, hb48'⟩ := hstep
            clear hz hbad2 hd0
            go_upto_region 5 with fail
            go_cut [38] (fun s38 wx => s38 = .bool false ∧ wx = wc)
            case first =>
              cases b48 with
              | true =>
                obtain ⟨h1, h2⟩ := hb48' rfl
                subst h2
                go_wp2_with fail
                go_meet
                exact ⟨rfl, rfl⟩
              | false =>
                clear hb48'
                go_wp2_with fail
                go_meet
                exact ⟨rfl, rfl⟩
            case rest =>
              obtain ⟨rfl, rfl⟩ := hcut
              clear hb48 hb48' b48 e1 e2
              go_upto_region 9 with fail
              go_loopg [6, 7] d.size (fun m s6 s7 wx => ∃ i : Nat, i ≤ d.size ∧ m = d.size - i ∧ s7 = .int .i64 (i : Int) ∧ s6 = .int .i64 (dval ((tl d).take i) : Int) ∧ wx = wc ∧ Hid (allN dgN ((tl d).take i) = true))
              case atStart => exact ⟨0, Nat.zero_le _, rfl, rfl, rfl, rfl, Lib.hid rfl⟩
              case round =>
                obtain ⟨i, hi, rfl, rfl, rfl, rfl, HA⟩ := hrel
                have hlt : dval ((tl d).take i) < 10000000000 := dval_lt (digs_iff.1 HA.out) (by rw [List.length_take, length_tl]; omega)
                by_cases hil : i < d.size
                · have hii : (i : Int) < (d.size : Int) := by omega
                  have HT := Lib.hid (allN_take (p := dgN) hil)
                  have HB := Lib.hid (fun h => allN_bad (p := dgN) hil h)
                  have HC := Lib.hid (rdigit_any d[i].toNat wr)
                  have HD := Lib.hid (dval_take hil)
                  have HDG : Hid (dgN d[i].toNat = decide (48 ≤ d[i].toNat ∧ d[i].toNat ≤ 57)) := Lib.hid rfl
                  cases hp : dgN d[i].toNat with
                  | false =>
                    rw [hp] at HC
                    have HF : Hid (decOk (tl s) = false) := Lib.hid (by rw [HOK2.out, HB.out hp])
                    have HN := Lib.hid (HBAD.out HF.out)
                    clear hp
                    go_wp2_with fail
                    refine HC.out.mono ?_
                    rintro e w1 ⟨rfl, hw⟩
                    subst hw
                    go_wp2_with fail
                    go_ret2
                    rw [HF.out, HN.out]
                    exact ⟨rfl, Below.refl _ _⟩
                  | true =>
                    rw [hp] at HC
                    have hr : 48 ≤ d[i].toNat ∧ d[i].toNat ≤ 57 := of_decide_eq_true (by rw [← HDG.out]; exact hp)
                    have hr1 : (48 : Int) ≤ (d[i].toNat : Int) := by omega
                    have hr2 : (d[i].toNat : Int) ≤ 57 := by omega
                    have HA2 : Hid (allN dgN ((tl d).take (i + 1)) = true) := Lib.hid (by rw [HT.out, HA.out, hp]; rfl)
                    have HS : Hid ((dval ((tl d).take (i + 1)) : Int) = 10 * (dval ((tl d).take i) : Int) + ((d[i].toNat : Int) - 48)) := Lib.hid (by rw [HD.out]; omega)
                    clear hp hr
                    generalize dval ((tl d).take i) = n at *
                    go_wp2_with fail
                    refine HC.out.mono ?_
                    rintro e w1 ⟨rfl, hw⟩
                    subst hw
                    go_wp2_with fail
                    go_roundg (d.size - (i + 1))
                    case measure => omega
                    case rel => exact ⟨i + 1, hil, rfl, by first | rfl | simp, by rw [HS.out], rfl, HA2⟩
                · have hii : ¬ (i : Int) < (d.size : Int) := by omega
                  have HF : Hid (decOk (tl s) = true) := Lib.hid (by rw [HOK2.out, ← allN_full (p := dgN) hil, HA.out])
                  have htk : (tl d).take i = tl d := List.take_of_length_le (by rw [length_tl]; omega)
                  rw [htk] at hlt ⊢
                  have HN : Hid (decN s = if ng then -(dval (tl d) : Int) else (dval (tl d) : Int)) := Lib.hid (by rw [HVV.out, HF.out]; rfl)
                  clear htk
                  generalize dval (tl d) = n at *
                  cases ng with
                  | true =>
                    have HN2 : Hid (decN s = -(n : Int)) := Lib.hid HN.out
                    go_wp2_with fail
                    go_ret2
                    rw [HF.out, HN2.out]
                    exact ⟨by first | rfl | simp, Below.refl _ _⟩
                  | false =>
                    have HN2 : Hid (decN s = (n : Int)) := Lib.hid HN.out
                    go_wp2_with fail
                    go_ret2
                    rw [HF.out, HN2.out]
                    exact ⟨rfl, Below.refl _ _⟩
end Go.Proofs.YtmdjhakamapngaaDoor
