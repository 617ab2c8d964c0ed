/-
  The reader of schema: word.
-/
import Derived.Test.YtmdjhakamapngaaDoorScS
namespace Go.Proofs.YtmdjhakamapngaaDoor
open Go.RowKit Go.Shelf
set_option linter.unusedVariables false

set_option maxRecDepth 20000 in
set_option maxHeartbeats 8000000 in
theorem rdword_any (g : Nat) (s : ByteArray) (hs : s.size ≤ 1000000) (l : List UInt8) (hl : l <:+ tl s) (W : World) (hB : rdB W g s l) :
    Calls Tryd.prog 85 #[ptr g] W fun e w' => e = outS (wordR l).1 ∧ Hp [g] W [irdS g s (wordR l).2] w' := by
  have HC := Lib.hid (is_any 39 g s hs l hl W hB)
  have hsk := (skS_suf l).trans hl
  have HV : Hid (wordR l = if isR 39 l then (if hd (eqN 39) (runD wdN (skS l).tail) then (some (runW wdN (skS l).tail), (runD wdN (skS l).tail).tail) else (none, skS l)) else (none, skS l)) := Lib.hid rfl
  have hne : isR 39 l = true → skS l ≠ [] := fun h e => by unfold isR at h; rw [e] at h; cases h
  generalize skS l = m at *
  cases hh : isR 39 l with
  | false =>
    have HV2 : Hid (wordR l = (none, m)) := Lib.hid (by rw [HV.out, hh]; rfl)
    rw [hh] at HC
    clear hh hne
    go_enter Tryd.func85, Tryd.ntmps85
    go_wp2_with fail
    refine HC.out.mono ?_
    rintro e w1 ⟨rfl, hH⟩
    go_wp2_with fail
    refine ⟨rfl, ?_⟩
    rw [HV2.out]
    exact ⟨rfl, hH⟩
  | true =>
    have h9 := hne hh
    rw [hh] at HC HV
    clear hh hne
    cases m with
    | nil => exact absurd rfl h9
    | cons x q =>
      obtain ⟨k, hk, hk1, hk2, hk3, hk4⟩ := suf_cons hsk
      clear h9
      have HR := Lib.hid (fun W' v h => run_any _ _ decWord g s v hs q hk4 W' h)
      have hsp := run_split wdN q
      have hds := (runD_suf wdN q).trans hk4
      have HVQ : Hid (wordR l = if hd (eqN 39) (runD wdN q) then (some (runW wdN q), (runD wdN q).tail) else (none, x :: q)) := Lib.hid (by rw [HV.out]; rfl)
      have hx := ext_suf (a := runW wdN q) (b := runD wdN q) (by rw [hsp]; exact hk4)
      rw [hsp, hk3] at hx
      have hle := congrArg List.length hsp
      rw [List.length_append] at hle
      rw [hk3] at HR
      have hqs := suf_len hk4
      generalize runD wdN q = d at *
      generalize runW wdN q = t at *
      clear hsp HV
      have hdl := suf_len hds
      obtain ⟨b, hb⟩ : ∃ b, s.size - d.length = b := ⟨_, rfl⟩
      rw [hb] at HR hx
      have HX := Lib.hid hx
      clear hx
      have hkb : (k : Int) + 1 ≤ (b : Int) := by omega
      have hbs : (b : Int) ≤ (s.size : Int) := by omega
      have hk0 : (0 : Int) ≤ (k : Int) + 1 := by omega
      have HK1 := Lib.hid hk1
      clear hle hqs hk2 hk3
      cases d with
      | nil =>
        have HV2 : Hid (wordR l = (none, x :: q)) := Lib.hid (by rw [HVQ.out]; rfl)
        have hbe : b = s.size := by rw [← hb]; simp
        subst hbe
        have hee : ((s.size : Int) == (s.size : Int)) = true := by simp
        go_enter Tryd.func85, Tryd.ntmps85
        go_wp2_with fail
        refine HC.out.mono ?_
        rintro e w1 ⟨rfl, hH⟩
        obtain ⟨c0, c1, f1⟩ := rd_cells hH
        rw [hk1] at c1
        clear hk1
        go_wp2_with fail
        refine (HR.out w1 _ hH.rdB).mono ?_
        rintro e w2 ⟨rfl, hb2⟩
        have hH2 := hH.next hb2
        clear hH c0 c1 f1 HR hb2
        obtain ⟨c0, c1, f1⟩ := rd_cells hH2
        go_wp2_with fail
        refine ⟨rfl, ?_⟩
        rw [HV2.out]
        exact ⟨rfl, hH2⟩
      | cons y z =>
        obtain ⟨j, hj, hj1, hj2, hj3, hj4⟩ := suf_cons hds
        have hjb : j = b := by rw [← hj1, hb]
        subst hjb
        have hee : ((j : Int) == (s.size : Int)) = false := by rw [beq_eq_false_iff_ne]; omega
        have hji : (j : Int) < (s.size : Int) := by omega
        have hj0 : (0 : Int) ≤ (j : Int) := by omega
        by_cases hy : y.toNat = 39
        · have HV2 : Hid (wordR l = (some t, z)) := Lib.hid (by rw [HVQ.out, if_pos (by simp [hd, eqN, hy])]; rfl)
          have hne : ((s[j].toNat : Int) != 39) = false := by rw [hj2]; simp; omega
          have hne2 : ((s[j].toNat : Int) == 39) = true := by rw [hj2]; simp; omega
          have HJ3 : Hid ((j : Int) + 1 = ((s.size - z.length : Nat) : Int)) := Lib.hid (by omega)
          clear hj1 hj2 hj3 hb hy
          go_enter Tryd.func85, Tryd.ntmps85
          go_wp2_with fail
          refine HC.out.mono ?_
          rintro e w1 ⟨rfl, hH⟩
          obtain ⟨c0, c1, f1⟩ := rd_cells hH
          rw [hk1] at c1
          go_wp2_with fail
          refine (HR.out w1 _ hH.rdB).mono ?_
          rintro e w2 ⟨rfl, hb2⟩
          have hH2 := hH.next hb2
          clear hH c0 c1 f1 HR hb2
          obtain ⟨c0, c1, f1⟩ := rd_cells hH2
          rw [hk1] at c1
          clear hk1
          go_upto_region 6 with fail
          go_quiet (fail)
          have hH3 := hH2.drewN nq
          clear hH2 c0 c1 f1
          generalize w2.drewN nq = w3 at *
          obtain ⟨c0, c1, f1⟩ := rd_cells hH3
          go_wp2_with fail
          go_ret
          rw [HV2.out]
          refine ⟨?_, rd_next hH3 HJ3.out⟩
          show _ = Ending.returned (Sv t)
          exact ret_val (congrArg Value.string HX.out)
        · have HV2 : Hid (wordR l = (none, x :: q)) := Lib.hid (by rw [HVQ.out, if_neg (by simp [hd, eqN, hy])])
          have hne : ((s[j].toNat : Int) != 39) = true := by rw [hj2]; simp; omega
          have hne2 : ((s[j].toNat : Int) == 39) = false := by rw [hj2]; simp; omega
          clear hj1 hj2 hj3 hb hy
          go_enter Tryd.func85, Tryd.ntmps85
          go_wp2_with fail
          refine HC.out.mono ?_
          rintro e w1 ⟨rfl, hH⟩
          obtain ⟨c0, c1, f1⟩ := rd_cells hH
          rw [hk1] at c1
          clear hk1
          go_wp2_with fail
          refine (HR.out w1 _ hH.rdB).mono ?_
          rintro e w2 ⟨rfl, hb2⟩
          have hH2 := hH.next hb2
          clear hH c0 c1 f1 HR hb2
          obtain ⟨c0, c1, f1⟩ := rd_cells hH2
          go_wp2_with fail
          refine ⟨rfl, ?_⟩
          rw [HV2.out]
          exact ⟨rfl, hH2⟩
end Go.Proofs.YtmdjhakamapngaaDoor
