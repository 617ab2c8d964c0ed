/-
  The reader of schema: name, sign, number, word.
-/
import Derived.Test.YtmdjhakamapngaaDoorScR
namespace Go.Proofs.YtmdjhakamapngaaDoor
open Go.RowKit Go.Shelf
set_option linter.unusedVariables false

def panR : Ending := .panicked [{ v := .iface 91 (.agg #[]), recovered := false }]
def outS : Option (List UInt8) → Ending
  | none => panR
  | some l => .returned (Sv l)
def outI : Option Int → Ending
  | none => panR
  | some n => .returned (.int .i64 n)
def outU : Bool → Ending
  | false => panR
  | true => .returned (.tuple #[])
theorem run_split (p : Nat → Bool) (l : List UInt8) : runW p l ++ runD p l = l := List.takeWhile_append_dropWhile
theorem ext_suf {s : ByteArray} {a b : List UInt8} (h : a ++ b <:+ tl s) : s.extract (s.size - (a ++ b).length) (s.size - b.length) = bs a := by
  obtain ⟨t, ht⟩ := h
  apply eq_of_tl
  rw [tl_bs]
  show (s.extract _ _).data.toList = a
  rw [ByteArray.data_extract, Array.toList_extract]
  show ((tl s).drop _).take _ = a
  have hl := congrArg List.length ht
  simp only [List.length_append, length_tl] at hl
  rw [← ht]
  simp only [List.length_append]
  rw [show s.size - (a.length + b.length) = t.length by omega, List.drop_left, show s.size - b.length - t.length = a.length by omega, List.take_left]
abbrev rdB (W : World) (g : Nat) (s : ByteArray) (l : List UInt8) : Prop := Blk W g 89 [.string s, .int .i64 ((s.size - l.length : Nat) : Int)]
theorem rdB.self {W : World} {g : Nat} {s : ByteArray} {l : List UInt8} (h : rdB W g s l) : Hp [g] W [irdS g s l] W := Hp.self (it := [irdS g s l]) ⟨fun x hx => by rw [List.mem_singleton.1 hx]; exact h, by simp [iblk]⟩
theorem Hp.rdB {o : List Nat} {w W : World} {g : Nat} {s : ByteArray} {l : List UInt8} {r : List It} (h : Hp o w (irdS g s l :: r) W) : rdB W g s l := h.blk 0 rfl
/-- one step of the reader -/
theorem Hp.rd {o : List Nat} {w W W' : World} {g : Nat} {s : ByteArray} {l l' : List UInt8} {r : List It} (h : Hp o w (irdS g s l :: r) W) (h' : Hp [g] W [irdS g s l'] W') : Hp o w (irdS g s l' :: r) W' := Hp.call (a := [irdS g s l]) h h'
theorem rd_cells {o : List Nat} {w W : World} {g : Nat} {s : ByteArray} {l : List UInt8} {r : List It} (h : Hp o w (irdS g s l :: r) W) : W.cell? ⟨g, 0, none⟩ = some (.string s) ∧ W.cell? ⟨g, 1, none⟩ = some (.int .i64 ((s.size - l.length : Nat) : Int)) ∧ W.frozen? ⟨g, 1, none⟩ = false := ⟨(h.blk 0 rfl).cell 0, (h.blk 0 rfl).cell 1, (h.blk 0 rfl).frozen 1⟩
set_option maxRecDepth 20000 in
set_option maxHeartbeats 4000000 in
theorem rdname_any (g : Nat) (s : ByteArray) (hs : s.size ≤ 1000000) (l : List UInt8) (hl : l <:+ tl s) (W : World) (hB : rdB W g s l) :
    Calls Tryd.prog 68 #[ptr g] W fun e w' => e = outS (nameR l).1 ∧ Hp [g] W [irdS g s (nameR l).2] w' := by
  have HC := Lib.hid (moreN decLetter g s hs l hl W hB)
  have hsk := (skS_suf l).trans hl
  have hsk2 := (runD_suf nmN (skS l)).trans hsk
  have HV : Hid (nameR l = if hd ltN (skS l) then (some (runW nmN (skS l)), runD nmN (skS l)) else (none, skS l)) := Lib.hid rfl
  have hsp := run_split nmN (skS l)
  generalize skS l = m at *
  cases hh : hd ltN m with
  | false =>
    have HV2 : Hid (nameR l = (none, m)) := Lib.hid (by rw [HV.out, hh]; rfl)
    rw [hh] at HC
    clear hh
    go_enter Tryd.func68, Tryd.ntmps68
    go_wp2_with fail
    refine HC.out.mono ?_
    rintro e w1 ⟨rfl, hH⟩
    go_wp2_with fail
    refine ⟨rfl, ?_⟩
    rw [HV2.out]
    exact ⟨rfl, hH⟩
  | true =>
    have HV2 : Hid (nameR l = (some (runW nmN m), runD nmN m)) := Lib.hid (by rw [HV.out, hh]; rfl)
    rw [hh] at HC
    clear hh
    have HX := Lib.hid (ext_suf (a := runW nmN m) (b := runD nmN m) (by rw [hsp]; exact hsk))
    rw [hsp] at HX
    have HR := Lib.hid (fun W' v h => run_any _ _ decName g s v hs m hsk W' h)
    have hlen := suf_len hsk
    have hlen2 := suf_len hsk2
    have hle := congrArg List.length hsp
    rw [List.length_append] at hle
    generalize runD nmN m = d at *
    generalize runW nmN m = t at *
    clear hsp
    obtain ⟨a, ha⟩ : ∃ a, s.size - m.length = a := ⟨_, rfl⟩
    obtain ⟨b, hb⟩ : ∃ b, s.size - d.length = b := ⟨_, rfl⟩
    have hab : (a : Int) ≤ (b : Int) := by omega
    have hbs : (b : Int) ≤ (s.size : Int) := by omega
    have ha0 : (0 : Int) ≤ (a : Int) := by omega
    have HA := Lib.hid ha
    have HB := Lib.hid hb
    rw [ha, hb] at HX
    rw [ha, hb] at HR
    clear hlen hlen2 hle
    go_enter Tryd.func68, Tryd.ntmps68
    go_wp2_with fail
    refine HC.out.mono ?_
    rintro e w1 ⟨rfl, hH⟩
    obtain ⟨c0, c1, f1⟩ := rd_cells hH
    rw [ha] at c1
    clear ha HC
    go_wp2_with fail
    refine (HR.out w1 _ hH.rdB).mono ?_
    rintro e w2 ⟨rfl, hb2⟩
    have hH2 := hH.next hb2
    clear hH c0 c1 f1 HR
    obtain ⟨c0, c1, f1⟩ := rd_cells hH2
    go_upto_region 5 with fail
    have hH3 := rd_next (l' := d) hH2 (by rw [HB.out])
    clear hH2 c0 c1 f1
    generalize w2.setCell ⟨g, 1, none⟩ (.int .i64 (b : Int)) = w3 at *
    obtain ⟨c0, c1, f1⟩ := rd_cells hH3
    rw [hb] at c1
    clear hb
    go_quiet (fail)
    go_wp2_with fail
    go_ret
    rw [HV2.out]
    refine ⟨?_, hH3.drewN nq⟩
    show _ = Ending.returned (Sv t)
    exact ret_val (congrArg Value.string HX.out)
set_option maxRecDepth 20000 in
set_option maxHeartbeats 4000000 in
theorem sign_any (c : Nat) (g : Nat) (s : ByteArray) (hs : s.size ≤ 1000000) (l : List UInt8) (hl : l <:+ tl s) (W : World) (hB : rdB W g s l) :
    Calls Tryd.prog 69 #[ptr g, .int .u8 (c : Int)] W fun e w' => e = outU (signR c l).1 ∧ Hp [g] W [irdS g s (signR c l).2] w' := by
  have HC := Lib.hid (is_any c g s hs l hl W hB)
  have hsk := (skS_suf l).trans hl
  have HV : Hid (signR c l = if isR c l then (true, (skS l).tail) else (false, skS l)) := Lib.hid rfl
  have hne : isR c l = true → skS l ≠ [] := fun h e => by unfold isR at h; rw [e] at h; cases h
  generalize skS l = m at *
  cases hh : isR c l with
  | false =>
    have HV2 : Hid (signR c l = (false, m)) := Lib.hid (by rw [HV.out, hh]; rfl)
    rw [hh] at HC
    clear hh hne
    go_enter Tryd.func69, Tryd.ntmps69
    go_wp2_with fail
    refine HC.out.mono ?_
    rintro e w1 ⟨rfl, hH⟩
    go_wp2_with fail
    refine ⟨rfl, ?_⟩
    rw [HV2.out]
    exact ⟨rfl, hH⟩
  | true =>
    have HV2 : Hid (signR c l = (true, m.tail)) := Lib.hid (by rw [HV.out, hh]; rfl)
    have h9 := hne hh
    rw [hh] at HC
    clear hh hne
    cases m with
    | nil => exact absurd rfl h9
    | cons x r =>
      obtain ⟨k, hk, hk1, hk2, hk3, hk4⟩ := suf_cons hsk
      clear h9
      go_enter Tryd.func69, Tryd.ntmps69
      go_wp2_with fail
      refine HC.out.mono ?_
      rintro e w1 ⟨rfl, hH⟩
      obtain ⟨c0, c1, f1⟩ := rd_cells hH
      rw [hk1] at c1
      have hH3 := rd_next (l' := r) (n := (k : Int) + 1) hH (by omega)
      clear hk1 hk2 hk3 HC
      go_wp2_with fail
      refine ⟨rfl, .tuple #[], by simp [results, Tryd.results69, go_sem], ?_, ?_⟩
      · rw [HV2.out]; rfl
      · rw [HV2.out]; exact hH3
/-- the library's variables stay, whatever is done behind block g -/
def GlobG (g : Nat) (W : World) : Prop := ∀ W' : World, Below g W W' → Glob W'
theorem GlobG.up {g : Nat} {W W' : World} (h : GlobG g W) (hb : Below g W W') : GlobG g W' := fun V hV => h V (hb.trans hV)
theorem GlobG.now {g : Nat} {W : World} (h : GlobG g W) : Glob W := h W (Below.refl _ _)
theorem Hp.glob {g : Nat} {W W' : World} {it : List It} (h : GlobG g W) (hg : g < W.heap.size) (h' : Hp [g] W it W') : GlobG g W' := h.up (h'.below (by omega) (fun b hb => by rw [List.mem_singleton.1 hb]; exact Nat.le_refl _))
--NUM
theorem app_drop {t m : List UInt8} (h : ∃ r, t ++ r = m) : t ++ m.drop t.length = m := by
  obtain ⟨r, rfl⟩ := h
  rw [List.drop_left]
theorem numT_pre (m : List UInt8) : numT m ++ m.drop (numT m).length = m := by
  apply app_drop
  unfold numT
  split
  · rename_i h
    cases m with
    | nil => cases h
    | cons c r =>
      have : c = 45 := by
        simp only [hd, eqN, decide_eq_true_eq] at h
        rw [← UInt8.toNat_inj]; exact h
      subst this
      exact ⟨runD dgN r, by show (45 :: (runW dgN r ++ runD dgN r)) = _; rw [run_split]⟩
  · exact ⟨runD dgN m, run_split _ _⟩
theorem numT_rest (m : List UInt8) : m.drop (numT m).length = if hd (eqN 45) m then runD dgN m.tail else runD dgN m := by
  have key : numT m ++ m.drop (numT m).length = numT m ++ if hd (eqN 45) m then runD dgN m.tail else runD dgN m := by
   rw [numT_pre]
   unfold numT
   split
   · rename_i h
     cases m with
     | nil => cases h
     | cons c r =>
       have : c = 45 := by
         simp only [hd, eqN, decide_eq_true_eq] at h
         rw [← UInt8.toNat_inj]; exact h
       subst this
       show _ = 45 :: (runW dgN r ++ runD dgN r)
       rw [run_split]
   · rw [run_split]
  exact List.append_cancel_left key
theorem drop_suf {l : List UInt8} (n : Nat) : l.drop n <:+ l := List.drop_suffix _ _
set_option maxRecDepth 20000 in
set_option maxHeartbeats 8000000 in
theorem rdnumber_any (g : Nat) (s : ByteArray) (hs : s.size ≤ 1000000) (l : List UInt8) (hl : l <:+ tl s) (W : World) (hB : rdB W g s l) (hG : GlobG g W) :
    Calls Tryd.prog 86 #[ptr g] W fun e w' => e = outI (numR l).1 ∧ Hp [g] W [irdS g s (numR l).2] w' := by
  have hH0 := hB.self
  have hgl := hB.lt
  have HC := Lib.hid (fun W' h => is_any 45 g s hs l hl W' h)
  have hsk := (skS_suf l).trans hl
  have HV : Hid (numR l = if decOk (numT (skS l)) then (some (decV (numT (skS l))), (skS l).drop (numT (skS l)).length) else (none, skS l)) := Lib.hid rfl
  have hii : isR 45 l = hd (eqN 45) (skS l) := rfl
  generalize skS l = m at *
  have hpre := numT_pre m
  have hrest := numT_rest m
  have hds := (drop_suf (l := m) (numT m).length).trans hsk
  generalize m.drop (numT m).length = d at *
  have hx := ext_suf (a := numT m) (b := d) (by rw [hpre]; exact hsk)
  rw [hpre] at hx
  have hts : (bs (numT m)).size ≤ 1000000 := by
    have := suf_len hsk
    have h2 := congrArg List.length hpre
    rw [List.length_append] at h2
    rw [size_bs]; omega
  have HD := Lib.hid (fun W' h => decimal_any (bs (numT m)) hts W' h)
  have HDV : Hid (decN (bs (numT m)) = if decOk (numT m) then decV (numT m) else 0) := Lib.hid (by unfold decN; rw [tl_bs])
  have hlen := suf_len hsk
  have hlen2 := suf_len hds
  have hle := congrArg List.length hpre
  rw [List.length_append] at hle
  clear hl hB hts
  rw [tl_bs] at HD
  generalize numT m = t at *
  have HPre := Lib.hid hpre
  clear hpre
  generalize decN (bs t) = dn at *
  generalize decOk t = ok at *
  obtain ⟨b, hb⟩ : ∃ b, s.size - d.length = b := ⟨_, rfl⟩
  obtain ⟨a, ha⟩ : ∃ a, s.size - m.length = a := ⟨_, rfl⟩
  have HB := Lib.hid hb
  have HA := Lib.hid ha
  rw [ha, hb] at hx
  have hab : (a : Int) ≤ (b : Int) := by omega
  have hbs : (b : Int) ≤ (s.size : Int) := by omega
  have ha0 : (0 : Int) ≤ (a : Int) := by omega
  have HX := Lib.hid hx
  clear hlen hlen2 hle hx
  rw [hii] at HC
  cases hh : hd (eqN 45) m with
  | true =>
    rw [hh] at HC
    rw [hh] at hrest
    cases m with
    | nil => cases hh
    | cons x q =>
      obtain ⟨k, hk, hk1, hk2, hk3, hk4⟩ := suf_cons hsk
      have hka : k = a := by omega
      subst hka
      have HR := Lib.hid (fun W' v h => run_any _ _ decDigit g s v hs q hk4 W' h)
      have hrd : runD dgN q = d := hrest.symm
      rw [hrd, hk3, hb] at HR
      clear hh hrest hk1 hk2 hk3 hrd
      obtain ⟨c0, c1, f1⟩ := rd_cells hH0
      go_enter Tryd.func86, Tryd.ntmps86
      go_wp2_with fail
      refine (HC.out W hH0.rdB).mono ?_
      rintro e w1 ⟨rfl, hH⟩
      clear HC c0 c1 f1
      have hG1 := Hp.glob hG hgl hH
      have hgl1 : g < w1.heap.size := hH.rdB.lt
      obtain ⟨c0, c1, f1⟩ := rd_cells hH
      rw [ha] at c1
      go_wp2_with fail
      refine (HR.out w1 _ hH.rdB).mono ?_
      rintro e w2 ⟨rfl, hb2⟩
      have hH2 := hH.next hb2
      have hG2 := hG1.up (hb2.mono (by omega))
      clear hH c0 c1 f1 HR hG1 hb2 hgl1 hH0
      obtain ⟨c0, c1, f1⟩ := rd_cells hH2
      rw [ha] at c1
      clear ha hb
      have hgx : ∀ W' : World, Hp [g] W [irdS g s (x :: q)] W' → Glob W' := fun W' h => (Hp.glob hG hgl h).now
      have HGX := Lib.hid hgx
      clear hgx
      go_upto_region 6 with fail
      have hSd := hH2.drew
      clear hH2 c0 c1 f1 hG2
      first | go_region_held3 (fun w' => w'.cell? ⟨g, 0, none⟩ = some (.string s) ∧ w'.cell? ⟨g, 1, none⟩ = some (.int .i64 (k : Int))) (first | (have hcl := rd_cells (o := [g]) (w := W) (by assumption); rw [HA.out] at hcl; exact ⟨hcl.1, hcl.2.1⟩))
        (first | (go_at_call 37; rw [HX.out]; refine (HD.out _ (HGX.out _ (by assumption))).mono ?_; rintro e w5 ⟨rfl, hb5⟩; have hS5 := Hp.next (o := [g]) (w := W) (by assumption) hb5)) | fail
      all_goals
        have hZ := hS5
        cases ok with
        | false =>
          have HV2 : Hid (numR l = (none, (x :: q))) := Lib.hid HV.out
          go_wp2_with fail
          refine ⟨rfl, ?_⟩
          rw [HV2.out]
          exact ⟨rfl, hZ⟩
        | true =>
          have HV2 : Hid (numR l = (some dn, d)) := Lib.hid (by rw [HV.out, HDV.out]; rfl)
          have f1 := (rd_cells hZ).2.2
          go_wp2_with fail
          go_ret
          rw [HV2.out]
          exact ⟨rfl, rd_next hZ (by rw [HB.out])⟩
  | false =>
    rw [hh] at HC
    rw [hh] at hrest
    have HR := Lib.hid (fun W' v h => run_any _ _ decDigit g s v hs m hsk W' h)
    have hrd : runD dgN m = d := hrest.symm
    rw [hrd, hb, ha] at HR
    clear hh hrest hrd
    obtain ⟨c0, c1, f1⟩ := rd_cells hH0
    go_enter Tryd.func86, Tryd.ntmps86
    go_wp2_with fail
    refine (HC.out W hH0.rdB).mono ?_
    rintro e w1 ⟨rfl, hH⟩
    clear HC c0 c1 f1
    have hG1 := Hp.glob hG hgl hH
    have hgl1 : g < w1.heap.size := hH.rdB.lt
    obtain ⟨c0, c1, f1⟩ := rd_cells hH
    rw [ha] at c1
    go_wp2_with fail
    refine (HR.out w1 _ hH.rdB).mono ?_
    rintro e w2 ⟨rfl, hb2⟩
    have hH2 := hH.next hb2
    have hG2 := hG1.up (hb2.mono (by omega))
    clear hH c0 c1 f1 HR hG1 hb2 hgl1 hH0
    obtain ⟨c0, c1, f1⟩ := rd_cells hH2
    rw [ha] at c1
    clear ha hb
    have hgx : ∀ W' : World, Hp [g] W [irdS g s m] W' → Glob W' := fun W' h => (Hp.glob hG hgl h).now
    have HGX := Lib.hid hgx
    clear hgx
    go_upto_region 6 with fail
    have hSd := hH2.drew
    clear hH2 c0 c1 f1 hG2
    first | go_region_held3 (fun w' => w'.cell? ⟨g, 0, none⟩ = some (.string s) ∧ w'.cell? ⟨g, 1, none⟩ = some (.int .i64 (a : Int))) (first | (have hcl := rd_cells (o := [g]) (w := W) (by assumption); rw [HA.out] at hcl; exact ⟨hcl.1, hcl.2.1⟩))
      (first | (go_at_call 37; rw [HX.out]; refine (HD.out _ (HGX.out _ (by assumption))).mono ?_; rintro e w5 ⟨rfl, hb5⟩; have hS5 := Hp.next (o := [g]) (w := W) (by assumption) hb5)) | fail
    all_goals
      have hZ := hS5
      cases ok with
      | false =>
        have HV2 : Hid (numR l = (none, m)) := Lib.hid HV.out
        go_wp2_with fail
        refine ⟨rfl, ?_⟩
        rw [HV2.out]
        exact ⟨rfl, hZ⟩
      | true =>
        have HV2 : Hid (numR l = (some dn, d)) := Lib.hid (by rw [HV.out, HDV.out]; rfl)
        have f1 := (rd_cells hZ).2.2
        go_wp2_with fail
        go_ret
        rw [HV2.out]
        exact ⟨rfl, rd_next hZ (by rw [HB.out])⟩
end Go.Proofs.YtmdjhakamapngaaDoor
