/-
  Schemas as data and in memory; the words of a field.
-/
import Derived.Test.YtmdjhakamapngaaDoorScB
namespace Go.Proofs.YtmdjhakamapngaaDoor
open Go.RowKit Go.Shelf
set_option linter.unusedVariables false

theorem scell_lt {W : World} {a : Addr} {v : Value} (h : W.cell? a = some v) : a.block < W.heap.size := World.block_lt_of_cell? _ _ h
theorem sadd_block (a : Addr) (n : Nat) : (a.add n).block = a.block := by unfold Addr.add; split <;> rfl
theorem scell_up {W W' : World} {a : Addr} {v : Value} (h : W.cell? a = some v) (hb : Below W.heap.size W W') : W'.cell? a = some v := (hb.cell (scell_lt h)).trans h
/-- strings lie in memory, one behind the other -/
structure Strs (W : World) (A : Option Addr) (l : List ByteArray) : Prop where
  at_ : ∀ i s, l[i]? = some s → ∃ ad, A = some ad ∧ W.cell? (ad.add i) = some (.string s)
theorem Strs.up {W W' : World} {A : Option Addr} {l : List ByteArray} (h : Strs W A l) (hb : Below W.heap.size W W') : Strs W' A l := ⟨fun i s hs => by
  obtain ⟨ad, h1, h2⟩ := h.at_ i s hs
  exact ⟨ad, h1, scell_up h2 hb⟩⟩
structure Fd where
  name : ByteArray
  kind : Int
  min : Int
  max : Int
  words : List ByteArray
/-- a field lies at an address -/
structure FieldAt (W : World) (ad : Addr) (f : Fd) (WA : Option Addr) (c : Nat) : Prop where
  name : W.cell? ad = some (.string f.name)
  kind : W.cell? ⟨ad.block, ad.off + 1, none⟩ = some (.int .i64 f.kind)
  min : W.cell? ⟨ad.block, ad.off + 2, none⟩ = some (.int .i64 f.min)
  max : W.cell? ⟨ad.block, ad.off + 3, none⟩ = some (.int .i64 f.max)
  words : W.cell? ⟨ad.block, ad.off + 4, none⟩ = some (.slice WA f.words.length c)
  strs : Strs W WA f.words
theorem FieldAt.up {W W' : World} {ad : Addr} {f : Fd} {WA : Option Addr} {c : Nat} (h : FieldAt W ad f WA c) (hb : Below W.heap.size W W') : FieldAt W' ad f WA c :=
  ⟨scell_up h.name hb, scell_up h.kind hb, scell_up h.min hb, scell_up h.max hb, scell_up h.words hb, h.strs.up hb⟩
/-- fields lie in memory, one behind the other -/
structure Flds (W : World) (A : Option Addr) (L : List Fd) : Prop where
  at_ : ∀ i f, L[i]? = some f → ∃ ad WA c, A = some ad ∧ FieldAt W (ad.add (i * 5)) f WA c
theorem Flds.up {W W' : World} {A : Option Addr} {L : List Fd} (h : Flds W A L) (hb : Below W.heap.size W W') : Flds W' A L := ⟨fun i f hf => by
  obtain ⟨ad, WA, c, h1, h2⟩ := h.at_ i f hf
  exact ⟨ad, WA, c, h1, h2.up hb⟩⟩
/-- a field's cells -/
abbrev fcs (f : Fd) (WA : Option Addr) (c : Nat) : List Value := [.string f.name, .int .i64 f.kind, .int .i64 f.min, .int .i64 f.max, .slice WA f.words.length c]
theorem Blk.get5 {W : World} {g : Nat} {t : TypeId} {a b c d e : Value} (h : Blk W g t [a, b, c, d, e]) : W.cell? ⟨g, 0, none⟩ = some a ∧ W.cell? ⟨g, 1, none⟩ = some b ∧ W.cell? ⟨g, 2, none⟩ = some c ∧ W.cell? ⟨g, 3, none⟩ = some d ∧ W.cell? ⟨g, 4, none⟩ = some e :=
  ⟨h.cell 0, h.cell 1, h.cell 2, h.cell 3, h.cell 4⟩
def wordsE : List ByteArray → List ByteArray → Int
  | _, [] => 0
  | S, w :: r => if wordP w = false then 1 else if memS w S then 8 else wordsE (S ++ [w]) r
def wordsP (l : List ByteArray) : Int := if l.length < 1 ∨ 64 < l.length then 6 else wordsE [] l
theorem drop_at {α : Type} {l : List α} {i : Nat} {x : α} (h : l[i]? = some x) : l.drop i = x :: l.drop (i + 1) := by
  obtain ⟨hi, rfl⟩ := List.getElem?_eq_some_iff.1 h
  exact List.drop_eq_getElem_cons hi
theorem take_at {α : Type} {l : List α} {i : Nat} {x : α} (h : l[i]? = some x) : l.take (i + 1) = l.take i ++ [x] := by
  rw [List.take_add_one, h]; rfl
set_option maxRecDepth 20000 in
set_option maxHeartbeats 8000000 in
theorem checkWords_any (A : Option Addr) (c : Nat) (l : List ByteArray) (hl : l.length ≤ 1000000) (hs : ∀ s ∈ l, s.size ≤ 1000000) (w : World) (hS : Strs w A l) :
    Calls Tryd.prog 54 #[.slice A l.length c] w fun e w' => e = .returned (.int .i64 (wordsP l)) ∧ Below w.heap.size w w' := by
  by_cases h6 : l.length < 1 ∨ 64 < l.length
  · have HV : Hid (wordsP l = 6) := Lib.hid (by rw [wordsP, if_pos h6])
    by_cases h1 : l.length < 1
    · have hi : (l.length : Int) < 1 := by omega
      clear h6
      go_enter Tryd.func54, Tryd.ntmps54
      go_wp2_with fail
      go_ret
      rw [HV.out]
      exact ⟨rfl, Below.refl _ _⟩
    · have hi : ¬ (l.length : Int) < 1 := by omega
      have hi2 : (64 : Int) < (l.length : Int) := by omega
      clear h6
      go_enter Tryd.func54, Tryd.ntmps54
      go_wp2_with fail
      go_ret
      rw [HV.out]
      exact ⟨rfl, Below.refl _ _⟩
  · have hi : ¬ (l.length : Int) < 1 := by omega
    have hi2 : ¬ (64 : Int) < (l.length : Int) := by omega
    have hl64 : l.length ≤ 64 := by omega
    have HV : Hid (wordsP l = wordsE [] l) := Lib.hid (by rw [wordsP, if_neg h6])
    clear h6
    have hmm := @run_makeMap Tryd.prog
    go_enter Tryd.func54, Tryd.ntmps54
    go_upto_region 4 with fail
    have hS0 := (Hp.start w).mapNew
    clear hmm
    generalize w.alloc (.map #[] 0) = W at *
    obtain ⟨gm, hgm⟩ : ∃ g, w.heap.size = g := ⟨_, rfl⟩
    rw [hgm] at hS0
    try simp only [hgm]
    go_upto_region 5 with fail
    go_loopg [17] l.length (fun m s17 wx => ∃ i : Nat, i ≤ l.length ∧ m = l.length - i ∧ s17 = .int .i64 (i : Int) ∧ Hp [] w [imap gm (l.take i)] wx ∧ Hid (wordsE [] l = wordsE (l.take i) (l.drop i)))
    case atStart => exact ⟨0, Nat.zero_le _, rfl, rfl, hS0, Lib.hid rfl⟩
    case round =>
      obtain ⟨i, hi, rfl, rfl, hM, HE⟩ := hrel
      clear hS0
      by_cases hil : i < l.length
      · have hii : (i : Int) < (l.length : Int) := by omega
        have hi0 : (0 : Int) ≤ (i : Int) := by omega
        obtain ⟨s, hsi⟩ : ∃ s, l[i]? = some s := ⟨_, List.getElem?_eq_getElem hil⟩
        have hss := hs s (List.mem_of_getElem? hsi)
        obtain ⟨ad, rfl, ca⟩ := (hS.up hM.below0).at_ i s hsi
        have HT := Lib.hid (take_at hsi)
        have HE2 : Hid (wordsE [] l = if wordP s = false then 1 else if memS s (l.take i) then 8 else wordsE (l.take (i + 1)) (l.drop (i + 1))) := Lib.hid (by
          rw [HE.out, drop_at hsi, wordsE, HT.out])
        have HW := Lib.hid (word_any s hss wr)
        have hlk := imap_look (hM.sep.ok _ (List.mem_singleton.2 rfl)) s hss
        have htl : (l.take i).length ≤ 64 := by rw [List.length_take]; omega
        have HTL : Hid (i < maxLen) := Lib.hid (by unfold maxLen; omega)
        clear hsi HE
        generalize wordP s = q at *
        generalize memS s (l.take i) = r at *
        cases q with
        | false =>
          go_wp2_with fail
          refine HW.out.mono ?_
          rintro e w1 ⟨rfl, hw⟩
          subst hw
          go_wp2_with fail
          go_ret
          rw [HV.out, HE2.out]
          exact ⟨rfl, by first | exact hM.below0 | (subst hgm; exact hM.below0)⟩
        | true =>
          cases r with
          | true =>
            go_wp2_with fail
            refine HW.out.mono ?_
            rintro e w1 ⟨rfl, hw⟩
            subst hw
            go_wp2_with fail
            go_ret
            rw [HV.out, HE2.out]
            exact ⟨rfl, by first | exact hM.below0 | (subst hgm; exact hM.below0)⟩
          | false =>
            go_wp2_with fail
            refine HW.out.mono ?_
            rintro e w1 ⟨rfl, hw⟩
            subst hw
            have hown : w1.ownsMap Tryd.prog 9 (plainElem (H := Unit) Tryd.prog 4) gm (l.take i).length (setD (l.take i)) := hM.sep.ok _ (List.mem_singleton.2 rfl)
            go_wp2_with (first | (at_mapUpdate; refine wpList_mapUpdate_own _ rfl _ _ _ 72 rfl 9 4 lawS Tryd.underlying72 (plainElem (H := Unit) Tryd.prog 4) gm (l.take i).length (setD (l.take i)) rfl hown (by unfold maxLen; omega) _ _ _ rfl rfl (keyS s hss) _ [] (plainElem_bool Tryd.underlying4 true) ?_; intro w2 hown2 hgrow2))
            have hM2 : Hp [] w [imap gm (l.take (i + 1))] w2 := by rw [HT.out]; exact hM.mapPut 0 rfl hown2 hgrow2
            have HE3 : Hid (wordsE [] l = wordsE (l.take (i + 1)) (l.drop (i + 1))) := Lib.hid (by rw [HE2.out]; rfl)
            clear hown hown2 hgrow2 hM HE2
            go_roundg (l.length - (i + 1))
            case measure => omega
            case rel => exact ⟨i + 1, hil, rfl, by first | rfl | simp, hM2, HE3⟩
      · have hii : ¬ (i : Int) < (l.length : Int) := by omega
        have HR : Hid (wordsP l = 0) := Lib.hid (by rw [HV.out, HE.out, List.drop_of_length_le (by omega), wordsE])
        go_wp2_with fail
        go_ret
        rw [HR.out]
        exact ⟨rfl, by first | exact hM.below0 | (subst hgm; exact hM.below0)⟩
theorem below_drewN' {B : Nat} {A C : World} (h : Below B A C) (n : Nat) : Below B A (C.drewN n) := h.trans ⟨rfl, rfl, rfl, Nat.le_refl _, fun _ _ => rfl⟩
theorem memS_take {l : List ByteArray} {i : Nat} {s : ByteArray} : memS s (l.take i) = true ↔ ∃ k, k < i ∧ l[k]? = some s := by
  rw [memS_iff, List.mem_iff_getElem?]
  constructor
  · rintro ⟨k, hk⟩
    rw [List.getElem?_take] at hk
    split at hk
    · rename_i h; exact ⟨k, h, hk⟩
    · cases hk
  · rintro ⟨k, h, hk⟩
    exact ⟨k, by rw [List.getElem?_take, if_pos h]; exact hk⟩
theorem strs_eq {s t : ByteArray} : (s.toList == t.toList) = decide (s = t) := by
  rw [Bool.eq_iff_iff, beq_iff_eq, decide_eq_true_iff, toList_tl, toList_tl]
  exact ⟨eq_of_tl, fun h => by rw [h]⟩
set_option maxRecDepth 20000 in
set_option maxHeartbeats 8000000 in
theorem rwords_any (A : Option Addr) (c : Nat) (l : List ByteArray) (hl : l.length ≤ 1000000) (hs : ∀ s ∈ l, s.size ≤ 1000000) (w : World) (hS : Strs w A l) :
    Calls Tryd.prog 34 #[.slice A l.length c] w fun e w' => e = .returned (.int .i64 (wordsP l)) ∧ Below w.heap.size w w' := by
  by_cases h6 : l.length < 1 ∨ 64 < l.length
  · have HV : Hid (wordsP l = 6) := Lib.hid (by rw [wordsP, if_pos h6])
    by_cases h1 : l.length < 1
    · have hi : (l.length : Int) < 1 := by omega
      clear h6
      go_enter Tryd.func34, Tryd.ntmps34
      go_wp2_with fail
      go_ret
      rw [HV.out]
      exact ⟨rfl, Below.refl _ _⟩
    · have hi : ¬ (l.length : Int) < 1 := by omega
      have hi2 : (64 : Int) < (l.length : Int) := by omega
      clear h6
      go_enter Tryd.func34, Tryd.ntmps34
      go_wp2_with fail
      go_ret
      rw [HV.out]
      exact ⟨rfl, Below.refl _ _⟩
  · have hi : ¬ (l.length : Int) < 1 := by omega
    have hi2 : ¬ (64 : Int) < (l.length : Int) := by omega
    have hl64 : l.length ≤ 64 := by omega
    have HV : Hid (wordsP l = wordsE [] l) := Lib.hid (by rw [wordsP, if_neg h6])
    clear h6
    go_enter Tryd.func34, Tryd.ntmps34
    go_upto_region 4 with fail
    go_loopg [3] l.length (fun m s3 wx => ∃ i : Nat, i ≤ l.length ∧ m = l.length - i ∧ s3 = .int .i64 (i : Int) ∧ Below w.heap.size w wx ∧ Hid (wordsE [] l = wordsE (l.take i) (l.drop i)))
    case atStart => exact ⟨0, Nat.zero_le _, rfl, rfl, Below.refl _ _, Lib.hid rfl⟩
    case round =>
      obtain ⟨i, hi, rfl, rfl, hb, HE⟩ := hrel
      by_cases hil : i < l.length
      · have hii : (i : Int) < (l.length : Int) := by omega
        have hi0 : (0 : Int) ≤ (i : Int) := by omega
        obtain ⟨s, hsi⟩ : ∃ s, l[i]? = some s := ⟨_, List.getElem?_eq_getElem hil⟩
        have hss := hs s (List.mem_of_getElem? hsi)
        obtain ⟨ad, rfl, ca⟩ := (hS.up hb).at_ i s hsi
        have HT := Lib.hid (take_at hsi)
        have HE2 : Hid (wordsE [] l = if wordP s = false then 1 else if memS s (l.take i) then 8 else wordsE (l.take (i + 1)) (l.drop (i + 1))) := Lib.hid (by
          rw [HE.out, drop_at hsi, wordsE, HT.out])
        have HW := Lib.hid (rword_any s hss wr)
        have HSI := Lib.hid hsi
        clear hsi HE
        generalize wordP s = q at *
        go_wp2_with fail
        refine HW.out.mono ?_
        rintro e w1 ⟨rfl, hw⟩
        subst hw
        clear HW
        cases q with
        | false =>
          go_wp2_with fail
          go_ret
          rw [HV.out, HE2.out]
          exact ⟨rfl, hb⟩
        | true =>
          go_upto_region 9 with fail
          go_loopg [4] i (fun m s4 wx => ∃ k : Nat, k ≤ i ∧ m = i - k ∧ s4 = .int .i64 (k : Int) ∧ Below w.heap.size w wx ∧ Hid (∀ j, j < k → l[j]? ≠ some s))
          case atStart => exact ⟨0, Nat.zero_le _, rfl, rfl, hb, Lib.hid (fun j hj => absurd hj (Nat.not_lt_zero _))⟩
          case round =>
            obtain ⟨k, hk, rfl, rfl, hb2, HK⟩ := hrel
            by_cases hki : k < i
            · have hkk : (k : Int) < (i : Int) := by omega
              have hk0 : (0 : Int) ≤ (k : Int) := by omega
              have hkl : (k : Int) < (l.length : Int) := by omega
              obtain ⟨t, htk⟩ : ∃ t, l[k]? = some t := ⟨_, List.getElem?_eq_getElem (by omega)⟩
              obtain ⟨ad2, had, ct⟩ := (hS.up hb2).at_ k t htk
              injection had with had
              subst had
              obtain ⟨ad3, had3, cs⟩ := (hS.up hb2).at_ i s HSI.out
              injection had3 with had3
              subst had3
              by_cases hts : t = s
              · have hee : (t.toList == s.toList) = true := by rw [strs_eq, decide_eq_true hts]
                have HM : Hid (memS s (l.take i) = true) := Lib.hid (memS_take.2 ⟨k, hki, by rw [htk, hts]⟩)
                clear hts htk HK
                go_upto_region 11 with fail
                go_quiet (fail)
                go_wp2_with fail
                go_ret
                rw [HV.out, HE2.out, HM.out]
                exact ⟨rfl, below_drewN' hb2 nq⟩
              · have hee : (t.toList == s.toList) = false := by rw [strs_eq, decide_eq_false hts]
                have HK2 : Hid (∀ j, j < k + 1 → l[j]? ≠ some s) := Lib.hid (fun j hj h9 => by
                  by_cases hjk : j = k
                  · subst hjk
                    rw [htk] at h9
                    injection h9 with h9
                    exact hts h9
                  · exact HK.out j (by omega) h9)
                clear hts htk HK
                go_upto_region 11 with fail
                go_quiet (fail)
                go_wp2_with fail
                go_roundg (i - (k + 1))
                case measure => omega
                case rel => exact ⟨k + 1, hki, rfl, by first | rfl | simp, below_drewN' hb2 nq, HK2⟩
            · have hkk : ¬ (k : Int) < (i : Int) := by omega
              have HM : Hid (memS s (l.take i) = false) := Lib.hid (by
                rw [Bool.eq_false_iff]
                intro h9
                obtain ⟨j, hj, hj2⟩ := memS_take.1 h9
                exact HK.out j (by omega) hj2)
              have HE3 : Hid (wordsE [] l = wordsE (l.take (i + 1)) (l.drop (i + 1))) := Lib.hid (by rw [HE2.out, HM.out]; rfl)
              clear HK HM
              go_wp2_with fail
              go_roundg (l.length - (i + 1))
              case measure => omega
              case rel => exact ⟨i + 1, hil, rfl, by first | rfl | simp, hb2, HE3⟩
      · have hii : ¬ (i : Int) < (l.length : Int) := by omega
        have HR : Hid (wordsP l = 0) := Lib.hid (by rw [HV.out, HE.out, List.drop_of_length_le (by omega), wordsE])
        go_wp2_with fail
        go_ret
        rw [HR.out]
        exact ⟨rfl, hb⟩
end Go.Proofs.YtmdjhakamapngaaDoor
