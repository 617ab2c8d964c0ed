/-
  Keywords and names (schema and its reference).
-/
import Derived.Test.YtmdjhakamapngaaDoorScA
import Derived.Test.YtmdjhakamapngaaDoorShelf
namespace Go.Proofs.YtmdjhakamapngaaDoor
open Go.RowKit Go.Shelf
set_option linter.unusedVariables false

def kws16 : List ByteArray := [⟨#[112, 111, 108, 105, 99, 121]⟩, ⟨#[117, 115, 101, 115]⟩, ⟨#[114, 101, 118, 101, 97, 108]⟩, ⟨#[112, 114, 111, 118, 101]⟩, ⟨#[115, 99, 111, 112, 101]⟩, ⟨#[108, 105, 109, 105, 116]⟩, ⟨#[101, 115, 99, 114, 111, 119]⟩, ⟨#[101, 110, 100]⟩, ⟨#[97, 108, 108]⟩, ⟨#[97, 110, 121]⟩, ⟨#[97, 116, 108, 101, 97, 115, 116]⟩, ⟨#[110, 111, 116]⟩, ⟨#[116, 114, 117, 101]⟩, ⟨#[102, 97, 108, 115, 101]⟩, ⟨#[98, 101, 116, 119, 101, 101, 110]⟩, ⟨#[97, 110, 100]⟩]
def kwIn : ByteArray := ⟨#[105, 110]⟩
def kws : List ByteArray := kws16 ++ [kwIn]
def kwP (s : ByteArray) : Bool := memS s kws
theorem contains_mem (l : List ByteArray) (s : ByteArray) : Lib.containsS l s = memS s l := by
  rw [Bool.eq_iff_iff, Lib.containsS_iff, memS_iff]
set_option maxRecDepth 20000 in
set_option maxHeartbeats 4000000 in
theorem keyword_any (s : ByteArray) (w : World) : Calls Tryd.prog 53 #[.string s] w fun e w' => e = .returned (.bool (kwP s)) ∧ Below w.heap.size w w' := by
  have hb := (Below.refl w.heap.size w).alloc (Nat.le_refl _) (.cells (kws.map Value.string).toArray 9)
  have hblk := show Blk (w.alloc (.cells (kws.map Value.string).toArray 9)) w.heap.size 9 (kws.map Value.string) from Blk.new w _ _
  have HC := Lib.hid (Tryd.slices_Contains_string w.heap.size 0 17 17 kws s (w.alloc (.cells (kws.map Value.string).toArray 9)) (by decide) (by decide) (fun j hj => by
    rw [Nat.zero_add, hblk.cell j, List.getElem?_map, List.getElem?_eq_getElem hj, List.getD_eq_getElem?_getD, List.getElem?_eq_getElem hj]; rfl))
  have HV : Hid (Lib.containsS (kws.take 17) s = kwP s) := Lib.hid (by rw [contains_mem]; rfl)
  go_enter Tryd.func53, Tryd.ntmps53
  go_wp2_with fail
  refine HC.out.mono ?_
  rintro e w1 ⟨rfl, rfl⟩
  rw [HV.out]
  go_wp2_with fail
  go_ret
  exact ⟨rfl, hb⟩
set_option maxRecDepth 20000 in
set_option maxHeartbeats 4000000 in
theorem rkeyword_any (s : ByteArray) (w : World) : Calls Tryd.prog 57 #[.string s] w fun e w' => e = .returned (.bool (kwP s)) ∧ Below w.heap.size w w' := by
  have hb := (Below.refl w.heap.size w).alloc (Nat.le_refl _) (.cells (kws16.map Value.string).toArray 9)
  have hblk := show Blk (w.alloc (.cells (kws16.map Value.string).toArray 9)) w.heap.size 9 (kws16.map Value.string) from Blk.new w _ _
  go_enter Tryd.func57, Tryd.ntmps57
  go_upto_region 3 with fail
  generalize hW : w.alloc (.cells _ 9) = W
  have hblk : Blk W w.heap.size 9 (kws16.map Value.string) := by rw [← hW]; exact hblk
  have hb : Below w.heap.size w W := by rw [← hW]; exact hb
  clear hW
  go_loopg [4] 16 (fun m s4 wx => ∃ i : Nat, i ≤ 16 ∧ m = 16 - i ∧ s4 = .int .i64 (i : Int) ∧ wx = W ∧ Hid (∀ j t, j < i → kws16[j]? = some t → t ≠ s))
  case atStart => exact ⟨0, Nat.zero_le _, rfl, rfl, rfl, Lib.hid (fun j t hj => absurd hj (Nat.not_lt_zero _))⟩
  case round =>
    obtain ⟨i, hi, rfl, rfl, rfl, HI⟩ := hrel
    by_cases hil : i < 16
    · have hii : (i : Int) < 16 := by omega
      have hi0 : (0 : Int) ≤ (i : Int) := by omega
      obtain ⟨t, ht⟩ : ∃ t, kws16[i]? = some t := ⟨_, List.getElem?_eq_getElem (by show i < 16; exact hil)⟩
      have ct : wr.cell? ⟨w.heap.size, i, none⟩ = some (.string t) := by rw [hblk.cell i, List.getElem?_map, ht]; rfl
      have Ht := Lib.hid ht
      clear ht
      by_cases hts : t = s
      · subst hts
        have HV : Hid (kwP t = true) := Lib.hid (memS_iff.2 (List.mem_append_left _ (List.mem_of_getElem? Ht.out)))
        have hee : (t.toList == t.toList) = true := by simp
        go_wp2_with fail
        go_ret
        rw [HV.out]
        exact ⟨rfl, hb⟩
      · have hee : (t.toList == s.toList) = false := by
          rw [beq_eq_false_iff_ne, toList_tl, toList_tl]
          exact fun h => hts (eq_of_tl h)
        have HI2 : Hid (∀ j u, j < i + 1 → kws16[j]? = some u → u ≠ s) := Lib.hid (fun j u hj hu => by
          by_cases hji : j = i
          · subst hji
            rw [Ht.out] at hu
            injection hu with hu
            rw [← hu]; exact hts
          · exact HI.out j u (by omega) hu)
        clear hts HI
        go_wp2_with fail
        go_roundg (16 - (i + 1))
        case measure => omega
        case rel => exact ⟨i + 1, hil, rfl, by first | rfl | simp, rfl, HI2⟩
    · have hii : ¬ (i : Int) < 16 := by omega
      have HV : Hid (kwP s = (s.toList == [105, 110])) := Lib.hid (by
        rw [Bool.eq_iff_iff, beq_iff_eq]
        unfold kwP
        rw [memS_iff]
        constructor
        · intro h
          rcases List.mem_append.1 h with h1 | h1
          · obtain ⟨j, hj⟩ := List.mem_iff_getElem?.1 h1
            have hl := (List.getElem?_eq_some_iff.1 hj).1
            exact absurd rfl (HI.out j s (by have : kws16.length = 16 := rfl; omega) hj)
          · rw [List.mem_singleton.1 h1, toList_tl]; rfl
        · intro h
          refine List.mem_append_right _ (List.mem_singleton.2 (eq_of_tl ?_))
          rw [← toList_tl, h]; rfl)
      clear HI
      go_wp2_with fail
      go_ret
      rw [HV.out]
      exact ⟨rfl, hb⟩
/-- a name -/
def nameP (s : ByteArray) : Bool := if h : 0 < s.size then decide (s.size ≤ 32) && ltN s[0].toNat && allN nmN (tl s) && !kwP s else false
set_option maxRecDepth 20000 in
set_option maxHeartbeats 4000000 in
theorem name_any (s : ByteArray) (hs : s.size ≤ 1000000) (w : World) : Calls Tryd.prog 31 #[.string s] w fun e w' => e = .returned (.bool (nameP s)) ∧ Below w.heap.size w w' := by
  by_cases h0 : s.size = 0
  · obtain ⟨e1, e2⟩ := str_empty h0
    have HV : Hid (nameP s = false) := Lib.hid (by unfold nameP; rw [dif_neg (by omega)])
    clear h0
    go_enter Tryd.func31, Tryd.ntmps31
    go_wp2_with fail
    go_ret
    rw [HV.out]
    exact ⟨rfl, Below.refl _ _⟩
  · obtain ⟨e1, e2⟩ := str_full (s := s) (by omega)
    have hpos : 0 < s.size := by omega
    by_cases h1 : s.size ≤ 32
    · have hi : (s.size : Int) ≤ 32 := by omega
      have HV : Hid (nameP s = (ltN s[0].toNat && allN nmN (tl s) && !kwP s)) := Lib.hid (by
        unfold nameP
        rw [dif_pos hpos, decide_eq_true h1]; rfl)
      have HL := Lib.hid (letter_any s[0].toNat w)
      have HC := Lib.hid (all_any s hs _ _ decName w)
      have HK := Lib.hid (keyword_any s w)
      generalize allN nmN (tl s) = r at *
      generalize kwP s = q at *
      generalize ltN s[0].toNat = l at *
      cases l <;> cases r
      all_goals
        go_enter Tryd.func31, Tryd.ntmps31
        go_wp2_with fail
        refine HL.out.mono ?_
        rintro e w1 ⟨rfl, hw⟩
        subst hw
        go_wp2_with fail
        first
          | (go_ret; exact ⟨ret_bool (by rw [HV.out]; rfl), Below.refl _ _⟩)
          | (refine HC.out.mono ?_
             rintro e w2 ⟨rfl, hw⟩
             subst hw
             go_wp2_with fail
             first
               | (go_ret; exact ⟨ret_bool (by rw [HV.out]; rfl), Below.refl _ _⟩)
               | (refine HK.out.mono ?_
                  rintro e w3 ⟨rfl, hb3⟩
                  go_wp2_with fail
                  go_ret
                  exact ⟨ret_bool (by rw [HV.out]; rfl), hb3⟩))
    · have hi : ¬ (s.size : Int) ≤ 32 := by omega
      have HV : Hid (nameP s = false) := Lib.hid (by unfold nameP; rw [dif_pos (by omega), decide_eq_false h1]; simp)
      clear h0
      go_enter Tryd.func31, Tryd.ntmps31
      go_wp2_with fail
      go_ret
      rw [HV.out]
      exact ⟨rfl, Below.refl _ _⟩
set_option maxRecDepth 20000 in
set_option maxHeartbeats 4000000 in
theorem rname_any (s : ByteArray) (hs : s.size ≤ 1000000) (w : World) : Calls Tryd.prog 33 #[.string s] w fun e w' => e = .returned (.bool (nameP s)) ∧ Below w.heap.size w w' := by
  go_enter Tryd.func33, Tryd.ntmps33
  go_upto_region 2 with fail
  go_loopg [3] s.size (fun m s3 wx => ∃ i : Nat, i ≤ s.size ∧ m = s.size - i ∧ s3 = .int .i64 (i : Int) ∧ wx = w ∧ Hid (allN nmN ((tl s).take i) = true ∧ ∀ (h : 0 < s.size), 0 < i → ltN s[0].toNat = true))
  case atStart => exact ⟨0, Nat.zero_le _, rfl, rfl, rfl, Lib.hid ⟨rfl, fun _ h => absurd h (Nat.lt_irrefl _)⟩⟩
  case round =>
    obtain ⟨i, hi, rfl, rfl, rfl, HA⟩ := hrel
    by_cases hil : i < s.size
    · have hii : (i : Int) < (s.size : Int) := by omega
      have hpos : 0 < s.size := by omega
      have HT := Lib.hid (allN_take (p := nmN) hil)
      have HB := Lib.hid (fun h => allN_bad (p := nmN) hil h)
      have HL := Lib.hid (rletter_any s[i].toNat wr)
      have HD := Lib.hid (rdigit_any s[i].toNat wr)
      have HN : Hid (nmN s[i].toNat = (ltN s[i].toNat || dgN s[i].toNat || !((s[i].toNat : Int) != 95))) := Lib.hid (by
        unfold nmN
        congr 1
        rw [Bool.eq_iff_iff]; simp; omega)
      have HZ : Hid (i = 0 → ltN s[i].toNat = false → nameP s = false) := Lib.hid (fun h1 h2 => by
        subst h1
        unfold nameP
        rw [dif_pos hpos, h2]; simp)
      have HF : Hid (nmN s[i].toNat = false → nameP s = false) := Lib.hid (fun h => by
        unfold nameP
        rw [dif_pos hpos, HB.out h]; simp)
      have HO : Hid (nmN s[i].toNat = true → (i = 0 → ltN s[i].toNat = true) → allN nmN ((tl s).take (i + 1)) = true ∧ ∀ (h : 0 < s.size), 0 < i + 1 → ltN s[0].toNat = true) := Lib.hid (fun h1 h2 => ⟨by rw [HT.out, HA.out.1, h1]; rfl, fun h _ => by
        by_cases hz : i = 0
        · subst hz; exact h2 rfl
        · exact HA.out.2 h (by omega)⟩)
      clear HT HB HA
      generalize ltN s[i].toNat = l at *
      generalize dgN s[i].toNat = d at *
      generalize nmN s[i].toNat = nn at *
      go_wp2_with fail
      refine HL.out.mono ?_
      rintro e w1 ⟨rfl, hw⟩
      subst hw
      clear HL
      cases l with
      | true =>
        have HO2 := Lib.hid (HO.out (by rw [HN.out]; rfl) (fun _ => rfl))
        go_wp2_with fail
        go_roundg (s.size - (i + 1))
        case measure => omega
        case rel => exact ⟨i + 1, hil, rfl, by first | rfl | simp, rfl, HO2⟩
      | false =>
        by_cases hz : i = 0
        · have HR := Lib.hid (HZ.out hz rfl)
          have hz1 : ((i : Int) == 0) = true := by rw [hz]; rfl
          clear hz
          go_wp2_with fail
          go_ret
          rw [HR.out]
          exact ⟨rfl, Below.refl _ _⟩
        · have hz1 : ((i : Int) == 0) = false := by rw [beq_eq_false_iff_ne]; omega
          cases d with
          | true =>
            have HO2 := Lib.hid (HO.out (by rw [HN.out]; rfl) (fun h => absurd h hz))
            clear hz
            go_wp2_with fail
            refine HD.out.mono ?_
            rintro e w2 ⟨rfl, hw⟩
            subst hw
            go_wp2_with fail
            go_roundg (s.size - (i + 1))
            case measure => omega
            case rel => exact ⟨i + 1, hil, rfl, by first | rfl | simp, rfl, HO2⟩
          | false =>
            cases hu : ((s[i].toNat : Int) != 95) with
            | true =>
              have HR := Lib.hid (HF.out (by rw [HN.out, hu]; rfl))
              clear hz
              go_wp2_with fail
              refine HD.out.mono ?_
              rintro e w2 ⟨rfl, hw⟩
              subst hw
              go_wp2_with fail
              go_ret
              rw [HR.out]
              exact ⟨rfl, Below.refl _ _⟩
            | false =>
              have HO2 := Lib.hid (HO.out (by rw [HN.out, hu]; rfl) (fun h => absurd h hz))
              clear hz
              go_wp2_with fail
              refine HD.out.mono ?_
              rintro e w2 ⟨rfl, hw⟩
              subst hw
              go_wp2_with fail
              go_roundg (s.size - (i + 1))
              case measure => omega
              case rel => exact ⟨i + 1, hil, rfl, by first | rfl | simp, rfl, HO2⟩
    · have hii : ¬ (i : Int) < (s.size : Int) := by omega
      have hall := (allN_full (p := nmN) hil).symm.trans HA.out.1
      by_cases h0 : s.size = 0
      · obtain ⟨e1, e2⟩ := str_empty h0
        have HV : Hid (nameP s = false) := Lib.hid (by unfold nameP; rw [dif_neg (by omega)])
        clear h0 hall
        go_wp2_with fail
        go_ret
        rw [HV.out]
        exact ⟨rfl, Below.refl _ _⟩
      · obtain ⟨e1, e2⟩ := str_full (s := s) (by omega)
        have hpos : 0 < s.size := by omega
        have hl := HA.out.2 hpos (by omega)
        by_cases h1 : s.size ≤ 32
        · have hi2 : (s.size : Int) ≤ 32 := by omega
          have HV : Hid (nameP s = !kwP s) := Lib.hid (by unfold nameP; rw [dif_pos hpos, decide_eq_true h1, hall, hl]; rfl)
          have HK := Lib.hid (rkeyword_any s wr)
          clear h0 hall hl
          go_wp2_with fail
          refine HK.out.mono ?_
          rintro e w3 ⟨rfl, hb3⟩
          go_wp2_with fail
          go_ret
          rw [HV.out]
          exact ⟨rfl, hb3⟩
        · have hi2 : ¬ (s.size : Int) ≤ 32 := by omega
          have HV : Hid (nameP s = false) := Lib.hid (by unfold nameP; rw [dif_pos hpos, decide_eq_false h1]; simp)
          clear h0 hall hl
          go_wp2_with fail
          go_ret
          rw [HV.out]
          exact ⟨rfl, Below.refl _ _⟩
end Go.Proofs.YtmdjhakamapngaaDoor
