/-
  Walks over dominoref01: Text, Parse.
-/
import Derived.Test.YtlagcdgfmgkooaaDoorRef9
import Derived.Test.YtlagcdgfmgkooaaDoorParse
import Derived.Deep.RegionHeld3
namespace Go.Proofs.YtlagcdgfmgkooaaDoor
open Go.RowKit
set_option linter.unusedVariables false

theorem ten_val : Dm.val (tl ⟨#[10]⟩) = 10 := by decide +kernel
theorem ten_canon : Dm.canon (tl ⟨#[10]⟩) = true := by decide +kernel
theorem ref_Over_ten (x : Nat) (w : World) (h : (Dm.str x).length ≤ 500) :
    Calls Tryd.prog 84 #[Sv (Dm.str x), .string ⟨#[10]⟩] w fun e w' => e = .returned (.tuple #[Sv (Dm.str (x / 10)), Sv (Dm.str (x % 10))]) ∧ Below w.heap.size w w' :=
  (ref_Over_any (bs (Dm.str x)) ⟨#[10]⟩ w (by rw [tl_bs]; exact Dm.canon_str _) ten_canon (by rw [size_bs]; exact h) (by decide) (by rw [ten_val]; omega)).mono fun e w' ⟨he, hw⟩ => ⟨by rw [he, divV, tl_bs, Dm.val_str, ten_val], hw⟩
theorem u64_digit (x : Nat) (hx : x < 10) (w : World) : Calls Tryd.prog 89 #[Sv (Dm.str x)] w fun e w' => e = .returned (.int .u64 (x : Int)) ∧ w = w' :=
  (ref_u64_any (bs (Dm.str x)) w (by rw [size_bs]; exact Dm.length_str_le.2 (show x < 256 ^ 8 by omega))).mono fun e w' ⟨he, hw⟩ => ⟨by rw [he, tl_bs, Dm.val_str], hw⟩
theorem digit_slice (r : Nat) (h : r < 10) : (⟨#[48, 49, 50, 51, 52, 53, 54, 55, 56, 57]⟩ : ByteArray).extract r (r + 1) = bs [UInt8.ofNat (48 + r)] := by
  rcases (show r = 0 ∨ r = 1 ∨ r = 2 ∨ r = 3 ∨ r = 4 ∨ r = 5 ∨ r = 6 ∨ r = 7 ∨ r = 8 ∨ r = 9 by omega) with rfl | rfl | rfl | rfl | rfl | rfl | rfl | rfl | rfl | rfl <;> decide +kernel
theorem bs_append (a b : List UInt8) : bs a ++ bs b = bs (a ++ b) := by
  apply eq_of_tl
  rw [tl_bs]
  show (bs a ++ bs b).data.toList = _
  rw [ByteArray.data_append]
  simp [bs]
def RTxRel (n : Nat) (w : World) (a s : Value) (wr : World) : Prop := ∃ k : Nat, a = Sv (Dm.str (n / 10 ^ k)) ∧ s = Sv (Dm.leDec n k).reverse ∧ k ≤ 400 ∧ (0 < k → 10 ^ (k - 1) ≤ n) ∧ Below w.heap.size w wr
set_option maxRecDepth 20000 in
set_option maxHeartbeats 1000000 in
theorem ref_Text_ok (s : ByteArray) (w : World) (hs : validB (tl s) = true) (hpos : 0 < s.size) :
    Calls Tryd.prog 69 #[.string s] w fun e w' => e = .returned (textV (tl s)) ∧ Below w.heap.size w w' := by
  have hl := validB_size hs
  have hv := val_pos (validB_canon hs) hpos
  have hvl := Dm.val_lt (tl s)
  rw [length_tl] at hvl
  have hvl2 : Dm.val (tl s) < 256 ^ 128 := Nat.lt_of_lt_of_le hvl (Nat.pow_le_pow_right (by omega) hl)
  obtain ⟨he1, he2⟩ := str_full hpos
  have HT : Hid (textV (tl s) = .tuple #[Sv (Dm.dec (Dm.val (tl s))), .int .i64 0]) := by show _ = _; rw [textV, hs]; rfl
  have hV := fun W : World => ref_valid_at s true W (by omega) hs
  have HV := Lib.hid hV
  have HSV := Lib.hid (show (Value.string s) = Sv (Dm.str (Dm.val (tl s))) from by rw [Dm.str_val_canon (validB_canon hs), Sv, bs_tl])
  have HVL := Lib.hid hvl2
  clear hs hV hvl hvl2
  generalize Dm.val (tl s) = n at *
  go_enter Tryd.func69, Tryd.ntmps69
  go_wp2_with fail
  refine (HV.out _).mono ?_
  rintro e w' ⟨rfl, rfl⟩
  go_wp2_with fail
  go_loopw [0, 4] (RTxRel n w) (fun a _ _ => numV a)
  case atStart => exact ⟨0, by rw [HSV.out, Nat.pow_zero, Nat.div_one], rfl, by omega, by omega, Below.refl _ _⟩
  case round =>
    obtain ⟨k, rfl, rfl, hk, hk2, hW⟩ := hrel
    by_cases h0 : n / 10 ^ k = 0
    · rw [h0]
      have hz : (bs (Dm.str 0)).toList = [] := by rw [toList_tl, tl_bs]; rfl
      have hz2 : (bs (Dm.str 0)).toList.isEmpty = true := by rw [toList_tl, tl_bs]; rfl
      have hk0 : 0 < k := by
        rcases Nat.eq_zero_or_pos k with e | e
        · rw [e, Nat.pow_zero, Nat.div_one] at h0; omega
        · exact e
      have hlt : n < 10 ^ k := (Nat.div_eq_zero_iff_lt (Nat.pow_pos (by omega))).1 h0
      have HD : Hid (Dm.dec n = (Dm.leDec n k).reverse) := by
        show _ = _
        obtain ⟨m, rfl⟩ : ∃ m, k = m + 1 := ⟨k - 1, by omega⟩
        exact Dm.dec_pos (by simpa using hk2 (by omega)) hlt
      clear hk2 h0 hlt
      go_wp2_with fail
      go_ret2
      exact ⟨by rw [HT.out, HD.out]; rfl, hW⟩
    · have hne : Dm.str (n / 10 ^ k) ≠ [] := fun h => h0 (by rw [← Dm.val_str (n / 10 ^ k), h]; rfl)
      have hz : ¬ (bs (Dm.str (n / 10 ^ k))).toList = [] := by rw [toList_tl, tl_bs]; exact hne
      have hz2 : (bs (Dm.str (n / 10 ^ k))).toList.isEmpty = false := by rw [toList_tl, tl_bs]; simpa using hne
      have hkn : 10 ^ k ≤ n := by
        rcases Nat.lt_or_ge n (10 ^ k) with h | h
        · exact absurd (Nat.div_eq_of_lt h) h0
        · exact h
      have hk308 := digits_bound hkn HVL.out
      have hlen : (Dm.str (n / 10 ^ k)).length ≤ 500 := Nat.le_trans (Dm.length_str_le.2 (Nat.lt_of_le_of_lt (Nat.div_le_self _ _) HVL.out)) (by omega)
      have hm : n / 10 ^ k % 10 < 10 := Nat.mod_lt _ (by omega)
      have HDG : Hid (Dm.dgt n k = UInt8.ofNat (48 + n / 10 ^ k % 10)) := rfl
      have HQ : Hid (n / 10 ^ (k + 1) = n / 10 ^ k / 10) := by show _ = _; rw [Nat.pow_succ, Nat.div_div_eq_div_mul]
      have HSL := Lib.hid (digit_slice _ hm)
      have HNUM : Hid (n / 10 ^ k / 10 < n / 10 ^ k) := Nat.div_lt_self (Nat.pos_of_ne_zero h0) (by omega)
      have HKN := Lib.hid hkn
      have q2 : (bs (Dm.leDec n k).reverse).size ≤ 400 := by rw [size_bs, List.length_reverse, Dm.length_leDec]; exact hk
      have q1 : ((⟨#[48, 49, 50, 51, 52, 53, 54, 55, 56, 57]⟩ : ByteArray).extract (n / 10 ^ k % 10) (n / 10 ^ k % 10 + 1)).size ≤ 1 := by rw [HSL.out]; exact Nat.le_refl _
      clear hne hkn hk2 h0
      generalize n / 10 ^ k = m at *
      generalize hr : m % 10 = r at *
      have HR := Lib.hid hr
      clear hr
      go_wp2_with fail
      refine (ref_Over_ten m _ hlen).mono ?_
      rintro e w1 ⟨rfl, hb1⟩
      rw [HR.out]
      go_wp2_with fail
      refine (u64_digit r hm _).mono ?_
      rintro e w' ⟨rfl, rfl⟩
      go_wp2_with fail
      refine (u64_digit r hm _).mono ?_
      rintro e w' ⟨rfl, rfl⟩
      go_wp2_with fail
      go_roundw
      case rel =>
        refine ⟨k + 1, by rw [HQ.out], ?_, by omega, fun _ => by simpa using HKN.out, hW.trans (hb1.mono hW.size)⟩
        rw [HSL.out, bs_append, Dm.leDec, List.reverse_append, HDG.out]
        rfl
      case measure =>
        show numV (Sv (Dm.str (m / 10))) < numV (Sv (Dm.str m))
        simp only [numV, tl_bs, Dm.val_str]
        exact HNUM.out
theorem ref_Text_any (s : ByteArray) (w : World) (h1 : s.size ≤ 1073741824) :
    Calls Tryd.prog 69 #[.string s] w fun e w' => e = .returned (textV (tl s)) ∧ Below w.heap.size w w' := by
  cases hs : validB (tl s) with
  | false =>
    have HS := Lib.hid hs
    clear hs
    go_enter Tryd.func69, Tryd.ntmps69
    go_wp2_with fail
    refine (ref_valid_at s false _ h1 HS.out).mono ?_
    rintro e w' ⟨rfl, rfl⟩
    go_wp2_with fail
    go_ret2
    exact ⟨by rw [textV, HS.out]; rfl, Below.refl _ _⟩
  | true =>
    rcases Nat.eq_zero_or_pos s.size with h0 | h0
    · obtain ⟨he1, he2⟩ := str_empty h0
      have HS := Lib.hid hs
      have HV := Lib.hid (val_empty h0)
      clear hs h0
      go_enter Tryd.func69, Tryd.ntmps69
      go_wp2_with fail
      refine (ref_valid_at s true _ h1 HS.out).mono ?_
      rintro e w' ⟨rfl, rfl⟩
      go_wp2_with fail
      go_ret2
      exact ⟨by rw [textV, HS.out, HV.out]; rfl, Below.refl _ _⟩
    · exact ref_Text_ok s w hs h0
def RPa1 (s : ByteArray) (i : Value) : Prop := ∃ k : Nat, k ≤ s.size ∧ i = .int .i64 (k : Int) ∧ Dm.digs ((tl s).take k) = true
def RPa2 (s : ByteArray) (w : World) (a i : Value) (wr : World) : Prop := ∃ k : Nat, k ≤ s.size ∧ i = .int .i64 (k : Int) ∧ a = Sv (Dm.str (Dm.dv ((tl s).take k))) ∧ (Dm.str (Dm.dv ((tl s).take k))).length ≤ 128 ∧ Below w.heap.size w wr
theorem ref_Times_ten (x : Nat) (w : World) (h : (Dm.str x).length ≤ 500) :
    Calls Tryd.prog 83 #[Sv (Dm.str x), .string ⟨#[10]⟩] w fun e w' => e = .returned (Sv (Dm.str (10 * x))) ∧ Below w.heap.size w w' :=
  (ref_Times_any (bs (Dm.str x)) ⟨#[10]⟩ w (by rw [size_bs]; exact h) (by decide)).mono fun e w' ⟨he, hw⟩ => ⟨by rw [he, tl_bs, Dm.val_str, ten_val, Nat.mul_comm], hw⟩
theorem digs_snoc {l : List UInt8} {c : UInt8} : Dm.digs (l ++ [c]) = (Dm.digs l && Dm.isDig c) := by
  unfold Dm.digs; rw [List.all_append]; simp
theorem str_len_mono {a b : Nat} (h : a ≤ b) : (Dm.str a).length ≤ (Dm.str b).length :=
  Dm.length_str_le.2 (Nat.lt_of_le_of_lt h (Dm.length_str_le.1 (Nat.le_refl _)))
set_option maxRecDepth 20000 in
set_option maxHeartbeats 2000000 in
theorem ref_Parse_main (s : ByteArray) (w : World) (hs : s.size ≤ 1000000) (h0 : 0 < s.size) (hz : ¬ (1 < s.size ∧ (s[0].toNat : Int) = 48)) :
    Calls Tryd.prog 72 #[.string s] w fun e w' => e = .returned (parseV (tl s)) ∧ Below w.heap.size w w' := by
  have hok : Dm.okDec (tl s) = Dm.digs (tl s) := by
    unfold Dm.okDec
    have hc := tl_cons s h0
    have hlen : (tl s).length = s.size := length_tl s
    have : ¬ (1 < s.size ∧ s[0] = 48) := fun ⟨h, e⟩ => hz ⟨h, by simp [e]⟩
    have h2 : (decide (1 < (tl s).length) && ((tl s).headD 0 == 48)) = false := by
      rw [hlen, hc]
      simp
      intro h e
      exact this ⟨h, e⟩
    rw [h2]
    have h3 : (tl s).isEmpty = false := by rw [hc]; rfl
    rw [h3]; simp
  have HOK := Lib.hid hok
  clear hok
  obtain ⟨he1, he2⟩ := str_full h0
  have hcs : (((s[0].toNat : Int) == 48) = true ∧ ¬ 1 < s.size) ∨ ((s[0].toNat : Int) == 48) = false := by
    cases h : ((s[0].toNat : Int) == 48) with
    | false => exact .inr rfl
    | true => exact .inl ⟨rfl, fun h2 => hz ⟨h2, by simpa using h⟩⟩
  clear hz
  rcases hcs with ⟨c1, c2⟩ | c1
  all_goals
    go_enter Tryd.func72, Tryd.ntmps72
    go_wp2_with fail
    go_loop [4] (RPa1 s) (fun i => s.size - (intOf i).toNat)
    case atStart => exact ⟨0, by omega, rfl, by simp [Dm.digs]⟩
    case round =>
      obtain ⟨k, hk, rfl, hdig⟩ := hrel
      have HDIG := Lib.hid hdig
      clear hdig
      by_cases hlt : k < s.size
      · have hts := take_snoc s k hlt
        have HTS := Lib.hid hts
        clear hts
        by_cases hd : 48 ≤ s[k].toNat ∧ s[k].toNat ≤ 57
        · obtain ⟨hd1, hd2⟩ := hd
          have hi1 : ¬ (s[k].toNat : Int) < 48 := by omega
          have hi2 : ¬ 57 < (s[k].toNat : Int) := by omega
          go_wp2_with fail
          go_round
          case rel => exact ⟨k + 1, by omega, by go_num, by rw [HTS.out, digs_snoc, HDIG.out, Dm.isDig_iff.2 ⟨hd1, hd2⟩]; rfl⟩
          case measure => simp [intOf]; omega
        · have HP : Hid (parseV (tl s) = .tuple #[Sv [], .int .i64 4]) := by
            show _ = _
            rw [parseV, if_neg]
            rw [HOK.out]
            intro h
            exact hd (Dm.isDig_iff.1 (List.all_eq_true.1 h s[k] (by rw [← tl_getElem s k hlt]; exact List.getElem_mem _)))
          by_cases hd1 : (s[k].toNat : Int) < 48
          · clear hd
            go_wp2_with fail
            go_ret2
            exact ⟨by rw [HP.out]; rfl, Below.refl _ _⟩
          · have hd2 : 57 < (s[k].toNat : Int) := by omega
            clear hd
            go_wp2_with fail
            go_ret2
            exact ⟨by rw [HP.out]; rfl, Below.refl _ _⟩
      · obtain rfl : k = s.size := by omega
        have ht : (tl s).take s.size = tl s := List.take_of_length_le (by rw [length_tl]; exact Nat.le_refl _)
        rw [ht] at HDIG
        have HP : Hid (parseV (tl s) = fitV (Dm.str (Dm.dv (tl s)))) := by show _ = _; rw [parseV, if_pos (by rw [HOK.out]; exact HDIG.out)]
        have HTK := Lib.hid ht
        clear ht
        go_wp2_with fail
        go_loopw [5, 6] (RPa2 s w) (fun _ i _ => s.size - (intOf i).toNat)
        case atStart => exact ⟨0, by omega, rfl, rfl, by simp [Dm.dv]; decide, Below.refl _ _⟩
        case round =>
          obtain ⟨k, hk, rfl, rfl, hlen, hW⟩ := hrel
          by_cases hlt : k < s.size
          · have HTS := Lib.hid (take_snoc s k hlt)
            have hdk := Dm.isDig_iff.1 (List.all_eq_true.1 HDIG.out s[k] (by rw [← tl_getElem s k hlt]; exact List.getElem_mem _))
            obtain ⟨hd1, hd2⟩ := hdk
            have HST : Hid (Dm.dv ((tl s).take (k + 1)) = 10 * Dm.dv ((tl s).take k) + (s[k].toNat - 48)) := by show _ = _; rw [HTS.out, Dm.dv_snoc]
            have HLE := Lib.hid (Dm.dv_take_le (tl s) (k + 1))
            have HKP := Kp.mk (w := w) (bl := []) (fun _ h => (List.not_mem_nil h).elim) hW
            have hk1 := HKP.drew
            clear hW HKP
            obtain ⟨d, hdd⟩ : ∃ d, d = s[k].toNat - 48 := ⟨_, rfl⟩
            have hd9 : d ≤ 9 := by omega
            have hdi : (s[k].toNat : Int) - 48 = (d : Int) := by omega
            have hwr : IntKind.u8.wrap ((s[k].toNat : Int) - 48) = (d : Int) := by rw [hdi, IntKind.wrap_u8]; omega
            have hwr2 : IntKind.u64.wrap (d : Int) = (d : Int) := by rw [IntKind.wrap_u64]; omega
            rw [← hdd] at HST
            clear hdd hdi
            have hl2 : (Dm.str (10 * Dm.dv ((tl s).take k))).length ≤ 129 := by
              refine Dm.length_str_le.2 ?_
              have := Dm.length_str_le.1 hlen
              rw [Nat.pow_succ]; omega
            have hl3 : (Dm.str d).length ≤ 1 := Dm.length_str_le.2 (by omega)
            generalize Dm.dv ((tl s).take k) = n at *
            go_wp2_with fail
            go_region_held3 (fun _ => True) (exact True.intro) (first | (go_at_call 83; refine (ref_Times_ten n _ (by omega)).mono ?_; rintro e wa ⟨rfl, hba⟩; have hk2 := Kp.next (w := w) (bl := []) (by assumption) hba) | (go_at_call 65; refine (ref_of_at _ d _ (by first | rfl | assumption) (by omega)).mono ?_; rintro e wb ⟨rfl, hbb⟩; have hk3 := Kp.next (w := w) (bl := []) (by assumption) hbb) | (go_at_call 78; refine (ref_Plus_str (10 * n) d _ (by omega) (by omega)).mono ?_; rintro e wc ⟨rfl, hbc⟩; have hk4 := Kp.next (w := w) (bl := []) (by assumption) hbc))
            all_goals
              by_cases hl5 : (bs (Dm.str (10 * n + d))).size ≤ 128
              · go_wp2_with fail
                go_roundw
                case rel => exact ⟨k + 1, by omega, by go_num, by rw [HST.out], by rw [HST.out, ← size_bs]; exact hl5, hk4.below⟩
                case measure => simp [intOf] <;> omega
              · go_wp2_with fail
                go_ret2
                refine ⟨?_, hk4.below⟩
                rw [HP.out, fitV, if_neg]
                · rfl
                · intro h
                  have h2 := str_len_mono HLE.out
                  rw [HST.out, ← size_bs] at h2
                  omega
          · obtain rfl : k = s.size := by omega
            rw [HTK.out] at hlen ⊢
            go_wp2_with fail
            go_ret2
            exact ⟨by rw [HP.out, fitV, if_pos hlen]; rfl, hW⟩
set_option maxRecDepth 20000 in
set_option maxHeartbeats 1000000 in
theorem ref_Parse_any (s : ByteArray) (w : World) (hs : s.size ≤ 1000000) :
    Calls Tryd.prog 72 #[.string s] w fun e w' => e = .returned (parseV (tl s)) ∧ Below w.heap.size w w' := by
  rcases Nat.eq_zero_or_pos s.size with h0 | h0
  · obtain ⟨he1, he2⟩ := str_empty h0
    have HP : Hid (parseV (tl s) = .tuple #[Sv [], .int .i64 4]) := by show _ = _; rw [tl_empty h0]; rfl
    clear h0
    go_enter Tryd.func72, Tryd.ntmps72
    go_wp2_with fail
    go_ret2
    exact ⟨by rw [HP.out]; rfl, Below.refl _ _⟩
  · have hc := tl_cons s h0
    have hlen : (tl s).length = s.size := length_tl s
    by_cases hz : 1 < s.size ∧ (s[0].toNat : Int) = 48
    · obtain ⟨h1, h2⟩ := hz
      have HP : Hid (parseV (tl s) = .tuple #[Sv [], .int .i64 4]) := by
        show _ = _
        rw [parseV, if_neg]
        unfold Dm.okDec
        have e : s[0] = 48 := UInt8.toNat_inj.1 (by simpa using (by omega : s[0].toNat = 48))
        rw [hlen, hc, e]
        simp [h1]
      obtain ⟨he1, he2⟩ := str_full h0
      have h2' : ((s[0].toNat : Int) == 48) = true := by rw [beq_iff_eq]; exact h2
      clear h2 hc hlen
      go_enter Tryd.func72, Tryd.ntmps72
      go_wp2_with fail
      go_ret2
      exact ⟨by rw [HP.out]; rfl, Below.refl _ _⟩
    · exact ref_Parse_main s w hs h0 hz
end Go.Proofs.YtlagcdgfmgkooaaDoor
