/-
  The walk over natural: Text.
-/
import Derived.Test.YtlagcdgfmgkooaaDoorNat8
import Derived.Test.YtlagcdgfmgkooaaDoorDec
import Derived.BigRegion
import Derived.RegionTactic
namespace Go.Proofs.YtlagcdgfmgkooaaDoor
open Go.RowKit
set_option linter.unusedVariables false

theorem u8_info : (Tryd.prog.info? 5).map (fun i => (i.zero, i.size, i.bytes)) = some (some (.int .u8 0), 1, 1) := by kernel_rfl
theorem pow_bound : ∃ K T : Nat, K = 309 ∧ T = 10 ^ K ∧ 256 ^ 128 < T := ⟨309, _, rfl, rfl, by decide +kernel⟩
theorem digits_bound {n e : Nat} (h : 10 ^ e ≤ n) (hn : n < 256 ^ 128) : e ≤ 308 := by
  obtain ⟨K, T, hK, hT, hlt⟩ := pow_bound
  rcases Nat.lt_or_ge 308 e with h1 | h1
  · exfalso
    have h2 : T ≤ 10 ^ e := by rw [hT]; exact Nat.pow_le_pow_right (by omega) (by omega)
    exact absurd (Nat.lt_of_le_of_lt (Nat.le_trans h2 h) hn) (Nat.not_lt.2 (Nat.le_of_lt hlt))
  · exact h1
theorem validB_short' {n : Nat} (h : (Dm.str n).length ≤ 128) : validB (Dm.str n) = true := by
  unfold validB
  rw [Dm.canon_str]
  simp [h]
theorem own_below {w w' : World} {base : Nat} {e : TypeId} {size : Nat} {v : Value} {n : Nat} {xs : List Value} (h : w.ownsRow base e size v n xs) (hb : Below w.heap.size w w') : w'.ownsRow base e size v n xs :=
  h.kept (row := none) ⟨hb.os, hb.tape, hb.output, hb.size, fun i hi _ => hb.block i hi⟩ (by cases hv : v.ownBlock <;> simp)
def textV (l : List UInt8) : Value := if validB l then .tuple #[Sv (Dm.dec (Dm.val l)), .int .i64 0] else .tuple #[Sv [], .int .i64 3]
def TextRel (n : Nat) (w : World) (a b : Value) (wr : World) : Prop := ∃ j : Nat, a = Sv (Dm.str (n / 10 ^ (9 * j))) ∧ (0 < j → 10 ^ (9 * j - 9) ≤ n) ∧ wr.ownsRow w.heap.size 5 1 b (9 * j) (bvs (Dm.leDec n (9 * j))) ∧ Below w.heap.size w wr
def TextIn (n j : Nat) (w : World) (i r b : Value) (wr : World) : Prop := ∃ I : Nat, I ≤ 9 ∧ i = .int .i64 (I : Int) ∧ r = .int .u64 ((n / 10 ^ (9 * j) % 1000000000 / 10 ^ I : Nat) : Int) ∧ wr.ownsRow w.heap.size 5 1 b (9 * j + I) (bvs (Dm.leDec n (9 * j + I))) ∧ Below w.heap.size w wr

/-- the list after I swaps from both ends -/
def rv (l : List UInt8) (I : Nat) : List UInt8 := (List.range l.length).map fun q => if q < I ∨ l.length - 1 - q < I then l.getD (l.length - 1 - q) 0 else l.getD q 0
theorem length_rv (l : List UInt8) (I : Nat) : (rv l I).length = l.length := by simp [rv]
theorem rv_get {l : List UInt8} {I q : Nat} (h : q < l.length) : (rv l I)[q]? = some (if q < I ∨ l.length - 1 - q < I then l.getD (l.length - 1 - q) 0 else l.getD q 0) := by simp [rv, h]
theorem rv_zero (l : List UInt8) : rv l 0 = l := by
  apply List.ext_getElem?
  intro q
  by_cases h : q < l.length
  · rw [rv_get h]; simp [h]
  · rw [List.getElem?_eq_none (by rw [length_rv]; omega), List.getElem?_eq_none (by omega)]
theorem rv_half (l : List UInt8) : rv l (l.length / 2) = l.reverse := by
  apply List.ext_getElem?
  intro q
  by_cases h : q < l.length
  · rw [rv_get h, List.getElem?_reverse h]
    split
    · rw [List.getElem?_eq_getElem (show l.length - 1 - q < l.length by omega)]
      simp [List.getD, List.getElem?_eq_getElem (show l.length - 1 - q < l.length by omega)]
    · have e : l.length - 1 - q = q := by omega
      rw [e]
      simp [h]
  · rw [List.getElem?_eq_none (by rw [length_rv]; omega), List.getElem?_eq_none (by rw [List.length_reverse]; omega)]
theorem rv_step {l : List UInt8} {I : Nat} (hI : I < l.length / 2) : ((rv l I).set I (l.getD (l.length - 1 - I) 0)).set (l.length - 1 - I) (l.getD I 0) = rv l (I + 1) := by
  apply List.ext_getElem?
  intro q
  by_cases h : q < l.length
  · rw [rv_get h, List.getElem?_set, List.getElem?_set, List.length_set, length_rv]
    by_cases h1 : l.length - 1 - I = q
    · rw [if_pos h1, if_pos (by omega), if_pos (by omega), show l.length - 1 - q = I from by omega]
    · rw [if_neg h1]
      by_cases h2 : I = q
      · rw [if_pos h2, if_pos (by omega), if_pos (by omega), h2]
      · rw [if_neg h2, rv_get h]
        by_cases h3 : q < I ∨ l.length - 1 - q < I
        · rw [if_pos h3, if_pos (by omega)]
        · rw [if_neg h3, if_neg (by omega)]
  · rw [List.getElem?_eq_none (by simp [length_rv]; omega), List.getElem?_eq_none (by rw [length_rv]; omega)]
def RevRel (l : List UInt8) (rest : List Value) (g : Nat) (w : World) (i : Value) (wr : World) : Prop := ∃ I : Nat, I ≤ l.length / 2 ∧ i = .int .i64 (I : Int) ∧ Blk wr g 5 (bvs (rv l I) ++ rest) ∧ Below w.heap.size w wr
theorem append_split {l : List UInt8} {K : Nat} (h : K ≤ l.length) (rest : List Value) : ∃ rest', bvs l ++ rest = bvs (l.take K) ++ rest' := ⟨bvs (l.drop K) ++ rest, by rw [← List.append_assoc]; congr 1; unfold bvs; rw [← List.map_append, List.take_append_drop]⟩
theorem leDec_take (n : Nat) {K L : Nat} (h : K ≤ L) : (Dm.leDec n L).take K = Dm.leDec n K := by
  apply List.ext_getElem?
  intro q
  rw [List.getElem?_take]
  by_cases hq : q < K
  · rw [if_pos hq, Dm.leDec_get n L q (by omega), Dm.leDec_get n K q hq]
  · rw [if_neg hq, List.getElem?_eq_none (by rw [Dm.length_leDec]; omega)]

theorem Blk.bytesL {w : World} {g : Nat} {t : TypeId} {l : List UInt8} {rest : List Value} (h : Blk w g t (bvs l ++ rest)) : BytesAt w (some ⟨g, 0, none⟩) l :=
  .inr ⟨g, 0, rfl, fun i hi => by rw [Nat.zero_add, h.cell, List.getElem?_append_left (by simp [bvs, hi]), bvs_at hi]⟩
def StripRel (n L g cap : Nat) (v : Value) : Prop := ∃ K : Nat, v = .slice (some ⟨g, 0, none⟩) K cap ∧ 0 < K ∧ K ≤ L ∧ n < 10 ^ K
set_option maxRecDepth 20000 in
set_option maxHeartbeats 1000000 in
theorem Text_ok (N : Nat) (hD : DivUpto N) (s : ByteArray) (w : World) (hs : validB (tl s) = true) (hN : s.size ≤ N) (hpos : 0 < s.size) :
    Calls Tryd.prog 68 #[.string s] w fun e w' => e = .returned (.tuple #[Sv (Dm.dec (Dm.val (tl s))), .int .i64 0]) ∧ Below w.heap.size w w' := by
  have hsz := validB_size hs
  have hvp := val_pos (validB_canon hs) hpos
  have hvl : Dm.val (tl s) < 256 ^ 128 := Nat.lt_of_lt_of_le (Dm.val_lt _) (Nat.pow_le_pow_right (by omega) (by rw [length_tl]; exact hsz))
  obtain ⟨he1, he2⟩ := str_full hpos
  have HDD := Lib.hid hD
  have HS := Lib.hid hs
  have HVL := Lib.hid hvl
  have HVP := Lib.hid hvp
  clear hD hs hvl hvp
  obtain ⟨i0, hi0, hz0, hz1, hz2⟩ := info_parts u8_info
  obtain ⟨n, hn⟩ : ∃ n, Dm.val (tl s) = n := ⟨_, rfl⟩
  rw [hn] at HVL HVP
  have HNN := Lib.hid hn
  have HSTR : Hid (s = bs (Dm.str n)) := by show _ = _; rw [← hn, Dm.str_val_canon (validB_canon HS.out), bs_tl]
  clear hn
  go_enter Tryd.func68, Tryd.ntmps68
  go_wp2_with fail
  refine (valid_at s true _ (by omega) HS.out).mono ?_
  rintro e w' ⟨rfl, rfl⟩
  go_wp2_with fail
  clear he1 he2
  go_loopw [0, 4] (TextRel n w) (fun a _ _ => numV a)
  case atStart => exact ⟨0, by rw [HSTR.out]; simp, by omega, World.ownsRow_nil _ _ _ _, Below.refl _ _⟩
  case round =>
    obtain ⟨j, rfl, hj, hown, hW⟩ := hrel
    by_cases h0 : n / 10 ^ (9 * j) = 0
    · have hj0 : 0 < j := by
        rcases Nat.eq_zero_or_pos j with h | h
        · subst h; have := HVP.out; simp at h0; omega
        · exact h
      have hj9 : 9 * j ≤ 317 := by have := digits_bound (hj hj0) HVL.out; omega
      have hlt0 : n < 10 ^ (9 * j) := (Nat.div_eq_zero_iff_lt (Nat.pow_pos (by omega))).1 h0
      rw [h0]
      obtain ⟨g, cap, cur, hv, hbase, hheap, hncap, hcapm, hcur, htake⟩ : ∃ g cap cur, u4 = .slice (some ⟨g, 0, none⟩) (9 * j) cap ∧ w.heap.size ≤ g ∧ wr.heap[g]? = some (.cells cur 5 (0, 0)) ∧ 9 * j ≤ cap ∧ cap ≤ maxLen ∧ cur.size = cap * 1 ∧ cur.toList.take (9 * j * 1) = bvs (Dm.leDec n (9 * j)) := by
        rcases hown.2 with ⟨_, h⟩ | h
        · omega
        · exact h
      rw [hv]
      have hB : Blk wr g 5 cur.toList := by unfold Blk; simpa using hheap
      have hcat : cur.toList = bvs (Dm.leDec n (9 * j)) ++ cur.toList.drop (9 * j) := by
        rw [← htake, Nat.mul_one]; exact (List.take_append_drop _ _).symm
      rw [hcat] at hB
      generalize cur.toList.drop (9 * j) = rest at *
      have hse : (bs (Dm.str 0)).size = 0 := by rw [size_bs]; rfl
      obtain ⟨he1, he2⟩ := str_empty hse
      have HLT := Lib.hid hlt0
      unfold maxLen at hcapm
      clear hlt0 hown hheap hcur htake hcat hj hv hse
      go_wp2_with fail
      go_loop [4] (StripRel n (9 * j) g cap) (fun v => match v with | .slice _ k _ => k | _ => 0)
      case atStart => exact ⟨9 * j, rfl, by omega, Nat.le_refl _, HLT.out⟩
      case round =>
        obtain ⟨K, rfl, hK0, hKL, hKn⟩ := hrel
        obtain ⟨m, rfl⟩ : ∃ m, K = m + 1 := ⟨K - 1, by omega⟩
        have hcell : wr.cell? ⟨g, m, none⟩ = some (.int .u8 ((Dm.dgt n m).toNat : Int)) := by
          rw [hB.cell, List.getElem?_append_left (by simp [bvs, Dm.length_leDec]; omega)]
          simp [bvs, Dm.leDec_get n (9 * j) m (by omega)]
        have hz := Dm.dgt_zero hKn
        have HKN := Lib.hid hKn
        have HZ := Lib.hid hz
        clear hKn hz
        by_cases h48 : (Dm.dgt n m).toNat = 48
        · have ht : (((Dm.dgt n m).toNat : Int) == 48) = true := by rw [h48]; rfl
          have hlt1 : n < 10 ^ m := HZ.out.1 h48
          have hm1 : 1 ≤ m := by
            rcases Nat.eq_zero_or_pos m with h | h
            · subst h; have := HVP.out; omega
            · exact h
          have HL1 := Lib.hid hlt1
          clear h48 hlt1
          go_wp2_with fail
          exact ⟨⟨m, rfl, hm1, by omega, HL1.out⟩, by simp⟩
        · have ht : (((Dm.dgt n m).toNat : Int) == 48) = false := by
            rw [beq_eq_false_iff_ne]; omega
          have hle1 : 10 ^ m ≤ n := by
            rcases Nat.lt_or_ge n (10 ^ m) with h | h
            · exact absurd (HZ.out.2 h) h48
            · exact h
          have HDEC : Hid (Dm.dec n = (Dm.leDec n (m + 1)).reverse) := Dm.dec_pos hle1 HKN.out
          obtain ⟨rest', hrest⟩ := append_split (l := Dm.leDec n (9 * j)) (K := m + 1) (by rw [Dm.length_leDec]; omega) rest
          rw [hrest, leDec_take n hKL] at hB
          have hll := Dm.length_leDec n (m + 1)
          generalize Dm.leDec n (m + 1) = l at hB hll HDEC
          clear h48 hle1 hrest HKN HZ
          go_wp2_with fail
          obtain ⟨wz, hwz⟩ : ∃ wz : World, wz = wr := ⟨_, rfl⟩
          go_loopw [56] (RevRel l rest' g w) (fun i _ => l.length - (intOf i).toNat)
          case atStart => exact ⟨0, by omega, rfl, by rw [rv_zero]; exact hB, hW⟩
          case round =>
            obtain ⟨I, hI, rfl, hB2, hW2⟩ := hrel
            by_cases hlt : I < (m + 1) / 2
            · have hc1 : wr.cell? ⟨g, I, none⟩ = some (.int .u8 ((l.getD I 0).toNat : Int)) := by
                rw [hB2.cell, List.getElem?_append_left (by simp [bvs, length_rv]; omega)]
                simp only [bvs, List.getElem?_map]
                rw [rv_get (by omega), if_neg (by omega)]; rfl
              have hc2 : wr.cell? ⟨g, m - I, none⟩ = some (.int .u8 ((l.getD (m - I) 0).toNat : Int)) := by
                rw [hB2.cell, List.getElem?_append_left (by simp [bvs, length_rv]; omega)]
                simp only [bvs, List.getElem?_map]
                rw [rv_get (by omega), if_neg (by omega)]; rfl
              have hf1 := hB2.frozen I
              have hf2 := hB2.frozen (m - I)
              go_wp2_with fail
              have hB3 := (hB2.set_ I (.int .u8 ((l.getD (m - I) 0).toNat : Int))).set_ (m - I) (.int .u8 ((l.getD I 0).toNat : Int))
              rw [List.set_append_left _ _ (by simp [bvs, length_rv]; omega), bvs_set, List.set_append_left _ _ (by simp [bvs, length_rv]; omega), bvs_set, show m - I = l.length - 1 - I from by omega, rv_step (by omega), show l.length - 1 - I = m - I from by omega] at hB3
              have hW3 : Below w.heap.size w (((wr.setCell ⟨g, I, none⟩ (.int .u8 ((l.getD (m - I) 0).toNat : Int))).setCell ⟨g, m - I, none⟩ (.int .u8 ((l.getD I 0).toNat : Int))).drew) := ((hW2.setCell hbase _).setCell hbase _).drew
              have hB4 := hB3.drew
              clear hB3
              rw [List.getD_eq_getElem?_getD, List.getD_eq_getElem?_getD] at hB4 hW3
              go_region
              clear hc1 hc2 hf1 hf2
              generalize World.drew _ = W3 at hB4 hW3 ⊢
              go_wp2_with fail
              go_roundw
              case rel => exact ⟨I + 1, by omega, by go_num, hB4, hW3⟩
              case measure => simp [intOf] <;> omega
            · obtain rfl : I = l.length / 2 := by omega
              rw [rv_half, ← HDEC.out] at hB2
              have hld : (Dm.dec n).length = m + 1 := by rw [HDEC.out, List.length_reverse, hll]
              have hcv := run_bytes_str (P := Tryd.prog) wr 93 9 5 (some ⟨g, 0, none⟩) (Dm.dec n) cap Tryd.underlying93 Tryd.underlying5 Tryd.underlying9 hB2.bytesL
              rw [hld] at hcv
              clear hld
              go_wp2_with fail
              go_ret2
              exact ⟨by rw [HNN.out]; rfl, hW2⟩
    · have hle : 10 ^ (9 * j) ≤ n := by
        rcases Nat.lt_or_ge n (10 ^ (9 * j)) with h | h
        · exact absurd (Nat.div_eq_of_lt h) h0
        · exact h
      have hj9 : 9 * j ≤ 308 := digits_bound hle HVL.out
      obtain ⟨A, hA⟩ : ∃ A, n / 10 ^ (9 * j) = A := ⟨_, rfl⟩
      have hAn : A ≤ n := by rw [← hA]; exact Nat.div_le_self _ _
      rw [hA] at h0 ⊢
      have hlenA : (Dm.str A).length ≤ s.size := by
        rw [Dm.length_str_le]
        have h2 := Dm.val_lt (tl s)
        rw [HNN.out, length_tl] at h2
        omega
      have hsA : 0 < (bs (Dm.str A)).size := by
        rw [size_bs]
        rcases Nat.eq_zero_or_pos (Dm.str A).length with h | h
        · exact absurd (Dm.str_eq_nil.1 (List.eq_nil_of_length_eq_zero h)) h0
        · exact h
      obtain ⟨he1, he2⟩ := str_full hsA
      have hvA : validB (tl (bs (Dm.str A))) = true := by rw [tl_bs]; exact validB_short' (by omega)
      have hvM : validB (tl (bs (Dm.str 1000000000))) = true := by rw [tl_bs]; decide +kernel
      have hdv : divV (tl (bs (Dm.str A))) (tl (bs (Dm.str 1000000000))) = .tuple #[Sv (Dm.str (A / 1000000000)), Sv (Dm.str (A % 1000000000))] := by rw [divV, tl_bs, tl_bs, Dm.val_str, Dm.val_str]
      have hr : A % 1000000000 < 4294967296 := by omega
      have hvr : validB (tl (bs (Dm.str (A % 1000000000)))) = true := by rw [tl_bs]; exact validB_short' (Nat.le_trans (Dm.length_str_le.2 (show A % 1000000000 < 256 ^ 4 from hr)) (by omega))
      have hszr : (bs (Dm.str (A % 1000000000))).size ≤ 4 := by rw [size_bs]; exact Dm.length_str_le.2 (show A % 1000000000 < 256 ^ 4 from hr)
      have hsm := smallV_ok hvr (by omega)
      simp only [tl_bs, Dm.val_str] at hsm
      have HVA := Lib.hid hvA
      have HVM := Lib.hid hvM
      have HDV := Lib.hid hdv
      have HSM := Lib.hid hsm
      have HA := Lib.hid hA
      have HLE := Lib.hid hle
      clear hvA hvM hdv hvr hsm hA hle hj
      go_wp2_with fail
      refine (of_at _ 1000000000 _ rfl (by omega)).mono ?_
      rintro e w1 ⟨rfl, hb1⟩
      go_wp2_with fail
      refine (HDD.out _ _ _ HVA.out HVM.out (by rw [size_bs]; omega) (by rw [tl_bs, Dm.val_str]; omega)).mono ?_
      rintro e w2 ⟨rfl, hb2⟩
      rw [HDV.out]
      go_wp2_with fail
      refine (small_any _ _ (by omega)).mono ?_
      rintro e w3 ⟨rfl, rfl⟩
      rw [tl_bs, HSM.out]
      go_wp2_with fail
      have hown2 := own_below (own_below hown hb1) hb2
      have hW2 : Below w.heap.size w w2 := (hW.trans (hb1.mono hW.size)).trans (hb2.mono (Nat.le_trans hW.size hb1.size))
      clear hown hW hb1 hb2
      go_loopw [28, 7, 4] (TextIn n j w) (fun i _ _ _ => 9 - (intOf i).toNat)
      case atStart => exact ⟨0, by omega, rfl, by rw [HA.out]; simp, hown2, hW2⟩
      case round =>
        obtain ⟨I, hI, rfl, rfl, hown3, hW3⟩ := hrel
        by_cases hlt : I < 9
        · have hr3 : n / 10 ^ (9 * j) % 1000000000 / 10 ^ I < 1000000000 := Nat.lt_of_le_of_lt (Nat.div_le_self _ _) (Nat.mod_lt _ (by omega))
          have hdg : Dm.dgt n (9 * j + I) = Dm.dgt (n / 10 ^ (9 * j) % 1000000000) I := (Dm.dgt_chunk n j I hlt).symm
          have hdn := Dm.dgt_toNat (n / 10 ^ (9 * j) % 1000000000) I
          rw [← hdg] at hdn
          have hnext : n / 10 ^ (9 * j) % 1000000000 / 10 ^ (I + 1) = n / 10 ^ (9 * j) % 1000000000 / 10 ^ I / 10 := by rw [Nat.pow_succ, Nat.div_div_eq_div_mul]
          have HNX := Lib.hid hnext
          have HDN := Lib.hid hdn
          have HL : Hid (Dm.leDec n (9 * j + (I + 1)) = Dm.leDec n (9 * j + I) ++ [Dm.dgt n (9 * j + I)]) := rfl
          clear hdg hdn hnext
          obtain ⟨R, hR⟩ : ∃ R, n / 10 ^ (9 * j) % 1000000000 / 10 ^ I = R := ⟨_, rfl⟩
          have HRR := Lib.hid hR
          rw [hR] at HDN HNX hr3 ⊢
          clear hR
          go_wp2_with (first | (at_builtin; refine wpList_append_own _ rfl _ _ 93 rfl w.heap.size 5 i0 (.int .u8 0) 1 1 Tryd.underlying93 hi0 hz0 hz1 hz2 rfl (by decide) _ _ _ rfl (hown3.alloc _) ⟨wr.heap.size, 0, none⟩ 1 1 [.int .u8 ((Dm.dgt n (9 * j + I)).toNat : Int)] rfl rfl ?c1 ?c2 ?c3 ?c4 ?c5 ?_))
          case c1 =>
            intro q u hu
            have e : (48 : Int) + (R : Int) % 10 = ((Dm.dgt n (9 * j + I)).toNat : Int) := by rw [HDN.out]; omega
            cases q with
            | zero => rw [addr_add, e]; simp at hu; rw [← hu]; exact (Blk.new wr _ [_]).cell 0
            | succ q => simp at hu
          case c2 => intro u hu; simp at hu; rw [hu]; rfl
          case c3 => unfold maxLen; omega
          case c4 => omega
          case c5 => exact Nat.le_trans hW3.size (by simp)
          intro v' w4 hown4 hgr4 _
          have hbw4 : Below w.heap.size w w4 := (hW3.alloc hW3.size _).grown hgr4 (Nat.le_trans hW3.size (by simp)) (fun k hk => (hown3.lt k hk).1)
          clear hgr4
          go_wp2_with fail
          go_roundw
          case rel =>
            refine ⟨I + 1, by omega, by go_num, val_int (by rw [HNX.out]; omega), ?_, hbw4⟩
            rw [HL.out]
            have e2 : bvs (Dm.leDec n (9 * j + I) ++ [Dm.dgt n (9 * j + I)]) = bvs (Dm.leDec n (9 * j + I)) ++ [.int .u8 ((Dm.dgt n (9 * j + I)).toNat : Int)] := by simp [bvs]
            rw [e2]
            exact hown4
          case measure => simp [intOf] <;> omega
        · obtain rfl : I = 9 := by omega
          go_wp2_with fail
          go_roundw
          case rel =>
            refine ⟨j + 1, ?_, fun _ => by rw [show 9 * (j + 1) - 9 = 9 * j from by omega]; exact HLE.out, hown3, hW3⟩
            rw [show 9 * (j + 1) = 9 * j + 9 from by omega, Nat.pow_add, ← Nat.div_div_eq_div_mul, HA.out]
          case measure =>
            simp only [numV]
            rw [tl_bs, tl_bs, Dm.val_str, Dm.val_str]
            omega
set_option maxHeartbeats 1000000 in
theorem Text_any (N : Nat) (hD : DivUpto N) (s : ByteArray) (w : World) (h1 : s.size ≤ 1073741824) (hN : validB (tl s) = true → s.size ≤ N) :
    Calls Tryd.prog 68 #[.string s] w fun e w' => e = .returned (textV (tl s)) ∧ Below w.heap.size w w' := by
  cases hs : validB (tl s) with
  | false =>
    have HS := Lib.hid hs
    clear hs
    go_enter Tryd.func68, Tryd.ntmps68
    go_wp2_with fail
    refine (valid_at s false _ h1 HS.out).mono ?_
    rintro e w' ⟨rfl, rfl⟩
    go_wp2_with fail
    go_ret2
    exact ⟨by rw [textV, HS.out]; rfl, Below.refl _ _⟩
  | true =>
    rcases Nat.eq_zero_or_pos s.size with h0 | h0
    · obtain ⟨he1, he2⟩ := str_empty h0
      have HS := Lib.hid hs
      clear hs
      go_enter Tryd.func68, Tryd.ntmps68
      go_wp2_with fail
      refine (valid_at s true _ h1 HS.out).mono ?_
      rintro e w' ⟨rfl, rfl⟩
      go_wp2_with fail
      go_ret2
      have htl : tl s = [] := List.eq_nil_of_length_eq_zero (by rw [length_tl]; exact h0)
      exact ⟨by rw [textV, HS.out, htl]; rfl, Below.refl _ _⟩
    · refine (Text_ok N hD s w hs (hN hs) h0).mono ?_
      rintro e w' ⟨rfl, hb⟩
      exact ⟨by rw [textV, hs]; rfl, hb⟩
end Go.Proofs.YtlagcdgfmgkooaaDoor
