/-
  Walk over natural.Parse.
-/
import Derived.Test.YtlagcdgfmgkooaaDoorNat10
import Derived.Test.YtlagcdgfmgkooaaDoorDecP
import Derived.Shelf.Strings.SlTrimAscii
namespace Go.Proofs.YtlagcdgfmgkooaaDoor
open Go.RowKit
set_option linter.unusedVariables false

def parseV (l : List UInt8) : Value := if Dm.okDec l then fitV (Dm.str (Dm.dv l)) else .tuple #[Sv [], .int .i64 4]
def digitL : List UInt8 := [48, 49, 50, 51, 52, 53, 54, 55, 56, 57]
theorem digitL_has (c : UInt8) : digitL.contains c = Dm.isDig c := by
  rw [Bool.eq_iff_iff, Dm.isDig_iff]
  simp [digitL]
  constructor
  · rintro (rfl | rfl | rfl | rfl | rfl | rfl | rfl | rfl | rfl | rfl) <;> decide
  · intro h
    have : ∀ n : Nat, 48 ≤ n → n ≤ 57 → n = 48 ∨ n = 49 ∨ n = 50 ∨ n = 51 ∨ n = 52 ∨ n = 53 ∨ n = 54 ∨ n = 55 ∨ n = 56 ∨ n = 57 := by omega
    rcases this _ h.1 h.2 with e | e | e | e | e | e | e | e | e | e
    · exact .inl (UInt8.toNat_inj.1 e)
    · exact .inr (.inl (UInt8.toNat_inj.1 e))
    · exact .inr (.inr (.inl (UInt8.toNat_inj.1 e)))
    · exact .inr (.inr (.inr (.inl (UInt8.toNat_inj.1 e))))
    · exact .inr (.inr (.inr (.inr (.inl (UInt8.toNat_inj.1 e)))))
    · exact .inr (.inr (.inr (.inr (.inr (.inl (UInt8.toNat_inj.1 e))))))
    · exact .inr (.inr (.inr (.inr (.inr (.inr (.inl (UInt8.toNat_inj.1 e)))))))
    · exact .inr (.inr (.inr (.inr (.inr (.inr (.inr (.inl (UInt8.toNat_inj.1 e))))))))
    · exact .inr (.inr (.inr (.inr (.inr (.inr (.inr (.inr (.inl (UInt8.toNat_inj.1 e)))))))))
    · exact .inr (.inr (.inr (.inr (.inr (.inr (.inr (.inr (.inr (UInt8.toNat_inj.1 e)))))))))
theorem dropWhile_nil {α : Type} (p : α → Bool) : ∀ l : List α, l.dropWhile p = [] ↔ l.all p = true
  | [] => by simp
  | a :: l => by
    rw [List.dropWhile_cons, List.all_cons]
    by_cases h : p a = true
    · rw [if_pos h, h, dropWhile_nil p l]; simp
    · rw [if_neg h]; simp [h]
theorem all_takeWhile {α : Type} (p : α → Bool) : ∀ l : List α, (l.takeWhile p).all p = true
  | [] => rfl
  | a :: l => by
    rw [List.takeWhile_cons]
    by_cases h : p a = true
    · rw [if_pos h, List.all_cons, h, all_takeWhile p l]; rfl
    · rw [if_neg h]; rfl
theorem dropWhile_all {α : Type} (p : α → Bool) (l : List α) (h : l.all p = true) : l.dropWhile p = [] := (dropWhile_nil p l).2 h
/-- what is left of a string behind strings.Trim by digits is empty just if all its bytes are digits -/
theorem trim_digits (l : List UInt8) : Lib.trimS l digitL = [] ↔ Dm.digs l = true := by
  have hp : (fun c => digitL.contains c) = Dm.isDig := by funext c; exact digitL_has c
  unfold Lib.trimS Lib.trimLeftS Lib.trimRightS Dm.digs
  rw [hp]
  constructor
  · intro h
    have h1 := (dropWhile_nil _ _).1 h
    rw [List.all_reverse] at h1
    have h2 : l.reverse.all Dm.isDig = true := by
      have h3 := List.takeWhile_append_dropWhile (p := Dm.isDig) (l := l.reverse)
      rw [← h3, List.all_append, h1, Bool.and_true]
      exact all_takeWhile _ _
    rw [List.all_reverse] at h2
    exact h2
  · intro h
    rw [dropWhile_all _ l.reverse (by rw [List.all_reverse]; exact h)]
    rfl
theorem trim_any (s : ByteArray) (w : World) (hs : s.size ≤ 1073741824) :
    Calls Tryd.prog 91 #[.string s, .string ⟨#[48, 49, 50, 51, 52, 53, 54, 55, 56, 57]⟩] w fun e w' => e = .returned (Sv (Lib.trimS (tl s) digitL)) ∧ Below w.heap.size w w' :=
  Any.strings_Trim_laid Tryd.lays160 (by kernel_rfl) s ⟨#[48, 49, 50, 51, 52, 53, 54, 55, 56, 57]⟩ w (by omega) (by decide) (ascii_of_all (by decide))
def z129L : List Value := List.replicate 129 (.int .u8 0)
def z129 : Array Value := z129L.toArray
theorem zero129 (w : World) : (zeroValue 110).run Tryd.prog w = .ok (.agg z129) w := by kernel_rfl
theorem z129_bvs : z129L = bvs (Dm.be (Dm.byteAt 0) 129) := by
  have e : Dm.byteAt 0 = fun _ => 0 := by funext i; unfold Dm.byteAt; simp
  have h := Dm.soFar_zero (fun _ => 0) 129
  have e2 : Dm.soFar (fun _ => (0 : UInt8)) 0 = fun _ => 0 := by funext i; simp [Dm.soFar]
  rw [e2] at h
  rw [e, h, bvs_zero]; rfl
def PaRel (s : ByteArray) (w : World) (i : Value) (wr : World) : Prop := ∃ k : Nat, k ≤ s.size ∧ i = .int .i64 (k : Int) ∧ Blk wr w.heap.size 110 (bvs (Dm.be (Dm.byteAt (Dm.dv ((tl s).take k))) 129)) ∧ Below w.heap.size w wr
def mix (n m k : Nat) : Nat → UInt8 := fun i => if i < k then Dm.byteAt m i else Dm.byteAt n i
theorem mix_zero (n m : Nat) : mix n m 0 = Dm.byteAt n := by funext i; simp [mix]
theorem mix_all (n m k : Nat) : Dm.be (mix n m k) k = Dm.be (Dm.byteAt m) k := Dm.be_congr fun i hi => by simp [mix, hi]
theorem mix_at (n m k : Nat) : mix n m k k = Dm.byteAt n k := by simp [mix]
theorem mix_ne (n m k : Nat) {i : Nat} (h : i ≠ k) : mix n m (k + 1) i = mix n m k i := by
  unfold mix
  by_cases h1 : i < k
  · rw [if_pos h1, if_pos (by omega)]
  · rw [if_neg h1, if_neg (by omega)]
theorem mix_new (n m k : Nat) : mix n m (k + 1) k = Dm.byteAt m k := by simp [mix]
def PaIn (n d : Nat) (w : World) (c i : Value) (wr : World) : Prop := ∃ k : Nat, k ≤ 129 ∧ i = .int .i64 (k : Int) ∧ c = .int .i64 (Dm.pc n d k : Nat) ∧ Blk wr w.heap.size 110 (bvs (Dm.be (mix n (10 * n + d) k) 129)) ∧ Below w.heap.size w wr
theorem dv309 {l : List UInt8} (h : Dm.digs l = true) (hl : l.length ≤ 309) : Dm.dv l < 256 ^ 129 := by
  obtain ⟨K, T, hK, hT, hlt⟩ : ∃ K T : Nat, K = 309 ∧ T = 10 ^ K ∧ T < 256 ^ 129 := ⟨309, _, rfl, rfl, by decide +kernel⟩
  have h1 := Dm.dv_lt h
  have h2 : 10 ^ l.length ≤ 10 ^ K := Nat.pow_le_pow_right (by omega) (by omega)
  omega
theorem long309 {l : List UInt8} (h : Dm.okDec l = true) (hl : 309 < l.length) : parseV l = .tuple #[Sv [], .int .i64 5] := by
  rw [parseV, if_pos h, fitV, if_neg]
  intro h1
  have h2 := Dm.length_str_le.1 h1
  have h3 := Dm.okDec_long h (by omega)
  have := digits_bound h3 h2
  omega
theorem blk_be {W : World} {g n k : Nat} {t : TypeId} {f : Nat → UInt8} (hB : Blk W g t (bvs (Dm.be f n))) (hk : k < n) (h : Nat → UInt8) (hh : ∀ j, j ≠ k → h j = f j) : Blk (W.setCell ⟨g, n - 1 - k, none⟩ (.int .u8 ((h k).toNat : Int))) g t (bvs (Dm.be h n)) := by
  rw [← Dm.be_set f h n k hk (fun i _ hi => hh i hi), ← bvs_set]
  exact hB.set_ _ _
theorem be_cell {W : World} {g n k : Nat} {t : TypeId} {f : Nat → UInt8} (hB : Blk W g t (bvs (Dm.be f n))) (hk : k < n) : W.cell? ⟨g, n - 1 - k, none⟩ = some (.int .u8 ((f k).toNat : Int)) := by
  rw [hB.cell, bvs_at (by rw [Dm.length_be]; omega)]
  have := Dm.be_get f n (n - 1 - k) (by omega)
  rw [show n - 1 - (n - 1 - k) = k from by omega, List.getElem?_eq_getElem (by rw [Dm.length_be]; omega)] at this
  rw [Option.some.inj this]
set_option maxRecDepth 20000 in
set_option maxHeartbeats 2000000 in
theorem Parse_digits (s : ByteArray) (w : World) (h0 : 0 < s.size) (hz : ¬ (1 < s.size ∧ (s[0].toNat : Int) = 48)) (hd : Dm.digs (tl s) = true) (hl : s.size ≤ 309) :
    Calls Tryd.prog 71 #[.string s] w fun e w' => e = .returned (fitV (Dm.str (Dm.dv (tl s)))) ∧ Below w.heap.size w w' := by
  obtain ⟨he1, he2⟩ := str_full h0
  have HD := Lib.hid hd
  have HT := Lib.hid ((trim_digits (tl s)).2 hd)
  have HV := Lib.hid (dv309 hd (by rw [length_tl]; exact hl))
  obtain ⟨fr, fe, hf⟩ := fitV_form (Dm.str (Dm.dv (tl s)))
  have HF := Lib.hid hf
  have hfl : (bs (Dm.str (Dm.dv (tl s)))).size ≤ 1073741824 := by rw [size_bs]; have := Dm.length_str_le.2 HV.out; omega
  clear hd hf
  have hlead : 1 < s.size → ((s[0].toNat : Int) == 48) = false := fun h => by rw [beq_eq_false_iff_ne]; exact fun e => hz ⟨h, e⟩
  have hzv := zero129
  have hT : ∀ W, Calls Tryd.prog 91 #[.string s, .string ⟨#[48, 49, 50, 51, 52, 53, 54, 55, 56, 57]⟩] W fun e w' => e = .returned (.string ⟨#[]⟩) ∧ Below W.heap.size W w' := fun W =>
    (trim_any s W (by omega)).mono fun e w' ⟨he, hw⟩ => ⟨by rw [he, HT.out]; rfl, hw⟩
  have HTT := Lib.hid hT
  clear hT
  have hcs : ¬ 1 < s.size ∨ (1 < s.size ∧ ((s[0].toNat : Int) == 48) = false) := by
    by_cases h : 1 < s.size
    · exact .inr ⟨h, hlead h⟩
    · exact .inl h
  clear hlead hz
  rcases hcs with h1 | ⟨h1, hl2⟩
  all_goals
    go_enter Tryd.func71, Tryd.ntmps71
    go_wp2_with fail
    refine (HTT.out _).mono ?_
    rintro e w1 ⟨rfl, hb1⟩
    go_wp2_with fail
    clear hzv
    go_loopw [28] (PaRel s w1) (fun i _ => s.size - (intOf i).toNat)
    case atStart => exact ⟨0, by omega, rfl, by rw [List.take_zero, Dm.dv_nil, ← z129_bvs]; exact Blk.new _ _ _, (Below.refl _ _).alloc (Nat.le_refl _) _⟩
    case round =>
      obtain ⟨k, hk, rfl, hB, hW⟩ := hrel
      by_cases hlt : k < s.size
      · have hdk : 48 ≤ s[k].toNat ∧ s[k].toNat ≤ 57 := by
          have := List.all_eq_true.1 HD.out s[k] (by rw [← tl_getElem s k hlt]; exact List.getElem_mem _)
          exact Dm.isDig_iff.1 this
        obtain ⟨hd1, hd2⟩ := hdk
        have HS : Hid (Dm.dv ((tl s).take (k + 1)) = 10 * Dm.dv ((tl s).take k) + (s[k].toNat - 48)) := by show _ = _; rw [take_snoc s k hlt, Dm.dv_snoc]
        obtain ⟨d, hdd⟩ : ∃ d, d = s[k].toNat - 48 := ⟨_, rfl⟩
        have hd9 : d ≤ 9 := by omega
        have hdi : (s[k].toNat : Int) - 48 = (d : Int) := by omega
        rw [← hdd] at HS
        have HDI := Lib.hid hdi
        clear hdd hdi
        generalize Dm.dv ((tl s).take k) = n at *
        go_wp2_with fail
        rw [HDI.out]
        obtain ⟨wo, rfl⟩ : ∃ wo : World, wo = wr := ⟨_, rfl⟩
        go_loopw [6, 36] (PaIn n d w1) (fun _ i _ => 129 - (intOf i).toNat)
        case atStart => exact ⟨0, by omega, rfl, by rw [Dm.pc_zero], by rw [mix_zero]; exact hB, hW⟩
        case round =>
          clear hB hW
          obtain ⟨j, hj, rfl, rfl, hB, hW⟩ := hrel
          by_cases hjl : j < 129
          · have hcell : wr.cell? ⟨w1.heap.size, 128 - j, none⟩ = some (.int .u8 ((Dm.byteAt n j).toNat : Int)) := (be_cell hB hjl).trans (by rw [mix_at])
            have hfr := hB.frozen (128 - j)
            have hpc := Dm.pc_le n d j hd9
            have hu := (Dm.byteAt n j).toNat_lt
            have HP1 := Lib.hid (Dm.pc_succ n d j)
            have HP2 := Lib.hid (Dm.pc_digit n d j)
            have HB1 := Lib.hid (Dm.byteAt_toNat n j)
            have HB2 := Lib.hid (Dm.byteAt_toNat (10 * n + d) j)
            go_wp2_with fail
            go_roundw
            case rel =>
              refine ⟨j + 1, by omega, by go_num, val_int (by rw [HP1.out, ← HB1.out]; omega), ?_, hW.setCell (Nat.le_refl _) _⟩
              have e : ((Dm.pc n d j : Int) + 10 * ((Dm.byteAt n j).toNat : Int)) % 256 = ((mix n (10 * n + d) (j + 1) j).toNat : Int) := by
                rw [mix_new, HB2.out, HP2.out, ← HB1.out]; omega
              rw [e]
              exact blk_be hB hjl _ (fun i hi => mix_ne _ _ _ hi)
            case measure => simp [intOf] <;> omega
          · obtain rfl : j = 129 := by omega
            rw [mix_all] at hB
            go_wp2_with fail
            go_roundw
            case rel => exact ⟨k + 1, by omega, by go_num, by rw [HS.out]; exact hB, hW⟩
            case measure => simp [intOf] <;> omega
      · obtain rfl : k = s.size := by omega
        have ht : (tl s).take s.size = tl s := List.take_of_length_le (by rw [length_tl]; exact Nat.le_refl _)
        rw [ht] at hB
        clear ht
        have HTR : Hid (Dm.trim (Dm.be (Dm.byteAt (Dm.dv (tl s))) 129) = Dm.str (Dm.dv (tl s))) := Dm.trim_eq_str (by rw [Dm.val_be_byteAt]; exact Nat.mod_eq_of_lt HV.out)
        go_wp2_with fail
        refine (trimmed_at (some ⟨w1.heap.size, 0, none⟩) (Dm.be (Dm.byteAt (Dm.dv (tl s))) 129) 129 129 _ (Dm.length_be _ _) (by omega) (by omega) hB.bytes).mono ?_
        rintro e w' ⟨rfl, rfl⟩
        rw [HTR.out]
        go_wp2_with fail
        refine (fitting_any _ _ hfl).mono ?_
        rintro e w' ⟨rfl, rfl⟩
        rw [tl_bs, HF.out]
        go_wp2_with fail
        go_ret2
        exact ⟨by rw [HF.out]; rfl, hb1.trans (hW.mono hb1.size)⟩
set_option maxRecDepth 20000 in
set_option maxHeartbeats 1000000 in
theorem Parse_any (s : ByteArray) (w : World) (hs : s.size ≤ 1000000) :
    Calls Tryd.prog 71 #[.string s] w fun e w' => e = .returned (parseV (tl s)) ∧ Below w.heap.size w w' := by
  rcases Nat.eq_zero_or_pos s.size with h0 | h0
  · obtain ⟨he1, he2⟩ := str_empty h0
    have HP : Hid (parseV (tl s) = .tuple #[Sv [], .int .i64 4]) := by show _ = _; rw [tl_empty h0]; rfl
    clear h0
    go_enter Tryd.func71, Tryd.ntmps71
    go_wp2_with fail
    go_ret2
    exact ⟨by rw [HP.out]; rfl, Below.refl _ _⟩
  · have hc := tl_cons s h0
    have hlen : (tl s).length = s.size := length_tl s
    by_cases hz : 1 < s.size ∧ (s[0].toNat : Int) = 48
    · obtain ⟨h1, h2⟩ := hz
      have HP : Hid (parseV (tl s) = .tuple #[Sv [], .int .i64 4]) := by
        show _ = _
        rw [parseV, if_neg]
        unfold Dm.okDec
        have e : s[0] = 48 := UInt8.toNat_inj.1 (by simpa using (by omega : s[0].toNat = 48))
        rw [hlen, hc, e]
        simp [h1]
      obtain ⟨he1, he2⟩ := str_full h0
      have h2' : ((s[0].toNat : Int) == 48) = true := by rw [beq_iff_eq]; exact h2
      clear h2 hc hlen
      go_enter Tryd.func71, Tryd.ntmps71
      go_wp2_with fail
      go_ret2
      exact ⟨by rw [HP.out]; rfl, Below.refl _ _⟩
    · cases hd : Dm.digs (tl s) with
      | false =>
        have HP : Hid (parseV (tl s) = .tuple #[Sv [], .int .i64 4]) := by
          show _ = _
          rw [parseV, if_neg]
          unfold Dm.okDec
          rw [hd]; simp
        have hne : ¬ Lib.trimS (tl s) digitL = [] := fun e => by have := (trim_digits (tl s)).1 e; rw [hd] at this; cases this
        obtain ⟨r, hr⟩ : ∃ r, r = bs (Lib.trimS (tl s) digitL) := ⟨_, rfl⟩
        have hr1 : r.toList.isEmpty = false := by rw [hr, toList_tl, tl_bs]; simpa using hne
        have hr2 : ¬ r.toList = [] := by rw [hr, toList_tl, tl_bs]; exact hne
        have hT : ∀ W, Calls Tryd.prog 91 #[.string s, .string ⟨#[48, 49, 50, 51, 52, 53, 54, 55, 56, 57]⟩] W fun e w' => e = .returned (.string r) ∧ Below W.heap.size W w' := fun W =>
          (trim_any s W (by omega)).mono fun e w' ⟨he, hw⟩ => ⟨by rw [he, hr], hw⟩
        have HTT := Lib.hid hT
        clear hT hr hne hc hlen
        obtain ⟨he1, he2⟩ := str_full h0
        have hcs : ¬ 1 < s.size ∨ (1 < s.size ∧ ((s[0].toNat : Int) == 48) = false) := by
          by_cases h : 1 < s.size
          · exact .inr ⟨h, by rw [beq_eq_false_iff_ne]; exact fun e => hz ⟨h, e⟩⟩
          · exact .inl h
        clear hz hd
        rcases hcs with h1 | ⟨h1, hl2⟩
        all_goals
          go_enter Tryd.func71, Tryd.ntmps71
          go_wp2_with fail
          refine (HTT.out _).mono ?_
          rintro e w1 ⟨rfl, hb1⟩
          go_wp2_with fail
          go_ret2
          exact ⟨by rw [HP.out]; rfl, hb1⟩
      | true =>
        have hok : Dm.okDec (tl s) = true := by
          unfold Dm.okDec
          rw [hd, hlen, hc]
          have : ¬ (1 < s.size ∧ s[0] = 48) := fun ⟨h, e⟩ => hz ⟨h, by simp [e]⟩
          simp
          by_cases h : s.size ≤ 1
          · exact .inl h
          · exact .inr fun e => this ⟨by omega, e⟩
        by_cases hl : s.size ≤ 309
        · have HP : Hid (parseV (tl s) = fitV (Dm.str (Dm.dv (tl s)))) := by show _ = _; rw [parseV, if_pos hok]
          rw [HP.out]
          exact Parse_digits s w h0 hz hd hl
        · have HP := Lib.hid (long309 hok (by rw [hlen]; omega))
          have HT := Lib.hid ((trim_digits (tl s)).2 hd)
          have hT : ∀ W, Calls Tryd.prog 91 #[.string s, .string ⟨#[48, 49, 50, 51, 52, 53, 54, 55, 56, 57]⟩] W fun e w' => e = .returned (.string ⟨#[]⟩) ∧ Below W.heap.size W w' := fun W =>
            (trim_any s W (by omega)).mono fun e w' ⟨he, hw⟩ => ⟨by rw [he, HT.out]; rfl, hw⟩
          have HTT := Lib.hid hT
          have hl2 : ((s[0].toNat : Int) == 48) = false := by rw [beq_eq_false_iff_ne]; exact fun e => hz ⟨by omega, e⟩
          have h1 : 1 < s.size := by omega
          clear hT hz hd hok hc hlen
          obtain ⟨he1, he2⟩ := str_full h0
          go_enter Tryd.func71, Tryd.ntmps71
          go_wp2_with fail
          refine (HTT.out _).mono ?_
          rintro e w1 ⟨rfl, hb1⟩
          go_wp2_with fail
          go_ret2
          exact ⟨by rw [HP.out]; rfl, hb1⟩
end Go.Proofs.YtlagcdgfmgkooaaDoor
