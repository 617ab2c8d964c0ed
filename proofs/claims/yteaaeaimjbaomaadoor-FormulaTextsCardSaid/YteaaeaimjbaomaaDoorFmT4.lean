/-
  dominoref20: decimal, text, Text.
-/
import Derived.Test.YteaaeaimjbaomaaDoorFmT
import Derived.Test.YteaaeaimjbaomaaDoorFmB
import Derived.Deep.RegionHeld3
namespace Go.Proofs.YteaaeaimjbaomaaDoor
open Go.RowKit
set_option linter.unusedVariables false

theorem ba_app (l m : List UInt8) : (⟨l.toArray⟩ : ByteArray) ++ ⟨m.toArray⟩ = ⟨(l ++ m).toArray⟩ := by
  apply ByteArray.ext
  rw [ByteArray.data_append]; simp
theorem dec_len6 : ∀ (n : Nat), n < 1000000 → (Lib.decDigits n).length ≤ 6 := by
  have key : ∀ (k n : Nat), n < 10 ^ (k + 1) → (Lib.decDigits n).length ≤ k + 1 := by
    intro k
    induction k with
    | zero => intro n h; rw [Lib.decDigits, dif_pos (by omega)]; simp
    | succ k ih =>
      intro n h
      rw [Lib.decDigits]
      split
      · simp
      · have := ih (n / 10) (by rw [Nat.pow_succ] at h; omega)
        simp only [List.length_append, List.length_cons, List.length_nil]
        omega
  intro n h
  exact key 5 n h
set_option maxHeartbeats 2000000 in
theorem decimal_digit (n : Nat) (h : n < 10) (w : World) : Calls Tryd.prog 61 #[.int .i64 (n : Int)] w fun e w' => e = .returned (.string ⟨(Lib.decDigits n).toArray⟩) ∧ Below w.heap.size w w' := by
  rcases (by omega : n = 0 ∨ n = 1 ∨ n = 2 ∨ n = 3 ∨ n = 4 ∨ n = 5 ∨ n = 6 ∨ n = 7 ∨ n = 8 ∨ n = 9) with rfl | rfl | rfl | rfl | rfl | rfl | rfl | rfl | rfl | rfl <;>
    (go_enter Tryd.func61, Tryd.ntmps61
     go_wp2_with fail
     go_ret
     exact ⟨by first | rfl | (rw [Lib.decDigits]; rfl), Below.refl _ _⟩)
set_option maxHeartbeats 2000000 in
theorem decimal_any : ∀ (n : Nat), n < 1000000 → ∀ (w : World), Calls Tryd.prog 61 #[.int .i64 (n : Int)] w fun e w' => e = .returned (.string ⟨(Lib.decDigits n).toArray⟩) ∧ Below w.heap.size w w' := by
  intro n
  induction n using Nat.strongRecOn with
  | _ n ih =>
    intro hn w
    by_cases h : n < 10
    · exact decimal_digit n h w
    · have HC1 := Lib.hid (ih (n / 10) (by omega) (by omega) w)
      have hd : ((n : Int).tdiv 10) = ((n / 10 : Nat) : Int) := rfl
      have hm : ((n : Int).tmod 10) = ((n % 10 : Nat) : Int) := rfl
      have tn : decide ((n : Int) < 10) = false := by rw [decide_eq_false_iff_not]; omega
      have HD : Hid (Lib.decDigits n = Lib.decDigits (n / 10) ++ Lib.decDigits (n % 10)) := by
        refine Lib.hid ?_
        rw [Lib.decDigits, dif_neg h]
        congr 1
        rw [Lib.decDigits, dif_pos (by omega)]
      go_enter Tryd.func61, Tryd.ntmps61
      go_wp2_with fail
      rw [show (n : Int) / 10 = ((n / 10 : Nat) : Int) by omega]
      refine HC1.out.mono ?_
      rintro e w1 ⟨rfl, hb1⟩
      have HC2 := Lib.hid (ih (n % 10) (by omega) (by omega) w1)
      clear HC1 ih
      have hs1 : (Lib.decDigits (n / 10)).length ≤ 100 := Nat.le_trans (dec_len6 _ (by omega)) (by omega)
      have hs2 : (Lib.decDigits (n % 10)).length ≤ 100 := Nat.le_trans (dec_len6 _ (by omega)) (by omega)
      go_wp2_with fail
      rw [show (n : Int) % 10 = ((n % 10 : Nat) : Int) by omega]
      refine HC2.out.mono ?_
      rintro e w2 ⟨rfl, hb2⟩
      clear HC2
      clear hd hm tn
      generalize Lib.decDigits (n / 10) = x at *
      generalize Lib.decDigits (n % 10) = y at *
      go_wp2_with fail
      go_ret
      exact ⟨ret_val (by rw [HD.out, ba_app]; rfl), hb1.trans (hb2.mono hb1.size)⟩
theorem decimal_at (n : Int) (h0 : 0 ≤ n) (h : n < 1000000) (w : World) : Calls Tryd.prog 61 #[.int .i64 n] w fun e w' => e = .returned (.string ⟨(Lib.decDigits n.toNat).toArray⟩) ∧ Below w.heap.size w w' := by
  obtain ⟨k, rfl⟩ := Int.eq_ofNat_of_zero_le h0
  rw [Int.toNat_natCast]
  exact decimal_any k (by omega) w
theorem textKs_mono (t : Int → List UInt8) : ∀ (ks : List Int) (i m : Nat), (textKs t i (ks.take m)).length ≤ (textKs t i ks).length
  | [], i, m => by simp
  | y :: ys, i, 0 => by simp [textKs]
  | y :: ys, i, m + 1 => by
    rw [List.take_succ_cons, textKs, textKs]
    simp only [List.length_cons, List.length_append]
    have := textKs_mono t ys (i + 1) m
    omega
theorem kp_kid {w W : World} {g5 gf : Nat} {t5 tf : TypeId} {a b d v : Value} {ka : Addr} {ks : List Int} {j : Nat} {x : Int} (h : Kp w [(g5, t5, [a, b, d]), (gf, tf, [v])] W) (gi : Ints w w.heap.size (some ka) ks) (hx : ks[j]? = some x) :
    W.cell? ⟨gf, 0, none⟩ = some v ∧ W.cell? ⟨g5, 1, none⟩ = some b ∧ W.cell? (ka.add j) = some (.int .i64 x) := by
  obtain ⟨ka', hk', hc⟩ := gi.read h.below hx
  cases hk'
  exact ⟨(h.at_ 1 rfl).cell 0, (h.at_ 0 rfl).cell 1, hc⟩
/-- the string that dominoref20.text holds ahead of kid j -/
def rtxt (t : Int → List UInt8) (d : List UInt8) (ks : List Int) (j : Nat) : List UInt8 := if j = 0 then d ++ [40] else d ++ textKs t 0 (ks.take j)
set_option maxHeartbeats 2000000 in
theorem rtext_any (A : Option Addr) (c : Nat) (F : List Gt) (n : Int) (hF : F.length ≤ 40) (hK : ∀ g ∈ F, g.kids.length ≤ 40) (hn : n ≤ 40) (hV : ∀ (i : Nat) g, F[i]? = some g → GOk F.length 0 n i g) (f : Nat) :
    ∀ (a : Int) (w : World), 0 ≤ a → a < F.length → (F.length : Int) - a ≤ f → Gates w w.heap.size A F → (textP F f a).length ≤ 1000000 →
    Calls Tryd.prog 44 #[.agg #[.slice A F.length c], .int .i64 a] w fun e w' => e = .returned (.string ⟨(textP F f a).toArray⟩) ∧ Below w.heap.size w w' := by
  induction f with
  | zero => intro a w h0 h1 h2; omega
  | succ f ih =>
    intro a w h0 h1 h2 hG hlen
    obtain ⟨k, rfl⟩ := Int.eq_ofNat_of_zero_le h0
    have hk : k < F.length := by omega
    obtain ⟨g, hg⟩ : ∃ g, F[k]? = some g := ⟨_, List.getElem?_eq_getElem hk⟩
    have hok := hV k g hg
    have hkl := hK g (List.mem_of_getElem? hg)
    have hk1 := (Kp.start w).new 24 [.slice A F.length c]
    obtain ⟨ad, hA, KA, kc, gn, gk, gl, gi⟩ := hG.read hk1.below hg
    subst hA
    have HT : Hid (textP F (f + 1) (k : Int) = if g.kids = [] then Lib.decDigits g.leaf.toNat else Lib.decDigits g.need.toNat ++ textKs (textP F f) 0 g.kids ++ [41]) := by
      refine Lib.hid ?_
      rw [textP, Int.toNat_natCast, hg]
    have gn' : (w.alloc (.cells #[.slice (some ad) F.length c] 24)).cell? (ad.add (k * 3)) = some (.int .i64 g.need) := gn
    have gk' : (w.alloc (.cells #[.slice (some ad) F.length c] 24)).cell? ⟨(ad.add (k * 3)).block, (ad.add (k * 3)).off + 1, none⟩ = some (.slice KA g.kids.length kc) := gk
    have gl' : (w.alloc (.cells #[.slice (some ad) F.length c] 24)).cell? ⟨(ad.add (k * 3)).block, (ad.add (k * 3)).off + 2, none⟩ = some (.int .i64 g.leaf) := gl
    clear gn gk gl
    go_enter Tryd.func44, Tryd.ntmps44
    go_upto_region 2 with fail
    have hk2 := hk1.new 40 [.int .i64 g.need, .slice KA g.kids.length kc, .int .i64 g.leaf]
    have hk3 : Kp w [(w.heap.size + 1, 40, [.int .i64 g.need, .slice KA g.kids.length kc, .int .i64 g.leaf]), (w.heap.size, 24, [.slice (some ad) F.length c])] ((w.alloc (.cells #[.slice (some ad) F.length c] 24)).alloc (.cells #[.int .i64 g.need, .slice KA g.kids.length kc, .int .i64 g.leaf] 40)) := by simpa using hk2
    clear gn' gk' gl' hk1 hk2
    generalize (w.alloc (.cells #[.slice (some ad) F.length c] 24)).alloc (.cells #[.int .i64 g.need, .slice KA g.kids.length kc, .int .i64 g.leaf] 40) = W2 at *
    generalize w.heap.size + 1 = g5 at *
    obtain ⟨b0, b1, b2⟩ := (hk3.at_ 0 rfl).get3
    by_cases hkz : g.kids = []
    · have hz : ((g.kids.length : Int) == 0) = true := by rw [hkz]; rfl
      obtain ⟨l1, l2, l3⟩ := hok.1 hkz
      have HT2 : Hid (textP F (f + 1) (k : Int) = Lib.decDigits g.leaf.toNat) := by refine Lib.hid ?_; rw [HT.out, if_pos hkz]
      clear HT hkz ih hok
      go_wp2_with fail
      refine (decimal_at g.leaf l2 (by omega) W2).mono ?_
      rintro e w3 ⟨rfl, hb3⟩
      have hk4 := hk3.next hb3
      go_wp2_with fail
      go_ret
      rw [HT2.out]
      exact ⟨rfl, hk4.below⟩
    · have hz : ((g.kids.length : Int) == 0) = false := by
        rw [beq_eq_false_iff_ne]
        intro h9
        exact hkz (List.eq_nil_of_length_eq_zero (by omega))
      obtain ⟨l1, l2⟩ := hok.2.1 hkz
      have HT2 : Hid (textP F (f + 1) (k : Int) = Lib.decDigits g.need.toNat ++ textKs (textP F f) 0 g.kids ++ [41]) := by refine Lib.hid ?_; rw [HT.out, if_neg hkz]
      have HL : Hid ((Lib.decDigits g.need.toNat).length + (textKs (textP F f) 0 g.kids).length + 1 ≤ 1000000) := by
        refine Lib.hid ?_
        rw [HT2.out] at hlen
        simp only [List.length_append, List.length_cons, List.length_nil] at hlen
        omega
      have hin := hok.2.2
      have HI := Lib.hid ih
      have hkpos : 0 < g.kids.length := by
        rcases Nat.eq_zero_or_pos g.kids.length with h | h
        · exact absurd (List.eq_nil_of_length_eq_zero h) hkz
        · exact h
      clear HT hlen hkz ih hok
      go_wp2_with fail
      refine (decimal_at g.need (by omega) (by omega) W2).mono ?_
      rintro e w3 ⟨rfl, hb3⟩
      have hk4 := hk3.next hb3
      clear hk3 hb3 b0 b1 b2
      have hs0 : (Lib.decDigits g.need.toNat).length ≤ 6 := dec_len6 _ (by omega)
      go_wp2_with fail
      generalize hdd : Lib.decDigits g.need.toNat = D at *
      have hsz : ByteArray.mk #[(40 : UInt8)] = ⟨([40] : List UInt8).toArray⟩ := rfl
      rw [hsz, ba_app]
      go_loopg [6, 7] g.kids.length (fun m s6 s7 wx => ∃ j : Nat, j ≤ g.kids.length ∧ m = g.kids.length - j ∧ s7 = .int .i64 (j : Int) ∧ s6 = .string ⟨(rtxt (textP F f) D g.kids j).toArray⟩ ∧ Kp w [(g5, 40, [.int .i64 g.need, .slice KA g.kids.length kc, .int .i64 g.leaf]), (w.heap.size, 24, [.slice (some ad) F.length c])] wx)
      case atStart => exact ⟨0, Nat.zero_le _, rfl, rfl, rfl, hk4⟩
      case round =>
        obtain ⟨j, hj, rfl, rfl, rfl, hS⟩ := hrel
        clear hk4
        obtain ⟨b0, b1, b2⟩ := (hS.at_ 0 rfl).get3
        by_cases hjl : j < g.kids.length
        · obtain ⟨x, hx⟩ : ∃ x, g.kids[j]? = some x := ⟨_, List.getElem?_eq_getElem hjl⟩
          have hxm := hin x (List.mem_of_getElem? hx)
          have HK : Hid (rtxt (textP F f) D g.kids (j + 1) = (D ++ textKs (textP F f) 0 (g.kids.take j) ++ [if j = 0 then 40 else 44]) ++ textP F f x) := by
            refine Lib.hid ?_
            rw [rtxt, if_neg (by omega), List.take_add_one, hx]
            show D ++ textKs _ 0 (g.kids.take j ++ [x]) = _
            rw [textKs_append, List.length_take, Nat.min_eq_left hj, Nat.zero_add]
            simp only [List.append_assoc, List.singleton_append]
          have HL2 : Hid ((D ++ textKs (textP F f) 0 (g.kids.take j) ++ [if j = 0 then 40 else 44]).length + (textP F f x).length ≤ 1000000) := by
            refine Lib.hid ?_
            have h8 := textKs_mono (textP F f) g.kids 0 (j + 1)
            rw [List.take_add_one, hx] at h8
            have e8 : textKs (textP F f) 0 (g.kids.take j ++ (some x).toList) = textKs (textP F f) 0 (g.kids.take j) ++ (if j = 0 then 40 else 44) :: textP F f x := by
              show textKs _ 0 (g.kids.take j ++ [x]) = _
              rw [textKs_append, List.length_take, Nat.min_eq_left hj, Nat.zero_add]
            rw [e8] at h8
            have h9 := HL.out
            simp only [List.length_append, List.length_cons, List.length_nil] at h8 ⊢
            omega
          have HR : Hid ((j = 0 → rtxt (textP F f) D g.kids j = D ++ textKs (textP F f) 0 (g.kids.take j) ++ [if j = 0 then 40 else 44]) ∧ (j ≠ 0 → rtxt (textP F f) D g.kids j ++ [44] = D ++ textKs (textP F f) 0 (g.kids.take j) ++ [if j = 0 then 40 else 44])) := by
            refine Lib.hid ⟨fun h9 => ?_, fun h9 => ?_⟩
            · subst h9; rw [rtxt, if_pos rfl, if_pos rfl, List.take_zero, textKs, List.append_nil]
            · rw [rtxt, if_neg h9, if_neg h9]
          have hSl := HL2.out
          generalize D ++ textKs (textP F f) 0 (g.kids.take j) ++ [if j = 0 then 40 else 44] = S' at *
          generalize rtxt (textP F f) D g.kids j = R at *
          have HX := Lib.hid hx
          clear hx hin hSl
          go_upto_if 32 with fail
          go_cut [6] (fun s6 wx => s6 = .string ⟨S'.toArray⟩ ∧ wr = wx)
          case first =>
            by_cases hj0 : j = 0
            · have tj : decide (0 < (j : Int)) = false := by rw [decide_eq_false_iff_not]; omega
              have tj2 : ¬ 0 < j := by omega
              have HJ := Lib.hid hj0
              have HR1 := Lib.hid (HR.out.1 hj0)
              clear hj0 HR HK HL2 HL HI
              go_wp2_with fail
              go_meet
              rw [HR1.out]; exact ⟨rfl, rfl⟩
            · have tj : decide (0 < (j : Int)) = true := by rw [decide_eq_true_iff]; omega
              have tj2 : 0 < j := by omega
              have HR1 := Lib.hid (HR.out.2 hj0)
              have hRl : R.length ≤ 1000000 := by
                have h9 := congrArg List.length HR1.out
                have h8 := HL2.out
                simp only [List.length_append, List.length_cons, List.length_nil] at h9
                omega
              clear hj0 HR HK HL2 HL HI
              go_wp2_with fail
              go_meet
              exact ⟨by rw [← HR1.out, ← ba_app], rfl⟩
          case rest =>
            obtain ⟨rfl, rfl⟩ := hcut
            clear HR
            obtain ⟨ka, hKA, cx⟩ := gi.read hS.below HX.out
            subst hKA
            obtain ⟨bf, -, -⟩ := kp_kid hS gi HX.out
            have hS1 : S'.length ≤ 1000000 := by have := HL2.out; omega
            have hS2 : (textP F f x).length ≤ 1000000 := by have := HL2.out; omega
            have hcat : ∀ w : World, (Op.stringOp .add ⟨S'.toArray⟩ ⟨(textP F f x).toArray⟩).run Tryd.prog w = .ok (.string (⟨S'.toArray⟩ ++ ⟨(textP F f x).toArray⟩)) w := fun w => run_string_add_sum w _ _ (by show S'.toArray.size + (textP F f x).toArray.size ≤ _; simp only [List.size_toArray]; omega)
            clear HL HL2 HT2 b0 b2
            go_upto_region 10 with fail
            have hSd := hS.drew
            clear hS
            go_region_held3 (fun w' => w'.cell? ⟨w.heap.size, 0, none⟩ = some (.slice (some ad) F.length c) ∧ w'.cell? ⟨g5, 1, none⟩ = some (.slice (some ka) g.kids.length kc) ∧ w'.cell? (ka.add j) = some (.int .i64 x)) (exact kp_kid (w := w) (by assumption) gi HX.out)
              (first | (go_at_call 44; refine (HI.out x _ (by omega) hxm.2 (by omega) (hG.keep' (Kp.below (by assumption))) hS2).mono ?_; rintro e w5 ⟨rfl, hb5⟩; have hS5 := Kp.next (w := w) (by assumption) hb5))
            rw [ba_app]
            go_wp2_with fail
            go_roundg (g.kids.length - (j + 1))
            case measure => omega
            case rel => exact ⟨j + 1, hjl, rfl, by first | rfl | simp, by rw [HK.out], by assumption⟩
        · have hjj : j = g.kids.length := by omega
          have HT3 : Hid (textP F (f + 1) (k : Int) = rtxt (textP F f) D g.kids j ++ [41]) := by
            refine Lib.hid ?_
            rw [HT2.out, rtxt, if_neg (by omega), hjj, List.take_length]
          have hRl : (rtxt (textP F f) D g.kids j).length ≤ 1000000 := by
            rw [rtxt, if_neg (by omega), hjj, List.take_length, List.length_append]
            have := HL.out
            omega
          clear HL HT2 HI hin hjj
          generalize rtxt (textP F f) D g.kids j = R at *
          go_wp2_with fail
          go_ret
          rw [HT3.out, ← ba_app]
          exact ⟨rfl, hS.below⟩
set_option maxHeartbeats 2000000 in
theorem rText_any (A : Option Addr) (c : Nat) (F : List Gt) (hF : F.length ≤ 40) (hK : ∀ g ∈ F, g.kids.length ≤ 40) (w : World) (hG : Gates w w.heap.size A F) :
    Calls Tryd.prog 23 #[.agg #[.slice A F.length c]] w fun e w' => e = .returned (.tuple #[.string ⟨(textR F).1.toArray⟩, .int .i64 (textR F).2]) ∧ Below w.heap.size w w' := by
  have hk := (Kp.start w).new 24 [.slice A F.length c]
  have HC := Lib.hid (rleaves_any A c F (by omega) (fun g hg => by have := hK g hg; omega) (w.alloc (.cells #[.slice A F.length c] 24)) (hG.keep' hk.below))
  have HO : Hid (okL F = (leavesP F).2) := by
    show _ = _
    rw [okL, decide_eq_true (by omega), Bool.true_and]
  unfold RLeaves at HC
  rw [HO.out] at HC
  clear HO
  by_cases hv : (leavesP F).2 = true
  · by_cases hz : F = []
    · have HR : Hid (textR F = ([], 0)) := by refine Lib.hid ?_; rw [textR, if_neg (by simp [hv]), if_pos hz]
      have h0 : ((F.length : Int) == 0) = true := by rw [hz]; rfl
      rw [hv] at HC
      clear hv hz hG hK
      go_enter Tryd.func23, Tryd.ntmps23
      go_wp2_with fail
      refine HC.out.mono ?_
      rintro e w1 ⟨⟨y, rfl, -⟩, hb1⟩
      have hk1 := hk.next hb1
      have b0 := (hk1.at_ 0 rfl).cell 0
      simp only [List.getElem?_cons_zero] at b0
      go_wp2_with fail
      go_ret2
      rw [HR.out]
      exact ⟨rfl, hk1.below⟩
    · have HR : Hid (textR F = (textP F (F.length + 1) 0, 0)) := by refine Lib.hid ?_; rw [textR, if_neg (by simp [hv]), if_neg hz]
      have h0 : ((F.length : Int) == 0) = false := by
        rw [beq_eq_false_iff_ne]
        intro h9
        exact hz (List.eq_nil_of_length_eq_zero (by omega))
      have hpos : 0 < F.length := by
        rcases Nat.eq_zero_or_pos F.length with h | h
        · exact absurd (List.eq_nil_of_length_eq_zero h) hz
        · exact h
      have hlen := text_len hF hK hv hz
      have hV := valid_gates (F := F) (n := (leavesP F).1) (Prod.ext rfl hv)
      have hle := leaves_le (F := F)
      rw [hv] at HC
      clear hz hv
      go_enter Tryd.func23, Tryd.ntmps23
      go_wp2_with fail
      refine HC.out.mono ?_
      rintro e w1 ⟨⟨y, rfl, -⟩, hb1⟩
      have hk1 := hk.next hb1
      clear hk HC hb1
      have b0 := (hk1.at_ 0 rfl).cell 0
      simp only [List.getElem?_cons_zero] at b0
      go_wp2_with fail
      refine (rtext_any A c F (leavesP F).1 hF hK (by omega) hV (F.length + 1) 0 w1 (Int.le_refl _) (by omega) (by omega) (hG.keep' hk1.below) (by omega)).mono ?_
      rintro e w2 ⟨rfl, hb2⟩
      go_wp2_with fail
      go_ret2
      rw [HR.out]
      exact ⟨rfl, (hk1.next hb2).below⟩
  · have hv0 : (leavesP F).2 = false := by simpa using hv
    have HR : Hid (textR F = ([], 3)) := by refine Lib.hid ?_; rw [textR, if_pos hv0]
    rw [hv0] at HC
    clear hv hv0 hG hK
    go_enter Tryd.func23, Tryd.ntmps23
    go_wp2_with fail
    refine HC.out.mono ?_
    rintro e w1 ⟨⟨y, rfl, -⟩, hb1⟩
    have hk1 := hk.next hb1
    go_wp2_with fail
    go_ret2
    rw [HR.out]
    exact ⟨rfl, hk1.below⟩
end Go.Proofs.YteaaeaimjbaomaaDoor
