/-
  Reading the text of a formula gives the formula, plain.
-/
import Derived.Test.YteaaeaimjbaomaaDoorFmR
namespace Go.Proofs.YteaaeaimjbaomaaDoor
open Go.RowKit
set_option linter.unusedVariables false

theorem dec_form : ∀ n, n < 100 → Lib.decDigits n = if n < 10 then [UInt8.ofNat (48 + n)] else [UInt8.ofNat (48 + n / 10), UInt8.ofNat (48 + n % 10)] := by decide +kernel
theorem num_one (b : UInt8) (rest : List UInt8) (hb : isD b = true) (hr : isD (rest.headD 0) = false) : numLen (b :: rest) = 1 := by
  unfold numLen
  rw [numL, hb]
  simp only [Bool.true_and, Nat.lt_irrefl, decide_false, Bool.false_and, Bool.not_false, Bool.and_true]
  rw [if_pos (by decide)]
  cases rest with
  | nil => rfl
  | cons c r =>
    have : isD c = false := hr
    rw [numL, this]; rfl
theorem num_two (a b : UInt8) (rest : List UInt8) (ha : isD a = true) (ha0 : a ≠ 48) (hb : isD b = true) (hr : isD (rest.headD 0) = false) : numLen (a :: b :: rest) = 2 := by
  have hz : isZ (a :: b :: rest) = false := by unfold isZ; exact decide_eq_false ha0
  unfold numLen
  rw [hz, numL, ha]
  simp only [Bool.true_and, Bool.and_false, Bool.not_false, Bool.and_true]
  rw [if_pos (by decide), numL, hb]
  simp only [Bool.true_and, Bool.and_false, Bool.not_false, Bool.and_true]
  rw [if_pos (by decide)]
  cases rest with
  | nil => rfl
  | cons c r =>
    have : isD c = false := hr
    rw [numL, this]; rfl
theorem dig_ok : ∀ k, k < 10 → isD (UInt8.ofNat (48 + k)) = true ∧ ((UInt8.ofNat (48 + k)).toNat : Int) - 48 = k ∧ (0 < k → UInt8.ofNat (48 + k) ≠ 48) := by decide +kernel
/-- reading a small number -/
theorem num_dec {n : Nat} (hn : n < 100) {rest : List UInt8} (hr : isD (rest.headD 0) = false) : nOk (Lib.decDigits n ++ rest) = true ∧ (Lib.decDigits n ++ rest).drop (numLen (Lib.decDigits n ++ rest)) = rest ∧ numV ((Lib.decDigits n ++ rest).take (numLen (Lib.decDigits n ++ rest))) = n := by
  rw [dec_form n hn]
  by_cases h : n < 10
  · rw [if_pos h]
    obtain ⟨q1, q2, q3⟩ := dig_ok n h
    have hl := num_one (UInt8.ofNat (48 + n)) rest q1 hr
    rw [List.singleton_append, hl]
    refine ⟨?_, rfl, ?_⟩
    · unfold nOk; rw [hl]; simpa using hr
    · show numV [UInt8.ofNat (48 + n)] = n
      unfold numV
      simp only [List.foldl_cons, List.foldl_nil]
      omega
  · rw [if_neg h]
    obtain ⟨q1, q2, q3⟩ := dig_ok (n / 10) (by omega)
    obtain ⟨r1, r2, _⟩ := dig_ok (n % 10) (by omega)
    have hl := num_two (UInt8.ofNat (48 + n / 10)) (UInt8.ofNat (48 + n % 10)) rest q1 (q3 (by omega)) r1 hr
    have e : [UInt8.ofNat (48 + n / 10), UInt8.ofNat (48 + n % 10)] ++ rest = UInt8.ofNat (48 + n / 10) :: UInt8.ofNat (48 + n % 10) :: rest := rfl
    rw [e, hl]
    refine ⟨?_, rfl, ?_⟩
    · unfold nOk; rw [hl]; simpa using hr
    · show numV [UInt8.ofNat (48 + n / 10), UInt8.ofNat (48 + n % 10)] = n
      unfold numV
      simp only [List.foldl_cons, List.foldl_nil]
      omega
/-- a stretch of a formula -/
def seg (F : List Gt) (i j : Int) : List Gt := (F.drop i.toNat).take (j.toNat - i.toNat)
theorem seg_append {F : List Gt} {i j k : Int} (h0 : 0 ≤ i) (h1 : i ≤ j) (h2 : j ≤ k) : seg F i j ++ seg F j k = seg F i k := by
  unfold seg
  have e1 : j.toNat = i.toNat + (j.toNat - i.toNat) := by omega
  have e2 : k.toNat - i.toNat = (j.toNat - i.toNat) + (k.toNat - j.toNat) := by omega
  rw [e2, List.take_add, List.drop_drop]
  congr 2
  rw [← e1]
theorem seg_one {F : List Gt} {i : Int} {g : Gt} (h0 : 0 ≤ i) (hg : F[i.toNat]? = some g) : seg F i (i + 1) = [g] := by
  unfold seg
  have hl := (List.getElem?_eq_some_iff.1 hg).1
  rw [List.drop_eq_getElem_cons hl, show (i + 1).toNat - i.toNat = 1 by omega]
  rw [List.getElem?_eq_getElem hl] at hg
  simp only [List.take_succ_cons, List.take_zero]
  rw [Option.some.inj hg]
theorem seg_length {F : List Gt} {i j : Int} (h0 : 0 ≤ i) (h1 : i ≤ j) (h2 : j ≤ F.length) : (seg F i j).length = (j - i).toNat := by
  unfold seg
  rw [List.length_take, List.length_drop]
  omega
/-- what may follow a number -/
def okR (rest : List UInt8) : Prop := isD (rest.headD 0) = false ∧ rest.headD 0 ≠ 40
theorem okR_44 (l : List UInt8) : okR (44 :: l) := ⟨(by decide : isD 44 = false), (by decide : (44 : UInt8) ≠ 40)⟩
theorem okR_41 (l : List UInt8) : okR (41 :: l) := ⟨(by decide : isD 41 = false), (by decide : (41 : UInt8) ≠ 40)⟩
theorem kids_text {F : List Gt} {f f2 : Nat} (hlen : ∀ a s r, visitP F f a s = (true, r) → 0 ≤ s.1 → 0 ≤ s.2 → s.2 ≤ s.1 → s.1 < r.1 ∧ r.1 ≤ F.length ∧ r.2 ≤ r.1 ∧ 0 ≤ r.2 ∧ a = s.1)
    (hg : ∀ a s r, visitP F f a s = (true, r) → 0 ≤ s.1 → 0 ≤ s.2 → s.2 ≤ s.1 → ∀ rest G, (textP F f a).length < f2 → okR rest → (G.length : Int) = s.1 → gateP f2 (textP F f a ++ rest) G = (true, rest, G ++ seg F s.1 r.1)) :
    ∀ (ks : List Int) (m i : Nat) (s r : Int × Int) (rest : List UInt8) (G : List Gt) (acc : List Int), ks ≠ [] → kidsP (visitP F f) ks s = (true, r) → 0 ≤ s.1 → 0 ≤ s.2 → s.2 ≤ s.1 → ks.length ≤ m → (textKs (textP F f) i ks).length ≤ f2 → (G.length : Int) = s.1 →
      s.1 ≤ r.1 ∧ r.1 ≤ F.length ∧ kidsR (gateP f2) m (textKs (textP F f) i ks ++ 41 :: rest) G acc = ((true, rest, G ++ seg F s.1 r.1), acc ++ ks)
  | [], _, _, _, _, _, _, _, h, _, _, _, _, _, _, _ => absurd rfl h
  | k :: ks, 0, _, _, _, _, _, _, _, _, _, _, _, h, _, _ => by simp at h
  | k :: ks, m + 1, i, s, r, rest, G, acc, _, hv, h1, h2, h3, hm, hf, hGl => by
    obtain ⟨t, ht, hr⟩ := kids_cons hv
    obtain ⟨l1, l2, l3, l4, rfl⟩ := hlen k s t ht h1 h2 h3
    have hl9 : (textP F f s.1).length + (textKs (textP F f) (i + 1) ks).length + 1 ≤ f2 := by
      rw [textKs, List.length_cons, List.length_append] at hf; omega
    rw [textKs, List.cons_append, kidsR, List.drop_succ_cons, List.drop_zero, List.append_assoc]
    cases ks with
    | nil =>
      have hrr : t = r := by simpa [kidsP] using hr
      subst hrr
      have e := hg s.1 s t ht h1 h2 h3 (textKs (textP F f) (i + 1) [] ++ 41 :: rest) G (by omega) (okR_41 rest) hGl
      rw [e]
      refine ⟨by omega, l2, ?_⟩
      rw [if_neg (by simp)]
      simp only [textKs, List.nil_append, List.headD_cons]
      rw [if_neg (by decide)]
      simp [hGl]
    | cons k' ks' =>
      have e := hg s.1 s t ht h1 h2 h3 (textKs (textP F f) (i + 1) (k' :: ks') ++ 41 :: rest) G (by omega) (by rw [textKs, if_neg (by omega)]; exact okR_44 _) hGl
      rw [e]
      have hGl2 : ((G ++ seg F s.1 t.1).length : Int) = t.1 := by
        rw [List.length_append, seg_length h1 (by omega) l2]; omega
      obtain ⟨q1, q2, q3⟩ := kids_text hlen hg (k' :: ks') m (i + 1) t r rest (G ++ seg F s.1 t.1) (acc ++ [s.1]) (by simp) hr (by omega) l4 l3 (by simpa using hm) (by omega) hGl2
      refine ⟨by omega, q2, ?_⟩
      rw [if_neg (by simp)]
      have hh : (textKs (textP F f) (i + 1) (k' :: ks') ++ 41 :: rest).headD 0 = 44 := by rw [textKs, if_neg (by omega)]; rfl
      rw [if_pos hh, hGl, q3, List.append_assoc G, seg_append h1 (by omega) q1]
      simp
def okD (l : List UInt8) : Prop := isD (l.headD 0) = false
theorem okD_40 (l : List UInt8) : okD (40 :: l) := (by decide : isD 40 = false)
theorem textKs_ge (t : Int → List UInt8) : ∀ (i : Nat) (ks : List Int), ks.length ≤ (textKs t i ks).length
  | _, [] => Nat.zero_le _
  | i, k :: ks => by
    have := textKs_ge t (i + 1) ks
    rw [textKs, List.length_cons, List.length_cons, List.length_append]; omega
theorem visit_bounds {F : List Gt} (hF : F.length ≤ 40) (hK : ∀ g ∈ F, g.kids.length ≤ 40) {f : Nat} {a : Int} {s r : Int × Int} (h : visitP F f a s = (true, r)) (h1 : 0 ≤ s.1) (h2 : 0 ≤ s.2) (h3 : s.2 ≤ s.1) : s.1 < r.1 ∧ r.1 ≤ F.length ∧ r.2 ≤ r.1 ∧ 0 ≤ r.2 ∧ a = s.1 := by
  have hl := (textP_len hF hK f a s r h h1 h2 h3).1
  have hs : a = s.1 ∧ a < F.length := by
    cases f with
    | zero => simp [visitP] at h
    | succ f =>
      obtain ⟨nx, c'⟩ := r
      obtain ⟨q1, q2, _⟩ := visit_some h
      exact ⟨q1, q2⟩
  have hbd := visitP_bd F f a s h2 h3 (by omega)
  rw [h] at hbd
  simp only at hbd
  exact ⟨hl, hbd.2.1, hbd.2.2.2, hbd.2.2.1, hs.1⟩
theorem gate_text {F : List Gt} (hF : F.length ≤ 40) (hK : ∀ g ∈ F, g.kids.length ≤ 40) : ∀ (f : Nat) (a : Int) (s r : Int × Int), visitP F f a s = (true, r) → 0 ≤ s.1 → 0 ≤ s.2 → s.2 ≤ s.1 →
    ∀ (f2 : Nat) (rest : List UInt8) (G : List Gt), (textP F f a).length < f2 → okR rest → (G.length : Int) = s.1 → gateP f2 (textP F f a ++ rest) G = (true, rest, G ++ seg F s.1 r.1)
  | 0, _, _, _, h, _, _, _ => by simp [visitP] at h
  | f + 1, a, s, r, h, h1, h2, h3 => by
    intro f2 rest G hf2 hr hGl
    obtain ⟨nx, c'⟩ := r
    obtain ⟨rfl, hal, g, hg, hcase⟩ := visit_some h
    rw [textP, hg] at hf2 ⊢
    simp only at hf2 ⊢
    cases f2 with
    | zero => omega
    | succ f2 =>
      rcases hcase with ⟨k1, k2, k3, k4, k5⟩ | ⟨k1, k2, k3, k4, k5⟩
      · rw [if_pos k1] at hf2 ⊢
        obtain ⟨q1, q2, q3⟩ := num_dec (n := g.leaf.toNat) (by omega) hr.1
        rw [gateP, if_neg (by rw [q1]; simp), q2, q3, if_pos ?_]
        · have e : (⟨0, [], (g.leaf.toNat : Int)⟩ : Gt) = g := by
            cases g; simp only at k1 k2 k3; subst k1 k2; simp; omega
          rw [e]
          have hs := seg_one h1 hg
          simp only [k4]
          rw [hs]
        · exact hr.2
      · rw [if_neg k1] at hf2 ⊢
        have hkl := hK g (List.mem_of_getElem? hg)
        cases hk : g.kids with
        | nil => exact absurd hk k1
        | cons k0 ks0 =>
          rw [hk] at hf2 k5 k3
          have hne : (k0 :: ks0) ≠ [] := by simp
          have hgk : (k0 :: ks0).length ≤ (textKs (textP F f) 0 (k0 :: ks0)).length := textKs_ge _ _ _
          rw [List.length_append, List.length_append] at hf2
          simp only [List.length_singleton] at hf2
          have hr40 : okD ((textKs (textP F f) 0 (k0 :: ks0) ++ [41]) ++ rest) := by rw [textKs, if_pos rfl]; exact okD_40 _
          have hk40 : ((k0 :: ks0).length : Int) ≤ 40 := by rw [← hk]; omega
          obtain ⟨q1, q2, q3⟩ := num_dec (n := g.need.toNat) (by omega) hr40
          have hkids := kids_text (F := F) (f := f) (f2 := f2) (fun a s r h h1 h2 h3 => visit_bounds hF hK h h1 h2 h3) (fun a s r h h1 h2 h3 rest G hl => gate_text hF hK f a s r h h1 h2 h3 f2 rest G hl) (k0 :: ks0) f2 0 (s.1 + 1, s.2) (nx, c') rest (G ++ [⟨0, [], 0⟩]) [] hne k5 (by show 0 ≤ s.1 + 1; omega) h2 (by show s.2 ≤ s.1 + 1; omega) (by omega) (by omega) (by rw [List.length_append]; simp; omega)
          obtain ⟨w1, w2, w3⟩ := hkids
          simp only at w1 w2
          have e0 : Lib.decDigits g.need.toNat ++ textKs (textP F f) 0 (k0 :: ks0) ++ [41] ++ rest = Lib.decDigits g.need.toNat ++ (textKs (textP F f) 0 (k0 :: ks0) ++ [41] ++ rest) := by simp
          have e1 : textKs (textP F f) 0 (k0 :: ks0) ++ [41] ++ rest = textKs (textP F f) 0 (k0 :: ks0) ++ 41 :: rest := by simp
          have hd40 : (textKs (textP F f) 0 (k0 :: ks0) ++ 41 :: rest).headD 0 = 40 := by rw [textKs, if_pos rfl]; rfl
          rw [e0, gateP, q1, if_neg (by simp), q2, q3, e1, if_neg (by rw [hd40]; simp), w3, if_neg (by simp)]
          simp only [List.nil_append]
          have e2 : (G ++ [(⟨0, [], 0⟩ : Gt)] ++ seg F (s.1 + 1) nx).set G.length ⟨(g.need.toNat : Int), k0 :: ks0, 0⟩ = G ++ seg F s.1 nx := by
            have e3 : (⟨(g.need.toNat : Int), k0 :: ks0, 0⟩ : Gt) = g := by
              cases g
              simp only at hk k4 k2
              subst hk k4
              simp; omega
            rw [e3, List.append_assoc, List.set_append_right _ _ (Nat.le_refl _), Nat.sub_self, ← seg_append (j := s.1 + 1) h1 (by omega) w1, seg_one h1 hg]
            rfl
          rw [e2]
/-- Parse of the text of a formula -/
theorem parse_text {F : List Gt} (hF : F.length ≤ 40) (hK : ∀ g ∈ F, g.kids.length ≤ 40) (h : (textR F).2 = 0) : parseP (textR F).1 = (F, 0, 0) := by
  unfold textR at h ⊢
  split at h
  · cases h
  · rename_i hv
    have hv' : (leavesP F).2 = true := by simpa using hv
    rw [if_neg hv]
    split
    · rename_i hz
      subst hz
      rfl
    · rename_i hz
      rw [if_neg hz] at h
      have hlv : ∃ c, visitP F (F.length + 1) 0 (0, 0) = (true, (F.length : Int), c) := by
        unfold leavesP at hv'
        rw [if_neg hz] at hv'
        simp only [Bool.and_eq_true, decide_eq_true_eq] at hv'
        exact ⟨(visitP F (F.length + 1) 0 (0, 0)).2.2, Prod.ext hv'.1.1 (Prod.ext hv'.1.2 rfl)⟩
      obtain ⟨c, hc⟩ := hlv
      have hg := gate_text hF hK (F.length + 1) 0 (0, 0) ((F.length : Int), c) hc (Int.le_refl _) (Int.le_refl _) (Int.le_refl _) ((textP F (F.length + 1) 0).length + 1) [] [] (Nat.lt_succ_self _) ⟨by decide, by decide⟩ rfl
      simp only [List.append_nil, List.nil_append] at hg
      have hseg : seg F 0 (F.length : Int) = F := by
        unfold seg
        simp
      rw [hseg] at hg
      have hne : textP F (F.length + 1) 0 ≠ [] := by
        intro h9
        rw [h9] at hg
        simp [gateP, nOk, numLen, numL] at hg
      unfold parseP
      rw [if_neg hne, hg, if_neg (by simp), if_neg ?_]
      intro h9
      rcases h9 with h9 | h9
      · rw [hv'] at h9; cases h9
      · simp only at h9; omega
end Go.Proofs.YteaaeaimjbaomaaDoor
