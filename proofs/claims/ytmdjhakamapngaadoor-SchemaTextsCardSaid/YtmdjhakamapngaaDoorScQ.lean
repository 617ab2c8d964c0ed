/-
  Reading the description of a schema, plain.
-/
import Derived.Test.YtmdjhakamapngaaDoorScF
namespace Go.Proofs.YtmdjhakamapngaaDoor
open Go.RowKit Go.Shelf
set_option linter.unusedVariables false

def hd (p : Nat → Bool) : List UInt8 → Bool
  | [] => false
  | c :: _ => p c.toNat
def runW (p : Nat → Bool) (l : List UInt8) : List UInt8 := l.takeWhile fun b => p b.toNat
def runD (p : Nat → Bool) (l : List UInt8) : List UInt8 := l.dropWhile fun b => p b.toNat
def eqN (c n : Nat) : Bool := decide (n = c)
def skS (l : List UInt8) : List UInt8 := runD (eqN 32) l
def isR (c : Nat) (l : List UInt8) : Bool := hd (eqN c) (skS l)
def nameR (l : List UInt8) : Option (List UInt8) × List UInt8 := if hd ltN (skS l) then (some (runW nmN (skS l)), runD nmN (skS l)) else (none, skS l)
def signR (c : Nat) (l : List UInt8) : Bool × List UInt8 := if isR c l then (true, (skS l).tail) else (false, skS l)
/-- the bytes of a number -/
def numT (l : List UInt8) : List UInt8 := if hd (eqN 45) l then 45 :: runW dgN l.tail else runW dgN l
def numR (l : List UInt8) : Option Int × List UInt8 := if decOk (numT (skS l)) then (some (decV (numT (skS l))), (skS l).drop (numT (skS l)).length) else (none, skS l)
def wordR (l : List UInt8) : Option (List UInt8) × List UInt8 :=
  if isR 39 l then (if hd (eqN 39) (runD wdN (skS l).tail) then (some (runW wdN (skS l).tail), (runD wdN (skS l).tail).tail) else (none, skS l)) else (none, skS l)
def wordsR : Nat → List UInt8 → List ByteArray → Option (List ByteArray) × List UInt8
  | 0, l, ws => (none, l)
  | k + 1, l, ws => if isR 39 l then (match wordR l with
      | (none, r) => (none, r)
      | (some w, r) => wordsR k r (ws ++ [bs w])) else (some ws, skS l)
def numberB : List UInt8 := [110, 117, 109, 98, 101, 114]
def fieldR (l : List UInt8) : Option Fd × List UInt8 :=
  match nameR l with
  | (none, r) => (none, r)
  | (some nm, r) =>
    if isR 39 r then (match wordsR (r.length + 1) r [] with
      | (none, q) => (none, q)
      | (some ws, q) => (some ⟨bs nm, 1, 0, 0, ws⟩, q))
    else match nameR r with
      | (none, q) => (none, q)
      | (some t, q) => if t = numberB then (match numR q with
          | (none, x) => (none, x)
          | (some a, x) => match numR x with
            | (none, y) => (none, y)
            | (some b, y) => (some ⟨bs nm, 0, a, b, []⟩, y)) else (none, skS r)
def fieldsR : Nat → List UInt8 → List Fd → Option (List Fd) × List UInt8
  | 0, l, fs => (none, l)
  | k + 1, l, fs => if isR 44 l then (match fieldR (skS l).tail with
      | (none, r) => (none, r)
      | (some f, r) => fieldsR k r (fs ++ [f])) else (some fs, skS l)
def schemaR (l : List UInt8) : Option (ByteArray × List Fd) × List UInt8 :=
  match nameR l with
  | (none, r) => (none, r)
  | (some nm, r) => if isR 40 r then (match fieldR (skS r).tail with
      | (none, q) => (none, q)
      | (some f, q) => match fieldsR (q.length + 1) q [f] with
        | (none, x) => (none, x)
        | (some fs, x) => if isR 41 x then (if skS (skS x).tail = [] then (some (bs nm, fs), []) else (none, skS (skS x).tail)) else (none, skS x)) else (none, skS r)
/-- name, fields, offset, error -/
def parseS (l : List UInt8) : ByteArray × List Fd × Nat × Int :=
  match schemaR l with
  | (none, r) => (ByteArray.empty, [], l.length - r.length, 4)
  | (some (nm, fs), _) => if schemaE nm fs ≠ 0 then (ByteArray.empty, [], 0, schemaE nm fs) else (nm, fs, 0, 0)

/-
  Texts.
-/
def fieldT (f : Fd) : List UInt8 := tl f.name ++ (if f.kind = 0 then (32 :: numberB) ++ (32 :: Lib.itoa f.min) ++ (32 :: Lib.itoa f.max) else []) ++ f.words.flatMap fun w => 32 :: 39 :: (tl w ++ [39])
def schemaT (nm : ByteArray) : List Fd → List UInt8
  | [] => tl nm ++ [40, 41]
  | f :: L => tl nm ++ 40 :: (fieldT f ++ ((L.flatMap fun g => 44 :: 32 :: fieldT g) ++ [41]))
theorem skS_sp (l : List UInt8) : skS (32 :: l) = skS l := by simp [skS, runD, eqN]
theorem skS_id {l : List UInt8} (h : hd (eqN 32) l = false) : skS l = l := by
  cases l with
  | nil => rfl
  | cons c r =>
    simp only [hd, eqN, decide_eq_false_iff_not] at h
    simp [skS, runD, eqN, h]
theorem nameR_sp (l : List UInt8) : nameR (32 :: l) = nameR l := by rw [nameR, nameR, skS_sp]
theorem numR_sp (l : List UInt8) : numR (32 :: l) = numR l := by rw [numR, numR, skS_sp]
theorem run_stop {p : Nat → Bool} {l r : List UInt8} (h : allN p l = true) (hr : hd p r = false) : runW p (l ++ r) = l ∧ runD p (l ++ r) = r := by
  have h1 : ∀ b ∈ l, p b.toNat = true := by
    unfold allN at h
    exact List.all_eq_true.1 h
  have h2 : runW p r = [] ∧ runD p r = r := by
    cases r with
    | nil => exact ⟨rfl, rfl⟩
    | cons c r =>
      simp only [hd] at hr
      simp [runW, runD, hr]
  unfold runW runD at *
  rw [List.takeWhile_append_of_pos h1, List.dropWhile_append_of_pos h1, h2.1, h2.2]
  simp
theorem hd_app {p : Nat → Bool} {l r : List UInt8} (h : l ≠ []) : hd p (l ++ r) = hd p l := by
  cases l with
  | nil => exact absurd rfl h
  | cons c l => rfl
/-- a name as a list of bytes -/
structure NmL (l : List UInt8) : Prop where
  hd : hd ltN l = true
  all : allN nmN l = true
theorem NmL.ne {l : List UInt8} (h : NmL l) : l ≠ [] := by
  intro e
  have := h.hd
  rw [e] at this; cases this
theorem nameP_l {s : ByteArray} (h : nameP s = true) : NmL (tl s) := by
  unfold nameP at h
  split at h
  · rename_i hp
    simp only [Bool.and_eq_true] at h
    refine ⟨?_, h.1.2⟩
    rw [tl_cons s hp]
    exact h.1.1.2
  · cases h
theorem lt_not32 {l : List UInt8} (h : hd ltN l = true) : hd (eqN 32) l = false := by
  cases l with
  | nil => cases h
  | cons c r =>
    simp only [hd, ltN, eqN, decide_eq_true_eq, decide_eq_false_iff_not] at *
    omega
theorem nameR_of {l r : List UInt8} (h : NmL l) (hr : hd nmN r = false) : nameR (l ++ r) = (some l, r) := by
  have h1 : hd ltN (l ++ r) = true := by rw [hd_app h.ne]; exact h.hd
  have h2 : skS (l ++ r) = l ++ r := skS_id (lt_not32 h1)
  obtain ⟨h3, h4⟩ := run_stop h.all hr
  rw [nameR, h2, if_pos h1, h3, h4]
theorem dec_lenk : ∀ (k n : Nat), n < 10 ^ (k + 1) → (Lib.decDigits n).length ≤ k + 1
  | 0, n, h => by rw [Lib.decDigits, dif_pos (by omega)]; simp
  | k + 1, n, h => by
    rw [Lib.decDigits]
    split
    · simp
    · have := dec_lenk k (n / 10) (by rw [Nat.pow_succ] at h; omega)
      simp only [List.length_append, List.length_cons, List.length_nil]
      omega
theorem itoa_form (v : Int) : (∃ u : Nat, v = -(u : Int) ∧ 1 ≤ u ∧ Lib.itoa v = 45 :: Lib.decDigits u) ∨ (∃ u : Nat, v = (u : Int) ∧ Lib.itoa v = Lib.decDigits u) := by
  by_cases hv : v < 0
  · obtain ⟨u, rfl, hu⟩ : ∃ u : Nat, v = -(u : Int) ∧ 1 ≤ u := ⟨v.natAbs, by omega, by omega⟩
    exact .inl ⟨u, rfl, hu, Lib.itoa_neg u hu⟩
  · obtain ⟨u, rfl⟩ : ∃ u : Nat, v = (u : Int) := ⟨v.toNat, by omega⟩
    exact .inr ⟨u, rfl, Lib.itoa_nonneg u⟩
theorem dec_digs (u : Nat) : allN dgN (Lib.decDigits u) = true := digs_iff.2 (dec_can u).1.2.1
theorem dec_hd (u : Nat) : hd dgN (Lib.decDigits u) = true := by
  have h1 := (dec_can u).1.1
  have h2 := (dec_can u).1.2.1
  cases hd' : Lib.decDigits u with
  | nil => exact absurd hd' h1
  | cons c r => exact decide_eq_true (h2 c (by rw [hd']; exact List.mem_cons_self ..))
theorem numR_of {v : Int} (h1 : -2147483648 ≤ v) (h2 : v ≤ 2147483647) {r : List UInt8} (hr : hd dgN r = false) : numR (Lib.itoa v ++ r) = (some v, r) := by
  have hlen : (Lib.trimPrefix (Lib.itoa v) [45]).length ≤ 10 := by
    rw [trim_neg]
    rcases itoa_form v with ⟨u, rfl, hu, e⟩ | ⟨u, rfl, e⟩
    · rw [e]
      have hm : magD (45 :: Lib.decDigits u) = Lib.decDigits u := by unfold magD; rw [if_pos (by simp [isNeg])]; rfl
      rw [hm]
      exact dec_lenk 9 u (by omega)
    · have : (magD (Lib.itoa (u : Int))).length ≤ (Lib.itoa (u : Int)).length := by
        unfold magD; split
        · rw [List.length_tail]; omega
        · exact Nat.le_refl _
      rw [e] at this
      have h9 := dec_lenk 9 u (by omega)
      rw [e]; omega
  obtain ⟨k1, k2⟩ := dec_itoa v hlen
  have hsk : skS (Lib.itoa v ++ r) = Lib.itoa v ++ r := by
    apply skS_id
    rcases itoa_form v with ⟨u, rfl, hu, e⟩ | ⟨u, rfl, e⟩
    · rw [e]; rfl
    · rw [e, hd_app (dec_can u).1.1]
      have := dec_hd u
      cases hd' : Lib.decDigits u with
      | nil => rfl
      | cons c r =>
        rw [hd'] at this
        simp only [hd, dgN, eqN, decide_eq_true_eq, decide_eq_false_iff_not] at *
        omega
  have hnt : numT (Lib.itoa v ++ r) = Lib.itoa v := by
    rcases itoa_form v with ⟨u, rfl, hu, e⟩ | ⟨u, rfl, e⟩
    · rw [e, numT, if_pos (by rfl)]
      show 45 :: runW dgN (Lib.decDigits u ++ r) = _
      rw [(run_stop (dec_digs u) hr).1]
    · rw [e, numT, if_neg, (run_stop (dec_digs u) hr).1]
      rw [hd_app (dec_can u).1.1]
      have := dec_hd u
      cases hd' : Lib.decDigits u with
      | nil => simp [hd]
      | cons c r =>
        rw [hd'] at this
        simp only [hd, dgN, eqN, decide_eq_true_eq] at *
        omega
  rw [numR, hsk, hnt, if_pos k1, k2, List.drop_left]
theorem wordR_of {w r : List UInt8} (h : allN wdN w = true) : wordR (39 :: (w ++ 39 :: r)) = (some w, r) := by
  have h1 : skS (39 :: (w ++ 39 :: r)) = 39 :: (w ++ 39 :: r) := skS_id rfl
  obtain ⟨h3, h4⟩ := run_stop (r := 39 :: r) h rfl
  rw [wordR, if_pos (by rw [isR, h1]; rfl), h1]
  show (if hd (eqN 39) (runD wdN (w ++ 39 :: r)) then _ else _) = _
  rw [List.tail_cons, h3, h4, if_pos (by rfl)]
  rfl
theorem isR_sp (c : Nat) (l : List UInt8) : isR c (32 :: l) = isR c l := by rw [isR, isR, skS_sp]
theorem wordR_sp (l : List UInt8) : wordR (32 :: l) = wordR l := by rw [wordR, wordR, isR_sp, skS_sp]
theorem wordsR_of : ∀ (ws : List ByteArray) (k : Nat) (acc : List ByteArray) (r : List UInt8), (∀ w ∈ ws, wordP w = true) → isR 39 r = false → skS r = r → ws.length < k → wordsR k ((ws.flatMap fun w => 32 :: 39 :: (tl w ++ [39])) ++ r) acc = (some (acc ++ ws), r)
  | [], k + 1, acc, r, _, hr, hs, _ => by
    rw [List.flatMap_nil, List.nil_append, wordsR, if_neg (by rw [hr]; simp), List.append_nil, hs]
  | w :: ws, k + 1, acc, r, hw, hr, hs, hk => by
    have h1 : allN wdN (tl w) = true := by
      have := hw w (List.mem_cons_self ..)
      unfold wordP at this
      simp only [Bool.and_eq_true] at this
      exact this.2
    have h2 := wordR_of (r := (ws.flatMap fun w => 32 :: 39 :: (tl w ++ [39])) ++ r) h1
    have e : ((w :: ws).flatMap fun w => 32 :: 39 :: (tl w ++ [39])) ++ r = 32 :: 39 :: (tl w ++ 39 :: ((ws.flatMap fun w => 32 :: 39 :: (tl w ++ [39])) ++ r)) := by
      simp [List.flatMap_cons]
    rw [e, wordsR, if_pos (by rw [isR_sp]; rfl), wordR_sp, h2]
    show wordsR k _ (acc ++ [bs (tl w)]) = _
    rw [bs_tl, wordsR_of ws k (acc ++ [w]) r (fun x hx => hw x (List.mem_cons_of_mem _ hx)) hr hs (by simp at hk; omega)]
    simp
theorem nb_nm : NmL numberB := ⟨by decide, by decide⟩
/-- a field that Check accepts -/
structure FOk (f : Fd) : Prop where
  nm : nameP f.name = true
  fe : fieldE f = 0
theorem wordsE_words : ∀ (l S : List ByteArray), wordsE S l = 0 → ∀ w ∈ l, wordP w = true
  | [], S, _, w, h => by cases h
  | x :: l, S, he, w, h => by
    rw [wordsE] at he
    split at he
    · cases he
    · rename_i h1
      split at he
      · cases he
      · rcases List.mem_cons.1 h with rfl | h
        · simpa using h1
        · exact wordsE_words l _ he w h
theorem fld_kind {f : Fd} (h : fieldE f = 0) : (f.kind = 0 ∧ f.words = [] ∧ -2147483648 ≤ f.min ∧ f.max ≤ 2147483647 ∧ f.min ≤ f.max) ∨ (f.kind = 1 ∧ f.min = 0 ∧ f.max = 0 ∧ 0 < f.words.length ∧ f.words.length ≤ 64 ∧ ∀ w ∈ f.words, wordP w = true) := by
  unfold fieldE at h
  split at h
  · rename_i h0
    unfold numE at h
    split at h
    · cases h
    · rename_i h1
      split at h
      · cases h
      · refine .inl ⟨h0, List.eq_nil_of_length_eq_zero (by omega), by omega, by omega, by omega⟩
  · split at h
    · rename_i h0
      unfold wrdE at h
      split at h
      · cases h
      · rename_i h1
        unfold wordsP at h
        split at h
        · cases h
        · exact .inr ⟨h0, by omega, by omega, by omega, by omega, wordsE_words _ _ h⟩
    · cases h
/-- what may stand behind a field -/
structure Behind (r : List UInt8) : Prop where
  sk : skS r = r
  q : isR 39 r = false
  dg : hd dgN r = false
theorem isR_name {c : Nat} {l r : List UInt8} (h : NmL l) (hc : ltN c = false) : isR c (l ++ r) = false := by
  have h1 : hd ltN (l ++ r) = true := by rw [hd_app h.ne]; exact h.hd
  rw [isR, skS_id (lt_not32 h1)]
  cases hl : l ++ r with
  | nil => rfl
  | cons x y =>
    rw [hl] at h1
    simp only [hd, eqN, decide_eq_false_iff_not] at *
    intro e
    rw [e, hc] at h1; cases h1
theorem flat_len (ws : List ByteArray) (r : List UInt8) : ws.length ≤ ((ws.flatMap fun w => 32 :: 39 :: (tl w ++ [39])) ++ r).length := by
  induction ws with
  | nil => simp
  | cons w ws ih =>
    rw [List.flatMap_cons, List.append_assoc, List.length_append]
    simp only [List.length_cons, List.length_append] at *
    omega
theorem fieldR_of {f : Fd} (hf : FOk f) {r : List UInt8} (hr : Behind r) : fieldR (fieldT f ++ r) = (some f, r) := by
  obtain ⟨hn, he⟩ := hf
  have hnl := nameP_l hn
  rcases fld_kind he with ⟨k1, k2, k3, k4, k5⟩ | ⟨k1, k2, k3, k4, k5, k6⟩
  · have e : fieldT f ++ r = tl f.name ++ (32 :: (numberB ++ 32 :: (Lib.itoa f.min ++ 32 :: (Lib.itoa f.max ++ r)))) := by
      unfold fieldT
      rw [if_pos k1, k2]
      simp
    rw [e, fieldR, nameR_of hnl rfl]
    simp only []
    rw [isR_sp, if_neg (by rw [isR_name nb_nm rfl]; simp), nameR_sp, nameR_of nb_nm rfl]
    simp only []
    rw [if_pos trivial, numR_sp, numR_of (by omega) (by omega) rfl]
    simp only []
    rw [numR_sp, numR_of (by omega) (by omega) hr.dg, bs_tl]
    obtain ⟨a, b, c, d, e⟩ := f
    simp only at k1 k2
    subst k1 k2
    rfl
  · have e : fieldT f ++ r = tl f.name ++ ((f.words.flatMap fun w => 32 :: 39 :: (tl w ++ [39])) ++ r) := by
      unfold fieldT
      rw [if_neg (by omega)]
      simp
    obtain ⟨x, xs, hx⟩ := List.exists_cons_of_length_pos k4
    have e2 : (f.words.flatMap fun w => 32 :: 39 :: (tl w ++ [39])) ++ r = 32 :: 39 :: (tl x ++ 39 :: ((xs.flatMap fun w => 32 :: 39 :: (tl w ++ [39])) ++ r)) := by
      rw [hx, List.flatMap_cons]; simp
    rw [e, fieldR, nameR_of hnl (by rw [e2]; rfl)]
    simp only []
    rw [if_pos (by rw [e2, isR_sp]; rfl), wordsR_of f.words _ [] r k6 hr.q hr.sk (by have := flat_len f.words r; omega), bs_tl]
    obtain ⟨a, b, c, d, e⟩ := f
    simp only at k1 k2 k3
    subst k1 k2 k3
    rfl
theorem behind_44 (r : List UInt8) : Behind (44 :: r) := ⟨skS_id rfl, by rw [isR, skS_id rfl]; rfl, rfl⟩
theorem behind_41 (r : List UInt8) : Behind (41 :: r) := ⟨skS_id rfl, by rw [isR, skS_id rfl]; rfl, rfl⟩
theorem fieldT_hd {f : Fd} (hf : FOk f) (r : List UInt8) : nameR (fieldT f ++ r) = nameR (fieldT f ++ r) := rfl
theorem fieldR_sp (l : List UInt8) : fieldR (32 :: l) = fieldR l := by rw [fieldR, fieldR, nameR_sp]
theorem fieldsR_of : ∀ (L : List Fd) (k : Nat) (acc : List Fd), (∀ f ∈ L, FOk f) → L.length < k → fieldsR k ((L.flatMap fun g => 44 :: 32 :: fieldT g) ++ [41]) acc = (some (acc ++ L), [41])
  | [], k + 1, acc, _, _ => by
    rw [List.flatMap_nil, List.nil_append, List.append_nil]; rfl
  | f :: L, k + 1, acc, h, hk => by
    have e : ((f :: L).flatMap fun g => 44 :: 32 :: fieldT g) ++ [41] = 44 :: 32 :: (fieldT f ++ ((L.flatMap fun g => 44 :: 32 :: fieldT g) ++ [41])) := by simp [List.flatMap_cons]
    have hb : Behind ((L.flatMap fun g => 44 :: 32 :: fieldT g) ++ [41]) := by
      cases L with
      | nil => exact behind_41 _
      | cons g L => rw [List.flatMap_cons]; exact behind_44 _
    rw [e, fieldsR, if_pos (by rw [isR, skS_id rfl]; rfl), skS_id rfl, List.tail_cons, fieldR_sp, fieldR_of (h f (List.mem_cons_self ..)) hb]
    simp only []
    rw [fieldsR_of L k _ (fun x hx => h x (List.mem_cons_of_mem _ hx)) (by simp at hk; omega)]
    simp
theorem fieldsE_fok : ∀ (L : List Fd) (S : List ByteArray), fieldsE S L = 0 → ∀ f ∈ L, FOk f
  | [], S, _, f, h => by cases h
  | g :: L, S, he, f, h => by
    rw [fieldsE] at he
    split at he
    · cases he
    · rename_i h1
      split at he
      · cases he
      · split at he
        · rename_i h3; exact absurd he h3
        · rename_i h3
          rcases List.mem_cons.1 h with rfl | h
          · exact ⟨by simpa using h1, Classical.byContradiction h3⟩
          · exact fieldsE_fok L _ he f h
theorem schemaE_ok {nm : ByteArray} {L : List Fd} (h : schemaE nm L = 0) : nameP nm = true ∧ 1 ≤ L.length ∧ L.length ≤ 16 ∧ ∀ f ∈ L, FOk f := by
  unfold schemaE at h
  split at h
  · cases h
  · rename_i h1
    split at h
    · cases h
    · exact ⟨by simpa using h1, by omega, by omega, fieldsE_fok _ _ h⟩
theorem fl_len (L : List Fd) (r : List UInt8) : L.length ≤ ((L.flatMap fun g => 44 :: 32 :: fieldT g) ++ r).length := by
  induction L with
  | nil => simp
  | cons w ws ih =>
    rw [List.flatMap_cons, List.append_assoc, List.length_append]
    simp only [List.length_cons, List.length_append] at *
    omega
/-- the text of a schema is read as the schema -/
theorem parse_text {nm : ByteArray} {L : List Fd} (h : schemaE nm L = 0) : parseS (schemaT nm L) = (nm, L, 0, 0) := by
  obtain ⟨h1, h2, h3, h4⟩ := schemaE_ok h
  have hs : schemaR (schemaT nm L) = (some (nm, L), []) := by
    cases L with
    | nil => simp at h2
    | cons f L =>
      have hb : Behind ((L.flatMap fun g => 44 :: 32 :: fieldT g) ++ [41]) := by
        cases L with
        | nil => exact behind_41 _
        | cons g L => rw [List.flatMap_cons]; exact behind_44 _
      have hl := fl_len L [41]
      rw [schemaT, schemaR, nameR_of (nameP_l h1) rfl]
      simp only []
      rw [if_pos (by rw [isR, skS_id rfl]; rfl), skS_id rfl, List.tail_cons, fieldR_of (h4 f (List.mem_cons_self ..)) hb]
      simp only []
      rw [fieldsR_of L _ [f] (fun x hx => h4 x (List.mem_cons_of_mem _ hx)) (by omega)]
      simp only []
      rw [bs_tl]; rfl
  unfold parseS
  rw [hs]
  simp only []
  rw [if_neg (by rw [h]; simp)]
end Go.Proofs.YtmdjhakamapngaaDoor
