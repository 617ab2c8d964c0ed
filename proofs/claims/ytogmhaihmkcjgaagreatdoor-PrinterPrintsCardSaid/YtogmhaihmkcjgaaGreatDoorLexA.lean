import Derived.WalkKit
/-
 The lexer in plain words: classes of bytes, white space and comments, tokens, the scan of a source. No program in sight.
-/
namespace Go.Proofs.YtogmhaihmkcjgaaGreatDoor.Lx

def isSp (c : UInt8) : Bool := c == 32 || c == 9 || c == 13 || c == 10
def isLet (c : UInt8) : Bool := (97 ≤ c && c ≤ 122) || (65 ≤ c && c ≤ 90)
def isDig (c : UInt8) : Bool := 48 ≤ c && c ≤ 57
def isNm (c : UInt8) : Bool := isLet c || isDig c || c == 95
def isWd (c : UInt8) : Bool := isNm c || c == 45
def isLU (c : UInt8) : Bool := isLet c || c == 95
/-- how many bytes at the beginning have a property -/
def sp (p : UInt8 → Bool) : List UInt8 → Nat
 | [] => 0
 | c :: m => if p c then sp p m + 1 else 0
theorem sp_le (p : UInt8 → Bool) (l : List UInt8) : sp p l ≤ l.length := by
 induction l with
 | nil => exact Nat.le_refl 0
 | cons c m ih =>
  unfold sp
  split
  ·simpa using ih
  ·simp
theorem sp_succ {p : UInt8 → Bool} {c : UInt8} {m : List UInt8} (h : p c = true) : sp p (c :: m) = sp p m + 1 := by rw [sp, if_pos h]
theorem sp_stop {p : UInt8 → Bool} {c : UInt8} {m : List UInt8} (h : p c = false) : sp p (c :: m) = 0 := by rw [sp, if_neg (by simp [h])]
theorem sp_all {p : UInt8 → Bool} {l : List UInt8} : ∀ i (_ : i < sp p l) (h2 : i < l.length), p l[i] = true := by
 induction l with
 | nil => intro i h h2; simp at h2
 | cons c m ih =>
  intro i h h2
  cases hc : p c with
  | false => rw [sp_stop hc] at h; omega
  | true =>
   rw [sp_succ hc] at h
   cases i with
   | zero => exact hc
   | succ i => exact ih i (by omega) (by simpa using h2)
theorem sp_end {p : UInt8 → Bool} {l : List UInt8} (h : sp p l < l.length) : p l[sp p l] = false := by
 induction l with
 | nil => simp at h
 | cons c m ih =>
  cases hc : p c with
  | false =>
   simp only [sp_stop hc]
   exact hc
  | true =>
   rw [sp_succ hc] at h
   simp only [sp_succ hc, List.getElem_cons_succ]
   exact ih (by simpa using h)
/-- a number is determined by its properties -/
theorem sp_of {p : UInt8 → Bool} {l : List UInt8} {n : Nat} (hn : n ≤ l.length) (h1 : ∀ i (_ : i < n) (h2 : i < l.length), p l[i] = true) (h2 : ∀ h : n < l.length, p l[n] = false) : sp p l = n := by
 rcases Nat.lt_trichotomy (sp p l) n with h | h | h
 ·have h3 := h1 _ h (by omega)
  rw [sp_end (p := p) (l := l) (by omega)] at h3
  cases h3
 ·exact h
 ·have h3 := sp_le p l
  have := sp_all (p := p) (l := l) n h (by omega)
  rw [h2 (by omega)] at this
  cases this
theorem sp_drop {p : UInt8 → Bool} {l : List UInt8} {i : Nat} (h : i < l.length) (hp : p l[i] = true) : sp p (l.drop i) = sp p (l.drop (i + 1)) + 1 := by
 rw [List.drop_eq_getElem_cons h, sp_succ hp]
theorem sp_drop_stop {p : UInt8 → Bool} {l : List UInt8} {i : Nat} (h : i < l.length) (hp : p l[i] = false) : sp p (l.drop i) = 0 := by
 rw [List.drop_eq_getElem_cons h, sp_stop hp]
theorem sp_drop_end {p : UInt8 → Bool} {l : List UInt8} {i : Nat} (h : l.length ≤ i) : sp p (l.drop i) = 0 := by
 rw [List.drop_eq_nil_of_le h]; rfl
/-- a run that stops inside is not changed by what follows -/
theorem sp_app {p : UInt8 → Bool} {a b : List UInt8} (h : sp p a < a.length) : sp p (a ++ b) = sp p a := by
 induction a with
 | nil => simp at h
 | cons c m ih =>
  cases hc : p c with
  | false => rw [List.cons_append, sp_stop hc, sp_stop hc]
  | true =>
   rw [sp_succ hc] at h
   rw [List.cons_append, sp_succ hc, sp_succ hc, ih (by simpa using h)]
theorem sp_app_all {p : UInt8 → Bool} {a b : List UInt8} (h : sp p a = a.length) : sp p (a ++ b) = a.length + sp p b := by
 induction a with
 | nil => simp
 | cons c m ih =>
  cases hc : p c with
  | false => rw [sp_stop hc] at h; simp at h
  | true =>
   rw [sp_succ hc] at h
   rw [List.cons_append, sp_succ hc, ih (by simpa using h)]
   simp; omega
theorem sp_take {p : UInt8 → Bool} {l : List UInt8} {n : Nat} (h : n ≤ sp p l) : sp p (l.take n) = n := by
 induction n generalizing l with
 | zero => rfl
 | succ n ih =>
  cases l with
  | nil => simp [sp] at h
  | cons c m =>
   cases hc : p c with
   | false => rw [sp_stop hc] at h; omega
   | true =>
    rw [sp_succ hc] at h
    rw [List.take_succ_cons, sp_succ hc, ih (by omega)]

/-- how many bytes of white space and comments a source begins with; true: inside a comment -/
def sk : Bool → List UInt8 → Nat
 | _, [] => 0
 | false, c :: m => if isSp c then sk false m + 1 else if c == 35 then sk true m + 1 else 0
 | true, c :: m => if c == 10 then sk false m + 1 else sk true m + 1
theorem sk_le (b : Bool) (l : List UInt8) : sk b l ≤ l.length := by
 induction l generalizing b with
 | nil => cases b <;> exact Nat.le_refl 0
 | cons c m ih =>
  have h1 := ih false
  have h2 := ih true
  cases b <;> unfold sk <;> simp only [List.length_cons] <;> split <;> (try split) <;> omega
theorem sk_sp {c : UInt8} {m : List UInt8} (h : isSp c = true) : sk false (c :: m) = sk false m + 1 := by rw [sk, if_pos h]
theorem sk_hash {m : List UInt8} : sk false (35 :: m) = sk true m + 1 := by
 rw [sk, if_neg (by decide), if_pos (by decide)]
theorem sk_stop {c : UInt8} {m : List UInt8} (h : isSp c = false) (h2 : (c == 35) = false) : sk false (c :: m) = 0 := by
 rw [sk, if_neg (by simp [h]), if_neg (by simp [h2])]
theorem sk_nl {m : List UInt8} : sk true (10 :: m) = sk false m + 1 := by rw [sk, if_pos (by decide)]
theorem sk_in {c : UInt8} {m : List UInt8} (h : (c == 10) = false) : sk true (c :: m) = sk true m + 1 := by rw [sk, if_neg (by simp [h])]
/-- white space, then more -/
theorem sk_run (l : List UInt8) : sk false l = sp isSp l + sk false (l.drop (sp isSp l)) := by
 induction l with
 | nil => rfl
 | cons c m ih =>
  cases hc : isSp c with
  | false => rw [sp_stop hc]; simp
  | true => rw [sp_succ hc, sk_sp hc, List.drop_succ_cons]; omega
/-- a comment ends before the end of its line -/
theorem sk_line (l : List UInt8) : sk true l = sp (fun c => c != 10) l + sk false (l.drop (sp (fun c => c != 10) l)) := by
 induction l with
 | nil => rfl
 | cons c m ih =>
  cases hc : (c == 10) with
  | true =>
   have : c = 10 := by simpa using hc
   subst this
   rw [sp_stop (p := fun c => c != 10) (by decide), sk_nl]
   simp only [List.drop_zero]
   rw [sk_sp (by decide)]; omega
  | false =>
   have h2 : sp (fun c => c != 10) (c :: m) = sp (fun c => c != 10) m + 1 := sp_succ (p := fun c => c != 10) (by simpa using hc)
   rw [h2, sk_in hc, List.drop_succ_cons]; omega

def dv (l : List UInt8) : Nat := l.foldl (fun n c => 10 * n + (c.toNat - 48)) 0
theorem dv_snoc (l : List UInt8) (c : UInt8) : dv (l ++ [c]) = 10 * dv l + (c.toNat - 48) := by simp [dv]
theorem dv_mono (l m : List UInt8) : dv l ≤ dv (l ++ m) := by
 induction m generalizing l with
 | nil => simp
 | cons c m ih =>
  have := ih (l ++ [c])
  rw [dv_snoc] at this
  rw [show l ++ c :: m = l ++ [c] ++ m by simp]
  omega

def one (c : UInt8) : Bool := c == 61 || c == 60 || c == 62 || c == 58 || c == 46 || c == 44 || c == 40 || c == 41 || c == 123 || c == 125
def two (a b : UInt8) : Bool := b == 61 && (a == 33 || a == 60 || a == 62)
/-- the length of the sign with which a source begins, or 0 -/
def sg : List UInt8 → Nat
 | [] => 0
 | [a] => if one a then 1 else 0
 | a :: b :: _ => if two a b then 2 else if one a then 1 else 0

def kws : List (List UInt8) := [[112, 111, 108, 105, 99, 121], [117, 115, 101, 115], [114, 101, 118, 101, 97, 108], [112, 114, 111, 118, 101], [115, 99, 111, 112, 101], [108, 105, 109, 105, 116], [101, 115, 99, 114, 111, 119], [101, 110, 100], [97, 108, 108], [97, 110, 121], [97, 116, 108, 101, 97, 115, 116], [110, 111, 116], [116, 114, 117, 101], [102, 97, 108, 115, 101], [98, 101, 116, 119, 101, 101, 110], [97, 110, 100], [105, 110]]
def kw (l : List UInt8) : Bool := kws.contains l

/-- the parts of a token -/
def tkName (m : List UInt8) : Nat ⊕ Nat × Nat := if 32 < sp isNm m then .inl 5 else .inr (if kw (m.take (sp isNm m)) then 2 else 0, sp isNm m)
def tkWord (m : List UInt8) : Nat ⊕ Nat × Nat := if 32 < sp isWd m then .inl 5 else if sp isWd m = 0 ∨ m[sp isWd m]? ≠ some 39 then .inl 4 else .inr (0, sp isWd m + 2)
def tkSign (m : List UInt8) : Nat ⊕ Nat × Nat := if sg m = 0 then .inl 4 else .inr (2, sg m)
/-- the error, or the kind and the length, of the token with which a source begins -/
def tk : List UInt8 → Nat ⊕ Nat × Nat
 | [] => .inl 4
 | c :: m =>
  if isLet c then tkName (c :: m)
  else if c == 39 then tkWord m
  else if c == 45 then (if sp isDig m = 0 then tkSign (c :: m) else if dv (m.take (sp isDig m)) ≤ 2147483648 then .inr (1, sp isDig m + 1) else .inl 2)
  else if sp isDig (c :: m) = 0 then tkSign (c :: m) else if dv ((c :: m).take (sp isDig (c :: m))) ≤ 2147483647 then .inr (1, sp isDig (c :: m)) else .inl 2

structure Tok where
 kind : Nat
 text : List UInt8
 at_ : Nat
inductive Res where
 | ok (ts : List Tok)
 | err (at_ e : Nat)
/-- tokens ahead of a result -/
def Res.pre (out : List Tok) : Res → Res
 | .ok ts => .ok (out ++ ts)
 | .err a e => .err a e
theorem Res.pre_nil (r : Res) : r.pre [] = r := by cases r <;> rfl
theorem Res.pre_pre (a b : List Tok) (r : Res) : (r.pre b).pre a = r.pre (a ++ b) := by cases r <;> simp [Res.pre]
/-- does a source begin with a letter or _? -/
def luAt : List UInt8 → Bool
 | [] => false
 | c :: _ => isLU c
/-- the scan from an offset on, behind white space and comments -/
def st (f : Nat → List UInt8 → Res) (a : Nat) (m : List UInt8) : Res :=
 match m, tk m with
 | [], _ => .ok [⟨3, [], a⟩]
 | _ :: _, .inl e => .err a e
 | _ :: _, .inr (k, n) => if k = 1 ∧ luAt (m.drop n) = true then .err (a + n) 4 else (f (a + n) (m.drop n)).pre [⟨k, m.take n, a⟩]
/-- the scan with so much fuel -/
def scF : Nat → Nat → List UInt8 → Res
 | 0, _, _ => .ok []
 | f + 1, a, l => st (scF f) (a + sk false l) (l.drop (sk false l))
/-- what Scan returns for a source that is not too long -/
def sc (l : List UInt8) : Res := scF (l.length + 1) 0 l
end Go.Proofs.YtogmhaihmkcjgaaGreatDoor.Lx

/-
 Laws of the plain lexer: steps of the scan; what may stand behind a token; white space between tokens. No program in sight.
-/
namespace Go.Proofs.YtogmhaihmkcjgaaGreatDoor.Lx

theorem sg_le (m : List UInt8) : sg m ≤ m.length ∧ sg m ≤ 2 := by
 match m with
 | [] => exact ⟨Nat.le_refl 0, by decide⟩
 | [a] => rw [sg]; split <;> simp
 | a :: b :: r =>
  rw [sg]
  split
  ·simp
  ·split <;> simp
theorem tkName_len {m : List UInt8} {k n : Nat} (h : tkName m = .inr (k, n)) : n = sp isNm m ∧ n ≤ 32 ∧ k = (if kw (m.take n) then 2 else 0) := by
 unfold tkName at h
 split at h
 ·cases h
 ·simp only [Sum.inr.injEq, Prod.mk.injEq] at h
  obtain ⟨h1, h2⟩ := h
  exact ⟨h2.symm, by omega, by rw [← h1, ← h2]⟩
theorem tkWord_len {m : List UInt8} {k n : Nat} (h : tkWord m = .inr (k, n)) : k = 0 ∧ n = sp isWd m + 2 ∧ sp isWd m ≤ 32 ∧ sp isWd m ≠ 0 ∧ m[sp isWd m]? = some 39 := by
 unfold tkWord at h
 split at h
 ·cases h
 ·split at h
  ·cases h
  ·rename_i h1 h2
   simp only [Sum.inr.injEq, Prod.mk.injEq] at h
   have h3 : ¬ sp isWd m = 0 := fun h4 => h2 (.inl h4)
   have h4 : m[sp isWd m]? = some 39 := Classical.byContradiction fun h4 => h2 (.inr h4)
   exact ⟨h.1.symm, h.2.symm, by omega, h3, h4⟩
theorem tkSign_len {m : List UInt8} {k n : Nat} (h : tkSign m = .inr (k, n)) : k = 2 ∧ n = sg m ∧ n ≠ 0 := by
 unfold tkSign at h
 split at h
 ·cases h
 ·simp only [Sum.inr.injEq, Prod.mk.injEq] at h
  exact ⟨h.1.symm, h.2.symm, by omega⟩
/-- the ways in which a token can be read -/
inductive Way : List UInt8 → Nat → Nat → Prop
 | name (c : UInt8) (m : List UInt8) (hc : isLet c = true) (h : sp isNm (c :: m) ≤ 32) : Way (c :: m) (if kw ((c :: m).take (sp isNm (c :: m))) then 2 else 0) (sp isNm (c :: m))
 | word (m : List UInt8) (h0 : sp isWd m ≠ 0) (h : sp isWd m ≤ 32) (hq : m[sp isWd m]? = some 39) : Way (39 :: m) 0 (sp isWd m + 2)
 | minus (m : List UInt8) (h0 : sp isDig m ≠ 0) (h : dv (m.take (sp isDig m)) ≤ 2147483648) : Way (45 :: m) 1 (sp isDig m + 1)
 | digits (c : UInt8) (m : List UInt8) (hl : isLet c = false) (h1 : (c == 39) = false) (h2 : (c == 45) = false) (h0 : sp isDig (c :: m) ≠ 0) (h : dv ((c :: m).take (sp isDig (c :: m))) ≤ 2147483647) : Way (c :: m) 1 (sp isDig (c :: m))
 | sign (c : UInt8) (m : List UInt8) (hl : isLet c = false) (h1 : (c == 39) = false) (h2 : (c == 45) = true → sp isDig m = 0) (h3 : (c == 45) = false → sp isDig (c :: m) = 0) (h : sg (c :: m) ≠ 0) : Way (c :: m) 2 (sg (c :: m))
theorem way_of {m : List UInt8} {k n : Nat} (h : tk m = .inr (k, n)) : Way m k n := by
 cases m with
 | nil => cases h
 | cons c m =>
  rw [tk] at h
  by_cases hl : isLet c = true
  ·rw [if_pos hl] at h
   obtain ⟨rfl, h2, rfl⟩ := tkName_len h
   exact .name c m hl h2
  ·have hl' : isLet c = false := by simpa using hl
   rw [if_neg hl] at h
   by_cases h1 : (c == 39) = true
   ·rw [if_pos h1] at h
    have : c = 39 := by simpa using h1
    subst this
    obtain ⟨rfl, rfl, h2, h3, h4⟩ := tkWord_len h
    exact .word m h3 h2 h4
   ·have h1' : (c == 39) = false := by simpa using h1
    rw [if_neg h1] at h
    by_cases h2 : (c == 45) = true
    ·rw [if_pos h2] at h
     have : c = 45 := by simpa using h2
     subst this
     by_cases h3 : sp isDig m = 0
     ·rw [if_pos h3] at h
      obtain ⟨rfl, rfl, h4⟩ := tkSign_len h
      exact .sign 45 m hl' h1' (fun _ => h3) (fun h5 => by cases h5) h4
     ·rw [if_neg h3] at h
      by_cases h4 : dv (m.take (sp isDig m)) ≤ 2147483648
      ·rw [if_pos h4] at h
       simp only [Sum.inr.injEq, Prod.mk.injEq] at h
       obtain ⟨rfl, rfl⟩ := h
       exact .minus m h3 h4
      ·rw [if_neg h4] at h
       cases h
    ·have h2' : (c == 45) = false := by simpa using h2
     rw [if_neg h2] at h
     by_cases h3 : sp isDig (c :: m) = 0
     ·rw [if_pos h3] at h
      obtain ⟨rfl, rfl, h4⟩ := tkSign_len h
      exact .sign c m hl' h1' (fun h5 => by rw [h2'] at h5; cases h5) (fun _ => h3) h4
     ·rw [if_neg h3] at h
      by_cases h4 : dv ((c :: m).take (sp isDig (c :: m))) ≤ 2147483647
      ·rw [if_pos h4] at h
       simp only [Sum.inr.injEq, Prod.mk.injEq] at h
       obtain ⟨rfl, rfl⟩ := h
       exact .digits c m hl' h1' h2' h3 h4
      ·rw [if_neg h4] at h
       cases h
theorem Way.tk {m : List UInt8} {k n : Nat} (h : Way m k n) : tk m = .inr (k, n) := by
 cases h with
 | name c m hc h => rw [Lx.tk, if_pos hc, tkName, if_neg (by omega)]
 | word m h0 h hq =>
  rw [Lx.tk, if_neg (by decide), if_pos (by decide), tkWord, if_neg (by omega), if_neg (by intro h5; rcases h5 with h5 | h5; exact h0 h5; exact h5 hq)]
 | minus m h0 h => rw [Lx.tk, if_neg (by decide), if_neg (by decide), if_pos (by decide), if_neg h0, if_pos h]
 | digits c m hl h1 h2 h0 h => rw [Lx.tk, if_neg (by simp [hl]), if_neg (by simp [h1]), if_neg (by simp [h2]), if_neg h0, if_pos h]
 | sign c m hl h1 h2 h3 h =>
  rw [Lx.tk, if_neg (by simp [hl]), if_neg (by simp [h1])]
  by_cases h5 : (c == 45) = true
  ·rw [if_pos h5, if_pos (h2 h5), tkSign, if_neg h]
  ·rw [if_neg h5, if_pos (h3 (by simpa using h5)), tkSign, if_neg h]
theorem tk_len {m : List UInt8} {k n : Nat} (h : tk m = .inr (k, n)) : 0 < n ∧ n ≤ m.length := by
 cases way_of h with
 | name c m hc h =>
  have h1 : isNm c = true := by simp [isNm, hc]
  have h2 := sp_le isNm (c :: m)
  rw [sp_succ h1] at h2 ⊢
  exact ⟨by omega, h2⟩
 | word m h0 h hq =>
  obtain ⟨h1, h2⟩ := List.getElem?_eq_some_iff.1 hq
  simp only [List.length_cons]
  omega
 | minus m h0 h =>
  have := sp_le isDig m
  simp only [List.length_cons]
  omega
 | digits c m hl h1 h2 h0 h =>
  have := sp_le isDig (c :: m)
  omega
 | sign c m hl h1 h2 h3 h =>
  have := (sg_le (c :: m)).1
  omega
theorem tk_kind {m : List UInt8} {k n : Nat} (h : tk m = .inr (k, n)) : k ≤ 2 := by
 cases way_of h with
 | name c m hc h => split <;> omega
 | word m h0 h hq => omega
 | minus m h0 h => omega
 | digits c m hl h1 h2 h0 h => omega
 | sign c m hl h1 h2 h3 h => omega

/-- what the scan still has to do, from an offset on -/
structure SI (l : List UInt8) (a : Nat) (out : List Tok) : Prop where
 le : a ≤ l.length
 ex : ∃ f, l.length - a < f ∧ sc l = (scF f a (l.drop a)).pre out
theorem SI.start (l : List UInt8) : SI l 0 [] := ⟨Nat.zero_le _, l.length + 1, by omega, by rw [Res.pre_nil]; rfl⟩
theorem skip_le (l : List UInt8) {a : Nat} (h : a ≤ l.length) : a + sk false (l.drop a) ≤ l.length := by
 have := sk_le false (l.drop a)
 simp at this
 omega
/-- white space or comments change nothing -/
theorem scF_skip {f a j : Nat} {l : List UInt8} (h : sk false l = j + sk false (l.drop j)) : scF f a l = scF f (a + j) (l.drop j) := by
 cases f with
 | zero => rfl
 | succ f =>
  unfold scF
  rw [List.drop_drop, ← h, Nat.add_assoc, ← h]
theorem SI.skip {l : List UInt8} {a : Nat} {out : List Tok} (h : SI l a out) {j : Nat} (hj : a + j ≤ l.length) (hs : sk false (l.drop a) = j + sk false (l.drop (a + j))) : SI l (a + j) out := by
 obtain ⟨f, h1, h2⟩ := h.ex
 refine ⟨hj, f, by omega, ?_⟩
 rw [h2, scF_skip (j := j) (by rw [List.drop_drop]; exact hs), List.drop_drop]
theorem SI.skipAll {l : List UInt8} {a : Nat} {out : List Tok} (h : SI l a out) : SI l (a + sk false (l.drop a)) out := by
 refine h.skip (skip_le l h.le) ?_
 have : ∀ (b : Bool) (l : List UInt8), sk false (l.drop (sk b l)) = 0 := by
  intro b l
  induction l generalizing b with
  | nil => cases b <;> rfl
  | cons c m ih =>
   cases b with
   | false =>
    by_cases h1 : isSp c = true
    ·rw [sk_sp h1, List.drop_succ_cons]; exact ih false
    ·by_cases h2 : (c == 35) = true
     ·have : c = 35 := by simpa using h2
      subst this
      rw [sk_hash, List.drop_succ_cons]; exact ih true
     ·have h1' : isSp c = false := by simpa using h1
      have h2' : (c == 35) = false := by simpa using h2
      rw [sk_stop h1' h2', List.drop_zero, sk_stop h1' h2']
   | true =>
    by_cases h2 : (c == 10) = true
    ·have : c = 10 := by simpa using h2
     subst this
     rw [sk_nl, List.drop_succ_cons]; exact ih false
    ·have h2' : (c == 10) = false := by simpa using h2
     rw [sk_in h2', List.drop_succ_cons]; exact ih true
 rw [← List.drop_drop, this]; rfl
theorem SI.space {l : List UInt8} {a : Nat} {out : List Tok} (h : SI l a out) (ha : a < l.length) (hs : isSp l[a] = true) : SI l (a + 1) out := by
 refine h.skip (by omega) ?_
 rw [List.drop_eq_getElem_cons ha, sk_sp hs]; omega
theorem SI.comment {l : List UInt8} {a : Nat} {out : List Tok} (h : SI l a out) (ha : a < l.length) (hs : l[a] = 35) : SI l (a + sp (fun c => c != 10) (l.drop a)) out := by
 have e : l.drop a = 35 :: l.drop (a + 1) := by rw [List.drop_eq_getElem_cons ha, hs]
 have h3 := sp_le (fun c => c != 10) (l.drop a)
 simp at h3
 refine h.skip (by omega) ?_
 rw [← List.drop_drop, e, sk_hash, sp_succ (by decide), List.drop_succ_cons, sk_line]; omega
theorem SI.atEnd {l : List UInt8} {a : Nat} {out : List Tok} (h : SI l a out) (ha : a = l.length) : sc l = .ok (out ++ [⟨3, [], a⟩]) := by
 subst ha
 obtain ⟨f, h1, h2⟩ := h.ex
 cases f with
 | zero => omega
 | succ f =>
  rw [h2]
  simp [scF, st, sk, Res.pre]
theorem SI.unfold {l : List UInt8} {a : Nat} {out : List Tok} (h : SI l a out) (_ : a < l.length) (hs : sk false (l.drop a) = 0) : ∃ f, l.length - a < f + 1 ∧ sc l = (st (scF f) a (l.drop a)).pre out := by
 obtain ⟨f, h1, h2⟩ := h.ex
 cases f with
 | zero => omega
 | succ f =>
  refine ⟨f, h1, ?_⟩
  rw [h2]
  unfold scF
  rw [hs]
  rfl
theorem SI.error {l : List UInt8} {a : Nat} {out : List Tok} (h : SI l a out) (ha : a < l.length) (hs : sk false (l.drop a) = 0) {e : Nat} (ht : tk (l.drop a) = .inl e) : sc l = .err a e := by
 obtain ⟨f, h1, h2⟩ := h.unfold ha hs
 rw [h2]
 have e1 : l.drop a = l[a] :: l.drop (a + 1) := List.drop_eq_getElem_cons ha
 unfold st
 rw [ht]
 rw [e1]
 rfl
theorem SI.glued {l : List UInt8} {a : Nat} {out : List Tok} (h : SI l a out) (ha : a < l.length) (hs : sk false (l.drop a) = 0) {n : Nat} (ht : tk (l.drop a) = .inr (1, n)) (hl : luAt (l.drop (a + n)) = true) : sc l = .err (a + n) 4 := by
 obtain ⟨f, h1, h2⟩ := h.unfold ha hs
 rw [h2]
 have e1 : l.drop a = l[a] :: l.drop (a + 1) := List.drop_eq_getElem_cons ha
 unfold st
 rw [ht]
 rw [e1]
 simp only []
 rw [← e1, List.drop_drop, if_pos ⟨trivial, hl⟩]
 rfl
theorem SI.token {l : List UInt8} {a : Nat} {out : List Tok} (h : SI l a out) (ha : a < l.length) (hs : sk false (l.drop a) = 0) {k n : Nat} (ht : tk (l.drop a) = .inr (k, n)) (hl : ¬ (k = 1 ∧ luAt (l.drop (a + n)) = true)) : SI l (a + n) (out ++ [⟨k, (l.drop a).take n, a⟩]) := by
 obtain ⟨f, h1, h2⟩ := h.unfold ha hs
 have h3 := tk_len ht
 simp at h3
 refine ⟨by omega, f, by omega, ?_⟩
 rw [h2]
 have e1 : l.drop a = l[a] :: l.drop (a + 1) := List.drop_eq_getElem_cons ha
 unfold st
 rw [ht]
 rw [e1]
 simp only []
 rw [← e1, List.drop_drop, if_neg hl, Res.pre_pre]
end Go.Proofs.YtogmhaihmkcjgaaGreatDoor.Lx

/-
 Plain laws of the lexer: what stands behind a token matters little; white space between tokens; tokens joined by spaces.
-/
namespace Go.Proofs.YtogmhaihmkcjgaaGreatDoor.Lx

def hd (p : UInt8 → Bool) : List UInt8 → Bool
 | [] => false
 | c :: _ => p c
/-- what may stand behind a token in place of what stands there -/
def Look (r r' : List UInt8) : Prop := r'.head? = r.head? ∨ r' = [] ∨ ∃ c q, r' = c :: q ∧ (isSp c = true ∨ c = 35)
theorem look_hd {r r' : List UInt8} (h : Look r r') {p : UInt8 → Bool} (hp : ∀ c, (isSp c = true ∨ c = 35) → p c = false) (h0 : hd p r = false) : hd p r' = false := by
 rcases h with h | rfl | ⟨c, q, rfl, h⟩
 ·cases r' with
  | nil => rfl
  | cons c q =>
   cases r with
   | nil => simp at h
   | cons d q' =>
    simp at h
    subst h
    exact h0
 ·rfl
 ·exact hp c h
theorem sep_not (c : UInt8) (h : isSp c = true ∨ c = 35) : isNm c = false ∧ isDig c = false ∧ isLU c = false ∧ (c == 61) = false := by
 have h1 : c = 32 ∨ c = 9 ∨ c = 13 ∨ c = 10 ∨ c = 35 := by
  rcases h with h | h
  ·simp [isSp] at h
   rcases h with ((h | h) | h) | h
   ·exact .inl h
   ·exact .inr (.inl h)
   ·exact .inr (.inr (.inl h))
   ·exact .inr (.inr (.inr (.inl h)))
  ·exact .inr (.inr (.inr (.inr h)))
 rcases h1 with rfl | rfl | rfl | rfl | rfl <;> decide
theorem hd_drop {p : UInt8 → Bool} {l : List UInt8} : hd p (l.drop (sp p l)) = false := by
 by_cases h : sp p l < l.length
 ·rw [List.drop_eq_getElem_cons h]
  exact sp_end h
 ·rw [List.drop_eq_nil_of_le (by omega)]
  rfl
theorem sp_hd {p : UInt8 → Bool} {r : List UInt8} (h : hd p r = false) : sp p r = 0 := by
 cases r with
 | nil => rfl
 | cons c q => exact sp_stop h
theorem sp_swap {p : UInt8 → Bool} {l r : List UInt8} (h : hd p r = false) : sp p (l.take (sp p l) ++ r) = sp p l := by
 have h1 := sp_take (p := p) (l := l) (Nat.le_refl _)
 have h2 : (l.take (sp p l)).length = sp p l := by
  have := sp_le p l
  simp; omega
 rw [sp_app_all (by rw [h1, h2]), h2, sp_hd h]
 rfl
theorem take_swap {l r : List UInt8} {n : Nat} (h : n ≤ l.length) : (l.take n ++ r).take n = l.take n := by
 rw [List.take_append_of_le_length (by simp; omega), List.take_take, Nat.min_self]
theorem sp_take_gt {p : UInt8 → Bool} {l : List UInt8} {n : Nat} (h : sp p l < n) (hn : n ≤ l.length) : sp p (l.take n) = sp p l := by
 have h1 := sp_le p (l.take n)
 have h2 : (l.take n).length = n := by simp; omega
 rcases Nat.lt_or_ge (sp p (l.take n)) n with h3 | h3
 ·have := sp_app (b := l.drop n) (show sp p (l.take n) < (l.take n).length by omega)
  rw [List.take_append_drop] at this
  exact this.symm
 ·have := sp_app_all (b := l.drop n) (show sp p (l.take n) = (l.take n).length by omega)
  rw [List.take_append_drop] at this
  omega
theorem tk_look {m : List UInt8} {k n : Nat} (htk : tk m = .inr (k, n)) {r : List UInt8} (hr : Look (m.drop n) r) : tk (m.take n ++ r) = .inr (k, n) := by
 have hlen := tk_len htk
 have hwy := way_of htk
 clear htk
 cases hwy with
 | name c m hc h =>
  have hn : isNm c = true := by simp [isNm, hc]
  have e1 : sp isNm ((c :: m).take (sp isNm (c :: m)) ++ r) = sp isNm (c :: m) := sp_swap (look_hd hr (fun c h => (sep_not c h).1) hd_drop)
  have e2 := take_swap (r := r) hlen.2
  have e3 : (c :: m).take (sp isNm (c :: m)) ++ r = c :: (m.take (sp isNm m) ++ r) := by rw [sp_succ hn]; rfl
  have hw := Way.name c (m.take (sp isNm m) ++ r) hc (by rw [← e3, e1]; exact h)
  rw [← e3, e1, e2] at hw
  exact hw.tk
 | word m h0 h hq =>
  obtain ⟨h1, h2⟩ := List.getElem?_eq_some_iff.1 hq
  have e3 : (39 :: m).take (sp isWd m + 2) ++ r = 39 :: (m.take (sp isWd m + 1) ++ r) := rfl
  have e4 : sp isWd (m.take (sp isWd m + 1)) = sp isWd m := sp_take_gt (by omega) (by omega)
  have e5 : sp isWd (m.take (sp isWd m + 1) ++ r) = sp isWd m := by rw [sp_app (by rw [e4]; simp; omega), e4]
  have hw := Way.word (m.take (sp isWd m + 1) ++ r) (by rw [e5]; exact h0) (by rw [e5]; exact h) (by
   rw [e5, List.getElem?_append_left (by simp; omega), List.getElem?_take_of_lt (by omega)]; exact hq)
  rw [e5] at hw
  rw [e3]
  exact hw.tk
 | minus m h0 h =>
  have e3 : (45 :: m).take (sp isDig m + 1) ++ r = 45 :: (m.take (sp isDig m) ++ r) := rfl
  have e1 : sp isDig (m.take (sp isDig m) ++ r) = sp isDig m := sp_swap (look_hd hr (fun c h => (sep_not c h).2.1) (by rw [List.drop_succ_cons]; exact hd_drop))
  have e2 := take_swap (r := r) (sp_le isDig m)
  have hw := Way.minus (m.take (sp isDig m) ++ r) (by rw [e1]; exact h0) (by rw [e1, e2]; exact h)
  rw [e1] at hw
  rw [e3]
  exact hw.tk
 | digits c m hl h1 h2 h0 h =>
  have hd1 : isDig c = true := by
   cases h5 : isDig c with
   | true => rfl
   | false => rw [sp_stop h5] at h0; exact (h0 rfl).elim
  have e1 : sp isDig ((c :: m).take (sp isDig (c :: m)) ++ r) = sp isDig (c :: m) := sp_swap (look_hd hr (fun c h => (sep_not c h).2.1) hd_drop)
  have e2 := take_swap (r := r) hlen.2
  have e3 : (c :: m).take (sp isDig (c :: m)) ++ r = c :: (m.take (sp isDig m) ++ r) := by rw [sp_succ hd1]; rfl
  have hw := Way.digits c (m.take (sp isDig m) ++ r) hl h1 h2 (by rw [← e3, e1]; exact h0) (by rw [← e3, e1, e2]; exact h)
  rw [← e3, e1] at hw
  exact hw.tk
 | sign c m hl h1 h2 h3 h =>
  have h45 : (c == 45) = false := by
   cases h5 : (c == 45) with
   | false => rfl
   | true =>
    have : c = 45 := by simpa using h5
    subst this
    refine (h ?_).elim
    cases m with
    | nil => rfl
    | cons b q =>
     rw [sg, if_neg (by simp [two]), if_neg (by decide)]
  have hdg : isDig c = false := by
   cases h5 : isDig c with
   | false => rfl
   | true => have := h3 h45; rw [sp_succ h5] at this; omega
  have key : ∀ q, sg (c :: q) = sg (c :: m) → tk (c :: q) = .inr (2, sg (c :: m)) := by
   intro q hq
   have hw := Way.sign c q hl h1 (fun h5 => by rw [h45] at h5; cases h5) (fun _ => sp_stop hdg) (by rw [hq]; exact h)
   rw [hq] at hw
   exact hw.tk
  cases m with
  | nil =>
   have h6 : one c = true := by
    cases h5 : one c with
    | true => rfl
    | false => rw [sg, if_neg (by simp [h5])] at h; exact (h rfl).elim
   have e : sg [c] = 1 := by rw [sg, if_pos h6]
   have e7 : ([c] : List UInt8).take (sg [c]) ++ r = c :: r := by rw [e]; rfl
   rw [e7]
   apply key
   rw [e]
   rw [e] at hr
   cases r with
   | nil => exact e
   | cons b q =>
    have : (b == 61) = false := look_hd (p := fun c => c == 61) hr (fun c h => (sep_not c h).2.2.2) rfl
    rw [sg, if_neg (by simp [two, this]), if_pos h6]
  | cons b q =>
   by_cases h5 : two c b = true
   ·have e : sg (c :: b :: q) = 2 := by rw [sg, if_pos h5]
    have e7 : (c :: b :: q).take (sg (c :: b :: q)) ++ r = c :: b :: r := by rw [e]; rfl
    rw [e7]
    apply key
    rw [e, sg, if_pos h5]
   ·have h6 : one c = true := by
     cases h7 : one c with
     | true => rfl
     | false => rw [sg, if_neg h5, if_neg (by simp [h7])] at h; exact (h rfl).elim
    have e : sg (c :: b :: q) = 1 := by rw [sg, if_neg h5, if_pos h6]
    have e7 : (c :: b :: q).take (sg (c :: b :: q)) ++ r = c :: r := by rw [e]; rfl
    rw [e7]
    apply key
    rw [e]
    rw [e] at hr
    cases r with
    | nil => rw [sg, if_pos h6]
    | cons b' q' =>
     have h8 : two c b' = false := by
      rcases hr with hr | hr | ⟨c', q'', hr, hs⟩
      ·simp at hr
       subst hr
       simpa using h5
      ·cases hr
      ·simp only [List.cons.injEq] at hr
       obtain ⟨rfl, rfl⟩ := hr
       have := (sep_not _ hs).2.2.2
       simp [two, this]
     rw [sg, if_neg (by simp [h8]), if_pos h6]

/-- the tokens of a source from an offset on -/
inductive Sc : Nat → List UInt8 → List Tok → Prop
 | done (a : Nat) (l : List UInt8) (h : l.drop (sk false l) = []) : Sc a l [⟨3, [], a + sk false l⟩]
 | step (a : Nat) (l : List UInt8) (k n : Nat) (ts : List Tok) (ht : tk (l.drop (sk false l)) = .inr (k, n)) (hl : ¬ (k = 1 ∧ luAt ((l.drop (sk false l)).drop n) = true)) (h : Sc (a + sk false l + n) ((l.drop (sk false l)).drop n) ts) : Sc a l (⟨k, (l.drop (sk false l)).take n, a + sk false l⟩ :: ts)
theorem tk_ne {m : List UInt8} {k n : Nat} (h : tk m = .inr (k, n)) : m ≠ [] := by
 rintro rfl
 cases h
theorem st_inr {f : Nat → List UInt8 → Res} {a : Nat} {m : List UInt8} {k n : Nat} (h : tk m = .inr (k, n)) : st f a m = if k = 1 ∧ luAt (m.drop n) = true then .err (a + n) 4 else (f (a + n) (m.drop n)).pre [⟨k, m.take n, a⟩] := by
 unfold st
 rw [h]
 cases m with
 | nil => cases h
 | cons c m => rfl
theorem st_inl {f : Nat → List UInt8 → Res} {a : Nat} {m : List UInt8} {e : Nat} (h : tk m = .inl e) (hm : m ≠ []) : st f a m = .err a e := by
 unfold st
 rw [h]
 cases m with
 | nil => exact (hm rfl).elim
 | cons c m => rfl
theorem Sc.of {f : Nat} : ∀ {a : Nat} {l : List UInt8} {ts : List Tok}, l.length < f → scF f a l = .ok ts → Sc a l ts := by
 induction f with
 | zero => intro a l ts h; omega
 | succ f ih =>
  intro a l ts hl h
  unfold scF at h
  by_cases hm : l.drop (sk false l) = []
  ·rw [hm] at h
   simp only [st, Res.ok.injEq] at h
   subst h
   exact .done a l hm
  ·cases ht : tk (l.drop (sk false l)) with
   | inl e => rw [st_inl ht hm] at h; cases h
   | inr kn =>
    obtain ⟨k, n⟩ := kn
    rw [st_inr ht] at h
    split at h
    ·cases h
    ·rename_i hlu
     cases hr : scF f (a + sk false l + n) ((l.drop (sk false l)).drop n) with
     | err a e => rw [hr] at h; cases h
     | ok ts' =>
      rw [hr] at h
      simp only [Res.pre, Res.ok.injEq] at h
      subst h
      have := tk_len ht
      refine .step a l k n ts' ht hlu (ih ?_ hr)
      simp only [List.length_drop] at this ⊢
      omega
theorem Sc.to {a : Nat} {l : List UInt8} {ts : List Tok} (h : Sc a l ts) : ∀ f, l.length < f → scF f a l = .ok ts := by
 induction h with
 | done a l h =>
  intro f hf
  cases f with
  | zero => omega
  | succ f => unfold scF; rw [h]; rfl
 | step a l k n ts ht hl h ih =>
  intro f hf
  cases f with
  | zero => omega
  | succ f =>
   unfold scF
   have := tk_len ht
   simp only [List.length_drop] at this
   rw [st_inr ht, if_neg hl, ih f (by simp only [List.length_drop]; omega)]
   rfl
theorem sc_iff {l : List UInt8} {ts : List Tok} : sc l = .ok ts ↔ Sc 0 l ts := ⟨fun h => Sc.of (by omega) h, fun h => h.to _ (by omega)⟩
def kt (t : Tok) : Nat × List UInt8 := (t.kind, t.text)
theorem Sc.shift {a : Nat} {l : List UInt8} {ts : List Tok} (h : Sc a l ts) : ∀ b, ∃ ts', Sc b l ts' ∧ ts'.map kt = ts.map kt := by
 induction h with
 | done a l h => intro b; exact ⟨_, .done b l h, rfl⟩
 | step a l k n ts ht hl h ih =>
  intro b
  obtain ⟨ts', h1, h2⟩ := ih (b + sk false l + n)
  exact ⟨_, .step b l k n ts' ht hl h1, by simp [kt, h2]⟩
theorem Sc.space {a : Nat} {c : UInt8} {l : List UInt8} {ts : List Tok} (hc : isSp c = true) (h : Sc (a + 1) l ts) : Sc a (c :: l) ts := by
 have e := sk_sp (m := l) hc
 cases h with
 | done _ _ h =>
  have := Sc.done a (c :: l) (by rw [e, List.drop_succ_cons]; exact h)
  rw [e] at this
  rw [show a + 1 + sk false l = a + (sk false l + 1) by omega]
  exact this
 | step _ _ k n ts ht hl h =>
  have e2 : (c :: l).drop (sk false (c :: l)) = l.drop (sk false l) := by rw [e, List.drop_succ_cons]
  have e3 : a + sk false (c :: l) = a + 1 + sk false l := by rw [e]; omega
  have := Sc.step a (c :: l) k n ts (by rw [e2]; exact ht) (by rw [e2]; exact hl) (by rw [e2, e3]; exact h)
  rw [e2, e3] at this
  exact this
theorem Sc.within {a : Nat} {l : List UInt8} {ts : List Tok} (h : Sc a l ts) : ∀ t ∈ ts, a ≤ t.at_ ∧ t.at_ + t.text.length ≤ a + l.length := by
 induction h with
 | done a l h =>
  intro t ht
  rw [List.mem_singleton] at ht
  subst ht
  have := sk_le false l
  simp
  omega
 | step a l k n ts ht hl h ih =>
  have h1 := sk_le false l
  have h2 := tk_len ht
  simp only [List.length_drop] at h2
  intro t h3
  rcases List.mem_cons.1 h3 with rfl | h3
  ·simp
   omega
  ·have := ih t h3
   simp only [List.length_drop] at this
   omega
/-- the state behind a gap -/
theorem sk_gap {b : Bool} {g r : List UInt8} (h : sk b (g ++ r) = g.length) : ∃ b', (∀ x, sk b (g ++ x) = g.length + sk b' x) ∧ sk b' r = 0 := by
 induction g generalizing b with
 | nil => exact ⟨b, fun x => by simp, by simpa using h⟩
 | cons c g ih =>
  cases b with
  | false =>
   by_cases h1 : isSp c = true
   ·rw [List.cons_append, sk_sp h1, List.length_cons] at h
    obtain ⟨b', h2, h3⟩ := ih (b := false) (by omega)
    exact ⟨b', fun x => by rw [List.cons_append, sk_sp h1, h2, List.length_cons]; omega, h3⟩
   ·by_cases h2 : (c == 35) = true
    ·have : c = 35 := by simpa using h2
     subst this
     rw [List.cons_append, sk_hash, List.length_cons] at h
     obtain ⟨b', h2, h3⟩ := ih (b := true) (by omega)
     exact ⟨b', fun x => by rw [List.cons_append, sk_hash, h2, List.length_cons]; omega, h3⟩
    ·rw [List.cons_append, sk_stop (by simpa using h1) (by simpa using h2)] at h
     simp at h
  | true =>
   by_cases h2 : (c == 10) = true
   ·have : c = 10 := by simpa using h2
    subst this
    rw [List.cons_append, sk_nl, List.length_cons] at h
    obtain ⟨b', h2, h3⟩ := ih (b := false) (by omega)
    exact ⟨b', fun x => by rw [List.cons_append, sk_nl, h2, List.length_cons]; omega, h3⟩
   ·have h1 : (c == 10) = false := by simpa using h2
    rw [List.cons_append, sk_in h1, List.length_cons] at h
    obtain ⟨b', h2, h3⟩ := ih (b := true) (by omega)
    exact ⟨b', fun x => by rw [List.cons_append, sk_in h1, h2, List.length_cons]; omega, h3⟩
theorem sk_true_pos {r : List UInt8} (h : sk true r = 0) : r = [] := by
 cases r with
 | nil => rfl
 | cons c m => unfold sk at h; split at h <;> omega
theorem sk_own (l : List UInt8) : ∃ b', (∀ x, sk false (l.take (sk false l) ++ x) = sk false l + sk b' x) ∧ sk b' (l.drop (sk false l)) = 0 := by
 have h1 := sk_le false l
 have h2 : (l.take (sk false l)).length = sk false l := by simp; omega
 obtain ⟨b', h3, h4⟩ := sk_gap (b := false) (g := l.take (sk false l)) (r := l.drop (sk false l)) (by rw [List.take_append_drop, h2])
 rw [h2] at h3
 exact ⟨b', h3, h4⟩
/-- what is put between tokens -/
structure Gap (s : List UInt8) : Prop where
 all : ∀ b, sk b s = s.length
 stop : ∀ r, r ≠ [] → sk false r = 0 → sk false (s ++ r) = s.length
 sep : ∀ r, ∃ c q, s ++ r = c :: q ∧ (isSp c = true ∨ c = 35)
theorem sk_same {c : UInt8} {m q : List UInt8} (h : sk false (c :: m) = 0) : sk false (c :: q) = 0 := by
 unfold sk at h ⊢
 split at h
 ·omega
 ·rename_i h1
  rw [if_neg h1]
  split at h
  ·omega
  ·rename_i h2
   rw [if_neg h2]
theorem Sc.insert {a : Nat} {l : List UInt8} {ts : List Tok} (h : Sc a l ts) {s : List UInt8} (hs : Gap s) : ∀ i (hi : i < ts.length), ∃ ts', Sc a (l.take (ts[i].at_ - a) ++ (s ++ l.drop (ts[i].at_ - a))) ts' ∧ ts'.map kt = ts.map kt := by
 induction h with
 | done a l h =>
  intro i hi
  have : i = 0 := by simpa using hi
  subst this
  simp only [List.getElem_cons_zero]
  rw [show a + sk false l - a = sk false l by omega, h]
  obtain ⟨b', h3, h4⟩ := sk_own l
  have h5 : sk false (l.take (sk false l) ++ (s ++ [])) = sk false l + s.length := by rw [h3, List.append_nil, hs.all]
  have hlen : (l.take (sk false l) ++ (s ++ [])).length = sk false l + s.length := by
   have := sk_le false l
   simp; omega
  refine ⟨_, Sc.done a _ (by rw [h5]; exact List.drop_eq_nil_of_le (by omega)), rfl⟩
 | step a l k n ts ht hl h ih =>
  intro i hi
  have hne := tk_ne ht
  have hlen := tk_len ht
  have hk1 := sk_le false l
  have htk : (l.take (sk false l)).length = sk false l := by simp; omega
  obtain ⟨b', h3, h4⟩ := sk_own l
  have hb : b' = false := by
   cases b' with
   | false => rfl
   | true => exact (hne (sk_true_pos h4)).elim
  subst hb
  cases i with
  | zero =>
   simp only [List.getElem_cons_zero]
   rw [show a + sk false l - a = sk false l by omega]
   have h5 : sk false (l.take (sk false l) ++ (s ++ l.drop (sk false l))) = sk false l + s.length := by rw [h3, hs.stop _ hne h4]
   have h6 : (l.take (sk false l) ++ (s ++ l.drop (sk false l))).drop (sk false l + s.length) = l.drop (sk false l) := by
    rw [← List.append_assoc, List.drop_left' (by rw [List.length_append, htk])]
   obtain ⟨ts', h7, h8⟩ := h.shift (a + (sk false l + s.length) + n)
   refine ⟨_, Sc.step a _ k n ts' (by rw [h5, h6]; exact ht) (by rw [h5, h6]; exact hl) (by rw [h5, h6]; exact h7), ?_⟩
   rw [h5, h6]
   simp [kt, h8]
  | succ i =>
   simp only [List.getElem_cons_succ]
   have hi' : i < ts.length := by simpa using hi
   obtain ⟨ts', h7, h8⟩ := ih i hi'
   have hw := h.within ts[i] (List.getElem_mem hi')
   generalize ts[i].at_ = p at *
   obtain ⟨j, rfl⟩ : ∃ j, p = a + sk false l + n + j := ⟨p - (a + sk false l + n), by omega⟩
   rw [show a + sk false l + n + j - (a + sk false l + n) = j by omega] at h7
   rw [show a + sk false l + n + j - a = sk false l + (n + j) by omega]
   generalize hR : ((l.drop (sk false l)).drop n).take j ++ (s ++ ((l.drop (sk false l)).drop n).drop j) = R at h7
   have e1 : l.take (sk false l + (n + j)) ++ (s ++ l.drop (sk false l + (n + j))) = l.take (sk false l) ++ ((l.drop (sk false l)).take n ++ R) := by
    rw [← hR, List.take_add, List.take_add, List.drop_drop, List.drop_drop]
    simp only [List.append_assoc, Nat.add_assoc]
   have hLook : Look ((l.drop (sk false l)).drop n) R := by
    cases hx : ((l.drop (sk false l)).drop n).take j with
    | nil =>
     rw [hx] at hR
     obtain ⟨c, q, h9, h10⟩ := hs.sep (((l.drop (sk false l)).drop n).drop j)
     exact .inr (.inr ⟨c, q, by rw [← hR, ← h9]; rfl, h10⟩)
    | cons c q =>
     left
     rw [← hR, hx]
     have : ((l.drop (sk false l)).drop n) = c :: q ++ ((l.drop (sk false l)).drop n).drop j := by rw [← hx, List.take_append_drop]
     rw [this]
     rfl
   have h9 : sk false ((l.drop (sk false l)).take n ++ R) = 0 := by
    cases hm : l.drop (sk false l) with
    | nil => exact (hne hm).elim
    | cons c q =>
     rw [hm] at h4
     obtain ⟨n', rfl⟩ : ∃ n', n = n' + 1 := ⟨n - 1, by omega⟩
     rw [List.take_succ_cons, List.cons_append]
     exact sk_same h4
   have h10 : sk false (l.take (sk false l) ++ ((l.drop (sk false l)).take n ++ R)) = sk false l := by rw [h3, h9]; rfl
   have h11 : (l.take (sk false l) ++ ((l.drop (sk false l)).take n ++ R)).drop (sk false l) = (l.drop (sk false l)).take n ++ R := List.drop_left' htk
   have hn : ((l.drop (sk false l)).take n).length = n := by rw [List.length_take]; omega
   have h12 : ((l.drop (sk false l)).take n ++ R).drop n = R := List.drop_left' hn
   rw [e1]
   refine ⟨_, Sc.step a _ k n ts' (by rw [h10, h11]; exact tk_look ht hLook) ?_ (by rw [h10, h11, h12]; exact h7), ?_⟩
   ·rw [h10, h11, h12]
    intro ⟨h13, h14⟩
    refine hl ⟨h13, ?_⟩
    cases h15 : luAt ((l.drop (sk false l)).drop n) with
    | true => rfl
    | false =>
     have := look_hd hLook (p := isLU) (fun c h => (sep_not c h).2.2.1) (by cases hq : (l.drop (sk false l)).drop n with | nil => rfl | cons c q => rw [hq] at h15; exact h15)
     cases hq : R with
     | nil => rw [hq] at h14; cases h14
     | cons c q => rw [hq] at h14 this; rw [show hd isLU (c :: q) = luAt (c :: q) from rfl, h14] at this; cases this
   ·rw [h10, h11, List.take_left' hn]
    simp [kt, h8]
/-- texts with single spaces between them -/
def jn : List Tok → List UInt8
 | [] => []
 | [t] => t.text
 | t :: t' :: r => t.text ++ 32 :: jn (t' :: r)
theorem Sc.join {a : Nat} {l : List UInt8} {ts : List Tok} (h : Sc a l ts) : ∃ us e, ts = us ++ [e] ∧ e.kind = 3 ∧ e.text = [] ∧ e.at_ = a + l.length ∧ (∀ t ∈ us, t.kind ≤ 2 ∧ t.text ≠ []) ∧ ((us.map fun t => t.text.length).sum ≤ l.length) ∧ ∀ b, ∃ ts', Sc b (jn us) ts' ∧ ts'.map kt = ts.map kt := by
 induction h with
 | done a l h =>
  have h1 := sk_le false l
  have h2 := congrArg List.length h
  simp at h2
  exact ⟨[], _, rfl, rfl, rfl, by simp; omega, by simp, by simp, fun b => ⟨_, Sc.done b [] rfl, rfl⟩⟩
 | step a l k n ts ht hl h ih =>
  obtain ⟨us, e, rfl, h2, h3, hat, h4, h5, h6⟩ := ih
  have hne := tk_ne ht
  have hlen := tk_len ht
  have hk1 := sk_le false l
  simp only [List.length_drop] at hlen h5 hat
  have hn : ((l.drop (sk false l)).take n).length = n := by rw [List.length_take, List.length_drop]; omega
  obtain ⟨b', h3', h4'⟩ := sk_own l
  have hb : b' = false := by
   cases b' with
   | false => rfl
   | true => exact (hne (sk_true_pos h4')).elim
  subst hb
  refine ⟨⟨k, (l.drop (sk false l)).take n, a + sk false l⟩ :: us, e, rfl, h2, h3, by omega, ?_, ?_, ?_⟩
  ·intro t h7
   rcases List.mem_cons.1 h7 with rfl | h7
   ·refine ⟨tk_kind ht, ?_⟩
    intro h8
    have := congrArg List.length h8
    rw [hn] at this
    simp at this
    omega
   ·exact h4 t h7
  ·simp only [List.map_cons, List.sum_cons, hn]
   omega
  ·intro b
   have key : ∀ R ts', (R = [] ∨ ∃ q, R = 32 :: q) → Sc (b + n) R ts' → ts'.map kt = (us ++ [e]).map kt → ∃ ts', Sc b ((l.drop (sk false l)).take n ++ R) ts' ∧ ts'.map kt = (⟨k, (l.drop (sk false l)).take n, a + sk false l⟩ :: us ++ [e]).map kt := by
    intro R ts' hR h7 h8
    have hLook : Look ((l.drop (sk false l)).drop n) R := by
     rcases hR with rfl | ⟨q, rfl⟩
     ·exact .inr (.inl rfl)
     ·exact .inr (.inr ⟨32, q, rfl, .inl rfl⟩)
    have h9 : sk false ((l.drop (sk false l)).take n ++ R) = 0 := by
     cases hm : l.drop (sk false l) with
     | nil => exact (hne hm).elim
     | cons c q =>
      rw [hm] at h4'
      obtain ⟨n', rfl⟩ : ∃ n', n = n' + 1 := ⟨n - 1, by omega⟩
      rw [List.take_succ_cons, List.cons_append]
      exact sk_same h4'
    have h12 : ((l.drop (sk false l)).take n ++ R).drop n = R := List.drop_left' hn
    have h13 : luAt R = false := by
     rcases hR with rfl | ⟨q, rfl⟩
     ·rfl
     ·show isLU 32 = false
      decide
    refine ⟨_, Sc.step b _ k n ts' (by rw [h9, List.drop_zero]; exact tk_look ht hLook) (by rw [h9, List.drop_zero, h12, h13]; simp) (by rw [h9, List.drop_zero, h12]; exact h7), ?_⟩
    rw [h9, List.drop_zero, List.take_left' hn]
    simp only [List.map_cons, h8, List.cons_append]
    rfl
   cases us with
   | nil =>
    obtain ⟨ts', h7, h8⟩ := h6 (b + n)
    have := key [] ts' (.inl rfl) h7 h8
    rw [List.append_nil] at this
    exact this
   | cons u us =>
    obtain ⟨ts', h7, h8⟩ := h6 (b + n + 1)
    exact key (32 :: jn (u :: us)) ts' (.inr ⟨_, rfl⟩) (h7.space rfl) h8
end Go.Proofs.YtogmhaihmkcjgaaGreatDoor.Lx
-- halved
