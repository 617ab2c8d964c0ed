/-
  The lexer in plain words: classes of bytes, white space and comments, tokens, the scan of a source. No program in sight.
-/
import Derived.WalkKit
namespace Go.Proofs.YtminghdnclpocaaGreatDoor.Lx

def isSp (c : UInt8) : Bool := c == 32 || c == 9 || c == 13 || c == 10
def isLet (c : UInt8) : Bool := (97 ≤ c && c ≤ 122) || (65 ≤ c && c ≤ 90)
def isDig (c : UInt8) : Bool := 48 ≤ c && c ≤ 57
def isNm (c : UInt8) : Bool := isLet c || isDig c || c == 95
def isWd (c : UInt8) : Bool := isNm c || c == 45
def isLU (c : UInt8) : Bool := isLet c || c == 95
/-- how many bytes at the beginning have a property -/
def sp (p : UInt8 → Bool) : List UInt8 → Nat
  | [] => 0
  | c :: m => if p c then sp p m + 1 else 0
theorem sp_le (p : UInt8 → Bool) (l : List UInt8) : sp p l ≤ l.length := by
  induction l with
  | nil => exact Nat.le_refl 0
  | cons c m ih =>
    unfold sp
    split
    · simpa using ih
    · simp
theorem sp_succ {p : UInt8 → Bool} {c : UInt8} {m : List UInt8} (h : p c = true) : sp p (c :: m) = sp p m + 1 := by rw [sp, if_pos h]
theorem sp_stop {p : UInt8 → Bool} {c : UInt8} {m : List UInt8} (h : p c = false) : sp p (c :: m) = 0 := by rw [sp, if_neg (by simp [h])]
theorem sp_all {p : UInt8 → Bool} {l : List UInt8} : ∀ i (_ : i < sp p l) (h2 : i < l.length), p l[i] = true := by
  induction l with
  | nil => intro i h h2; simp at h2
  | cons c m ih =>
    intro i h h2
    cases hc : p c with
    | false => rw [sp_stop hc] at h; omega
    | true =>
      rw [sp_succ hc] at h
      cases i with
      | zero => exact hc
      | succ i => exact ih i (by omega) (by simpa using h2)
theorem sp_end {p : UInt8 → Bool} {l : List UInt8} (h : sp p l < l.length) : p l[sp p l] = false := by
  induction l with
  | nil => simp at h
  | cons c m ih =>
    cases hc : p c with
    | false =>
      simp only [sp_stop hc]
      exact hc
    | true =>
      rw [sp_succ hc] at h
      simp only [sp_succ hc, List.getElem_cons_succ]
      exact ih (by simpa using h)
/-- a number is determined by its properties -/
theorem sp_of {p : UInt8 → Bool} {l : List UInt8} {n : Nat} (hn : n ≤ l.length) (h1 : ∀ i (_ : i < n) (h2 : i < l.length), p l[i] = true) (h2 : ∀ h : n < l.length, p l[n] = false) : sp p l = n := by
  rcases Nat.lt_trichotomy (sp p l) n with h | h | h
  · have h3 := h1 _ h (by omega)
    rw [sp_end (p := p) (l := l) (by omega)] at h3
    cases h3
  · exact h
  · have h3 := sp_le p l
    have := sp_all (p := p) (l := l) n h (by omega)
    rw [h2 (by omega)] at this
    cases this
theorem sp_drop {p : UInt8 → Bool} {l : List UInt8} {i : Nat} (h : i < l.length) (hp : p l[i] = true) : sp p (l.drop i) = sp p (l.drop (i + 1)) + 1 := by
  rw [List.drop_eq_getElem_cons h, sp_succ hp]
theorem sp_drop_stop {p : UInt8 → Bool} {l : List UInt8} {i : Nat} (h : i < l.length) (hp : p l[i] = false) : sp p (l.drop i) = 0 := by
  rw [List.drop_eq_getElem_cons h, sp_stop hp]
theorem sp_drop_end {p : UInt8 → Bool} {l : List UInt8} {i : Nat} (h : l.length ≤ i) : sp p (l.drop i) = 0 := by
  rw [List.drop_eq_nil_of_le h]; rfl
/-- a run that stops inside is not changed by what follows -/
theorem sp_app {p : UInt8 → Bool} {a b : List UInt8} (h : sp p a < a.length) : sp p (a ++ b) = sp p a := by
  induction a with
  | nil => simp at h
  | cons c m ih =>
    cases hc : p c with
    | false => rw [List.cons_append, sp_stop hc, sp_stop hc]
    | true =>
      rw [sp_succ hc] at h
      rw [List.cons_append, sp_succ hc, sp_succ hc, ih (by simpa using h)]
theorem sp_app_all {p : UInt8 → Bool} {a b : List UInt8} (h : sp p a = a.length) : sp p (a ++ b) = a.length + sp p b := by
  induction a with
  | nil => simp
  | cons c m ih =>
    cases hc : p c with
    | false => rw [sp_stop hc] at h; simp at h
    | true =>
      rw [sp_succ hc] at h
      rw [List.cons_append, sp_succ hc, ih (by simpa using h)]
      simp; omega
theorem sp_take {p : UInt8 → Bool} {l : List UInt8} {n : Nat} (h : n ≤ sp p l) : sp p (l.take n) = n := by
  induction n generalizing l with
  | zero => rfl
  | succ n ih =>
    cases l with
    | nil => simp [sp] at h
    | cons c m =>
      cases hc : p c with
      | false => rw [sp_stop hc] at h; omega
      | true =>
        rw [sp_succ hc] at h
        rw [List.take_succ_cons, sp_succ hc, ih (by omega)]

/-- how many bytes of white space and comments a source begins with; true: inside a comment -/
def sk : Bool → List UInt8 → Nat
  | _, [] => 0
  | false, c :: m => if isSp c then sk false m + 1 else if c == 35 then sk true m + 1 else 0
  | true, c :: m => if c == 10 then sk false m + 1 else sk true m + 1
theorem sk_le (b : Bool) (l : List UInt8) : sk b l ≤ l.length := by
  induction l generalizing b with
  | nil => cases b <;> exact Nat.le_refl 0
  | cons c m ih =>
    have h1 := ih false
    have h2 := ih true
    cases b <;> unfold sk <;> simp only [List.length_cons] <;> split <;> (try split) <;> omega
theorem sk_sp {c : UInt8} {m : List UInt8} (h : isSp c = true) : sk false (c :: m) = sk false m + 1 := by rw [sk, if_pos h]
theorem sk_hash {m : List UInt8} : sk false (35 :: m) = sk true m + 1 := by
  rw [sk, if_neg (by decide), if_pos (by decide)]
theorem sk_stop {c : UInt8} {m : List UInt8} (h : isSp c = false) (h2 : (c == 35) = false) : sk false (c :: m) = 0 := by
  rw [sk, if_neg (by simp [h]), if_neg (by simp [h2])]
theorem sk_nl {m : List UInt8} : sk true (10 :: m) = sk false m + 1 := by rw [sk, if_pos (by decide)]
theorem sk_in {c : UInt8} {m : List UInt8} (h : (c == 10) = false) : sk true (c :: m) = sk true m + 1 := by rw [sk, if_neg (by simp [h])]
/-- white space, then more -/
theorem sk_run (l : List UInt8) : sk false l = sp isSp l + sk false (l.drop (sp isSp l)) := by
  induction l with
  | nil => rfl
  | cons c m ih =>
    cases hc : isSp c with
    | false => rw [sp_stop hc]; simp
    | true => rw [sp_succ hc, sk_sp hc, List.drop_succ_cons]; omega
/-- a comment ends before the end of its line -/
theorem sk_line (l : List UInt8) : sk true l = sp (fun c => c != 10) l + sk false (l.drop (sp (fun c => c != 10) l)) := by
  induction l with
  | nil => rfl
  | cons c m ih =>
    cases hc : (c == 10) with
    | true =>
      have : c = 10 := by simpa using hc
      subst this
      rw [sp_stop (p := fun c => c != 10) (by decide), sk_nl]
      simp only [List.drop_zero]
      rw [sk_sp (by decide)]; omega
    | false =>
      have h2 : sp (fun c => c != 10) (c :: m) = sp (fun c => c != 10) m + 1 := sp_succ (p := fun c => c != 10) (by simpa using hc)
      rw [h2, sk_in hc, List.drop_succ_cons]; omega

def dv (l : List UInt8) : Nat := l.foldl (fun n c => 10 * n + (c.toNat - 48)) 0
theorem dv_snoc (l : List UInt8) (c : UInt8) : dv (l ++ [c]) = 10 * dv l + (c.toNat - 48) := by simp [dv]
theorem dv_mono (l m : List UInt8) : dv l ≤ dv (l ++ m) := by
  induction m generalizing l with
  | nil => simp
  | cons c m ih =>
    have := ih (l ++ [c])
    rw [dv_snoc] at this
    rw [show l ++ c :: m = l ++ [c] ++ m by simp]
    omega

def one (c : UInt8) : Bool := c == 61 || c == 60 || c == 62 || c == 58 || c == 46 || c == 44 || c == 40 || c == 41 || c == 123 || c == 125
def two (a b : UInt8) : Bool := b == 61 && (a == 33 || a == 60 || a == 62)
/-- the length of the sign with which a source begins, or 0 -/
def sg : List UInt8 → Nat
  | [] => 0
  | [a] => if one a then 1 else 0
  | a :: b :: _ => if two a b then 2 else if one a then 1 else 0

def kws : List (List UInt8) := [[112, 111, 108, 105, 99, 121], [117, 115, 101, 115], [114, 101, 118, 101, 97, 108], [112, 114, 111, 118, 101], [115, 99, 111, 112, 101], [108, 105, 109, 105, 116], [101, 115, 99, 114, 111, 119], [101, 110, 100], [97, 108, 108], [97, 110, 121], [97, 116, 108, 101, 97, 115, 116], [110, 111, 116], [116, 114, 117, 101], [102, 97, 108, 115, 101], [98, 101, 116, 119, 101, 101, 110], [97, 110, 100], [105, 110]]
def kw (l : List UInt8) : Bool := kws.contains l

/-- the parts of a token -/
def tkName (m : List UInt8) : Nat ⊕ Nat × Nat := if 32 < sp isNm m then .inl 5 else .inr (if kw (m.take (sp isNm m)) then 2 else 0, sp isNm m)
def tkWord (m : List UInt8) : Nat ⊕ Nat × Nat := if 32 < sp isWd m then .inl 5 else if sp isWd m = 0 ∨ m[sp isWd m]? ≠ some 39 then .inl 4 else .inr (0, sp isWd m + 2)
def tkSign (m : List UInt8) : Nat ⊕ Nat × Nat := if sg m = 0 then .inl 4 else .inr (2, sg m)
/-- the error, or the kind and the length, of the token with which a source begins -/
def tk : List UInt8 → Nat ⊕ Nat × Nat
  | [] => .inl 4
  | c :: m =>
    if isLet c then tkName (c :: m)
    else if c == 39 then tkWord m
    else if c == 45 then (if sp isDig m = 0 then tkSign (c :: m) else if dv (m.take (sp isDig m)) ≤ 2147483648 then .inr (1, sp isDig m + 1) else .inl 2)
    else if sp isDig (c :: m) = 0 then tkSign (c :: m) else if dv ((c :: m).take (sp isDig (c :: m))) ≤ 2147483647 then .inr (1, sp isDig (c :: m)) else .inl 2

structure Tok where
  kind : Nat
  text : List UInt8
  at_ : Nat
inductive Res where
  | ok (ts : List Tok)
  | err (at_ e : Nat)
/-- tokens ahead of a result -/
def Res.pre (out : List Tok) : Res → Res
  | .ok ts => .ok (out ++ ts)
  | .err a e => .err a e
theorem Res.pre_nil (r : Res) : r.pre [] = r := by cases r <;> rfl
theorem Res.pre_pre (a b : List Tok) (r : Res) : (r.pre b).pre a = r.pre (a ++ b) := by cases r <;> simp [Res.pre]
/-- does a source begin with a letter or _? -/
def luAt : List UInt8 → Bool
  | [] => false
  | c :: _ => isLU c
/-- the scan from an offset on, behind white space and comments -/
def st (f : Nat → List UInt8 → Res) (a : Nat) (m : List UInt8) : Res :=
  match m, tk m with
  | [], _ => .ok [⟨3, [], a⟩]
  | _ :: _, .inl e => .err a e
  | _ :: _, .inr (k, n) => if k = 1 ∧ luAt (m.drop n) = true then .err (a + n) 4 else (f (a + n) (m.drop n)).pre [⟨k, m.take n, a⟩]
/-- the scan with so much fuel -/
def scF : Nat → Nat → List UInt8 → Res
  | 0, _, _ => .ok []
  | f + 1, a, l => st (scF f) (a + sk false l) (l.drop (sk false l))
/-- what Scan returns for a source that is not too long -/
def sc (l : List UInt8) : Res := scF (l.length + 1) 0 l
end Go.Proofs.YtminghdnclpocaaGreatDoor.Lx
