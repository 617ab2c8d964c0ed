import Derived.Test.YtogmhaihmkcjgaaGreatDoorPaV
/-
  The reference's reader in plain words: what is left to read, the nodes, is it bad. No program in sight.
-/
namespace Go.Proofs.YtogmhaihmkcjgaaGreatDoor.Pa
open Lx (Tok)
set_option linter.unusedVariables false

abbrev Nw := Nd × List Nat
/-- the reader: what is left to read, the nodes, is it bad? -/
structure QS where
  ts : List Tok
  ns : List Nw
  bad : Bool
def QS.isS (s : Tx) (q : QS) : Bool := !q.bad && isT s q.ts
def QS.step (q : QS) : QS := ⟨q.ts.tail, q.ns, q.bad⟩
def QS.spoil (q : QS) : QS := ⟨q.ts, q.ns, true⟩
def skipS (s : Tx) (q : QS) : QS := if q.isS s then q.step else q
def takeS (s : Tx) (q : QS) : QS := if q.isS s then q.step else q.spoil
def nameX (q : QS) : Tx := if !q.bad && isN q.ts then headX q.ts else []
def nameS (q : QS) : QS := if !q.bad && isN q.ts then q.step else q.spoil
def wordX (q : QS) : Tx := if !q.bad && isW q.ts then (headX q.ts).tail.dropLast else []
def wordS (q : QS) : QS := if !q.bad && isW q.ts then q.step else q.spoil
def numX (q : QS) : Int := if !q.bad && isM q.ts then numV (headX q.ts) else 0
def numS (q : QS) : QS := if !q.bad && isM q.ts then q.step else q.spoil
def beginS (k : Nat) (q : QS) : QS := ⟨q.ts, q.ns ++ [(⟨k, 0, [], [], atT q.ts⟩, [])], q.bad⟩
/-- a node turns -/
def QS.upd (n : Nat) (f : Nw → Nw) (q : QS) : QS := ⟨q.ts, q.ns.modify n f, q.bad⟩
def sKind (k : Nat) (x : Nw) : Nw := (⟨k, x.1.num, x.1.name, x.1.attr, x.1.at_⟩, x.2)
def sNum (m : Int) (x : Nw) : Nw := (⟨x.1.kind, m, x.1.name, x.1.attr, x.1.at_⟩, x.2)
def sName (s : Tx) (x : Nw) : Nw := (⟨x.1.kind, x.1.num, s, x.1.attr, x.1.at_⟩, x.2)
def sAttr (s : Tx) (x : Nw) : Nw := (⟨x.1.kind, x.1.num, x.1.name, s, x.1.at_⟩, x.2)
def sKids (l : List Nat) (x : Nw) : Nw := (x.1, l)
def aKid (k : Nat) (x : Nw) : Nw := (x.1, x.2 ++ [k])
/-- a value that begins -/
def valN (n : Nat) (q : QS) : QS :=
  if isM q.ts then (numS (q.upd n (sKind 10))).upd n (sNum (numX (q.upd n (sKind 10))))
  else if isW q.ts then (wordS (q.upd n (sKind 11))).upd n (sName (wordX (q.upd n (sKind 11))))
  else (nameS (takeS sDot ((nameS q).upd n (sName (nameX q))))).upd n (sAttr (nameX (takeS sDot ((nameS q).upd n (sName (nameX q))))))
def valueX (q : QS) : Nat := if q.bad then 0 else q.ns.length
def valueS (q : QS) : QS := if q.bad then q else valN q.ns.length (beginS 9 q)
/-- expressions, separated by commas, as kids of a node -/
def moreS (ex : QS → Nat) (es : QS → QS) (n : Nat) : Nat → QS → QS
  | 0, q => q
  | k + 1, q =>
    let q2 := (es q).upd n (aKid (ex q))
    if q2.isS sComma then moreS ex es n k q2.step else q2
def exprsS (ex : QS → Nat) (es : QS → QS) (n k : Nat) (q : QS) : QS := takeS sClose (moreS ex es n k (takeS sOpen q))
/-- what a relation has read: its kind, if it is known, its number, its kids -/
structure RL where
  kd : Option Nat
  num : Nat
  kids : List Nat
  q : QS
def sgnS (i : Nat) (r : RL) : RL := if r.kd.isNone && r.q.isS (cmps.getD i []) then ⟨some 6, i, r.kids ++ [valueX r.q.step], valueS r.q.step⟩ else r
def sgnsS (r : RL) : Nat → RL
  | 0 => r
  | i + 1 => sgnS i (sgnsS r i)
def btwS (r : RL) : RL :=
  if r.kd.isNone && r.q.isS kBetween then
    let a := valueX r.q.step
    let q2 := takeS kAnd (valueS r.q.step)
    ⟨some 7, r.num, r.kids ++ [a] ++ [valueX q2], valueS q2⟩
  else r
/-- values, separated by commas -/
def valsS : Nat → List Nat → QS → List Nat × QS
  | 0, l, q => (l, q)
  | k + 1, l, q => if (valueS q).isS sComma then valsS k (l ++ [valueX q]) (valueS q).step else (l ++ [valueX q], valueS q)
def inS (k : Nat) (r : RL) : RL :=
  if r.kd.isNone then
    let p := valsS k r.kids (takeS sBra (takeS kIn r.q))
    ⟨some 8, r.num, p.1, takeS sKet p.2⟩
  else r
def relR (k : Nat) (q : QS) : RL := inS k (btwS (sgnsS ⟨none, 0, [valueX q], valueS q⟩ 6))
def sRel (r : RL) (x : Nw) : Nw := (⟨r.kd.getD 0, (r.num : Int), x.1.name, x.1.attr, x.1.at_⟩, r.kids)
def relS (n k : Nat) (q : QS) : QS := (relR k q).q.upd n (sRel (relR k q))
mutual
def exprX : Nat → QS → Nat
  | 0, q => 0
  | f + 1, q => if q.bad then 0 else if q.isS sOpen then exprX f q.step else q.ns.length
def exprS : Nat → QS → QS
  | 0, q => q
  | f + 1, q =>
    if q.bad then q
    else if q.isS sOpen then takeS sClose (exprS f q.step)
    else
      let n := q.ns.length
      let p := beginS 0 q
      if p.isS kTrue then p.step
      else if p.isS kFalse then p.step.upd n (sKind 1)
      else if p.isS kNot then (exprS f (p.step.upd n (sKind 2))).upd n (sKids [exprX f (p.step.upd n (sKind 2))])
      else if p.isS kAll then exprsS (exprX f) (exprS f) n (p.ts.length + 1) (p.step.upd n (sKind 3))
      else if p.isS kAny then exprsS (exprX f) (exprS f) n (p.ts.length + 1) (p.step.upd n (sKind 4))
      else if p.isS kAtleast then
        let q2 := p.step.upd n (sKind 5)
        exprsS (exprX f) (exprS f) n (p.ts.length + 1) ((numS q2).upd n (sNum (numX q2)))
      else relS n (p.ts.length + 1) p
end
end Go.Proofs.YtogmhaihmkcjgaaGreatDoor.Pa

/-
  The reference's reader: how far it goes. No program in sight.
-/
namespace Go.Proofs.YtogmhaihmkcjgaaGreatDoor.Pa
open Lx (Tok)
set_option linter.unusedVariables false

def nsW (l : List Nw) : Nat := (l.map fun x => x.2.length + 1).sum
/-- what bounds the nodes, and the numbers of kids -/
def QS.wt (q : QS) : Nat := nsW q.ns + 4 * q.ts.length + (if q.bad then 0 else 4)
theorem nsW_app (l m : List Nw) : nsW (l ++ m) = nsW l + nsW m := by simp [nsW]
theorem nsW_len (l : List Nw) : l.length ≤ nsW l := by
  induction l with
  | nil => exact Nat.le_refl _
  | cons a l ih => simp only [nsW, List.map_cons, List.sum_cons, List.length_cons] at ih ⊢; omega
theorem nsW_at {l : List Nw} {i : Nat} {x : Nw} (h : l[i]? = some x) : x.2.length + 1 ≤ nsW l := by
  induction l generalizing i with
  | nil => simp at h
  | cons a l ih =>
    simp only [nsW, List.map_cons, List.sum_cons] at ih ⊢
    cases i with
    | zero => simp at h; subst h; omega
    | succ i => have := ih (i := i) (by simpa using h); omega
theorem nsW_mod (c : Nat) (f : Nw → Nw) (hf : ∀ x, (f x).2.length ≤ x.2.length + c) : ∀ (l : List Nw) (n : Nat), nsW (l.modify n f) ≤ nsW l + c
  | [], n => by cases n <;> exact Nat.zero_le _
  | a :: l, 0 => by
    have := hf a
    simp only [nsW, List.modify_zero_cons, List.map_cons, List.sum_cons]; omega
  | a :: l, n + 1 => by
    have := nsW_mod c f hf l n
    simp only [nsW, List.modify_succ_cons, List.map_cons, List.sum_cons] at this ⊢; omega
/-- a reader goes on -/
structure Fw (c : Nat) (q q' : QS) : Prop where
  len : q.ns.length ≤ q'.ns.length
  tok : q'.ts.length ≤ q.ts.length
  bad : q.bad = true → q'.bad = true
  wt : q'.wt ≤ q.wt + c
theorem Fw.refl (q : QS) : Fw 0 q q := ⟨Nat.le_refl _, Nat.le_refl _, id, Nat.le_refl _⟩
theorem Fw.trans {a b : Nat} {q r s : QS} (h : Fw a q r) (k : Fw b r s) : Fw (a + b) q s := ⟨Nat.le_trans h.len k.len, Nat.le_trans k.tok h.tok, fun e => k.bad (h.bad e), by have := h.wt; have := k.wt; omega⟩
theorem Fw.le {a b : Nat} {q r : QS} (h : Fw a q r) (k : a ≤ b) : Fw b q r := ⟨h.len, h.tok, h.bad, by have := h.wt; omega⟩
theorem isT_cons {s : Tx} {ts : List Tok} (h : isT s ts = true) : ∃ t r, ts = t :: r := by
  cases ts with
  | nil => cases h
  | cons t r => exact ⟨t, r, rfl⟩
theorem QS.isS_t {s : Tx} {q : QS} (h : q.isS s = true) : q.bad = false ∧ isT s q.ts = true := by
  unfold QS.isS at h
  simpa using h
theorem step_wt {q : QS} (h : 0 < q.ts.length) : q.step.wt + 4 = q.wt := by
  unfold QS.wt QS.step
  simp only [List.length_tail]
  omega
theorem step_fw (q : QS) : Fw 0 q q.step := by
  refine ⟨Nat.le_refl _, ?_, id, ?_⟩
  · simp [QS.step]
  · unfold QS.wt QS.step
    simp only [List.length_tail]
    omega
theorem spoil_wt {q : QS} (h : q.bad = false) : q.spoil.wt + 4 = q.wt := by
  unfold QS.wt QS.spoil
  simp [h]
theorem spoil_fw (q : QS) : Fw 0 q q.spoil := by
  refine ⟨Nat.le_refl _, Nat.le_refl _, fun _ => rfl, ?_⟩
  unfold QS.wt QS.spoil
  simp
theorem isS_pos {s : Tx} {q : QS} (h : q.isS s = true) : 0 < q.ts.length := by
  obtain ⟨t, r, e⟩ := isT_cons (QS.isS_t h).2
  rw [e]; simp
theorem isS_wt {s : Tx} {q : QS} (h : q.isS s = true) : q.step.wt + 4 = q.wt := step_wt (isS_pos h)
theorem isS_len {s : Tx} {q : QS} (h : q.isS s = true) : q.step.ts.length + 1 = q.ts.length := by
  have := isS_pos h
  simp only [QS.step, List.length_tail]; omega
theorem take_fw (s : Tx) (q : QS) : Fw 0 q (takeS s q) := by
  unfold takeS
  split
  · exact step_fw q
  · exact spoil_fw q
/-- reading something, or not -/
def oneS (b : Bool) (q : QS) : QS := if b then q.step else q.spoil
theorem one_fw (b : Bool) (q : QS) : Fw 0 q (oneS b q) := by
  unfold oneS
  split
  · exact step_fw q
  · exact spoil_fw q
theorem one_wt (b : Bool) (q : QS) (hb : b = true → 0 < q.ts.length) (h : q.bad = false) : (oneS b q).wt + 4 = q.wt := by
  unfold oneS
  split
  · rename_i e; exact step_wt (hb e)
  · exact spoil_wt h
theorem one_bad (q : QS) (b : Bool) (h : q.bad = true) : oneS (!q.bad && b) q = q := by
  unfold oneS QS.spoil
  rw [h]
  simp only [Bool.not_true, Bool.false_and, Bool.false_eq_true, if_false]
  cases q; simp at h; subst h; rfl
theorem takeS_one (s : Tx) (q : QS) : takeS s q = oneS (!q.bad && isT s q.ts) q := rfl
theorem nameS_one (q : QS) : nameS q = oneS (!q.bad && isN q.ts) q := rfl
theorem wordS_one (q : QS) : wordS q = oneS (!q.bad && isW q.ts) q := rfl
theorem numS_one (q : QS) : numS q = oneS (!q.bad && isM q.ts) q := rfl
theorem pos_T {s : Tx} {ts : List Tok} (h : isT s ts = true) : 0 < ts.length := by cases ts with | nil => cases h | cons t r => simp
theorem pos_N {ts : List Tok} (h : isN ts = true) : 0 < ts.length := by cases ts with | nil => cases h | cons t r => simp
theorem pos_W {ts : List Tok} (h : isW ts = true) : 0 < ts.length := by cases ts with | nil => cases h | cons t r => simp
theorem pos_M {ts : List Tok} (h : isM ts = true) : 0 < ts.length := by cases ts with | nil => cases h | cons t r => simp
theorem name_fw (q : QS) : Fw 0 q (nameS q) := one_fw _ q
theorem word_fw (q : QS) : Fw 0 q (wordS q) := one_fw _ q
theorem num_fw (q : QS) : Fw 0 q (numS q) := one_fw _ q
theorem upd_fw (c : Nat) (n : Nat) (f : Nw → Nw) (hf : ∀ x, (f x).2.length ≤ x.2.length + c) (q : QS) : Fw c q (q.upd n f) := by
  refine ⟨by simp [QS.upd], Nat.le_refl _, id, ?_⟩
  have := nsW_mod c f hf q.ns n
  unfold QS.wt QS.upd
  simp only
  omega
theorem kind_fw (n k : Nat) (q : QS) : Fw 0 q (q.upd n (sKind k)) := upd_fw 0 n (sKind k) (fun x => Nat.le_refl _) q
theorem snum_fw (n : Nat) (m : Int) (q : QS) : Fw 0 q (q.upd n (sNum m)) := upd_fw 0 n (sNum m) (fun x => Nat.le_refl _) q
theorem sname_fw (n : Nat) (s : Tx) (q : QS) : Fw 0 q (q.upd n (sName s)) := upd_fw 0 n (sName s) (fun x => Nat.le_refl _) q
theorem sattr_fw (n : Nat) (s : Tx) (q : QS) : Fw 0 q (q.upd n (sAttr s)) := upd_fw 0 n (sAttr s) (fun x => Nat.le_refl _) q
theorem akid_fw (n k : Nat) (q : QS) : Fw 1 q (q.upd n (aKid k)) := upd_fw 1 n _ (fun x => by simp [aKid]) q
theorem skids_fw (n : Nat) (l : List Nat) (q : QS) : Fw l.length q (q.upd n (sKids l)) := upd_fw _ n _ (fun x => by simp [sKids]) q
theorem srel_fw (n : Nat) (r : RL) (q : QS) : Fw r.kids.length q (q.upd n (sRel r)) := upd_fw _ n _ (fun x => by simp [sRel]) q
theorem begin_fw (k : Nat) (q : QS) : Fw 1 q (beginS k q) := by
  refine ⟨by simp [beginS], Nat.le_refl _, id, ?_⟩
  unfold QS.wt beginS
  simp only [nsW_app]
  have : nsW [((⟨k, 0, [], [], atT q.ts⟩ : Nd), ([] : List Nat))] = 1 := rfl
  omega
theorem upd_bad (n : Nat) (f : Nw → Nw) (q : QS) : (q.upd n f).bad = q.bad := rfl
theorem upd_ts (n : Nat) (f : Nw → Nw) (q : QS) : (q.upd n f).ts = q.ts := rfl
theorem upd_len (n : Nat) (f : Nw → Nw) (q : QS) : (q.upd n f).ns.length = q.ns.length := by simp [QS.upd]
theorem one_wt' (b : Bool) (q : QS) (hb : b = true → 0 < q.ts.length) (h : q.bad = false) : (oneS (!q.bad && b) q).wt + 4 = q.wt := by
  rw [h]; simp only [Bool.not_false, Bool.true_and]
  exact one_wt b q hb h
theorem valN_fw (n : Nat) (q : QS) : Fw 0 q (valN n q) := by
  unfold valN
  split
  · exact ((kind_fw n 10 q).trans (num_fw _)).trans (snum_fw n _ _)
  · split
    · exact ((kind_fw n 11 q).trans (word_fw _)).trans (sname_fw n _ _)
    · exact ((((name_fw q).trans (sname_fw n _ _)).trans (take_fw sDot _)).trans (name_fw _)).trans (sattr_fw n _ _)
theorem valN_wt (n : Nat) (q : QS) (h : q.bad = false) : (valN n q).wt + 4 ≤ q.wt := by
  unfold valN
  split
  · have h1 := (kind_fw n 10 q).wt
    have h2 := one_wt' (isM (q.upd n (sKind 10)).ts) (q.upd n (sKind 10)) pos_M h
    have h3 := (snum_fw n (numX (q.upd n (sKind 10))) (numS (q.upd n (sKind 10)))).wt
    rw [← numS_one] at h2
    omega
  · split
    · have h1 := (kind_fw n 11 q).wt
      have h2 := one_wt' (isW (q.upd n (sKind 11)).ts) (q.upd n (sKind 11)) pos_W h
      have h3 := (sname_fw n (wordX (q.upd n (sKind 11))) (wordS (q.upd n (sKind 11)))).wt
      rw [← wordS_one] at h2
      omega
    · have h2 := one_wt' (isN q.ts) q pos_N h
      rw [← nameS_one] at h2
      have h1 := ((((sname_fw n (nameX q) (nameS q))).trans (take_fw sDot _)).trans (name_fw _)).trans (sattr_fw n (nameX (takeS sDot ((nameS q).upd n (sName (nameX q))))) _) |>.wt
      omega
theorem value_bad {q : QS} (h : q.bad = true) : valueS q = q := by unfold valueS; rw [if_pos h]
theorem value_fw (q : QS) : Fw 0 q (valueS q) := by
  unfold valueS
  split
  · exact Fw.refl q
  · rename_i h
    have h1 := (begin_fw 9 q).trans (valN_fw q.ns.length (beginS 9 q))
    have h2 := valN_wt q.ns.length (beginS 9 q) (by simpa [beginS] using h)
    have h3 := (begin_fw 9 q).wt
    exact ⟨h1.len, h1.tok, h1.bad, by omega⟩
theorem value_wt {q : QS} (h : q.bad = false) : (valueS q).wt + 3 ≤ q.wt := by
  have e : valueS q = valN q.ns.length (beginS 9 q) := by unfold valueS; rw [if_neg (by rw [h]; exact Bool.false_ne_true)]
  rw [e]
  have h2 := valN_wt q.ns.length (beginS 9 q) h
  have h3 := (begin_fw 9 q).wt
  omega
theorem value_len {q : QS} (h : q.bad = false) : q.ns.length < (valueS q).ns.length := by
  have e : valueS q = valN q.ns.length (beginS 9 q) := by unfold valueS; rw [if_neg (by rw [h]; exact Bool.false_ne_true)]
  rw [e]
  have h2 := (valN_fw q.ns.length (beginS 9 q)).len
  have : (beginS 9 q).ns.length = q.ns.length + 1 := by simp [beginS]
  omega
theorem more_fw {ex : QS → Nat} {es : QS → QS} (he : ∀ q, Fw 0 q (es q)) (n : Nat) : ∀ (k : Nat) (q : QS), Fw 1 q (moreS ex es n k q)
  | 0, q => (Fw.refl q).le (by omega)
  | k + 1, q => by
    rw [moreS]
    have h1 := (he q).trans (akid_fw n (ex q) (es q))
    split
    · rename_i h
      have h2 := more_fw (ex := ex) he n k ((es q).upd n (aKid (ex q))).step
      have h3 := isS_wt h
      have h4 := (h1.trans (step_fw _)).trans h2
      exact ⟨h4.len, h4.tok, h4.bad, by have := h1.wt; have := h2.wt; omega⟩
    · exact h1
theorem exprs_fw {ex : QS → Nat} {es : QS → QS} (he : ∀ q, Fw 0 q (es q)) (n k : Nat) (q : QS) : Fw 1 q (exprsS ex es n k q) := ((take_fw sOpen q).trans (more_fw he n k _)).trans (take_fw sClose _)
/-- relations go on -/
structure Fr (c : Nat) (r r' : RL) : Prop where
  len : r.q.ns.length ≤ r'.q.ns.length
  tok : r'.q.ts.length ≤ r.q.ts.length
  bad : r.q.bad = true → r'.q.bad = true
  wt : r'.q.wt + r'.kids.length ≤ r.q.wt + r.kids.length + c
theorem Fr.refl (r : RL) : Fr 0 r r := ⟨Nat.le_refl _, Nat.le_refl _, id, Nat.le_refl _⟩
theorem Fr.trans {a b : Nat} {q r s : RL} (h : Fr a q r) (k : Fr b r s) : Fr (a + b) q s := ⟨Nat.le_trans h.len k.len, Nat.le_trans k.tok h.tok, fun e => k.bad (h.bad e), by have := h.wt; have := k.wt; omega⟩
theorem sgn_fr (i : Nat) (r : RL) : Fr 0 r (sgnS i r) := by
  unfold sgnS
  split
  · rename_i h
    simp only [Bool.and_eq_true] at h
    have h1 := isS_wt h.2
    have h2 := (step_fw r.q).trans (value_fw r.q.step)
    have h3 := (value_fw r.q.step).wt
    exact ⟨h2.len, h2.tok, h2.bad, by simp only [List.length_append, List.length_cons, List.length_nil]; omega⟩
  · exact Fr.refl r
theorem sgns_fr (r : RL) : ∀ i, Fr 0 r (sgnsS r i)
  | 0 => Fr.refl r
  | i + 1 => (sgns_fr r i).trans (sgn_fr i _)
theorem btw_fr (r : RL) : Fr 0 r (btwS r) := by
  unfold btwS
  split
  · rename_i h
    simp only [Bool.and_eq_true] at h
    have h1 := isS_wt h.2
    have h2 := (((step_fw r.q).trans (value_fw r.q.step)).trans (take_fw kAnd _)).trans (value_fw _)
    have h3 := (((value_fw r.q.step)).trans (take_fw kAnd _)).trans (value_fw _) |>.wt
    exact ⟨h2.len, h2.tok, h2.bad, by simp only [List.length_append, List.length_cons, List.length_nil]; omega⟩
  · exact Fr.refl r
theorem vals_fw : ∀ (k : Nat) (l : List Nat) (q : QS), Fw 0 q (valsS k l q).2 ∧ (valsS k l q).2.wt + (valsS k l q).1.length ≤ q.wt + l.length + 1
  | 0, l, q => ⟨Fw.refl q, by show q.wt + l.length ≤ q.wt + l.length + 1; omega⟩
  | k + 1, l, q => by
    rw [valsS]
    have h1 := value_fw q
    split
    · rename_i h
      have h3 := isS_wt h
      obtain ⟨h4, h5⟩ := vals_fw k (l ++ [valueX q]) (valueS q).step
      have h6 := (h1.trans (step_fw _)).trans h4
      refine ⟨h6, ?_⟩
      have := h1.wt
      simp only [List.length_append, List.length_cons, List.length_nil] at h5
      omega
    · refine ⟨h1, ?_⟩
      have := h1.wt
      simp only [List.length_append, List.length_cons, List.length_nil]
      omega
theorem in_fr (k : Nat) (r : RL) : Fr 1 r (inS k r) := by
  unfold inS
  split
  · obtain ⟨h4, h5⟩ := vals_fw k r.kids (takeS sBra (takeS kIn r.q))
    have h6 := (take_fw kIn r.q).trans (take_fw sBra _)
    have h7 := (h6.trans h4).trans (take_fw sKet _)
    have h8 := (take_fw sKet (valsS k r.kids (takeS sBra (takeS kIn r.q))).2).wt
    exact ⟨h7.len, h7.tok, h7.bad, by have := h6.wt; simp only; omega⟩
  · exact ⟨Nat.le_refl _, Nat.le_refl _, id, by omega⟩
theorem relR_fr {k : Nat} {q : QS} : Fw 0 q (valueS q) ∧ Fr 1 ⟨none, 0, [valueX q], valueS q⟩ (relR k q) := ⟨value_fw q, ((sgns_fr _ 6).trans (btw_fr _)).trans (in_fr k _)⟩
theorem rel_fw (n k : Nat) (q : QS) (h : q.bad = false) : Fw 0 q (relS n k q) ∧ (relS n k q).wt + 1 ≤ q.wt := by
  obtain ⟨h1, h2⟩ := relR_fr (k := k) (q := q)
  have h3 := value_wt h
  have h4 := srel_fw n (relR k q) (relR k q).q
  have h5 := h2.wt
  simp only [List.length_cons, List.length_nil] at h5
  have h6 : (relS n k q).wt + 1 ≤ q.wt := by
    have := h4.wt
    unfold relS
    omega
  exact ⟨⟨Nat.le_trans h1.len (Nat.le_trans h2.len h4.len), Nat.le_trans h4.tok (Nat.le_trans h2.tok h1.tok), fun e => (by rw [h] at e; cases e), by omega⟩, h6⟩
theorem expr_fw : ∀ (f : Nat) (q : QS), Fw 0 q (exprS f q)
  | 0, q => by rw [exprS]; exact Fw.refl q
  | f + 1, q => by
    rw [exprS]
    have ih := expr_fw f
    split
    · exact Fw.refl q
    · rename_i hb
      have hb : q.bad = false := by simpa using hb
      split
      · exact ((step_fw q).trans (ih _)).trans (take_fw _ _)
      · simp only
        have h0 := begin_fw 0 q
        have h0w := h0.wt
        have key : ∀ {s : Tx} {r : QS}, (beginS 0 q).isS s = true → Fw 3 (beginS 0 q).step r → Fw 0 q r := fun {s r} h hr => by
          have h1 := isS_wt h
          have h2 := (h0.trans (step_fw _)).trans hr
          exact ⟨h2.len, h2.tok, h2.bad, by have := hr.wt; omega⟩
        split
        · rename_i h; exact key h ((Fw.refl _).le (by omega))
        split
        · rename_i h; exact key h ((kind_fw _ 1 _).le (by omega))
        split
        · rename_i h; exact key h ((((kind_fw _ 2 _).trans (ih _)).trans (skids_fw _ _ _)).le (by simp))
        split
        · rename_i h; exact key h (((kind_fw _ 3 _).trans (exprs_fw ih _ _ _)).le (by omega))
        split
        · rename_i h; exact key h (((kind_fw _ 4 _).trans (exprs_fw ih _ _ _)).le (by omega))
        split
        · rename_i h; exact key h (((((kind_fw _ 5 _).trans (num_fw _)).trans (snum_fw _ _ _)).trans (exprs_fw ih _ _ _)).le (by omega))
        · obtain ⟨h1, h2⟩ := rel_fw q.ns.length ((beginS 0 q).ts.length + 1) (beginS 0 q) hb
          have h3 := h0.trans h1
          exact ⟨h3.len, h3.tok, h3.bad, by omega⟩
end Go.Proofs.YtogmhaihmkcjgaaGreatDoor.Pa

/-
  The reference's reader reads what the parser reads: values, conditions, expressions. No program in sight.
-/
namespace Go.Proofs.YtogmhaihmkcjgaaGreatDoor.Pa
open Lx (Tok)
set_option linter.unusedVariables false

theorem mod_at (f : Nw → Nw) (x : Nw) (m : List Nw) : ∀ (l : List Nw), (l ++ x :: m).modify l.length f = l ++ f x :: m
  | [] => by simp
  | a :: l => by simp [mod_at f x m l]
theorem mod_at' (f : Nw → Nw) (x : Nw) (m l : List Nw) (n : Nat) (h : n = l.length) : (l ++ x :: m).modify n f = l ++ f x :: m := by
  subst h; exact mod_at f x m l
/-- a reading that begins well -/
def Rdg {α : Type} (r : Rd α) (q' : QS) (good : α → List Tok → Prop) : Prop :=
  match r with
  | (some a, t) => good a t
  | (none, t) => q'.bad = true ∧ q'.ts = t
theorem isN_kinds {ts : List Tok} (h : isN ts = true) : isM ts = false ∧ isW ts = false := by
  cases ts with
  | nil => cases h
  | cons t r =>
    simp only [isN, Bool.and_eq_true, beq_iff_eq, Bool.not_eq_true'] at h
    refine ⟨?_, h.2⟩
    simp [isM, h.1]
theorem isW_kinds {ts : List Tok} (h : isW ts = true) : isM ts = false := by
  cases ts with
  | nil => cases h
  | cons t r =>
    simp only [isW, Bool.and_eq_true, beq_iff_eq] at h
    simp [isM, h.1]
theorem qvalue_ok (ts : List Tok) (ns : List Nw) : Rdg (valueR ts) (valueS ⟨ts, ns, false⟩) (fun x t => valueS ⟨ts, ns, false⟩ = ⟨t, ns ++ [(x, [])], false⟩) := by
  have e : valueS ⟨ts, ns, false⟩ = valN ns.length ⟨ts, ns ++ [(⟨9, 0, [], [], atT ts⟩, [])], false⟩ := rfl
  rw [e]
  unfold valueR
  cases hN : isN ts with
  | true =>
    obtain ⟨hM, hW⟩ := isN_kinds hN
    cases hD : isT sDot ts.tail with
    | true =>
      cases hN2 : isN ts.tail.tail with
      | true => simp [Rdg, refR, pairR, nameR, needR, hN, hD, hN2, valN, hM, hW, nameS, nameX, takeS, QS.isS, QS.step, QS.upd, mod_at, sName, sAttr]
      | false => simp [Rdg, refR, pairR, nameR, needR, hN, hD, hN2, valN, hM, hW, nameS, nameX, takeS, QS.isS, QS.step, QS.upd, QS.spoil, mod_at, sName, sAttr]
    | false => simp [Rdg, refR, pairR, nameR, needR, hN, hD, valN, hM, hW, nameS, nameX, takeS, QS.isS, QS.step, QS.upd, QS.spoil, mod_at, sName, sAttr]
  | false =>
    cases hW : isW ts with
    | true =>
      have hM := isW_kinds hW
      simp [Rdg, wordR, hW, valN, hM, wordS, wordX, QS.step, QS.upd, mod_at, sName, sKind]
    | false =>
      cases hM : isM ts with
      | true => simp [Rdg, numR, hM, valN, numS, numX, QS.step, QS.upd, mod_at, sNum, sKind]
      | false => simp [Rdg, hM, hW, hN, valN, nameS, nameX, takeS, QS.isS, QS.upd, QS.spoil, mod_at, sName, sAttr]
theorem bad_eq {q : QS} (h : q.bad = true) : q = ⟨q.ts, q.ns, true⟩ := by cases q; simp at h; subst h; rfl
theorem isS_bad {q : QS} (h : q.bad = true) (s : Tx) : q.isS s = false := by unfold QS.isS; rw [h]; rfl
theorem take_bad {q : QS} (h : q.bad = true) (s : Tx) : takeS s q = q := by rw [takeS_one, one_bad _ _ h]
theorem name_bad {q : QS} (h : q.bad = true) : nameS q = q := by rw [nameS_one, one_bad _ _ h]
theorem word_bad {q : QS} (h : q.bad = true) : wordS q = q := by rw [wordS_one, one_bad _ _ h]
theorem num_bad {q : QS} (h : q.bad = true) : numS q = q := by rw [numS_one, one_bad _ _ h]
theorem expr_bad {q : QS} (h : q.bad = true) : ∀ f, exprS f q = q
  | 0 => by rw [exprS]
  | f + 1 => by rw [exprS, if_pos h]
/-- bad stays bad, where it is -/
def St (q q' : QS) : Prop := q.bad = true → q'.bad = true ∧ q'.ts = q.ts
theorem more_bad {ex : QS → Nat} {es : QS → QS} (he : ∀ q, q.bad = true → es q = q) (n : Nat) : ∀ (k : Nat) (q : QS), St q (moreS ex es n k q)
  | 0, q => fun h => ⟨h, rfl⟩
  | k + 1, q => fun h => by
    rw [moreS, he q h]
    rw [if_neg (by rw [isS_bad (q := q.upd n (aKid (ex q))) h]; exact Bool.false_ne_true)]
    exact ⟨h, rfl⟩
theorem exprs_bad {ex : QS → Nat} {es : QS → QS} (he : ∀ q, q.bad = true → es q = q) (n k : Nat) (q : QS) : St q (exprsS ex es n k q) := fun h => by
  unfold exprsS
  rw [take_bad h]
  obtain ⟨h1, h2⟩ := more_bad he n k q h
  rw [take_bad h1]
  exact ⟨h1, h2⟩
theorem sgn_bad (i : Nat) {r : RL} (h : r.q.bad = true) : sgnS i r = r := by
  unfold sgnS
  rw [if_neg (by rw [isS_bad h]; simp)]
theorem sgns_bad {r : RL} (h : r.q.bad = true) : ∀ i, sgnsS r i = r
  | 0 => rfl
  | i + 1 => by rw [sgnsS, sgns_bad h i, sgn_bad i h]
theorem btw_bad {r : RL} (h : r.q.bad = true) : btwS r = r := by
  unfold btwS
  rw [if_neg (by rw [isS_bad h]; simp)]
theorem vals_bad {q : QS} (h : q.bad = true) (l : List Nat) : ∀ k, (valsS k l q).2 = q
  | 0 => rfl
  | k + 1 => by
    rw [valsS, value_bad h, if_neg (by rw [isS_bad h]; exact Bool.false_ne_true)]
theorem in_bad {r : RL} (h : r.q.bad = true) (k : Nat) : (inS k r).q = r.q := by
  unfold inS
  split
  · simp only [take_bad h]
    rw [vals_bad h, take_bad h]
  · rfl
/-- which sign comes next -/
theorem sgns_ok (ts : List Tok) (ns : List Nw) (l : List Nat) : sgnsS ⟨none, 0, l, ⟨ts, ns, false⟩⟩ 6 = match cmpOf ts with
    | some k => ⟨some 6, k, l ++ [valueX ⟨ts.tail, ns, false⟩], valueS ⟨ts.tail, ns, false⟩⟩
    | none => ⟨none, 0, l, ⟨ts, ns, false⟩⟩ := by
  cases ts with
  | nil => rfl
  | cons t r =>
    have key : ∀ i, QS.isS (cmps.getD i []) ⟨t :: r, ns, false⟩ = (t.kind == 2 && t.text == cmps.getD i []) := fun i => rfl
    have hit : ∀ i, QS.isS (cmps.getD i []) ⟨t :: r, ns, false⟩ = true → sgnS i ⟨none, 0, l, ⟨t :: r, ns, false⟩⟩ = ⟨some 6, i, l ++ [valueX ⟨r, ns, false⟩], valueS ⟨r, ns, false⟩⟩ := fun i h => by
      unfold sgnS
      rw [if_pos (by simpa using h)]
      rfl
    have miss : ∀ i, QS.isS (cmps.getD i []) ⟨t :: r, ns, false⟩ = false → sgnS i ⟨none, 0, l, ⟨t :: r, ns, false⟩⟩ = ⟨none, 0, l, ⟨t :: r, ns, false⟩⟩ := fun i h => by
      unfold sgnS
      rw [if_neg (by intro e; simp only [Bool.and_eq_true] at e; rw [h] at e; cases e.2)]
    have past : ∀ i j k l q, sgnS i ⟨some k, j, l, q⟩ = ⟨some k, j, l, q⟩ := fun i j k l q => by
      unfold sgnS
      rw [if_neg (by simp)]
    have ec : cmpOf (t :: r) = if (t.kind == 2) = true then cmps.findIdx? (fun s => s == t.text) else none := rfl
    rw [ec]
    cases hk : (t.kind == 2) with
    | false =>
      have hm : ∀ i, QS.isS (cmps.getD i []) ⟨t :: r, ns, false⟩ = false := fun i => by rw [key, hk]; rfl
      simp only [sgnsS, miss _ (hm _), Bool.false_eq_true, if_false]
    | true =>
      have hm : ∀ i, QS.isS (cmps.getD i []) ⟨t :: r, ns, false⟩ = (t.text == cmps.getD i []) := fun i => by rw [key, hk]; rfl
      simp only [sgnsS, if_true]
      by_cases h0 : t.text = sEq
      · rw [hit 0 (by rw [hm, h0]; rfl)]
        simp only [past]
        rw [h0]; rfl
      rw [miss 0 (by rw [hm]; simpa [cmps] using h0)]
      by_cases h1 : t.text = sNe
      · rw [hit 1 (by rw [hm, h1]; rfl)]
        simp only [past]
        rw [h1]; rfl
      rw [miss 1 (by rw [hm]; simpa [cmps] using h1)]
      by_cases h2 : t.text = sLt
      · rw [hit 2 (by rw [hm, h2]; rfl)]
        simp only [past]
        rw [h2]; rfl
      rw [miss 2 (by rw [hm]; simpa [cmps] using h2)]
      by_cases h3 : t.text = sLe
      · rw [hit 3 (by rw [hm, h3]; rfl)]
        simp only [past]
        rw [h3]; rfl
      rw [miss 3 (by rw [hm]; simpa [cmps] using h3)]
      by_cases h4 : t.text = sGt
      · rw [hit 4 (by rw [hm, h4]; rfl)]
        simp only [past]
        rw [h4]; rfl
      rw [miss 4 (by rw [hm]; simpa [cmps] using h4)]
      by_cases h5 : t.text = sGe
      · rw [hit 5 (by rw [hm, h5]; rfl)]
        rw [h5]; rfl
      rw [miss 5 (by rw [hm]; simpa [cmps] using h5)]
      have : cmps.findIdx? (fun s => s == t.text) = none := by
        rw [List.findIdx?_eq_none_iff]
        intro s hs
        simp only [cmps, List.mem_cons, List.not_mem_nil, or_false] at hs
        rcases hs with rfl | rfl | rfl | rfl | rfl | rfl
        · exact beq_eq_false_iff_ne.2 (fun e => h0 e.symm)
        · exact beq_eq_false_iff_ne.2 (fun e => h1 e.symm)
        · exact beq_eq_false_iff_ne.2 (fun e => h2 e.symm)
        · exact beq_eq_false_iff_ne.2 (fun e => h3 e.symm)
        · exact beq_eq_false_iff_ne.2 (fun e => h4 e.symm)
        · exact beq_eq_false_iff_ne.2 (fun e => h5 e.symm)
      rw [this]
end Go.Proofs.YtogmhaihmkcjgaaGreatDoor.Pa

/-
  The reference's reader reads what the parser reads: conditions, expressions. No program in sight.
-/
namespace Go.Proofs.YtogmhaihmkcjgaaGreatDoor.Pa
open Lx (Tok)
set_option linter.unusedVariables false

theorem leaf_num (x : Nd) (a : Nat) : (leaf x).num a = [(x, [])] := rfl
theorem leaf_idx (x : Nd) (a : Nat) : (leaf x).idx a = [a] := rfl
theorem leaf_sz (x : Nd) : (leaf x).size = 1 := rfl
theorem value_good {ts t : List Tok} {x : Nd} (hg : Good ts) (h : valueR ts = (some x, t)) : Good t ∧ t.length + 1 ≤ ts.length := by
  have := (value_keeps ts hg).2
  rw [h] at this
  exact ⟨this, value_eats h⟩
theorem value_some {ts t : List Tok} {x : Nd} (h : valueR ts = (some x, t)) (ns : List Nw) : valueS ⟨ts, ns, false⟩ = ⟨t, ns ++ [(x, [])], false⟩ := by
  have := qvalue_ok ts ns
  rw [h] at this
  exact this
theorem value_none {ts t : List Tok} (h : valueR ts = (none, t)) (ns : List Nw) : (valueS ⟨ts, ns, false⟩).bad = true ∧ (valueS ⟨ts, ns, false⟩).ts = t := by
  have := qvalue_ok ts ns
  rw [h] at this
  exact this
theorem valueX_f (ts : List Tok) (ns : List Nw) : valueX ⟨ts, ns, false⟩ = ns.length := rfl
theorem isS_f (s : Tx) (ts : List Tok) (ns : List Nw) : QS.isS s ⟨ts, ns, false⟩ = isT s ts := by simp [QS.isS]
theorem step_f (ts : List Tok) (ns : List Nw) : QS.step ⟨ts, ns, false⟩ = ⟨ts.tail, ns, false⟩ := rfl
theorem qvals_ok : ∀ (k k' : Nat) (ts : List Tok) (ns : List Nw) (l : List Nat), Good ts → ts.length ≤ k → ts.length < k' →
    Rdg (listR leafR k ts) (valsS k' l ⟨ts, ns, false⟩).2 (fun fs t => valsS k' l ⟨ts, ns, false⟩ = (l ++ (F.cat fs).idx ns.length, ⟨t, ns ++ (F.cat fs).num ns.length, false⟩))
  | 0, k', ts, ns, l, hg, h1, h2 => absurd (List.eq_nil_of_length_eq_zero (Nat.le_zero.1 h1)) hg.ne
  | k + 1, 0, ts, ns, l, hg, h1, h2 => absurd h2 (Nat.not_lt_zero _)
  | k + 1, j + 1, ts, ns, l, hg, h1, h2 => by
    unfold listR leafR valsS
    rw [valueX_f]
    cases hv : valueR ts with
    | mk o t =>
      cases o with
      | none =>
        obtain ⟨e1, e2⟩ := value_none hv ns
        rw [then_none, then_none, if_neg (by rw [isS_bad e1]; exact Bool.false_ne_true)]
        exact ⟨e1, e2⟩
      | some x =>
        obtain ⟨gt, lt⟩ := value_good hg hv
        rw [value_some hv, then_some, then_some, isS_f, step_f]
        cases hc : isT sComma t with
        | false =>
          rw [if_neg Bool.false_ne_true, if_neg Bool.false_ne_true]
          show _ = _
          rw [F.cat, F.cat, F.app_nil, leaf_idx, leaf_num]
        | true =>
          have gl := isT_len hc
          have ih := qvals_ok k j t.tail (ns ++ [(x, [])]) (l ++ [ns.length]) (gt.isT hc) (by omega) (by omega)
          rw [if_pos rfl, if_pos rfl]
          change Rdg ((listR leafR k t.tail).then fun l q => (some (leaf x :: l), q)) _ _
          cases hl : listR leafR k t.tail with
          | mk o r =>
            rw [hl] at ih
            cases o with
            | none => exact ih
            | some fs =>
              have ih : valsS j (l ++ [ns.length]) ⟨t.tail, ns ++ [(x, [])], false⟩ = _ := ih
              rw [then_some]
              show _ = _
              rw [ih, F.cat, F.idx_app, F.num_app, leaf_idx, leaf_num, leaf_sz, List.length_append, List.length_singleton, List.append_assoc, List.append_assoc]
/-- a relation that has been read -/
theorem rel_done (base rest : List Nw) (a : Nat) (kd num : Nat) (kids : List Nat) (t : List Tok) :
    (QS.mk t (base ++ (⟨0, 0, [], [], a⟩, []) :: rest) false).upd base.length (sRel ⟨some kd, num, kids, ⟨t, base ++ (⟨0, 0, [], [], a⟩, []) :: rest, false⟩⟩) = ⟨t, base ++ (⟨kd, (num : Int), [], [], a⟩, kids) :: rest, false⟩ := by
  unfold QS.upd
  simp only
  rw [mod_at]
  rfl
theorem take_f {s : Tx} {ts : List Tok} (ns : List Nw) (h : isT s ts = true) : takeS s ⟨ts, ns, false⟩ = ⟨ts.tail, ns, false⟩ := by
  unfold takeS
  rw [isS_f, h]; rfl
theorem take_n {s : Tx} {ts : List Tok} (ns : List Nw) (h : isT s ts = false) : takeS s ⟨ts, ns, false⟩ = ⟨ts, ns, true⟩ := by
  unfold takeS
  rw [isS_f, h]; rfl
theorem need_t {s : Tx} {ts : List Tok} (h : isT s ts = true) : needR s ts = (some (), ts.tail) := by unfold needR; rw [h]; rfl
theorem need_n {s : Tx} {ts : List Tok} (h : isT s ts = false) : needR s ts = (none, ts) := by unfold needR; rw [h]; rfl
theorem take_bad2 {q : QS} (h : q.bad = true) (s : Tx) : (takeS s q).bad = true ∧ (takeS s q).ts = q.ts := by rw [take_bad h]; exact ⟨h, rfl⟩
/-- one tree -/
def One (f : F) : Prop := ∃ n k, f = .cons n k .nil
theorem isS_mk {s : Tx} {r : RL} (h : r.kd.isNone = true) : (r.kd.isNone && r.q.isS s) = r.q.isS s := by rw [h, Bool.true_and]
theorem btw_miss {r : RL} (h : r.q.isS kBetween = false) : btwS r = r := by
  unfold btwS
  rw [if_neg (by rw [h]; simp)]
theorem btw_some {k : Nat} {num : Nat} {l : List Nat} {q : QS} : btwS ⟨some k, num, l, q⟩ = ⟨some k, num, l, q⟩ := by
  unfold btwS
  rw [if_neg (by simp)]
theorem in_some {j k : Nat} {num : Nat} {l : List Nat} {q : QS} : inS j ⟨some k, num, l, q⟩ = ⟨some k, num, l, q⟩ := by
  unfold inS
  rw [if_neg (by simp)]
theorem rel_ok (ts : List Tok) (base : List Nw) (k : Nat) (hg : Good ts) (hk : ts.length < k) :
    Rdg (condR ts) (relS base.length k ⟨ts, base ++ [(⟨0, 0, [], [], atT ts⟩, [])], false⟩) (fun f t => relS base.length k ⟨ts, base ++ [(⟨0, 0, [], [], atT ts⟩, [])], false⟩ = ⟨t, base ++ f.num base.length, false⟩ ∧ One f) := by
  have ex : valueX ⟨ts, base ++ [(⟨0, 0, [], [], atT ts⟩, [])], false⟩ = base.length + 1 := by rw [valueX_f]; simp
  have badend : ∀ r : RL, r.q.bad = true → (inS k (btwS (sgnsS r 6))).q = r.q := fun r h => by
    rw [sgns_bad h, btw_bad h, in_bad h]
  unfold condR
  cases hv : valueR ts with
  | mk o t =>
    cases o with
    | none =>
      obtain ⟨e1, e2⟩ := value_none hv (base ++ [(⟨0, 0, [], [], atT ts⟩, [])])
      rw [then_none]
      have e3 : (relR k ⟨ts, base ++ [(⟨0, 0, [], [], atT ts⟩, [])], false⟩).q = valueS ⟨ts, base ++ [(⟨0, 0, [], [], atT ts⟩, [])], false⟩ := badend _ e1
      show (QS.upd _ _ _).bad = true ∧ (QS.upd _ _ _).ts = t
      rw [upd_bad, upd_ts, e3]
      exact ⟨e1, e2⟩
    | some x =>
      obtain ⟨gt, lt⟩ := value_good hg hv
      rw [then_some]
      have eR : relR k ⟨ts, base ++ [(⟨0, 0, [], [], atT ts⟩, [])], false⟩ = inS k (btwS (sgnsS ⟨none, 0, [base.length + 1], ⟨t, base ++ [(⟨0, 0, [], [], atT ts⟩, []), (x, [])], false⟩⟩ 6)) := by
        unfold relR
        rw [ex, value_some hv, List.append_assoc]; rfl
      have eS : ∀ r, relR k ⟨ts, base ++ [(⟨0, 0, [], [], atT ts⟩, [])], false⟩ = r → relS base.length k ⟨ts, base ++ [(⟨0, 0, [], [], atT ts⟩, [])], false⟩ = r.q.upd base.length (sRel r) := fun r e => by unfold relS; rw [e]
      rw [sgns_ok] at eR
      cases hc : cmpOf t with
      | some c =>
        rw [hc] at eR
        simp only [btw_some, in_some] at eR
        cases hv2 : valueR t.tail with
        | mk o2 t2 =>
          cases o2 with
          | none =>
            obtain ⟨e1, e2⟩ := value_none hv2 (base ++ [(⟨0, 0, [], [], atT ts⟩, []), (x, [])])
            simp only [then_none]
            rw [eS _ eR]
            exact ⟨e1, e2⟩
          | some y =>
            simp only [then_some]
            rw [value_some hv2, valueX_f] at eR
            show _ ∧ One _
            refine ⟨?_, _, _, rfl⟩
            rw [eS _ eR]
            have := rel_done base ([(x, [])] ++ [(y, [])]) (atT ts) 6 c ([base.length + 1] ++ [(base ++ [((⟨0, 0, [], [], atT ts⟩ : Nd), ([] : List Nat)), (x, [])]).length]) t2
            rw [List.append_assoc]
            refine this.trans ?_
            simp [F.num, F.app, F.idx, leaf, F.size]
      | none =>
        rw [hc] at eR
        simp only at eR
        cases hB : isT kBetween t with
        | true =>
          have eB : btwS ⟨none, 0, [base.length + 1], ⟨t, base ++ [(⟨0, 0, [], [], atT ts⟩, []), (x, [])], false⟩⟩ =
              ⟨some 7, 0, [base.length + 1] ++ [base.length + 2] ++ [valueX (takeS kAnd (valueS ⟨t.tail, base ++ [(⟨0, 0, [], [], atT ts⟩, []), (x, [])], false⟩))], valueS (takeS kAnd (valueS ⟨t.tail, base ++ [(⟨0, 0, [], [], atT ts⟩, []), (x, [])], false⟩))⟩ := by
            unfold btwS
            rw [isS_mk rfl, isS_f, hB, if_pos rfl, step_f, valueX_f]
            simp
          rw [eB, in_some] at eR
          simp only [if_true]
          cases hv2 : valueR t.tail with
          | mk o2 t2 =>
            cases o2 with
            | none =>
              obtain ⟨e1, e2⟩ := value_none hv2 (base ++ [(⟨0, 0, [], [], atT ts⟩, []), (x, [])])
              simp only [then_none]
              rw [eS _ eR, take_bad e1, value_bad e1]
              exact ⟨e1, e2⟩
            | some y =>
              simp only [then_some]
              rw [value_some hv2] at eR
              cases hA : isT kAnd t2 with
              | false =>
                rw [need_n hA]
                simp only [then_none]
                rw [take_n _ hA, value_bad rfl] at eR
                rw [eS _ eR]
                exact ⟨rfl, rfl⟩
              | true =>
                rw [need_t hA]
                simp only [then_some]
                rw [take_f _ hA, valueX_f] at eR
                cases hv3 : valueR t2.tail with
                | mk o3 t3 =>
                  cases o3 with
                  | none =>
                    simp only [then_none]
                    rw [eS _ eR]
                    exact value_none hv3 _
                  | some z =>
                    simp only [then_some]
                    rw [value_some hv3] at eR
                    show _ ∧ One _
                    refine ⟨?_, _, _, rfl⟩
                    rw [eS _ eR]
                    simp only [List.append_assoc]
                    refine (rel_done base ([(x, [])] ++ ([(y, [])] ++ [(z, [])])) (atT ts) 7 0 _ t3).trans ?_
                    simp [F.num, F.app, F.idx, leaf, F.size]
        | false =>
          rw [btw_miss (by rw [isS_f]; exact hB)] at eR
          simp only [Bool.false_eq_true, if_false]
          have eI : inS k ⟨none, 0, [base.length + 1], ⟨t, base ++ [(⟨0, 0, [], [], atT ts⟩, []), (x, [])], false⟩⟩ =
              ⟨some 8, 0, (valsS k [base.length + 1] (takeS sBra (takeS kIn ⟨t, base ++ [(⟨0, 0, [], [], atT ts⟩, []), (x, [])], false⟩))).1, takeS sKet (valsS k [base.length + 1] (takeS sBra (takeS kIn ⟨t, base ++ [(⟨0, 0, [], [], atT ts⟩, []), (x, [])], false⟩))).2⟩ := rfl
          rw [eI] at eR
          cases hI : isT kIn t with
          | false =>
            rw [take_n _ hI] at eR
            simp only [Bool.false_eq_true, if_false]
            rw [eS _ eR, take_bad rfl, vals_bad rfl, take_bad rfl]
            exact ⟨rfl, rfl⟩
          | true =>
            rw [take_f _ hI] at eR
            simp only [if_true]
            have gt2 := gt.isT hI
            have gl := isT_len hI
            cases hB2 : isT sBra t.tail with
            | false =>
              rw [take_n _ hB2] at eR
              rw [need_n hB2]
              simp only [then_none]
              rw [eS _ eR, vals_bad rfl, take_bad rfl]
              exact ⟨rfl, rfl⟩
            | true =>
              rw [take_f _ hB2] at eR
              rw [need_t hB2]
              simp only [then_some]
              have gl2 := isT_len hB2
              have hl := qvals_ok t.tail.tail.length k t.tail.tail (base ++ [(⟨0, 0, [], [], atT ts⟩, []), (x, [])]) [base.length + 1] (gt2.isT hB2) (Nat.le_refl _) (by omega)
              cases hL : listR leafR t.tail.tail.length t.tail.tail with
              | mk o4 t4 =>
                rw [hL] at hl
                cases o4 with
                | none =>
                  obtain ⟨e1, e2⟩ := hl
                  simp only [then_none]
                  rw [eS _ eR, take_bad e1]
                  exact ⟨e1, e2⟩
                | some fs =>
                  have hl : valsS k [base.length + 1] ⟨t.tail.tail, base ++ [(⟨0, 0, [], [], atT ts⟩, []), (x, [])], false⟩ = _ := hl
                  rw [hl] at eR
                  simp only [then_some]
                  cases hK : isT sKet t4 with
                  | false =>
                    rw [take_n _ hK] at eR
                    rw [need_n hK]
                    simp only [then_none]
                    rw [eS _ eR]
                    exact ⟨rfl, rfl⟩
                  | true =>
                    rw [take_f _ hK] at eR
                    rw [need_t hK]
                    simp only [then_some]
                    show _ ∧ One _
                    refine ⟨?_, _, _, rfl⟩
                    rw [eS _ eR, List.append_assoc]
                    refine (rel_done base ([(x, [])] ++ (F.cat fs).num (base ++ [((⟨0, 0, [], [], atT ts⟩ : Nd), ([] : List Nat)), (x, [])]).length) (atT ts) 8 0 _ t4.tail).trans ?_
                    simp [F.num, F.app, F.idx, leaf, F.size]
end Go.Proofs.YtogmhaihmkcjgaaGreatDoor.Pa

/-
  The reference's reader reads what the parser reads: lists of expressions, expressions. No program in sight.
-/
namespace Go.Proofs.YtogmhaihmkcjgaaGreatDoor.Pa
open Lx (Tok)
set_option linter.unusedVariables false

/-- an expression has been read -/
def Ge (base : List Nw) (ts : List Tok) (q' : QS) (x : Nat) (t : F) (r : List Tok) : Prop := q' = ⟨r, base ++ t.num base.length, false⟩ ∧ x = base.length ∧ One t ∧ Good r ∧ r.length < ts.length
theorem one_idx {f : F} (h : One f) (a : Nat) : f.idx a = [a] := by
  obtain ⟨n, k, rfl⟩ := h; rfl
theorem more_ok {rd : List Tok → Rd F} {ex : QS → Nat} {es : QS → QS} (f : Nat) (hr : ∀ ts ns, Good ts → ts.length < f → Rdg (rd ts) (es ⟨ts, ns, false⟩) (Ge ns ts (es ⟨ts, ns, false⟩) (ex ⟨ts, ns, false⟩)))
    (base : List Nw) (nd : Nd) : ∀ (k k' : Nat) (ts : List Tok) (kids : List Nat) (mid : List Nw), Good ts → ts.length ≤ k → ts.length < k' → ts.length < f →
    Rdg (listR rd k ts) (moreS ex es base.length k' ⟨ts, base ++ (nd, kids) :: mid, false⟩) (fun fs t => moreS ex es base.length k' ⟨ts, base ++ (nd, kids) :: mid, false⟩ = ⟨t, base ++ (nd, kids ++ (F.cat fs).idx (base.length + 1 + mid.length)) :: (mid ++ (F.cat fs).num (base.length + 1 + mid.length)), false⟩)
  | 0, k', ts, kids, mid, hg, h1, h2, h3 => absurd (List.eq_nil_of_length_eq_zero (Nat.le_zero.1 h1)) hg.ne
  | k + 1, 0, ts, kids, mid, hg, h1, h2, h3 => absurd h2 (Nat.not_lt_zero _)
  | k + 1, j + 1, ts, kids, mid, hg, h1, h2, h3 => by
    have hv := hr ts (base ++ (nd, kids) :: mid) hg h3
    unfold listR moreS
    cases he : rd ts with
    | mk o t =>
      rw [he] at hv
      cases o with
      | none =>
        obtain ⟨e1, e2⟩ := hv
        rw [then_none]
        have e3 : ((es ⟨ts, base ++ (nd, kids) :: mid, false⟩).upd base.length (aKid (ex ⟨ts, base ++ (nd, kids) :: mid, false⟩))).bad = true := e1
        simp only
        rw [if_neg (by rw [isS_bad e3]; exact Bool.false_ne_true)]
        exact ⟨e1, e2⟩
      | some x =>
        obtain ⟨a1, a2, a3, a4, a5⟩ := hv
        have hlen : (base ++ (nd, kids) :: mid).length = base.length + 1 + mid.length := by simp; omega
        have e : (es ⟨ts, base ++ (nd, kids) :: mid, false⟩).upd base.length (aKid (ex ⟨ts, base ++ (nd, kids) :: mid, false⟩)) = ⟨t, base ++ (nd, kids ++ [base.length + 1 + mid.length]) :: (mid ++ x.num (base.length + 1 + mid.length)), false⟩ := by
          rw [a1, a2, hlen]
          unfold QS.upd
          simp only [List.append_assoc, List.cons_append]
          rw [mod_at]
          rfl
        simp only [e, then_some, isS_f, step_f]
        cases hc : isT sComma t with
        | false =>
          rw [if_neg Bool.false_ne_true, if_neg Bool.false_ne_true]
          show _ = _
          rw [F.cat, F.cat, F.app_nil, one_idx a3]
        | true =>
          have gl := isT_len hc
          have ih := more_ok f hr base nd k j t.tail (kids ++ [base.length + 1 + mid.length]) (mid ++ x.num (base.length + 1 + mid.length)) (a4.isT hc) (by omega) (by omega) (by omega)
          rw [if_pos rfl, if_pos rfl]
          cases hl : listR rd k t.tail with
          | mk o r =>
            rw [hl] at ih
            cases o with
            | none => exact ih
            | some fs =>
              have ih : moreS ex es base.length j ⟨t.tail, base ++ (nd, kids ++ [base.length + 1 + mid.length]) :: (mid ++ x.num (base.length + 1 + mid.length)), false⟩ = _ := ih
              rw [then_some]
              show _ = _
              rw [ih, F.cat, F.idx_app, F.num_app, one_idx a3, List.length_append, F.num_len]
              simp only [List.append_assoc, Nat.add_assoc]
theorem kids_ok {rd : List Tok → Rd F} {ex : QS → Nat} {es : QS → QS} (hb : ∀ q, q.bad = true → es q = q) (f : Nat) (hr : ∀ ts ns, Good ts → ts.length < f → Rdg (rd ts) (es ⟨ts, ns, false⟩) (Ge ns ts (es ⟨ts, ns, false⟩) (ex ⟨ts, ns, false⟩)))
    (base : List Nw) (nd : Nd) (k' : Nat) (ts : List Tok) (hg : Good ts) (h2 : ts.length < k') (h3 : ts.length < f) :
    Rdg (kidsR rd nd ts) (exprsS ex es base.length k' ⟨ts, base ++ [(nd, [])], false⟩) (fun t r => exprsS ex es base.length k' ⟨ts, base ++ [(nd, [])], false⟩ = ⟨r, base ++ t.num base.length, false⟩ ∧ One t) := by
  unfold kidsR exprsS
  cases hO : isT sOpen ts with
  | false =>
    rw [need_n hO, take_n _ hO, then_none]
    have h9 := more_bad (ex := ex) hb base.length k' ⟨ts, base ++ [(nd, [])], true⟩ rfl
    exact ⟨(take_bad2 h9.1 _).1, (take_bad2 h9.1 _).2.trans h9.2⟩
  | true =>
    rw [need_t hO, take_f _ hO, then_some]
    have gl := isT_len hO
    have hm := more_ok f hr base nd ts.tail.length k' ts.tail [] [] (hg.isT hO) (Nat.le_refl _) (by omega) (by omega)
    cases hL : listR rd ts.tail.length ts.tail with
    | mk o t =>
      rw [hL] at hm
      cases o with
      | none =>
        obtain ⟨e1, e2⟩ := hm
        rw [then_none]
        exact ⟨(take_bad2 e1 _).1, (take_bad2 e1 _).2.trans e2⟩
      | some fs =>
        have hm : moreS ex es base.length k' ⟨ts.tail, base ++ [(nd, [])], false⟩ = _ := hm
        rw [then_some, hm]
        cases hC : isT sClose t with
        | false =>
          rw [need_n hC, take_n _ hC, then_none]
          exact ⟨rfl, rfl⟩
        | true =>
          rw [need_t hC, take_f _ hC, then_some]
          refine ⟨?_, _, _, rfl⟩
          simp [F.num]
theorem isT_ex {a b : Tx} {ts : List Tok} (h : isT a ts = true) (hne : a ≠ b) : isT b ts = false := by
  cases ts with
  | nil => cases h
  | cons t r =>
    simp only [isT, Bool.and_eq_true, beq_iff_eq] at h
    simp only [isT, h.2, Bool.and_eq_false_iff]
    exact .inr (beq_eq_false_iff_ne.2 hne)
theorem qexpr_ok : ∀ (f : Nat) (ts : List Tok) (base : List Nw), Good ts → ts.length < f → Rdg (exprR f ts) (exprS f ⟨ts, base, false⟩) (Ge base ts (exprS f ⟨ts, base, false⟩) (exprX f ⟨ts, base, false⟩))
  | 0, ts, base, hg, h1 => absurd h1 (Nat.not_lt_zero _)
  | f + 1, ts, base, hg, h1 => by
    have ih := qexpr_ok f
    have hkeep := (expr_keeps (f + 1) ts hg).2
    have hsize := expr_size (f + 1) ts
    -- what remains: the state, one tree
    have key : Rdg (exprR (f + 1) ts) (exprS (f + 1) ⟨ts, base, false⟩) (fun t r => exprS (f + 1) ⟨ts, base, false⟩ = ⟨r, base ++ t.num base.length, false⟩ ∧ exprX (f + 1) ⟨ts, base, false⟩ = base.length ∧ One t) := by
      rw [exprR, exprS, exprX]
      simp only [Bool.false_eq_true, if_false]
      have eb : ∀ s, QS.isS s (beginS 0 ⟨ts, base, false⟩) = isT s ts := fun s => isS_f s ts _
      have es : (beginS 0 ⟨ts, base, false⟩).step = ⟨ts.tail, base ++ [(⟨0, 0, [], [], atT ts⟩, [])], false⟩ := rfl
      have et : (beginS 0 ⟨ts, base, false⟩).ts = ts := rfl
      simp only [eb, es, et, isS_f, step_f]
      have ek : ∀ (k : Nat) (r : List Tok), (QS.mk r (base ++ [(⟨0, 0, [], [], atT ts⟩, [])]) false).upd base.length (sKind k) = ⟨r, base ++ [(⟨k, 0, [], [], atT ts⟩, [])], false⟩ := fun k r => by
        unfold QS.upd
        simp only
        rw [mod_at]
        rfl
      have hx : ∀ {s : Tx}, isT s ts = true → s ≠ sOpen → isT sOpen ts = false := fun h hne => isT_ex h hne
      cases hAll : isT kAll ts with
      | true =>
        have gl := isT_len hAll
        simp only [if_true, isT_ex hAll (b := sOpen) (by decide), isT_ex hAll (b := kTrue) (by decide), isT_ex hAll (b := kFalse) (by decide), isT_ex hAll (b := kNot) (by decide), Bool.false_eq_true, if_false, ek]
        have := kids_ok (fun q h => expr_bad h f) f ih base ⟨3, 0, [], [], atT ts⟩ (ts.length + 1) ts.tail (hg.isT hAll) (by omega) (by omega)
        cases hk : kidsR (exprR f) ⟨3, 0, [], [], atT ts⟩ ts.tail with
        | mk o t =>
          rw [hk] at this
          cases o with
          | none => exact this
          | some x => exact ⟨this.1, trivial, this.2⟩
      | false =>
      cases hAny : isT kAny ts with
      | true =>
        have gl := isT_len hAny
        simp only [if_true, isT_ex hAny (b := sOpen) (by decide), isT_ex hAny (b := kTrue) (by decide), isT_ex hAny (b := kFalse) (by decide), isT_ex hAny (b := kNot) (by decide), Bool.false_eq_true, if_false, ek]
        have := kids_ok (fun q h => expr_bad h f) f ih base ⟨4, 0, [], [], atT ts⟩ (ts.length + 1) ts.tail (hg.isT hAny) (by omega) (by omega)
        cases hk : kidsR (exprR f) ⟨4, 0, [], [], atT ts⟩ ts.tail with
        | mk o t =>
          rw [hk] at this
          cases o with
          | none => exact this
          | some x => exact ⟨this.1, trivial, this.2⟩
      | false =>
      cases hAt : isT kAtleast ts with
      | true =>
        have gl := isT_len hAt
        simp only [if_true, isT_ex hAt (b := sOpen) (by decide), isT_ex hAt (b := kTrue) (by decide), isT_ex hAt (b := kFalse) (by decide), isT_ex hAt (b := kNot) (by decide), Bool.false_eq_true, if_false, ek]
        unfold numR
        cases hM : isM ts.tail with
        | false =>
          have e1 : numS ⟨ts.tail, base ++ [(⟨5, 0, [], [], atT ts⟩, [])], false⟩ = ⟨ts.tail, base ++ [(⟨5, 0, [], [], atT ts⟩, [])], true⟩ := by simp [numS, hM, QS.spoil]
          simp only [Bool.false_eq_true, if_false, then_none, e1]
          exact exprs_bad (fun q h => expr_bad h f) base.length (ts.length + 1) _ rfl
        | true =>
          have e1 : numS ⟨ts.tail, base ++ [(⟨5, 0, [], [], atT ts⟩, [])], false⟩ = ⟨ts.tail.tail, base ++ [(⟨5, 0, [], [], atT ts⟩, [])], false⟩ := by simp [numS, hM, QS.step]
          have e2 : numX ⟨ts.tail, base ++ [(⟨5, 0, [], [], atT ts⟩, [])], false⟩ = numV (headX ts.tail) := by simp [numX, hM]
          have e3 : (QS.mk ts.tail.tail (base ++ [(⟨5, 0, [], [], atT ts⟩, [])]) false).upd base.length (sNum (numV (headX ts.tail))) = ⟨ts.tail.tail, base ++ [(⟨5, numV (headX ts.tail), [], [], atT ts⟩, [])], false⟩ := by
            unfold QS.upd
            simp only
            rw [mod_at]
            rfl
          simp only [if_true, then_some, e1, e2, e3]
          have := kids_ok (fun q h => expr_bad h f) f ih base ⟨5, numV (headX ts.tail), [], [], atT ts⟩ (ts.length + 1) ts.tail.tail ((hg.isT hAt).isM hM) (by simp only [List.length_tail]; omega) (by simp only [List.length_tail]; omega)
          cases hk : kidsR (exprR f) ⟨5, numV (headX ts.tail), [], [], atT ts⟩ ts.tail.tail with
          | mk o t =>
            rw [hk] at this
            cases o with
            | none => exact this
            | some x => exact ⟨this.1, trivial, this.2⟩
      | false =>
      cases hNot : isT kNot ts with
      | true =>
        have gl := isT_len hNot
        simp only [if_true, isT_ex hNot (b := sOpen) (by decide), isT_ex hNot (b := kTrue) (by decide), isT_ex hNot (b := kFalse) (by decide), Bool.false_eq_true, if_false, ek]
        have := ih ts.tail (base ++ [(⟨2, 0, [], [], atT ts⟩, [])]) (hg.isT hNot) (by omega)
        cases hk : exprR f ts.tail with
        | mk o t =>
          rw [hk] at this
          cases o with
          | none => exact this
          | some x =>
            obtain ⟨a1, a2, a3, a4, a5⟩ := this
            rw [then_some]
            refine ⟨?_, trivial, _, _, rfl⟩
            rw [a1, a2]
            unfold QS.upd
            simp only [List.append_assoc, List.cons_append, List.nil_append]
            rw [mod_at]
            simp [F.num, one_idx a3, sKids]
      | false =>
      cases hTrue : isT kTrue ts with
      | true =>
        simp only [if_true, isT_ex hTrue (b := sOpen) (by decide), Bool.false_eq_true, if_false]
        exact ⟨rfl, trivial, _, _, rfl⟩
      | false =>
      cases hFalse : isT kFalse ts with
      | true =>
        simp only [if_true, isT_ex hFalse (b := sOpen) (by decide), Bool.false_eq_true, if_false, ek]
        exact ⟨rfl, trivial, _, _, rfl⟩
      | false =>
      cases hOpen : isT sOpen ts with
      | true =>
        have gl := isT_len hOpen
        simp only [if_true, Bool.false_eq_true, if_false]
        have := ih ts.tail base (hg.isT hOpen) (by omega)
        cases hk : exprR f ts.tail with
        | mk o t =>
          rw [hk] at this
          cases o with
          | none =>
            obtain ⟨e1, e2⟩ := this
            rw [then_none]
            exact ⟨(take_bad2 e1 _).1, (take_bad2 e1 _).2.trans e2⟩
          | some x =>
            obtain ⟨a1, a2, a3, a4, a5⟩ := this
            rw [then_some, a1, a2]
            cases hC : isT sClose t with
            | false =>
              rw [need_n hC, take_n _ hC, then_none]
              exact ⟨rfl, rfl⟩
            | true =>
              rw [need_t hC, take_f _ hC, then_some]
              exact ⟨rfl, rfl, a3⟩
      | false =>
        simp only [Bool.false_eq_true, if_false]
        have := rel_ok ts base (ts.length + 1) hg (by omega)
        cases hk : condR ts with
        | mk o t =>
          rw [hk] at this
          cases o with
          | none => exact this
          | some x => exact ⟨this.1, trivial, this.2⟩
    cases he : exprR (f + 1) ts with
    | mk o t =>
      rw [he] at key hkeep
      cases o with
      | none => exact key
      | some x =>
        obtain ⟨k1, k2, k3⟩ := key
        refine ⟨k1, k2, k3, hkeep, ?_⟩
        have := hsize t x he
        obtain ⟨n, k, rfl⟩ := k3
        have e : (F.cons n k .nil).size = k.size + F.nil.size + 1 := rfl
        omega
end Go.Proofs.YtogmhaihmkcjgaaGreatDoor.Pa

/-
  The reference's reader reads what the parser reads: policies. No program in sight.
-/
namespace Go.Proofs.YtogmhaihmkcjgaaGreatDoor.Pa
open Lx (Tok)
set_option linter.unusedVariables false

/-- pairs of names, separated by commas -/
def pairS (s : Tx) (q : QS) : (Tx × Tx) × QS := ((nameX q, nameX (takeS s (nameS q))), nameS (takeS s (nameS q)))
def pairsS (s : Tx) : Nat → List (Tx × Tx) → QS → List (Tx × Tx) × QS
  | 0, l, q => (l, q)
  | k + 1, l, q => if (pairS s q).2.isS sComma then pairsS s k (l ++ [(pairS s q).1]) (pairS s q).2.step else (l ++ [(pairS s q).1], (pairS s q).2)
theorem pair_badS {q : QS} (h : q.bad = true) (s : Tx) : (pairS s q).2 = q := by
  unfold pairS
  simp only [name_bad h, take_bad h]
theorem pairs_bad {q : QS} (h : q.bad = true) (s : Tx) (l : List (Tx × Tx)) : ∀ k, (pairsS s k l q).2 = q
  | 0 => rfl
  | k + 1 => by
    rw [pairsS, pair_badS h, if_neg (by rw [isS_bad h]; exact Bool.false_ne_true)]
theorem name_f {ts : List Tok} (ns : List Nw) (h : isN ts = true) : nameS ⟨ts, ns, false⟩ = ⟨ts.tail, ns, false⟩ ∧ nameX ⟨ts, ns, false⟩ = headX ts ∧ nameR ts = (some (headX ts), ts.tail) := by
  refine ⟨?_, ?_, ?_⟩
  · simp [nameS, h, QS.step]
  · simp [nameX, h]
  · simp [nameR, h]
theorem name_n {ts : List Tok} (ns : List Nw) (h : isN ts = false) : nameS ⟨ts, ns, false⟩ = ⟨ts, ns, true⟩ ∧ nameR ts = (none, ts) := by
  refine ⟨?_, ?_⟩
  · simp [nameS, h, QS.spoil]
  · simp [nameR, h]
theorem word_f {ts : List Tok} (ns : List Nw) (h : isW ts = true) : wordS ⟨ts, ns, false⟩ = ⟨ts.tail, ns, false⟩ ∧ wordX ⟨ts, ns, false⟩ = (headX ts).tail.dropLast ∧ wordR ts = (some (headX ts).tail.dropLast, ts.tail) := by
  refine ⟨?_, ?_, ?_⟩
  · simp [wordS, h, QS.step]
  · simp [wordX, h]
  · simp [wordR, h]
theorem word_n {ts : List Tok} (ns : List Nw) (h : isW ts = false) : wordS ⟨ts, ns, false⟩ = ⟨ts, ns, true⟩ ∧ wordR ts = (none, ts) := by
  refine ⟨?_, ?_⟩
  · simp [wordS, h, QS.spoil]
  · simp [wordR, h]
theorem num_f {ts : List Tok} (ns : List Nw) (h : isM ts = true) : numS ⟨ts, ns, false⟩ = ⟨ts.tail, ns, false⟩ ∧ numX ⟨ts, ns, false⟩ = numV (headX ts) ∧ numR ts = (some (numV (headX ts)), ts.tail) := by
  refine ⟨?_, ?_, ?_⟩
  · simp [numS, h, QS.step]
  · simp [numX, h]
  · simp [numR, h]
theorem num_n {ts : List Tok} (ns : List Nw) (h : isM ts = false) : numS ⟨ts, ns, false⟩ = ⟨ts, ns, true⟩ ∧ numR ts = (none, ts) := by
  refine ⟨?_, ?_⟩
  · simp [numS, h, QS.spoil]
  · simp [numR, h]
theorem qpair_ok (s : Tx) (ts : List Tok) (ns : List Nw) : Rdg (pairR s ts) (pairS s ⟨ts, ns, false⟩).2 (fun x t => pairS s ⟨ts, ns, false⟩ = (x, ⟨t, ns, false⟩)) := by
  unfold pairR pairS
  cases hN : isN ts with
  | false =>
    obtain ⟨e1, e2⟩ := name_n ns hN
    rw [e1, e2, then_none, take_bad rfl, name_bad rfl]
    exact ⟨rfl, rfl⟩
  | true =>
    obtain ⟨e1, e2, e3⟩ := name_f ns hN
    rw [e1, e2, e3, then_some]
    cases hS : isT s ts.tail with
    | false =>
      rw [need_n hS, take_n _ hS, then_none, name_bad rfl]
      exact ⟨rfl, rfl⟩
    | true =>
      rw [need_t hS, take_f _ hS, then_some]
      cases hN2 : isN ts.tail.tail with
      | false =>
        obtain ⟨e1, e2⟩ := name_n ns hN2
        rw [e1, e2, then_none]
        exact ⟨rfl, rfl⟩
      | true =>
        obtain ⟨e1, e2, e3⟩ := name_f ns hN2
        rw [e1, e2, e3, then_some]
        show _ = _
        rfl
theorem qpairs_ok (s : Tx) : ∀ (k k' : Nat) (ts : List Tok) (ns : List Nw) (l : List (Tx × Tx)), Good ts → ts.length ≤ k → ts.length < k' →
    Rdg (listR (pairR s) k ts) (pairsS s k' l ⟨ts, ns, false⟩).2 (fun xs t => pairsS s k' l ⟨ts, ns, false⟩ = (l ++ xs, ⟨t, ns, false⟩))
  | 0, k', ts, ns, l, hg, h1, h2 => absurd (List.eq_nil_of_length_eq_zero (Nat.le_zero.1 h1)) hg.ne
  | k + 1, 0, ts, ns, l, hg, h1, h2 => absurd h2 (Nat.not_lt_zero _)
  | k + 1, j + 1, ts, ns, l, hg, h1, h2 => by
    have hp := qpair_ok s ts ns
    have hg2 := (pair_keeps s ts hg).2
    unfold listR pairsS
    cases hv : pairR s ts with
    | mk o t =>
      rw [hv] at hp hg2
      cases o with
      | none =>
        obtain ⟨e1, e2⟩ := hp
        rw [then_none, if_neg (by rw [isS_bad e1]; exact Bool.false_ne_true)]
        exact ⟨e1, e2⟩
      | some x =>
        have hp : pairS s ⟨ts, ns, false⟩ = (x, ⟨t, ns, false⟩) := hp
        have lt := pair_eats hv
        rw [hp, then_some]
        simp only [isS_f, step_f]
        cases hc : isT sComma t with
        | false =>
          rw [if_neg Bool.false_ne_true, if_neg Bool.false_ne_true]
          rfl
        | true =>
          have gl := isT_len hc
          have ih := qpairs_ok s k j t.tail ns (l ++ [x]) (hg2.isT hc) (by omega) (by omega)
          rw [if_pos rfl, if_pos rfl]
          cases hl : listR (pairR s) k t.tail with
          | mk o r =>
            rw [hl] at ih
            cases o with
            | none => exact ih
            | some xs =>
              have ih : pairsS s j (l ++ [x]) ⟨t.tail, ns, false⟩ = _ := ih
              rw [then_some]
              show _ = _
              rw [ih, List.append_assoc]; rfl
/-! the parts of a policy, one after the other; K: at least the number of tokens -/
def p1S (ts : List Tok) : QS := takeS kPolicy ⟨ts, [], false⟩
def p2S (ts : List Tok) : QS := takeS kUses (nameS (p1S ts))
def usesS (ts : List Tok) : List (Tx × Tx) × QS := pairsS sColon (ts.length + 1) [] (p2S ts)
def revS (ts : List Tok) : List (Tx × Tx) × QS := if (usesS ts).2.isS kReveal then pairsS sDot (ts.length + 1) [] (usesS ts).2.step else ([], (usesS ts).2)
def proveS (q : QS) : QS := if q.isS kProve then exprS q.ts.length q.step else if q.bad then q else beginS 0 q
def scopeS (q : QS) : (Tx × Int) × QS :=
  if q.isS kScope then (if (wordS q.step).isS kLimit then ((wordX q.step, numX (wordS q.step).step), numS (wordS q.step).step) else ((wordX q.step, 0), wordS q.step)) else (([], 0), q)
def escS (q : QS) : Tx × QS := if q.isS kEscrow then (nameX q.step, nameS q.step) else ([], q)
def endS (q : QS) : QS := if !(takeS kEnd q).bad && !isE (takeS kEnd q).ts then (takeS kEnd q).spoil else takeS kEnd q
def q3S (ts : List Tok) : QS := proveS (revS ts).2
def q4S (ts : List Tok) : QS := (scopeS (q3S ts)).2
def q5S (ts : List Tok) : QS := (escS (q4S ts)).2
def q6S (ts : List Tok) : QS := endS (q5S ts)
theorem prove_bad {q : QS} (h : q.bad = true) : proveS q = q := by
  unfold proveS
  rw [if_neg (by rw [isS_bad h]; exact Bool.false_ne_true), if_pos h]
theorem scope_bad {q : QS} (h : q.bad = true) : (scopeS q).2 = q := by
  unfold scopeS
  rw [if_neg (by rw [isS_bad h]; exact Bool.false_ne_true)]
theorem esc_bad {q : QS} (h : q.bad = true) : (escS q).2 = q := by
  unfold escS
  rw [if_neg (by rw [isS_bad h]; exact Bool.false_ne_true)]
theorem end_bad {q : QS} (h : q.bad = true) : endS q = q := by
  unfold endS
  rw [take_bad h, if_neg (by rw [h]; simp)]
/-- from the prove part on -/
def tailS (q : QS) : QS := endS (escS (scopeS (proveS q)).2).2
theorem tail_bad {q : QS} (h : q.bad = true) : tailS q = q := by unfold tailS; rw [prove_bad h, scope_bad h, esc_bad h, end_bad h]
theorem qprove_ok (ts : List Tok) (hg : Good ts) : Rdg (proveR ts) (proveS ⟨ts, [], false⟩) (fun f t => proveS ⟨ts, [], false⟩ = ⟨t, f.num 0, false⟩) := by
  unfold proveR proveS
  rw [isS_f, step_f]
  cases hP : isT kProve ts with
  | false => exact rfl
  | true =>
    have gl := isT_len hP
    have := qexpr_ok ts.length ts.tail [] (hg.isT hP) (by omega)
    rw [if_pos rfl, if_pos rfl]
    cases he : exprR ts.length ts.tail with
    | mk o t =>
      rw [he] at this
      cases o with
      | none => exact this
      | some x => exact this.1
theorem qscope_ok (ts : List Tok) (ns : List Nw) : Rdg (scopeR ts) (scopeS ⟨ts, ns, false⟩).2 (fun x t => scopeS ⟨ts, ns, false⟩ = (x, ⟨t, ns, false⟩)) := by
  unfold scopeR scopeS
  rw [isS_f, step_f]
  cases hP : isT kScope ts with
  | false => exact rfl
  | true =>
    rw [if_pos rfl, if_pos rfl]
    cases hW : isW ts.tail with
    | false =>
      obtain ⟨e1, e2⟩ := word_n ns hW
      rw [e1, e2, then_none, if_neg (by rw [isS_bad rfl]; exact Bool.false_ne_true)]
      exact ⟨rfl, rfl⟩
    | true =>
      obtain ⟨e1, e2, e3⟩ := word_f ns hW
      rw [e1, e2, e3, then_some, isS_f, step_f]
      cases hL : isT kLimit ts.tail.tail with
      | false => exact rfl
      | true =>
        rw [if_pos rfl, if_pos rfl]
        cases hM : isM ts.tail.tail.tail with
        | false =>
          obtain ⟨e1, e2⟩ := num_n ns hM
          rw [e1, e2, then_none]
          exact ⟨rfl, rfl⟩
        | true =>
          obtain ⟨e1, e2, e3⟩ := num_f ns hM
          rw [e1, e2, e3, then_some]
          exact rfl
theorem esc_ok (ts : List Tok) (ns : List Nw) : Rdg (escrowR ts) (escS ⟨ts, ns, false⟩).2 (fun x t => escS ⟨ts, ns, false⟩ = (x, ⟨t, ns, false⟩)) := by
  unfold escrowR escS
  rw [isS_f, step_f]
  cases hP : isT kEscrow ts with
  | false => exact rfl
  | true =>
    rw [if_pos rfl, if_pos rfl]
    cases hN : isN ts.tail with
    | false =>
      obtain ⟨e1, e2⟩ := name_n ns hN
      rw [e1, e2]
      exact ⟨rfl, rfl⟩
    | true =>
      obtain ⟨e1, e2, e3⟩ := name_f ns hN
      rw [e1, e2, e3]
      exact rfl
theorem rev_ok (ts : List Tok) (K : Nat) (hg : Good ts) (hK : ts.length < K) : Rdg (revealR ts) (if isT kReveal ts then pairsS sDot K [] ⟨ts.tail, [], false⟩ else ([], ⟨ts, [], false⟩)).2 (fun x t => (if isT kReveal ts then pairsS sDot K [] ⟨ts.tail, [], false⟩ else ([], ⟨ts, [], false⟩)) = (x, ⟨t, [], false⟩)) := by
  unfold revealR
  cases hP : isT kReveal ts with
  | false => exact rfl
  | true =>
    have gl := isT_len hP
    have := qpairs_ok sDot ts.length K ts.tail [] [] (hg.isT hP) (by omega) (by omega)
    simp only [if_true]
    change Rdg (listR (pairR sDot) ts.length ts.tail) _ _
    cases he : listR (pairR sDot) ts.length ts.tail with
    | mk o t =>
      rw [he] at this
      cases o with
      | none => exact this
      | some x => exact this
/-- the whole -/
theorem policy_okS (ts : List Tok) (hg : Good ts) : Rdg (policyR ts) (q6S ts) (fun p t => q6S ts = ⟨t, p.root.num 0, false⟩ ∧ nameX (p1S ts) = p.name ∧ (usesS ts).1 = p.uses ∧ (revS ts).1 = p.reveal ∧ (scopeS (q3S ts)).1 = (p.scope, p.limit) ∧ (escS (q4S ts)).1 = p.escrow) := by
  have e6 : q6S ts = tailS (revS ts).2 := rfl
  have eb : ∀ q, (usesS ts).2 = q → q.bad = true → q6S ts = q := fun q h hb => by
    have : (revS ts).2 = q := by
      unfold revS
      rw [h, if_neg (by rw [isS_bad hb]; exact Bool.false_ne_true)]
    rw [e6, this, tail_bad hb]
  have eb2 : ∀ q, p2S ts = q → q.bad = true → q6S ts = q := fun q h hb => eb q (by unfold usesS; rw [h, pairs_bad hb]) hb
  unfold policyR
  cases hP : isT kPolicy ts with
  | false =>
    have e1 : p1S ts = ⟨ts, [], true⟩ := take_n _ hP
    have e2 : p2S ts = ⟨ts, [], true⟩ := by unfold p2S; rw [e1, name_bad rfl, take_bad rfl]
    rw [need_n hP, then_none, eb2 _ e2 rfl]
    exact ⟨rfl, rfl⟩
  | true =>
    have gl1 := isT_len hP
    have e1 : p1S ts = ⟨ts.tail, [], false⟩ := take_f _ hP
    rw [need_t hP, then_some, e1]
    have g1 := hg.isT hP
    cases hN : isN ts.tail with
    | false =>
      obtain ⟨n1, n2⟩ := name_n ([] : List Nw) hN
      have e2 : p2S ts = ⟨ts.tail, [], true⟩ := by unfold p2S; rw [e1, n1, take_bad rfl]
      rw [n2, then_none, eb2 _ e2 rfl]
      exact ⟨rfl, rfl⟩
    | true =>
      obtain ⟨n1, n2, n3⟩ := name_f ([] : List Nw) hN
      rw [n2, n3, then_some]
      have g2 := g1.isN hN
      cases hU : isT kUses ts.tail.tail with
      | false =>
        have e2 : p2S ts = ⟨ts.tail.tail, [], true⟩ := by unfold p2S; rw [e1, n1, take_n _ hU]
        rw [need_n hU, then_none, eb2 _ e2 rfl]
        exact ⟨rfl, rfl⟩
      | true =>
        have gl3 := isT_len hU
        have e2 : p2S ts = ⟨ts.tail.tail.tail, [], false⟩ := by unfold p2S; rw [e1, n1, take_f _ hU]
        rw [need_t hU, then_some]
        have g3 := g2.isT hU
        simp only [List.length_tail] at gl1 gl3
        have hp := qpairs_ok sColon ts.tail.tail.tail.length (ts.length + 1) ts.tail.tail.tail [] [] g3 (Nat.le_refl _) (by simp only [List.length_tail]; omega)
        have hgp := (list_keeps (pair_keeps sColon) ts.tail.tail.tail.length ts.tail.tail.tail g3).2
        have hsp := (list_keeps (pair_keeps sColon) ts.tail.tail.tail.length ts.tail.tail.tail g3).1.length_le
        have eU : usesS ts = pairsS sColon (ts.length + 1) [] ⟨ts.tail.tail.tail, [], false⟩ := by unfold usesS; rw [e2]
        rw [← eU] at hp
        cases hL : listR (pairR sColon) ts.tail.tail.tail.length ts.tail.tail.tail with
        | mk o t =>
          rw [hL] at hp hgp hsp
          cases o with
          | none =>
            obtain ⟨a1, a2⟩ := hp
            rw [then_none, eb _ rfl a1]
            exact ⟨a1, a2⟩
          | some us =>
            have hp : usesS ts = (us, ⟨t, [], false⟩) := hp
            simp only at hgp hsp
            simp only [List.length_tail] at hsp
            rw [then_some]
            have hr := rev_ok t (ts.length + 1) hgp (by omega)
            have eR : revS ts = (if isT kReveal t then pairsS sDot (ts.length + 1) [] ⟨t.tail, [], false⟩ else ([], ⟨t, [], false⟩)) := by
              unfold revS
              rw [hp]
              simp only [isS_f, step_f]
            rw [← eR] at hr
            have hgr : Good (revealR t).2 := by
              unfold revealR
              cases hT : isT kReveal t with
              | false => exact hgp
              | true => exact (list_keeps (pair_keeps sDot) t.length t.tail (hgp.isT hT)).2
            cases hV : revealR t with
            | mk o r =>
              rw [hV] at hr hgr
              cases o with
              | none =>
                obtain ⟨a1, a2⟩ := hr
                rw [then_none, e6, tail_bad a1]
                exact ⟨a1, a2⟩
              | some rv =>
                have hr : revS ts = (rv, ⟨r, [], false⟩) := hr
                rw [then_some]
                have hq := qprove_ok r hgr
                have e3 : q3S ts = proveS ⟨r, [], false⟩ := by unfold q3S; rw [hr]
                rw [← e3] at hq
                cases hR : proveR r with
                | mk o r2 =>
                  rw [hR] at hq
                  cases o with
                  | none =>
                    obtain ⟨a1, a2⟩ := hq
                    have : q6S ts = q3S ts := by unfold q6S q5S q4S; rw [scope_bad a1, esc_bad a1, end_bad a1]
                    rw [then_none, this]
                    exact ⟨a1, a2⟩
                  | some f =>
                    have hq : q3S ts = ⟨r2, f.num 0, false⟩ := hq
                    rw [then_some]
                    have hs := qscope_ok r2 (f.num 0)
                    rw [← hq] at hs
                    cases hC : scopeR r2 with
                    | mk o r3 =>
                      rw [hC] at hs
                      cases o with
                      | none =>
                        obtain ⟨a1, a2⟩ := hs
                        have : q6S ts = (scopeS (q3S ts)).2 := by unfold q6S q5S q4S; rw [esc_bad a1, end_bad a1]
                        rw [then_none, this]
                        exact ⟨a1, a2⟩
                      | some x =>
                        have hs : scopeS (q3S ts) = (x, ⟨r3, f.num 0, false⟩) := hs
                        rw [then_some]
                        have he := esc_ok r3 (f.num 0)
                        have e4 : q4S ts = ⟨r3, f.num 0, false⟩ := by unfold q4S; rw [hs]
                        rw [← e4] at he
                        cases hE : escrowR r3 with
                        | mk o r4 =>
                          rw [hE] at he
                          cases o with
                          | none =>
                            obtain ⟨a1, a2⟩ := he
                            have : q6S ts = (escS (q4S ts)).2 := by unfold q6S q5S; rw [end_bad a1]
                            rw [then_none, this]
                            exact ⟨a1, a2⟩
                          | some y =>
                            have he : escS (q4S ts) = (y, ⟨r4, f.num 0, false⟩) := he
                            have e5 : q6S ts = endS ⟨r4, f.num 0, false⟩ := by unfold q6S q5S; rw [he]
                            rw [then_some]
                            cases hD : isT kEnd r4 with
                            | false =>
                              rw [need_n hD, then_none, e5]
                              unfold endS
                              rw [take_n _ hD]
                              exact ⟨rfl, rfl⟩
                            | true =>
                              rw [need_t hD, then_some, e5]
                              unfold endS
                              rw [take_f _ hD]
                              simp only
                              cases hI : isE r4.tail with
                              | false => exact ⟨rfl, rfl⟩
                              | true =>
                                rw [hp, hr, hs, he]
                                exact ⟨rfl, rfl, rfl, rfl, rfl, rfl⟩
end Go.Proofs.YtogmhaihmkcjgaaGreatDoor.Pa
