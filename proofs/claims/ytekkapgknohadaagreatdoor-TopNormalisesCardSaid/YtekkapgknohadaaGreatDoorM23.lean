/- Normal forms of conditions, as forests. No program in sight. -/
import Derived.Test.YtekkapgknohadaaGreatDoorM22
set_option linter.unusedVariables false
namespace Go.Proofs.YtekkapgknohadaaGreatDoor.Nf
open Pa (F Nd Tx leaf)
structure Fd where
 name : ByteArray
 kind : Int
 min : Int
 max : Int
 words : List ByteArray
abbrev Look := Nd → Option Fd
def zFd : Fd := ⟨⟨#[]⟩, 0, 0, 0, []⟩
def fdOf (L : Look) (x : Nd) : Fd := (L x).getD zFd
inductive Ty where
 | num
 | word (s : ByteArray)
 | ref (l : List ByteArray)
def tyOf (L : Look) (x : Nd) : Option Ty := if x.kind = 10 then some .num else if x.kind = 11 then some (.word (bs x.name)) else (L x).map fun f => if f.kind = 0 then .num else .ref f.words
def agree : Ty → Ty → Bool
 | .num, .num => true
 | .num, _ => false
 | _, .num => false
 | .ref l, .ref m => decide (l = m)
 | .ref l, .word s => memD s l
 | .word s, .ref l => memD s l
 | .word _, .word _ => true
def Ty.isN : Ty → Bool
 | .num => true
 | _ => false
def zb8 (L : Look) (x : Nd) : Bool := (tyOf L x).isSome
def numTy (L : Look) (x : Nd) : Bool := match tyOf L x with | some t => t.isN | none => false
def agr (L : Look) (a b : Nd) : Bool := match tyOf L a, tyOf L b with | some t, some u => agree t u | _, _ => false
def vals : F → List Nd
 | .nil => []
 | .cons x _ r => x :: vals r
def firstB (L : Look) : List Nd → Bool
 | [] => true
 | a :: r => r.all (agr L a)
def condB (L : Look) (x : Nd) (vs : List Nd) : Bool :=
 if x.kind = 6 then vs.all (zb8 L) && (decide (x.num = 0 ∨ x.num = 1) || vs.all (numTy L)) && firstB L vs
 else if x.kind = 7 then vs.all (zb8 L) && vs.all (numTy L)
 else if x.kind = 8 then vs.all (zb8 L) && firstB L vs
 else true
def tyF (L : Look) : F → Bool
 | .nil => true
 | .cons x k r => condB L x (vals k) && tyF L k && tyF L r
def tru (b : Bool) : F := leaf ⟨if b then 0 else 1, 0, [], [], 0⟩
def two (a b : Nd) : F := .cons a .nil (.cons b .nil .nil)
def rel (how : Int) (a b : Nd) : F := .cons ⟨6, how, [], [], 0⟩ (two a b) .nil
def nbr (n : Int) : Nd := ⟨10, n, [], [], 0⟩
def compl (h : Int) : Int := if h = 0 then 1 else if h = 1 then 0 else if h = 2 then 5 else if h = 3 then 4 else if h = 4 then 3 else 2
def mirr (h : Int) : Int := if h = 0 then 0 else if h = 1 then 1 else if h = 2 then 4 else if h = 3 then 5 else if h = 4 then 2 else 3
def cmpB (h a b : Int) : Bool := if h = 0 then decide (a = b) else if h = 1 then decide (a ≠ b) else if h = 2 then decide (a < b) else if h = 3 then decide (a ≤ b) else if h = 4 then decide (b < a) else decide (b ≤ a)
def withB (f : Fd) (x : Nd) (lo hi : Int) : F :=
 if hi < lo then tru false else if lo = f.min ∧ hi = f.max then tru true else if lo = hi then rel 0 x (nbr lo) else .cons ⟨7, 0, [], [], 0⟩ (.cons x .nil (two (nbr lo) (nbr hi))) .nil
def within (L : Look) (x : Nd) (lo hi : Int) : F := withB (fdOf L x) x (max lo (fdOf L x).min) (min hi (fdOf L x).max)
def boundB (L : Look) (f : Fd) (how : Int) (x : Nd) (c : Int) : F :=
 if how = 0 then within L x c c
 else if how = 2 then within L x f.min (c - 1)
 else if how = 3 then within L x f.min c
 else if how = 4 then within L x (c + 1) f.max
 else if how = 5 then within L x c f.max
 else if c < f.min ∨ f.max < c then tru true
 else if f.min = f.max then tru false
 else rel 1 x (nbr c)
def bounded (L : Look) (how : Int) (x : Nd) (c : Int) : F := boundB L (fdOf L x) how x c
def always (how low high : Int) : Bool := if how = 0 then decide (low = 0 ∧ high = 0) else if how = 1 then decide (0 < low ∨ high < 0) else if how = 2 then decide (high < 0) else decide (high ≤ 0)
def never (how low high : Int) : Bool := if how = 0 then decide (0 < low ∨ high < 0) else if how = 1 then decide (low = 0 ∧ high = 0) else if how = 2 then decide (0 ≤ low) else decide (0 < low)
def numB (how : Int) (a b : Nd) (x y : Fd) : F :=
 if always how (x.min - y.max) (x.max - y.min) || never how (x.min - y.max) (x.max - y.min) then tru (always how (x.min - y.max) (x.max - y.min)) else rel how a b
def numbers (L : Look) (how : Int) (a b : Nd) : F :=
 if how = 4 ∨ how = 5 then numB (mirr how) b a (fdOf L b) (fdOf L a) else numB how a b (fdOf L a) (fdOf L b)
def valB (L : Look) (how : Int) (a b : Nd) : F :=
 if a.kind = 10 then tru (cmpB how a.num b.num)
 else if a.kind = 11 then tru (decide (a.name = b.name) == decide (how = 0))
 else if b.kind = 10 then bounded L how a b.num
 else if b.kind = 9 ∧ a.name = b.name ∧ a.attr = b.attr then tru (cmpB how 0 0)
 else if (fdOf L a).kind = 0 then numbers L how a b
 else if (fdOf L a).words.length = 1 then tru (decide (how = 0))
 else rel how a b
def values (L : Look) (how : Int) (a b : Nd) : F := if a.kind ≠ 9 ∧ b.kind = 9 then valB L (mirr how) b a else valB L how a b
def trues : F → Int
 | .nil => 0
 | .cons x _ r => (if x.kind = 0 then 1 else 0) + trues r
def rest : F → F
 | .nil => .nil
 | .cons x k r => if x.kind = 0 ∨ x.kind = 1 then rest r else .cons x k (rest r)
def opens (whole : Bool) (k : Int) (x : Nd) (ks : F) : Bool := decide (x.kind = 5) && (whole && decide (x.num = ks.len) || !whole && decide (k = 1) && decide (x.num = 1))
def flat (whole : Bool) (k : Int) : F → F
 | .nil => .nil
 | .cons x ks r => if opens whole k x ks then ks.app (flat whole k r) else .cons x ks (flat whole k r)
def gate (k : Int) (l : F) : F := .cons ⟨5, k, [], [], 0⟩ l .nil
def thrB (k : Int) (l : F) : F :=
 if k ≤ 0 then tru true else if (l.len : Int) < k then tru false else if l.len = 1 then l
 else gate (if k = l.len then ((flat (decide (k = l.len)) k l).len : Int) else k) (flat (decide (k = l.len)) k l)
def thr (k : Int) (l : F) : F := thrB (k - trues l) (rest l)
def ofT (g : Bool) (k : Int) (l : F) : F := thr (if g then l.len - k + 1 else k) l
def cmpd (L : Look) (g : Bool) (how : Int) (a b : Nd) : F := values L (if g then compl how else how) a b
def one (L : Look) (x : Nd) (vs : List Nd) (kg kn : F) (g : Bool) : F :=
 if x.kind = 0 ∨ x.kind = 1 then tru (decide (x.kind = 0) != g)
 else if x.kind = 2 then kn
 else if x.kind = 6 then (match vs with | a :: b :: _ => cmpd L g x.num a b | _ => .nil)
 else if x.kind = 7 then (match vs with
  | a :: b :: c :: _ => if g = false ∧ a.kind = 9 ∧ b.kind = 10 ∧ c.kind = 10 then within L a b.num c.num else ofT g 2 ((cmpd L g 5 a b).app (cmpd L g 3 a c))
  | _ => .nil)
 else if x.kind = 8 then (match vs with | a :: r => ofT g 1 (F.cat (r.map (cmpd L g 0 a))) | _ => .nil)
 else if x.kind = 3 then ofT g kg.len kg
 else if x.kind = 4 then ofT g 1 kg
 else ofT g x.num kg
def nrm (L : Look) : F → Bool → F
 | .nil, _ => .nil
 | .cons x k r, g => (one L x (vals k) (nrm L k g) (nrm L k !g) g).app (nrm L r g)
def arity (k n : Nat) : Bool := if k ≤ 1 then n == 0 else if k = 2 then n == 1 else if k ≤ 5 then decide (1 ≤ n) else if k = 6 then n == 2 else if k = 7 then n == 3 else if k = 8 then decide (2 ≤ n) else n == 0
def Wf : Bool → F → Prop
 | _, .nil => True
 | c, .cons x k r => (x.at_ = 0 ∧ x.kind < 12 ∧ decide (x.kind ≤ 8) = c ∧ arity x.kind k.len = true ∧ Wf (decide (x.kind ≤ 5)) k) ∧ Wf c r
def isC (x : Nd) : Prop := x.kind = 0 ∨ x.kind = 1
def NC : F → Prop
 | .nil => True
 | .cons x _ r => ¬ isC x ∧ NC r
def NO (w : Bool) (k : Int) : F → Prop
 | .nil => True
 | .cons x ks r => opens w k x ks = false ∧ NO w k r
structure Atom (L : Look) (x : Nd) (ks : F) : Prop where
 kind : x.kind = 6 ∨ x.kind = 7
 fix : one L x (vals ks) .nil .nil false = .cons x ks .nil
 cond : condB L x (vals ks) = true
 ty : tyF L ks = true
 z : F.er (.cons x ks .nil) = .cons x ks .nil
structure Gate (x : Nd) (ks : F) : Prop where
 eq : x = ⟨5, x.num, [], [], 0⟩
 lo : 1 ≤ x.num
 hi : x.num ≤ ks.len
 two : 2 ≤ ks.len
 nc : NC ks
 no : NO (decide (x.num = ks.len)) x.num ks
def NF (L : Look) : F → Prop
 | .nil => True
 | .cons x k r => ((∃ b, F.cons x k .nil = tru b) ∨ Atom L x k ∨ (Gate x k ∧ NF L k)) ∧ NF L r
theorem nf_app {L : Look} : ∀ {f g : F}, NF L f → NF L g → NF L (f.app g)
 | .nil, g, _, h => h
 | .cons x k r, g, h1, h2 => ⟨h1.1, nf_app h1.2 h2⟩
theorem nc_app : ∀ {f g : F}, NC f → NC g → NC (f.app g)
 | .nil, g, _, h => h
 | .cons x k r, g, h1, h2 => ⟨h1.1, nc_app h1.2 h2⟩
theorem no_app {w : Bool} {k : Int} : ∀ {f g : F}, NO w k f → NO w k g → NO w k (f.app g)
 | .nil, g, _, h => h
 | .cons x ks r, g, h1, h2 => ⟨h1.1, no_app h1.2 h2⟩
theorem ty_app {L : Look} : ∀ {f g : F}, tyF L (f.app g) = (tyF L f && tyF L g)
 | .nil, g => by simp [F.app, tyF]
 | .cons x k r, g => by rw [F.app, tyF, tyF, ty_app]; simp only [Bool.and_assoc]
theorem tru_nf {L : Look} (b : Bool) : NF L (tru b) := ⟨.inl ⟨b, rfl⟩, trivial⟩
theorem rest_nf {L : Look} : ∀ {l : F}, NF L l → NF L (rest l) ∧ NC (rest l)
 | .nil, _ => ⟨trivial, trivial⟩
 | .cons x k r, h => by
   obtain ⟨h1, h2⟩ := rest_nf h.2
   rw [rest]
   split
   ·exact ⟨h1, h2⟩
   ·rename_i h3
    exact ⟨⟨h.1, h1⟩, h3, h2⟩
theorem rest_nc : ∀ {l : F}, NC l → rest l = l ∧ trues l = 0
 | .nil, _ => ⟨rfl, rfl⟩
 | .cons x k r, h => by
   obtain ⟨h1, h2⟩ := rest_nc h.2
   have h3 : ¬ (x.kind = 0 ∨ x.kind = 1) := h.1
   rw [rest, if_neg h3, h1, trues, if_neg (fun e => h3 (.inl e)), h2]
   exact ⟨rfl, rfl⟩
theorem flat_no {w : Bool} {k : Int} : ∀ {l : F}, NO w k l → flat w k l = l
 | .nil, _ => rfl
 | .cons x ks r, h => by rw [flat, h.1, flat_no h.2]; rfl
theorem gate_fix {x : Nd} {ks : F} (h : Gate x ks) : thr x.num ks = .cons x ks .nil := by
 obtain ⟨h1, h2⟩ := rest_nc h.nc
 have := h.lo; have := h.hi; have := h.two
 rw [thr, h1, h2, Int.sub_zero, thrB, if_neg (by omega), if_neg (by omega), if_neg (by omega), flat_no h.no, gate]
 split
 ·rename_i e; rw [← e, ← h.eq]
 ·rw [← h.eq]
theorem nf_fix {L : Look} : ∀ {f : F}, NF L f → nrm L f false = f
 | .nil, _ => rfl
 | .cons x k r, h => by
   rw [nrm, nf_fix h.2]
   suffices hs : one L x (vals k) (nrm L k false) (nrm L k !false) false = .cons x k .nil by rw [hs]; rfl
   rcases h.1 with ⟨b, e⟩ | h1 | ⟨h1, h2⟩
   ·injection e with e1 e2 _
    subst e1 e2
    cases b <;> rfl
   ·rw [← h1.fix]
    unfold one
    rcases h1.kind with e | e <;> simp [e]
   ·have ek : x.kind = 5 := by rw [h1.eq]
    rw [nf_fix h2]
    unfold one
    simp only [ek]
    exact gate_fix h1
theorem nf_ty {L : Look} : ∀ {f : F}, NF L f → tyF L f = true
 | .nil, _ => rfl
 | .cons x k r, h => by
   rw [tyF, nf_ty h.2, Bool.and_true]
   rcases h.1 with ⟨b, e⟩ | h1 | ⟨h1, h2⟩
   ·injection e with e1 e2 _
    subst e1 e2
    cases b <;> rfl
   ·rw [h1.cond, h1.ty]; rfl
   ·have ek : x.kind = 5 := by rw [h1.eq]
    rw [nf_ty h2, Bool.and_true]
    unfold condB
    simp [ek]
theorem no_true {a b : Int} : ∀ {f : F}, NO true a f → NO true b f
 | .nil, _ => trivial
 | .cons x ks r, h => ⟨by have := h.1; simpa [opens] using this, no_true h.2⟩
theorem flat_out {L : Look} (w : Bool) (k : Int) : ∀ {l : F}, NF L l → NC l → NF L (flat w k l) ∧ NC (flat w k l) ∧ NO w k (flat w k l) ∧ l.len ≤ (flat w k l).len
 | .nil, _, _ => ⟨trivial, trivial, trivial, Nat.le_refl _⟩
 | .cons x ks r, h, hc => by
   obtain ⟨h1, h2, h3, h4⟩ := flat_out w k h.2 hc.2
   rw [flat]
   cases ho : opens w k x ks with
   | false => exact ⟨⟨h.1, h1⟩, ⟨hc.1, h2⟩, ⟨ho, h3⟩, by show r.len + 1 ≤ (flat w k r).len + 1; omega⟩
   | true =>
     have hx := ho
     simp only [opens, Bool.and_eq_true, Bool.or_eq_true, decide_eq_true_eq, Bool.not_eq_true'] at hx
     rcases h.1 with ⟨b, e⟩ | h5 | ⟨h5, h6⟩
     ·injection e with e1 _ _
      subst e1
      cases b <;> simp at hx
     ·rcases h5.kind with e | e <;> simp [e] at hx
     ·have hno : NO w k ks := by
       have := h5.no
       rcases hx.2 with ⟨a, b⟩ | ⟨⟨a, b⟩, c⟩
       ·rw [a]; rw [decide_eq_true b] at this; exact no_true this
       ·have h7 := h5.two
        rw [a, b]
        rw [decide_eq_false (by omega), c] at this
        exact this
      have h7 := h5.two
      exact ⟨nf_app h6 h1, nc_app h5.nc h2, no_app hno h3, by show _ ≤ (ks.app (flat w k r)).len; rw [F.len_app]; simp only [F.len]; omega⟩
theorem thr_nf {L : Look} (k : Int) {l : F} (h : NF L l) : NF L (thr k l) ∧ (thr k l).len = 1 := by
 obtain ⟨h1, h2⟩ := rest_nf h
 unfold thr
 generalize k - trues l = k at *
 generalize rest l = l at *
 unfold thrB
 split
 ·exact ⟨tru_nf _, rfl⟩
 ·rename_i a1
  split
  ·exact ⟨tru_nf _, rfl⟩
  ·rename_i a2
   split
   ·rename_i a3; exact ⟨h1, a3⟩
   ·rename_i a3
    obtain ⟨b1, b2, b3, b4⟩ := flat_out (decide (k = l.len)) k h1 h2
    refine ⟨⟨.inr (.inr ⟨?_, b1⟩), trivial⟩, rfl⟩
    by_cases hw : k = l.len
    ·have e : (if k = l.len then ((flat (decide (k = l.len)) k l).len : Int) else k) = ((flat (decide (k = l.len)) k l).len : Int) := if_pos hw
     refine ⟨rfl, ?_, ?_, by omega, b2, ?_⟩
     ·show 1 ≤ (if k = l.len then ((flat (decide (k = l.len)) k l).len : Int) else k)
      rw [e]; omega
     ·show (if k = l.len then ((flat (decide (k = l.len)) k l).len : Int) else k) ≤ _
      rw [e]; exact Int.le_refl _
     ·show NO (decide ((if k = l.len then ((flat (decide (k = l.len)) k l).len : Int) else k) = _)) (if k = l.len then ((flat (decide (k = l.len)) k l).len : Int) else k) _
      rw [e, decide_eq_true rfl]
      rw [decide_eq_true hw] at b3 ⊢
      exact no_true b3
    ·have e : (if k = l.len then ((flat (decide (k = l.len)) k l).len : Int) else k) = k := if_neg hw
     refine ⟨rfl, ?_, ?_, by omega, b2, ?_⟩
     ·show 1 ≤ (if k = l.len then ((flat (decide (k = l.len)) k l).len : Int) else k)
      rw [e]; omega
     ·show (if k = l.len then ((flat (decide (k = l.len)) k l).len : Int) else k) ≤ _
      rw [e]; omega
     ·show NO (decide ((if k = l.len then ((flat (decide (k = l.len)) k l).len : Int) else k) = _)) (if k = l.len then ((flat (decide (k = l.len)) k l).len : Int) else k) _
      rw [e]
      rw [decide_eq_false (by omega)]
      rw [decide_eq_false hw] at b3 ⊢
      exact b3
def isV (x : Nd) : Prop := x.at_ = 0 ∧ (x.kind = 9 ∨ x.kind = 10 ∨ x.kind = 11)
structure Pr (L : Look) (how : Int) (a b : Nd) : Prop where
 ka : isV a
 kb : isV b
 agr : agr L a b = true
 how : how = 0 ∨ how = 1 ∨ (numTy L a = true ∧ numTy L b = true)
theorem agree_symm (t u : Ty) : agree t u = agree u t := by
 cases t <;> cases u <;> simp [agree, eq_comm]
theorem agr_symm {L : Look} (a b : Nd) : agr L a b = agr L b a := by
 unfold agr
 cases tyOf L a <;> cases tyOf L b <;> simp [agree_symm]
theorem Pr.mirr {L : Look} {how : Int} {a b : Nd} (h : Pr L how a b) : Pr L (mirr how) b a := ⟨h.kb, h.ka, by rw [agr_symm]; exact h.agr, by
 rcases h.how with e | e | ⟨e1, e2⟩
 ·exact .inl (by rw [e]; rfl)
 ·exact .inr (.inl (by rw [e]; rfl))
 ·exact .inr (.inr ⟨e2, e1⟩)⟩
theorem Pr.compl {L : Look} {how : Int} {a b : Nd} (h : Pr L how a b) (g : Bool) : Pr L (if g then compl how else how) a b := ⟨h.ka, h.kb, h.agr, by
 cases g with
 | false => exact h.how
 | true =>
   rcases h.how with e | e | e
   ·exact .inr (.inl (by rw [e]; rfl))
   ·exact .inl (by rw [e]; rfl)
   ·exact .inr (.inr e)⟩
theorem ty_nbr (L : Look) (c : Int) : tyOf L (nbr c) = some .num := rfl
theorem ty_ref {L : Look} {x : Nd} (h : x.kind = 9) : tyOf L x = (L x).map fun f => if f.kind = 0 then .num else .ref f.words := by
 unfold tyOf; rw [if_neg (by omega), if_neg (by omega)]
structure NumRef (L : Look) (x : Nd) : Prop where
 at0 : x.at_ = 0
 kind : x.kind = 9
 ty : tyOf L x = some .num
theorem er_at {x : Nd} (h : x.at_ = 0) : x.er = x := by unfold Pa.Nd.er; rw [← h]
theorem er_two {n : Int} {a b : Nd} (ha : a.at_ = 0) (hb : b.at_ = 0) {k : Nat} : F.er (.cons ⟨k, n, [], [], 0⟩ (two a b) .nil) = .cons ⟨k, n, [], [], 0⟩ (two a b) .nil := by
 simp only [F.er, two, er_at ha, er_at hb]; rfl
theorem leaf_ty (L : Look) (x : Nd) (h : isV x) : condB L x [] = true := by
 unfold condB isV at *
 rw [if_neg (by omega), if_neg (by omega), if_neg (by omega)]
theorem two_ty {L : Look} {a b : Nd} (ha : isV a) (hb : isV b) : tyF L (two a b) = true := by
 simp only [two, tyF, vals, leaf_ty L a ha, leaf_ty L b hb, Bool.and_self]
theorem within_nf {L : Look} {x : Nd} (h : NumRef L x) (lo hi : Int) : NF L (within L x lo hi) ∧ (within L x lo hi).len = 1 := by
 have hx : isV x := ⟨h.at0, .inl h.kind⟩
 have h9 : tyF L (.cons x .nil .nil) = true := by simp only [tyF, vals, leaf_ty L x hx, Bool.and_self]
 unfold within withB
 generalize ef : fdOf L x = f
 split
 ·exact ⟨tru_nf _, rfl⟩
 ·split
  ·exact ⟨tru_nf _, rfl⟩
  ·split
   ·rename_i a1 a2 a3
    refine ⟨⟨.inr (.inl ⟨.inl rfl, ?_, ?_, two_ty hx ⟨rfl, .inr (.inl rfl)⟩, er_two h.at0 rfl⟩), trivial⟩, rfl⟩
    ·show values L 0 x (nbr (max lo f.min)) = _
     unfold values
     rw [if_neg (by rw [h.kind]; simp), valB, if_neg (by rw [h.kind]; decide), if_neg (by rw [h.kind]; decide), if_pos (show (nbr _).kind = 10 from rfl)]
     show within L x (max lo f.min) (max lo f.min) = _
     unfold within withB
     rw [ef, show max (max lo f.min) f.min = max lo f.min by omega, show min (max lo f.min) f.max = max lo f.min by omega, if_neg (by omega), if_neg (by omega), if_pos rfl]
     rfl
    ·show condB L ⟨6, 0, [], [], 0⟩ [x, nbr (max lo f.min)] = true
     simp [condB, zb8, h.ty, ty_nbr, firstB, agr, agree]
   ·rename_i a1 a2 a3
    refine ⟨⟨.inr (.inl ⟨.inr rfl, ?_, ?_, ?_, by simp only [F.er, two, er_at h.at0]; rfl⟩), trivial⟩, rfl⟩
    ·show (if false = false ∧ x.kind = 9 ∧ (nbr (max lo f.min)).kind = 10 ∧ (nbr (min hi f.max)).kind = 10 then within L x (nbr (max lo f.min)).num (nbr (min hi f.max)).num else _) = _
     rw [if_pos ⟨rfl, h.kind, rfl, rfl⟩]
     show within L x (max lo f.min) (min hi f.max) = _
     unfold within withB
     rw [ef, show max (max lo f.min) f.min = max lo f.min by omega, show min (min hi f.max) f.max = min hi f.max by omega, if_neg (by omega), if_neg (by omega), if_neg (by omega)]
    ·show condB L ⟨7, 0, [], [], 0⟩ [x, nbr (max lo f.min), nbr (min hi f.max)] = true
     simp [condB, zb8, numTy, Ty.isN, h.ty, ty_nbr]
    ·show (condB L x [] && tyF L .nil && tyF L (two _ _)) = true
     rw [two_ty ⟨rfl, .inr (.inl rfl)⟩ ⟨rfl, .inr (.inl rfl)⟩, leaf_ty L x hx]; rfl
theorem bounded_nf {L : Look} {x : Nd} (h : NumRef L x) (how c : Int) : NF L (bounded L how x c) ∧ (bounded L how x c).len = 1 := by
 unfold bounded boundB
 repeat' split
 all_goals first | exact within_nf h _ _ | exact ⟨tru_nf _, rfl⟩ | skip
 rename_i a0 a2 a3 a4 a5 a6 a7
 refine ⟨⟨.inr (.inl ⟨.inl rfl, ?_, ?_, two_ty ⟨h.at0, .inl h.kind⟩ ⟨rfl, .inr (.inl rfl)⟩, er_two h.at0 rfl⟩), trivial⟩, rfl⟩
 ·show values L 1 x (nbr c) = _
  unfold values
  rw [if_neg (by rw [h.kind]; simp), valB, if_neg (by rw [h.kind]; decide), if_neg (by rw [h.kind]; decide), if_pos (show (nbr _).kind = 10 from rfl)]
  show bounded L 1 x c = _
  unfold bounded boundB
  rw [if_neg (by decide), if_neg (by decide), if_neg (by decide), if_neg (by decide), if_neg (by decide), if_neg a6, if_neg a7]
  rfl
 ·show condB L ⟨6, 1, [], [], 0⟩ [x, nbr c] = true
  simp [condB, zb8, h.ty, ty_nbr, firstB, agr, agree]
theorem numB_nf {L : Look} {a b : Nd} (ha : NumRef L a) (hb : NumRef L b) (hs : ¬ (a.name = b.name ∧ a.attr = b.attr)) (hk : (fdOf L a).kind = 0) (how : Int) (hh : how ≠ 4 ∧ how ≠ 5) : NF L (numB how a b (fdOf L a) (fdOf L b)) ∧ (numB how a b (fdOf L a) (fdOf L b)).len = 1 := by
 unfold numB
 split
 ·exact ⟨tru_nf _, rfl⟩
 ·rename_i a1
  refine ⟨⟨.inr (.inl ⟨.inl rfl, ?_, ?_, two_ty ⟨ha.at0, .inl ha.kind⟩ ⟨hb.at0, .inl hb.kind⟩, er_two ha.at0 hb.at0⟩), trivial⟩, rfl⟩
  ·show values L how a b = _
   unfold values
   rw [if_neg (by rw [ha.kind]; simp), valB, if_neg (by rw [ha.kind]; decide), if_neg (by rw [ha.kind]; decide), if_neg (by rw [hb.kind]; decide), if_neg (fun e => hs e.2), if_pos hk, numbers, if_neg (by omega), numB, if_neg a1]
   rfl
  ·show condB L ⟨6, how, [], [], 0⟩ [a, b] = true
   simp [condB, zb8, numTy, Ty.isN, ha.ty, hb.ty, firstB, agr, agree]
theorem num_of {L : Look} {x : Nd} (h : x.kind = 9) (ht : tyOf L x = some .num) : (fdOf L x).kind = 0 := by
 rw [ty_ref h] at ht
 unfold fdOf
 cases hL : L x with
 | none => rw [hL] at ht; cases ht
 | some f =>
   rw [hL] at ht
   simp only [Option.map_some, Option.some.injEq] at ht
   split at ht
   ·assumption
   ·cases ht
theorem valB_nf {L : Look} {how : Int} {a b : Nd} (h : Pr L how a b) (h9 : a.kind = 9 ∨ b.kind ≠ 9) : NF L (valB L how a b) ∧ (valB L how a b).len = 1 := by
 have hr := h.agr
 unfold agr at hr
 rw [valB]
 split
 ·exact ⟨tru_nf _, rfl⟩
 ·rename_i a1
  split
  ·exact ⟨tru_nf _, rfl⟩
  ·rename_i a2
   have hk : a.kind = 9 := by have := h.ka; unfold isV at this; omega
   split
   ·rename_i a3
    refine bounded_nf ⟨h.ka.1, hk, ?_⟩ _ _
    have hb : tyOf L b = some .num := by unfold tyOf; rw [if_pos a3]
    rw [hb] at hr
    cases ha : tyOf L a with
    | none => rw [ha] at hr; cases hr
    | some t => rw [ha] at hr; cases t <;> first | rfl | cases hr
   ·rename_i a3
    split
    ·exact ⟨tru_nf _, rfl⟩
    ·rename_i a4
     split
     ·rename_i a5
      have ha : tyOf L a = some .num := by
       rw [ty_ref hk] at hr ⊢
       unfold fdOf at a5
       cases hL : L a with
       | none => rw [hL] at hr; cases hr
       | some f => rw [hL] at a5; simp only [Option.getD_some] at a5; simp [a5]
      rw [ha] at hr
      have hb : tyOf L b = some .num := by
       cases hb : tyOf L b with
       | none => rw [hb] at hr; cases hr
       | some t => rw [hb] at hr; cases t <;> first | rfl | cases hr
      have hbk : b.kind = 9 := by
       rcases h.kb.2 with e | e | e
       ·exact e
       ·exact absurd e a3
       ·unfold tyOf at hb; rw [if_neg a3, if_pos e] at hb; cases hb
      have hs : ¬ (a.name = b.name ∧ a.attr = b.attr) := fun e => a4 ⟨hbk, e⟩
      unfold numbers
      split
      ·rename_i a6
       refine numB_nf ⟨h.kb.1, hbk, hb⟩ ⟨h.ka.1, hk, ha⟩ (fun e => hs ⟨e.1.symm, e.2.symm⟩) (num_of hbk hb) _ ?_
       rcases a6 with rfl | rfl <;> decide
      ·exact numB_nf ⟨h.ka.1, hk, ha⟩ ⟨h.kb.1, hbk, hb⟩ hs a5 _ (by omega)
     ·rename_i a5
      split
      ·exact ⟨tru_nf _, rfl⟩
      ·rename_i a6
       have hn : numTy L a = false := by
        unfold numTy
        rw [ty_ref hk]
        unfold fdOf at a5
        cases hL : L a with
        | none => rfl
        | some f =>
          rw [hL] at a5
          simp only [Option.getD_some] at a5
          simp [a5, Ty.isN]
       have hw : how = 0 ∨ how = 1 := by
        rcases h.how with e | e | ⟨e, _⟩
        ·exact .inl e
        ·exact .inr e
        ·rw [hn] at e; cases e
       refine ⟨⟨.inr (.inl ⟨.inl rfl, ?_, ?_, two_ty h.ka h.kb, er_two h.ka.1 h.kb.1⟩), trivial⟩, rfl⟩
       ·show values L how a b = _
        unfold values
        rw [if_neg (by rw [hk]; simp), valB, if_neg a1, if_neg a2, if_neg a3, if_neg a4, if_neg a5, if_neg a6]
        rfl
       ·show condB L ⟨6, how, [], [], 0⟩ [a, b] = true
        have hg := h.agr
        have h1 : zb8 L a = true ∧ zb8 L b = true := by
         unfold agr at hg
         unfold zb8
         cases e1 : tyOf L a <;> cases e2 : tyOf L b <;> simp_all
        simp [condB, h1.1, h1.2, firstB, hg, hw]
theorem values_nf {L : Look} {how : Int} {a b : Nd} (h : Pr L how a b) : NF L (values L how a b) ∧ (values L how a b).len = 1 := by
 unfold values
 split
 ·rename_i e; exact valB_nf h.mirr (.inl e.2)
 ·rename_i e
  refine valB_nf h ?_
  by_cases h9 : a.kind = 9
  ·exact .inl h9
  ·exact .inr fun e2 => e ⟨h9, e2⟩
theorem cmpd_nf {L : Look} {g : Bool} {how : Int} {a b : Nd} (h : Pr L how a b) : NF L (cmpd L g how a b) ∧ (cmpd L g how a b).len = 1 := values_nf (h.compl g)
theorem ofT_nf {L : Look} (g : Bool) (k : Int) {l : F} (h : NF L l) : NF L (ofT g k l) ∧ (ofT g k l).len = 1 := thr_nf _ h
theorem cat_nf {L : Look} {t : Nd → F} : ∀ {l : List Nd}, (∀ x ∈ l, NF L (t x)) → NF L (F.cat (l.map t))
 | [], _ => trivial
 | x :: l, h => nf_app (h x (List.mem_cons_self ..)) (cat_nf fun y hy => h y (List.mem_cons_of_mem _ hy))
theorem wf_vals : ∀ {f : F}, Wf false f → ∀ x ∈ vals f, isV x
 | .nil, _, x, h => by cases h
 | .cons y k r, hw, x, h => by
   rcases List.mem_cons.1 h with rfl | h
   ·have h0 := hw.1.1
    have h1 := hw.1.2.1
    have h2 := hw.1.2.2.1
    simp only [decide_eq_false_iff_not] at h2
    unfold isV; omega
   ·exact wf_vals hw.2 x h
theorem zcj : ∀ (f : F), (vals f).length = f.len
 | .nil => rfl
 | .cons x k r => by rw [vals, List.length_cons, zcj r]; rfl
theorem pr_num {L : Look} {a b : Nd} (ha : isV a) (hb : isV b) (h1 : numTy L a = true) (h2 : numTy L b = true) (how : Int) : Pr L how a b := ⟨ha, hb, (by
 unfold numTy at h1 h2
 unfold agr
 cases e1 : tyOf L a with
 | none => rw [e1] at h1; cases h1
 | some t =>
   cases e2 : tyOf L b with
   | none => rw [e2] at h2; cases h2
   | some u =>
     rw [e1] at h1; rw [e2] at h2
     cases t <;> cases u <;> first | rfl | (cases h1; done) | (cases h2; done)), .inr (.inr ⟨h1, h2⟩)⟩
theorem one_nf {L : Look} {x : Nd} {k : F} {g : Bool} (hx : x.kind ≤ 8) (ha : arity x.kind k.len = true) (hv : 6 ≤ x.kind → Wf false k) (hc : condB L x (vals k) = true) {kg kn : F} (h1 : x.kind ≤ 5 → NF L kg) (h2 : x.kind ≤ 5 → NF L kn ∧ kn.len = k.len) : NF L (one L x (vals k) kg kn g) ∧ (one L x (vals k) kg kn g).len = 1 := by
 unfold one
 split
 ·exact ⟨tru_nf _, rfl⟩
 ·rename_i a0
  split
  ·rename_i a2
   refine ⟨(h2 (by omega)).1, ?_⟩
   rw [(h2 (by omega)).2]
   rw [a2] at ha
   simpa [arity] using ha
  ·rename_i a2
   split
   ·rename_i a6
    have hw := wf_vals (hv (by omega))
    have hl := zcj k
    rw [a6] at ha
    simp only [arity] at ha
    simp at ha
    rw [ha] at hl
    revert hc hw
    obtain ⟨a, b, e⟩ : ∃ a b, vals k = [a, b] := by
     match h : vals k, hl with
     | [a, b], _ => exact ⟨a, b, rfl⟩
    rw [e]
    intro hc hw
    have ia := hw a (by simp)
    have ib := hw b (by simp)
    simp only [condB, if_pos a6, List.all_cons, List.all_nil, firstB, Bool.and_true, Bool.and_eq_true, Bool.or_eq_true, decide_eq_true_eq] at hc
    refine cmpd_nf ⟨ia, ib, hc.2, ?_⟩
    rcases hc.1.2 with e | e
    ·rcases e with e | e
     ·exact .inl e
     ·exact .inr (.inl e)
    ·exact .inr (.inr e)
   ·rename_i a6
    split
    ·rename_i a7
     have hw := wf_vals (hv (by omega))
     have hl := zcj k
     rw [a7] at ha
     simp only [arity] at ha
     simp at ha
     rw [ha] at hl
     revert hc hw
     obtain ⟨a, b, c, e⟩ : ∃ a b c, vals k = [a, b, c] := by
      match h : vals k, hl with
      | [a, b, c], _ => exact ⟨a, b, c, rfl⟩
     rw [e]
     intro hc hw
     have ia := hw a (by simp)
     have ib := hw b (by simp)
     have ic := hw c (by simp)
     simp only [condB, if_neg a6, if_pos a7, List.all_cons, List.all_nil, Bool.and_true, Bool.and_eq_true] at hc
     obtain ⟨_, n1, n2, n3⟩ := hc
     show NF L (if g = false ∧ a.kind = 9 ∧ b.kind = 10 ∧ c.kind = 10 then within L a b.num c.num else ofT g 2 ((cmpd L g 5 a b).app (cmpd L g 3 a c))) ∧ (if g = false ∧ a.kind = 9 ∧ b.kind = 10 ∧ c.kind = 10 then within L a b.num c.num else ofT g 2 ((cmpd L g 5 a b).app (cmpd L g 3 a c))).len = 1
     split
     ·rename_i e2
      refine within_nf ⟨ia.1, e2.2.1, ?_⟩ _ _
      unfold numTy at n1
      cases e1 : tyOf L a with
      | none => rw [e1] at n1; cases n1
      | some t => rw [e1] at n1; cases t <;> first | rfl | cases n1
     ·exact ofT_nf _ _ (nf_app (cmpd_nf (pr_num ia ib n1 n2 5)).1 (cmpd_nf (pr_num ia ic n1 n3 3)).1)
    ·rename_i a7
     split
     ·rename_i a8
      have hw := wf_vals (hv (by omega))
      have hl := zcj k
      rw [a8] at ha
      simp only [arity] at ha
      simp at ha
      revert hc hw
      cases e : vals k with
      | nil => rw [e] at hl; simp at hl; omega
      | cons a r =>
        intro hc hw
        simp only [condB, if_neg a6, if_neg a7, if_pos a8, firstB, Bool.and_eq_true] at hc
        refine ofT_nf _ _ (cat_nf fun y hy => (cmpd_nf ⟨hw a (by simp), hw y (by simp [hy]), ?_, .inl rfl⟩).1)
        exact List.all_eq_true.1 hc.2 y hy
     ·rename_i a8
      split
      ·exact ofT_nf _ _ (h1 (by omega))
      ·split
       ·exact ofT_nf _ _ (h1 (by omega))
       ·exact ofT_nf _ _ (h1 (by omega))
theorem nrm_nf {L : Look} : ∀ {f : F} (g : Bool), tyF L f = true → Wf true f → NF L (nrm L f g) ∧ (nrm L f g).len = f.len
 | .nil, g, _, _ => ⟨trivial, rfl⟩
 | .cons x k r, g, ht, hw => by
   rw [tyF, Bool.and_eq_true, Bool.and_eq_true] at ht
   obtain ⟨⟨-, w1, w2, w3, w4⟩, w5⟩ := hw
   have hx : x.kind ≤ 8 := by simpa using w2
   obtain ⟨r1, r2⟩ := nrm_nf (f := r) g ht.2 w5
   have hk : x.kind ≤ 5 → ∀ g, NF L (nrm L k g) ∧ (nrm L k g).len = k.len := fun h g => nrm_nf (f := k) g ht.1.2 (by rw [decide_eq_true h] at w4; exact w4)
   obtain ⟨o1, o2⟩ := one_nf (g := g) hx w3 (fun h => by rw [decide_eq_false (by omega)] at w4; exact w4) ht.1.1 (fun h => (hk h g).1) (fun h => hk h !g)
   rw [nrm]
   exact ⟨nf_app o1 r1, by rw [F.len_app, o2, r2]; simp only [F.len]; omega⟩
theorem nf_er {L : Look} : ∀ {f : F}, NF L f → f.er = f
 | .nil, _ => rfl
 | .cons x k r, h => by
   suffices hs : F.er (.cons x k .nil) = .cons x k .nil by
    injection hs with e1 e2 _
    rw [F.er, e1, e2, nf_er h.2]
   rcases h.1 with ⟨b, e⟩ | h1 | ⟨h1, h2⟩
   ·rw [e]; cases b <;> rfl
   ·exact h1.z
   ·rw [F.er, nf_er h2, h1.eq]; rfl
theorem nrm_twice {L : Look} {f : F} {g : Bool} (ht : tyF L f = true) (hw : Wf true f) : nrm L (nrm L f g) false = nrm L f g ∧ tyF L (nrm L f g) = true := ⟨nf_fix (nrm_nf g ht hw).1, nf_ty (nrm_nf g ht hw).1⟩
structure Sm where
 name : ByteArray
 fields : List Fd
def zba (S : List Sm) (s : ByteArray) : Option Sm := S.find? fun m => decide (m.name = s)
def findS (S : List Sm) (U : List Bp) (a t : ByteArray) : Option Fd := match U.find? (fun u => decide (u.1 = a)) with
 | none => none
 | some u => match zba S u.2 with
   | none => none
   | some m => m.fields.find? fun f => decide (f.name = t)
def lookS (S : List Sm) (U : List Bp) : Look := fun x => findS S U (bs x.name) (bs x.attr)
def distL : List Sm → List Sm → Bool
 | _, [] => true
 | P, m :: r => (zba P m.name).isNone && distL (P ++ [m]) r
def za9 (C : Sm → Bool) (S : List Sm) (d : Po) : Bool := decide (checkP d = 0) && S.all C && distL [] S && d.uses.all fun u => (zba S u.2).isSome
def treeD (d : Po) : F := Pa.treeN d.nodes 32 d.root
def zb7 (C : Sm → Bool) (S : List Sm) (d : Po) : Bool := za9 C S d && d.reveal.all (fun r => (findS S d.uses r.1 r.2).isSome) && tyF (lookS S d.uses) (treeD d)
def outP (S : List Sm) (d : Po) : Po := ⟨d.name, d.uses, d.reveal, ((nrm (lookS S d.uses) (treeD d) false).num 0).map nkOf, 0, d.scope, d.limit, d.escrow⟩
def ofP (C : Sm → Bool) (S : List Sm) (d : Po) : Option Po := if zb7 C S d = true ∧ checkP (outP S d) = 0 then some (outP S d) else none
theorem same_tree (ns ms : List Nk) : ∀ f i k, sameN ns ms f i k = true → Pa.treeN ns f i = Pa.treeN ms f k
 | 0, i, k, h => by cases h
 | f + 1, i, k, h => by
   rw [sameN] at h
   cases hx : ns[i.toNat]? with
   | none => rw [hx] at h; cases h
   | some x =>
     cases hy : ms[k.toNat]? with
     | none => rw [hx, hy] at h; cases h
     | some y =>
       rw [hx, hy] at h
       simp only [Bool.and_eq_true, eqN, decide_eq_true_eq] at h
       obtain ⟨⟨⟨⟨e1, e2⟩, e3⟩, e4⟩, e5⟩ := h
       rw [Pa.treeN_in hx, Pa.treeN_in hy, e1, e2, e3, e4, each_map (fun a b h => same_tree ns ms f a b h) e5]
theorem of_same {C : Sm → Bool} {S : List Sm} {a b : Po} (h : sameP a b = true) : ofP C S a = ofP C S b := by
 unfold sameP at h
 simp only [Bool.and_eq_true, decide_eq_true_eq] at h
 obtain ⟨⟨⟨⟨⟨⟨⟨⟨c1, c2⟩, e1⟩, e2⟩, e3⟩, e4⟩, e5⟩, e6⟩, e7⟩ := h
 have ht : treeD a = treeD b := same_tree _ _ _ _ _ e7
 have ho : outP S a = outP S b := by unfold outP; rw [e1, e2, e3, e4, e5, e6, ht]
 unfold ofP
 have hd : zb7 C S a = zb7 C S b := by unfold zb7 za9; rw [c1, c2, e5, e6, ht]
 rw [hd, ho]
theorem arity_of {n : Nk} {m : Nat} (h0 : 0 ≤ n.kind) (h : kidsP n.kind m = true) : arity n.kind.toNat m = true := by
 unfold kidsP at h
 unfold arity
 repeat' split at h
 all_goals repeat' split
 all_goals first | omega | (simp only [beq_iff_eq] at *; omega) | cases h
theorem wf_app {c : Bool} : ∀ {f g : F}, Wf c f → Wf c g → Wf c (f.app g)
 | .nil, g, _, h => h
 | .cons x k r, g, h1, h2 => ⟨h1.1, wf_app h1.2 h2⟩
theorem wf_cat {c : Bool} {t : Int → F} : ∀ {l : List Int}, (∀ x ∈ l, Wf c (t x)) → Wf c (F.cat (l.map t))
 | [], _ => trivial
 | x :: l, h => wf_app (h x (List.mem_cons_self ..)) (wf_cat fun y hy => h y (List.mem_cons_of_mem _ hy))
theorem tree_wfF (ns : List Nk) : ∀ (f : Nat) (c : Bool) (a : Int), Pa.VN ns f c a → Wf c (Pa.treeN ns f a)
 | 0, c, a, h => h.elim
 | f + 1, c, a, h => by
   obtain ⟨n, hn, hf, hk⟩ := h
   have hF := Pa.form_fm hf
   have h0 := hF.lo
   have h1 := hF.hi
   have hl := cat_len (fun x hx => hk x hx)
   rw [Pa.treeN_in hn]
   refine ⟨⟨rfl, ?_, ?_, ?_, ?_⟩, trivial⟩
   ·show n.kind.toNat < 12; omega
   ·rw [← hF.ctx]
    show decide (n.kind.toNat ≤ 8) = _
    rw [decide_eq_decide]; omega
   ·show arity n.kind.toNat _ = true
    rw [hl]; exact arity_of h0 hF.kids
   ·show Wf (decide (n.kind.toNat ≤ 5)) _
    rw [show decide (n.kind.toNat ≤ 5) = decide (n.kind ≤ 5) by rw [decide_eq_decide]; omega]
    exact wf_cat fun x hx => tree_wfF ns f _ x (hk x hx)
theorem tree_num (ms : List Nk) : ∀ (f : Nat) (g : F) (c : Bool) (k : Nat), Holds ms g k → (∀ x ∈ g.idx k, Pa.VN ms f c (x : Int)) → F.cat ((g.idx k).map fun (x : Nat) => Pa.treeN ms f (x : Int)) = g.er := by
 intro f g
 induction g generalizing f with
 | nil => intro c k _ _; rfl
 | cons n k1 r ih1 ih2 =>
   intro c k hH hv
   obtain ⟨h0, h1, h2⟩ := hH.cons
   rw [F.idx, List.map_cons, F.cat, ih2 f c _ h2 (fun x hx => hv x (List.mem_cons_of_mem _ hx))]
   cases f with
   | zero => exact (hv k (List.mem_cons_self ..)).elim
   | succ f =>
     obtain ⟨m, hm, -, hk⟩ := hv k (List.mem_cons_self ..)
     have hm2 : ms[((k : Nat) : Int).toNat]? = some m := hm
     rw [Int.toNat_natCast, h0] at hm2
     obtain rfl := Option.some.inj hm2
     have e := ih1 f _ _ h1 (fun x hx => hk _ (List.mem_map.2 ⟨x, hx, rfl⟩))
     rw [Pa.treeN_in hm]
     show F.cons ⟨n.kind, n.num, tl (bs n.name), tl (bs n.attr), 0⟩ (F.cat (((k1.idx (k + 1)).map fun (n : Nat) => (n : Int)).map (Pa.treeN ms f))) r.er = F.cons n.er k1.er r.er
     rw [List.map_map, tl_bs, tl_bs, ← e]
     rfl
theorem out_tree {C : Sm → Bool} {S : List Sm} {d : Po} (ht : zb7 C S d = true) (ho : checkP (outP S d) = 0) : treeD (outP S d) = nrm (lookS S d.uses) (treeD d) false ∧ tyF (lookS S d.uses) (treeD (outP S d)) = true ∧ nrm (lookS S d.uses) (treeD (outP S d)) false = nrm (lookS S d.uses) (treeD d) false := by
 unfold zb7 za9 at ht
 simp only [Bool.and_eq_true, decide_eq_true_eq] at ht
 have hv := Pa.tree_vn ht.1.1.1.1.1
 have hw := tree_wfF _ _ _ _ hv
 have hN := nrm_nf (L := lookS S d.uses) false ht.2 hw
 obtain ⟨a1, a2⟩ := nrm_twice (L := lookS S d.uses) (g := false) ht.2 hw
 have hl : (treeD d).len = 1 := by
  have := cat_len (ns := d.nodes) (f := 32) (c := true) (l := [d.root]) (fun x hx => by rw [List.mem_singleton.1 hx]; exact hv)
  simp only [List.map_cons, List.map_nil, F.cat, F.app_nil, List.length_singleton] at this
  exact this
 have hv2 := Pa.tree_vn ho
 have e : treeD (outP S d) = nrm (lookS S d.uses) (treeD d) false := by
  have hH : Holds (outP S d).nodes (nrm (lookS S d.uses) (treeD d) false) 0 := fun i x hx => by
   show (List.map nkOf _)[0 + i]? = _
   rw [Nat.zero_add, List.getElem?_map, hx]; rfl
  have hl2 := hN.2.trans hl
  have hix := F.idx_len (nrm (lookS S d.uses) (treeD d) false) 0
  have hee := nf_er hN.1
  show Pa.treeN (outP S d).nodes 32 0 = _
  generalize hg : nrm (lookS S d.uses) (treeD d) false = g at *
  cases g with
  | nil => cases hl2
  | cons n k r =>
    cases r with
    | cons _ _ _ => simp [F.len] at hl2
    | nil =>
      have := tree_num (outP S d).nodes 32 _ true 0 hH (fun x hx => by
       simp only [F.idx, List.mem_singleton] at hx
       subst hx; exact hv2)
      simp only [F.idx, List.map_cons, List.map_nil, F.cat, F.app_nil] at this
      exact this.trans hee
 exact ⟨e, by rw [e]; exact a2, by rw [e]; exact a1⟩
theorem of_twice {C : Sm → Bool} {S : List Sm} {d n : Po} (h : ofP C S d = some n) : ofP C S n = some n ∧ checkP n = 0 := by
 unfold ofP at h
 split at h
 ·rename_i hc
  obtain rfl := Option.some.inj h
  obtain ⟨e1, e2, e3⟩ := out_tree hc.1 hc.2
  have ht := hc.1
  unfold zb7 za9 at ht
  simp only [Bool.and_eq_true, decide_eq_true_eq] at ht
  have ho : outP S (outP S d) = outP S d := by
   unfold outP at e3 ⊢
   rw [e3]
  refine ⟨?_, hc.2⟩
  have h2 : zb7 C S (outP S d) = true := by
   unfold zb7 za9
   simp only [Bool.and_eq_true, decide_eq_true_eq]
   exact ⟨⟨⟨⟨⟨hc.2, ht.1.1.1.1.2⟩, ht.1.1.1.2⟩, ht.1.1.2⟩, ht.1.2⟩, e2⟩
  unfold ofP
  rw [h2, ho, if_pos ⟨rfl, hc.2⟩]
 ·cases h
open Pa (F Nd Tx leaf)
theorem zcz (b : Bool) : (tru b).size = 1 := rfl
theorem rel_size (h : Int) (a b : Nd) : (rel h a b).size = 3 := rfl
theorem withB_size (f : Fd) (x : Nd) (lo hi : Int) : (withB f x lo hi).size ≤ 4 := by
 unfold withB
 repeat' split
 all_goals first | (rw [zcz]; omega) | (rw [rel_size]; omega) | exact Nat.le_refl 4
theorem within_size (L : Look) (x : Nd) (lo hi : Int) : (within L x lo hi).size ≤ 4 := withB_size _ _ _ _
theorem bounded_size (L : Look) (h : Int) (x : Nd) (c : Int) : (bounded L h x c).size ≤ 4 := by
 unfold bounded boundB
 repeat' split
 all_goals first | exact within_size _ _ _ _ | (rw [zcz]; omega) | (rw [rel_size]; omega)
theorem numB_size (h : Int) (a b : Nd) (x y : Fd) : (numB h a b x y).size ≤ 4 := by
 unfold numB
 split
 ·rw [zcz]; omega
 ·rw [rel_size]; omega
theorem numbers_size (L : Look) (h : Int) (a b : Nd) : (numbers L h a b).size ≤ 4 := by
 unfold numbers
 split <;> exact numB_size _ _ _ _ _
theorem valB_size (L : Look) (h : Int) (a b : Nd) : (valB L h a b).size ≤ 4 := by
 unfold valB
 repeat' split
 all_goals first | exact bounded_size _ _ _ _ | exact numbers_size _ _ _ _ | (rw [zcz]; omega) | (rw [rel_size]; omega)
theorem values_size (L : Look) (h : Int) (a b : Nd) : (values L h a b).size ≤ 4 := by
 unfold values
 split <;> exact valB_size _ _ _ _
theorem zcg (L : Look) (g : Bool) (h : Int) (a b : Nd) : (cmpd L g h a b).size ≤ 4 := values_size _ _ _ _
theorem rest_size : ∀ (l : F), (rest l).size ≤ l.size
 | .nil => Nat.le_refl _
 | .cons x k r => by
   have := rest_size r
   rw [rest]
   split
   ·simp only [F.size]; omega
   ·simp only [F.size]; omega
theorem flat_size (w : Bool) (k : Int) : ∀ (l : F), (flat w k l).size ≤ l.size
 | .nil => Nat.le_refl _
 | .cons x ks r => by
   have := flat_size w k r
   rw [flat]
   split
   ·rw [F.size_app]; simp only [F.size]; omega
   ·simp only [F.size]; omega
theorem thr_size (k : Int) (l : F) : (thr k l).size ≤ l.size + 1 := by
 have h1 := rest_size l
 unfold thr
 generalize k - trues l = k at *
 generalize rest l = r at *
 unfold thrB
 split
 ·rw [zcz]; omega
 ·split
  ·rw [zcz]; omega
  ·split
   ·omega
   ·have h2 := flat_size (decide (k = r.len)) k r
    unfold gate
    simp only [F.size]
    omega
theorem zda {t : Nd → F} (h : ∀ x, (t x).size ≤ 4) : ∀ (l : List Nd), (F.cat (l.map t)).size ≤ 4 * l.length
 | [] => Nat.le_refl _
 | x :: l => by
   have h1 := zda h l
   have h2 := h x
   rw [List.map_cons, F.cat, F.size_app, List.length_cons]; omega
theorem one_size (L : Look) (x : Nd) (vs : List Nd) (kg kn : F) (g : Bool) (m : Nat) (h1 : kg.size ≤ 4 * m) (h2 : kn.size ≤ 4 * m) (h3 : vs.length ≤ m) : (one L x vs kg kn g).size ≤ 4 * (m + 1) := by
 unfold one
 split
 ·rw [zcz]; omega
 ·split
  ·omega
  ·split
   ·split
    ·rename_i a b t
     have := zcg L g x.num a b
     omega
    ·simp only [F.size]; omega
   ·split
    ·split
     ·rename_i a b c t
      split
      ·have := within_size L a b.num c.num
       omega
      ·have e1 := zcg L g 5 a b
       have e2 := zcg L g 3 a c
       have e3 := thr_size (if g then (((cmpd L g 5 a b).app (cmpd L g 3 a c)).len : Int) - 2 + 1 else 2) ((cmpd L g 5 a b).app (cmpd L g 3 a c))
       rw [F.size_app] at e3
       simp only [List.length_cons] at h3
       unfold ofT
       omega
     ·simp only [F.size]; omega
    ·split
     ·split
      ·rename_i a r
       have e1 := zda (t := cmpd L g 0 a) (fun y => zcg L g 0 a y) r
       have e3 := thr_size (if g then ((F.cat (r.map (cmpd L g 0 a))).len : Int) - 1 + 1 else 1) (F.cat (r.map (cmpd L g 0 a)))
       simp only [List.length_cons] at h3
       unfold ofT
       omega
      ·simp only [F.size]; omega
     ·repeat' split
      all_goals
       unfold ofT
       refine Nat.le_trans (thr_size _ _) ?_
       omega
theorem nrm_size (L : Look) : ∀ (f : F) (g : Bool), (nrm L f g).size ≤ 4 * f.size
 | .nil, g => Nat.le_refl _
 | .cons x k r, g => by
   have h1 := nrm_size L r g
   have h2 := one_size L x (vals k) (nrm L k g) (nrm L k !g) g k.size (nrm_size L k g) (nrm_size L k !g) (by rw [zcj]; exact Pa.F.len_size k)
   rw [nrm, F.size_app]
   simp only [F.size]
   omega
open Pa (F Nd Tx leaf)
section
variable {p : Nd → Prop} (hz : ∀ k n, p ⟨k, n, [], [], 0⟩)
include hz
theorem tru_ev (b : Bool) : (tru b).Ev p := ⟨hz _ _, trivial, trivial⟩
theorem rel_ev {h : Int} {a b : Nd} (ha : p a) (hb : p b) : (rel h a b).Ev p := ⟨hz _ _, ⟨ha, trivial, hb, trivial, trivial⟩, trivial⟩
theorem nbr_ev (n : Int) : p (nbr n) := hz _ _
theorem withB_ev {f : Fd} {x : Nd} (hx : p x) (lo hi : Int) : (withB f x lo hi).Ev p := by
 unfold withB
 repeat' split
 all_goals first | exact tru_ev hz _ | exact rel_ev hz hx (nbr_ev hz _) | exact ⟨hz _ _, ⟨hx, trivial, nbr_ev hz _, trivial, nbr_ev hz _, trivial, trivial⟩, trivial⟩
theorem bounded_ev {L : Look} {x : Nd} (hx : p x) (h c : Int) : (bounded L h x c).Ev p := by
 unfold bounded boundB
 repeat' split
 all_goals first | exact withB_ev hz hx _ _ | exact tru_ev hz _ | exact rel_ev hz hx (nbr_ev hz _)
theorem numbers_ev {L : Look} {a b : Nd} (ha : p a) (hb : p b) (h : Int) : (numbers L h a b).Ev p := by
 unfold numbers numB
 repeat' split
 all_goals first | exact tru_ev hz _ | exact rel_ev hz ha hb | exact rel_ev hz hb ha
theorem valB_ev {L : Look} {a b : Nd} (ha : p a) (hb : p b) (h : Int) : (valB L h a b).Ev p := by
 unfold valB
 repeat' split
 all_goals first | exact bounded_ev hz ha _ _ | exact numbers_ev hz ha hb _ | exact tru_ev hz _ | exact rel_ev hz ha hb
theorem values_ev {L : Look} {a b : Nd} (ha : p a) (hb : p b) (h : Int) : (values L h a b).Ev p := by
 unfold values
 split
 ·exact valB_ev hz hb ha _
 ·exact valB_ev hz ha hb _
omit hz in
theorem rest_ev : ∀ {l : F}, l.Ev p → (rest l).Ev p
 | .nil, _ => trivial
 | .cons x k r, h => by
   rw [rest]
   split
   ·exact rest_ev h.2.2
   ·exact ⟨h.1, h.2.1, rest_ev h.2.2⟩
omit hz in
theorem flat_ev (w : Bool) (k : Int) : ∀ {l : F}, l.Ev p → (flat w k l).Ev p
 | .nil, _ => trivial
 | .cons x ks r, h => by
   rw [flat]
   split
   ·exact F.ev_app h.2.1 (flat_ev w k h.2.2)
   ·exact ⟨h.1, h.2.1, flat_ev w k h.2.2⟩
theorem thr_ev (k : Int) {l : F} (h : l.Ev p) : (thr k l).Ev p := by
 have h1 := rest_ev h
 unfold thr
 generalize k - trues l = k at *
 generalize rest l = r at *
 unfold thrB
 repeat' split
 all_goals first | exact tru_ev hz _ | exact h1 | exact ⟨hz _ _, flat_ev _ _ h1, trivial⟩
omit hz in
theorem vals_ev : ∀ {f : F}, f.Ev p → ∀ x ∈ vals f, p x
 | .nil, _, x, h => by cases h
 | .cons y k r, hf, x, h => by
   rcases List.mem_cons.1 h with rfl | h
   ·exact hf.1
   ·exact vals_ev hf.2.2 x h
theorem one_ev {L : Look} {x : Nd} {vs : List Nd} {kg kn : F} {g : Bool} (hv : ∀ x ∈ vs, p x) (h1 : kg.Ev p) (h2 : kn.Ev p) : (one L x vs kg kn g).Ev p := by
 unfold one
 split
 ·exact tru_ev hz _
 ·split
  ·exact h2
  ·split
   ·split
    ·exact values_ev hz (hv _ (by simp)) (hv _ (by simp)) _
    ·trivial
   ·split
    ·split
     ·split
      ·exact withB_ev hz (hv _ (by simp)) _ _
      ·exact thr_ev hz _ (F.ev_app (values_ev hz (hv _ (by simp)) (hv _ (by simp)) _) (values_ev hz (hv _ (by simp)) (hv _ (by simp)) _))
     ·trivial
    ·split
     ·split
      ·rename_i a r
       refine thr_ev hz _ (F.ev_cat fun f hf => ?_)
       obtain ⟨y, hy, rfl⟩ := List.mem_map.1 hf
       exact values_ev hz (hv _ (by simp)) (hv _ (by simp [hy])) _
      ·trivial
     ·repeat' split
      all_goals exact thr_ev hz _ h1
theorem nrm_ev {L : Look} : ∀ {f : F} (g : Bool), f.Ev p → (nrm L f g).Ev p
 | .nil, _, _ => trivial
 | .cons x k r, g, h => by
   rw [nrm]
   exact F.ev_app (one_ev hz (vals_ev h.2.1) (nrm_ev g h.2.1) (nrm_ev (!g) h.2.1)) (nrm_ev g h.2.2)
end
end Go.Proofs.YtekkapgknohadaaGreatDoor.Nf
