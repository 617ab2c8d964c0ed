/- Natural numbers as lists of bytes, the most significant first: the value of a list, the canonical list of a number, their laws. Plain Lean: no program in sig -/
import Derived.Test.YtekkapgknohadaaGreatDoorRows
import Derived.WalkKit
import Derived.ProofKit
import Derived.OpenShut
import Derived.ShutString
import Derived.ChangeOld
import Derived.Below
import Derived.Carry
import Derived.WalkSpells
import Derived.WalkLawsBesides
import Derived.Lib.Hide
import Derived.IntWalk
import Derived.Shelf.Strings.Builder1
import Derived.Shelf.Strings.Trim
import Derived.Shelf.Small.Strs
import Derived.Shelf.Strings.BuilderF
import Derived.Shelf.Strings.BuilderK
import Derived.Shelf.Strconv.Atoi
import Derived.Shelf.Strconv.Itoa0
import Derived.Shelf.Strconv.Itoa1
import Derived.Shelf.LaysM
import Derived.Shelf.Strconv.Itoa2
import Derived.Shelf.Strconv.Itoa3
import Derived.Shelf.Strconv.AtoiErrFast
import Derived.Shelf.Strconv.ParseIntEmpty
import Derived.Shelf.Strconv.AtoiFail
import Derived.Shelf.Strconv.Clone
import Derived.Shelf.Strconv.SyntaxError
import Derived.Shelf.LaysC
import Derived.Shelf.Strconv.ToError
import Derived.Shelf.Strconv.AtoiErr
import Derived.Shelf.Strconv.ErrVar
import Derived.Shelf.Strconv.Lower
import Derived.Shelf.Strconv.ParseUint10
import Derived.Shelf.Strconv.ParseUint10Empty
import Derived.Shelf.Strconv.ParseUint10Any
import Derived.Shelf.Strconv.ParseInt10
import Derived.Shelf.Strconv.AtoiLong
import Derived.Shelf.Strconv.AtoiInnerAll
import Derived.Shelf.Strconv.RangeError
import Derived.Shelf.Strconv.ToErrorRange
import Derived.Shelf.Strconv.AtoiAll
import Derived.Shelf.Strconv.ErrVarAll
import Derived.Shelf.Strings.Prefix
import Derived.Shelf.Slices.Turned
import Derived.Shelf.Slices.Equal
import Derived.Ground.Names2Prog
import Derived.Shelf.Slices.Clone
import Derived.Shelf.Slices.Empties2
import Derived.Test.YtekkapgknohadaaGreatDoorProg
set_option linter.unusedVariables false
namespace Dm
def val (l : List UInt8) : Nat := l.foldl (fun a c => a * 256 + c.toNat) 0
def be (f : Nat → UInt8) : Nat → List UInt8
 | 0 => []
 | m + 1 => f m :: be f m
def dig (l : List UInt8) (i : Nat) : UInt8 := if i < l.length then l.getD (l.length - 1 - i) 0 else 0
def colsum (c : Nat → Nat) : Nat → Nat
 | 0 => 0
 | k + 1 => colsum c k + c k * 256 ^ k
def low (l : List UInt8) (k : Nat) : Nat := colsum (fun i => (dig l i).toNat) k
end Dm
namespace Go.Proofs.YtekkapgknohadaaGreatDoor
open Go.ChangeShapes Go.WideShapes Go.ChangeAt Go.RowKit
open Go.ChangeShapes Go.WideShapes Go.ChangeAt Go.RowKit
theorem trodAll_stays {H : Type} {enc : TypeId × Value → H} {P : Program} (hl : laidOutB P = true) {W W' : World} (hb : Below W.heap.size W W') {sp : Nat → Bool} :
 ∀ {ts : List TypeId} {vs : List Value} {ds : List (DataW H)} {ps : List MemPlace}, (∀ t ∈ ts, P.readableRec t = true ∧ t < P.types.size) → DataW.TrodAll enc P W 0 (fun _ => true) true ts vs ds ps → (∀ x ∈ ps, x.block < W.heap.size) → (∀ x ∈ ps, sp x.block = true) → DataW.TrodAll enc P W' 0 sp true ts vs ds ps
 | [], _, _, _, _, h, _, _ => by
   obtain ⟨rfl, rfl, rfl⟩ := trodAll_nil h
   exact rfl
 | t :: ts, _, _, _, ht, h, h1, h2 => by
   obtain ⟨v, vs', d, ds', a, b, rfl, rfl, rfl, h3, h4⟩ := trodAll_cons h
   obtain ⟨q1, q2⟩ := ht t (List.mem_cons_self ..)
   exact ⟨a, b, WideElems.Trod_stays hl q1 q2 h3 (fun x hx => hb.same (h1 x (List.mem_append_left _ hx))) (fun x hx => h2 x (List.mem_append_left _ hx)),
    trodAll_stays hl hb (fun u hu => ht u (List.mem_cons_of_mem _ hu)) h4 (fun x hx => h1 x (List.mem_append_right _ hx)) (fun x hx => h2 x (List.mem_append_right _ hx)), rfl⟩
theorem post_below {H : Type} {enc : TypeId × Value → H} {P : Program} {f : Func} {s : ChangeSpec} {apart fresh handsOn again : Bool} {W W' : World} {args : Array Value} {v : Value} {ds : List (DataW H)} {before : List MemPlace}
 (hl : laidOutB P = true) (hts : ∀ t ∈ f.params.toList, P.readableRec t = true ∧ t < P.types.size)
 (hW : DataW.Whole enc P f.params.toList s.vars apart W args.toList ds [] before) (hvn : s.vars = [])
 (hres : ∀ (b : Nat) (sp : Nat → Bool) (hd : Bool), DataW.TrodAll enc P W' b sp hd f.resultTypes.toList (v.resultList f.resultTypes.size) (s.fn H (ds ++ [])).results [])
 (hargs : (s.fn H (ds ++ [])).args = ds) (hvars : (s.fn H (ds ++ [])).vars = [])
 (hb : Below W.heap.size W W')
 (hok : ∀ (j : Nat) (t : TypeId) (r : Value), f.resultTypes[j]? = some t → (v.resultList f.resultTypes.size)[j]? = some r → Value.okWide P W' .any 0 t r) :
 s.post enc P f apart fresh handsOn again W args v W' := by
 have hlt : ∀ p ∈ before, p.block < W.heap.size := fun p hp => by simpa using hW.lt p hp
 have hW2 := hW
 obtain ⟨p, q, hA, hV, he, hz, hn⟩ := hW2
 rw [hvn] at hV
 obtain ⟨-, rfl⟩ := trodVars_none hV
 rw [List.append_nil] at he
 subst he
 have hA' : ∀ sp : Nat → Bool, (∀ x ∈ before, sp x.block = true) → DataW.TrodAll enc P W' 0 sp true f.params.toList args.toList (s.fn H (ds ++ [])).args before := fun sp hs => by
  rw [hargs]; exact trodAll_stays hl hb hts hA hlt hs
 have hV' : ∀ sp : Nat → Bool, DataW.TrodVars enc P W' sp s.vars (s.fn H (ds ++ [])).vars [] := fun sp => by rw [hvn, hvars]; rfl
 refine ⟨ds, [], before, [], before, [], hW, hres _ _ _, hA' _ (fun x hx => by simpa using hlt x hx), hV' _, hb.frame _, fun _ => ?_⟩
 refine ⟨hok, _, _, ([] ++ before) ++ [], ⟨[] ++ before, [], trodAll_append (hA' _ (fun _ _ => rfl)) (hres _ _ _), hV' _, rfl, ?_, ?_⟩, ?_⟩
 ·intro b off hp
  have hp' : MemPlace.cell b off ∈ before := by simpa using hp
  have h1 := hlt _ hp'
  have h2 := hz b off hp'
  rw [← h2]
  exact hb.frozen h1
 ·intro ha
  simpa using hn ha
 ·intro x hx _
  simpa using hx
open Go.RowKit
theorem zax {k : IntKind} {a b : Int} (h : a = b) : Ending.returned (.int k a) = .returned (.int k b) := by rw [h]
theorem zap {a b : Bool} (h : a = b) : Ending.returned (.bool a) = .returned (.bool b) := by rw [h]
theorem zao {a b : Value} (h : a = b) : Ending.returned a = .returned b := by rw [h]
theorem val_int {k : IntKind} {a b : Int} (h : a = b) : Value.int k a = .int k b := by rw [h]
def bs (l : List UInt8) : ByteArray := ⟨l.toArray⟩
abbrev Sv (l : List UInt8) : Value := .string (bs l)
abbrev tl (s : ByteArray) : List UInt8 := s.data.toList
theorem tl_bs (l : List UInt8) : tl (bs l) = l := by simp [tl, bs]
theorem bs_tl (s : ByteArray) : bs (tl s) = s := by cases s; simp [tl, bs]
theorem zbc (l : List UInt8) : (bs l).size = l.length := by show l.toArray.size = l.length; simp
theorem zab (s : ByteArray) : (tl s).length = s.size := by show s.data.toList.length = s.data.size; simp
theorem bs_inj {l m : List UInt8} : bs l = bs m ↔ l = m := ⟨fun h => by rw [← tl_bs l, h, tl_bs], fun h => by rw [h]⟩
theorem zar (s : ByteArray) (i : Nat) (h : i < s.size) : (tl s)[i]'(by rw [zab]; exact h) = s[i] := by
 cases s; simp [tl]; rfl
theorem tl_cons (s : ByteArray) (h : 0 < s.size) : tl s = s[0] :: (tl s).tail := by
 obtain ⟨c, m, e⟩ := List.exists_cons_of_length_pos (show 0 < (tl s).length by rw [zab]; exact h)
 have h2 := zar s 0 h
 simp only [e, List.getElem_cons_zero] at h2
 rw [e, h2]; rfl
theorem take_snoc (s : ByteArray) (k : Nat) (h : k < s.size) : (tl s).take (k + 1) = (tl s).take k ++ [s[k]] := by
 rw [List.take_succ_eq_append_getElem (by rw [zab]; exact h), zar s k h]
theorem zbg (s : ByteArray) : s.toList = tl s := ByteArray.toList_eq s
theorem tl_empty {s : ByteArray} (h : s.size = 0) : tl s = [] := List.eq_nil_of_length_eq_zero (by rw [zab]; exact h)
theorem str_empty {s : ByteArray} (h : s.size = 0) : s.toList.isEmpty = true ∧ s.toList = [] := by
 rw [zbg, tl_empty h]; exact ⟨rfl, rfl⟩
theorem str_full {s : ByteArray} (h : 0 < s.size) : s.toList.isEmpty = false ∧ ¬ s.toList = [] := by
 rw [zbg, tl_cons s h]; simp
theorem eq_of_tl {s t : ByteArray} (h : tl s = tl t) : s = t := by rw [← bs_tl s, h, bs_tl]
def Blk (w : World) (g : Nat) (t : TypeId) (cs : List Value) : Prop := w.heap[g]? = some (.cells cs.toArray t (0, 0))
theorem Blk.lt {w : World} {g : Nat} {t : TypeId} {cs : List Value} (h : Blk w g t cs) : g < w.heap.size := by
 rcases Nat.lt_or_ge g w.heap.size with hlt | hge
 ·exact hlt
 ·unfold Blk at h; rw [Array.getElem?_eq_none hge] at h; cases h
theorem Blk.cell {w : World} {g : Nat} {t : TypeId} {cs : List Value} (h : Blk w g t cs) (i : Nat) : w.cell? ⟨g, i, none⟩ = cs[i]? := by
 unfold Blk at h
 simp [World.cell?, h]
theorem Blk.frozen {w : World} {g : Nat} {t : TypeId} {cs : List Value} (h : Blk w g t cs) (i : Nat) : w.frozen? ⟨g, i, none⟩ = false := by
 unfold Blk at h
 simp [World.frozen?, h]
theorem Blk.new (w : World) (t : TypeId) (cs : List Value) : Blk (w.alloc (.cells cs.toArray t)) w.heap.size t cs := by
 unfold Blk; exact heap_alloc_new w _
theorem Blk.drew {w : World} {g : Nat} {t : TypeId} {cs : List Value} (h : Blk w g t cs) : Blk w.drew g t cs := h
theorem Blk.alloc {w : World} {g : Nat} {t : TypeId} {cs : List Value} (h : Blk w g t cs) (o : Obj) : Blk (w.alloc o) g t cs := (Below.heap_alloc w o g h.lt).trans h
theorem Blk.set_ {w : World} {g : Nat} {t : TypeId} {cs : List Value} (h : Blk w g t cs) (i : Nat) (u : Value) : Blk (w.setCell ⟨g, i, none⟩ u) g t (cs.set i u) := by
 unfold Blk at h ⊢
 simp [World.setCell, Array.getElem?_modify, h]
theorem Blk.far {w : World} {g : Nat} {t : TypeId} {cs : List Value} (h : Blk w g t cs) {p : Addr} (hp : g ≠ p.block) (u : Value) : Blk (w.setCell p u) g t cs := (Below.heap_setCell w p u g hp).trans h
theorem Blk.below {w w' : World} {g : Nat} {t : TypeId} {cs : List Value} {B : Nat} (h : Blk w g t cs) (hb : Below B w w') (hg : g < B) : Blk w' g t cs := (hb.block g hg).trans h
structure Stg (w : World) (g : Nat) (t1 : TypeId) (c1 : List Value) (b : Nat) (t2 : TypeId) (c2 : List Value) (W : World) : Prop where
 b1 : Blk W g t1 c1
 b2 : Blk W b t2 c2
 ne : g ≠ b
 hb : w.heap.size ≤ b
 below : Below w.heap.size w W
theorem Stg.drew {w : World} {g : Nat} {t1 : TypeId} {c1 : List Value} {b : Nat} {t2 : TypeId} {c2 : List Value} {W : World} (h : Stg w g t1 c1 b t2 c2 W) : Stg w g t1 c1 b t2 c2 W.drew :=
 ⟨h.b1, h.b2, h.ne, h.hb, h.below.drew⟩
theorem Blk.get2 {W : World} {g : Nat} {t : TypeId} {x y : Value} (h : Blk W g t [x, y]) : W.cell? ⟨g, 0, none⟩ = some x ∧ W.cell? ⟨g, 1, none⟩ = some y := ⟨h.cell 0, h.cell 1⟩
theorem Blk.get3 {W : World} {g : Nat} {t : TypeId} {x y z : Value} (h : Blk W g t [x, y, z]) : W.cell? ⟨g, 0, none⟩ = some x ∧ W.cell? ⟨g, 1, none⟩ = some y ∧ W.cell? ⟨g, 2, none⟩ = some z := ⟨h.cell 0, h.cell 1, h.cell 2⟩
end Go.Proofs.YtekkapgknohadaaGreatDoor
namespace Go.Proofs.YtekkapgknohadaaGreatDoor.Lx
def isSp (c : UInt8) : Bool := c == 32 || c == 9 || c == 13 || c == 10
def isLet (c : UInt8) : Bool := (97 ≤ c && c ≤ 122) || (65 ≤ c && c ≤ 90)
def isDig (c : UInt8) : Bool := 48 ≤ c && c ≤ 57
def isNm (c : UInt8) : Bool := isLet c || isDig c || c == 95
def isWd (c : UInt8) : Bool := isNm c || c == 45
def isLU (c : UInt8) : Bool := isLet c || c == 95
def sp (p : UInt8 → Bool) : List UInt8 → Nat
 | [] => 0
 | c :: m => if p c then sp p m + 1 else 0
theorem sp_le (p : UInt8 → Bool) (l : List UInt8) : sp p l ≤ l.length := by
 induction l with
 | nil => exact Nat.le_refl 0
 | cons c m ih =>
  unfold sp
  split
  ·simpa using ih
  ·simp
theorem sp_succ {p : UInt8 → Bool} {c : UInt8} {m : List UInt8} (h : p c = true) : sp p (c :: m) = sp p m + 1 := by rw [sp, if_pos h]
theorem sp_stop {p : UInt8 → Bool} {c : UInt8} {m : List UInt8} (h : p c = false) : sp p (c :: m) = 0 := by rw [sp, if_neg (by simp [h])]
theorem sp_all {p : UInt8 → Bool} {l : List UInt8} : ∀ i (_ : i < sp p l) (h2 : i < l.length), p l[i] = true := by
 induction l with
 | nil => intro i h h2; simp at h2
 | cons c m ih =>
  intro i h h2
  cases hc : p c with
  | false => rw [sp_stop hc] at h; omega
  | true =>
   rw [sp_succ hc] at h
   cases i with
   | zero => exact hc
   | succ i => exact ih i (by omega) (by simpa using h2)
theorem sp_end {p : UInt8 → Bool} {l : List UInt8} (h : sp p l < l.length) : p l[sp p l] = false := by
 induction l with
 | nil => simp at h
 | cons c m ih =>
  cases hc : p c with
  | false =>
   simp only [sp_stop hc]
   exact hc
  | true =>
   rw [sp_succ hc] at h
   simp only [sp_succ hc, List.getElem_cons_succ]
   exact ih (by simpa using h)
theorem sp_drop {p : UInt8 → Bool} {l : List UInt8} {i : Nat} (h : i < l.length) (hp : p l[i] = true) : sp p (l.drop i) = sp p (l.drop (i + 1)) + 1 := by
 rw [List.drop_eq_getElem_cons h, sp_succ hp]
theorem sp_drop_stop {p : UInt8 → Bool} {l : List UInt8} {i : Nat} (h : i < l.length) (hp : p l[i] = false) : sp p (l.drop i) = 0 := by
 rw [List.drop_eq_getElem_cons h, sp_stop hp]
theorem sp_drop_end {p : UInt8 → Bool} {l : List UInt8} {i : Nat} (h : l.length ≤ i) : sp p (l.drop i) = 0 := by
 rw [List.drop_eq_nil_of_le h]; rfl
theorem sp_app {p : UInt8 → Bool} {a b : List UInt8} (h : sp p a < a.length) : sp p (a ++ b) = sp p a := by
 induction a with
 | nil => simp at h
 | cons c m ih =>
  cases hc : p c with
  | false => rw [List.cons_append, sp_stop hc, sp_stop hc]
  | true =>
   rw [sp_succ hc] at h
   rw [List.cons_append, sp_succ hc, sp_succ hc, ih (by simpa using h)]
theorem sp_app_all {p : UInt8 → Bool} {a b : List UInt8} (h : sp p a = a.length) : sp p (a ++ b) = a.length + sp p b := by
 induction a with
 | nil => simp
 | cons c m ih =>
  cases hc : p c with
  | false => rw [sp_stop hc] at h; simp at h
  | true =>
   rw [sp_succ hc] at h
   rw [List.cons_append, sp_succ hc, ih (by simpa using h)]
   simp; omega
theorem sp_take {p : UInt8 → Bool} {l : List UInt8} {n : Nat} (h : n ≤ sp p l) : sp p (l.take n) = n := by
 induction n generalizing l with
 | zero => rfl
 | succ n ih =>
  cases l with
  | nil => simp [sp] at h
  | cons c m =>
   cases hc : p c with
   | false => rw [sp_stop hc] at h; omega
   | true =>
    rw [sp_succ hc] at h
    rw [List.take_succ_cons, sp_succ hc, ih (by omega)]
def sk : Bool → List UInt8 → Nat
 | _, [] => 0
 | false, c :: m => if isSp c then sk false m + 1 else if c == 35 then sk true m + 1 else 0
 | true, c :: m => if c == 10 then sk false m + 1 else sk true m + 1
theorem sk_le (b : Bool) (l : List UInt8) : sk b l ≤ l.length := by
 induction l generalizing b with
 | nil => cases b <;> exact Nat.le_refl 0
 | cons c m ih =>
  have h1 := ih false
  have h2 := ih true
  cases b <;> unfold sk <;> simp only [List.length_cons] <;> split <;> (try split) <;> omega
theorem sk_sp {c : UInt8} {m : List UInt8} (h : isSp c = true) : sk false (c :: m) = sk false m + 1 := by rw [sk, if_pos h]
theorem sk_hash {m : List UInt8} : sk false (35 :: m) = sk true m + 1 := by
 rw [sk, if_neg (by decide), if_pos (by decide)]
theorem sk_stop {c : UInt8} {m : List UInt8} (h : isSp c = false) (h2 : (c == 35) = false) : sk false (c :: m) = 0 := by
 rw [sk, if_neg (by simp [h]), if_neg (by simp [h2])]
theorem sk_nl {m : List UInt8} : sk true (10 :: m) = sk false m + 1 := by rw [sk, if_pos (by decide)]
theorem sk_in {c : UInt8} {m : List UInt8} (h : (c == 10) = false) : sk true (c :: m) = sk true m + 1 := by rw [sk, if_neg (by simp [h])]
theorem sk_run (l : List UInt8) : sk false l = sp isSp l + sk false (l.drop (sp isSp l)) := by
 induction l with
 | nil => rfl
 | cons c m ih =>
  cases hc : isSp c with
  | false => rw [sp_stop hc]; simp
  | true => rw [sp_succ hc, sk_sp hc, List.drop_succ_cons]; omega
theorem sk_line (l : List UInt8) : sk true l = sp (fun c => c != 10) l + sk false (l.drop (sp (fun c => c != 10) l)) := by
 induction l with
 | nil => rfl
 | cons c m ih =>
  cases hc : (c == 10) with
  | true =>
   have : c = 10 := by simpa using hc
   subst this
   rw [sp_stop (p := fun c => c != 10) (by decide), sk_nl]
   simp only [List.drop_zero]
   rw [sk_sp (by decide)]; omega
  | false =>
   have h2 : sp (fun c => c != 10) (c :: m) = sp (fun c => c != 10) m + 1 := sp_succ (p := fun c => c != 10) (by simpa using hc)
   rw [h2, sk_in hc, List.drop_succ_cons]; omega
def dv (l : List UInt8) : Nat := l.foldl (fun n c => 10 * n + (c.toNat - 48)) 0
theorem dv_snoc (l : List UInt8) (c : UInt8) : dv (l ++ [c]) = 10 * dv l + (c.toNat - 48) := by simp [dv]
theorem dv_mono (l m : List UInt8) : dv l ≤ dv (l ++ m) := by
 induction m generalizing l with
 | nil => simp
 | cons c m ih =>
  have := ih (l ++ [c])
  rw [dv_snoc] at this
  rw [show l ++ c :: m = l ++ [c] ++ m by simp]
  omega
def one (c : UInt8) : Bool := c == 61 || c == 60 || c == 62 || c == 58 || c == 46 || c == 44 || c == 40 || c == 41 || c == 123 || c == 125
def two (a b : UInt8) : Bool := b == 61 && (a == 33 || a == 60 || a == 62)
def sg : List UInt8 → Nat
 | [] => 0
 | [a] => if one a then 1 else 0
 | a :: b :: _ => if two a b then 2 else if one a then 1 else 0
def kws : List (List UInt8) := [[112, 111, 108, 105, 99, 121], [117, 115, 101, 115], [114, 101, 118, 101, 97, 108], [112, 114, 111, 118, 101], [115, 99, 111, 112, 101], [108, 105, 109, 105, 116], [101, 115, 99, 114, 111, 119], [101, 110, 100], [97, 108, 108], [97, 110, 121], [97, 116, 108, 101, 97, 115, 116], [110, 111, 116], [116, 114, 117, 101], [102, 97, 108, 115, 101], [98, 101, 116, 119, 101, 101, 110], [97, 110, 100], [105, 110]]
def kw (l : List UInt8) : Bool := kws.contains l
def tkName (m : List UInt8) : Nat ⊕ Nat × Nat := if 32 < sp isNm m then .inl 5 else .inr (if kw (m.take (sp isNm m)) then 2 else 0, sp isNm m)
def tkWord (m : List UInt8) : Nat ⊕ Nat × Nat := if 32 < sp isWd m then .inl 5 else if sp isWd m = 0 ∨ m[sp isWd m]? ≠ some 39 then .inl 4 else .inr (0, sp isWd m + 2)
def tkSign (m : List UInt8) : Nat ⊕ Nat × Nat := if sg m = 0 then .inl 4 else .inr (2, sg m)
def tk : List UInt8 → Nat ⊕ Nat × Nat
 | [] => .inl 4
 | c :: m =>
  if isLet c then tkName (c :: m)
  else if c == 39 then tkWord m
  else if c == 45 then (if sp isDig m = 0 then tkSign (c :: m) else if dv (m.take (sp isDig m)) ≤ 2147483648 then .inr (1, sp isDig m + 1) else .inl 2)
  else if sp isDig (c :: m) = 0 then tkSign (c :: m) else if dv ((c :: m).take (sp isDig (c :: m))) ≤ 2147483647 then .inr (1, sp isDig (c :: m)) else .inl 2
structure Tok where
 kind : Nat
 text : List UInt8
 at_ : Nat
inductive Res where
 | ok (ts : List Tok)
 | err (at_ e : Nat)
def Res.pre (out : List Tok) : Res → Res
 | .ok ts => .ok (out ++ ts)
 | .err a e => .err a e
theorem Res.pre_nil (r : Res) : r.pre [] = r := by cases r <;> rfl
theorem Res.pre_pre (a b : List Tok) (r : Res) : (r.pre b).pre a = r.pre (a ++ b) := by cases r <;> simp [Res.pre]
def luAt : List UInt8 → Bool
 | [] => false
 | c :: _ => isLU c
def st (f : Nat → List UInt8 → Res) (a : Nat) (m : List UInt8) : Res :=
 match m, tk m with
 | [], _ => .ok [⟨3, [], a⟩]
 | _ :: _, .inl e => .err a e
 | _ :: _, .inr (k, n) => if k = 1 ∧ luAt (m.drop n) = true then .err (a + n) 4 else (f (a + n) (m.drop n)).pre [⟨k, m.take n, a⟩]
def scF : Nat → Nat → List UInt8 → Res
 | 0, _, _ => .ok []
 | f + 1, a, l => st (scF f) (a + sk false l) (l.drop (sk false l))
def sc (l : List UInt8) : Res := scF (l.length + 1) 0 l
theorem sg_le (m : List UInt8) : sg m ≤ m.length ∧ sg m ≤ 2 := by
 match m with
 | [] => exact ⟨Nat.le_refl 0, by decide⟩
 | [a] => rw [sg]; split <;> simp
 | a :: b :: r =>
  rw [sg]
  split
  ·simp
  ·split <;> simp
theorem tkName_len {m : List UInt8} {k n : Nat} (h : tkName m = .inr (k, n)) : n = sp isNm m ∧ n ≤ 32 ∧ k = (if kw (m.take n) then 2 else 0) := by
 unfold tkName at h
 split at h
 ·cases h
 ·simp only [Sum.inr.injEq, Prod.mk.injEq] at h
  obtain ⟨h1, h2⟩ := h
  exact ⟨h2.symm, by omega, by rw [← h1, ← h2]⟩
theorem tkWord_len {m : List UInt8} {k n : Nat} (h : tkWord m = .inr (k, n)) : k = 0 ∧ n = sp isWd m + 2 ∧ sp isWd m ≤ 32 ∧ sp isWd m ≠ 0 ∧ m[sp isWd m]? = some 39 := by
 unfold tkWord at h
 split at h
 ·cases h
 ·split at h
  ·cases h
  ·rename_i h1 h2
   simp only [Sum.inr.injEq, Prod.mk.injEq] at h
   have h3 : ¬ sp isWd m = 0 := fun h4 => h2 (.inl h4)
   have h4 : m[sp isWd m]? = some 39 := Classical.byContradiction fun h4 => h2 (.inr h4)
   exact ⟨h.1.symm, h.2.symm, by omega, h3, h4⟩
theorem tkSign_len {m : List UInt8} {k n : Nat} (h : tkSign m = .inr (k, n)) : k = 2 ∧ n = sg m ∧ n ≠ 0 := by
 unfold tkSign at h
 split at h
 ·cases h
 ·simp only [Sum.inr.injEq, Prod.mk.injEq] at h
  exact ⟨h.1.symm, h.2.symm, by omega⟩
inductive Way : List UInt8 → Nat → Nat → Prop
 | name (c : UInt8) (m : List UInt8) (hc : isLet c = true) (h : sp isNm (c :: m) ≤ 32) : Way (c :: m) (if kw ((c :: m).take (sp isNm (c :: m))) then 2 else 0) (sp isNm (c :: m))
 | word (m : List UInt8) (h0 : sp isWd m ≠ 0) (h : sp isWd m ≤ 32) (hq : m[sp isWd m]? = some 39) : Way (39 :: m) 0 (sp isWd m + 2)
 | minus (m : List UInt8) (h0 : sp isDig m ≠ 0) (h : dv (m.take (sp isDig m)) ≤ 2147483648) : Way (45 :: m) 1 (sp isDig m + 1)
 | digits (c : UInt8) (m : List UInt8) (hl : isLet c = false) (h1 : (c == 39) = false) (h2 : (c == 45) = false) (h0 : sp isDig (c :: m) ≠ 0) (h : dv ((c :: m).take (sp isDig (c :: m))) ≤ 2147483647) : Way (c :: m) 1 (sp isDig (c :: m))
 | sign (c : UInt8) (m : List UInt8) (hl : isLet c = false) (h1 : (c == 39) = false) (h2 : (c == 45) = true → sp isDig m = 0) (h3 : (c == 45) = false → sp isDig (c :: m) = 0) (h : sg (c :: m) ≠ 0) : Way (c :: m) 2 (sg (c :: m))
theorem way_of {m : List UInt8} {k n : Nat} (h : tk m = .inr (k, n)) : Way m k n := by
 cases m with
 | nil => cases h
 | cons c m =>
  rw [tk] at h
  by_cases hl : isLet c = true
  ·rw [if_pos hl] at h
   obtain ⟨rfl, h2, rfl⟩ := tkName_len h
   exact .name c m hl h2
  ·have hl' : isLet c = false := by simpa using hl
   rw [if_neg hl] at h
   by_cases h1 : (c == 39) = true
   ·rw [if_pos h1] at h
    have : c = 39 := by simpa using h1
    subst this
    obtain ⟨rfl, rfl, h2, h3, h4⟩ := tkWord_len h
    exact .word m h3 h2 h4
   ·have h1' : (c == 39) = false := by simpa using h1
    rw [if_neg h1] at h
    by_cases h2 : (c == 45) = true
    ·rw [if_pos h2] at h
     have : c = 45 := by simpa using h2
     subst this
     by_cases h3 : sp isDig m = 0
     ·rw [if_pos h3] at h
      obtain ⟨rfl, rfl, h4⟩ := tkSign_len h
      exact .sign 45 m hl' h1' (fun _ => h3) (fun h5 => by cases h5) h4
     ·rw [if_neg h3] at h
      by_cases h4 : dv (m.take (sp isDig m)) ≤ 2147483648
      ·rw [if_pos h4] at h
       simp only [Sum.inr.injEq, Prod.mk.injEq] at h
       obtain ⟨rfl, rfl⟩ := h
       exact .minus m h3 h4
      ·rw [if_neg h4] at h
       cases h
    ·have h2' : (c == 45) = false := by simpa using h2
     rw [if_neg h2] at h
     by_cases h3 : sp isDig (c :: m) = 0
     ·rw [if_pos h3] at h
      obtain ⟨rfl, rfl, h4⟩ := tkSign_len h
      exact .sign c m hl' h1' (fun h5 => by rw [h2'] at h5; cases h5) (fun _ => h3) h4
     ·rw [if_neg h3] at h
      by_cases h4 : dv ((c :: m).take (sp isDig (c :: m))) ≤ 2147483647
      ·rw [if_pos h4] at h
       simp only [Sum.inr.injEq, Prod.mk.injEq] at h
       obtain ⟨rfl, rfl⟩ := h
       exact .digits c m hl' h1' h2' h3 h4
      ·rw [if_neg h4] at h
       cases h
theorem Way.tk {m : List UInt8} {k n : Nat} (h : Way m k n) : tk m = .inr (k, n) := by
 cases h with
 | name c m hc h => rw [Lx.tk, if_pos hc, tkName, if_neg (by omega)]
 | word m h0 h hq =>
  rw [Lx.tk, if_neg (by decide), if_pos (by decide), tkWord, if_neg (by omega), if_neg (by intro h5; rcases h5 with h5 | h5; exact h0 h5; exact h5 hq)]
 | minus m h0 h => rw [Lx.tk, if_neg (by decide), if_neg (by decide), if_pos (by decide), if_neg h0, if_pos h]
 | digits c m hl h1 h2 h0 h => rw [Lx.tk, if_neg (by simp [hl]), if_neg (by simp [h1]), if_neg (by simp [h2]), if_neg h0, if_pos h]
 | sign c m hl h1 h2 h3 h =>
  rw [Lx.tk, if_neg (by simp [hl]), if_neg (by simp [h1])]
  by_cases h5 : (c == 45) = true
  ·rw [if_pos h5, if_pos (h2 h5), tkSign, if_neg h]
  ·rw [if_neg h5, if_pos (h3 (by simpa using h5)), tkSign, if_neg h]
theorem tk_len {m : List UInt8} {k n : Nat} (h : tk m = .inr (k, n)) : 0 < n ∧ n ≤ m.length := by
 cases way_of h with
 | name c m hc h =>
  have h1 : isNm c = true := by simp [isNm, hc]
  have h2 := sp_le isNm (c :: m)
  rw [sp_succ h1] at h2 ⊢
  exact ⟨by omega, h2⟩
 | word m h0 h hq =>
  obtain ⟨h1, h2⟩ := List.getElem?_eq_some_iff.1 hq
  simp only [List.length_cons]
  omega
 | minus m h0 h =>
  have := sp_le isDig m
  simp only [List.length_cons]
  omega
 | digits c m hl h1 h2 h0 h =>
  have := sp_le isDig (c :: m)
  omega
 | sign c m hl h1 h2 h3 h =>
  have := (sg_le (c :: m)).1
  omega
theorem tk_kind {m : List UInt8} {k n : Nat} (h : tk m = .inr (k, n)) : k ≤ 2 := by
 cases way_of h with
 | name c m hc h => split <;> omega
 | word m h0 h hq => omega
 | minus m h0 h => omega
 | digits c m hl h1 h2 h0 h => omega
 | sign c m hl h1 h2 h3 h => omega
structure SI (l : List UInt8) (a : Nat) (out : List Tok) : Prop where
 le : a ≤ l.length
 ex : ∃ f, l.length - a < f ∧ sc l = (scF f a (l.drop a)).pre out
theorem SI.start (l : List UInt8) : SI l 0 [] := ⟨Nat.zero_le _, l.length + 1, by omega, by rw [Res.pre_nil]; rfl⟩
theorem skip_le (l : List UInt8) {a : Nat} (h : a ≤ l.length) : a + sk false (l.drop a) ≤ l.length := by
 have := sk_le false (l.drop a)
 simp at this
 omega
theorem scF_skip {f a j : Nat} {l : List UInt8} (h : sk false l = j + sk false (l.drop j)) : scF f a l = scF f (a + j) (l.drop j) := by
 cases f with
 | zero => rfl
 | succ f =>
  unfold scF
  rw [List.drop_drop, ← h, Nat.add_assoc, ← h]
theorem SI.skip {l : List UInt8} {a : Nat} {out : List Tok} (h : SI l a out) {j : Nat} (hj : a + j ≤ l.length) (hs : sk false (l.drop a) = j + sk false (l.drop (a + j))) : SI l (a + j) out := by
 obtain ⟨f, h1, h2⟩ := h.ex
 refine ⟨hj, f, by omega, ?_⟩
 rw [h2, scF_skip (j := j) (by rw [List.drop_drop]; exact hs), List.drop_drop]
theorem SI.skipAll {l : List UInt8} {a : Nat} {out : List Tok} (h : SI l a out) : SI l (a + sk false (l.drop a)) out := by
 refine h.skip (skip_le l h.le) ?_
 have : ∀ (b : Bool) (l : List UInt8), sk false (l.drop (sk b l)) = 0 := by
  intro b l
  induction l generalizing b with
  | nil => cases b <;> rfl
  | cons c m ih =>
   cases b with
   | false =>
    by_cases h1 : isSp c = true
    ·rw [sk_sp h1, List.drop_succ_cons]; exact ih false
    ·by_cases h2 : (c == 35) = true
     ·have : c = 35 := by simpa using h2
      subst this
      rw [sk_hash, List.drop_succ_cons]; exact ih true
     ·have h1' : isSp c = false := by simpa using h1
      have h2' : (c == 35) = false := by simpa using h2
      rw [sk_stop h1' h2', List.drop_zero, sk_stop h1' h2']
   | true =>
    by_cases h2 : (c == 10) = true
    ·have : c = 10 := by simpa using h2
     subst this
     rw [sk_nl, List.drop_succ_cons]; exact ih false
    ·have h2' : (c == 10) = false := by simpa using h2
     rw [sk_in h2', List.drop_succ_cons]; exact ih true
 rw [← List.drop_drop, this]; rfl
theorem SI.atEnd {l : List UInt8} {a : Nat} {out : List Tok} (h : SI l a out) (ha : a = l.length) : sc l = .ok (out ++ [⟨3, [], a⟩]) := by
 subst ha
 obtain ⟨f, h1, h2⟩ := h.ex
 cases f with
 | zero => omega
 | succ f =>
  rw [h2]
  simp [scF, st, sk, Res.pre]
theorem SI.unfold {l : List UInt8} {a : Nat} {out : List Tok} (h : SI l a out) (_ : a < l.length) (hs : sk false (l.drop a) = 0) : ∃ f, l.length - a < f + 1 ∧ sc l = (st (scF f) a (l.drop a)).pre out := by
 obtain ⟨f, h1, h2⟩ := h.ex
 cases f with
 | zero => omega
 | succ f =>
  refine ⟨f, h1, ?_⟩
  rw [h2]
  unfold scF
  rw [hs]
  rfl
theorem SI.error {l : List UInt8} {a : Nat} {out : List Tok} (h : SI l a out) (ha : a < l.length) (hs : sk false (l.drop a) = 0) {e : Nat} (ht : tk (l.drop a) = .inl e) : sc l = .err a e := by
 obtain ⟨f, h1, h2⟩ := h.unfold ha hs
 rw [h2]
 have e1 : l.drop a = l[a] :: l.drop (a + 1) := List.drop_eq_getElem_cons ha
 unfold st
 rw [ht]
 rw [e1]
 rfl
theorem SI.glued {l : List UInt8} {a : Nat} {out : List Tok} (h : SI l a out) (ha : a < l.length) (hs : sk false (l.drop a) = 0) {n : Nat} (ht : tk (l.drop a) = .inr (1, n)) (hl : luAt (l.drop (a + n)) = true) : sc l = .err (a + n) 4 := by
 obtain ⟨f, h1, h2⟩ := h.unfold ha hs
 rw [h2]
 have e1 : l.drop a = l[a] :: l.drop (a + 1) := List.drop_eq_getElem_cons ha
 unfold st
 rw [ht]
 rw [e1]
 simp only []
 rw [← e1, List.drop_drop, if_pos ⟨trivial, hl⟩]
 rfl
theorem SI.token {l : List UInt8} {a : Nat} {out : List Tok} (h : SI l a out) (ha : a < l.length) (hs : sk false (l.drop a) = 0) {k n : Nat} (ht : tk (l.drop a) = .inr (k, n)) (hl : ¬ (k = 1 ∧ luAt (l.drop (a + n)) = true)) : SI l (a + n) (out ++ [⟨k, (l.drop a).take n, a⟩]) := by
 obtain ⟨f, h1, h2⟩ := h.unfold ha hs
 have h3 := tk_len ht
 simp at h3
 refine ⟨by omega, f, by omega, ?_⟩
 rw [h2]
 have e1 : l.drop a = l[a] :: l.drop (a + 1) := List.drop_eq_getElem_cons ha
 unfold st
 rw [ht]
 rw [e1]
 simp only []
 rw [← e1, List.drop_drop, if_neg hl, Res.pre_pre]
def hd (p : UInt8 → Bool) : List UInt8 → Bool
 | [] => false
 | c :: _ => p c
def Look (r r' : List UInt8) : Prop := r'.head? = r.head? ∨ r' = [] ∨ ∃ c q, r' = c :: q ∧ (isSp c = true ∨ c = 35)
theorem look_hd {r r' : List UInt8} (h : Look r r') {p : UInt8 → Bool} (hp : ∀ c, (isSp c = true ∨ c = 35) → p c = false) (h0 : hd p r = false) : hd p r' = false := by
 rcases h with h | rfl | ⟨c, q, rfl, h⟩
 ·cases r' with
  | nil => rfl
  | cons c q =>
   cases r with
   | nil => simp at h
   | cons d q' =>
    simp at h
    subst h
    exact h0
 ·rfl
 ·exact hp c h
theorem sep_not (c : UInt8) (h : isSp c = true ∨ c = 35) : isNm c = false ∧ isDig c = false ∧ isLU c = false ∧ (c == 61) = false := by
 have h1 : c = 32 ∨ c = 9 ∨ c = 13 ∨ c = 10 ∨ c = 35 := by
  rcases h with h | h
  ·simp [isSp] at h
   rcases h with ((h | h) | h) | h
   ·exact .inl h
   ·exact .inr (.inl h)
   ·exact .inr (.inr (.inl h))
   ·exact .inr (.inr (.inr (.inl h)))
  ·exact .inr (.inr (.inr (.inr h)))
 rcases h1 with rfl | rfl | rfl | rfl | rfl <;> decide
theorem hd_drop {p : UInt8 → Bool} {l : List UInt8} : hd p (l.drop (sp p l)) = false := by
 by_cases h : sp p l < l.length
 ·rw [List.drop_eq_getElem_cons h]
  exact sp_end h
 ·rw [List.drop_eq_nil_of_le (by omega)]
  rfl
theorem sp_hd {p : UInt8 → Bool} {r : List UInt8} (h : hd p r = false) : sp p r = 0 := by
 cases r with
 | nil => rfl
 | cons c q => exact sp_stop h
theorem sp_swap {p : UInt8 → Bool} {l r : List UInt8} (h : hd p r = false) : sp p (l.take (sp p l) ++ r) = sp p l := by
 have h1 := sp_take (p := p) (l := l) (Nat.le_refl _)
 have h2 : (l.take (sp p l)).length = sp p l := by
  have := sp_le p l
  simp; omega
 rw [sp_app_all (by rw [h1, h2]), h2, sp_hd h]
 rfl
theorem take_swap {l r : List UInt8} {n : Nat} (h : n ≤ l.length) : (l.take n ++ r).take n = l.take n := by
 rw [List.take_append_of_le_length (by simp; omega), List.take_take, Nat.min_self]
theorem sp_take_gt {p : UInt8 → Bool} {l : List UInt8} {n : Nat} (h : sp p l < n) (hn : n ≤ l.length) : sp p (l.take n) = sp p l := by
 have h1 := sp_le p (l.take n)
 have h2 : (l.take n).length = n := by simp; omega
 rcases Nat.lt_or_ge (sp p (l.take n)) n with h3 | h3
 ·have := sp_app (b := l.drop n) (show sp p (l.take n) < (l.take n).length by omega)
  rw [List.take_append_drop] at this
  exact this.symm
 ·have := sp_app_all (b := l.drop n) (show sp p (l.take n) = (l.take n).length by omega)
  rw [List.take_append_drop] at this
  omega
theorem tk_look {m : List UInt8} {k n : Nat} (htk : tk m = .inr (k, n)) {r : List UInt8} (hr : Look (m.drop n) r) : tk (m.take n ++ r) = .inr (k, n) := by
 have hlen := tk_len htk
 have hwy := way_of htk
 clear htk
 cases hwy with
 | name c m hc h =>
  have hn : isNm c = true := by simp [isNm, hc]
  have e1 : sp isNm ((c :: m).take (sp isNm (c :: m)) ++ r) = sp isNm (c :: m) := sp_swap (look_hd hr (fun c h => (sep_not c h).1) hd_drop)
  have e2 := take_swap (r := r) hlen.2
  have e3 : (c :: m).take (sp isNm (c :: m)) ++ r = c :: (m.take (sp isNm m) ++ r) := by rw [sp_succ hn]; rfl
  have hw := Way.name c (m.take (sp isNm m) ++ r) hc (by rw [← e3, e1]; exact h)
  rw [← e3, e1, e2] at hw
  exact hw.tk
 | word m h0 h hq =>
  obtain ⟨h1, h2⟩ := List.getElem?_eq_some_iff.1 hq
  have e3 : (39 :: m).take (sp isWd m + 2) ++ r = 39 :: (m.take (sp isWd m + 1) ++ r) := rfl
  have e4 : sp isWd (m.take (sp isWd m + 1)) = sp isWd m := sp_take_gt (by omega) (by omega)
  have e5 : sp isWd (m.take (sp isWd m + 1) ++ r) = sp isWd m := by rw [sp_app (by rw [e4]; simp; omega), e4]
  have hw := Way.word (m.take (sp isWd m + 1) ++ r) (by rw [e5]; exact h0) (by rw [e5]; exact h) (by
   rw [e5, List.getElem?_append_left (by simp; omega), List.getElem?_take_of_lt (by omega)]; exact hq)
  rw [e5] at hw
  rw [e3]
  exact hw.tk
 | minus m h0 h =>
  have e3 : (45 :: m).take (sp isDig m + 1) ++ r = 45 :: (m.take (sp isDig m) ++ r) := rfl
  have e1 : sp isDig (m.take (sp isDig m) ++ r) = sp isDig m := sp_swap (look_hd hr (fun c h => (sep_not c h).2.1) (by rw [List.drop_succ_cons]; exact hd_drop))
  have e2 := take_swap (r := r) (sp_le isDig m)
  have hw := Way.minus (m.take (sp isDig m) ++ r) (by rw [e1]; exact h0) (by rw [e1, e2]; exact h)
  rw [e1] at hw
  rw [e3]
  exact hw.tk
 | digits c m hl h1 h2 h0 h =>
  have hd1 : isDig c = true := by
   cases h5 : isDig c with
   | true => rfl
   | false => rw [sp_stop h5] at h0; exact (h0 rfl).elim
  have e1 : sp isDig ((c :: m).take (sp isDig (c :: m)) ++ r) = sp isDig (c :: m) := sp_swap (look_hd hr (fun c h => (sep_not c h).2.1) hd_drop)
  have e2 := take_swap (r := r) hlen.2
  have e3 : (c :: m).take (sp isDig (c :: m)) ++ r = c :: (m.take (sp isDig m) ++ r) := by rw [sp_succ hd1]; rfl
  have hw := Way.digits c (m.take (sp isDig m) ++ r) hl h1 h2 (by rw [← e3, e1]; exact h0) (by rw [← e3, e1, e2]; exact h)
  rw [← e3, e1] at hw
  exact hw.tk
 | sign c m hl h1 h2 h3 h =>
  have h45 : (c == 45) = false := by
   cases h5 : (c == 45) with
   | false => rfl
   | true =>
    have : c = 45 := by simpa using h5
    subst this
    refine (h ?_).elim
    cases m with
    | nil => rfl
    | cons b q =>
     rw [sg, if_neg (by simp [two]), if_neg (by decide)]
  have hdg : isDig c = false := by
   cases h5 : isDig c with
   | false => rfl
   | true => have := h3 h45; rw [sp_succ h5] at this; omega
  have key : ∀ q, sg (c :: q) = sg (c :: m) → tk (c :: q) = .inr (2, sg (c :: m)) := by
   intro q hq
   have hw := Way.sign c q hl h1 (fun h5 => by rw [h45] at h5; cases h5) (fun _ => sp_stop hdg) (by rw [hq]; exact h)
   rw [hq] at hw
   exact hw.tk
  cases m with
  | nil =>
   have h6 : one c = true := by
    cases h5 : one c with
    | true => rfl
    | false => rw [sg, if_neg (by simp [h5])] at h; exact (h rfl).elim
   have e : sg [c] = 1 := by rw [sg, if_pos h6]
   have e7 : ([c] : List UInt8).take (sg [c]) ++ r = c :: r := by rw [e]; rfl
   rw [e7]
   apply key
   rw [e]
   rw [e] at hr
   cases r with
   | nil => exact e
   | cons b q =>
    have : (b == 61) = false := look_hd (p := fun c => c == 61) hr (fun c h => (sep_not c h).2.2.2) rfl
    rw [sg, if_neg (by simp [two, this]), if_pos h6]
  | cons b q =>
   by_cases h5 : two c b = true
   ·have e : sg (c :: b :: q) = 2 := by rw [sg, if_pos h5]
    have e7 : (c :: b :: q).take (sg (c :: b :: q)) ++ r = c :: b :: r := by rw [e]; rfl
    rw [e7]
    apply key
    rw [e, sg, if_pos h5]
   ·have h6 : one c = true := by
     cases h7 : one c with
     | true => rfl
     | false => rw [sg, if_neg h5, if_neg (by simp [h7])] at h; exact (h rfl).elim
    have e : sg (c :: b :: q) = 1 := by rw [sg, if_neg h5, if_pos h6]
    have e7 : (c :: b :: q).take (sg (c :: b :: q)) ++ r = c :: r := by rw [e]; rfl
    rw [e7]
    apply key
    rw [e]
    rw [e] at hr
    cases r with
    | nil => rw [sg, if_pos h6]
    | cons b' q' =>
     have h8 : two c b' = false := by
      rcases hr with hr | hr | ⟨c', q'', hr, hs⟩
      ·simp at hr
       subst hr
       simpa using h5
      ·cases hr
      ·simp only [List.cons.injEq] at hr
       obtain ⟨rfl, rfl⟩ := hr
       have := (sep_not _ hs).2.2.2
       simp [two, this]
     rw [sg, if_neg (by simp [h8]), if_pos h6]
inductive Sc : Nat → List UInt8 → List Tok → Prop
 | done (a : Nat) (l : List UInt8) (h : l.drop (sk false l) = []) : Sc a l [⟨3, [], a + sk false l⟩]
 | step (a : Nat) (l : List UInt8) (k n : Nat) (ts : List Tok) (ht : tk (l.drop (sk false l)) = .inr (k, n)) (hl : ¬ (k = 1 ∧ luAt ((l.drop (sk false l)).drop n) = true)) (h : Sc (a + sk false l + n) ((l.drop (sk false l)).drop n) ts) : Sc a l (⟨k, (l.drop (sk false l)).take n, a + sk false l⟩ :: ts)
theorem tk_ne {m : List UInt8} {k n : Nat} (h : tk m = .inr (k, n)) : m ≠ [] := by
 rintro rfl
 cases h
theorem st_inr {f : Nat → List UInt8 → Res} {a : Nat} {m : List UInt8} {k n : Nat} (h : tk m = .inr (k, n)) : st f a m = if k = 1 ∧ luAt (m.drop n) = true then .err (a + n) 4 else (f (a + n) (m.drop n)).pre [⟨k, m.take n, a⟩] := by
 unfold st
 rw [h]
 cases m with
 | nil => cases h
 | cons c m => rfl
theorem st_inl {f : Nat → List UInt8 → Res} {a : Nat} {m : List UInt8} {e : Nat} (h : tk m = .inl e) (hm : m ≠ []) : st f a m = .err a e := by
 unfold st
 rw [h]
 cases m with
 | nil => exact (hm rfl).elim
 | cons c m => rfl
theorem Sc.of {f : Nat} : ∀ {a : Nat} {l : List UInt8} {ts : List Tok}, l.length < f → scF f a l = .ok ts → Sc a l ts := by
 induction f with
 | zero => intro a l ts h; omega
 | succ f ih =>
  intro a l ts hl h
  unfold scF at h
  by_cases hm : l.drop (sk false l) = []
  ·rw [hm] at h
   simp only [st, Res.ok.injEq] at h
   subst h
   exact .done a l hm
  ·cases ht : tk (l.drop (sk false l)) with
   | inl e => rw [st_inl ht hm] at h; cases h
   | inr kn =>
    obtain ⟨k, n⟩ := kn
    rw [st_inr ht] at h
    split at h
    ·cases h
    ·rename_i hlu
     cases hr : scF f (a + sk false l + n) ((l.drop (sk false l)).drop n) with
     | err a e => rw [hr] at h; cases h
     | ok ts' =>
      rw [hr] at h
      simp only [Res.pre, Res.ok.injEq] at h
      subst h
      have := tk_len ht
      refine .step a l k n ts' ht hlu (ih ?_ hr)
      simp only [List.length_drop] at this ⊢
      omega
theorem Sc.to {a : Nat} {l : List UInt8} {ts : List Tok} (h : Sc a l ts) : ∀ f, l.length < f → scF f a l = .ok ts := by
 induction h with
 | done a l h =>
  intro f hf
  cases f with
  | zero => omega
  | succ f => unfold scF; rw [h]; rfl
 | step a l k n ts ht hl h ih =>
  intro f hf
  cases f with
  | zero => omega
  | succ f =>
   unfold scF
   have := tk_len ht
   simp only [List.length_drop] at this
   rw [st_inr ht, if_neg hl, ih f (by simp only [List.length_drop]; omega)]
   rfl
theorem sc_iff {l : List UInt8} {ts : List Tok} : sc l = .ok ts ↔ Sc 0 l ts := ⟨fun h => Sc.of (by omega) h, fun h => h.to _ (by omega)⟩
def kt (t : Tok) : Nat × List UInt8 := (t.kind, t.text)
theorem Sc.space {a : Nat} {c : UInt8} {l : List UInt8} {ts : List Tok} (hc : isSp c = true) (h : Sc (a + 1) l ts) : Sc a (c :: l) ts := by
 have e := sk_sp (m := l) hc
 cases h with
 | done _ _ h =>
  have := Sc.done a (c :: l) (by rw [e, List.drop_succ_cons]; exact h)
  rw [e] at this
  rw [show a + 1 + sk false l = a + (sk false l + 1) by omega]
  exact this
 | step _ _ k n ts ht hl h =>
  have e2 : (c :: l).drop (sk false (c :: l)) = l.drop (sk false l) := by rw [e, List.drop_succ_cons]
  have e3 : a + sk false (c :: l) = a + 1 + sk false l := by rw [e]; omega
  have := Sc.step a (c :: l) k n ts (by rw [e2]; exact ht) (by rw [e2]; exact hl) (by rw [e2, e3]; exact h)
  rw [e2, e3] at this
  exact this
theorem Sc.within {a : Nat} {l : List UInt8} {ts : List Tok} (h : Sc a l ts) : ∀ t ∈ ts, a ≤ t.at_ ∧ t.at_ + t.text.length ≤ a + l.length := by
 induction h with
 | done a l h =>
  intro t ht
  rw [List.mem_singleton] at ht
  subst ht
  have := sk_le false l
  simp
  omega
 | step a l k n ts ht hl h ih =>
  have h1 := sk_le false l
  have h2 := tk_len ht
  simp only [List.length_drop] at h2
  intro t h3
  rcases List.mem_cons.1 h3 with rfl | h3
  ·simp
   omega
  ·have := ih t h3
   simp only [List.length_drop] at this
   omega
theorem sk_gap {b : Bool} {g r : List UInt8} (h : sk b (g ++ r) = g.length) : ∃ b', (∀ x, sk b (g ++ x) = g.length + sk b' x) ∧ sk b' r = 0 := by
 induction g generalizing b with
 | nil => exact ⟨b, fun x => by simp, by simpa using h⟩
 | cons c g ih =>
  cases b with
  | false =>
   by_cases h1 : isSp c = true
   ·rw [List.cons_append, sk_sp h1, List.length_cons] at h
    obtain ⟨b', h2, h3⟩ := ih (b := false) (by omega)
    exact ⟨b', fun x => by rw [List.cons_append, sk_sp h1, h2, List.length_cons]; omega, h3⟩
   ·by_cases h2 : (c == 35) = true
    ·have : c = 35 := by simpa using h2
     subst this
     rw [List.cons_append, sk_hash, List.length_cons] at h
     obtain ⟨b', h2, h3⟩ := ih (b := true) (by omega)
     exact ⟨b', fun x => by rw [List.cons_append, sk_hash, h2, List.length_cons]; omega, h3⟩
    ·rw [List.cons_append, sk_stop (by simpa using h1) (by simpa using h2)] at h
     simp at h
  | true =>
   by_cases h2 : (c == 10) = true
   ·have : c = 10 := by simpa using h2
    subst this
    rw [List.cons_append, sk_nl, List.length_cons] at h
    obtain ⟨b', h2, h3⟩ := ih (b := false) (by omega)
    exact ⟨b', fun x => by rw [List.cons_append, sk_nl, h2, List.length_cons]; omega, h3⟩
   ·have h1 : (c == 10) = false := by simpa using h2
    rw [List.cons_append, sk_in h1, List.length_cons] at h
    obtain ⟨b', h2, h3⟩ := ih (b := true) (by omega)
    exact ⟨b', fun x => by rw [List.cons_append, sk_in h1, h2, List.length_cons]; omega, h3⟩
theorem sk_true_pos {r : List UInt8} (h : sk true r = 0) : r = [] := by
 cases r with
 | nil => rfl
 | cons c m => unfold sk at h; split at h <;> omega
theorem sk_own (l : List UInt8) : ∃ b', (∀ x, sk false (l.take (sk false l) ++ x) = sk false l + sk b' x) ∧ sk b' (l.drop (sk false l)) = 0 := by
 have h1 := sk_le false l
 have h2 : (l.take (sk false l)).length = sk false l := by simp; omega
 obtain ⟨b', h3, h4⟩ := sk_gap (b := false) (g := l.take (sk false l)) (r := l.drop (sk false l)) (by rw [List.take_append_drop, h2])
 rw [h2] at h3
 exact ⟨b', h3, h4⟩
structure Gap (s : List UInt8) : Prop where
 all : ∀ b, sk b s = s.length
 stop : ∀ r, r ≠ [] → sk false r = 0 → sk false (s ++ r) = s.length
 sep : ∀ r, ∃ c q, s ++ r = c :: q ∧ (isSp c = true ∨ c = 35)
theorem sk_same {c : UInt8} {m q : List UInt8} (h : sk false (c :: m) = 0) : sk false (c :: q) = 0 := by
 unfold sk at h ⊢
 split at h
 ·omega
 ·rename_i h1
  rw [if_neg h1]
  split at h
  ·omega
  ·rename_i h2
   rw [if_neg h2]
def jn : List Tok → List UInt8
 | [] => []
 | [t] => t.text
 | t :: t' :: r => t.text ++ 32 :: jn (t' :: r)
theorem Sc.join {a : Nat} {l : List UInt8} {ts : List Tok} (h : Sc a l ts) : ∃ us e, ts = us ++ [e] ∧ e.kind = 3 ∧ e.text = [] ∧ e.at_ = a + l.length ∧ (∀ t ∈ us, t.kind ≤ 2 ∧ t.text ≠ []) ∧ ((us.map fun t => t.text.length).sum ≤ l.length) ∧ ∀ b, ∃ ts', Sc b (jn us) ts' ∧ ts'.map kt = ts.map kt := by
 induction h with
 | done a l h =>
  have h1 := sk_le false l
  have h2 := congrArg List.length h
  simp at h2
  exact ⟨[], _, rfl, rfl, rfl, by simp; omega, by simp, by simp, fun b => ⟨_, Sc.done b [] rfl, rfl⟩⟩
 | step a l k n ts ht hl h ih =>
  obtain ⟨us, e, rfl, h2, h3, hat, h4, h5, h6⟩ := ih
  have hne := tk_ne ht
  have hlen := tk_len ht
  have hk1 := sk_le false l
  simp only [List.length_drop] at hlen h5 hat
  have hn : ((l.drop (sk false l)).take n).length = n := by rw [List.length_take, List.length_drop]; omega
  obtain ⟨b', h3', h4'⟩ := sk_own l
  have hb : b' = false := by
   cases b' with
   | false => rfl
   | true => exact (hne (sk_true_pos h4')).elim
  subst hb
  refine ⟨⟨k, (l.drop (sk false l)).take n, a + sk false l⟩ :: us, e, rfl, h2, h3, by omega, ?_, ?_, ?_⟩
  ·intro t h7
   rcases List.mem_cons.1 h7 with rfl | h7
   ·refine ⟨tk_kind ht, ?_⟩
    intro h8
    have := congrArg List.length h8
    rw [hn] at this
    simp at this
    omega
   ·exact h4 t h7
  ·simp only [List.map_cons, List.sum_cons, hn]
   omega
  ·intro b
   have key : ∀ R ts', (R = [] ∨ ∃ q, R = 32 :: q) → Sc (b + n) R ts' → ts'.map kt = (us ++ [e]).map kt → ∃ ts', Sc b ((l.drop (sk false l)).take n ++ R) ts' ∧ ts'.map kt = (⟨k, (l.drop (sk false l)).take n, a + sk false l⟩ :: us ++ [e]).map kt := by
    intro R ts' hR h7 h8
    have hLook : Look ((l.drop (sk false l)).drop n) R := by
     rcases hR with rfl | ⟨q, rfl⟩
     ·exact .inr (.inl rfl)
     ·exact .inr (.inr ⟨32, q, rfl, .inl rfl⟩)
    have h9 : sk false ((l.drop (sk false l)).take n ++ R) = 0 := by
     cases hm : l.drop (sk false l) with
     | nil => exact (hne hm).elim
     | cons c q =>
      rw [hm] at h4'
      obtain ⟨n', rfl⟩ : ∃ n', n = n' + 1 := ⟨n - 1, by omega⟩
      rw [List.take_succ_cons, List.cons_append]
      exact sk_same h4'
    have h12 : ((l.drop (sk false l)).take n ++ R).drop n = R := List.drop_left' hn
    have h13 : luAt R = false := by
     rcases hR with rfl | ⟨q, rfl⟩
     ·rfl
     ·show isLU 32 = false
      decide
    refine ⟨_, Sc.step b _ k n ts' (by rw [h9, List.drop_zero]; exact tk_look ht hLook) (by rw [h9, List.drop_zero, h12, h13]; simp) (by rw [h9, List.drop_zero, h12]; exact h7), ?_⟩
    rw [h9, List.drop_zero, List.take_left' hn]
    simp only [List.map_cons, h8, List.cons_append]
    rfl
   cases us with
   | nil =>
    obtain ⟨ts', h7, h8⟩ := h6 (b + n)
    have := key [] ts' (.inl rfl) h7 h8
    rw [List.append_nil] at this
    exact this
   | cons u us =>
    obtain ⟨ts', h7, h8⟩ := h6 (b + n + 1)
    exact key (32 :: jn (u :: us)) ts' (.inr ⟨_, rfl⟩) (h7.space rfl) h8
end Go.Proofs.YtekkapgknohadaaGreatDoor.Lx
namespace Go.Proofs
open Go.Shelf
def Tryz.lays137_ren : Go.Shelf.Ren := ⟨fun | 137 => 139 | 217 => 185 | 266 => 230 | n => n, fun | 9 => 9 | 5 => 5 | 3 => 3 | n => n, fun | n => n⟩
theorem Tryz.lays137 : Go.Proofs.Lays.n137 Tryz.prog Tryz.lays137_ren := {
 mixed := by kernel_rfl
 f137 := Tryz.func139.trans (congrArg some (by kernel_rfl))
 f217 := Tryz.func185.trans (congrArg some (by kernel_rfl))
 f266 := Tryz.func230.trans (congrArg some (by kernel_rfl))
 t3 := Tryz.underlying3
 a3 := Tryz.isAgg3
 z3 := Tryz.sizeOf3
 v3 := Tryz.zeroValue3
 t5 := Tryz.underlying5
 a5 := Tryz.isAgg5
 z5 := Tryz.sizeOf5
 v5 := Tryz.zeroValue5
 t9 := Tryz.underlying9
 a9 := Tryz.isAgg9
 z9 := Tryz.sizeOf9
 v9 := Tryz.zeroValue9 }
open Go.RowKit in
theorem Tryz.strings_IndexByte (s : ByteArray) (c : Int) (w : World) :
 Calls Tryz.prog 139 #[.string s, .int .u8 c] w fun e w' => e = .returned (.int .i64 (Lib.indexByte s.data.toList c.toNat.toUInt8)) ∧ w' = w := Any.strings_IndexByte Tryz.lays137 s c w
def Tryz.laysM171_ren : Go.Shelf.Ren := ⟨fun | 171 => 42 | 243 => 109 | 246 => 166 | 283 => 210 | 284 => 211 | 285 => 212 | 286 => 213 | 129 => 249 | 317 => 248 | 318 => 250 | 319 => 251 | 320 => 252 | 337 => 265 | 338 => 266 | n => n, fun | 3 => 3 | 9 => 9 | 2 => 2 | 4 => 4 | 171 => 278 | 0 => 0 | 53 => 279 | 37 => 98 | 5 => 5 | 173 => 282 | 212 => 303 | 51 => 304 | 20 => 20 | 213 => 305 | 46 => 306 | 232 => 334 | 233 => 335 | n => n, fun | 17 => 0 | 18 => 6 | 19 => 7 | n => n⟩
theorem Tryz.laysM171 : Go.Proofs.LaysM.n171 Tryz.prog Tryz.laysM171_ren := {
 mixed := by kernel_rfl
 f129 := Tryz.func249.trans (congrArg some (by kernel_rfl))
 f171 := Tryz.func42.trans (congrArg some (by kernel_rfl))
 f243 := Tryz.func109.trans (congrArg some (by kernel_rfl))
 f246 := Tryz.func166.trans (congrArg some (by kernel_rfl))
 f283 := Tryz.func210.trans (congrArg some (by kernel_rfl))
 f284 := Tryz.func211.trans (congrArg some (by kernel_rfl))
 f285 := Tryz.func212.trans (congrArg some (by kernel_rfl))
 f286 := Tryz.func213.trans (congrArg some (by kernel_rfl))
 f317 := Tryz.func248.trans (congrArg some (by kernel_rfl))
 f318 := Tryz.func250.trans (congrArg some (by kernel_rfl))
 f319 := Tryz.func251.trans (congrArg some (by kernel_rfl))
 f320 := Tryz.func252.trans (congrArg some (by kernel_rfl))
 f337 := Tryz.func265.trans (congrArg some (by kernel_rfl))
 f338 := Tryz.func266.trans (congrArg some (by kernel_rfl))
 t0 := Tryz.underlying0
 a0 := Tryz.isAgg0
 z0 := Tryz.sizeOf0
 v0 := Tryz.zeroValue0
 t2 := Tryz.underlying2
 a2 := Tryz.isAgg2
 z2 := Tryz.sizeOf2
 v2 := Tryz.zeroValue2
 t3 := Tryz.underlying3
 a3 := Tryz.isAgg3
 z3 := Tryz.sizeOf3
 v3 := Tryz.zeroValue3
 t4 := Tryz.underlying4
 a4 := Tryz.isAgg4
 z4 := Tryz.sizeOf4
 v4 := Tryz.zeroValue4
 t5 := Tryz.underlying5
 a5 := Tryz.isAgg5
 z5 := Tryz.sizeOf5
 v5 := Tryz.zeroValue5
 t9 := Tryz.underlying9
 a9 := Tryz.isAgg9
 z9 := Tryz.sizeOf9
 v9 := Tryz.zeroValue9
 t20 := Tryz.underlying20
 a20 := Tryz.isAgg20
 z20 := Tryz.sizeOf20
 v20 := Tryz.zeroValue20
 t37 := Tryz.underlying98
 a37 := Tryz.isAgg98
 z37 := Tryz.sizeOf98
 v37 := Tryz.zeroValue98
 t46 := Tryz.underlying306
 a46 := Tryz.isAgg306
 z46 := Tryz.sizeOf306
 v46 := Tryz.zeroValue306
 t51 := Tryz.underlying304
 a51 := Tryz.isAgg304
 z51 := Tryz.sizeOf304
 v51 := Tryz.zeroValue304
 t53 := Tryz.underlying279
 a53 := Tryz.isAgg279
 z53 := Tryz.sizeOf279
 v53 := Tryz.zeroValue279
 t171 := Tryz.underlying278
 a171 := Tryz.isAgg278
 z171 := Tryz.sizeOf278
 v171 := Tryz.zeroValue278
 t173 := Tryz.underlying282
 a173 := Tryz.isAgg282
 z173 := Tryz.sizeOf282
 v173 := Tryz.zeroValue282
 t212 := Tryz.underlying303
 a212 := Tryz.isAgg303
 z212 := Tryz.sizeOf303
 v212 := Tryz.zeroValue303
 t213 := Tryz.underlying305
 a213 := Tryz.isAgg305
 z213 := Tryz.sizeOf305
 t232 := Tryz.underlying334
 a232 := Tryz.isAgg334
 z232 := Tryz.sizeOf334
 v232 := Tryz.zeroValue334
 t233 := Tryz.underlying335
 a233 := Tryz.isAgg335
 z233 := Tryz.sizeOf335
 v233 := Tryz.zeroValue335
 g17 := by kernel_rfl
 g18 := by kernel_rfl
 g19 := by kernel_rfl
 i0 := by kernel_rfl
 i2 := by kernel_rfl
 i3 := by kernel_rfl
 i4 := by kernel_rfl
 i5 := by kernel_rfl
 i9 := by kernel_rfl
 i20 := by kernel_rfl
 i37 := by kernel_rfl
 i46 := by kernel_rfl
 i51 := by kernel_rfl
 i53 := by kernel_rfl
 i171 := by kernel_rfl
 i173 := by kernel_rfl
 i212 := by kernel_rfl
 i232 := by kernel_rfl
 i233 := by kernel_rfl
 m17 := by kernel_rfl
 m18 := by kernel_rfl
 m19 := by kernel_rfl }
open Go.RowKit Go.Sort Go.Lib in
theorem Tryz.strconv_Itoa (n : Int) (h0 : -9223372036854775808 ≤ n) (h1 : n ≤ 9223372036854775807) (w : World) (htab : Lib.TabIs Tryz.prog w "internal/strconv.uint64pow10" .u64 Lib.pow10Tab) :
 Calls Tryz.prog 42 #[.int .i64 n] w fun e w' => e = .returned (.string ⟨(Lib.itoa n).toArray⟩) ∧ ∃ k os, w' = grow (w.drewN k) os := Any.strconv_Itoa Tryz.laysM171 n h0 h1 w htab
def Tryz.laysC172_ren : Go.Shelf.Ren := ⟨fun | 172 => 147 | 244 => 195 | 245 => 196 | 247 => 235 | 279 => 236 | 280 => 237 | 281 => 238 | 282 => 239 | 287 => 258 | 316 => 259 | 171 => 42 | 205 => 260 | 321 => 270 | 322 => 271 | 243 => 109 | 246 => 166 | 283 => 210 | 284 => 211 | 285 => 212 | 286 => 213 | 129 => 249 | 317 => 248 | 318 => 250 | 319 => 251 | 320 => 252 | 337 => 265 | 338 => 266 | n => n, fun | 9 => 9 | 3 => 3 | 75 => 104 | 76 => 105 | 4 => 4 | 5 => 5 | 167 => 291 | 37 => 98 | 0 => 0 | 85 => 292 | 2 => 2 | 168 => 294 | 53 => 279 | 175 => 314 | 46 => 306 | 210 => 318 | 127 => 191 | 145 => 333 | 143 => 331 | 21 => 21 | 171 => 278 | 173 => 282 | 212 => 303 | 51 => 304 | 20 => 20 | 213 => 305 | 232 => 334 | 233 => 335 | 80 => 111 | n => n, fun | 15 => 2 | 16 => 3 | 17 => 0 | 18 => 6 | 19 => 7 | n => n⟩
theorem Tryz.laysC172 : Go.Proofs.LaysC.n172 Tryz.prog Tryz.laysC172_ren := {
 mixed := by kernel_rfl
 f129 := Tryz.func249.trans (congrArg some (by kernel_rfl))
 f171 := Tryz.func42.trans (congrArg some (by kernel_rfl))
 f172 := Tryz.func147.trans (congrArg some (by kernel_rfl))
 f205 := Tryz.func260.trans (congrArg some (by kernel_rfl))
 f243 := Tryz.func109.trans (congrArg some (by kernel_rfl))
 f244 := Tryz.func195.trans (congrArg some (by kernel_rfl))
 f245 := Tryz.func196.trans (congrArg some (by kernel_rfl))
 f246 := Tryz.func166.trans (congrArg some (by kernel_rfl))
 f247 := Tryz.func235.trans (congrArg some (by kernel_rfl))
 f279 := Tryz.func236.trans (congrArg some (by kernel_rfl))
 f280 := Tryz.func237.trans (congrArg some (by kernel_rfl))
 f281 := Tryz.func238.trans (congrArg some (by kernel_rfl))
 f282 := Tryz.func239.trans (congrArg some (by kernel_rfl))
 f283 := Tryz.func210.trans (congrArg some (by kernel_rfl))
 f284 := Tryz.func211.trans (congrArg some (by kernel_rfl))
 f285 := Tryz.func212.trans (congrArg some (by kernel_rfl))
 f286 := Tryz.func213.trans (congrArg some (by kernel_rfl))
 f287 := Tryz.func258.trans (congrArg some (by kernel_rfl))
 f316 := Tryz.func259.trans (congrArg some (by kernel_rfl))
 f317 := Tryz.func248.trans (congrArg some (by kernel_rfl))
 f318 := Tryz.func250.trans (congrArg some (by kernel_rfl))
 f319 := Tryz.func251.trans (congrArg some (by kernel_rfl))
 f320 := Tryz.func252.trans (congrArg some (by kernel_rfl))
 f321 := Tryz.func270.trans (congrArg some (by kernel_rfl))
 f322 := Tryz.func271.trans (congrArg some (by kernel_rfl))
 f337 := Tryz.func265.trans (congrArg some (by kernel_rfl))
 f338 := Tryz.func266.trans (congrArg some (by kernel_rfl))
 t0 := Tryz.underlying0
 a0 := Tryz.isAgg0
 z0 := Tryz.sizeOf0
 v0 := Tryz.zeroValue0
 t2 := Tryz.underlying2
 a2 := Tryz.isAgg2
 z2 := Tryz.sizeOf2
 v2 := Tryz.zeroValue2
 t3 := Tryz.underlying3
 a3 := Tryz.isAgg3
 z3 := Tryz.sizeOf3
 v3 := Tryz.zeroValue3
 t4 := Tryz.underlying4
 a4 := Tryz.isAgg4
 z4 := Tryz.sizeOf4
 v4 := Tryz.zeroValue4
 t5 := Tryz.underlying5
 a5 := Tryz.isAgg5
 z5 := Tryz.sizeOf5
 v5 := Tryz.zeroValue5
 t9 := Tryz.underlying9
 a9 := Tryz.isAgg9
 z9 := Tryz.sizeOf9
 v9 := Tryz.zeroValue9
 t20 := Tryz.underlying20
 a20 := Tryz.isAgg20
 z20 := Tryz.sizeOf20
 v20 := Tryz.zeroValue20
 t21 := Tryz.underlying21
 a21 := Tryz.isAgg21
 z21 := Tryz.sizeOf21
 v21 := Tryz.zeroValue21
 t37 := Tryz.underlying98
 a37 := Tryz.isAgg98
 z37 := Tryz.sizeOf98
 v37 := Tryz.zeroValue98
 t46 := Tryz.underlying306
 a46 := Tryz.isAgg306
 z46 := Tryz.sizeOf306
 v46 := Tryz.zeroValue306
 t51 := Tryz.underlying304
 a51 := Tryz.isAgg304
 z51 := Tryz.sizeOf304
 v51 := Tryz.zeroValue304
 t53 := Tryz.underlying279
 a53 := Tryz.isAgg279
 z53 := Tryz.sizeOf279
 v53 := Tryz.zeroValue279
 t75 := Tryz.underlying104
 a75 := Tryz.isAgg104
 z75 := Tryz.sizeOf104
 v75 := Tryz.zeroValue104
 t76 := Tryz.underlying105
 a76 := Tryz.isAgg105
 z76 := Tryz.sizeOf105
 v76 := Tryz.zeroValue105
 t85 := Tryz.underlying292
 a85 := Tryz.isAgg292
 z85 := Tryz.sizeOf292
 v85 := Tryz.zeroValue292
 t127 := Tryz.underlying191
 a127 := Tryz.isAgg191
 z127 := Tryz.sizeOf191
 v127 := Tryz.zeroValue191
 t143 := Tryz.underlying331
 a143 := Tryz.isAgg331
 z143 := Tryz.sizeOf331
 v143 := Tryz.zeroValue331
 t145 := Tryz.underlying333
 a145 := Tryz.isAgg333
 z145 := Tryz.sizeOf333
 v145 := Tryz.zeroValue333
 t167 := Tryz.underlying291
 a167 := Tryz.isAgg291
 z167 := Tryz.sizeOf291
 v167 := Tryz.zeroValue291
 t168 := Tryz.underlying294
 a168 := Tryz.isAgg294
 z168 := Tryz.sizeOf294
 v168 := Tryz.zeroValue294
 t171 := Tryz.underlying278
 a171 := Tryz.isAgg278
 z171 := Tryz.sizeOf278
 v171 := Tryz.zeroValue278
 t173 := Tryz.underlying282
 a173 := Tryz.isAgg282
 z173 := Tryz.sizeOf282
 v173 := Tryz.zeroValue282
 t175 := Tryz.underlying314
 a175 := Tryz.isAgg314
 z175 := Tryz.sizeOf314
 v175 := Tryz.zeroValue314
 t210 := Tryz.underlying318
 a210 := Tryz.isAgg318
 z210 := Tryz.sizeOf318
 v210 := Tryz.zeroValue318
 t212 := Tryz.underlying303
 a212 := Tryz.isAgg303
 z212 := Tryz.sizeOf303
 v212 := Tryz.zeroValue303
 t213 := Tryz.underlying305
 a213 := Tryz.isAgg305
 z213 := Tryz.sizeOf305
 t232 := Tryz.underlying334
 a232 := Tryz.isAgg334
 z232 := Tryz.sizeOf334
 v232 := Tryz.zeroValue334
 t233 := Tryz.underlying335
 a233 := Tryz.isAgg335
 z233 := Tryz.sizeOf335
 v233 := Tryz.zeroValue335
 g15 := by kernel_rfl
 g16 := by kernel_rfl
 g17 := by kernel_rfl
 g18 := by kernel_rfl
 g19 := by kernel_rfl
 t80 := Tryz.underlying111
 a80 := Tryz.isAgg111
 z80 := Tryz.sizeOf111
 v80 := Tryz.zeroValue111
 i0 := by kernel_rfl
 i2 := by kernel_rfl
 i3 := by kernel_rfl
 i4 := by kernel_rfl
 i5 := by kernel_rfl
 i9 := by kernel_rfl
 i20 := by kernel_rfl
 i21 := by kernel_rfl
 i37 := by kernel_rfl
 i46 := by kernel_rfl
 i51 := by kernel_rfl
 i53 := by kernel_rfl
 i75 := by kernel_rfl
 i76 := by kernel_rfl
 i80 := by kernel_rfl
 i85 := by kernel_rfl
 i127 := by kernel_rfl
 i143 := by kernel_rfl
 i145 := by kernel_rfl
 i167 := by kernel_rfl
 i168 := by kernel_rfl
 i171 := by kernel_rfl
 i173 := by kernel_rfl
 i175 := by kernel_rfl
 i210 := by kernel_rfl
 i212 := by kernel_rfl
 i232 := by kernel_rfl
 i233 := by kernel_rfl
 m15 := by kernel_rfl
 m16 := by kernel_rfl
 m17 := by kernel_rfl
 m18 := by kernel_rfl
 m19 := by kernel_rfl
 c0 := by kernel_rfl
 c2 := by kernel_rfl
 c3 := by kernel_rfl
 c4 := by kernel_rfl
 c5 := by kernel_rfl
 c9 := by kernel_rfl
 c20 := by kernel_rfl
 c21 := by kernel_rfl
 c37 := by kernel_rfl
 c46 := by kernel_rfl
 c51 := by kernel_rfl
 c53 := by kernel_rfl
 c75 := by kernel_rfl
 c76 := by kernel_rfl
 c80 := by kernel_rfl
 c85 := by kernel_rfl
 c127 := by kernel_rfl
 c143 := by kernel_rfl
 c145 := by kernel_rfl
 c167 := by kernel_rfl
 c168 := by kernel_rfl
 c171 := by kernel_rfl
 c173 := by kernel_rfl
 c175 := by kernel_rfl
 c210 := by kernel_rfl
 c212 := by kernel_rfl
 c213 := by kernel_rfl
 c232 := by kernel_rfl
 c233 := by kernel_rfl }
open Go.RowKit in
theorem Tryz.strconv_Atoi_ok (s : ByteArray) (hmax : s.size ≤ 9223372036854775806) (v : Int) (h : Lib.atoiAll s.data.toList = .ok v) (w : World) :
 Calls Tryz.prog 147 #[.string s] w fun e w' => e = .returned (.tuple #[.int .i64 v, .nilIface]) ∧ (w' = w ∨ ∃ t, w' = Lib.bytesWorld w 5 t) := Any.strconv_Atoi_ok Tryz.laysC172 s hmax v h w
def Tryz.lays99_ren : Go.Shelf.Ren := ⟨fun | 99 => 184 | 206 => 229 | n => n, fun | 9 => 9 | 4 => 4 | 3 => 3 | n => n, fun | n => n⟩
theorem Tryz.lays99 : Go.Proofs.Lays.n99 Tryz.prog Tryz.lays99_ren := {
 mixed := by kernel_rfl
 f99 := Tryz.func184.trans (congrArg some (by kernel_rfl))
 f206 := Tryz.func229.trans (congrArg some (by kernel_rfl))
 t3 := Tryz.underlying3
 a3 := Tryz.isAgg3
 z3 := Tryz.sizeOf3
 v3 := Tryz.zeroValue3
 t4 := Tryz.underlying4
 a4 := Tryz.isAgg4
 z4 := Tryz.sizeOf4
 v4 := Tryz.zeroValue4
 t9 := Tryz.underlying9
 a9 := Tryz.isAgg9
 z9 := Tryz.sizeOf9
 v9 := Tryz.zeroValue9 }
open Go.RowKit Go.Lib in
theorem Tryz.strings_HasPrefix (s p : ByteArray) (w : World) :
 Calls Tryz.prog 184 #[.string s, .string p] w fun e w' => e = .returned (.bool (Lib.hasPrefix s.data.toList p.data.toList)) ∧ w' = w := Any.strings_HasPrefix Tryz.lays99 s p w
def Tryz.lays109_ren : Go.Shelf.Ren := ⟨fun | 109 => 152 | n => n, fun | 31 => 55 | 9 => 9 | 3 => 3 | 0 => 0 | 4 => 4 | n => n, fun | n => n⟩
theorem Tryz.lays109 : Go.Proofs.Lays.n109 Tryz.prog Tryz.lays109_ren := {
 mixed := by kernel_rfl
 f109 := Tryz.func152.trans (congrArg some (by kernel_rfl))
 t0 := Tryz.underlying0
 a0 := Tryz.isAgg0
 z0 := Tryz.sizeOf0
 v0 := Tryz.zeroValue0
 t3 := Tryz.underlying3
 a3 := Tryz.isAgg3
 z3 := Tryz.sizeOf3
 v3 := Tryz.zeroValue3
 t4 := Tryz.underlying4
 a4 := Tryz.isAgg4
 z4 := Tryz.sizeOf4
 v4 := Tryz.zeroValue4
 t9 := Tryz.underlying9
 a9 := Tryz.isAgg9
 z9 := Tryz.sizeOf9
 v9 := Tryz.zeroValue9
 t31 := Tryz.underlying55
 a31 := Tryz.isAgg55
 z31 := Tryz.sizeOf55
 v31 := Tryz.zeroValue55 }
open Go.Lib in
theorem Tryz.slices_Index_string (b off n c : Nat) (zs : List ByteArray) (x : ByteArray) (w : World) (hz : n ≤ zs.length) (hbig : n ≤ 9223372036854775807) (hc : ∀ j, j < zs.length → w.cell? ⟨b, off + j, none⟩ = some (.string (zs.getD j ByteArray.empty))) :
 Calls Tryz.prog 152 #[.slice (some ⟨b, off, none⟩) n c, .string x] w fun e w' => e = .returned (.int .i64 (Lib.idxOfS (zs.take n) x)) ∧ w' = w := Any.slices_Index_string Tryz.lays109 b off n c zs x w hz hbig hc
def Tryz.lays110_ren : Go.Shelf.Ren := ⟨fun | 110 => 86 | 109 => 152 | n => n, fun | 31 => 55 | 9 => 9 | 4 => 4 | 3 => 3 | 0 => 0 | n => n, fun | n => n⟩
theorem Tryz.lays110 : Go.Proofs.Lays.n110 Tryz.prog Tryz.lays110_ren := {
 mixed := by kernel_rfl
 f109 := Tryz.func152.trans (congrArg some (by kernel_rfl))
 f110 := Tryz.func86.trans (congrArg some (by kernel_rfl))
 t0 := Tryz.underlying0
 a0 := Tryz.isAgg0
 z0 := Tryz.sizeOf0
 v0 := Tryz.zeroValue0
 t3 := Tryz.underlying3
 a3 := Tryz.isAgg3
 z3 := Tryz.sizeOf3
 v3 := Tryz.zeroValue3
 t4 := Tryz.underlying4
 a4 := Tryz.isAgg4
 z4 := Tryz.sizeOf4
 v4 := Tryz.zeroValue4
 t9 := Tryz.underlying9
 a9 := Tryz.isAgg9
 z9 := Tryz.sizeOf9
 v9 := Tryz.zeroValue9
 t31 := Tryz.underlying55
 a31 := Tryz.isAgg55
 z31 := Tryz.sizeOf55
 v31 := Tryz.zeroValue55 }
open Go.Lib in
theorem Tryz.slices_Contains_string (b off n c : Nat) (zs : List ByteArray) (x : ByteArray) (w : World) (hz : n ≤ zs.length) (hbig : n ≤ 9223372036854775807) (hc : ∀ j, j < zs.length → w.cell? ⟨b, off + j, none⟩ = some (.string (zs.getD j ByteArray.empty))) :
 Calls Tryz.prog 86 #[.slice (some ⟨b, off, none⟩) n c, .string x] w fun e w' => e = .returned (.bool (Lib.containsS (zs.take n) x)) ∧ w' = w := Any.slices_Contains_string Tryz.lays110 b off n c zs x w hz hbig hc
end Go.Proofs
namespace Go.Proofs
open Go.Shelf
def Tryz.laysD160_ren : Go.Shelf.Ren := ⟨fun | 160 => 146 | 232 => 189 | 231 => 188 | 227 => 190 | 234 => 192 | 233 => 191 | 236 => 194 | 235 => 193 | 228 => 231 | 271 => 234 | 151 => 233 | 197 => 232 | 120 => 257 | 152 => 256 | 260 => 255 | 137 => 139 | 119 => 267 | 224 => 268 | 225 => 269 | 217 => 185 | 266 => 230 | n => n, fun | 9 => 9 | 4 => 4 | 3 => 3 | 5 => 5 | 117 => 263 | 116 => 262 | 0 => 0 | 124 => 266 | 21 => 21 | 105 => 288 | 46 => 306 | 119 => 147 | 139 => 327 | 138 => 326 | n => n, fun | 3 => 4 | 4 => 5 | n => n⟩
theorem Tryz.laysD160 : Go.Proofs.Lays.n160 Tryz.prog Tryz.laysD160_ren := {
 mixed := by kernel_rfl
 f119 := Tryz.func267.trans (congrArg some (by kernel_rfl))
 f120 := Tryz.func257.trans (congrArg some (by kernel_rfl))
 f137 := Tryz.func139.trans (congrArg some (by kernel_rfl))
 f151 := Tryz.func233.trans (congrArg some (by kernel_rfl))
 f152 := Tryz.func256.trans (congrArg some (by kernel_rfl))
 f160 := Tryz.func146.trans (congrArg some (by kernel_rfl))
 f197 := Tryz.func232.trans (congrArg some (by kernel_rfl))
 f217 := Tryz.func185.trans (congrArg some (by kernel_rfl))
 f224 := Tryz.func268.trans (congrArg some (by kernel_rfl))
 f225 := Tryz.func269.trans (congrArg some (by kernel_rfl))
 f227 := Tryz.func190.trans (congrArg some (by kernel_rfl))
 f228 := Tryz.func231.trans (congrArg some (by kernel_rfl))
 f231 := Tryz.func188.trans (congrArg some (by kernel_rfl))
 f232 := Tryz.func189.trans (congrArg some (by kernel_rfl))
 f233 := Tryz.func191.trans (congrArg some (by kernel_rfl))
 f234 := Tryz.func192.trans (congrArg some (by kernel_rfl))
 f235 := Tryz.func193.trans (congrArg some (by kernel_rfl))
 f236 := Tryz.func194.trans (congrArg some (by kernel_rfl))
 f260 := Tryz.func255.trans (congrArg some (by kernel_rfl))
 f266 := Tryz.func230.trans (congrArg some (by kernel_rfl))
 f271 := Tryz.func234.trans (congrArg some (by kernel_rfl))
 t0 := Tryz.underlying0
 a0 := Tryz.isAgg0
 z0 := Tryz.sizeOf0
 v0 := Tryz.zeroValue0
 t3 := Tryz.underlying3
 a3 := Tryz.isAgg3
 z3 := Tryz.sizeOf3
 v3 := Tryz.zeroValue3
 t4 := Tryz.underlying4
 a4 := Tryz.isAgg4
 z4 := Tryz.sizeOf4
 v4 := Tryz.zeroValue4
 t5 := Tryz.underlying5
 a5 := Tryz.isAgg5
 z5 := Tryz.sizeOf5
 v5 := Tryz.zeroValue5
 t9 := Tryz.underlying9
 a9 := Tryz.isAgg9
 z9 := Tryz.sizeOf9
 v9 := Tryz.zeroValue9
 t21 := Tryz.underlying21
 a21 := Tryz.isAgg21
 z21 := Tryz.sizeOf21
 v21 := Tryz.zeroValue21
 t46 := Tryz.underlying306
 a46 := Tryz.isAgg306
 z46 := Tryz.sizeOf306
 v46 := Tryz.zeroValue306
 t105 := Tryz.underlying288
 a105 := Tryz.isAgg288
 z105 := Tryz.sizeOf288
 v105 := Tryz.zeroValue288
 t116 := Tryz.underlying262
 a116 := Tryz.isAgg262
 z116 := Tryz.sizeOf262
 t117 := Tryz.underlying263
 a117 := Tryz.isAgg263
 z117 := Tryz.sizeOf263
 v117 := Tryz.zeroValue263
 t119 := Tryz.underlying147
 a119 := Tryz.isAgg147
 z119 := Tryz.sizeOf147
 t124 := Tryz.underlying266
 a124 := Tryz.isAgg266
 z124 := Tryz.sizeOf266
 v124 := Tryz.zeroValue266
 t138 := Tryz.underlying326
 a138 := Tryz.isAgg326
 z138 := Tryz.sizeOf326
 v138 := Tryz.zeroValue326
 t139 := Tryz.underlying327
 a139 := Tryz.isAgg327
 z139 := Tryz.sizeOf327
 v139 := Tryz.zeroValue327
 g3 := by kernel_rfl
 g4 := by kernel_rfl }
open Go.RowKit in
theorem Tryz.strings_Trim_one (s : ByteArray) (c : UInt8) (hc : c.toNat < 128) (w : World) (hs : s.size ≤ 9223372036854775807) :
 Calls Tryz.prog 146 #[.string s, .string ⟨#[c]⟩] w fun e w' => e = .returned (.string ⟨(Lib.trimB s.data.toList c).toArray⟩) ∧ (w' = w ∨ w' = w.drew) := Any.strings_Trim_one Tryz.laysD160 s c hc w hs
end Go.Proofs
namespace Go.Proofs.YtekkapgknohadaaGreatDoor
instance : DecidableEq ByteArray := fun a b => if h : a.data = b.data then .isTrue (by cases a; cases b; exact congrArg ByteArray.mk h) else .isFalse (fun e => h (by rw [e]))
def memD {α : Type} [DecidableEq α] (s : α) (S : List α) : Bool := S.any fun t => decide (t = s)
theorem memD_iff {α : Type} [DecidableEq α] {s : α} {S : List α} : memD s S = true ↔ s ∈ S := by
 unfold memD
 rw [List.any_eq_true]
 constructor
 ·rintro ⟨t, h1, h2⟩; rw [← of_decide_eq_true h2]; exact h1
 ·intro h; exact ⟨s, h, decide_eq_true rfl⟩
theorem memD_snoc {α : Type} [DecidableEq α] {s t : α} {S : List α} : memD s (S ++ [t]) = (memD s S || decide (t = s)) := by simp [memD]
structure Nk where
 kind : Int
 num : Int
 name : ByteArray
 attr : ByteArray
 kids : List Int
 at_ : Int
abbrev Bp := ByteArray × ByteArray
structure Po where
 name : ByteArray
 uses : List Bp
 reveal : List Bp
 nodes : List Nk
 root : Int
 scope : ByteArray
 limit : Int
 escrow : ByteArray
def ltN (n : Nat) : Bool := decide ((97 ≤ n ∧ n ≤ 122) ∨ (65 ≤ n ∧ n ≤ 90))
def dgN (n : Nat) : Bool := decide (48 ≤ n ∧ n ≤ 57)
def nmN (n : Nat) : Bool := ltN n || dgN n || decide (n = 95)
def wdN (n : Nat) : Bool := nmN n || decide (n = 45)
def allN (p : Nat → Bool) (l : List UInt8) : Bool := l.all fun b => p b.toNat
def nameP (s : ByteArray) : Bool := if h : 0 < s.size then decide (s.size ≤ 32) && ltN s[0].toNat && allN nmN (tl s) && !Lx.kw (tl s) else false
def wordP (s : ByteArray) : Bool := decide (0 < s.size) && decide (s.size ≤ 32) && allN wdN (tl s)
def kidsP (kind : Int) (n : Nat) : Bool :=
 if kind = 0 ∨ kind = 1 ∨ kind = 9 ∨ kind = 10 ∨ kind = 11 then decide (n = 0)
 else if kind = 2 then decide (n = 1)
 else if kind = 3 ∨ kind = 4 ∨ kind = 5 then decide (1 ≤ n)
 else if kind = 6 then decide (n = 2)
 else if kind = 7 then decide (n = 3)
 else if kind = 8 then decide (2 ≤ n)
 else false
def textsP (n : Nk) : Bool :=
 if n.kind = 9 then nameP n.name && nameP n.attr
 else if n.kind = 11 then wordP n.name && decide (n.attr.size = 0)
 else decide (n.name.size = 0) && decide (n.attr.size = 0)
def lowP (n : Nk) : Int := if n.kind = 5 then 1 else if n.kind = 10 then -2147483648 else 0
def highP (n : Nk) : Int := if n.kind = 5 then (n.kids.length : Int) else if n.kind = 6 then 5 else if n.kind = 10 then 2147483647 else 0
def shapeP (n : Nk) (c : Bool) : Bool := decide (0 ≤ n.kind) && decide (n.kind < 12) && (decide (n.kind ≤ 8) == c) && kidsP n.kind n.kids.length && textsP n
def formP (n : Nk) (c : Bool) : Int := if shapeP n c = false then 3 else if n.num < lowP n ∨ highP n < n.num then 2 else 0
def loopP (v : Int → List Int → Int × List Int) : List Int → List Int → Int × List Int
 | [], S => (0, S)
 | k :: r, S => if (v k S).1 ≠ 0 then v k S else loopP v r (v k S).2
def visitP (ns : List Nk) : Nat → Int → Bool → List Int → Int × List Int
 | f, at_, c, S =>
   if at_ < 0 ∨ (ns.length : Int) ≤ at_ ∨ at_ ∈ S then (3, S)
   else match f with
    | 0 => (7, S)
    | f + 1 => match ns[at_.toNat]? with
      | none => (3, S)
      | some n => if formP n c ≠ 0 then (formP n c, S ++ [at_]) else loopP (fun k S => visitP ns f k (decide (n.kind ≤ 5)) S) n.kids (S ++ [at_])
def treeP (d : Po) : Int := if (visitP d.nodes 32 d.root true []).1 ≠ 0 then (visitP d.nodes 32 d.root true []).1 else if (visitP d.nodes 32 d.root true []).2.length ≠ d.nodes.length then 3 else 0
def zbz (l : List Bp) : Bool := l.all fun x => nameP x.1 && nameP x.2
def namesP (d : Po) : Bool := nameP d.name && (decide (d.escrow.size = 0) || nameP d.escrow) && (decide (d.scope.size = 0) || wordP d.scope) && zbz d.uses && zbz d.reveal
def twiceP {α : Type} [DecidableEq α] : List α → List α → Bool
 | _, [] => false
 | S, x :: r => memD x S || twiceP (S ++ [x]) r
abbrev Po.al (d : Po) : List ByteArray := d.uses.map Prod.fst
def checkP (d : Po) : Int :=
 if 512 < d.nodes.length ∨ d.uses.length < 1 ∨ 4 < d.uses.length ∨ 64 < d.reveal.length then 6
 else if namesP d = false then 3
 else if d.limit < 0 ∨ 65536 < d.limit ∨ (0 < d.limit ∧ d.scope.size = 0) then 2
 else if treeP d ≠ 0 then treeP d
 else if twiceP [] d.al = true ∨ twiceP [] d.reveal = true then 8
 else if d.reveal.all (fun x => memD x.1 d.al) = false then 9
 else if d.nodes.all (fun n => !decide (n.kind = 9) || memD n.name d.al) = false then 9
 else 0
theorem zau {ns : List Nk} {f : Nat} {at_ : Int} {c : Bool} {S : List Int} (h : at_ < 0 ∨ (ns.length : Int) ≤ at_ ∨ at_ ∈ S) : visitP ns f at_ c S = (3, S) := by
 unfold visitP; rw [if_pos h]
theorem zb6 {ns : List Nk} {at_ : Int} {c : Bool} {S : List Int} (h : ¬ (at_ < 0 ∨ (ns.length : Int) ≤ at_ ∨ at_ ∈ S)) : visitP ns 0 at_ c S = (7, S) := by
 unfold visitP; rw [if_neg h]
theorem zct {ns : List Nk} {f : Nat} {at_ : Int} {c : Bool} {S : List Int} {n : Nk} (h : ¬ (at_ < 0 ∨ (ns.length : Int) ≤ at_ ∨ at_ ∈ S)) (hn : ns[at_.toNat]? = some n) :
 visitP ns (f + 1) at_ c S = if formP n c ≠ 0 then (formP n c, S ++ [at_]) else loopP (fun k S => visitP ns f k (decide (n.kind ≤ 5)) S) n.kids (S ++ [at_]) := by
 rw [visitP, if_neg h, hn]
structure Met (ns : List Nk) (S : List Int) : Prop where
 nd : S.Nodup
 rg : ∀ x ∈ S, 0 ≤ x ∧ x < (ns.length : Int)
theorem loopP_met {ns : List Nk} {v : Int → List Int → Int × List Int} (hv : ∀ k S, Met ns S → Met ns (v k S).2) : ∀ (l S : List Int), Met ns S → Met ns (loopP v l S).2
 | [], S, h => h
 | k :: r, S, h => by
   rw [loopP]
   split
   ·exact hv k S h
   ·exact loopP_met hv r _ (hv k S h)
theorem Met.snoc {ns : List Nk} {S : List Int} {a : Int} (h : Met ns S) (h2 : ¬ (a < 0 ∨ (ns.length : Int) ≤ a ∨ a ∈ S)) : Met ns (S ++ [a]) := by
 refine ⟨?_, fun x hx => ?_⟩
 ·rw [List.nodup_append]
  refine ⟨h.nd, by simp, fun x hx y hy e => ?_⟩
  rw [List.mem_singleton.1 hy] at e
  exact h2 (.inr (.inr (e ▸ hx)))
 ·rcases List.mem_append.1 hx with hx | hx
  ·exact h.rg x hx
  ·rw [List.mem_singleton.1 hx]; omega
theorem visitP_met (ns : List Nk) : ∀ (f : Nat) (a : Int) (c : Bool) (S : List Int), Met ns S → Met ns (visitP ns f a c S).2
 | 0, a, c, S, h => by
   by_cases hb : a < 0 ∨ (ns.length : Int) ≤ a ∨ a ∈ S
   ·rw [zau hb]; exact h
   ·rw [zb6 hb]; exact h
 | f + 1, a, c, S, h => by
   by_cases hb : a < 0 ∨ (ns.length : Int) ≤ a ∨ a ∈ S
   ·rw [zau hb]; exact h
   ·obtain ⟨n, hn⟩ : ∃ n, ns[a.toNat]? = some n := ⟨_, List.getElem?_eq_getElem (by omega)⟩
    rw [zct hb hn]
    split
    ·exact h.snoc hb
    ·exact loopP_met (fun k S hS => visitP_met ns f k _ S hS) _ _ (h.snoc hb)
theorem Met.len {ns : List Nk} {S : List Int} (h : Met ns S) : S.length ≤ ns.length := by
 have h1 : (S.map Int.toNat).Nodup := by
  rw [List.nodup_iff_pairwise_ne, List.pairwise_map]
  refine (List.Pairwise.imp_of_mem ?_ (List.nodup_iff_pairwise_ne.1 h.nd))
  intro a b ha hb hab e
  have h2 := h.rg a ha
  have h3 := h.rg b hb
  omega
 have h2 := List.Nodup.length_le_of_subset (l₁ := S.map Int.toNat) (l₂ := List.range ns.length) h1 (fun x hx => by
  obtain ⟨y, hy, rfl⟩ := List.mem_map.1 hx
  have := h.rg y hy
  rw [List.mem_range]; omega)
 rw [List.length_map, List.length_range] at h2
 exact h2
theorem allN_take {p : Nat → Bool} {s : ByteArray} {k : Nat} (h : k < s.size) : allN p ((tl s).take (k + 1)) = (allN p ((tl s).take k) && p s[k].toNat) := by
 unfold allN
 rw [take_snoc s k h, List.all_append]; simp
theorem allN_bad {p : Nat → Bool} {s : ByteArray} {k : Nat} (h : k < s.size) (hp : p s[k].toNat = false) : allN p (tl s) = false := by
 unfold allN
 rw [Bool.eq_false_iff]
 intro h9
 have := List.all_eq_true.1 h9 s[k] (by rw [← zar s k h]; exact List.getElem_mem _)
 rw [hp] at this; cases this
theorem allN_full {p : Nat → Bool} {s : ByteArray} {k : Nat} (h : ¬ k < s.size) : allN p ((tl s).take k) = allN p (tl s) := by
 rw [List.take_of_length_le (by rw [zab]; omega)]
open Go.RowKit
structure Kp (w : World) (bl : List (Nat × TypeId × List Value)) (W : World) : Prop where
 blk : ∀ x ∈ bl, Blk W x.1 x.2.1 x.2.2
 below : Below w.heap.size w W
theorem Kp.drew {w W : World} {bl : List (Nat × TypeId × List Value)} (h : Kp w bl W) : Kp w bl W.drew := ⟨h.blk, h.below.drew⟩
theorem Kp.alloc {w W : World} {bl : List (Nat × TypeId × List Value)} (h : Kp w bl W) (o : Obj) : Kp w bl (W.alloc o) :=
 ⟨fun x hx => (h.blk x hx).alloc o, h.below.alloc h.below.size o⟩
theorem Kp.new {w W : World} {bl : List (Nat × TypeId × List Value)} (h : Kp w bl W) (t : TypeId) (cs : List Value) : Kp w ((W.heap.size, t, cs) :: bl) (W.alloc (.cells cs.toArray t)) :=
 ⟨fun x hx => by
  rcases List.mem_cons.1 hx with rfl | hx
  ·exact Blk.new _ _ _
  ·exact (h.blk x hx).alloc _, h.below.alloc h.below.size _⟩
end Go.Proofs.YtekkapgknohadaaGreatDoor
