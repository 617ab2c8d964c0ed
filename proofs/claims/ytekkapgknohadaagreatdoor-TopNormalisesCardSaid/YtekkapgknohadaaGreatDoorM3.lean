/- Steps through a drawn region, with their side facts found by themselves. -/
import Derived.Test.YtekkapgknohadaaGreatDoorM2
import Derived.Deep.RegionHeldLaw
import Derived.Maps.OwnSet
import Derived.DeepKeys4
set_option linter.unusedVariables false
set_option maxRecDepth 100000
namespace Go.Proofs.YtekkapgknohadaaGreatDoor
open Go.RowKit
theorem tkW (i : Nat) {P : Program} {ops : Array Oper} {Q : Exit → Act → World → Prop} {md : Region.Mode} {S : World → Prop} {oi : Oper} {v : Value} {fuel : Nat} {listed : Array Bool} {a : Act} {w : World} (hi : ops[i]? = some oi) (hy : YieldsIf P ops S oi v a) (h : wpAnyH P md ops Q S fuel (listed.setIfInBounds i true) (a.put oi.dst v) w) (hs : Region.noSelect ops = true := by kernel_rfl) (hf : Region.free md ops listed i = true := by kernel_rfl) (hr : (Region.ready md ops listed).contains i = true := by kernel_rfl) (hQ : ∀ c a w, Q (.panic c) (a.put oi.dst v) w → Q (.panic c) a w := by exact fun _ _ _ h => h) (hS : S w := by assumption) : wpAnyH P md ops Q S (fuel + 1) listed a w := wpAnyH_take hi hs hf hr hQ hy hS h
theorem tk2 (i : Nat) {P : Program} {ops : Array Oper} {Q : Exit → Act → World → Prop} {md : Region.Mode} {S : World → Prop} {oi : Oper} {v : Value} {fuel : Nat} {listed : Array Bool} {a : Act} {w : World} (hi : ops[i]? = some oi) (h : wpAnyH P md ops Q S fuel (listed.setIfInBounds i true) (a.put oi.dst v) w) (hs : Region.noSelect ops = true := by kernel_rfl) (hf : Region.free md ops listed i = true := by kernel_rfl) (hr : (Region.ready md ops listed).contains i = true := by kernel_rfl) (hQ : ∀ c a w, Q (.panic c) (a.put oi.dst v) w → Q (.panic c) a w := by exact fun _ _ _ h => h) (hS : S w := by assumption) (hy : YieldsIf P ops S oi v a := by exact Or.inl ⟨by rfl, by (intro w hSw; (try dsimp only at hSw); (try obtain ⟨hSw1, hSw2⟩ := hSw); go_simp; (try with_reducible rfl))⟩) : wpAnyH P md ops Q S (fuel + 1) listed a w := wpAnyH_take hi hs hf hr hQ hy hS h
theorem tk3 (i : Nat) {P : Program} {ops : Array Oper} {Q : Exit → Act → World → Prop} {md : Region.Mode} {S : World → Prop} {oi : Oper} {v : Value} {fuel : Nat} {listed : Array Bool} {a : Act} {w : World} (hi : ops[i]? = some oi) (h : wpAnyH P md ops Q S fuel (listed.setIfInBounds i true) (a.put oi.dst v) w) (hs : Region.noSelect ops = true := by kernel_rfl) (hf : Region.free md ops listed i = true := by kernel_rfl) (hr : (Region.ready md ops listed).contains i = true := by kernel_rfl) (hQ : ∀ c a w, Q (.panic c) (a.put oi.dst v) w → Q (.panic c) a w := by exact fun _ _ _ h => h) (hS : S w := by assumption) (hy : YieldsIf P ops S oi v a := by exact Or.inl ⟨by rfl, by (intro w hSw; (try dsimp only at hSw); (try obtain ⟨hSw1, hSw2, hSw3⟩ := hSw); go_simp; (try with_reducible rfl))⟩) : wpAnyH P md ops Q S (fuel + 1) listed a w := wpAnyH_take hi hs hf hr hQ hy hS h
theorem tkR {P : Program} {ops : Array Oper} {Q : Exit → Act → World → Prop} {md : Region.Mode} {S : World → Prop} (rs : List Nat) {fuel : Nat} {listed : Array Bool} {a : Act} {w : World} (h : AllReadyH P md ops Q S fuel listed a w rs) (hr : Region.ready md ops listed = rs := by kernel_rfl) (hne : rs ≠ [] := by simp) : wpAnyH P md ops Q S (fuel + 1) listed a w := wpAnyH_ready hr hne h
theorem tkO {P : Program} {ops : Array Oper} {Q : Exit → Act → World → Prop} {md : Region.Mode} {S : World → Prop} (i : Nat) {o : Oper} {fuel : Nat} {listed : Array Bool} {a : Act} {w : World} (ho : ops[i]? = some o) (h : ∀ K' : Act → World → Prop, Shut (∀ a w, S w → (S w → wpAnyH P md ops Q S fuel (listed.setIfInBounds i true) a w) → K' a w) → if Region.wanted o (yielded ops a.tmps) = true then Oper.wp P o a w K' Q else K' (a.put o.dst undef) w) (hr : Region.ready md ops listed = [i] := by kernel_rfl) : wpAnyH P md ops Q S (fuel + 1) listed a w := wpAnyH_ready hr (by simp) (AllReadyH.cons ho h AllReadyH.nil)
theorem c3 {w : World} {g : Nat} {t : TypeId} {cs : List Value} (h : Blk w g t cs) : w.cell? ⟨g, 1, none⟩ = cs[1]? ∧ w.cell? ⟨g, 2, none⟩ = cs[2]? ∧ w.cell? ⟨g, 3, none⟩ = cs[3]? := ⟨h.cell 1, h.cell 2, h.cell 3⟩
theorem tS1 {α : Type} {l : List α} {i : Nat} (h : i < l.toArray.size) : l.toArray[i] = l[i]'(by simpa using h) := rfl
theorem tS2 {α : Type} {a : α} {l : List α} (h : 0 < (a :: l).length) : (a :: l)[0] = a := rfl
theorem tS3 {α : Type} {a : α} {l : List α} {i : Nat} (h : i + 1 < (a :: l).length) : (a :: l)[i + 1] = l[i]'(Nat.lt_of_succ_lt_succ h) := rfl
theorem tS4 {α : Type} (l : List α) (i : Nat) (a : α) : l.toArray.setIfInBounds i a = (l.set i a).toArray := by simp
theorem tS5 {α : Type} {x : α} {l : List α} {a : α} : (x :: l).set 0 a = a :: l := rfl
theorem tS6 {α : Type} {x : α} {l : List α} {i : Nat} {a : α} : (x :: l).set (i + 1) a = x :: l.set i a := rfl
open Go.RowKit Go.Maps Go.WideMaps
set_option linter.unusedSectionVars false
theorem zeroB (w : World) : (zeroValue 4).run Tryz.prog w = .ok (.bool false) w := by kernel_rfl
structure KeyD (α : Type) where
 t : TypeId
 mt : TypeId
 law : Keyed Tryz.prog t
 und : Tryz.prog.underlying mt = some (.map t 4)
 val : α → Value
 kl : α → Lit
 ok : α → Prop
 key : ∀ x, ok x → keyOf Tryz.prog t (val x) = some (kl x)
 inj : ∀ x y, ok x → ok y → kl x = kl y → x = y
section
variable {α : Type} [DecidableEq α] (D : KeyD α)
def KeyD.setD (S : List α) : DataW Unit := setOf (.lit (.bool true)) (S.map D.kl)
theorem KeyD.setD_snoc (S : List α) (s : α) : D.setD (S ++ [s]) = (D.setD S).put (D.kl s) (.lit (.bool true)) := by
 unfold KeyD.setD
 rw [List.map_append]
 exact setOf_snoc _ _ _
theorem KeyD.isMap (S : List α) : IsMap (D.setD S) := by
 unfold KeyD.setD setOf
 have : ∀ (l : List Lit) (m : DataW Unit), IsMap m → IsMap (l.foldl (fun m x => m.put x (.lit (.bool true))) m) := by
  intro l
  induction l with
  | nil => intro m h; exact h
  | cons a l ih => intro m h; exact ih _ (h.put _ _)
 exact this _ _ isMap_empty
theorem KeyD.isKey (s : α) (h : D.ok s) : WideAt.IsKeyLit (D.kl s) := D.law.key (D.key s h)
theorem KeyD.at_ (s : α) (h : D.ok s) : ∀ (n : Nat) (S : List α), (∀ x ∈ S, D.ok x) → S.length = n → (D.setD S).atKey (D.kl s) (.lit (.bool false)) = .lit (.bool (memD s S)) := by
 intro n
 induction n with
 | zero =>
   intro S _ hS
   rw [List.eq_nil_of_length_eq_zero hS]
   simp [KeyD.setD, setOf, DataW.atKey, memD]
 | succ n ih =>
   intro S hok hS
   obtain ⟨T, t, rfl⟩ : ∃ T t, S = T ++ [t] := ⟨S.dropLast, S.getLast (by intro h9; rw [h9] at hS; cases hS), (List.dropLast_concat_getLast _).symm⟩
   have hT : T.length = n := by simpa using hS
   have ht := hok t (by simp)
   rw [D.setD_snoc]
   by_cases hst : s = t
   ·subst hst
    rw [atKey_put_same (D.isMap T) (D.isKey s h), memD_snoc]
    simp
   ·rw [atKey_put_other (fun e => hst (D.inj _ _ h ht e)), ih T (fun x hx => hok x (List.mem_append_left _ hx)) hT, memD_snoc]
    have : ¬ t = s := fun h => hst h.symm
    simp [this]
def iset (b : Nat) (S : List α) : It := ⟨[b], fun W => (∀ x ∈ S, D.ok x) ∧ W.ownsMap Tryz.prog D.t (plainElem (H := Unit) Tryz.prog 4) b S.length (D.setD S), fun W W' h hp => by
 obtain ⟨ho, es, clock, hb, r⟩ := hp
 exact ⟨ho, es, clock, (h b (List.mem_singleton.2 rfl)).trans hb, r⟩, fun W hp b' hb => by rw [List.mem_singleton.1 hb]; exact World.ownsMap.lt hp.2⟩
theorem zcw {W : World} {b : Nat} {S : List α} (h : (iset D b S).P W) (s : α) (hs : D.ok s) : (Instr.lookup D.mt (.map (some b)) (D.val s) false).run Tryz.prog W = .ok (.bool (memD s S)) W := by
 obtain ⟨v, ps, hrun, hv⟩ := World.ownsMap.lookup h.2 D.law D.und (zeroB W) (plainElem_bool Tryz.underlying4 false) (D.key s hs)
 rw [D.at_ s hs _ S h.1 rfl] at hv
 rw [hrun]
 have : v = .bool (memD s S) := by
  have hu : Tryz.prog.underlying 4 = some .bool := Tryz.underlying4
  unfold plainElem at hv
  rw [hu] at hv
  cases v <;> simp at hv
  simp [hv]
 rw [this]
theorem Hp.setNew {o : List Nat} {w W : World} {it : List It} (h : Hp o w it W) : Hp o w (iset D W.heap.size [] :: it) (W.alloc (.map #[] 0)) := by
 have h1 : Hp (ow []) W [iset D W.heap.size []] (W.alloc (.map #[] 0)) := by
  refine ⟨⟨fun x hx => ?_, by simp [iset]⟩, ⟨(Below.refl _ _).alloc (Nat.zero_le _) _, fun k hk _ => Below.heap_alloc _ _ _ hk, fun b hb => .inr ?_⟩⟩
  ·rw [List.mem_singleton.1 hx]; exact ⟨fun x hx => absurd hx List.not_mem_nil, World.ownsMap_made _ _ _ _⟩
  ·simp [iset] at hb; omega
 exact Hp.call (a := []) h h1
theorem Hp.setPut {o : List Nat} {w W W' : World} {it : List It} (h : Hp o w it W) (i : Nat) {b : Nat} {S : List α} (hx : it[i]? = some (iset D b S)) {s : α} (hs : D.ok s) (hown : W'.ownsMap Tryz.prog D.t (plainElem (H := Unit) Tryz.prog 4) b (S.length + 1) ((D.setD S).put (D.kl s) (.lit (.bool true)))) (hg : W.grownBy W' (some b)) :
 Hp o w (it.set i (iset D b (S ++ [s]))) W' := by
 have hP : (iset D b S).P W := h.sep.ok _ (List.mem_of_getElem? hx)
 refine h.upd i hx (x' := iset D b (S ++ [s])) ?_ ⟨⟨hg.os, hg.tape, hg.output, hg.size, fun k hk => absurd hk (Nat.not_lt_zero _)⟩, fun k hk ho => hg.block k hk (fun h9 => ho ?_), fun b' hb => .inl hb⟩ (by simp [iset])
 ·refine ⟨fun x hx => ?_, ?_⟩
  ·rcases List.mem_append.1 hx with hx | hx
   ·exact hP.1 x hx
   ·rw [List.mem_singleton.1 hx]; exact hs
  ·show W'.ownsMap _ _ _ b (S ++ [s]).length (D.setD (S ++ [s]))
   rw [List.length_append, D.setD_snoc]
   exact hown
 ·injection h9 with h9
  rw [h9]; simp [iset]
theorem iset_own {W : World} {b : Nat} {S : List α} (h : (iset D b S).P W) : W.ownsMap Tryz.prog D.t (plainElem (H := Unit) Tryz.prog 4) b S.length (D.setD S) := h.2
theorem addKeys : ∀ (xs L : List Lit), (∀ x ∈ xs, ∀ y ∈ L, y ≠ x) → xs.Nodup → (xs.foldl addKey L).length = L.length + xs.length
 | [], L, _, _ => rfl
 | x :: r, L, h, hn => by
   have e : addKey L x = L ++ [x] := by
    unfold addKey
    rw [if_neg]
    rw [List.any_eq_true]
    rintro ⟨y, hy, h9⟩
    exact h x (List.mem_cons_self ..) y hy (WideAt.sameKey_eq h9)
   rw [List.nodup_cons] at hn
   rw [List.foldl_cons, e, addKeys r (L ++ [x]) (fun z hz y hy => by
    rcases List.mem_append.1 hy with hy | hy
    ·exact h z (List.mem_cons_of_mem _ hz) y hy
    ·rw [List.mem_singleton.1 hy]
     rintro rfl
     exact hn.1 hz) hn.2]
   simp; omega
theorem KeyD.size {S : List α} (hok : ∀ x ∈ S, D.ok x) (hn : S.Nodup) : Maps.size (D.setD S) = S.length := by
 have hm : (S.map D.kl).Nodup := by
  rw [List.nodup_iff_pairwise_ne, List.pairwise_map]
  refine (List.Pairwise.imp_of_mem ?_ (List.nodup_iff_pairwise_ne.1 hn))
  intro a b ha hb hab e
  exact hab (D.inj a b (hok a ha) (hok b hb) e)
 rw [KeyD.setD, size_setOf _ _ (fun x hx => by
  obtain ⟨y, hy, rfl⟩ := List.mem_map.1 hx
  exact D.isKey y (hok y hy)), addKeys _ [] (fun _ _ y hy => absurd hy List.not_mem_nil) hm]
 simp
theorem iset_len {W : World} {b : Nat} {S : List α} (h : (iset D b S).P W) (hn : S.Nodup) (ty : TypeId) : (Builtin.len_ #[D.mt] ty #[.map (some b)]).run Tryz.prog W = .ok (.int .i64 (S.length : Int)) W := by
 rw [World.ownsMap.len h.2 D.und ty, D.size h.1 hn]
end
def intK : KeyD Int where
 t := 3
 mt := 219
 law := int_keyed Tryz.underlying3
 und := Tryz.underlying219
 val n := .int .i64 n
 kl n := .int .i64 n
 ok n := (Lit.int .i64 n).wf = true
 key n h := keyOf_int_mk Tryz.underlying3 h
 inj a b _ _ h := by injection h
def strK : KeyD ByteArray where
 t := 9
 mt := 222
 law := string_keyed Tryz.underlying9
 und := Tryz.underlying222
 val s := .string s
 kl s := .string s.data.toList
 ok s := s.size ≤ 1000000
 key s h := keyOf_string_mk Tryz.underlying9 (by unfold maxLen; omega)
 inj a b _ _ h := by
  injection h with h
  have := congrArg List.toArray h
  simp at this
  obtain ⟨a⟩ := a
  obtain ⟨b⟩ := b
  exact congrArg ByteArray.mk this
theorem laidOut : laidOutB Tryz.prog = true := by kernel_rfl
theorem refRow : (89 : TypeId) < Tryz.prog.types.size := of_decide_eq_true (by kernel_rfl)
theorem refKt : Tryz.prog.keyTypeAt 3 89 = true := by kernel_rfl
theorem refKt2 : Tryz.prog.keyType 89 = true := by kernel_rfl
theorem refLaw : Keyed Tryz.prog 89 := Keyed.of_law (deep_law_laid laidOut (m := 3) (by omega) refRow refKt (by rw [Tryz.underlying89]))
abbrev refV (x : Bp) : Value := .agg #[.string x.1, .string x.2]
theorem key_two {P : Program} {t s : TypeId} {f0 f1 : Field} (hu : P.underlying t = some (.struct #[f0, f1])) (h1 : P.keyType t = true) (h2 : P.cellsOf t = 2) (h3 : P.cellsOf s = 1) (e0 : f0.type = s) (e1 : f1.type = s) (o0 : f0.offset = 0) (o1 : f1.offset = 1) (n0 : (f0.name != "_") = true) (n1 : (f1.name != "_") = true)
 (hs : P.underlying s = some .string) (hm : 0 < P.types.size) (a b : ByteArray) (h4 : a.size ≤ maxLen) (h5 : b.size ≤ maxLen) : keyOf P t (.agg #[.string a, .string b]) = some (.string (keyBytes [.string a.data.toList, .string b.data.toList])) := by
 obtain ⟨m, hm⟩ : ∃ m, P.types.size = m + 1 := ⟨P.types.size - 1, by omega⟩
 simp [keyOf, hu, h1, Value.formed, h2, Program.keyLits, hm, Value.cells, e0, e1, o0, o1, h3, hs, h4, h5, n0, n1]
theorem refPos : 0 < Tryz.prog.types.size := Nat.lt_of_le_of_lt (Nat.zero_le _) refRow
theorem refKey (x : Bp) (h : x.1.size ≤ 1000000 ∧ x.2.size ≤ 1000000) : keyOf Tryz.prog 89 (refV x) = some (.string (keyBytes [.string x.1.data.toList, .string x.2.data.toList])) :=
 key_two Tryz.underlying89 refKt2 (by kernel_rfl) (s := 9) (by kernel_rfl) rfl rfl rfl rfl (by decide) (by decide) Tryz.underlying9 refPos x.1 x.2 (by unfold maxLen; omega) (by unfold maxLen; omega)
def refK : KeyD Bp where
 t := 89
 mt := 223
 law := refLaw
 und := Tryz.underlying223
 val x := refV x
 kl x := .string (keyBytes [.string x.1.data.toList, .string x.2.data.toList])
 ok x := x.1.size ≤ 1000000 ∧ x.2.size ≤ 1000000
 key x h := refKey x h
 inj x y hx hy h := by
  have h2 := refLaw.inj (h ▸ refKey x hx) (refKey y hy)
  injection h2 with h2
  simp at h2
  exact Prod.ext h2.1 h2.2
end Go.Proofs.YtekkapgknohadaaGreatDoor
