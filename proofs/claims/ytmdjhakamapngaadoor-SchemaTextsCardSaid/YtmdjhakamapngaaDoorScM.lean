/-
  A set of strings that a call makes (map[string]bool), as a piece of owned memory.
-/
import Derived.Test.YtmdjhakamapngaaDoorHp
import Derived.Maps.OwnSet
namespace Go.Proofs.YtmdjhakamapngaaDoor
open Go.RowKit Go.Maps Go.WideMaps
set_option linter.unusedVariables false

instance : DecidableEq ByteArray := fun a b => if h : a.data = b.data then .isTrue (by cases a; cases b; exact congrArg ByteArray.mk h) else .isFalse (fun e => h (by rw [e]))

def memS (s : ByteArray) (S : List ByteArray) : Bool := S.any fun t => decide (t = s)
theorem memS_iff {s : ByteArray} {S : List ByteArray} : memS s S = true ↔ s ∈ S := by
  unfold memS
  rw [List.any_eq_true]
  constructor
  · rintro ⟨t, h1, h2⟩; rw [← of_decide_eq_true h2]; exact h1
  · intro h; exact ⟨s, h, decide_eq_true rfl⟩
theorem lawS : Keyed Tryd.prog 9 := string_keyed Tryd.underlying9
theorem zeroB (w : World) : (zeroValue 4).run Tryd.prog w = .ok (.bool false) w := by kernel_rfl
/-- a string as a key -/
def klS (s : ByteArray) : Lit := .string s.data.toList
theorem klS_inj {s t : ByteArray} (h : klS s = klS t) : s = t := by
  unfold klS at h
  injection h with h
  have := congrArg List.toArray h
  simp at this
  obtain ⟨s⟩ := s
  obtain ⟨t⟩ := t
  exact congrArg ByteArray.mk this
theorem keyS (s : ByteArray) (h : s.size ≤ 1000000) : keyOf Tryd.prog 9 (.string s) = some (klS s) := keyOf_string_mk Tryd.underlying9 (by unfold maxLen; omega)
theorem isKeyS (s : ByteArray) (h : s.size ≤ 1000000) : WideAt.IsKeyLit (klS s) := lawS.key (keyS s h)
/-- the set as it reads -/
def setD (S : List ByteArray) : DataW Unit := setOf (.lit (.bool true)) (S.map klS)
theorem setD_snoc (S : List ByteArray) (s : ByteArray) : setD (S ++ [s]) = (setD S).put (klS s) (.lit (.bool true)) := by
  unfold setD
  rw [List.map_append]
  exact setOf_snoc _ _ _
theorem isMap_setD (S : List ByteArray) : IsMap (setD S) := by
  unfold setD setOf
  have : ∀ (l : List Lit) (m : DataW Unit), IsMap m → IsMap (l.foldl (fun m x => m.put x (.lit (.bool true))) m) := by
    intro l
    induction l with
    | nil => intro m h; exact h
    | cons a l ih => intro m h; exact ih _ (h.put _ _)
  exact this _ _ isMap_empty
theorem setD_at (s : ByteArray) (h : s.size ≤ 1000000) : ∀ (n : Nat) (S : List ByteArray), S.length = n → (setD S).atKey (klS s) (.lit (.bool false)) = .lit (.bool (memS s S)) := by
  intro n
  induction n with
  | zero =>
    intro S hS
    rw [List.eq_nil_of_length_eq_zero hS]
    simp [setD, setOf, DataW.atKey, memS]
  | succ n ih =>
    intro S hS
    obtain ⟨T, t, rfl⟩ : ∃ T t, S = T ++ [t] := ⟨S.dropLast, S.getLast (by intro h9; rw [h9] at hS; cases hS), (List.dropLast_concat_getLast _).symm⟩
    have hT : T.length = n := by simpa using hS
    rw [setD_snoc]
    by_cases hst : s = t
    · subst hst
      rw [atKey_put_same (isMap_setD T) (isKeyS s h)]
      simp [memS]
    · rw [atKey_put_other (fun e => hst (klS_inj e)), ih T hT]
      have : ¬ t = s := fun h => hst h.symm
      simp [memS, this]
/-- a set in a block -/
def imap (b : Nat) (S : List ByteArray) : It := ⟨[b], fun W => W.ownsMap Tryd.prog 9 (plainElem (H := Unit) Tryd.prog 4) b S.length (setD S), fun W W' h hp => by
    obtain ⟨es, clock, hb, r⟩ := hp
    exact ⟨es, clock, (h b (List.mem_singleton.2 rfl)).trans hb, r⟩, fun W hp b' hb => by rw [List.mem_singleton.1 hb]; exact World.ownsMap.lt hp⟩
theorem imap_look {W : World} {b : Nat} {S : List ByteArray} (h : (imap b S).P W) (s : ByteArray) (hs : s.size ≤ 1000000) : (Instr.lookup 72 (.map (some b)) (.string s) false).run Tryd.prog W = .ok (.bool (memS s S)) W := by
  obtain ⟨v, ps, hrun, hv⟩ := World.ownsMap.lookup h lawS Tryd.underlying72 (zeroB W) (plainElem_bool Tryd.underlying4 false) (keyS s hs)
  rw [setD_at s hs _ S rfl] at hv
  rw [hrun]
  have : v = .bool (memS s S) := by
    have hu : Tryd.prog.underlying 4 = some .bool := Tryd.underlying4
    unfold plainElem at hv
    rw [hu] at hv
    cases v <;> simp at hv
    simp [hv]
  rw [this]
theorem Hp.mapNew {o : List Nat} {w W : World} {it : List It} (h : Hp o w it W) : Hp o w (imap W.heap.size [] :: it) (W.alloc (.map #[] 0)) := by
  have h1 : Hp (ow []) W [imap W.heap.size []] (W.alloc (.map #[] 0)) := by
    refine ⟨⟨fun x hx => ?_, by simp [imap]⟩, ⟨(Below.refl _ _).alloc (Nat.zero_le _) _, fun k hk _ => Below.heap_alloc _ _ _ hk, fun b hb => .inr ?_⟩⟩
    · rw [List.mem_singleton.1 hx]; exact World.ownsMap_made _ _ _ _
    · simp [imap] at hb; omega
  exact Hp.call (a := []) h h1
theorem Hp.mapPut {o : List Nat} {w W W' : World} {it : List It} (h : Hp o w it W) (i : Nat) {b : Nat} {S : List ByteArray} (hx : it[i]? = some (imap b S)) {s : ByteArray} (hown : W'.ownsMap Tryd.prog 9 (plainElem (H := Unit) Tryd.prog 4) b (S.length + 1) ((setD S).put (klS s) (.lit (.bool true)))) (hg : W.grownBy W' (some b)) :
    Hp o w (it.set i (imap b (S ++ [s]))) W' := by
  refine h.upd i hx (x' := imap b (S ++ [s])) ?_ ⟨⟨hg.os, hg.tape, hg.output, hg.size, fun k hk => absurd hk (Nat.not_lt_zero _)⟩, fun k hk ho => hg.block k hk (fun h9 => ho ?_), fun b' hb => .inl hb⟩ (by simp [imap])
  · show W'.ownsMap _ _ _ b (S ++ [s]).length (setD (S ++ [s]))
    rw [List.length_append, setD_snoc]
    exact hown
  · injection h9 with h9
    rw [h9]; simp [imap]
end Go.Proofs.YtmdjhakamapngaaDoor
