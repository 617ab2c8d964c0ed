/-
  dominoref42: relation. Printed by mkqrg.py.
-/
import Derived.Test.YtogmhaihmkcjgaaGreatDoorQrF
import Derived.Deep.DeepCutAuto
import Derived.Deep.CutBlock
namespace Go.Proofs.YtogmhaihmkcjgaaGreatDoor
open Go.RowKit Go.Shelf
set_option linter.unusedVariables false

/-- a relation's kind as the code holds it -/
def kdI : Option Nat → Int
  | none => -1
  | some k => (k : Int)
abbrev signV : List Value := [Sv Pa.sEq, Sv Pa.sNe, Sv Pa.sLt, Sv Pa.sLe, Sv Pa.sGt, Sv Pa.sGe]
theorem row_new (W : World) (t : TypeId) (a : Value) (h : W.heap.size ≤ W.heap.size) : (W.alloc (.cells #[a] t)).ownsRow 0 t 1 (.slice (some ⟨W.heap.size, 0, none⟩) 1 1) 1 [a] := by
  refine ⟨rfl, .inr ⟨W.heap.size, 1, #[a], rfl, Nat.zero_le _, Blk.new W t [a], Nat.le_refl _, by decide, rfl, rfl⟩⟩
section
variable {o : List Nat} {w W W' : World} {R : PR} {D : QD} {P : List NV} {q : Pa.QS} {r : List It} {g c : Nat} {nv : Value}
theorem QX.swap {a b : It} (h : QX o w R D nv P q (a :: b :: r) W) : QX o w R D nv P q (b :: a :: r) W :=
  ⟨h.ns, h.hp.perm (((List.Perm.swap b a r).append_left (krows P)).cons _ |>.cons _)⟩
theorem QH.swap {a b : It} (h : QH o w R D q (a :: b :: r) W) : QH o w R D q (b :: a :: r) W := by
  obtain ⟨nv, P, h⟩ := h
  exact h.swap.qh
theorem QH.drop {a : It} (h : QH o w R D q (a :: r) W) : QH o w R D q r W := by
  obtain ⟨nv, P, h⟩ := h
  exact h.drop.qh
theorem QX.newrow (h : QX o w R D nv P q r W) (t : TypeId) (a : Value) : QX o w R D nv P q (irow t 1 (.slice (some ⟨W.heap.size, 0, none⟩) 1 1) 1 [a] :: r) (W.alloc (.cells #[a] t)) := by
  have h1 := h.new t [a]
  refine ⟨h1.ns, ?_⟩
  have h2 := h1.hp.upd ((krows P).length + 2) (get_mid _ _ _ _ _) (x' := irow t 1 (.slice (some ⟨W.heap.size, 0, none⟩) 1 1) 1 [a]) (W' := W.alloc (.cells #[a] t)) (row_new W t a (Nat.le_refl _))
    ⟨Below.refl _ _, fun _ _ _ => rfl, fun b hb => .inl (by simpa [irow, iblk, Value.ownBlock] using hb)⟩ (by simp [irow, Value.ownBlock])
  rw [set_mid] at h2
  exact h2
theorem QX.rrow {e : TypeId} {s n : Nat} {v : Value} {xs : List Value} (h : QX o w R D nv P q (irow e s v n xs :: r) W) : W.ownsRow 0 e s v n xs := h.hp.row ((krows P).length + 2) (get_mid _ _ _ _ _)
theorem QX.rgrow {e : TypeId} {s n n' : Nat} {v v' : Value} {xs xs' : List Value} (h : QX o w R D nv P q (irow e s v n xs :: r) W) (hr : W'.ownsRow 0 e s v' n' xs') (hg : W.grownBy W' v.ownBlock)
    (hv : v'.ownBlock = v.ownBlock ∨ ∀ g, v'.ownBlock = some g → W.heap.size ≤ g) : QX o w R D nv P q (irow e s v' n' xs' :: r) W' := by
  refine ⟨h.ns, ?_⟩
  have h2 := h.hp.grown ((krows P).length + 2) (get_mid _ _ _ _ _) hr hg hv
  rw [set_mid] at h2
  exact h2
/-- a row of kids: n of them -/
abbrev ikid (A : Option Addr) (n kc : Nat) (l : List Nat) : It := irow 3 1 (.slice A n kc) n (nats l)
theorem QH.relen {A : Option Addr} {n kc : Nat} {l : List Nat} (h : QH o w R D q (ikid A n kc l :: r) W) (hn : n = l.length) : QH o w R D q (inats (.slice A l.length kc) l :: r) W := by
  subst hn
  exact h
/-- a longer row of kids -/
theorem QX.more {A A1 : Option Addr} {n kc c1 : Nat} {l : List Nat} {k : Nat} (h : QX o w R D nv P q (ikid A n kc l :: r) W) (hr : W'.ownsRow 0 3 1 (.slice A1 (n + 1) c1) (n + 1) (nats l ++ [.int .i64 (k : Int)])) (hg : W.grownBy W' (Value.slice A n kc).ownBlock)
    (hv : (Value.slice A1 (n + 1) c1).ownBlock = (Value.slice A n kc).ownBlock ∨ ∀ g, (Value.slice A1 (n + 1) c1).ownBlock = some g → W.heap.size ≤ g) : QX o w R D nv P q (ikid A1 (n + 1) c1 (l ++ [k]) :: r) W' := by
  have h1 := h.rgrow hr hg hv
  have e2 : nats (l ++ [k]) = nats l ++ [.int .i64 (k : Int)] := by simp [nats]
  unfold ikid
  rw [e2]
  exact h1
theorem perm_adopt {α : Type} (X y : α) : ∀ (A B r : List α), ((A ++ y :: B) ++ X :: r).Perm ((A ++ X :: B) ++ y :: r) := fun A B r => by
  simp only [List.append_assoc, List.cons_append]
  refine List.Perm.append_left A ?_
  refine (List.perm_middle (a := X) (l₁ := y :: B) (l₂ := r)).trans ?_
  refine List.Perm.cons X ?_
  exact (List.perm_middle (a := y) (l₁ := B) (l₂ := r)).symm
theorem split_at {α : Type} : ∀ (l : List α) (n : Nat) (x : α), l[n]? = some x → ∃ A B, l = A ++ x :: B ∧ A.length = n
  | [], n, x, h => by simp at h
  | y :: l, 0, x, h => ⟨[], l, by simp at h; rw [h]; rfl, rfl⟩
  | y :: l, n + 1, x, h => by
    obtain ⟨A, B, h1, h2⟩ := split_at l n x (by simpa using h)
    exact ⟨y :: A, B, by rw [h1]; rfl, by simp [h2]⟩
/-- a row of numbers becomes a node's row of kids -/
theorem QX.adopt {A : Option Addr} {kc n : Nat} {l : List Nat} {x : NV} (h : QX o w R D (.slice (some ⟨g, 0, none⟩) P.length c) P q (inats (.slice A l.length kc) l :: r) W) (hx : P[n]? = some x) :
    QX o w R D (.slice (some ⟨g, 0, none⟩) P.length c) (P.modify n fun y => ((y.1.1, l), (A, kc))) (q.upd n (Pa.sKids l)) r (W.setCell ⟨g, n * 6 + 4, none⟩ (.slice A l.length kc)) := by
  have hn := (List.getElem?_eq_some_iff.1 hx).1
  have h2 := h.hp.rowset 1 rfl (n * 6 + 4) (by omega) (.slice A l.length kc)
  refine ⟨?_, ?_⟩
  · rw [fst_modF _ (Pa.sKids l) (fun _ => rfl), h.ns]; rfl
  · have e : (P.modify n fun y => (((y.1.1, l), (A, kc)) : NV)).length = P.length := by simp
    unfold inodes
    rw [e, ← ncells_set (fun y => ((y.1.1, l), (A, kc))) 4 (by decide) (.slice A l.length kc) P n x hx rfl, ← krows_set (fun y => ((y.1.1, l), (A, kc))) P n x hx]
    obtain ⟨K1, K2, hK, hK1⟩ := split_at (krows P) n _ (krows_get hx)
    have e2 : (krows P).set n (inats (.slice A l.length kc) l) = K1 ++ inats (.slice A l.length kc) l :: K2 := by
      rw [hK, ← hK1, List.set_append_right _ _ (Nat.le_refl _)]
      simp
    have h3 : Hp o w (iqr R D (.slice (some ⟨g, 0, none⟩) P.length c) q.ts q.bad :: irow 76 6 (.slice (some ⟨g, 0, none⟩) P.length c) P.length ((ncells P).set (n * 6 + 4) (.slice A l.length kc)) :: ((krows P).set n (inats (.slice A l.length kc) l) ++ inats (.slice x.2.1 x.1.2.length x.2.2) x.1.2 :: r)) (W.setCell ⟨g, n * 6 + 4, none⟩ (.slice A l.length kc)) := by
      refine h2.perm (List.Perm.cons _ (List.Perm.cons _ ?_))
      show (krows P ++ _ :: r).Perm _
      rw [e2, hK]
      exact perm_adopt _ _ K1 K2 r
    exact (h3.perm (List.perm_middle (a := inats (.slice x.2.1 x.1.2.length x.2.2) x.1.2) (l₁ := _ :: _ :: (krows P).set n (inats (.slice A l.length kc) l)) (l₂ := r))).tail
theorem QX.put2 {L : Nat} (h : QX o w R D (.slice (some ⟨g, 0, none⟩) L c) P q r W) (hL : L = P.length) {n : Nat} {x : NV} (hx : P[n]? = some x) (f : Pa.Nw → Pa.Nw) (j : Nat) (hj : j < 6) (u : Value) (h1 : nvc (f x.1, x.2) = (nvc x).set j u) (h2 : ∀ y, (f y).2 = y.2) :
    QX o w R D (.slice (some ⟨g, 0, none⟩) L c) (P.modify n fun x => (f x.1, x.2)) (q.upd n f) r (W.setCell ⟨g, n * 6 + j, none⟩ u) := by
  subst hL
  exact h.put hx f j hj u h1 h2
theorem QX.adopt2 {L : Nat} {A : Option Addr} {kc n : Nat} {l : List Nat} {x : NV} (h : QX o w R D (.slice (some ⟨g, 0, none⟩) L c) P q (inats (.slice A l.length kc) l :: r) W) (hL : L = P.length) (hx : P[n]? = some x) :
    QX o w R D (.slice (some ⟨g, 0, none⟩) L c) (P.modify n fun y => ((y.1.1, l), (A, kc))) (q.upd n (Pa.sKids l)) r (W.setCell ⟨g, n * 6 + 4, none⟩ (.slice A l.length kc)) := by
  subst hL
  exact h.adopt hx
theorem QX.fcell2 {L : Nat} (h : QX o w R D (.slice (some ⟨g, 0, none⟩) L c) P q r W) (hL : L = P.length) {n : Nat} {x : NV} (hx : P[n]? = some x) (j : Nat) (hj : j < 6) : W.cell? ⟨g, n * 6 + j, none⟩ = (nvc x)[j]? := by
  subst hL
  exact h.fcell hx j hj
theorem QX.ffroz2 {L : Nat} (h : QX o w R D (.slice (some ⟨g, 0, none⟩) L c) P q r W) (hL : L = P.length) (j : Nat) : W.frozen? ⟨g, j, none⟩ = false := by
  subst hL
  exact h.ffroz j
theorem mod_mod {α : Type} (f g : α → α) : ∀ (l : List α) (n : Nat), (l.modify n f).modify n g = l.modify n (fun x => g (f x))
  | [], n => by cases n <;> rfl
  | a :: l, 0 => by simp
  | a :: l, n + 1 => by simp [mod_mod f g l n]
theorem upd_rel (n k : Nat) (rl : Pa.RL) (h : rl.kd = some k) (q : Pa.QS) : ((q.upd n (Pa.sKind k)).upd n (Pa.sNum (rl.num : Int))).upd n (Pa.sKids rl.kids) = q.upd n (Pa.sRel rl) := by
  unfold Pa.QS.upd
  simp only [mod_mod]
  congr 1
  congr 1
  funext x
  unfold Pa.sRel
  rw [h]
  rfl
end
/-- behind the test for between -/
def btwQ (rl : Pa.RL) : Pa.QS := if rl.kd.isNone && rl.q.isS Pa.kBetween then rl.q.step else rl.q
theorem sgn_hit (i num : Nat) (kids : List Nat) (q : Pa.QS) (h : q.isS (Pa.cmps.getD i []) = true) : Pa.sgnS i ⟨none, num, kids, q⟩ = ⟨some 6, i, kids ++ [Pa.valueX q.step], Pa.valueS q.step⟩ := by
  have h1 : (true && q.isS (Pa.cmps.getD i [])) = true := by rw [h]; rfl
  unfold Pa.sgnS
  exact if_pos h1
theorem sgn_miss (i num : Nat) (kids : List Nat) (q : Pa.QS) (h : q.isS (Pa.cmps.getD i []) = false) : Pa.sgnS i ⟨none, num, kids, q⟩ = ⟨none, num, kids, q⟩ := by
  have h1 : ¬ (true && q.isS (Pa.cmps.getD i [])) = true := by rw [h]; exact Bool.false_ne_true
  unfold Pa.sgnS
  exact if_neg h1
theorem qsign_at (gs : Nat) {W : World} (h : Blk W gs 9 signV) (i : Nat) (hi : i < 6) : W.cell? ⟨gs, i, none⟩ = some (.string (bs (Pa.cmps.getD i []))) := by
  rw [h.cell i]
  rcases (by omega : i = 0 ∨ i = 1 ∨ i = 2 ∨ i = 3 ∨ i = 4 ∨ i = 5) with rfl | rfl | rfl | rfl | rfl | rfl <;> rfl
section
variable {o : List Nat} {w W W' : World} {R : PR} {D : QD} {P : List NV} {q : Pa.QS} {r : List It} {g c : Nat} {nv : Value}
set_option maxRecDepth 20000 in
set_option maxHeartbeats 32000000 in
theorem qrel (n k : Nat) (hw : q.wt ≤ 500001) (hn : n < q.ns.length) (hk : q.ts.length < k) (h : QH o w R D q r W) : Calls Tryz.prog 228 #[ptr R.gp, .int .i64 (n : Int)] W fun e w' => e = .returned (.tuple #[]) ∧ QH o w R D (Pa.relS n k q) r w' := by
  have hF := Pa.value_fw q
  have HV := Lib.hid (qvalue (by omega) h)
  have HR : Hid (Pa.relS n k q = (Pa.relR k q).q.upd n (Pa.sRel (Pa.relR k q)) ∧ Pa.relR k q = Pa.inS k (Pa.btwS (Pa.sgnsS ⟨none, 0, [Pa.valueX q], Pa.valueS q⟩ 6))) := Lib.hid ⟨rfl, rfl⟩
  have hFS := Lib.hid (fun i => Pa.sgns_fr ⟨none, 0, [Pa.valueX q], Pa.valueS q⟩ i)
  have hn0 : (0 : Int) ≤ (n : Int) := by omega
  have hw1 : (Pa.valueS q).wt ≤ 500001 := by have := hF.wt; omega
  have hn1 : n < (Pa.valueS q).ns.length := by have := hF.len; omega
  have hk1 : (Pa.valueS q).ts.length < k := by have := hF.tok; omega
  obtain ⟨j0, hj0, hy0, hy1, hy2⟩ := info_parts int_info
  clear h hF hw hn hk
  generalize Pa.relS n k q = QF at *
  generalize Pa.relR k q = RF at *
  generalize Pa.valueX q = v1 at *
  generalize Pa.valueS q = q1 at *
  go_enter Tryz.func228, Tryz.ntmps228
  go_wp2_with fail
  refine HV.out.mono ?_
  rintro e w1 ⟨rfl, hQ1⟩
  obtain ⟨nv1, P1, hX1⟩ := hQ1
  have hX2 := ((hX1.newrow 3 (.int .i64 (v1 : Int))).new 9 signV).swap
  clear HV hX1
  go_upto_region 4 with fail
  obtain ⟨gs, hgs⟩ : ∃ x, (w1.alloc (.cells #[.int .i64 (v1 : Int)] 3)).heap.size = x := ⟨_, rfl⟩
  have hgs2 : w1.heap.size + 1 = gs := by rw [← hgs]; simp
  rw [hgs] at hX2
  try simp only [hgs2]
  try simp only [hgs]
  clear hgs hgs2
  have hX2 : QX o w R D nv1 P1 q1 (inats (.slice (some ⟨w1.heap.size, 0, none⟩) [v1].length 1) [v1] :: iblk gs 9 signV :: r) ((w1.alloc (.cells #[.int .i64 (v1 : Int)] 3)).alloc (.cells signV.toArray 9)) := hX2
  go_loopg [4, 6, 7, 8] 6 (fun m s4 s6 s7 s8 wx => ∃ (i : Nat) (KA : Option Addr) (kc : Nat) (rl : Pa.RL), i ≤ 6 ∧ m = 6 - i ∧ s4 = .slice KA rl.kids.length kc ∧ s6 = .int .i64 (kdI rl.kd) ∧ s7 = .int .i64 (rl.num : Int) ∧ s8 = .int .i64 (i : Int) ∧ QH o w R D rl.q (inats (.slice KA rl.kids.length kc) rl.kids :: iblk gs 9 signV :: r) wx ∧ Hid (rl = Pa.sgnsS ⟨none, 0, [v1], q1⟩ i))
  case atStart => exact ⟨0, some ⟨w1.heap.size, 0, none⟩, 1, ⟨none, 0, [v1], q1⟩, Nat.zero_le _, rfl, rfl, rfl, rfl, rfl, hX2.qh, Lib.hid rfl⟩
  case round =>
    obtain ⟨i, KA, kc, rl, hi6, rfl, rfl, rfl, rfl, rfl, hQ, HI⟩ := hrel
    clear hX2
    have hfs := hFS.out i
    rw [← HI.out] at hfs
    have hlw : rl.q.wt + rl.kids.length ≤ 500002 := by have := hfs.wt; simp only [List.length_cons, List.length_nil] at this; omega
    have hln : n < rl.q.ns.length := by have := hfs.len; simp only at this; omega
    have hlk : rl.q.ts.length < k := by have := hfs.tok; simp only at this; omega
    clear hfs
    by_cases hi : i < 6
    · have hii : (i : Int) < 6 := by omega
      have hi0 : (0 : Int) ≤ (i : Int) := by omega
      obtain ⟨nv2, P2, hX⟩ := hQ
      have hsg := qsign_at gs hX.swap.rblk i hi
      have HS := Lib.hid (qskip (Pa.cmps.getD i []) hX)
      have HN : Hid (Pa.sgnsS ⟨none, 0, [v1], q1⟩ (i + 1) = Pa.sgnS i rl) := Lib.hid (by rw [HI.out]; rfl)
      obtain ⟨kd, num, kids, qq⟩ := rl
      simp only at hX HS hlw hln hlk HN
      clear HI
      cases kd with
      | some kk =>
        have hkk : ¬ (kk : Int) < 0 := by omega
        have HN2 : Hid (Pa.sgnsS ⟨none, 0, [v1], q1⟩ (i + 1) = ⟨some kk, num, kids, qq⟩) := Lib.hid (by rw [HN.out]; rfl)
        have hX := Lib.hid hX.qh
        clear HN HS
        unfold kdI
        go_wp2_with fail
        go_roundg (6 - (i + 1))
        case measure => omega
        case rel => exact ⟨i + 1, KA, kc, ⟨some kk, num, kids, qq⟩, hi, rfl, rfl, rfl, rfl, by first | rfl | simp, hX.out, Lib.hid HN2.out.symm⟩
      | none =>
        unfold kdI
        cases hs : qq.isS (Pa.cmps.getD i []) with
        | false =>
          have e : Pa.skipS (Pa.cmps.getD i []) qq = qq := by unfold Pa.skipS; rw [hs]; rfl
          have HN2 : Hid (Pa.sgnsS ⟨none, 0, [v1], q1⟩ (i + 1) = ⟨none, num, kids, qq⟩) := Lib.hid (HN.out.trans (sgn_miss i num kids qq hs))
          rw [hs, e] at HS
          clear HN hs e hX
          go_wp2_with fail
          refine HS.out.mono ?_
          rintro e w2 ⟨rfl, hX2⟩
          go_wp2_with fail
          go_roundg (6 - (i + 1))
          case measure => omega
          case rel => exact ⟨i + 1, KA, kc, ⟨none, num, kids, qq⟩, hi, rfl, rfl, rfl, rfl, by first | rfl | simp, hX2.qh, Lib.hid HN2.out.symm⟩
        | true =>
          have e : Pa.skipS (Pa.cmps.getD i []) qq = qq.step := by unfold Pa.skipS; rw [hs]; rfl
          have HN2 : Hid (Pa.sgnsS ⟨none, 0, [v1], q1⟩ (i + 1) = ⟨some 6, i, kids ++ [Pa.valueX qq.step], Pa.valueS qq.step⟩) := Lib.hid (HN.out.trans (sgn_hit i num kids qq hs))
          rw [hs, e] at HS
          have hsw := Pa.isS_wt hs
          clear HN hs e hX
          generalize qq.step = q3 at *
          go_wp2_with fail
          refine HS.out.mono ?_
          rintro e w2 ⟨rfl, hX2⟩
          have HV := Lib.hid (qvalue (by omega) hX2.qh)
          clear HS hX2
          generalize Pa.valueX q3 = v3 at *
          generalize Pa.valueS q3 = q4 at *
          go_wp2_with fail
          refine HV.out.mono ?_
          rintro e w3 ⟨rfl, hQ3⟩
          obtain ⟨nv3, P3, hX3⟩ := hQ3
          clear HV
          go_wp2_with (at_builtin; refine wpList_append_own2 rfl _ _ 61 rfl 0 3 j0 _ 1 8 Tryz.underlying61 hj0 hy0 hy1 hy2 rfl (by decide) _ (kids.length) (nats kids) rfl (hX3.next ((Below.refl _ _).alloc (Nat.le_refl _) _)).rrow ⟨w3.heap.size, 0, none⟩ 1 1 [.int .i64 (v3 : Int)] rfl rfl (new1q' _ _ _) (by intro u hu; simp at hu; rw [hu]; rfl) (by decide) (by unfold maxLen; omega) (by omega) (Nat.zero_le _) ?_; intro v' w9 hown hgrow hat; obtain ⟨A1, c1, rfl⟩ := row_forms hown; have hX4 := QX.more (hX3.next ((Below.refl _ _).alloc (Nat.le_refl _) _)) hown hgrow hat; clear hown hgrow hat)
          clear hX3
          go_roundg (6 - (i + 1))
          case measure => omega
          case rel => exact ⟨i + 1, A1, c1, ⟨some 6, i, kids ++ [v3], q4⟩, hi, rfl, by simp, rfl, rfl, by first | rfl | simp, hX4.qh.relen (by simp), Lib.hid HN2.out.symm⟩
    · have hii : ¬ (i : Int) < 6 := by omega
      have he6 : i = 6 := by omega
      have HR2 : Hid (QF = RF.q.upd n (Pa.sRel RF) ∧ RF = Pa.inS k (Pa.btwS rl)) := Lib.hid ⟨HR.out.1, by rw [HR.out.2, HI.out, he6]⟩
      clear hi6 hi hFS HR HI he6
      have HR := HR2
      clear HR2
      go_upto_region 9 with fail
      go_cut [39] from 34 to 38 (fun s39 wx => s39 = .bool (rl.kd.isNone && rl.q.isS Pa.kBetween) ∧ QH o w R D (btwQ rl) (inats (.slice KA rl.kids.length kc) rl.kids :: iblk gs 9 signV :: r) wx)
      case first => as_aux_lemma =>
        obtain ⟨kd, num, kids, qq⟩ := rl
        simp only at hQ hlw hln hlk
        clear HR
        cases kd with
        | some kk =>
          have hkk : ¬ (kk : Int) < 0 := by omega
          have hX := Lib.hid hQ
          clear hQ
          unfold kdI
          go_wp2_with fail
          go_meet
          exact ⟨rfl, hX.out⟩
        | none =>
          obtain ⟨nv2, P2, hX⟩ := hQ
          have HS := Lib.hid (qskip Pa.kBetween hX)
          have HN : Hid (btwQ ⟨none, num, kids, qq⟩ = Pa.skipS Pa.kBetween qq) := Lib.hid rfl
          clear hX
          unfold kdI
          go_wp2_with fail
          refine HS.out.mono ?_
          rintro e w2 ⟨rfl, hX2⟩
          go_wp2_with fail
          go_meet
          rw [HN.out]
          exact ⟨rfl, hX2.qh⟩
      case rest => as_aux_lemma =>
        obtain ⟨rfl, hQ2⟩ := hcut
        clear hQ
        go_upto_if 39 with fail
        go_cut [4, 6, 39] from 40 to 51 (fun s4 s6 s39 wx => ∃ (KA : Option Addr) (kc : Nat) (rb : Pa.RL), s4 = .slice KA rb.kids.length kc ∧ s6 = .int .i64 (kdI rb.kd) ∧ rb.num = rl.num ∧ QH o w R D rb.q (inats (.slice KA rb.kids.length kc) rb.kids :: iblk gs 9 signV :: r) wx ∧ Hid (rb = Pa.btwS rl))
        case first => as_aux_lemma =>
          cases hb : (rl.kd.isNone && rl.q.isS Pa.kBetween) with
          | false =>
            have HB : Hid (rl = Pa.btwS rl) := Lib.hid (by unfold Pa.btwS; rw [if_neg (by rw [hb]; exact Bool.false_ne_true)])
            have e : btwQ rl = rl.q := by unfold btwQ; rw [if_neg (by rw [hb]; exact Bool.false_ne_true)]
            rw [e] at hQ2
            clear HR hb e
            go_wp2_with fail
            go_meet
            exact ⟨KA, kc, rl, rfl, rfl, rfl, hQ2, HB⟩
          | true =>
            have e : btwQ rl = rl.q.step := by unfold btwQ; rw [if_pos hb]
            have HB : Hid (Pa.btwS rl = ⟨some 7, rl.num, rl.kids ++ [Pa.valueX rl.q.step] ++ [Pa.valueX (Pa.takeS Pa.kAnd (Pa.valueS rl.q.step))], Pa.valueS (Pa.takeS Pa.kAnd (Pa.valueS rl.q.step))⟩) := Lib.hid (by unfold Pa.btwS; rw [if_pos hb])
            have hsw := Pa.isS_wt (by simp only [Bool.and_eq_true] at hb; exact hb.2)
            rw [e] at hQ2
            clear HR hb e
            obtain ⟨kd, num, kids, qq⟩ := rl
            simp only at hQ2 hlw hln hlk HB hsw
            generalize qq.step = q3 at *
            have HV := Lib.hid (qvalue (by omega) hQ2)
            have hF3 := Pa.value_fw q3
            have hF4 := Pa.take_fw Pa.kAnd (Pa.valueS q3)
            have hw4 := hF3.wt
            have hw5 := hF4.wt
            clear hQ2 hF3 hF4
            generalize Pa.valueX q3 = v3 at *
            generalize Pa.valueS q3 = q4 at *
            go_wp2_with fail
            refine HV.out.mono ?_
            rintro e w3 ⟨rfl, hQ3⟩
            obtain ⟨nv3, P3, hX3⟩ := hQ3
            clear HV
            go_upto_region 12 with (at_builtin; refine wpList_append_own2 rfl _ _ 61 rfl 0 3 j0 _ 1 8 Tryz.underlying61 hj0 hy0 hy1 hy2 rfl (by decide) _ (kids.length) (nats kids) rfl (hX3.next ((Below.refl _ _).alloc (Nat.le_refl _) _)).rrow ⟨w3.heap.size, 0, none⟩ 1 1 [.int .i64 (v3 : Int)] rfl rfl (new1q' _ _ _) (by intro u hu; simp at hu; rw [hu]; rfl) (by decide) (by unfold maxLen; omega) (by omega) (Nat.zero_le _) ?_; intro v' w9 hown hgrow hat; obtain ⟨A1, c1, rfl⟩ := row_forms hown; have hX4 := QX.more (hX3.next ((Below.refl _ _).alloc (Nat.le_refl _) _)) hown hgrow hat; clear hown hgrow hat)
            clear hX3
            generalize (w9 : World) = w10 at *
            have HT := Lib.hid (qtake Pa.kAnd hX4)
            clear hX4
            generalize Pa.takeS Pa.kAnd q4 = q5 at *
            go_wp2_with fail
            refine HT.out.mono ?_
            rintro e w11 ⟨rfl, hX5⟩
            have HV := Lib.hid (qvalue (by omega) hX5.qh)
            clear HT hX5
            generalize Pa.valueX q5 = v5 at *
            generalize Pa.valueS q5 = q6 at *
            go_wp2_with fail
            refine HV.out.mono ?_
            rintro e w12 ⟨rfl, hQ6⟩
            obtain ⟨nv6, P6, hX6⟩ := hQ6
            clear HV
            go_wp2_with (at_builtin; refine wpList_append_own2 rfl _ _ 61 rfl 0 3 j0 _ 1 8 Tryz.underlying61 hj0 hy0 hy1 hy2 rfl (by decide) _ (kids.length + 1) (nats (kids ++ [v3])) rfl (hX6.next ((Below.refl _ _).alloc (Nat.le_refl _) _)).rrow ⟨w12.heap.size, 0, none⟩ 1 1 [.int .i64 (v5 : Int)] rfl rfl (new1q' _ _ _) (by intro u hu; simp at hu; rw [hu]; rfl) (by decide) (by unfold maxLen; omega) (by omega) (Nat.zero_le _) ?_; intro v' w9 hown hgrow hat; obtain ⟨A1, c1, rfl⟩ := row_forms hown; have hX7 := QX.more (hX6.next ((Below.refl _ _).alloc (Nat.le_refl _) _)) hown hgrow hat; clear hown hgrow hat)
            clear hX6
            go_meet
            exact ⟨A1, c1, ⟨some 7, num, kids ++ [v3] ++ [v5], q6⟩, by simp, rfl, rfl, hX7.qh.relen (by simp), Lib.hid HB.out.symm⟩
        case rest => as_aux_lemma =>
          obtain ⟨KA2, kc2, rb, rfl, rfl, hnum, hQ3, HB⟩ := hcut
          have hbf := Pa.btw_fr rl
          rw [← HB.out] at hbf HR
          have hbw : rb.q.wt + rb.kids.length ≤ 500002 := by have := hbf.wt; omega
          have hbn : n < rb.q.ns.length := by have := hbf.len; omega
          have hbk : rb.q.ts.length < k := by have := hbf.tok; omega
          clear hQ2 hlw hln hlk hbf HB
          rw [← hnum]
          clear hnum
          go_upto_if 53 with fail
          go_cut [4, 6, 9, 53] from 54 to 67 (fun s4 s6 s9 s53 wx => ∃ (KA : Option Addr) (kc : Nat) (rc : Pa.RL) (kk : Nat), rc.kd = some kk ∧ s4 = .slice KA rc.kids.length kc ∧ s6 = .int .i64 (kk : Int) ∧ rc.num = rb.num ∧ QH o w R D rc.q (inats (.slice KA rc.kids.length kc) rc.kids :: iblk gs 9 signV :: r) wx ∧ Hid (rc = Pa.inS k rb) ∧ n < rc.q.ns.length)
          case first => as_aux_lemma =>
            clear HR
            obtain ⟨kd, num, kids, qq⟩ := rb
            simp only at hQ3 hbw hbn hbk
            cases kd with
            | some kk =>
              have hkk : ¬ (kk : Int) < 0 := by omega
              have hX := Lib.hid hQ3
              clear hQ3
              unfold kdI
              go_wp2_with fail
              go_meet
              exact ⟨KA2, kc2, ⟨some kk, num, kids, qq⟩, kk, rfl, rfl, rfl, rfl, hX.out, Lib.hid Pa.in_some.symm, hbn⟩
            | none =>
              unfold kdI
              have hF1 := Pa.take_fw Pa.kIn qq
              have hF2 := Pa.take_fw Pa.sBra (Pa.takeS Pa.kIn qq)
              have HI : Hid (Pa.inS k ⟨none, num, kids, qq⟩ = ⟨some 8, num, (Pa.valsS k kids (Pa.takeS Pa.sBra (Pa.takeS Pa.kIn qq))).1, Pa.takeS Pa.sKet (Pa.valsS k kids (Pa.takeS Pa.sBra (Pa.takeS Pa.kIn qq))).2⟩) := Lib.hid rfl
              obtain ⟨nv3, P3, hX3⟩ := hQ3
              have HT := Lib.hid (qtake Pa.kIn hX3)
              have hqw : (Pa.takeS Pa.sBra (Pa.takeS Pa.kIn qq)).wt + kids.length ≤ 500002 := by have := hF1.wt; have := hF2.wt; omega
              have hqn : n < (Pa.takeS Pa.sBra (Pa.takeS Pa.kIn qq)).ns.length := by have := hF1.len; have := hF2.len; omega
              have hqk : (Pa.takeS Pa.sBra (Pa.takeS Pa.kIn qq)).ts.length < k := by have := hF1.tok; have := hF2.tok; omega
              clear hX3 hF1 hF2 hbw hbn hbk
              generalize Pa.takeS Pa.kIn qq = qa at *
              go_wp2_with fail
              refine HT.out.mono ?_
              rintro e w4 ⟨rfl, hX4⟩
              have HT2 := Lib.hid (qtake Pa.sBra hX4)
              clear HT hX4
              generalize Pa.takeS Pa.sBra qa = qb at *
              go_wp2_with fail
              refine HT2.out.mono ?_
              rintro e w5 ⟨rfl, hX5⟩
              clear HT2
              go_upto_region 19 with fail
              go_loopg [4, 9] (qb.ts.length + 1) (fun m s4 s9 wx => ∃ (b : Bool) (l : List Nat) (qi : Pa.QS) (j : Nat) (KA : Option Addr) (kc : Nat), m = (if b then qi.ts.length + 1 else 0) ∧ s4 = .slice KA l.length kc ∧ s9 = .bool b ∧ QH o w R D qi (inats (.slice KA l.length kc) l :: iblk gs 9 signV :: r) wx ∧ Hid (if b then Pa.valsS k kids qb = Pa.valsS j l qi ∧ qi.ts.length < j else Pa.valsS k kids qb = (l, qi)) ∧ qi.wt + l.length ≤ (if b then 500002 else 500003) ∧ n < qi.ns.length)
              case atStart => exact ⟨true, kids, qb, k, KA2, kc2, rfl, rfl, rfl, hX5.qh, Lib.hid ⟨rfl, hqk⟩, hqw, hqn⟩
              case round =>
                obtain ⟨b, l, qi, j, KA, kc, rfl, rfl, rfl, hQi, HM, hwi, hni⟩ := hrel
                clear hX5 hqw hqn hqk
                cases b with
                | false =>
                  have e : Pa.valsS k kids qb = (l, qi) := by simpa using HM.out
                  obtain ⟨nv6, P6, hX6⟩ := hQi
                  have HT := Lib.hid (qtake Pa.sKet hX6)
                  have HI2 : Hid (Pa.inS k ⟨none, num, kids, qq⟩ = ⟨some 8, num, l, Pa.takeS Pa.sKet qi⟩) := Lib.hid (by rw [HI.out, e])
                  have hnk : n < (Pa.takeS Pa.sKet qi).ns.length := by have := (Pa.take_fw Pa.sKet qi).len; omega
                  clear hX6 HI HM e
                  go_wp2_with fail
                  refine HT.out.mono ?_
                  rintro e w6 ⟨rfl, hX7⟩
                  go_wp2_with fail
                  go_meet
                  exact ⟨KA, kc, ⟨some 8, num, l, Pa.takeS Pa.sKet qi⟩, 8, rfl, rfl, rfl, rfl, hX7.qh, Lib.hid HI2.out.symm, hnk⟩
                | true =>
                  simp only [if_true] at hwi
                  have HV := Lib.hid (qvalue (by omega) hQi)
                  have hFv := Pa.value_fw qi
                  have hvw := hFv.wt
                  have hvn : n < (Pa.valueS qi).ns.length := by have := hFv.len; omega
                  have hvt := hFv.tok
                  have HM2 : Hid (∃ j', j = j' + 1 ∧ Pa.valsS k kids qb = (if (Pa.valueS qi).isS Pa.sComma then Pa.valsS j' (l ++ [Pa.valueX qi]) (Pa.valueS qi).step else (l ++ [Pa.valueX qi], Pa.valueS qi)) ∧ qi.ts.length < j) := Lib.hid (by
                    obtain ⟨h1, h2⟩ := (by simpa using HM.out : _ ∧ _)
                    obtain ⟨j', rfl⟩ : ∃ j', j = j' + 1 := ⟨j - 1, by omega⟩
                    exact ⟨j', rfl, by rw [h1, Pa.valsS], h2⟩)
                  clear hQi HM hFv
                  generalize Pa.valueX qi = vi at *
                  generalize Pa.valueS qi = qv at *
                  go_wp2_with fail
                  refine HV.out.mono ?_
                  rintro e w3 ⟨rfl, hQ3⟩
                  obtain ⟨nv3, P3, hX3⟩ := hQ3
                  clear HV
                  go_upto_region 21 with (at_builtin; refine wpList_append_own2 rfl _ _ 61 rfl 0 3 j0 _ 1 8 Tryz.underlying61 hj0 hy0 hy1 hy2 rfl (by decide) _ (l.length) (nats l) rfl (hX3.next ((Below.refl _ _).alloc (Nat.le_refl _) _)).rrow ⟨w3.heap.size, 0, none⟩ 1 1 [.int .i64 (vi : Int)] rfl rfl (new1q' _ _ _) (by intro u hu; simp at hu; rw [hu]; rfl) (by decide) (by unfold maxLen; omega) (by omega) (Nat.zero_le _) ?_; intro v' w9 hown hgrow hat; obtain ⟨A1, c1, rfl⟩ := row_forms hown; have hX4 := QX.more (hX3.next ((Below.refl _ _).alloc (Nat.le_refl _) _)) hown hgrow hat; clear hown hgrow hat)
                  clear hX3
                  have HS := Lib.hid (qskip Pa.sComma hX4)
                  clear hX4
                  cases hc : qv.isS Pa.sComma with
                  | true =>
                    rw [hc] at HS HM2
                    have hsl := Pa.isS_len hc
                    have hsw := Pa.isS_wt hc
                    have e : Pa.skipS Pa.sComma qv = qv.step := by unfold Pa.skipS; rw [hc]; rfl
                    rw [e] at HS
                    have hsn : qv.step.ns = qv.ns := rfl
                    clear hc e
                    generalize qv.step = qn at *
                    go_wp2_with fail
                    refine HS.out.mono ?_
                    rintro e w6 ⟨rfl, hX6⟩
                    go_wp2_with fail
                    go_roundg (qn.ts.length + 1)
                    case measure => (try simp only [if_true]); omega
                    case rel =>
                      obtain ⟨j', e1, e2, e3⟩ := HM2.out
                      exact ⟨true, l ++ [vi], qn, j', A1, c1, rfl, by simp, rfl, hX6.qh.relen (by simp), Lib.hid (by simp only [if_true]; exact ⟨by rw [e2]; simp, by omega⟩), by simp only [if_true, List.length_append, List.length_singleton]; omega, by rw [hsn]; exact hvn⟩
                  | false =>
                    rw [hc] at HS HM2
                    have e : Pa.skipS Pa.sComma qv = qv := by unfold Pa.skipS; rw [hc]; rfl
                    rw [e] at HS
                    clear hc e
                    go_wp2_with fail
                    refine HS.out.mono ?_
                    rintro e w6 ⟨rfl, hX6⟩
                    go_wp2_with fail
                    go_roundg 0
                    case measure => (try simp only [if_true]); omega
                    case rel =>
                      obtain ⟨j', e1, e2, e3⟩ := HM2.out
                      exact ⟨false, l ++ [vi], qv, 0, A1, c1, rfl, by simp, rfl, hX6.qh.relen (by simp), Lib.hid (by simp only [Bool.false_eq_true, if_false]; rw [e2]; simp), by simp only [Bool.false_eq_true, if_false, List.length_append, List.length_singleton]; omega, hvn⟩
          case rest => as_aux_lemma =>
            obtain ⟨KA3, kc3, rc, kk, hkd, rfl, rfl, hnum, hQ4, HC, hcn⟩ := hcut
            have HQF : Hid (QF = ((rc.q.upd n (Pa.sKind kk)).upd n (Pa.sNum (rc.num : Int))).upd n (Pa.sKids rc.kids)) := Lib.hid (by rw [HR.out.1, HR.out.2, ← HC.out, upd_rel n kk rc hkd])
            rw [← hnum]
            clear hQ3 hbw hbn hbk HC HR hkd hnum
            obtain ⟨kd, num, kids, qq⟩ := rc
            simp only at hQ4 hcn HQF
            obtain ⟨g, c, P4, hX⟩ := hQ4.open (by omega)
            obtain ⟨x, hx⟩ := hX.get (n := n) hcn
            have hnP : (n : Int) < (P4.length : Int) := by have := (List.getElem?_eq_some_iff.1 hx).1; omega
            have k5 := hX.cell5
            clear hQ4 hcn
            go_upto_region 23 with fail
            have K1 : QX o w R D (.slice (some ⟨g, 0, none⟩) P4.length c) (P4.modify n fun y => (Pa.sKind kk y.1, y.2)) (qq.upd n (Pa.sKind kk)) (inats (.slice KA3 kids.length kc3) kids :: iblk gs 9 signV :: r) (wc.setCell ⟨g, n * 6, none⟩ (.int .i64 (kk : Int))) := hX.put hx (Pa.sKind kk) 0 (by decide) (.int .i64 (kk : Int)) rfl (fun _ => rfl)
            obtain ⟨x1, hx1⟩ : ∃ x1, (P4.modify n fun y => (Pa.sKind kk y.1, y.2))[n]? = some x1 := ⟨_, List.getElem?_eq_getElem (by rw [List.length_modify]; exact (List.getElem?_eq_some_iff.1 hx).1)⟩
            have K2 := K1.put2 (by simp) hx1 (Pa.sNum (num : Int)) 1 (by decide) (.int .i64 (num : Int)) rfl (fun _ => rfl)
            obtain ⟨x2, hx2⟩ : ∃ x2, ((P4.modify n fun y => (Pa.sKind kk y.1, y.2)).modify n fun y => (Pa.sNum (num : Int) y.1, y.2))[n]? = some x2 := ⟨_, List.getElem?_eq_getElem (by rw [List.length_modify, List.length_modify]; exact (List.getElem?_eq_some_iff.1 hx).1)⟩
            have HX3 := Lib.hid ((K2.adopt2 (by simp) hx2).drew)
            have y0 : wc.cell? ⟨g, n * 6, none⟩ = some (.int .i64 (x.1.1.kind : Int)) := hX.fcell hx 0 (by decide)
            have f0 := hX.ffroz (n * 6)
            have y1 : (wc.setCell ⟨g, n * 6, none⟩ (.int .i64 (kk : Int))).cell? ⟨g, n * 6 + 1, none⟩ = some (.int .i64 x1.1.1.num) := K1.fcell2 (by simp) hx1 1 (by decide)
            have f1 := K1.ffroz2 (by simp) (n * 6 + 1)
            have y4 : ((wc.setCell ⟨g, n * 6, none⟩ (.int .i64 (kk : Int))).setCell ⟨g, n * 6 + 1, none⟩ (.int .i64 (num : Int))).cell? ⟨g, n * 6 + 4, none⟩ = some (.slice x2.2.1 x2.1.2.length x2.2.2) := K2.fcell2 (by simp) hx2 4 (by decide)
            have f4 := K2.ffroz2 (by simp) (n * 6 + 4)
            have m5 := K1.cell5
            have n5 := K2.cell5
            have p5 := HX3.out.cell5
            clear K1 K2
            refine wp_region_held_drew (S := (fun w' => w'.cell? ⟨R.gp, 5, none⟩ = some (.slice (some ⟨g, 0, none⟩) P4.length c))) (by kernel_rfl) ?_ (fun hHeld => ?_)
            · exact k5
            refine wpAnyH_take (i := 0) (v := ?_) rfl (by kernel_rfl) (by kernel_rfl) (by kernel_rfl) (fun _ _ _ h => h) (Or.inl ⟨by rfl, ?_⟩) (by assumption) ?_
            rotate_left
            · (intro w hSw; (try dsimp only at hSw); (try obtain ⟨hSw1, hSw2⟩ := hSw); go_simp; (try with_reducible rfl))
            try simp only [Act.put, List.getElem_toArray, List.getElem_cons_zero, List.setIfInBounds_toArray, List.set_cons_zero, List.set_cons_succ]
            refine wpAnyH_take (i := 1) (v := ?_) rfl (by kernel_rfl) (by kernel_rfl) (by kernel_rfl) (fun _ _ _ h => h) (Or.inl ⟨by rfl, ?_⟩) (by assumption) ?_
            rotate_left
            · (intro w hSw; (try dsimp only at hSw); (try obtain ⟨hSw1, hSw2⟩ := hSw); go_simp; (try with_reducible rfl))
            try simp only [Act.put, List.getElem_toArray, List.getElem_cons_zero, List.getElem_cons_succ, List.setIfInBounds_toArray, List.set_cons_zero, List.set_cons_succ]
            refine wpAnyH_take (i := 2) (v := ?_) rfl (by kernel_rfl) (by kernel_rfl) (by kernel_rfl) (fun _ _ _ h => h) (Or.inl ⟨by rfl, ?_⟩) (by assumption) ?_
            rotate_left
            · (intro w hSw; (try dsimp only at hSw); (try obtain ⟨hSw1, hSw2⟩ := hSw); go_simp; (try with_reducible rfl))
            try simp only [Act.put, List.getElem_toArray, List.getElem_cons_zero, List.getElem_cons_succ, List.setIfInBounds_toArray, List.set_cons_zero, List.set_cons_succ]
            refine wpAnyH_take (i := 3) (v := ?_) rfl (by kernel_rfl) (by kernel_rfl) (by kernel_rfl) (fun _ _ _ h => h) (Or.inl ⟨by rfl, ?_⟩) (by assumption) ?_
            rotate_left
            · (intro w hSw; (try dsimp only at hSw); (try obtain ⟨hSw1, hSw2⟩ := hSw); go_simp; (try with_reducible rfl))
            try simp only [Act.put, List.getElem_toArray, List.getElem_cons_zero, List.getElem_cons_succ, List.setIfInBounds_toArray, List.set_cons_zero, List.set_cons_succ]
            refine wpAnyH_take (i := 4) (v := ?_) rfl (by kernel_rfl) (by kernel_rfl) (by kernel_rfl) (fun _ _ _ h => h) (Or.inl ⟨by rfl, ?_⟩) (by assumption) ?_
            rotate_left
            · (intro w hSw; (try dsimp only at hSw); (try obtain ⟨hSw1, hSw2⟩ := hSw); go_simp; (try with_reducible rfl))
            try simp only [Act.put, List.getElem_toArray, List.getElem_cons_zero, List.getElem_cons_succ, List.setIfInBounds_toArray, List.set_cons_zero, List.set_cons_succ]
            refine wpAnyH_take (i := 5) (v := ?_) rfl (by kernel_rfl) (by kernel_rfl) (by kernel_rfl) (fun _ _ _ h => h) (Or.inl ⟨by rfl, ?_⟩) (by assumption) ?_
            rotate_left
            · (intro w hSw; (try dsimp only at hSw); (try obtain ⟨hSw1, hSw2⟩ := hSw); go_simp; (try with_reducible rfl))
            try simp only [Act.put, List.getElem_toArray, List.getElem_cons_zero, List.getElem_cons_succ, List.setIfInBounds_toArray, List.set_cons_zero, List.set_cons_succ]
            refine wpAnyH_take (i := 6) (v := ?_) rfl (by kernel_rfl) (by kernel_rfl) (by kernel_rfl) (fun _ _ _ h => h) (Or.inl ⟨by rfl, ?_⟩) (by assumption) ?_
            rotate_left
            · (intro w hSw; (try dsimp only at hSw); (try obtain ⟨hSw1, hSw2⟩ := hSw); go_simp; (try with_reducible rfl))
            try simp only [Act.put, List.getElem_toArray, List.getElem_cons_zero, List.getElem_cons_succ, List.setIfInBounds_toArray, List.set_cons_zero, List.set_cons_succ]
            refine wpAnyH_take (i := 7) (v := ?_) rfl (by kernel_rfl) (by kernel_rfl) (by kernel_rfl) (fun _ _ _ h => h) (Or.inl ⟨by rfl, ?_⟩) (by assumption) ?_
            rotate_left
            · (intro w hSw; (try dsimp only at hSw); (try obtain ⟨hSw1, hSw2⟩ := hSw); go_simp; (try with_reducible rfl))
            try simp only [Act.put, List.getElem_toArray, List.getElem_cons_zero, List.getElem_cons_succ, List.setIfInBounds_toArray, List.set_cons_zero, List.set_cons_succ]
            refine wpAnyH_take (i := 8) (v := ?_) rfl (by kernel_rfl) (by kernel_rfl) (by kernel_rfl) (fun _ _ _ h => h) (Or.inl ⟨by rfl, ?_⟩) (by assumption) ?_
            rotate_left
            · (intro w hSw; (try dsimp only at hSw); (try obtain ⟨hSw1, hSw2⟩ := hSw); go_simp; (try with_reducible rfl))
            try simp only [Act.put, List.getElem_toArray, List.getElem_cons_zero, List.getElem_cons_succ, List.setIfInBounds_toArray, List.set_cons_zero, List.set_cons_succ]
            refine wpAnyH_take (i := 9) (v := ?_) rfl (by kernel_rfl) (by kernel_rfl) (by kernel_rfl) (fun _ _ _ h => h) (Or.inl ⟨by rfl, ?_⟩) (by assumption) ?_
            rotate_left
            · (intro w hSw; (try dsimp only at hSw); (try obtain ⟨hSw1, hSw2⟩ := hSw); go_simp; (try with_reducible rfl))
            try simp only [Act.put, List.getElem_toArray, List.getElem_cons_zero, List.getElem_cons_succ, List.setIfInBounds_toArray, List.set_cons_zero, List.set_cons_succ]
            refine wpAnyH_take (i := 10) (v := ?_) rfl (by kernel_rfl) (by kernel_rfl) (by kernel_rfl) (fun _ _ _ h => h) (Or.inl ⟨by rfl, ?_⟩) (by assumption) ?_
            rotate_left
            · (intro w hSw; (try dsimp only at hSw); (try obtain ⟨hSw1, hSw2⟩ := hSw); go_simp; (try with_reducible rfl))
            try simp only [Act.put, List.getElem_toArray, List.getElem_cons_zero, List.getElem_cons_succ, List.setIfInBounds_toArray, List.set_cons_zero, List.set_cons_succ]
            refine wpAnyH_take (i := 11) (v := ?_) rfl (by kernel_rfl) (by kernel_rfl) (by kernel_rfl) (fun _ _ _ h => h) (Or.inl ⟨by rfl, ?_⟩) (by assumption) ?_
            rotate_left
            · (intro w hSw; (try dsimp only at hSw); (try obtain ⟨hSw1, hSw2⟩ := hSw); go_simp; (try with_reducible rfl))
            try simp only [Act.put, List.getElem_toArray, List.getElem_cons_zero, List.getElem_cons_succ, List.setIfInBounds_toArray, List.set_cons_zero, List.set_cons_succ]
            refine wpAnyH_take (i := 12) (v := ?_) rfl (by kernel_rfl) (by kernel_rfl) (by kernel_rfl) (fun _ _ _ h => h) (Or.inl ⟨by rfl, ?_⟩) (by assumption) ?_
            rotate_left
            · (intro w hSw; (try dsimp only at hSw); (try obtain ⟨hSw1, hSw2⟩ := hSw); go_simp; (try with_reducible rfl))
            try simp only [Act.put, List.getElem_toArray, List.getElem_cons_zero, List.getElem_cons_succ, List.setIfInBounds_toArray, List.set_cons_zero, List.set_cons_succ]
            refine wpAnyH_take (i := 13) (v := ?_) rfl (by kernel_rfl) (by kernel_rfl) (by kernel_rfl) (fun _ _ _ h => h) (Or.inl ⟨by rfl, ?_⟩) (by assumption) ?_
            rotate_left
            · (intro w hSw; (try dsimp only at hSw); (try obtain ⟨hSw1, hSw2⟩ := hSw); go_simp; (try with_reducible rfl))
            try simp only [Act.put, List.getElem_toArray, List.getElem_cons_zero, List.getElem_cons_succ, List.setIfInBounds_toArray, List.set_cons_zero, List.set_cons_succ]
            refine wpAnyH_take (i := 14) (v := ?_) rfl (by kernel_rfl) (by kernel_rfl) (by kernel_rfl) (fun _ _ _ h => h) (Or.inl ⟨by rfl, ?_⟩) (by assumption) ?_
            rotate_left
            · (intro w hSw; (try dsimp only at hSw); (try obtain ⟨hSw1, hSw2⟩ := hSw); go_simp; (try with_reducible rfl))
            try simp only [Act.put, List.getElem_toArray, List.getElem_cons_zero, List.getElem_cons_succ, List.setIfInBounds_toArray, List.set_cons_zero, List.set_cons_succ]
            refine wpAnyH_take (i := 15) (v := ?_) rfl (by kernel_rfl) (by kernel_rfl) (by kernel_rfl) (fun _ _ _ h => h) (Or.inl ⟨by rfl, ?_⟩) (by assumption) ?_
            rotate_left
            · (intro w hSw; (try dsimp only at hSw); (try obtain ⟨hSw1, hSw2⟩ := hSw); go_simp; (try with_reducible rfl))
            try simp only [Act.put, List.getElem_toArray, List.getElem_cons_zero, List.getElem_cons_succ, List.setIfInBounds_toArray, List.set_cons_zero, List.set_cons_succ]
            refine wpAnyH_take (i := 16) (v := ?_) rfl (by kernel_rfl) (by kernel_rfl) (by kernel_rfl) (fun _ _ _ h => h) (Or.inl ⟨by rfl, ?_⟩) (by assumption) ?_
            rotate_left
            · (intro w hSw; (try dsimp only at hSw); (try obtain ⟨hSw1, hSw2⟩ := hSw); go_simp; (try with_reducible rfl))
            try simp only [Act.put, List.getElem_toArray, List.getElem_cons_zero, List.getElem_cons_succ, List.setIfInBounds_toArray, List.set_cons_zero, List.set_cons_succ]
            refine wpAnyH_take (i := 17) (v := ?_) rfl (by kernel_rfl) (by kernel_rfl) (by kernel_rfl) (fun _ _ _ h => h) (Or.inl ⟨by rfl, ?_⟩) (by assumption) ?_
            rotate_left
            · (intro w hSw; (try dsimp only at hSw); (try obtain ⟨hSw1, hSw2⟩ := hSw); go_simp; (try with_reducible rfl))
            try simp only [Act.put, List.getElem_toArray, List.getElem_cons_zero, List.getElem_cons_succ, List.setIfInBounds_toArray, List.set_cons_zero, List.set_cons_succ]
            refine wpAnyH_take (i := 18) (v := ?_) rfl (by kernel_rfl) (by kernel_rfl) (by kernel_rfl) (fun _ _ _ h => h) (Or.inl ⟨by rfl, ?_⟩) (by assumption) ?_
            rotate_left
            · (intro w hSw; (try dsimp only at hSw); (try obtain ⟨hSw1, hSw2⟩ := hSw); go_simp; (try with_reducible rfl))
            try simp only [Act.put, List.getElem_toArray, List.getElem_cons_zero, List.getElem_cons_succ, List.setIfInBounds_toArray, List.set_cons_zero, List.set_cons_succ]
            refine wpAnyH_take (i := 19) (v := ?_) rfl (by kernel_rfl) (by kernel_rfl) (by kernel_rfl) (fun _ _ _ h => h) (Or.inl ⟨by rfl, ?_⟩) (by assumption) ?_
            rotate_left
            · (intro w hSw; (try dsimp only at hSw); (try obtain ⟨hSw1, hSw2⟩ := hSw); go_simp; (try with_reducible rfl))
            try simp only [Act.put, List.getElem_toArray, List.getElem_cons_zero, List.getElem_cons_succ, List.setIfInBounds_toArray, List.set_cons_zero, List.set_cons_succ]
            refine wpAnyH_take (i := 20) (v := ?_) rfl (by kernel_rfl) (by kernel_rfl) (by kernel_rfl) (fun _ _ _ h => h) (Or.inl ⟨by rfl, ?_⟩) (by assumption) ?_
            rotate_left
            · (intro w hSw; (try dsimp only at hSw); (try obtain ⟨hSw1, hSw2⟩ := hSw); go_simp; (try with_reducible rfl))
            try simp only [Act.put, List.getElem_toArray, List.getElem_cons_zero, List.getElem_cons_succ, List.setIfInBounds_toArray, List.set_cons_zero, List.set_cons_succ]
            refine wpAnyH_take (i := 21) (v := ?_) rfl (by kernel_rfl) (by kernel_rfl) (by kernel_rfl) (fun _ _ _ h => h) (Or.inl ⟨by rfl, ?_⟩) (by assumption) ?_
            rotate_left
            · (intro w hSw; (try dsimp only at hSw); (try obtain ⟨hSw1, hSw2⟩ := hSw); go_simp; (try with_reducible rfl))
            try simp only [Act.put, List.getElem_toArray, List.getElem_cons_zero, List.getElem_cons_succ, List.setIfInBounds_toArray, List.set_cons_zero, List.set_cons_succ]
            refine wpAnyH_take (i := 22) (v := ?_) rfl (by kernel_rfl) (by kernel_rfl) (by kernel_rfl) (fun _ _ _ h => h) (Or.inl ⟨by rfl, ?_⟩) (by assumption) ?_
            rotate_left
            · (intro w hSw; (try dsimp only at hSw); (try obtain ⟨hSw1, hSw2⟩ := hSw); go_simp; (try with_reducible rfl))
            try simp only [Act.put, List.getElem_toArray, List.getElem_cons_zero, List.getElem_cons_succ, List.setIfInBounds_toArray, List.set_cons_zero, List.set_cons_succ]
            refine wpAnyH_ready (rs := [23]) (by kernel_rfl) (by simp) ?_
            refine AllReadyH.cons rfl (fun K hK => ?_) ?_
            · go_simp
              refine hK.out _ _ ?_ (fun hHeld => ?_)
              · exact m5
              clear hK K
              refine wpAnyH_take (i := 24) (v := ?_) rfl (by kernel_rfl) (by kernel_rfl) (by kernel_rfl) (fun _ _ _ h => h) (Or.inl ⟨by rfl, ?_⟩) (by assumption) ?_
              rotate_left
              · (intro w hSw; (try dsimp only at hSw); (try obtain ⟨hSw1, hSw2⟩ := hSw); go_simp; (try with_reducible rfl))
              try simp only [Act.put, List.getElem_toArray, List.getElem_cons_zero, List.getElem_cons_succ, List.setIfInBounds_toArray, List.set_cons_zero, List.set_cons_succ]
              refine wpAnyH_take (i := 25) (v := ?_) rfl (by kernel_rfl) (by kernel_rfl) (by kernel_rfl) (fun _ _ _ h => h) (Or.inl ⟨by rfl, ?_⟩) (by assumption) ?_
              rotate_left
              · (intro w hSw; (try dsimp only at hSw); (try obtain ⟨hSw1, hSw2⟩ := hSw); go_simp; (try with_reducible rfl))
              try simp only [Act.put, List.getElem_toArray, List.getElem_cons_zero, List.getElem_cons_succ, List.setIfInBounds_toArray, List.set_cons_zero, List.set_cons_succ]
              refine wpAnyH_ready (rs := [26]) (by kernel_rfl) (by simp) ?_
              refine AllReadyH.cons rfl (fun K hK => ?_) ?_
              · go_simp
                refine hK.out _ _ ?_ (fun hHeld => ?_)
                · exact n5
                clear hK K
                refine wpAnyH_take (i := 27) (v := ?_) rfl (by kernel_rfl) (by kernel_rfl) (by kernel_rfl) (fun _ _ _ h => h) (Or.inl ⟨by rfl, ?_⟩) (by assumption) ?_
                rotate_left
                · (intro w hSw; (try dsimp only at hSw); (try obtain ⟨hSw1, hSw2⟩ := hSw); go_simp; (try with_reducible rfl))
                try simp only [Act.put, List.getElem_toArray, List.getElem_cons_zero, List.getElem_cons_succ, List.setIfInBounds_toArray, List.set_cons_zero, List.set_cons_succ]
                refine wpAnyH_take (i := 28) (v := ?_) rfl (by kernel_rfl) (by kernel_rfl) (by kernel_rfl) (fun _ _ _ h => h) (Or.inl ⟨by rfl, ?_⟩) (by assumption) ?_
                rotate_left
                · (intro w hSw; (try dsimp only at hSw); (try obtain ⟨hSw1, hSw2⟩ := hSw); go_simp; (try with_reducible rfl))
                try simp only [Act.put, List.getElem_toArray, List.getElem_cons_zero, List.getElem_cons_succ, List.setIfInBounds_toArray, List.set_cons_zero, List.set_cons_succ]
                refine wpAnyH_ready (rs := [29]) (by kernel_rfl) (by simp) ?_
                refine AllReadyH.cons rfl (fun K hK => ?_) ?_
                · go_simp
                  refine hK.out _ _ ?_ (fun hHeld => ?_)
                  · exact p5
                  clear hK K
                  refine wpAnyH_done (by kernel_rfl) ?_ _
                  go_wp2_with fail
                  go_end0
                  rw [HQF.out]
                  exact ⟨rfl, HX3.out.drop.qh⟩
                exact AllReadyH.nil
              exact AllReadyH.nil
            exact AllReadyH.nil
end
end Go.Proofs.YtogmhaihmkcjgaaGreatDoor
