import Derived.Test.YtogmhaihmkcjgaaGreatDoorPbX
import Derived.Test.YtogmhaihmkcjgaaGreatDoorPtX
import Derived.Test.YtogmhaihmkcjgaaGreatDoorPcC
import Derived.BigQuiet
import Derived.Test.YtogmhaihmkcjgaaGreatDoorPbB
import Derived.Deep.RegionHeld3
import Derived.Deep.AppendLies
/-
  The reference's reader in memory: its block, the nodes' row, the kids' rows.
-/
namespace Go.Proofs.YtogmhaihmkcjgaaGreatDoor
open Go.RowKit Go.Shelf
set_option linter.unusedVariables false

/-- the other fields of the reader's policy -/
structure QD where
  name : Pa.Tx
  uv : Value
  rv : Value
  scope : Pa.Tx
  limit : Int
  escrow : Pa.Tx
abbrev qcells (R : PR) (D : QD) (nv : Value) (k : Nat) (bad : Bool) : List Value := [.slice (some ⟨R.gt, 0, none⟩) R.all.length R.cap, .int .i64 (k : Int), Sv D.name, D.uv, D.rv, nv, .int .i64 0, Sv D.scope, .int .i64 D.limit, Sv D.escrow, .bool bad]
structure QRok (R : PR) (D : QD) (nv : Value) (ts : List Lx.Tok) (bad : Bool) (W : World) : Prop where
  blk : Blk W R.gp 156 (qcells R D nv (R.all.length - ts.length) bad)
  tok : TokIn W R.gt R.all
  suf : ts <:+ R.all
  good : Pa.Good ts
  len : R.all.length ≤ 65537
  le : R.all.length ≤ R.cap
  ne : R.gp ≠ R.gt
  tx : ∀ t ∈ ts, t.text.length ≤ 100000
def iqr (R : PR) (D : QD) (nv : Value) (ts : List Lx.Tok) (bad : Bool) : It := ⟨[R.gp, R.gt], QRok R D nv ts bad, fun W W' h hp => ⟨(h R.gp (by simp)).trans hp.blk, tokin_same hp.tok (h R.gt (by simp)), hp.suf, hp.good, hp.len, hp.le, hp.ne, hp.tx⟩,
  fun W hp b hb => by
    rcases List.mem_cons.1 hb with rfl | hb
    · exact hp.blk.lt
    · rw [List.mem_singleton.1 hb]; exact hp.tok.1⟩
/-- the reader with its nodes -/
structure QX (o : List Nat) (w : World) (R : PR) (D : QD) (nv : Value) (P : List NV) (q : Pa.QS) (r : List It) (W : World) : Prop where
  ns : P.map Prod.fst = q.ns
  hp : Hp o w (iqr R D nv q.ts q.bad :: inodes nv P :: (krows P ++ r)) W
def QH (o : List Nat) (w : World) (R : PR) (D : QD) (q : Pa.QS) (r : List It) (W : World) : Prop := ∃ nv P, QX o w R D nv P q r W
section
variable {o : List Nat} {w W W' : World} {R : PR} {D : QD} {nv : Value} {P : List NV} {q q' : Pa.QS} {r : List It}
theorem QX.next (h : QX o w R D nv P q r W) (hb : Below W.heap.size W W') : QX o w R D nv P q r W' := ⟨h.ns, h.hp.next hb⟩
theorem QX.drew (h : QX o w R D nv P q r W) : QX o w R D nv P q r W.drew := ⟨h.ns, h.hp.drew⟩
theorem QX.drewN (h : QX o w R D nv P q r W) (n : Nat) : QX o w R D nv P q r (W.drewN n) := ⟨h.ns, h.hp.drewN n⟩
theorem QX.len (h : QX o w R D nv P q r W) : P.length = q.ns.length := by rw [← h.ns, List.length_map]
theorem QX.ok (h : QX o w R D nv P q r W) : QRok R D nv q.ts q.bad W := h.hp.sep.ok _ (List.mem_cons_self ..)
theorem QX.qh (h : QX o w R D nv P q r W) : QH o w R D q r W := ⟨nv, P, h⟩
theorem QH.next (h : QH o w R D q r W) (hb : Below W.heap.size W W') : QH o w R D q r W' := by
  obtain ⟨nv, P, h⟩ := h
  exact (h.next hb).qh
/-- the reader's block turns: what is left to read, is it bad -/
theorem QX.blk (h : QX o w R D nv P q r W) (i : Nat) (u : Value) (hq : q'.ns = q.ns) (hs : q'.ts <:+ q.ts) (hg : Pa.Good q'.ts) (hc : (qcells R D nv (R.all.length - q.ts.length) q.bad).set i u = qcells R D nv (R.all.length - q'.ts.length) q'.bad) : QX o w R D nv P q' r (W.setCell ⟨R.gp, i, none⟩ u) := by
  have hp := h.ok
  refine ⟨h.ns.trans hq.symm, ?_⟩
  refine h.hp.upd 0 rfl (x := iqr R D nv q.ts q.bad) (x' := iqr R D nv q'.ts q'.bad) ?_ ⟨(Below.refl _ _).setCell (Nat.zero_le _) _, fun k hk ho => Below.heap_setCell _ _ _ _ (by simp [iqr] at ho; exact ho.1), fun b hb => .inl hb⟩ (by simp [iqr, hp.ne])
  exact ⟨hc ▸ hp.blk.set_ i u, tokin_same hp.tok (Below.heap_setCell _ _ _ _ (fun e => hp.ne e.symm)), hs.trans hp.suf, hg, hp.len, hp.le, hp.ne, fun t ht => hp.tx t (hs.subset ht)⟩
/-- where the next token lies -/
structure QAt (R : PR) (D : QD) (nv : Value) (t : Lx.Tok) (k : Nat) (bad : Bool) (W : World) : Prop where
  c0 : W.cell? ⟨R.gp, 0, none⟩ = some (.slice (some ⟨R.gt, 0, none⟩) R.all.length R.cap)
  c1 : W.cell? ⟨R.gp, 1, none⟩ = some (.int .i64 (k : Int))
  c5 : W.cell? ⟨R.gp, 5, none⟩ = some nv
  cb : W.cell? ⟨R.gp, 10, none⟩ = some (.bool bad)
  f1 : W.frozen? ⟨R.gp, 1, none⟩ = false
  fb : W.frozen? ⟨R.gp, 10, none⟩ = false
  k0 : (0 : Int) ≤ (k : Int)
  k1 : (k : Int) < (R.all.length : Int)
  t0 : W.cell? ⟨R.gt, k * 3, none⟩ = some (.int .i64 (t.kind : Int))
  t1 : W.cell? ⟨R.gt, k * 3 + 1, none⟩ = some (.string (bs t.text))
  t2 : W.cell? ⟨R.gt, k * 3 + 2, none⟩ = some (.int .i64 (t.at_ : Int))
theorem QRok.at {t : Lx.Tok} {l : List Lx.Tok} {bad : Bool} (h : QRok R D nv (t :: l) bad W) : ∃ k, QAt R D nv t k bad W ∧ R.all.length - (t :: l).length = k ∧ k + 1 = R.all.length - l.length ∧ k < 65537 ∧ Pa.Fine t := by
  obtain ⟨u, hu⟩ := h.suf
  have hl := congrArg List.length hu
  rw [List.length_append, List.length_cons] at hl
  have hk : R.all.length - (t :: l).length = u.length := by rw [List.length_cons]; omega
  have ht := h.tok.at u.length (by omega)
  have he : R.all[u.length]'(by omega) = t := by
    simp only [← hu]
    rw [List.getElem_append_right (Nat.le_refl _)]
    simp
  rw [he] at ht
  have hlen := h.len
  refine ⟨u.length, ⟨h.blk.cell 0, ?_, h.blk.cell 5, h.blk.cell 10, h.blk.frozen 1, h.blk.frozen 10, by omega, by omega, ht.1, ht.2.1, ht.2.2⟩, hk, by omega, by omega, h.good.fine t (List.mem_cons_self ..)⟩
  have := h.blk.cell 1
  rw [hk] at this
  exact this
/-- behind the token: its place and cells -/
theorem QRok.at2 {t : Lx.Tok} {l : List Lx.Tok} {bad bad' : Bool} {nv' : Value} (h : QRok R D nv (t :: l) bad W) {k : Nat} (hk : R.all.length - (t :: l).length = k) (hk2 : k + 1 = R.all.length - l.length) {W' : World} (h' : QRok R D nv' l bad' W') :
    W'.cell? ⟨R.gp, 0, none⟩ = some (.slice (some ⟨R.gt, 0, none⟩) R.all.length R.cap) ∧ W'.cell? ⟨R.gp, 1, none⟩ = some (.int .i64 ((k : Int) + 1)) ∧ W'.cell? ⟨R.gt, k * 3 + 1, none⟩ = some (.string (bs t.text)) := by
  obtain ⟨u, hu⟩ := h.suf
  have hl := congrArg List.length hu
  rw [List.length_append, List.length_cons] at hl
  have hku : k = u.length := by rw [← hk, List.length_cons]; omega
  have ht := h'.tok.at u.length (by omega)
  have he : R.all[u.length]'(by omega) = t := by
    simp only [← hu]
    rw [List.getElem_append_right (Nat.le_refl _)]
    simp
  rw [he] at ht
  subst hku
  refine ⟨h'.blk.cell 0, ?_, ht.2.1⟩
  have := h'.blk.cell 1
  rw [← hk2] at this
  simpa using this
theorem QRok.cons {bad : Bool} {ts : List Lx.Tok} (h : QRok R D nv ts bad W) : ∃ t l, ts = t :: l := by
  cases ts with
  | nil => exact absurd rfl h.good.ne
  | cons t l => exact ⟨t, l, rfl⟩
theorem QRok.cbad {bad : Bool} {ts : List Lx.Tok} (h : QRok R D nv ts bad W) : W.cell? ⟨R.gp, 10, none⟩ = some (.bool bad) := h.blk.cell 10
/-- one token further -/
theorem QX.step (h : QX o w R D nv P q r W) {t : Lx.Tok} {l : List Lx.Tok} (ht : q.ts = t :: l) (hk : t.kind ≠ 3) {k : Nat} (hk1 : k + 1 = R.all.length - l.length) {n : Int} (hn : n = (k : Int) + 1) : QX o w R D nv P q.step r (W.setCell ⟨R.gp, 1, none⟩ (.int .i64 n)) := by
  have e : q.step.ts = l := by unfold Pa.QS.step; rw [ht]; rfl
  refine h.blk 1 _ rfl (by rw [e, ht]; exact List.suffix_cons _ _) ?_ ?_
  · rw [e]; exact (ht ▸ h.ok.good).tail hk
  · rw [e, hn, ← hk1]; rfl
theorem QX.spoil (h : QX o w R D nv P q r W) : QX o w R D nv P q.spoil r (W.setCell ⟨R.gp, 10, none⟩ (.bool true)) :=
  h.blk 10 _ rfl (List.suffix_refl _) h.ok.good rfl
end
theorem isS_kind {s : Pa.Tx} {q : Pa.QS} {t : Lx.Tok} {l : List Lx.Tok} (ht : q.ts = t :: l) (h : q.isS s = true) : t.kind ≠ 3 := by
  have := (Pa.QS.isS_t h).2
  rw [ht] at this
  simp [Pa.isT] at this
  omega
set_option maxRecDepth 20000 in
set_option maxHeartbeats 4000000 in
theorem qis_any (s : Pa.Tx) (R : PR) (D : QD) (nv : Value) (q : Pa.QS) (W : World) (h : QRok R D nv q.ts q.bad W) : Calls Tryz.prog 225 #[ptr R.gp, .string (bs s)] W fun e w' => e = .returned (.bool (q.isS s)) ∧ Below W.heap.size W w' := by
  obtain ⟨ts, ns, bad⟩ := q
  simp only at h
  obtain ⟨t, l, rfl⟩ := h.cons
  obtain ⟨k, hA, -, -, -, -⟩ := h.at
  obtain ⟨c0, c1, c5, cb, f1, fb, k0, k1, t0, t1, t2⟩ := hA
  clear h f1 fb c5 t2
  cases bad with
  | true =>
    have HR : Hid (Pa.QS.isS s ⟨t :: l, ns, true⟩ = false) := Lib.hid rfl
    go_enter Tryz.func225, Tryz.ntmps225
    go_upto_region 1 with fail
    go_quiet (fail)
    go_wp2_with fail
    go_ret
    rw [HR.out]
    exact ⟨rfl, by first | exact below_drewN' (Below.refl _ _) _ | exact (Below.refl _ _).drew | exact Below.refl _ _⟩
  | false =>
    cases hk : (t.kind == 2) with
    | false =>
      have hd : ((t.kind : Int) == 2) = false := (kindI (n := 2)).trans hk
      have HR : Hid (Pa.QS.isS s ⟨t :: l, ns, false⟩ = false) := Lib.hid (by rw [Pa.isS_f, Pa.isT, hk]; rfl)
      clear hk
      go_enter Tryz.func225, Tryz.ntmps225
      go_upto_region 1 with fail
      go_quiet (fail)
      go_wp2_with fail
      go_ret
      rw [HR.out]
      exact ⟨rfl, by first | exact below_drewN' (Below.refl _ _) _ | exact (Below.refl _ _).drew | exact Below.refl _ _⟩
    | true =>
      have hd : ((t.kind : Int) == 2) = true := (kindI (n := 2)).trans hk
      have HR : Hid (Pa.QS.isS s ⟨t :: l, ns, false⟩ = ((bs t.text).toList == (bs s).toList)) := Lib.hid (by rw [Pa.isS_f, Pa.isT, hk, Bool.true_and, strEq])
      clear hk
      go_enter Tryz.func225, Tryz.ntmps225
      go_upto_region 1 with fail
      go_quiet (fail)
      go_wp2_with fail
      go_ret
      rw [HR.out]
      exact ⟨rfl, by first | exact below_drewN' (Below.refl _ _) _ | exact (Below.refl _ _).drew | exact Below.refl _ _⟩
section
variable {o : List Nat} {w W : World} {R : PR} {D : QD} {nv : Value} {P : List NV} {q : Pa.QS} {r : List It}
set_option maxRecDepth 20000 in
set_option maxHeartbeats 4000000 in
theorem qskip (s : Pa.Tx) (h : QX o w R D nv P q r W) : Calls Tryz.prog 159 #[ptr R.gp, .string (bs s)] W fun e w' => e = .returned (.bool (q.isS s)) ∧ QX o w R D nv P (Pa.skipS s q) r w' := by
  have HI := Lib.hid (qis_any s R D nv q W h.ok)
  have HX := Lib.hid h
  cases hi : q.isS s with
  | false =>
    rw [hi] at HI
    have HR : Hid (Pa.skipS s q = q) := Lib.hid (by rw [Pa.skipS, hi]; rfl)
    clear hi h
    go_enter Tryz.func159, Tryz.ntmps159
    go_wp2_with fail
    refine HI.out.mono ?_
    rintro e w1 ⟨rfl, hb⟩
    go_wp2_with fail
    go_ret
    rw [HR.out]
    exact ⟨rfl, HX.out.next hb⟩
  | true =>
    rw [hi] at HI
    have HR : Hid (Pa.skipS s q = q.step) := Lib.hid (by rw [Pa.skipS, hi]; rfl)
    obtain ⟨t, l, ht⟩ := h.ok.cons
    have hk := isS_kind ht hi
    have h9 := h.ok
    rw [ht] at h9
    obtain ⟨k, -, e1, e2, hk3, -⟩ := h9.at
    clear hi h h9
    go_enter Tryz.func159, Tryz.ntmps159
    go_wp2_with fail
    refine HI.out.mono ?_
    rintro e w1 ⟨rfl, hb⟩
    have hX1 := HX.out.next hb
    have HS := Lib.hid (hX1.step ht hk e2 (n := (k : Int) + 1) rfl)
    have h9 := hX1.ok
    rw [ht] at h9
    obtain ⟨k', hA, e3, -, -, -⟩ := h9.at
    obtain rfl : k' = k := e3.symm.trans e1
    obtain ⟨c0, c1, c5, cb, f1, fb, k0, k1, t0, t1, t2⟩ := hA
    clear hX1 h9 hb c0 c5 cb fb t0 t1 t2 e1 e2 e3 hk ht
    go_wp2_with fail
    go_ret
    rw [HR.out]
    exact ⟨rfl, HS.out⟩
set_option maxRecDepth 20000 in
set_option maxHeartbeats 4000000 in
theorem qtake (s : Pa.Tx) (h : QX o w R D nv P q r W) : Calls Tryz.prog 157 #[ptr R.gp, .string (bs s)] W fun e w' => e = .returned (.tuple #[]) ∧ QX o w R D nv P (Pa.takeS s q) r w' := by
  have HI := Lib.hid (qis_any s R D nv q W h.ok)
  have HX := Lib.hid h
  cases hi : q.isS s with
  | false =>
    rw [hi] at HI
    have HR : Hid (Pa.takeS s q = q.spoil) := Lib.hid (by rw [Pa.takeS, hi]; rfl)
    clear hi h
    go_enter Tryz.func157, Tryz.ntmps157
    go_wp2_with fail
    refine HI.out.mono ?_
    rintro e w1 ⟨rfl, hb⟩
    have hX1 := HX.out.next hb
    have HS := Lib.hid hX1.spoil
    have fb := hX1.ok.blk.frozen 10
    have cb : w1.cell? ⟨R.gp, 10, none⟩ = some (.bool q.bad) := hX1.ok.blk.cell 10
    clear hX1 hb HX
    go_wp2_with fail
    refine ⟨rfl, .tuple #[], by simp [results, Tryz.results157, go_sem], ?_⟩
    rw [HR.out]
    exact ⟨rfl, HS.out⟩
  | true =>
    rw [hi] at HI
    have HR : Hid (Pa.takeS s q = q.step) := Lib.hid (by rw [Pa.takeS, hi]; rfl)
    obtain ⟨t, l, ht⟩ := h.ok.cons
    have hk := isS_kind ht hi
    have h9 := h.ok
    rw [ht] at h9
    obtain ⟨k, -, e1, e2, hk3, -⟩ := h9.at
    clear hi h h9
    go_enter Tryz.func157, Tryz.ntmps157
    go_wp2_with fail
    refine HI.out.mono ?_
    rintro e w1 ⟨rfl, hb⟩
    have hX1 := HX.out.next hb
    have HS := Lib.hid (hX1.step ht hk e2 (n := (k : Int) + 1) rfl)
    have h9 := hX1.ok
    rw [ht] at h9
    obtain ⟨k', hA, e3, -, -, -⟩ := h9.at
    obtain rfl : k' = k := e3.symm.trans e1
    obtain ⟨c0, c1, c5, cb, f1, fb, k0, k1, t0, t1, t2⟩ := hA
    clear hX1 h9 hb c0 c5 cb fb t0 t1 t2 e1 e2 e3 hk ht
    go_wp2_with fail
    go_end0
    rw [HR.out]
    exact ⟨rfl, HS.out⟩

end
end Go.Proofs.YtogmhaihmkcjgaaGreatDoor

/-
  dominoref42: isWord, Number, name, word, number.
-/
namespace Go.Proofs.YtogmhaihmkcjgaaGreatDoor
open Go.RowKit Go.Shelf
set_option linter.unusedVariables false

set_option maxRecDepth 20000 in
set_option maxHeartbeats 4000000 in
theorem qisWord (t : Lx.Tok) (l : List Lx.Tok) (hf : Pa.Fine t) (w : World) : Calls Tryz.prog 226 #[tokV t] w fun e w' => e = .returned (.bool (Pa.isW (t :: l))) ∧ Below w.heap.size w w' := by
  cases hk : (t.kind == 0) with
  | false =>
    have hd : ((t.kind : Int) == 0) = false := (kindI (n := 0)).trans hk
    have HR : Hid (Pa.isW (t :: l) = false) := Lib.hid (by rw [Pa.isW, hk]; rfl)
    have hb := Below.alloc (Below.refl w.heap.size w) (Nat.le_refl _) (.cells #[.int .i64 (t.kind : Int), .string (bs t.text), .int .i64 (t.at_ : Int)] 158)
    clear hk
    unfold tokV
    go_enter Tryz.func226, Tryz.ntmps226
    go_wp2_with fail
    go_ret
    rw [HR.out]
    exact ⟨rfl, hb⟩
  | true =>
    have hd : ((t.kind : Int) == 0) = true := (kindI (n := 0)).trans hk
    have hk0 : t.kind = 0 := by simpa using hk
    obtain ⟨c, m, hc⟩ : ∃ c m, t.text = c :: m := by
      cases hf with
      | word x hk h => exact ⟨_, _, h.eq⟩
      | name hk h => obtain ⟨c, m, h1, -⟩ := h.fst; exact ⟨c, m, h1⟩
      | num neg d hk h => omega
      | sign hk h0 => omega
      | end_ hk h => omega
    have HR : Hid (Pa.isW (t :: l) = ((c.toNat : Int) == 39)) := Lib.hid (by
      rw [Pa.isW, hk, hc, Bool.true_and]
      have h1 : ((some c == some (39 : UInt8)) : Bool) = (c == 39) := rfl
      show (some c == some (39 : UInt8)) = _
      rw [h1, Bool.eq_iff_iff, beq_iff_eq, beq_iff_eq]
      constructor
      · rintro rfl; rfl
      · intro h; exact UInt8.toNat_inj.1 (by have : (39 : UInt8).toNat = 39 := rfl; omega))
    have hb := Below.alloc (Below.refl w.heap.size w) (Nat.le_refl _) (.cells #[.int .i64 (t.kind : Int), .string (bs t.text), .int .i64 (t.at_ : Int)] 158)
    have hs0 : 0 < (bs t.text).size := by rw [size_bs, hc]; simp
    have hs1 : (0 : Int) < ((bs t.text).size : Int) := by omega
    have hs2 : (bs t.text)[0] = c := by
      rw [← tl_getElem _ 0 hs0]
      simp [tl_bs, hc]
    clear hk hk0 hc hf
    unfold tokV
    generalize bs t.text = s at *
    subst hs2
    go_enter Tryz.func226, Tryz.ntmps226
    go_wp2_with fail
    go_ret
    rw [HR.out]
    exact ⟨rfl, hb⟩
theorem isW_word {t : Lx.Tok} {l : List Lx.Tok} (hi : Pa.isW (t :: l) = true) (hf : Pa.Fine t) : ∃ x, (bs t.text = bs (39 :: (x ++ [39])) ∧ (bs (39 :: (x ++ [39]))).size ≤ 1000) ∧ t.text.tail.dropLast = x := by
  simp only [Pa.isW, Bool.and_eq_true, beq_iff_eq] at hi
  cases hf with
  | word x hk h =>
    have := h.le
    exact ⟨x, ⟨by rw [h.eq], by rw [size_bs]; simp; omega⟩, Pa.word_mid h⟩
  | name hk h =>
    obtain ⟨c, m, h1, h2⟩ := h.fst
    rw [h1] at hi
    have : c = 39 := by simpa using hi.2
    exact absurd this (Pa.isLet_ne h2)
  | num neg d hk h => omega
  | sign hk h0 => omega
  | end_ hk h => omega
theorem quote_mid (x : Pa.Tx) : (bs (39 :: (x ++ [39]))).extract 1 ((bs (39 :: (x ++ [39]))).size - 1) = bs x := by
  apply ByteArray.ext
  rw [ByteArray.data_extract]
  apply Array.ext'
  rw [Array.toList_extract, size_bs]
  simp [bs]
/-- the digits of a number's text -/
def digF (l : Pa.Tx) : Nat := Lx.dv (l.filter fun c => !(c == 45))
theorem digF_le (l : Pa.Tx) (k : Nat) : digF (l.take k) ≤ digF l := by
  unfold digF
  have e : l.filter (fun c => !(c == 45)) = (l.take k).filter (fun c => !(c == 45)) ++ (l.drop k).filter (fun c => !(c == 45)) := by rw [← List.filter_append, List.take_append_drop]
  rw [e]
  exact Lx.dv_mono _ _
theorem dig_keep {d : Pa.Tx} (h : ∀ c ∈ d, Lx.isDig c = true) : d.filter (fun c => !(c == 45)) = d := by
  rw [List.filter_eq_self]
  intro c hc
  have := Pa.isDig_ne (h c hc)
  simpa using this
theorem num_facts {t : Pa.Tx} {neg : Bool} {d : Pa.Tx} (h : Pa.NumT t neg d) : (∀ c ∈ t, c = 45 ∨ Lx.isDig c = true) ∧ digF t ≤ 2147483648 ∧ ∃ c m, t = c :: m ∧ Pa.numV t = if c = 45 then -(digF t : Int) else (digF t : Int) := by
  have hle := h.le
  have heq := h.eq
  have hd := dig_keep h.all
  cases neg with
  | true =>
    simp only [if_true] at heq hle
    subst heq
    have e : digF (45 :: d) = Lx.dv d := by unfold digF; rw [List.filter_cons_of_neg (by simp), hd]
    refine ⟨fun c hc => ?_, by omega, 45, d, rfl, ?_⟩
    · rcases List.mem_cons.1 hc with rfl | hc
      · exact .inl rfl
      · exact .inr (h.all c hc)
    · rw [e]; rfl
  | false =>
    simp only [Bool.false_eq_true, if_false] at heq hle
    subst heq
    have e : digF t = Lx.dv t := by unfold digF; rw [hd]
    refine ⟨fun c hc => .inr (h.all c hc), by omega, ?_⟩
    cases t with
    | nil => exact absurd h.pos (by simp)
    | cons c m =>
      refine ⟨c, m, rfl, ?_⟩
      rw [e, Pa.numV, if_neg (Pa.isDig_ne (h.all c (List.mem_cons_self ..))), if_neg (Pa.isDig_ne (h.all c (List.mem_cons_self ..)))]
theorem u8_45 (c : UInt8) : ((c.toNat : Int) == 45) = decide (c = 45) := by
  rw [Bool.eq_iff_iff, beq_iff_eq, decide_eq_true_iff]
  constructor
  · intro h; exact UInt8.toNat_inj.1 (by have : (45 : UInt8).toNat = 45 := rfl; omega)
  · rintro rfl; rfl
theorem digF_next (s : ByteArray) (k : Nat) (h : k < s.size) : digF ((tl s).take (k + 1)) = if s[k] = 45 then digF ((tl s).take k) else 10 * digF ((tl s).take k) + (s[k].toNat - 48) := by
  unfold digF
  rw [take_snoc s k h, List.filter_append]
  by_cases hc : s[k] = 45
  · rw [if_pos hc, List.filter_cons_of_neg (by simpa using hc), List.filter_nil, List.append_nil]
  · rw [if_neg hc, List.filter_cons_of_pos (by simpa using hc), List.filter_nil, Lx.dv_snoc]
set_option maxRecDepth 20000 in
set_option maxHeartbeats 4000000 in
theorem Number_at (s : ByteArray) (v : Int) (hs : s.size ≤ 100000) (h0 : 0 < s.size) (hD : ∀ k (h : k < s.size), s[k] = 45 ∨ Lx.isDig s[k] = true) (hle : digF (tl s) ≤ 2147483648) (hv : v = if s[0] = 45 then -(digF (tl s) : Int) else (digF (tl s) : Int)) (w : World) :
    Calls Tryz.prog 229 #[.string s] w fun e w' => e = .returned (.int .i64 v) ∧ Below w.heap.size w w' := by
  have HD := Lib.hid hD
  have HV := Lib.hid hv
  clear hD hv
  go_enter Tryz.func229, Tryz.ntmps229
  go_upto_region 3 with fail
  go_loopg [3, 4] s.size (fun m s3 s4 wx => ∃ i : Nat, i ≤ s.size ∧ m = s.size - i ∧ s3 = .int .i64 (digF ((tl s).take i) : Int) ∧ s4 = .int .i64 (i : Int) ∧ w = wx)
  case atStart => exact ⟨0, Nat.zero_le _, rfl, rfl, rfl, rfl⟩
  case round =>
    obtain ⟨i, hi, rfl, rfl, rfl, rfl⟩ := hrel
    by_cases hil : i < s.size
    · have hii : (i : Int) < (s.size : Int) := by omega
      have hi0 : (0 : Int) ≤ (i : Int) := by omega
      have HN := Lib.hid (digF_next s i hil)
      have hb1 := digF_le (tl s) (i + 1)
      have hb0 := digF_le (tl s) i
      have e45 := u8_45 s[i]
      have h9 := s[i].toNat_lt
      by_cases hc : s[i] = 45
      · rw [decide_eq_true hc] at e45
        have e46 : ((s[i].toNat : Int) != 45) = false := by rw [bne, e45]; rfl
        have HN2 : Hid (digF ((tl s).take (i + 1)) = digF ((tl s).take i)) := Lib.hid (by rw [HN.out, if_pos hc])
        clear HN hc hb1
        generalize digF ((tl s).take i) = n at *
        go_wp2_with fail
        go_roundg (s.size - (i + 1))
        case measure => omega
        case rel => exact ⟨i + 1, hil, rfl, by rw [HN2.out], by first | rfl | simp, rfl⟩
      · have hdg := Pa.dig_nat ((HD.out i hil).resolve_left hc)
        rw [decide_eq_false hc] at e45
        have e46 : ((s[i].toNat : Int) != 45) = true := by rw [bne, e45]; rfl
        have HN2 : Hid ((digF ((tl s).take (i + 1)) : Int) = 10 * (digF ((tl s).take i) : Int) + ((s[i].toNat : Int) - 48)) := Lib.hid (by rw [HN.out, if_neg hc]; omega)
        clear HN hc hb1
        generalize digF ((tl s).take i) = n at *
        have hu : IntKind.u8.wrap ((s[i].toNat : Int) - 48) = (s[i].toNat : Int) - 48 := by
          have : ∀ x : Int, 0 ≤ x → x < 256 → IntKind.u8.wrap x = x := fun x h1 h2 => by
            simp only [IntKind.wrap]
            exact Int.emod_eq_of_lt h1 h2
          exact this _ (by omega) (by omega)
        go_wp2_with fail
        go_roundg (s.size - (i + 1))
        case measure => omega
        case rel => exact ⟨i + 1, hil, rfl, by rw [HN2.out], by first | rfl | simp, rfl⟩
    · have hii : ¬ (i : Int) < (s.size : Int) := by omega
      have HE : Hid (digF ((tl s).take i) = digF (tl s)) := Lib.hid (by rw [List.take_of_length_le (by rw [length_tl]; omega)])
      have hs1 : (0 : Int) < (s.size : Int) := by omega
      rw [HE.out]
      have e45 := u8_45 s[0]
      by_cases hc : s[0] = 45
      · rw [decide_eq_true hc] at e45
        have HV2 : Hid (v = -(digF (tl s) : Int)) := Lib.hid (by rw [HV.out, if_pos hc])
        clear hc HV HE
        generalize digF (tl s) = n at *
        go_wp2_with fail
        go_ret
        rw [HV2.out]
        exact ⟨rfl, Below.refl _ _⟩
      · rw [decide_eq_false hc] at e45
        have HV2 : Hid (v = (digF (tl s) : Int)) := Lib.hid (by rw [HV.out, if_neg hc])
        clear hc HV HE
        generalize digF (tl s) = n at *
        go_wp2_with fail
        go_ret
        rw [HV2.out]
        exact ⟨rfl, Below.refl _ _⟩
theorem Number_any (t : Lx.Tok) (l : List Lx.Tok) (hi : Pa.isM (t :: l) = true) (hf : Pa.Fine t) (hlen : t.text.length ≤ 100000) (w : World) : Calls Tryz.prog 229 #[.string (bs t.text)] w fun e w' => e = .returned (.int .i64 (Pa.numV t.text)) ∧ Below w.heap.size w w' := by
  obtain ⟨neg, d, hn⟩ := isM_num hi hf
  obtain ⟨h1, h2, c, m, h3, h4⟩ := num_facts hn
  refine Number_at (bs t.text) _ (by rw [size_bs]; exact hlen) (by rw [size_bs, h3]; simp) (fun k hk => ?_) (by rw [tl_bs]; exact h2) ?_ w
  · have : (bs t.text)[k] ∈ tl (bs t.text) := by rw [← tl_getElem _ k hk]; exact List.getElem_mem _
    rw [tl_bs] at this
    exact h1 _ this
  · rw [tl_bs, h4]
    have : (bs t.text)[0]'(by rw [size_bs, h3]; simp) = c := by
      rw [← tl_getElem _ 0 (by rw [size_bs, h3]; simp)]
      simp [tl_bs, h3]
    rw [this]
section
variable {o : List Nat} {w W : World} {R : PR} {D : QD} {nv : Value} {P : List NV} {q : Pa.QS} {r : List It}
set_option maxRecDepth 20000 in
set_option maxHeartbeats 8000000 in
theorem qname (h : QX o w R D nv P q r W) : Calls Tryz.prog 158 #[ptr R.gp] W fun e w' => e = .returned (Sv (Pa.nameX q)) ∧ QX o w R D nv P (Pa.nameS q) r w' := by
  obtain ⟨t, l, ht⟩ := h.ok.cons
  have HX := Lib.hid h
  have h9 := h.ok
  rw [ht] at h9
  obtain ⟨k, hA, e1, e2, hk3, hf⟩ := h9.at
  obtain ⟨c0, c1, c5, cb, f1, fb, k0, k1, t0, t1, t2⟩ := hA
  clear h h9
  cases hbad : q.bad with
  | true =>
    have HR : Hid (Pa.nameX q = [] ∧ Pa.nameS q = q.spoil) := Lib.hid ⟨by unfold Pa.nameX; rw [hbad]; rfl, by unfold Pa.nameS; rw [hbad]; rfl⟩
    rw [hbad] at cb
    clear e1 e2 hf
    go_enter Tryz.func158, Tryz.ntmps158
    go_upto_region 1 with fail
    go_quiet (fail)
    have hX1 := HX.out.drewN nq
    generalize W.drewN nq = W1 at *
    clear c0 c1 c5 cb f1 fb t0 t1 t2
    have HS := Lib.hid hX1.spoil
    have fb := hX1.ok.blk.frozen 10
    have cb := hX1.ok.cbad
    clear hX1
    go_wp2_with fail
    go_ret
    rw [HR.out.1, HR.out.2]
    exact ⟨rfl, HS.out⟩
  | false =>
    rw [hbad] at cb
    cases hkk : (t.kind == 0) with
    | false =>
      have hd : ((t.kind : Int) == 0) = false := (kindI (n := 0)).trans hkk
      have hd2 : ((t.kind : Int) != 0) = true := by rw [bne, hd]; rfl
      have hi : Pa.isN q.ts = false := by rw [ht, Pa.isN, hkk]; rfl
      have HR : Hid (Pa.nameX q = [] ∧ Pa.nameS q = q.spoil) := Lib.hid ⟨by unfold Pa.nameX; rw [hbad, hi]; rfl, by unfold Pa.nameS; rw [hbad, hi]; rfl⟩
      clear e1 e2 hf hi hkk
      go_enter Tryz.func158, Tryz.ntmps158
      go_upto_region 1 with fail
      go_quiet (fail)
      have hX1 := HX.out.drewN nq
      generalize W.drewN nq = W1 at *
      clear c0 c1 c5 cb f1 fb t0 t1 t2
      have HS := Lib.hid hX1.spoil
      have fb := hX1.ok.blk.frozen 10
      have cb := hX1.ok.cbad
      clear hX1
      go_wp2_with fail
      go_ret
      rw [HR.out.1, HR.out.2]
      exact ⟨rfl, HS.out⟩
    | true =>
      have hd : ((t.kind : Int) == 0) = true := (kindI (n := 0)).trans hkk
      have hd2 : ((t.kind : Int) != 0) = false := by rw [bne, hd]; rfl
      have HW := Lib.hid (fun w => qisWord t l hf w)
      have hkn : Pa.isN q.ts = !Pa.isW (t :: l) := by rw [ht, Pa.isN, hkk]; rfl
      have hk : t.kind ≠ 3 := by simp at hkk; omega
      clear hkk hf
      cases hi : Pa.isW (t :: l) with
      | true =>
        rw [hi] at HW hkn
        have HR : Hid (Pa.nameX q = [] ∧ Pa.nameS q = q.spoil) := Lib.hid ⟨by unfold Pa.nameX; rw [hbad, hkn]; rfl, by unfold Pa.nameS; rw [hbad, hkn]; rfl⟩
        clear e1 e2 hi hkn
        go_enter Tryz.func158, Tryz.ntmps158
        go_upto_region 1 with fail
        first | go_region_held3 (fun w' => w'.cell? ⟨R.gp, 0, none⟩ = some (.slice (some ⟨R.gt, 0, none⟩) R.all.length R.cap) ∧ w'.cell? ⟨R.gp, 1, none⟩ = some (.int .i64 (k : Int)) ∧ w'.cell? ⟨R.gp, 10, none⟩ = some (.bool false) ∧ w'.cell? ⟨R.gt, k * 3, none⟩ = some (.int .i64 (t.kind : Int)) ∧ w'.cell? ⟨R.gt, k * 3 + 1, none⟩ = some (.string (bs t.text)) ∧ w'.cell? ⟨R.gt, k * 3 + 2, none⟩ = some (.int .i64 (t.at_ : Int))) (first | exact ⟨c0, c1, cb, t0, t1, t2⟩ | exact ⟨scell_up (W := W.drew) c0 (by assumption), scell_up (W := W.drew) c1 (by assumption), scell_up (W := W.drew) cb (by assumption), scell_up (W := W.drew) t0 (by assumption), scell_up (W := W.drew) t1 (by assumption), scell_up (W := W.drew) t2 (by assumption)⟩)
          (first | (go_at_call 226; refine (HW.out _).mono ?_; rintro e w5 ⟨rfl, hb5⟩)) | fail
        have hX1 := HX.out.drew.next hb5
        clear c0 c1 c5 cb f1 fb t0 t1 t2 hb5 HW
        have HS := Lib.hid hX1.spoil
        have fb := hX1.ok.blk.frozen 10
        have cb := hX1.ok.cbad
        clear hX1
        go_wp2_with fail
        go_ret
        rw [HR.out.1, HR.out.2]
        exact ⟨rfl, HS.out⟩
      | false =>
        rw [hi] at HW hkn
        have HR : Hid (Pa.nameX q = t.text ∧ Pa.nameS q = q.step) := Lib.hid ⟨by unfold Pa.nameX; rw [hbad, hkn, ht]; rfl, by unfold Pa.nameS; rw [hbad, hkn]; rfl⟩
        have ht9 : q.step.ts = l := by unfold Pa.QS.step; rw [ht]; rfl
        clear hi hkn
        go_enter Tryz.func158, Tryz.ntmps158
        go_upto_region 1 with fail
        first | go_region_held3 (fun w' => w'.cell? ⟨R.gp, 0, none⟩ = some (.slice (some ⟨R.gt, 0, none⟩) R.all.length R.cap) ∧ w'.cell? ⟨R.gp, 1, none⟩ = some (.int .i64 (k : Int)) ∧ w'.cell? ⟨R.gp, 10, none⟩ = some (.bool false) ∧ w'.cell? ⟨R.gt, k * 3, none⟩ = some (.int .i64 (t.kind : Int)) ∧ w'.cell? ⟨R.gt, k * 3 + 1, none⟩ = some (.string (bs t.text)) ∧ w'.cell? ⟨R.gt, k * 3 + 2, none⟩ = some (.int .i64 (t.at_ : Int))) (first | exact ⟨c0, c1, cb, t0, t1, t2⟩ | exact ⟨scell_up (W := W.drew) c0 (by assumption), scell_up (W := W.drew) c1 (by assumption), scell_up (W := W.drew) cb (by assumption), scell_up (W := W.drew) t0 (by assumption), scell_up (W := W.drew) t1 (by assumption), scell_up (W := W.drew) t2 (by assumption)⟩)
          (first | (go_at_call 226; refine (HW.out _).mono ?_; rintro e w5 ⟨rfl, hb5⟩)) | fail
        have hX1 := HX.out.drew.next hb5
        clear c0 c1 c5 cb f1 fb t0 t1 t2 hb5 HW
        have hX1 := hX1
        have HS := Lib.hid (hX1.step ht hk e2 (n := (k : Int) + 1) rfl)
        have h9 := hX1.ok
        rw [ht] at h9
        obtain ⟨k', hA, e3, -, -, -⟩ := h9.at
        obtain rfl : k = k' := e1.symm.trans e3
        obtain ⟨c0, c1, c5, cb, f1, fb, k0, k1, t0, t1, t2⟩ := hA
        have h2 := h9.at2 e1 e2 (ht9 ▸ HS.out.ok)
        clear hX1 h9 c0 c5 cb fb t0 t1 t2 e1 e2 e3 hk
        go_upto_region 5 with fail
        clear c1 f1
        generalize w5.setCell ⟨R.gp, 1, none⟩ (.int .i64 ((k : Int) + 1)) = w2 at *
        obtain ⟨c0, c1, t1⟩ := h2
        go_quiet (fail)
        go_wp2_with fail
        go_ret
        rw [HR.out.1, HR.out.2]
        exact ⟨rfl, HS.out.drewN nq⟩

set_option maxRecDepth 20000 in
set_option maxHeartbeats 8000000 in
theorem qword (h : QX o w R D nv P q r W) : Calls Tryz.prog 162 #[ptr R.gp] W fun e w' => e = .returned (Sv (Pa.wordX q)) ∧ QX o w R D nv P (Pa.wordS q) r w' := by
  obtain ⟨t, l, ht⟩ := h.ok.cons
  have HX := Lib.hid h
  have h9 := h.ok
  rw [ht] at h9
  obtain ⟨k, hA, e1, e2, hk3, hf⟩ := h9.at
  obtain ⟨c0, c1, c5, cb, f1, fb, k0, k1, t0, t1, t2⟩ := hA
  clear h h9
  cases hbad : q.bad with
  | true =>
    have HR : Hid (Pa.wordX q = [] ∧ Pa.wordS q = q.spoil) := Lib.hid ⟨by unfold Pa.wordX; rw [hbad]; rfl, by unfold Pa.wordS; rw [hbad]; rfl⟩
    rw [hbad] at cb
    clear e1 e2 hf
    go_enter Tryz.func162, Tryz.ntmps162
    go_upto_region 1 with fail
    go_quiet (fail)
    have hX1 := HX.out.drewN nq
    generalize W.drewN nq = W1 at *
    clear c0 c1 c5 cb f1 fb t0 t1 t2
    have HS := Lib.hid hX1.spoil
    have fb := hX1.ok.blk.frozen 10
    have cb := hX1.ok.cbad
    clear hX1
    go_wp2_with fail
    go_ret
    rw [HR.out.1, HR.out.2]
    exact ⟨rfl, HS.out⟩
  | false =>
    rw [hbad] at cb
    have HW := Lib.hid (fun w => qisWord t l hf w)
    cases hi : Pa.isW (t :: l) with
    | false =>
      rw [hi] at HW
      have hi2 : Pa.isW q.ts = false := by rw [ht]; exact hi
      have HR : Hid (Pa.wordX q = [] ∧ Pa.wordS q = q.spoil) := Lib.hid ⟨by unfold Pa.wordX; rw [hbad, hi2]; rfl, by unfold Pa.wordS; rw [hbad, hi2]; rfl⟩
      clear e1 e2 hi hi2 hf
      go_enter Tryz.func162, Tryz.ntmps162
      go_upto_region 1 with fail
      first | go_region_held3 (fun w' => w'.cell? ⟨R.gp, 0, none⟩ = some (.slice (some ⟨R.gt, 0, none⟩) R.all.length R.cap) ∧ w'.cell? ⟨R.gp, 1, none⟩ = some (.int .i64 (k : Int)) ∧ w'.cell? ⟨R.gp, 10, none⟩ = some (.bool false) ∧ w'.cell? ⟨R.gt, k * 3, none⟩ = some (.int .i64 (t.kind : Int)) ∧ w'.cell? ⟨R.gt, k * 3 + 1, none⟩ = some (.string (bs t.text)) ∧ w'.cell? ⟨R.gt, k * 3 + 2, none⟩ = some (.int .i64 (t.at_ : Int))) (first | exact ⟨c0, c1, cb, t0, t1, t2⟩ | exact ⟨scell_up (W := W.drew) c0 (by assumption), scell_up (W := W.drew) c1 (by assumption), scell_up (W := W.drew) cb (by assumption), scell_up (W := W.drew) t0 (by assumption), scell_up (W := W.drew) t1 (by assumption), scell_up (W := W.drew) t2 (by assumption)⟩)
        (first | (go_at_call 226; refine (HW.out _).mono ?_; rintro e w5 ⟨rfl, hb5⟩)) | fail
      have hX1 := HX.out.drew.next hb5
      clear c0 c1 c5 cb f1 fb t0 t1 t2 hb5 HW
      have HS := Lib.hid hX1.spoil
      have fb := hX1.ok.blk.frozen 10
      have cb := hX1.ok.cbad
      clear hX1
      go_wp2_with fail
      go_ret
      rw [HR.out.1, HR.out.2]
      exact ⟨rfl, HS.out⟩
    | true =>
      rw [hi] at HW
      obtain ⟨x, hx1, hx2⟩ := isW_word hi hf
      have hk : t.kind ≠ 3 := by simp [Pa.isW] at hi; omega
      have HR : Hid (Pa.wordX q = x ∧ Pa.wordS q = q.step) := Lib.hid ⟨by unfold Pa.wordX; rw [ht, hbad, hi]; exact hx2, by unfold Pa.wordS; rw [ht, hbad, hi]; rfl⟩
      have ht9 : q.step.ts = l := by unfold Pa.QS.step; rw [ht]; rfl
      have HSL := Lib.hid (quote_mid x)
      have HX1 := Lib.hid hx1
      clear hi hf hx1 hx2
      go_enter Tryz.func162, Tryz.ntmps162
      go_upto_region 1 with fail
      first | go_region_held3 (fun w' => w'.cell? ⟨R.gp, 0, none⟩ = some (.slice (some ⟨R.gt, 0, none⟩) R.all.length R.cap) ∧ w'.cell? ⟨R.gp, 1, none⟩ = some (.int .i64 (k : Int)) ∧ w'.cell? ⟨R.gp, 10, none⟩ = some (.bool false) ∧ w'.cell? ⟨R.gt, k * 3, none⟩ = some (.int .i64 (t.kind : Int)) ∧ w'.cell? ⟨R.gt, k * 3 + 1, none⟩ = some (.string (bs t.text)) ∧ w'.cell? ⟨R.gt, k * 3 + 2, none⟩ = some (.int .i64 (t.at_ : Int))) (first | exact ⟨c0, c1, cb, t0, t1, t2⟩ | exact ⟨scell_up (W := W.drew) c0 (by assumption), scell_up (W := W.drew) c1 (by assumption), scell_up (W := W.drew) cb (by assumption), scell_up (W := W.drew) t0 (by assumption), scell_up (W := W.drew) t1 (by assumption), scell_up (W := W.drew) t2 (by assumption)⟩)
        (first | (go_at_call 226; refine (HW.out _).mono ?_; rintro e w5 ⟨rfl, hb5⟩)) | fail
      have hX1 := HX.out.drew.next hb5
      clear c0 c1 c5 cb f1 fb t0 t1 t2 hb5 HW
      have hX1 := hX1
      have HS := Lib.hid (hX1.step ht hk e2 (n := (k : Int) + 1) rfl)
      have h9 := hX1.ok
      rw [ht] at h9
      obtain ⟨k', hA, e3, -, -, -⟩ := h9.at
      obtain rfl : k = k' := e1.symm.trans e3
      obtain ⟨c0, c1, c5, cb, f1, fb, k0, k1, t0, t1, t2⟩ := hA
      have h2 := h9.at2 e1 e2 (ht9 ▸ HS.out.ok)
      clear hX1 h9 c0 c5 cb fb t0 t1 t2 e1 e2 e3 hk
      go_upto_region 5 with fail
      clear c1 f1
      generalize w5.setCell ⟨R.gp, 1, none⟩ (.int .i64 ((k : Int) + 1)) = w2 at *
      obtain ⟨c0, c1, t1⟩ := h2
      have hz1 : (1 : Int) ≤ ((bs (39 :: (x ++ [39]))).size : Int) - 1 := by rw [size_bs]; simp only [List.length_cons, List.length_append, List.length_nil]; omega
      have hsz : (bs (39 :: (x ++ [39]))).size ≤ 1000 := HX1.out.2
      rw [HX1.out.1] at t1
      clear HX1
      generalize bs (39 :: (x ++ [39])) = s at *
      have hz2 : (s.size : Int) - 1 ≤ (s.size : Int) := by omega
      have hw9 : IntKind.i64.wrap ((s.size : Int) - 1) = (s.size : Int) - 1 := IntWalk.i64_in _ (by omega)
      go_quiet (fail)
      go_wp2_with fail
      go_ret
      rw [HR.out.1, HR.out.2]
      exact ⟨ret_val (congrArg Value.string (by rw [← HSL.out])), HS.out.drewN nq⟩

set_option maxRecDepth 20000 in
set_option maxHeartbeats 8000000 in
theorem qnumber (h : QX o w R D nv P q r W) : Calls Tryz.prog 163 #[ptr R.gp] W fun e w' => e = .returned (.int .i64 (Pa.numX q)) ∧ QX o w R D nv P (Pa.numS q) r w' := by
  obtain ⟨t, l, ht⟩ := h.ok.cons
  have HX := Lib.hid h
  have h9 := h.ok
  rw [ht] at h9
  obtain ⟨k, hA, e1, e2, hk3, hf⟩ := h9.at
  obtain ⟨c0, c1, c5, cb, f1, fb, k0, k1, t0, t1, t2⟩ := hA
  have htx := h9.tx t (List.mem_cons_self ..)
  clear h h9
  cases hbad : q.bad with
  | true =>
    have HR : Hid (Pa.numX q = 0 ∧ Pa.numS q = q.spoil) := Lib.hid ⟨by unfold Pa.numX; rw [hbad]; rfl, by unfold Pa.numS; rw [hbad]; rfl⟩
    rw [hbad] at cb
    clear e1 e2 hf
    go_enter Tryz.func163, Tryz.ntmps163
    go_upto_region 1 with fail
    go_quiet (fail)
    have hX1 := HX.out.drewN nq
    generalize W.drewN nq = W1 at *
    clear c0 c1 c5 cb f1 fb t0 t1 t2
    have HS := Lib.hid hX1.spoil
    have fb := hX1.ok.blk.frozen 10
    have cb := hX1.ok.cbad
    clear hX1
    go_wp2_with fail
    go_ret
    rw [HR.out.1, HR.out.2]
    exact ⟨rfl, HS.out⟩
  | false =>
    rw [hbad] at cb
    cases hi : Pa.isM q.ts with
    | false =>
      have hd : ((t.kind : Int) == 1) = false := (kindI (n := 1)).trans (by rw [ht, Pa.isM] at hi; exact hi)
      have hd2 : ((t.kind : Int) != 1) = true := by rw [bne, hd]; rfl
      have HR : Hid (Pa.numX q = 0 ∧ Pa.numS q = q.spoil) := Lib.hid ⟨by unfold Pa.numX; rw [hbad, hi]; rfl, by unfold Pa.numS; rw [hbad, hi]; rfl⟩
      clear e1 e2 hf hi
      go_enter Tryz.func163, Tryz.ntmps163
      go_upto_region 1 with fail
      go_quiet (fail)
      have hX1 := HX.out.drewN nq
      generalize W.drewN nq = W1 at *
      clear c0 c1 c5 cb f1 fb t0 t1 t2
      have HS := Lib.hid hX1.spoil
      have fb := hX1.ok.blk.frozen 10
      have cb := hX1.ok.cbad
      clear hX1
      go_wp2_with fail
      go_ret
      rw [HR.out.1, HR.out.2]
      exact ⟨rfl, HS.out⟩
    | true =>
      have hd : ((t.kind : Int) == 1) = true := (kindI (n := 1)).trans (by rw [ht, Pa.isM] at hi; exact hi)
      have hd2 : ((t.kind : Int) != 1) = false := by rw [bne, hd]; rfl
      have hk : t.kind ≠ 3 := by rw [ht] at hi; simp [Pa.isM] at hi; omega
      have HN := Lib.hid (fun w => Number_any t l (by rw [← ht]; exact hi) hf htx w)
      have HR : Hid (Pa.numX q = Pa.numV t.text ∧ Pa.numS q = q.step) := Lib.hid ⟨by unfold Pa.numX; rw [hbad, hi, ht]; rfl, by unfold Pa.numS; rw [hbad, hi]; rfl⟩
      have ht9 : q.step.ts = l := by unfold Pa.QS.step; rw [ht]; rfl
      clear hi hf
      go_enter Tryz.func163, Tryz.ntmps163
      go_upto_region 1 with fail
      go_quiet (fail)
      clear c0 c1 c5 cb f1 fb t0 t1 t2
      have hX1 := HX.out.drewN nq
      have HS := Lib.hid (hX1.step ht hk e2 (n := (k : Int) + 1) rfl)
      have h9 := hX1.ok
      rw [ht] at h9
      obtain ⟨k', hA, e3, -, -, -⟩ := h9.at
      obtain rfl : k = k' := e1.symm.trans e3
      obtain ⟨c0, c1, c5, cb, f1, fb, k0, k1, t0, t1, t2⟩ := hA
      have h2 := h9.at2 e1 e2 (ht9 ▸ HS.out.ok)
      clear hX1 h9 c0 c5 cb fb t0 t1 t2 e1 e2 e3 hk
      generalize W.drewN nq = W1 at *
      go_upto_region 5 with fail
      generalize W1.setCell ⟨R.gp, 1, none⟩ (.int .i64 ((k : Int) + 1)) = w2 at *
      obtain ⟨c0, c1, t1⟩ := h2
      generalize Pa.numV t.text = nvv at *
      have hw : IntKind.i64.wrap ((k : Int) + 1 - 1) = (k : Int) := by rw [Int.add_sub_cancel]; exact IntWalk.i64_in _ (by omega)
      obtain ⟨m, hm⟩ : ∃ m : Int, (k : Int) + 1 = m := ⟨_, rfl⟩
      rw [hm] at hw c1
      have hXd := HS.out.drew
      first | go_region_held3 (fun w' => w'.cell? ⟨R.gp, 0, none⟩ = some (.slice (some ⟨R.gt, 0, none⟩) R.all.length R.cap) ∧ w'.cell? ⟨R.gp, 1, none⟩ = some (.int .i64 m) ∧ w'.cell? ⟨R.gt, k * 3 + 1, none⟩ = some (.string (bs t.text))) (first | exact ⟨c0, c1, t1⟩ | exact ⟨scell_up (W := w2.drew) c0 (by assumption), scell_up (W := w2.drew) c1 (by assumption), scell_up (W := w2.drew) t1 (by assumption)⟩)
        (first | (go_at_call 229; refine (HN.out _).mono ?_; rintro e w5 ⟨rfl, hb5⟩)) | fail
      go_wp2_with fail
      go_ret
      rw [HR.out.1, HR.out.2]
      exact ⟨rfl, hXd.next hb5⟩
end
end Go.Proofs.YtogmhaihmkcjgaaGreatDoor

/-
  dominoref42: stores into nodes; begin.
-/
namespace Go.Proofs.YtogmhaihmkcjgaaGreatDoor
open Go.RowKit Go.Shelf
set_option linter.unusedVariables false

theorem ncells_at' {P : List NV} {i : Nat} {x : NV} (h : P[i]? = some x) (j : Nat) (hj : j < 6) : (ncells P)[i * 6 + j]? = (nvc x)[j]? := by
  induction P generalizing i with
  | nil => simp at h
  | cons y P ih =>
    have e : ncells (y :: P) = nvc y ++ ncells P := rfl
    cases i with
    | zero =>
      have : y = x := by simpa using h
      subst this
      rw [e, List.getElem?_append_left (by simp; omega), Nat.zero_mul, Nat.zero_add]
    | succ i =>
      have h2 : P[i]? = some x := by simpa using h
      rw [e, List.getElem?_append_right (by simp; omega)]
      have := ih h2
      rw [← this]
      congr 1
      simp; omega
theorem nvc_len (x : NV) : (nvc x).length = 6 := rfl
theorem ncells_set (F : NV → NV) (j : Nat) (hj : j < 6) (u : Value) : ∀ (P : List NV) (i : Nat) (x : NV), P[i]? = some x → nvc (F x) = (nvc x).set j u → (ncells P).set (i * 6 + j) u = ncells (P.modify i F)
  | [], i, x, h, _ => by simp at h
  | y :: P, 0, x, h, e => by
    have h : y = x := by simpa using h
    subst h
    have e1 : ncells (y :: P) = nvc y ++ ncells P := rfl
    have e2 : ncells (F y :: P) = nvc (F y) ++ ncells P := rfl
    rw [List.modify_zero_cons, e1, e2, e, Nat.zero_mul, Nat.zero_add, List.set_append_left _ _ (by rw [nvc_len]; exact hj)]
  | y :: P, i + 1, x, h, e => by
    have ih := ncells_set F j hj u P i x (by simpa using h) e
    have e1 : ncells (y :: P) = nvc y ++ ncells P := rfl
    have e2 : ncells (y :: P.modify i F) = nvc y ++ ncells (P.modify i F) := rfl
    rw [List.modify_succ_cons, e1, e2, ← ih, List.set_append_right _ _ (by rw [nvc_len]; omega), nvc_len]
    congr 2
    omega
theorem krows_mod (f : Pa.Nw → Pa.Nw) (h : ∀ y, (f y).2 = y.2) : ∀ (P : List NV) (i : Nat), krows (P.modify i fun x => (f x.1, x.2)) = krows P
  | [], i => by cases i <;> rfl
  | y :: P, 0 => by
    rw [List.modify_zero_cons]
    show _ :: krows P = _ :: krows P
    simp only [h]
  | y :: P, i + 1 => by
    rw [List.modify_succ_cons]
    show _ :: krows _ = _ :: krows P
    rw [krows_mod f h P i]
theorem fst_mod (f : Pa.Nw → Pa.Nw) : ∀ (P : List NV) (i : Nat), (P.modify i fun x => (f x.1, x.2)).map Prod.fst = (P.map Prod.fst).modify i f
  | [], i => by cases i <;> rfl
  | y :: P, 0 => by simp
  | y :: P, i + 1 => by simp [fst_mod f P i]
section
variable {o : List Nat} {w W : World} {R : PR} {D : QD} {P : List NV} {q : Pa.QS} {r : List It} {g c : Nat}
/-- the nodes' row is a block -/
theorem QX.form {nv : Value} (h : QX o w R D nv P q r W) (h0 : 0 < P.length) : ∃ g c, nv = .slice (some ⟨g, 0, none⟩) P.length c := by
  obtain ⟨g, c, e, -⟩ := row_form (h.hp.row 1 rfl) h0
  exact ⟨g, c, e⟩
theorem QX.cell5 {nv : Value} (h : QX o w R D nv P q r W) : W.cell? ⟨R.gp, 5, none⟩ = some nv := h.ok.blk.cell 5
theorem QX.fcell (h : QX o w R D (.slice (some ⟨g, 0, none⟩) P.length c) P q r W) {n : Nat} {x : NV} (hx : P[n]? = some x) (j : Nat) (hj : j < 6) : W.cell? ⟨g, n * 6 + j, none⟩ = (nvc x)[j]? := by
  have h1 := ncells_at' hx j hj
  cases hv : (nvc x)[j]? with
  | none => rw [List.getElem?_eq_none_iff, nvc_len] at hv; omega
  | some u =>
    rw [hv] at h1
    exact row_cell (h.hp.row 1 rfl) h1
theorem QX.ffroz (h : QX o w R D (.slice (some ⟨g, 0, none⟩) P.length c) P q r W) (j : Nat) : W.frozen? ⟨g, j, none⟩ = false := row_frozen (h.hp.row 1 rfl) j
/-- a store into a node -/
theorem QX.put (h : QX o w R D (.slice (some ⟨g, 0, none⟩) P.length c) P q r W) {n : Nat} {x : NV} (hx : P[n]? = some x) (f : Pa.Nw → Pa.Nw) (j : Nat) (hj : j < 6) (u : Value) (h1 : nvc (f x.1, x.2) = (nvc x).set j u) (h2 : ∀ y, (f y).2 = y.2) :
    QX o w R D (.slice (some ⟨g, 0, none⟩) P.length c) (P.modify n fun x => (f x.1, x.2)) (q.upd n f) r (W.setCell ⟨g, n * 6 + j, none⟩ u) := by
  have hn := (List.getElem?_eq_some_iff.1 hx).1
  have hp := h.hp.rowset 1 rfl (n * 6 + j) (by omega) u
  refine ⟨?_, ?_⟩
  · rw [fst_mod, h.ns]; rfl
  · have e : (P.modify n fun x => (f x.1, x.2)).length = P.length := by simp
    rw [krows_mod f h2]
    unfold inodes
    rw [e, ← ncells_set (fun x => (f x.1, x.2)) j hj u P n x hx h1]
    exact hp
end
end Go.Proofs.YtogmhaihmkcjgaaGreatDoor

/-
  dominoref42: begin. Printed by mkqrd.py.
-/
namespace Go.Proofs.YtogmhaihmkcjgaaGreatDoor
open Go.RowKit Go.Shelf
set_option linter.unusedVariables false

theorem Hp.qnv {o : List Nat} {w W : World} {R : PR} {D : QD} {nv : Value} {ts : List Lx.Tok} {bad : Bool} {it : List It} (h : Hp o w (iqr R D nv ts bad :: it) W) (nv' : Value) : Hp o w (iqr R D nv' ts bad :: it) (W.setCell ⟨R.gp, 5, none⟩ nv') := by
  have hp : QRok R D nv ts bad W := h.sep.ok _ (List.mem_cons_self ..)
  refine h.upd 0 rfl (x := iqr R D nv ts bad) (x' := iqr R D nv' ts bad) ?_ ⟨(Below.refl _ _).setCell (Nat.zero_le _) _, fun k hk ho => Below.heap_setCell _ _ _ _ (by simp [iqr] at ho; exact ho.1), fun b hb => .inl hb⟩ (by simp [iqr, hp.ne])
  exact ⟨hp.blk.set_ 5 nv', tokin_same hp.tok (Below.heap_setCell _ _ _ _ (fun e => hp.ne e.symm)), hp.suf, hp.good, hp.len, hp.le, hp.ne, hp.tx⟩
theorem Hp.qok {o : List Nat} {w W : World} {R : PR} {D : QD} {nv : Value} {ts : List Lx.Tok} {bad : Bool} {it : List It} (h : Hp o w (iqr R D nv ts bad :: it) W) : QRok R D nv ts bad W := h.sep.ok _ (List.mem_cons_self ..)
theorem qcs {R : PR} {D : QD} {nv : Value} {t : Lx.Tok} {l : List Lx.Tok} {bad : Bool} {k : Nat} (hk : R.all.length - (t :: l).length = k) {V : World} (h : QRok R D nv (t :: l) bad V) : V.cell? ⟨R.gp, 0, none⟩ = some (.slice (some ⟨R.gt, 0, none⟩) R.all.length R.cap) ∧ V.cell? ⟨R.gp, 1, none⟩ = some (.int .i64 (k : Int)) ∧ V.cell? ⟨R.gt, k * 3 + 2, none⟩ = some (.int .i64 (t.at_ : Int)) := by
  obtain ⟨k', hA, e3, -, -, -⟩ := h.at
  obtain rfl : k = k' := hk.symm.trans e3
  exact ⟨hA.c0, hA.c1, hA.t2⟩
theorem wt_len {P : List NV} {q : Pa.QS} (h : P.map Prod.fst = q.ns) {n : Nat} (hw : q.wt ≤ n) : P.length ≤ n := by
  have h1 := Pa.nsW_len q.ns
  have h2 : Pa.nsW q.ns ≤ q.wt := by unfold Pa.QS.wt; omega
  have h3 : P.length = q.ns.length := by rw [← h, List.length_map]
  omega
theorem at_of {v : Value} {gn n cn N : Nat} (h : v.ownBlock = some gn ∨ gn = N) : (Value.slice (some ⟨gn, 0, none⟩) n cn).ownBlock = v.ownBlock ∨ ∀ g, (Value.slice (some ⟨gn, 0, none⟩) n cn).ownBlock = some g → N ≤ g := by
  rcases h with h | h
  · left; rw [h]; rfl
  · right; intro g hg; simp [Value.ownBlock] at hg; omega
section
variable {o : List Nat} {w W : World} {R : PR} {D : QD} {P : List NV} {q : Pa.QS} {r : List It} {nv : Value}
set_option maxRecDepth 20000 in
set_option maxHeartbeats 16000000 in
theorem qbegin (kd : Nat) (hw : q.wt ≤ 800000) (h : QX o w R D nv P q r W) : Calls Tryz.prog 161 #[ptr R.gp, .int .i64 (kd : Int)] W fun e w' => e = .returned (.int .i64 (q.ns.length : Int)) ∧ QH o w R D (Pa.beginS kd q) r w' := by
  obtain ⟨t, l, ht⟩ := h.ok.cons
  have HX := Lib.hid h
  have h9 := h.ok
  rw [ht] at h9
  obtain ⟨k, hA, e1, e2, hk3, hf⟩ := h9.at
  obtain ⟨-, -, c5, -, -, -, k0, k1, -, -, -⟩ := hA
  have HC := Lib.hid (fun nv V (h : QRok R D nv q.ts q.bad V) => qcs e1 (ht ▸ h))
  have hPl := wt_len h.ns hw
  have HL := Lib.hid h.len
  obtain ⟨A, c, rfl⟩ := row_forms (h.hp.row 1 rfl)
  obtain ⟨i0, hi0, hz0, hz1, hz2⟩ := info_parts node_info
  have f5 := h.ok.blk.frozen 5
  obtain ⟨c0, c1, t2⟩ := HC.out _ _ h.ok
  have HT : Hid (Pa.beginS kd q = ⟨q.ts, q.ns ++ [(⟨kd, 0, [], [], t.at_⟩, [])], q.bad⟩) := Lib.hid (by unfold Pa.beginS; rw [ht]; rfl)
  have HB1 : Hid (Below W.heap.size W (W.alloc (.cells #[.int .i64 (kd : Int), .int .i64 0, .string ⟨#[]⟩, .string ⟨#[]⟩, .slice none 0 0, .int .i64 (t.at_ : Int)] 76)).drew) := Lib.hid (((Below.refl _ _).alloc (Nat.le_refl _) _).drew)
  have HX2 := Lib.hid (h.next HB1.out)
  have hw9 : IntKind.i64.wrap ((P.length : Int) + 1 - 1) = (P.length : Int) := by rw [Int.add_sub_cancel]; exact IntWalk.i64_in _ (by omega)
  clear h h9 e1 e2 hf ht
  go_enter Tryz.func161, Tryz.ntmps161
  go_upto_region 1 with fail
  refine wp_region_held_drew (S := (fun w' => w'.cell? ⟨R.gp, 0, none⟩ = some (.slice (some ⟨R.gt, 0, none⟩) R.all.length R.cap) ∧ w'.cell? ⟨R.gp, 1, none⟩ = some (.int .i64 (k : Int)) ∧ w'.cell? ⟨R.gt, k * 3 + 2, none⟩ = some (.int .i64 (t.at_ : Int)))) (by kernel_rfl) ?_ (fun hHeld => ?_)
  · exact ⟨c0, c1, t2⟩
  refine wpAnyH_take (i := 0) (v := ?_) rfl (by kernel_rfl) (by kernel_rfl) (by kernel_rfl) (fun _ _ _ h => h) (Or.inl ⟨by rfl, ?_⟩) (by assumption) ?_
  rotate_left
  · (intro w hSw; (try dsimp only at hSw); (try obtain ⟨hSw1, hSw2⟩ := hSw); go_simp; (try with_reducible rfl))
  try simp only [Act.put, List.getElem_toArray, List.getElem_cons_zero, List.setIfInBounds_toArray, List.set_cons_zero, List.set_cons_succ]
  refine wpAnyH_take (i := 1) (v := ?_) rfl (by kernel_rfl) (by kernel_rfl) (by kernel_rfl) (fun _ _ _ h => h) (Or.inl ⟨by rfl, ?_⟩) (by assumption) ?_
  rotate_left
  · (intro w hSw; (try dsimp only at hSw); (try obtain ⟨hSw1, hSw2⟩ := hSw); go_simp; (try with_reducible rfl))
  try simp only [Act.put, List.getElem_toArray, List.getElem_cons_zero, List.getElem_cons_succ, List.setIfInBounds_toArray, List.set_cons_zero, List.set_cons_succ]
  refine wpAnyH_take (i := 2) (v := ?_) rfl (by kernel_rfl) (by kernel_rfl) (by kernel_rfl) (fun _ _ _ h => h) (Or.inl ⟨by rfl, ?_⟩) (by assumption) ?_
  rotate_left
  · (intro w hSw; (try dsimp only at hSw); (try obtain ⟨hSw1, hSw2⟩ := hSw); go_simp; (try with_reducible rfl))
  try simp only [Act.put, List.getElem_toArray, List.getElem_cons_zero, List.getElem_cons_succ, List.setIfInBounds_toArray, List.set_cons_zero, List.set_cons_succ]
  refine wpAnyH_take (i := 3) (v := ?_) rfl (by kernel_rfl) (by kernel_rfl) (by kernel_rfl) (fun _ _ _ h => h) (Or.inl ⟨by rfl, ?_⟩) (by assumption) ?_
  rotate_left
  · (intro w hSw; (try dsimp only at hSw); (try obtain ⟨hSw1, hSw2⟩ := hSw); go_simp; (try with_reducible rfl))
  try simp only [Act.put, List.getElem_toArray, List.getElem_cons_zero, List.getElem_cons_succ, List.setIfInBounds_toArray, List.set_cons_zero, List.set_cons_succ]
  refine wpAnyH_take (i := 4) (v := ?_) rfl (by kernel_rfl) (by kernel_rfl) (by kernel_rfl) (fun _ _ _ h => h) (Or.inl ⟨by rfl, ?_⟩) (by assumption) ?_
  rotate_left
  · (intro w hSw; (try dsimp only at hSw); (try obtain ⟨hSw1, hSw2⟩ := hSw); go_simp; (try with_reducible rfl))
  try simp only [Act.put, List.getElem_toArray, List.getElem_cons_zero, List.getElem_cons_succ, List.setIfInBounds_toArray, List.set_cons_zero, List.set_cons_succ]
  refine wpAnyH_take (i := 6) (v := ?_) rfl (by kernel_rfl) (by kernel_rfl) (by kernel_rfl) (fun _ _ _ h => h) (Or.inl ⟨by rfl, ?_⟩) (by assumption) ?_
  rotate_left
  · (intro w hSw; (try dsimp only at hSw); (try obtain ⟨hSw1, hSw2⟩ := hSw); go_simp; (try with_reducible rfl))
  try simp only [Act.put, List.getElem_toArray, List.getElem_cons_zero, List.getElem_cons_succ, List.setIfInBounds_toArray, List.set_cons_zero, List.set_cons_succ]
  refine wpAnyH_take (i := 7) (v := ?_) rfl (by kernel_rfl) (by kernel_rfl) (by kernel_rfl) (fun _ _ _ h => h) (Or.inl ⟨by rfl, ?_⟩) (by assumption) ?_
  rotate_left
  · (intro w hSw; (try dsimp only at hSw); (try obtain ⟨hSw1, hSw2⟩ := hSw); go_simp; (try with_reducible rfl))
  try simp only [Act.put, List.getElem_toArray, List.getElem_cons_zero, List.getElem_cons_succ, List.setIfInBounds_toArray, List.set_cons_zero, List.set_cons_succ]
  refine wpAnyH_take (i := 8) (v := ?_) rfl (by kernel_rfl) (by kernel_rfl) (by kernel_rfl) (fun _ _ _ h => h) (Or.inl ⟨by rfl, ?_⟩) (by assumption) ?_
  rotate_left
  · (intro w hSw; (try dsimp only at hSw); (try obtain ⟨hSw1, hSw2⟩ := hSw); go_simp; (try with_reducible rfl))
  try simp only [Act.put, List.getElem_toArray, List.getElem_cons_zero, List.getElem_cons_succ, List.setIfInBounds_toArray, List.set_cons_zero, List.set_cons_succ]
  refine wpAnyH_take (i := 9) (v := ?_) rfl (by kernel_rfl) (by kernel_rfl) (by kernel_rfl) (fun _ _ _ h => h) (Or.inl ⟨by rfl, ?_⟩) (by assumption) ?_
  rotate_left
  · (intro w hSw; (try dsimp only at hSw); (try obtain ⟨hSw1, hSw2⟩ := hSw); go_simp; (try with_reducible rfl))
  try simp only [Act.put, List.getElem_toArray, List.getElem_cons_zero, List.getElem_cons_succ, List.setIfInBounds_toArray, List.set_cons_zero, List.set_cons_succ]
  refine wpAnyH_take (i := 10) (v := ?_) rfl (by kernel_rfl) (by kernel_rfl) (by kernel_rfl) (fun _ _ _ h => h) (Or.inl ⟨by rfl, ?_⟩) (by assumption) ?_
  rotate_left
  · (intro w hSw; (try dsimp only at hSw); (try obtain ⟨hSw1, hSw2⟩ := hSw); go_simp; (try with_reducible rfl))
  try simp only [Act.put, List.getElem_toArray, List.getElem_cons_zero, List.getElem_cons_succ, List.setIfInBounds_toArray, List.set_cons_zero, List.set_cons_succ]
  refine wpAnyH_take (i := 11) (v := ?_) rfl (by kernel_rfl) (by kernel_rfl) (by kernel_rfl) (fun _ _ _ h => h) (Or.inl ⟨by rfl, ?_⟩) (by assumption) ?_
  rotate_left
  · (intro w hSw; (try dsimp only at hSw); (try obtain ⟨hSw1, hSw2⟩ := hSw); go_simp; (try with_reducible rfl))
  try simp only [Act.put, List.getElem_toArray, List.getElem_cons_zero, List.getElem_cons_succ, List.setIfInBounds_toArray, List.set_cons_zero, List.set_cons_succ]
  refine wpAnyH_take (i := 12) (v := ?_) rfl (by kernel_rfl) (by kernel_rfl) (by kernel_rfl) (fun _ _ _ h => h) (Or.inl ⟨by rfl, ?_⟩) (by assumption) ?_
  rotate_left
  · (intro w hSw; (try dsimp only at hSw); (try obtain ⟨hSw1, hSw2⟩ := hSw); go_simp; (try with_reducible rfl))
  try simp only [Act.put, List.getElem_toArray, List.getElem_cons_zero, List.getElem_cons_succ, List.setIfInBounds_toArray, List.set_cons_zero, List.set_cons_succ]
  refine wpAnyH_take (i := 13) (v := ?_) rfl (by kernel_rfl) (by kernel_rfl) (by kernel_rfl) (fun _ _ _ h => h) (Or.inl ⟨by rfl, ?_⟩) (by assumption) ?_
  rotate_left
  · (intro w hSw; (try dsimp only at hSw); (try obtain ⟨hSw1, hSw2⟩ := hSw); go_simp; (try with_reducible rfl))
  try simp only [Act.put, List.getElem_toArray, List.getElem_cons_zero, List.getElem_cons_succ, List.setIfInBounds_toArray, List.set_cons_zero, List.set_cons_succ]
  refine wpAnyH_take (i := 14) (v := ?_) rfl (by kernel_rfl) (by kernel_rfl) (by kernel_rfl) (fun _ _ _ h => h) (Or.inl ⟨by rfl, ?_⟩) (by assumption) ?_
  rotate_left
  · (intro w hSw; (try dsimp only at hSw); (try obtain ⟨hSw1, hSw2⟩ := hSw); go_simp; (try with_reducible rfl))
  try simp only [Act.put, List.getElem_toArray, List.getElem_cons_zero, List.getElem_cons_succ, List.setIfInBounds_toArray, List.set_cons_zero, List.set_cons_succ]
  refine wpAnyH_take (i := 15) (v := ?_) rfl (by kernel_rfl) (by kernel_rfl) (by kernel_rfl) (fun _ _ _ h => h) (Or.inl ⟨by rfl, ?_⟩) (by assumption) ?_
  rotate_left
  · (intro w hSw; (try dsimp only at hSw); (try obtain ⟨hSw1, hSw2⟩ := hSw); go_simp; (try with_reducible rfl))
  try simp only [Act.put, List.getElem_toArray, List.getElem_cons_zero, List.getElem_cons_succ, List.setIfInBounds_toArray, List.set_cons_zero, List.set_cons_succ]
  refine wpAnyH_take (i := 16) (v := ?_) rfl (by kernel_rfl) (by kernel_rfl) (by kernel_rfl) (fun _ _ _ h => h) (Or.inl ⟨by rfl, ?_⟩) (by assumption) ?_
  rotate_left
  · (intro w hSw; (try dsimp only at hSw); (try obtain ⟨hSw1, hSw2⟩ := hSw); go_simp; (try with_reducible rfl))
  try simp only [Act.put, List.getElem_toArray, List.getElem_cons_zero, List.getElem_cons_succ, List.setIfInBounds_toArray, List.set_cons_zero, List.set_cons_succ]
  refine wpAnyH_take (i := 17) (v := ?_) rfl (by kernel_rfl) (by kernel_rfl) (by kernel_rfl) (fun _ _ _ h => h) (Or.inl ⟨by rfl, ?_⟩) (by assumption) ?_
  rotate_left
  · (intro w hSw; (try dsimp only at hSw); (try obtain ⟨hSw1, hSw2⟩ := hSw); go_simp; (try with_reducible rfl))
  try simp only [Act.put, List.getElem_toArray, List.getElem_cons_zero, List.getElem_cons_succ, List.setIfInBounds_toArray, List.set_cons_zero, List.set_cons_succ]
  refine wpAnyH_take (i := 18) (v := ?_) rfl (by kernel_rfl) (by kernel_rfl) (by kernel_rfl) (fun _ _ _ h => h) (Or.inl ⟨by rfl, ?_⟩) (by assumption) ?_
  rotate_left
  · (intro w hSw; (try dsimp only at hSw); (try obtain ⟨hSw1, hSw2⟩ := hSw); go_simp; (try with_reducible rfl))
  try simp only [Act.put, List.getElem_toArray, List.getElem_cons_zero, List.getElem_cons_succ, List.setIfInBounds_toArray, List.set_cons_zero, List.set_cons_succ]
  refine wpAnyH_ready (rs := [5, 19]) (by kernel_rfl) (by simp) ?_
  refine AllReadyH.cons rfl (fun K hK => ?_) ?_
  · go_simp
    refine hK.out _ _ ?_ (fun hHeld => ?_)
    · exact ⟨c0, c1, t2⟩
    clear hK K
    refine wpAnyH_ready (rs := [19]) (by kernel_rfl) (by simp) ?_
    refine AllReadyH.cons rfl (fun K hK => ?_) ?_
    · go_simp
      obtain ⟨d0, d1, d2⟩ := HC.out _ _ HX2.out.ok
      have d5 := HX2.out.cell5
      refine hK.out _ _ ?_ (fun hHeld => ?_)
      · exact ⟨d0, d1, d2⟩
      clear hK K
      refine wpAnyH_ready (rs := [20]) (by kernel_rfl) (by simp) ?_
      refine AllReadyH.cons rfl (fun K hK => ?_) ?_
      · refine step_append_lies _ (by rfl) (.tmp 10) (.tmp 24) 27 (by rfl) 0 76 i0 _ 6 80 Tryz.underlying27 hi0 hz0 hz1 hz2 rfl (by decide) (.slice A P.length c) P.length (ncells P) (by rfl) ?o1 _ 1 1 [.int .i64 (kd : Int), .int .i64 0, .string ⟨#[]⟩, .string ⟨#[]⟩, .slice none 0 0, .int .i64 (t.at_ : Int)] (by rfl) (by rfl) ?nw ?oc (by decide) ?l1 ?l2 ?l3 _ (by rfl) ?_
        case o1 => exact HX2.out.hp.row 1 rfl
        case nw => exact new6p _ _ _ _ _ _ _ _
        case oc => (intro u hu; simp at hu; rcases hu with rfl | rfl | rfl | rfl | rfl | rfl <;> rfl)
        case l1 => (unfold maxLen; omega)
        case l2 => omega
        case l3 => exact Nat.zero_le _
        intro gn cn w1 hownn hgrow hat hltn
        have hk3 := HX2.out.hp.grown 1 rfl hownn hgrow (at_of hat)
        obtain ⟨m0, m1, m2⟩ := HC.out _ _ hk3.qok
        have m5 : w1.cell? ⟨R.gp, 5, none⟩ = some (.slice A P.length c) := hk3.qok.blk.cell 5
        have mf := hk3.qok.blk.frozen 5
        have hk4 := hk3.qnv (.slice (some ⟨gn, 0, none⟩) (P.length + 1) cn)
        obtain ⟨n0, n1, n2⟩ := HC.out _ _ hk4.qok
        have n5 : (w1.setCell ⟨R.gp, 5, none⟩ (.slice (some ⟨gn, 0, none⟩) (P.length + 1) cn)).cell? ⟨R.gp, 5, none⟩ = some (.slice (some ⟨gn, 0, none⟩) (P.length + 1) cn) := hk4.qok.blk.cell 5
        have HK4 := Lib.hid hk4
        clear hownn hgrow hat hltn hk3 hk4
        refine hK.out _ _ ?_ (fun hHeld => ?_)
        · exact ⟨m0, m1, m2⟩
        clear hK K
        refine wpAnyH_take (i := 21) (v := ?_) rfl (by kernel_rfl) (by kernel_rfl) (by kernel_rfl) (fun _ _ _ h => h) (Or.inl ⟨by rfl, ?_⟩) (by assumption) ?_
        rotate_left
        · (intro w hSw; (try dsimp only at hSw); (try obtain ⟨hSw1, hSw2⟩ := hSw); go_simp; (try with_reducible rfl))
        try simp only [Act.put, List.getElem_toArray, List.getElem_cons_zero, List.getElem_cons_succ, List.setIfInBounds_toArray, List.set_cons_zero, List.set_cons_succ]
        refine wpAnyH_take (i := 22) (v := ?_) rfl (by kernel_rfl) (by kernel_rfl) (by kernel_rfl) (fun _ _ _ h => h) (Or.inl ⟨by rfl, ?_⟩) (by assumption) ?_
        rotate_left
        · (intro w hSw; (try dsimp only at hSw); (try obtain ⟨hSw1, hSw2⟩ := hSw); go_simp; (try with_reducible rfl))
        try simp only [Act.put, List.getElem_toArray, List.getElem_cons_zero, List.getElem_cons_succ, List.setIfInBounds_toArray, List.set_cons_zero, List.set_cons_succ]
        refine wpAnyH_take (i := 23) (v := ?_) rfl (by kernel_rfl) (by kernel_rfl) (by kernel_rfl) (fun _ _ _ h => h) (Or.inl ⟨by rfl, ?_⟩) (by assumption) ?_
        rotate_left
        · (intro w hSw; (try dsimp only at hSw); (try obtain ⟨hSw1, hSw2⟩ := hSw); go_simp; (try with_reducible rfl))
        try simp only [Act.put, List.getElem_toArray, List.getElem_cons_zero, List.getElem_cons_succ, List.setIfInBounds_toArray, List.set_cons_zero, List.set_cons_succ]
        refine wpAnyH_ready (rs := [24]) (by kernel_rfl) (by simp) ?_
        refine AllReadyH.cons rfl (fun K hK => ?_) ?_
        · go_simp
          refine hK.out _ _ ?_ (fun hHeld => ?_)
          · exact ⟨n0, n1, n2⟩
          clear hK K
          refine wpAnyH_done (by kernel_rfl) ?_ _
          go_wp2_with fail
          go_ret
          refine ⟨ret_val (congrArg (Value.int .i64) (by have := HL.out; omega)), .slice (some ⟨gn, 0, none⟩) (P.length + 1) cn, P ++ [nv0 ⟨kd, 0, [], [], t.at_⟩], ?_, ?_⟩
          · rw [HT.out, List.map_append, HX.out.ns]; rfl
          · rw [HT.out, krows_app]
            have e1 : (P ++ [nv0 ⟨kd, 0, [], [], t.at_⟩]).length = P.length + 1 := by simp
            have e2 : ncells (P ++ [nv0 ⟨kd, 0, [], [], t.at_⟩]) = ncells P ++ [.int .i64 (kd : Int), .int .i64 0, .string ⟨#[]⟩, .string ⟨#[]⟩, .slice none 0 0, .int .i64 (t.at_ : Int)] := by rw [ncells_snoc]; rfl
            unfold inodes
            rw [e1, e2]
            have h1 := HK4.out.nilrow 3 1
            refine h1.perm ?_
            simp only [List.append_assoc]
            exact (List.perm_middle (a := inats (.slice none 0 0) []) (l₁ := _ :: _ :: krows P) (l₂ := r)).symm
        exact AllReadyH.nil
      exact AllReadyH.nil
    exact AllReadyH.nil
  refine AllReadyH.cons rfl (fun K hK => ?_) ?_
  · go_simp
    obtain ⟨d0, d1, d2⟩ := HC.out _ _ HX2.out.ok
    have d5 := HX2.out.cell5
    refine hK.out _ _ ?_ (fun hHeld => ?_)
    · exact ⟨d0, d1, d2⟩
    clear hK K
    refine wpAnyH_ready (rs := [5]) (by kernel_rfl) (by simp) ?_
    refine AllReadyH.cons rfl (fun K hK => ?_) ?_
    · go_simp
      refine hK.out _ _ ?_ (fun hHeld => ?_)
      · exact ⟨d0, d1, d2⟩
      clear hK K
      refine wpAnyH_ready (rs := [20]) (by kernel_rfl) (by simp) ?_
      refine AllReadyH.cons rfl (fun K hK => ?_) ?_
      · refine step_append_lies _ (by rfl) (.tmp 10) (.tmp 24) 27 (by rfl) 0 76 i0 _ 6 80 Tryz.underlying27 hi0 hz0 hz1 hz2 rfl (by decide) (.slice A P.length c) P.length (ncells P) (by rfl) ?o1 _ 1 1 [.int .i64 (kd : Int), .int .i64 0, .string ⟨#[]⟩, .string ⟨#[]⟩, .slice none 0 0, .int .i64 (t.at_ : Int)] (by rfl) (by rfl) ?nw ?oc (by decide) ?l1 ?l2 ?l3 _ (by rfl) ?_
        case o1 => exact HX2.out.hp.row 1 rfl
        case nw => exact new6p _ _ _ _ _ _ _ _
        case oc => (intro u hu; simp at hu; rcases hu with rfl | rfl | rfl | rfl | rfl | rfl <;> rfl)
        case l1 => (unfold maxLen; omega)
        case l2 => omega
        case l3 => exact Nat.zero_le _
        intro gn cn w1 hownn hgrow hat hltn
        have hk3 := HX2.out.hp.grown 1 rfl hownn hgrow (at_of hat)
        obtain ⟨m0, m1, m2⟩ := HC.out _ _ hk3.qok
        have m5 : w1.cell? ⟨R.gp, 5, none⟩ = some (.slice A P.length c) := hk3.qok.blk.cell 5
        have mf := hk3.qok.blk.frozen 5
        have hk4 := hk3.qnv (.slice (some ⟨gn, 0, none⟩) (P.length + 1) cn)
        obtain ⟨n0, n1, n2⟩ := HC.out _ _ hk4.qok
        have n5 : (w1.setCell ⟨R.gp, 5, none⟩ (.slice (some ⟨gn, 0, none⟩) (P.length + 1) cn)).cell? ⟨R.gp, 5, none⟩ = some (.slice (some ⟨gn, 0, none⟩) (P.length + 1) cn) := hk4.qok.blk.cell 5
        have HK4 := Lib.hid hk4
        clear hownn hgrow hat hltn hk3 hk4
        refine hK.out _ _ ?_ (fun hHeld => ?_)
        · exact ⟨m0, m1, m2⟩
        clear hK K
        refine wpAnyH_take (i := 21) (v := ?_) rfl (by kernel_rfl) (by kernel_rfl) (by kernel_rfl) (fun _ _ _ h => h) (Or.inl ⟨by rfl, ?_⟩) (by assumption) ?_
        rotate_left
        · (intro w hSw; (try dsimp only at hSw); (try obtain ⟨hSw1, hSw2⟩ := hSw); go_simp; (try with_reducible rfl))
        try simp only [Act.put, List.getElem_toArray, List.getElem_cons_zero, List.getElem_cons_succ, List.setIfInBounds_toArray, List.set_cons_zero, List.set_cons_succ]
        refine wpAnyH_take (i := 22) (v := ?_) rfl (by kernel_rfl) (by kernel_rfl) (by kernel_rfl) (fun _ _ _ h => h) (Or.inl ⟨by rfl, ?_⟩) (by assumption) ?_
        rotate_left
        · (intro w hSw; (try dsimp only at hSw); (try obtain ⟨hSw1, hSw2⟩ := hSw); go_simp; (try with_reducible rfl))
        try simp only [Act.put, List.getElem_toArray, List.getElem_cons_zero, List.getElem_cons_succ, List.setIfInBounds_toArray, List.set_cons_zero, List.set_cons_succ]
        refine wpAnyH_take (i := 23) (v := ?_) rfl (by kernel_rfl) (by kernel_rfl) (by kernel_rfl) (fun _ _ _ h => h) (Or.inl ⟨by rfl, ?_⟩) (by assumption) ?_
        rotate_left
        · (intro w hSw; (try dsimp only at hSw); (try obtain ⟨hSw1, hSw2⟩ := hSw); go_simp; (try with_reducible rfl))
        try simp only [Act.put, List.getElem_toArray, List.getElem_cons_zero, List.getElem_cons_succ, List.setIfInBounds_toArray, List.set_cons_zero, List.set_cons_succ]
        refine wpAnyH_ready (rs := [24]) (by kernel_rfl) (by simp) ?_
        refine AllReadyH.cons rfl (fun K hK => ?_) ?_
        · go_simp
          refine hK.out _ _ ?_ (fun hHeld => ?_)
          · exact ⟨n0, n1, n2⟩
          clear hK K
          refine wpAnyH_done (by kernel_rfl) ?_ _
          go_wp2_with fail
          go_ret
          refine ⟨ret_val (congrArg (Value.int .i64) (by have := HL.out; omega)), .slice (some ⟨gn, 0, none⟩) (P.length + 1) cn, P ++ [nv0 ⟨kd, 0, [], [], t.at_⟩], ?_, ?_⟩
          · rw [HT.out, List.map_append, HX.out.ns]; rfl
          · rw [HT.out, krows_app]
            have e1 : (P ++ [nv0 ⟨kd, 0, [], [], t.at_⟩]).length = P.length + 1 := by simp
            have e2 : ncells (P ++ [nv0 ⟨kd, 0, [], [], t.at_⟩]) = ncells P ++ [.int .i64 (kd : Int), .int .i64 0, .string ⟨#[]⟩, .string ⟨#[]⟩, .slice none 0 0, .int .i64 (t.at_ : Int)] := by rw [ncells_snoc]; rfl
            unfold inodes
            rw [e1, e2]
            have h1 := HK4.out.nilrow 3 1
            refine h1.perm ?_
            simp only [List.append_assoc]
            exact (List.perm_middle (a := inats (.slice none 0 0) []) (l₁ := _ :: _ :: krows P) (l₂ := r)).symm
        exact AllReadyH.nil
      exact AllReadyH.nil
    exact AllReadyH.nil
  exact AllReadyH.nil
end
end Go.Proofs.YtogmhaihmkcjgaaGreatDoor
