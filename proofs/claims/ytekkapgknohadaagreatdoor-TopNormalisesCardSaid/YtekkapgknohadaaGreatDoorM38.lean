/- normal: the nodes of a condition in preorder (gate.write, atom.write). -/
import Derived.Test.YtekkapgknohadaaGreatDoorM37
import Derived.Test.YtekkapgknohadaaGreatDoorM16
set_option linter.unusedVariables false
set_option maxRecDepth 20000
set_option maxHeartbeats 16000000
namespace Go.Proofs.YtekkapgknohadaaGreatDoor.Nf
open Go.RowKit Go.Shelf
open Lib (hid)
open Pa (F Nd)
def WrOut (w0 : World) (f : F) (P : List NV) (it : List It) (e : Ending) (w' : World) : Prop := ∃ (Q : List NV) (v' : Value), Q.map Prod.fst = f.num P.length ∧ e = .returned v' ∧ Hp [] w0 (inodes v' (P ++ Q) :: (krows Q ++ it)) w'
def Wr1 (w0 : World) (x : Nd) (ks : F) (v : Value) : Prop := ∀ (T : TypeId) (pl : Value), v = .iface T pl → ∀ (P : List NV) (v0 : Value) (it : List It) (w : World), P.length + (F.cons x ks .nil).size ≤ 100000 → Hp [] w0 (inodes v0 P :: it) w →
 (x.kind = 5 → Calls Tryz.prog 290 #[pl, v0] w (WrOut w0 (F.cons x ks .nil) P it)) ∧
 (x.kind ≠ 5 → Calls Tryz.prog 289 #[pl, v0] w (WrOut w0 (F.cons x ks .nil) P it))
def WrAll (w0 : World) : F → List Value → Prop
 | .cons x ks r, v :: us => Wr1 w0 x ks v ∧ WrAll w0 r us
 | _, _ => True
structure WrI (B : Nat) (w0 : World) (ks : F) (ws : List Value) (n : Nat) (a b : F) (vb : List Value) (Q : List NV) : Prop where
 eq : ks = a.app b
 cb : CvM B w0 b vb
 dr : ws.drop a.len = vb
 wr : WrAll w0 b vb
 q : Q.map Prod.fst = a.num (n + 1)
theorem WrI.step {B : Nat} {w0 : World} {ks : F} {ws : List Value} {n : Nat} {a : F} {x : Nd} {k r : F} {v : Value} {us : List Value} {Q Q2 : List NV} (h : WrI B w0 ks ws n a (.cons x k r) (v :: us) Q) (hq : Q2.map Prod.fst = (F.cons x k .nil).num (n + 1 + Q.length)) :
 ws[a.len]? = some v ∧ (a.app (.cons x k .nil)).len = a.len + 1 ∧ WrI B w0 ks ws n (a.app (.cons x k .nil)) r us (Q ++ Q2) := by
 have hl : (a.app (.cons x k .nil)).len = a.len + 1 := by rw [F.len_app]; rfl
 obtain ⟨v', us', e1, c1, c2⟩ := h.cb
 injection e1 with e1 e2
 subst e1 e2
 have hQ : Q.length = a.size := by
  have := congrArg List.length h.q
  rwa [List.length_map, F.num_len] at this
 refine ⟨?_, hl, ⟨by rw [F.app_assoc, h.eq]; rfl, c1, ?_, h.wr.2, ?_⟩⟩
 ·have := congrArg (fun l => l[0]?) h.dr
  simpa using this
 ·rw [hl, ← List.drop_drop, h.dr]; rfl
 ·rw [F.num_app, List.map_append, h.q, hq, hQ]
theorem nats_snoc {a : F} {x : Nd} {k : F} {n q : Nat} (hq : q = a.size) : nats ((a.app (.cons x k .nil)).idx (n + 1)) = nats (a.idx (n + 1)) ++ [.int .i64 ((n : Int) + 1 + (q : Int))] := by
 rw [F.idx_app, hq]
 show nats (_ ++ [n + 1 + a.size]) = _
 simp [nats]
theorem gwrite_any (B : Nat) (w0 : World) (k5 : Int) (ks : F) (A : Option Addr) (c : Nat) (ws : List Value) (hV : Vls B w0 A ws) (hC : CvM B w0 ks ws) (ih : WrAll w0 ks ws) (P : List NV) (v0 : Value) (it : List It) (w : World) (hb : P.length + (F.cons ⟨5, k5, [], [], 0⟩ ks .nil).size ≤ 100000) (hk0 : Hp [] w0 (inodes v0 P :: it) w) :
 Calls Tryz.prog 290 #[.agg #[.int .i64 k5, .slice A ws.length c], v0] w (WrOut w0 (F.cons ⟨5, k5, [], [], 0⟩ ks .nil) P it) := by
 obtain ⟨OA, oc, rfl⟩ := zag (hk0.row 0 rfl)
 obtain ⟨i0, hi0, hz0, hz1, hz2⟩ := info_parts node_info
 obtain ⟨j0, hj0, hy0, hy1, hy2⟩ := info_parts int_info
 have hwl : ws.length = ks.len := hC.len
 have hsz1 : (F.cons (⟨5, k5, [], [], 0⟩ : Nd) ks .nil).size = ks.size + 0 + 1 := rfl
 have hll := F.len_size ks
 have hb1 : P.length ≤ 99999 := by omega
 have hkl : ks.len ≤ 100000 := by omega
 have HB := hid hb
 have HWL := hid hwl
 have hk1 := hk0.new 237 [.int .i64 k5, .slice A ws.length c]
 clear hb hsz1 hll hwl
 go_enter Tryz.func290, Tryz.ntmps290
 go_upto_region 1 with fail
 generalize w.alloc (.cells #[.int .i64 k5, .slice A ws.length c] 237) = W1 at *
 generalize w.heap.size = gb at *
 have d0 := (hk1.blk 0 rfl).cell 0
 have d1 := (hk1.blk 0 rfl).cell 1
 simp only [List.getElem?_cons_zero, List.getElem?_cons_succ] at d0 d1
 go_wp2_with (at_builtin; refine zac rfl _ _ 27 rfl 0 68 i0 _ 6 80 Tryz.underlying27 hi0 hz0 hz1 hz2 rfl (by decide) _ P.length (zai P) rfl ((hk1.alloc _).row 1 rfl) ⟨W1.heap.size, 0, none⟩ 1 1 [.int .i64 5, .int .i64 k5, .string ⟨#[]⟩, .string ⟨#[]⟩, .slice none 0 0, .int .i64 0] rfl rfl (new6p _ _ _ _ _ _ _ _) (by intro u hu; simp at hu; rcases hu with rfl | rfl | rfl | rfl | rfl | rfl <;> rfl) (by decide) (by unfold maxLen; omega) (by omega) (Nat.zero_le _) ?_; intro v' w1 hown hgrow hat; obtain ⟨A1, c1, rfl⟩ := zag hown; have hk2 := (hk1.alloc (.cells #[.int .i64 5, .int .i64 k5, .string ⟨#[]⟩, .string ⟨#[]⟩, .slice none 0 0, .int .i64 0] 68)).grown 1 rfl hown hgrow hat; (have d0 := (hk2.blk 0 rfl).cell 0); (have d1 := (hk2.blk 0 rfl).cell 1); simp only [List.getElem?_cons_zero, List.getElem?_cons_succ] at d0 d1; clear hown hgrow hat)
 have hk3 : Hp [] w0 (inodes (.slice A1 (P.length + 1) c1) (P ++ [nv0 ⟨5, k5, [], [], 0⟩]) :: inats (.slice none 0 0) [] :: (krows [] ++ it)) w1 := by
  have h1 := hk2.tail.nilrow 3 1
  have e1 : (P ++ [nv0 (⟨5, k5, [], [], 0⟩ : Nd)]).length = P.length + 1 := by simp
  have e2 : zai (P ++ [nv0 (⟨5, k5, [], [], 0⟩ : Nd)]) = zai P ++ [.int .i64 5, .int .i64 k5, .string ⟨#[]⟩, .string ⟨#[]⟩, .slice none 0 0, .int .i64 0] := by rw [zc3]; rfl
  unfold inodes
  rw [e1, e2]
  exact h1.perm (List.Perm.swap _ _ _)
 clear hk2 hk1 hk0 d0 d1
 go_loopg [1, 6, 20] (ks.len + 1) (fun m s1 s6 s20 wx => ∃ (a b : F) (Q : List NV) (vb : List Value) (OA VK : Option Addr) (oc vc : Nat), m = b.len + 1 ∧ s1 = .slice OA (P.length + 1 + Q.length) oc ∧ s6 = .slice VK a.len vc ∧ s20 = .int .i64 (a.len : Int) ∧ Hid (WrI B w0 ks ws P.length a b vb Q) ∧ Hp [] w0 (inodes (.slice OA (P.length + 1 + Q.length) oc) (P ++ [nv0 ⟨5, k5, [], [], 0⟩] ++ Q) :: inats (.slice VK a.len vc) (a.idx (P.length + 1)) :: (krows Q ++ it)) wx)
 case atStart => exact ⟨.nil, ks, [], ws, A1, none, c1, 0, rfl, rfl, rfl, rfl, hid ⟨rfl, hC, rfl, ih, rfl⟩, by rw [List.append_nil]; exact hk3⟩
 case round =>
  obtain ⟨a, b, Q, vb, OA, VK, oc, vc, rfl, rfl, rfl, rfl, HI, hM⟩ := hrel
  clear hk3 hC ih
  cases b with
  | nil =>
    have hka : ks = a := by rw [HI.out.eq, F.app_nil]
    have hd : decide ((a.len : Int) < (ws.length : Int)) = false := by rw [HWL.out, hka]; simp
    have hd2 : ¬ (a.len : Int) < (ws.length : Int) := by simpa using hd
    have HKA := hid hka
    clear hka
    have hlen : (P ++ [nv0 ⟨5, k5, [], [], 0⟩] ++ Q).length = P.length + 1 + Q.length := by simp; omega
    have hrow := zb9 (hM.row 0 rfl) hlen
    obtain ⟨go, oc', hov, -⟩ := za5 hrow (by omega)
    have hOA : OA = some ⟨go, 0, none⟩ := by injection hov
    subst hOA
    clear hov
    have e : zai (P ++ [nv0 ⟨5, k5, [], [], 0⟩] ++ Q) = zai P ++ (ncs ⟨5, k5, [], [], 0⟩ ++ zai Q) := by simp [zai]
    have hce : wr.cell? ⟨go, P.length * 6 + 4, none⟩ = some (.slice none 0 0) := zaz hrow (by
     rw [e, List.getElem?_append_right (by rw [za0]; omega), za0, Nat.add_sub_cancel_left]
     rfl)
    have hfr := row_frozen hrow (P.length * 6 + 4)
    have hat1 : (P.length : Int) < (P.length : Int) + 1 + (Q.length : Int) := by omega
    have hM2 : Hp [] w0 (irow 68 6 (.slice (some ⟨go, 0, none⟩) (P.length + 1 + Q.length) oc) (P.length + 1 + Q.length) (zai (P ++ [nv0 ⟨5, k5, [], [], 0⟩] ++ Q)) :: inats (.slice VK a.len vc) (a.idx (P.length + 1)) :: (krows Q ++ it)) wr := by
     have h1 := hM
     unfold inodes at h1
     rw [hlen] at h1
     exact h1
    have hil : (a.idx (P.length + 1)).length = a.len := F.idx_len a _
    have HM := hid (hM2.rowset 0 rfl (P.length * 6 + 4) (by omega) (.slice VK a.len vc))
    have HL := hid (And.intro hlen (And.intro e hil))
    clear hM hM2 hrow e hlen hil hd
    go_wp2_with fail
    go_ret
    refine ⟨((⟨5, k5, [], [], 0⟩, a.idx (P.length + 1)), (VK, vc)) :: Q, _, ?_, rfl, ?_⟩
    ·rw [List.map_cons, HI.out.q, HKA.out]
     show _ = (_, _) :: (a.num (P.length + 1) ++ [])
     rw [List.append_nil]
    ·have h1 := HM.out
     have e2 : (P ++ ((⟨5, k5, [], [], 0⟩, a.idx (P.length + 1)), (VK, vc)) :: Q).length = P.length + 1 + Q.length := by simp; omega
     have e3 : (zai (P ++ [nv0 ⟨5, k5, [], [], 0⟩] ++ Q)).set (P.length * 6 + 4) (.slice VK a.len vc) = zai (P ++ ((⟨5, k5, [], [], 0⟩, a.idx (P.length + 1)), (VK, vc)) :: Q) := by
      rw [HL.out.2.1, List.set_append_right _ _ (by rw [za0]; omega), za0, Nat.add_sub_cancel_left]
      have e4 : zai (P ++ ((⟨5, k5, [], [], 0⟩, a.idx (P.length + 1)), (VK, vc)) :: Q) = zai P ++ (nvc ((⟨5, k5, [], [], 0⟩, a.idx (P.length + 1)), (VK, vc)) ++ zai Q) := by simp [zai]
      rw [e4]
      show _ = zai P ++ ([_, _, _, _, .slice VK (a.idx (P.length + 1)).length vc, _] ++ zai Q)
      rw [HL.out.2.2]
      rfl
     unfold inodes
     rw [e2, ← e3]
     refine h1.perm (List.Perm.cons _ ?_)
     show (inats (.slice VK a.len vc) (a.idx (P.length + 1)) :: (krows Q ++ it)).Perm (inats (.slice VK (a.idx (P.length + 1)).length vc) (a.idx (P.length + 1)) :: (krows Q ++ it))
     rw [HL.out.2.2]
  | cons x2 k2 r2 =>
    obtain ⟨v, us, hvb, hc1, hc2⟩ := HI.out.cb
    subst hvb
    have hvat : ws[a.len]? = some v := by
     have := congrArg (fun l => l[0]?) HI.out.dr
     simpa using this
    have hlt : (a.len : Int) < (ws.length : Int) := by have := (List.getElem?_eq_some_iff.1 hvat).1; omega
    have hge : (0 : Int) ≤ (a.len : Int) := by omega
    obtain ⟨ad, hA, -, hel0⟩ := hV a.len v hvat
    subst hA
    have hel := zaa hel0 hM.below0
    have hQl : Q.length = a.size := by
     have := congrArg List.length HI.out.q
     rwa [List.length_map, F.num_len] at this
    have hsize : ks.size = a.size + (k2.size + r2.size + 1) := by rw [HI.out.eq, F.size_app]; rfl
    have hal : a.len ≤ a.size := F.len_size a
    have hbn : (P ++ [nv0 (⟨5, k5, [], [], 0⟩ : Nd)] ++ Q).length + (F.cons x2 k2 .nil).size ≤ 100000 := by
     have h1 : (F.cons x2 k2 .nil).size = k2.size + 0 + 1 := rfl
     have h2 : (F.cons (⟨5, k5, [], [], 0⟩ : Nd) ks .nil).size = ks.size + 0 + 1 := rfl
     have h3 := HB.out
     simp only [List.length_append, List.length_singleton]
     omega
    have hwb : ws.length ≤ 100000 := by have := HWL.out; omega
    have hQb : Q.length ≤ 100000 := by have := HB.out; have h2 : (F.cons (⟨5, k5, [], [], 0⟩ : Nd) ks .nil).size = ks.size + 0 + 1 := rfl; omega
    have HN := hid HI.out.wr.1
    have hidx := nats_snoc (x := x2) (k := k2) (n := P.length) hQl
    have hil : ((a.app (.cons x2 k2 .nil)).idx (P.length + 1)).length = a.len + 1 := by rw [F.idx_len, F.len_app]; rfl
    have HID := hid (And.intro hidx hil)
    have HBN := hid hbn
    clear hsize hal hbn hidx hil hvat hel0 hQl
    have hve : (x2.kind = 5 ∧ ∃ pl, v = .iface 237 pl) ∨ (x2.kind ≠ 5 ∧ ∃ pl, v = .iface 235 pl) := by
     by_cases h5 : x2.kind = 5
     ·rw [if_pos h5] at hc2
      obtain ⟨-, A2, c2, ws2, e, -⟩ := hc2
      exact .inl ⟨h5, _, e⟩
     ·rw [if_neg h5] at hc2
      obtain ⟨-, A2, c2, e, -⟩ := hc2
      exact .inr ⟨h5, _, e⟩
    clear hc1 hc2
    rcases hve with ⟨h5, pl, rfl⟩ | ⟨h5, pl, rfl⟩
    all_goals
     have H5 := hid h5
     clear h5
     go_wp2_with (at_builtin; refine zac rfl _ _ 61 rfl 0 3 j0 _ 1 8 Tryz.underlying61 hj0 hy0 hy1 hy2 rfl (by decide) _ a.len (nats (a.idx (P.length + 1))) rfl (zb9 ((hM.alloc _).row 1 rfl) (by rw [F.idx_len])) ⟨wr.heap.size, 0, none⟩ 1 1 [.int .i64 ((P.length : Int) + 1 + (Q.length : Int))] rfl rfl (new1p _ _ _) (by intro u hu; simp at hu; rw [hu]; rfl) (by decide) (by unfold maxLen; omega) (by omega) (Nat.zero_le _) ?_; intro v' w3 hown hgrow hat)
     obtain ⟨VK2, vc2, rfl⟩ := zag hown
     have hM2 := (hM.alloc (.cells #[.int .i64 ((P.length : Int) + 1 + (Q.length : Int))] 3)).grown 1 rfl hown hgrow hat
     clear hown hgrow hat hel
     have hM3 : Hp [] w0 (inodes (.slice OA (P.length + 1 + Q.length) oc) (P ++ [nv0 ⟨5, k5, [], [], 0⟩] ++ Q) :: (inats (.slice VK2 (a.len + 1) vc2) ((a.app (.cons x2 k2 .nil)).idx (P.length + 1)) :: (krows Q ++ it))) w3 := by
      unfold inats
      rw [HID.out.1, HID.out.2]
      exact hM2
     have hlen : (P ++ [nv0 (⟨5, k5, [], [], 0⟩ : Nd)] ++ Q).length = P.length + 1 + Q.length := by simp; omega
     clear hM2 hM
     first
      | refine ((HN.out _ _ rfl (P ++ [nv0 ⟨5, k5, [], [], 0⟩] ++ Q) _ _ w3 HBN.out hM3).1 H5.out).mono ?_
      | refine ((HN.out _ _ rfl (P ++ [nv0 ⟨5, k5, [], [], 0⟩] ++ Q) _ _ w3 HBN.out hM3).2 H5.out).mono ?_
     rintro e w4 ⟨Q2, v2, hQ2, rfl, hM4⟩
     obtain ⟨OA2, oc2, rfl⟩ := zag (hM4.row 0 rfl)
     have HX := hid (HI.out.step (Q2 := Q2) (by rw [hQ2, hlen]))
     have hM5 : Hp [] w0 (inodes (.slice OA2 (P.length + 1 + (Q ++ Q2).length) oc2) (P ++ [nv0 ⟨5, k5, [], [], 0⟩] ++ (Q ++ Q2)) :: inats (.slice VK2 (a.len + 1) vc2) ((a.app (.cons x2 k2 .nil)).idx (P.length + 1)) :: (krows (Q ++ Q2) ++ it)) w4 := by
      have e1 : (P ++ [nv0 (⟨5, k5, [], [], 0⟩ : Nd)] ++ Q ++ Q2).length = P.length + 1 + (Q ++ Q2).length := by simp; omega
      have h1 := hM4
      rw [e1] at h1
      rw [← List.append_assoc (P ++ [nv0 _]), krows_app]
      refine h1.perm (List.Perm.cons _ ?_)
      have h2 := (List.perm_append_comm (l₁ := krows Q2) (l₂ := inats (.slice VK2 (a.len + 1) vc2) ((a.app (.cons x2 k2 .nil)).idx (P.length + 1)) :: krows Q)).append_right it
      simp only [List.append_assoc, List.cons_append] at h2 ⊢
      exact h2
     have e1 : (P ++ [nv0 (⟨5, k5, [], [], 0⟩ : Nd)] ++ Q ++ Q2).length = P.length + 1 + (Q ++ Q2).length := by simp; omega
     rw [e1]
     clear hM4 hM3 e1 hlen hQ2 HI
     generalize hQ3 : Q ++ Q2 = Q3 at *
     clear hQ3
     go_wp2_with fail
     go_roundg (r2.len + 1)
     case measure =>
      show r2.len + 1 < r2.len + 1 + 1
      omega
     case rel =>
      refine ⟨a.app (.cons x2 k2 .nil), r2, Q3, us, OA2, VK2, oc2, vc2, rfl, rfl, ?_, ?_, hid HX.out.2.2, ?_⟩
      ·rw [HX.out.2.1]
      ·rw [HX.out.2.1]; rfl
      ·rw [HX.out.2.1]; exact hM5
theorem lv_size : ∀ {a : F}, Lv a → a.size = a.len
 | .nil, _ => rfl
 | .cons x k r, h => by
   obtain ⟨-, h2, h3⟩ := h
   subst h2
   rw [F.size, F.len, lv_size h3]; show 0 + _ + 1 = _; omega
structure LvI (ks : F) (n : Nat) (a b : F) (Q : List NV) : Prop where
 eq : ks = a.app b
 la : Lv a
 lb : Lv b
 q : Q.map Prod.fst = a.num (n + 1)
theorem LvI.step {ks : F} {n : Nat} {a : F} {y : Nd} {k r : F} {Q : List NV} (h : LvI ks n a (.cons y k r) Q) :
 (vals ks)[a.len]? = some y ∧ (a.app (.cons y .nil .nil)).len = a.len + 1 ∧ Q.length = a.size ∧ y.at_ = 0 ∧ LvI ks n (a.app (.cons y .nil .nil)) r (Q ++ [nv0 y]) := by
 obtain ⟨h1, h2, h3⟩ := h.lb
 subst h2
 have hQ : Q.length = a.size := by
  have := congrArg List.length h.q
  rwa [List.length_map, F.num_len] at this
 refine ⟨?_, by rw [F.len_app]; rfl, hQ, h1, ⟨by rw [F.app_assoc, h.eq]; rfl, ?_, h3, ?_⟩⟩
 ·rw [h.eq, vals_app, List.getElem?_append_right (by rw [zcj]; omega), zcj, Nat.sub_self]; rfl
 ·have : ∀ {a : F}, Lv a → Lv (a.app (.cons y .nil .nil)) := by
   intro a
   induction a with
   | nil => intro _; exact ⟨h1, rfl, trivial⟩
   | cons z l r _ ih => intro h; exact ⟨h.1, h.2.1, ih h.2.2⟩
  exact this h.la
 ·rw [F.num_app, List.map_append, h.q]; rfl
theorem awrite_any (B : Nat) (w0 : World) (x : Nd) (hx0 : x.at_ = 0) (ks : F) (hL : Lv ks) (A : Option Addr) (c : Nat) (hV : Vats B w0 A (vals ks)) (P : List NV) (v0 : Value) (it : List It) (w : World) (hb : P.length + (F.cons x ks .nil).size ≤ 100000) (hk0 : Hp [] w0 (inodes v0 P :: it) w) :
 Calls Tryz.prog 289 #[.agg #[.int .i64 (x.kind : Int), .int .i64 x.num, .string (bs x.name), .string (bs x.attr), .slice none 0 0, .int .i64 0, .slice A (vals ks).length c], v0] w (WrOut w0 (F.cons x ks .nil) P it) := by
 obtain ⟨OA, oc, rfl⟩ := zag (hk0.row 0 rfl)
 obtain ⟨i0, hi0, hz0, hz1, hz2⟩ := info_parts node_info
 obtain ⟨j0, hj0, hy0, hy1, hy2⟩ := info_parts int_info
 have hwl : (vals ks).length = ks.len := zcj ks
 have hsz1 : (F.cons x ks .nil).size = ks.size + 0 + 1 := rfl
 have hll := lv_size hL
 have hb1 : P.length ≤ 99999 := by omega
 have hkl : ks.len ≤ 100000 := by omega
 have HB := hid hb
 have HWL := hid hwl
 have HLL := hid hll
 have HL := hid hL
 obtain ⟨xk, xn, xm, xt, xa⟩ := x
 simp only at hx0
 subst hx0
 have hk1 := hk0.new 235 [.int .i64 (xk : Int), .int .i64 xn, .string (bs xm), .string (bs xt), .slice none 0 0, .int .i64 0, .slice A (vals ks).length c]
 clear hb hsz1 hll hwl hL
 go_enter Tryz.func289, Tryz.ntmps289
 go_upto_region 1 with fail
 generalize w.alloc (.cells #[.int .i64 (xk : Int), .int .i64 xn, .string (bs xm), .string (bs xt), .slice none 0 0, .int .i64 0, .slice A (vals ks).length c] 235) = W1 at *
 generalize w.heap.size = gb at *
 obtain ⟨d0, d1, d2, d3, d4, d5, d6⟩ := (hk1.blk 0 rfl).get7
 go_wp2_with (at_builtin; refine zac rfl _ _ 27 rfl 0 68 i0 _ 6 80 Tryz.underlying27 hi0 hz0 hz1 hz2 rfl (by decide) _ P.length (zai P) rfl ((hk1.alloc _).row 1 rfl) ⟨W1.heap.size, 0, none⟩ 1 1 [.int .i64 (xk : Int), .int .i64 xn, .string (bs xm), .string (bs xt), .slice none 0 0, .int .i64 0] rfl rfl (new6p _ _ _ _ _ _ _ _) (by intro u hu; simp at hu; rcases hu with rfl | rfl | rfl | rfl | rfl | rfl <;> rfl) (by decide) (by unfold maxLen; omega) (by omega) (Nat.zero_le _) ?_; intro v' w1 hown hgrow hat; obtain ⟨A1, c1, rfl⟩ := zag hown; have hk2 := (hk1.alloc (.cells #[.int .i64 (xk : Int), .int .i64 xn, .string (bs xm), .string (bs xt), .slice none 0 0, .int .i64 0] 68)).grown 1 rfl hown hgrow hat; obtain ⟨d0, d1, d2, d3, d4, d5, d6⟩ := (hk2.blk 0 rfl).get7; clear hown hgrow hat)
 have hk3 : Hp [] w0 (inodes (.slice A1 (P.length + 1) c1) (P ++ [((⟨xk, xn, xm, xt, 0⟩, []), (none, 0))]) :: inats (.slice none 0 0) [] :: (krows [] ++ it)) w1 := by
  have h1 := hk2.tail.nilrow 3 1
  have e1 : (P ++ [(((⟨xk, xn, xm, xt, 0⟩ : Nd), []), (none, 0))] : List NV).length = P.length + 1 := by simp
  have e2 : zai (P ++ [(((⟨xk, xn, xm, xt, 0⟩ : Nd), []), (none, 0))]) = zai P ++ [.int .i64 (xk : Int), .int .i64 xn, .string (bs xm), .string (bs xt), .slice none 0 0, .int .i64 0] := by rw [zc3]; rfl
  unfold inodes
  rw [e1, e2]
  exact h1.perm (List.Perm.swap _ _ _)
 clear hk2 hk1 hk0 d0 d1 d2 d3 d4 d5 d6
 go_loopg [1, 18] (ks.len + 1) (fun m s1 s18 wx => ∃ (a b : F) (Q : List NV) (OA VK : Option Addr) (oc vc : Nat), m = b.len + 1 ∧ s1 = .slice OA (P.length + 1 + Q.length) oc ∧ s18 = .int .i64 (a.len : Int) ∧ Hid (LvI ks P.length a b Q) ∧ Hp [] w0 (inodes (.slice OA (P.length + 1 + Q.length) oc) (P ++ [((⟨xk, xn, xm, xt, 0⟩, a.idx (P.length + 1)), (VK, vc))] ++ Q) :: inats (.slice VK a.len vc) (a.idx (P.length + 1)) :: (krows Q ++ it)) wx)
 case atStart => exact ⟨.nil, ks, [], A1, none, c1, 0, rfl, rfl, rfl, hid ⟨rfl, trivial, HL.out, rfl⟩, by rw [List.append_nil]; exact hk3⟩
 case round =>
  obtain ⟨a, b, Q, OA, VK, oc, vc, rfl, rfl, rfl, HI, hM⟩ := hrel
  clear hk3
  have hil : (a.idx (P.length + 1)).length = a.len := F.idx_len a _
  have hlen : (P ++ [(((⟨xk, xn, xm, xt, 0⟩ : Nd), a.idx (P.length + 1)), (VK, vc))] ++ Q).length = P.length + 1 + Q.length := by simp; omega
  cases b with
  | nil =>
    have hka : ks = a := by rw [HI.out.eq, F.app_nil]
    have hd2 : ¬ (a.len : Int) < ((vals ks).length : Int) := by rw [HWL.out, hka]; omega
    have HKA := hid hka
    clear hka
    have HM := hid hM
    have HE := hid (And.intro hil hlen)
    clear hM hil hlen
    go_wp2_with fail
    go_ret
    refine ⟨((⟨xk, xn, xm, xt, 0⟩, a.idx (P.length + 1)), (VK, vc)) :: Q, _, ?_, rfl, ?_⟩
    ·rw [List.map_cons, HI.out.q, HKA.out]
     show _ = (_, _) :: (a.num (P.length + 1) ++ [])
     rw [List.append_nil]
    ·have h1 := HM.out
     rw [List.append_assoc] at h1
     refine h1.perm (List.Perm.cons _ ?_)
     show (inats (.slice VK a.len vc) (a.idx (P.length + 1)) :: (krows Q ++ it)).Perm (inats (.slice VK (a.idx (P.length + 1)).length vc) (a.idx (P.length + 1)) :: (krows Q ++ it))
     rw [HE.out.1]
  | cons y k r =>
    obtain ⟨hvat, hal, hQl, hya, hst⟩ := HI.out.step
    have hlt : (a.len : Int) < ((vals ks).length : Int) := by have := (List.getElem?_eq_some_iff.1 hvat).1; omega
    have hge : (0 : Int) ≤ (a.len : Int) := by omega
    obtain ⟨ad, hA, -, hY0⟩ := hV a.len y hvat
    subst hA
    have hY := hY0.up hM.below0
    obtain ⟨y0, y1, y2, y3, ⟨YA, yn, yc, y4⟩, ⟨yk, y5⟩⟩ := hY
    have hM1 := hM.new 68 [.int .i64 (y.kind : Int), .int .i64 y.num, .string (bs y.name), .string (bs y.attr), .slice YA yn yc, .int .i64 yk]
    have hQb : Q.length ≤ 100000 := by
     have h1 : ks.len = a.len + (r.len + 1) := by rw [HI.out.eq, F.len_app]; rfl
     have := lv_size HI.out.la
     omega
    have hidx := nats_snoc (x := y) (k := .nil) (n := P.length) hQl
    have hil2 : ((a.app (.cons y .nil .nil)).idx (P.length + 1)).length = a.len + 1 := by rw [F.idx_len, F.len_app]; rfl
    have HID := hid (And.intro hidx hil2)
    have HX := hid hst
    have HAL := hid hal
    have hltr : r.len + 1 < (F.cons y k r).len + 1 := by show r.len + 1 < r.len + 1 + 1; omega
    have HLT := hid hltr
    have hab : a.len ≤ 100000 := by have := lv_size HI.out.la; omega
    have HQL := hid hQl
    clear hidx hil2 hst hvat hY0 hal hltr hQl
    go_upto_region 6 with fail
    generalize wr.alloc (.cells #[.int .i64 (y.kind : Int), .int .i64 y.num, .string (bs y.name), .string (bs y.attr), .slice YA yn yc, .int .i64 yk] 68) = W2 at *
    generalize wr.heap.size = g2 at *
    clear y0 y1 y2 y3 y4 y5 hM
    obtain ⟨go, oc', hov, -⟩ := za5 (zb9 (hM1.row 1 rfl) hlen) (by omega)
    have hOA : OA = some ⟨go, 0, none⟩ := by injection hov
    subst hOA
    clear hov
    have he : zai (P ++ [((⟨xk, xn, xm, xt, 0⟩, a.idx (P.length + 1)), (VK, vc))] ++ Q) = zai P ++ (nvc ((⟨xk, xn, xm, xt, 0⟩, a.idx (P.length + 1)), (VK, vc)) ++ zai Q) := by simp [zai]
    have h4 : (zai (P ++ [((⟨xk, xn, xm, xt, 0⟩, a.idx (P.length + 1)), (VK, vc))] ++ Q))[P.length * 6 + 4]? = some (.slice VK a.len vc) := by
     rw [he, List.getElem?_append_right (by rw [za0]; omega), za0, Nat.add_sub_cancel_left, ← hil]
     rfl
    have hce : W2.cell? ⟨go, P.length * 6 + 4, none⟩ = some (.slice VK a.len vc) := zaz (zb9 (hM1.row 1 rfl) hlen) h4
    have hat1 : (P.length : Int) < (P.length : Int) + 1 + (Q.length : Int) := by omega
    have HH4 := hid (And.intro he h4)
    clear he h4
    go_upto_region 7 with (at_builtin; refine zac rfl _ _ 61 rfl 0 3 j0 _ 1 8 Tryz.underlying61 hj0 hy0 hy1 hy2 rfl (by decide) _ a.len (nats (a.idx (P.length + 1))) rfl (zb9 ((hM1.alloc _).row 2 rfl) hil) ⟨W2.heap.size, 0, none⟩ 1 1 [.int .i64 ((P.length : Int) + 1 + (Q.length : Int))] rfl rfl (new1p _ _ _) (by intro u hu; simp at hu; rw [hu]; rfl) (by decide) (by unfold maxLen; omega) (by omega) (Nat.zero_le _) ?_; intro v' w3 hown hgrow hat; obtain ⟨VK2, vc2, rfl⟩ := zag hown; have hM2 := (hM1.alloc (.cells #[.int .i64 ((P.length : Int) + 1 + (Q.length : Int))] 3)).grown 2 rfl hown hgrow hat; (have hce := zaz (zb9 (hM2.row 1 rfl) hlen) HH4.out.2); (have hfr := row_frozen (zb9 (hM2.row 1 rfl) hlen) (P.length * 6 + 4)); clear hown hgrow hat)
    have hlen2 : (P ++ [(((⟨xk, xn, xm, xt, 0⟩ : Nd), (a.app (.cons y .nil .nil)).idx (P.length + 1)), (VK2, vc2))] ++ Q : List NV).length = P.length + 1 + Q.length := by simp; omega
    have hM4 : Hp [] w0 (iblk g2 68 [.int .i64 (y.kind : Int), .int .i64 y.num, .string (bs y.name), .string (bs y.attr), .slice YA yn yc, .int .i64 yk] :: inodes (.slice (some ⟨go, 0, none⟩) (P.length + 1 + Q.length) oc) (P ++ [(((⟨xk, xn, xm, xt, 0⟩ : Nd), (a.app (.cons y .nil .nil)).idx (P.length + 1)), (VK2, vc2))] ++ Q) :: inats (.slice VK2 (a.len + 1) vc2) ((a.app (.cons y .nil .nil)).idx (P.length + 1)) :: (krows Q ++ it)) (w3.setCell ⟨go, P.length * 6 + 4, none⟩ (.slice VK2 (a.len + 1) vc2)) := by
     have h1 := hM2
     unfold inodes at h1
     rw [hlen] at h1
     have h2 := h1.rowset 1 rfl (P.length * 6 + 4) (by omega) (.slice VK2 (a.len + 1) vc2)
     have e3 : (zai (P ++ [((⟨xk, xn, xm, xt, 0⟩, a.idx (P.length + 1)), (VK, vc))] ++ Q)).set (P.length * 6 + 4) (.slice VK2 (a.len + 1) vc2) = zai (P ++ [(((⟨xk, xn, xm, xt, 0⟩ : Nd), (a.app (.cons y .nil .nil)).idx (P.length + 1)), (VK2, vc2))] ++ Q) := by
      rw [HH4.out.1, List.set_append_right _ _ (by rw [za0]; omega), za0, Nat.add_sub_cancel_left]
      have e4 : zai (P ++ [(((⟨xk, xn, xm, xt, 0⟩ : Nd), (a.app (.cons y .nil .nil)).idx (P.length + 1)), (VK2, vc2))] ++ Q) = zai P ++ (nvc (((⟨xk, xn, xm, xt, 0⟩ : Nd), (a.app (.cons y .nil .nil)).idx (P.length + 1)), (VK2, vc2)) ++ zai Q) := by simp [zai]
      rw [e4]
      show _ = zai P ++ ([_, _, _, _, .slice VK2 ((a.app (.cons y .nil .nil)).idx (P.length + 1)).length vc2, _] ++ zai Q)
      rw [HID.out.2]
      rfl
     unfold inodes inats
     rw [hlen2, ← e3, HID.out.1, HID.out.2]
     exact h2
    clear hM2 hce hfr
    generalize w3.setCell ⟨go, P.length * 6 + 4, none⟩ (.slice VK2 (a.len + 1) vc2) = W5 at *
    obtain ⟨x0, x1, x2, x3, x4, x5⟩ := Blk.get6 (hM4.blk 0 rfl)
    have HL2 := hid hlen2
    have HL1 := hid hlen
    clear hlen hlen2
    go_wp2_with (at_builtin; refine zac rfl _ _ 27 rfl 0 68 i0 _ 6 80 Tryz.underlying27 hi0 hz0 hz1 hz2 rfl (by decide) _ (P.length + 1 + Q.length) (zai (P ++ [(((⟨xk, xn, xm, xt, 0⟩ : Nd), (a.app (.cons y .nil .nil)).idx (P.length + 1)), (VK2, vc2))] ++ Q)) rfl (zb9 ((hM4.alloc _).row 1 rfl) HL2.out) ⟨W5.heap.size, 0, none⟩ 1 1 [.int .i64 (y.kind : Int), .int .i64 y.num, .string (bs y.name), .string (bs y.attr), .slice none 0 0, .int .i64 0] rfl rfl (new6p _ _ _ _ _ _ _ _) (by intro u hu; simp at hu; rcases hu with rfl | rfl | rfl | rfl | rfl | rfl <;> rfl) (by decide) (by unfold maxLen; omega) (by omega) (Nat.zero_le _) ?_; intro v' w6 hown hgrow hat; obtain ⟨OA3, oc3, rfl⟩ := zag hown; have hM6 := ((hM4.alloc (.cells #[.int .i64 (y.kind : Int), .int .i64 y.num, .string (bs y.name), .string (bs y.attr), .slice none 0 0, .int .i64 0] 68)).grown 1 rfl hown hgrow hat).tail; clear hown hgrow hat hM4)
    have hM7 : Hp [] w0 (inodes (.slice OA3 (P.length + 1 + (Q ++ [nv0 y]).length) oc3) (P ++ [(((⟨xk, xn, xm, xt, 0⟩ : Nd), (a.app (.cons y .nil .nil)).idx (P.length + 1)), (VK2, vc2))] ++ (Q ++ [nv0 y])) :: inats (.slice VK2 (a.len + 1) vc2) ((a.app (.cons y .nil .nil)).idx (P.length + 1)) :: (krows (Q ++ [nv0 y]) ++ it)) w6 := by
     have h1 := hM6.nilrow 3 1
     have e1 : (P ++ [(((⟨xk, xn, xm, xt, 0⟩ : Nd), (a.app (.cons y .nil .nil)).idx (P.length + 1)), (VK2, vc2))] ++ (Q ++ [nv0 y]) : List NV).length = P.length + 1 + Q.length + 1 := by simp; omega
     have e2 : zai (P ++ [(((⟨xk, xn, xm, xt, 0⟩ : Nd), (a.app (.cons y .nil .nil)).idx (P.length + 1)), (VK2, vc2))] ++ (Q ++ [nv0 y])) = zai (P ++ [(((⟨xk, xn, xm, xt, 0⟩ : Nd), (a.app (.cons y .nil .nil)).idx (P.length + 1)), (VK2, vc2))] ++ Q) ++ [.int .i64 (y.kind : Int), .int .i64 y.num, .string (bs y.name), .string (bs y.attr), .slice none 0 0, .int .i64 0] := by
      rw [← List.append_assoc, zc3]
      show _ ++ [_, _, _, _, _, Value.int .i64 (y.at_ : Int)] = _
      rw [hya]; rfl
     unfold inodes
     rw [e1, e2, show P.length + 1 + (Q ++ [nv0 y]).length = P.length + 1 + Q.length + 1 by simp; omega, krows_app]
     refine h1.perm ?_
     have h9 : (inats (.slice none 0 0) [] :: (krows Q ++ it)).Perm (krows Q ++ [inats (.slice none 0 0) []] ++ it) := by
      rw [List.append_assoc]
      exact List.perm_middle.symm
     exact ((List.Perm.swap _ _ _).trans (List.Perm.cons _ ((List.Perm.swap _ _ _).trans (List.Perm.cons _ h9))))
    clear hM6 x0 x1 x2 x3 x4 x5
    go_roundg (r.len + 1)
    case measure => exact HLT.out
    case rel =>
     refine ⟨a.app (.cons y .nil .nil), r, Q ++ [nv0 y], OA3, VK2, oc3, vc2, rfl, ?_, ?_, HX, ?_⟩
     ·rw [List.length_append]; rfl
     ·rw [HAL.out]; first | rfl | simp
     ·rw [HAL.out]; exact hM7
theorem CvM.wr {B : Nat} {w0 : World} : ∀ {f : F} {vs : List Value}, CvM B w0 f vs → WrAll w0 f vs
 | .nil, vs, h => by cases vs <;> trivial
 | .cons x ks r, vs, h => by
   obtain ⟨v, us, rfl, h2, h3⟩ := h
   refine ⟨?_, CvM.wr h2⟩
   intro T pl e P v0 it w hb hk
   by_cases hk5 : x.kind = 5
   ·rw [if_pos hk5] at h3
    obtain ⟨hx, A, c, ws, e2, -, hv, hc⟩ := h3
    rw [e] at e2
    injection e2 with e3 e4
    subst e4
    refine ⟨fun _ => ?_, fun h => absurd hk5 h⟩
    have hw := gwrite_any B w0 x.num ks A c ws hv hc (CvM.wr hc) P v0 it w (by rw [← hx]; exact hb) hk
    rw [← hx] at hw
    exact hw
   ·rw [if_neg hk5] at h3
    obtain ⟨⟨hx, hl⟩, A, c, e2, hv⟩ := h3
    rw [e] at e2
    injection e2 with e3 e4
    subst e4
    exact ⟨fun h => absurd h hk5, fun _ => awrite_any B w0 x hx ks hl A c hv P v0 it w hb hk⟩
end Go.Proofs.YtekkapgknohadaaGreatDoor.Nf
