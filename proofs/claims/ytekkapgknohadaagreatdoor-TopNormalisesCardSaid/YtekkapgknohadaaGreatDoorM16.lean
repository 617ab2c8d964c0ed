/- numbered: the nodes of a tree in preorder. -/
import Derived.Test.YtekkapgknohadaaGreatDoorM15
import Derived.Test.YtekkapgknohadaaGreatDoorM2
set_option linter.unusedVariables false
set_option maxRecDepth 20000
set_option maxHeartbeats 8000000
namespace Go.Proofs.YtekkapgknohadaaGreatDoor
open Go.RowKit Go.Shelf
abbrev NV := (Pa.Nd × List Nat) × (Option Addr × Nat)
abbrev nats (l : List Nat) : List Value := l.map fun (n : Nat) => .int .i64 (n : Int)
abbrev nvc (x : NV) : List Value := [.int .i64 (x.1.1.kind : Int), .int .i64 x.1.1.num, Sv x.1.1.name, Sv x.1.1.attr, .slice x.2.1 x.1.2.length x.2.2, .int .i64 (x.1.1.at_ : Int)]
def zai (P : List NV) : List Value := P.flatMap nvc
abbrev inodes (v : Value) (P : List NV) : It := irow 68 6 v P.length (zai P)
abbrev inats (v : Value) (l : List Nat) : It := irow 3 1 v l.length (nats l)
def krows (P : List NV) : List It := P.map fun x => inats (.slice x.2.1 x.1.2.length x.2.2) x.1.2
theorem zc3 (P : List NV) (x : NV) : zai (P ++ [x]) = zai P ++ nvc x := by simp [zai]
theorem krows_app (P Q : List NV) : krows (P ++ Q) = krows P ++ krows Q := by simp [krows]
theorem za0 (P : List NV) : (zai P).length = P.length * 6 := by
 induction P with
 | nil => rfl
 | cons x P ih =>
  have e : zai (x :: P) = nvc x ++ zai P := rfl
  rw [e, List.length_append, ih, List.length_cons]
  simp; omega
theorem node_info : (Tryz.prog.info? 68).map (fun i => (i.zero, i.size, i.bytes)) = some (some (.agg zNd.toArray), 6, 80) := by kernel_rfl
theorem int_info : (Tryz.prog.info? 3).map (fun i => (i.zero, i.size, i.bytes)) = some (some (.int .i64 0), 1, 8) := by kernel_rfl
abbrev tits (n : Pa.Nd) (g : Nat) (kv : Value) (k : LF) : List It := itree n g kv :: iptrs kv k.roots :: k.its
def NumOK (n : Pa.Nd) (g : Nat) (kv : Value) (k : LF) : Prop := ∀ (P : List NV) (v : Value) (W : World), P.length + (Pa.F.cons n k.out .nil).size ≤ 1000000 → Sep W (inodes v P :: tits n g kv k) →
 Calls Tryz.prog 80 #[ptr g, v] W fun e w' => ∃ Q v', Q.map Prod.fst = (Pa.F.cons n k.out .nil).num P.length ∧ e = .returned v' ∧ Hp (ow (inodes v P :: tits n g kv k)) W (inodes v' (P ++ Q) :: (tits n g kv k ++ krows Q)) w'
def LF.All (p : Pa.Nd → Nat → Value → LF → Prop) : LF → Prop
 | .nil => True
 | .cons n g kv k r => p n g kv k ∧ k.All p ∧ r.All p
theorem LF.split (x : LF) : ∀ i, i < x.roots.length → ∃ (a : LF) (n : Pa.Nd) (g : Nat) (kv : Value) (k b : LF), x = a.app (.cons n g kv k b) ∧ a.roots.length = i := by
 induction x with
 | nil => intro i h; simp [LF.roots] at h
 | cons n g kv k r _ ih =>
  intro i h
  cases i with
  | zero => exact ⟨.nil, n, g, kv, k, r, rfl, rfl⟩
  | succ i =>
   obtain ⟨a, n2, g2, kv2, k2, b, h1, h2⟩ := ih i (by simpa [LF.roots] using h)
   exact ⟨.cons n g kv k a, n2, g2, kv2, k2, b, by rw [h1]; rfl, by simp [LF.roots, h2]⟩
theorem LF.All.at {p : Pa.Nd → Nat → Value → LF → Prop} {a b k : LF} {n : Pa.Nd} {g : Nat} {kv : Value} (h : (a.app (.cons n g kv k b)).All p) : p n g kv k := by
 induction a with
 | nil => exact h.1
 | cons n2 g2 kv2 k2 r _ ih => exact ih h.2.2
open Go.RowKit Go.Shelf
theorem new6p (w : World) (t : TypeId) (a b c d f i : Value) : ∀ (j : Nat) u, [a, b, c, d, f, i][j]? = some u → (w.alloc (.cells #[a, b, c, d, f, i] t)).cell? ((⟨w.heap.size, 0, none⟩ : Addr).add j) = some u := by
 intro j u hu
 have e : (⟨w.heap.size, 0, none⟩ : Addr).add j = ⟨w.heap.size, j, none⟩ := by unfold Addr.add; split <;> simp_all
 rw [e, (show Blk (w.alloc (.cells #[a, b, c, d, f, i] t)) w.heap.size t [a, b, c, d, f, i] from Blk.new w t [a, b, c, d, f, i]).cell j]
 exact hu
theorem zb9 {W : World} {e : TypeId} {size n m : Nat} {v : Value} {xs : List Value} (h : W.ownsRow 0 e size v n xs) (hm : n = m) : W.ownsRow 0 e size v m xs := hm ▸ h
theorem len_size (f : Pa.F) : f.len ≤ f.size := by
 induction f with
 | nil => exact Nat.le_refl 0
 | cons n k r _ ih => rw [Pa.F.len, Pa.F.size]; omega
theorem perm_go {α : Type} (X Y T U : α) (A B D K : List α) : (X :: Y :: (T :: U :: (A ++ (B ++ D)) ++ K)).Perm ((X :: B) ++ (Y :: T :: U :: (A ++ D ++ K))) := by
 have h := (List.perm_append_comm (l₁ := [Y, T, U] ++ A) (l₂ := B)).append_right (D ++ K)
 simp only [List.append_assoc, List.cons_append, List.nil_append] at h ⊢
 exact List.Perm.cons X h
theorem perm_back {α : Type} (X Y T U : α) (A B D K L : List α) : ((X :: (B ++ L)) ++ (Y :: T :: U :: (A ++ D ++ K))).Perm (X :: Y :: (T :: U :: (A ++ (B ++ D)) ++ (K ++ L))) := by
 have h1 : ((X :: (B ++ L)) ++ (Y :: T :: U :: (A ++ D ++ K))).Perm ((X :: B) ++ (Y :: T :: U :: (A ++ D ++ (K ++ L)))) := by
  have h := (List.perm_append_comm (l₁ := L) (l₂ := Y :: T :: U :: (A ++ D ++ K))).append_left (X :: B)
  simp only [List.append_assoc, List.cons_append] at h ⊢
  exact h
 exact h1.trans (perm_go X Y T U A B D (K ++ L)).symm
theorem LF.app_assoc (x y z : LF) : (x.app y).app z = x.app (y.app z) := by
 induction x with
 | nil => rfl
 | cons n g kv k r _ ih => rw [LF.app, LF.app, LF.app, ih]
abbrev nv0 (n : Pa.Nd) : NV := ((n, []), (none, 0))
theorem num_any (n : Pa.Nd) (g : Nat) (kv : Value) (k : LF) (ih : k.All NumOK) : NumOK n g kv k := by
 intro P v W hb hS
 have hk0 := Hp.self hS
 generalize ow (inodes v P :: tits n g kv k) = o at *
 clear hS
 obtain ⟨A, c, rfl⟩ := zag (hk0.row 0 rfl)
 obtain ⟨KA, kc, rfl⟩ := zag (hk0.row 2 rfl)
 obtain ⟨i0, hi0, hz0, hz1, hz2⟩ := info_parts node_info
 obtain ⟨j0, hj0, hy0, hy1, hy2⟩ := info_parts int_info
 obtain ⟨d0, d1, d2, d3, d4, d5, d6⟩ := (hk0.blk 1 rfl).get7
 have hsz := hk0.size
 have HB := Lib.hid hb
 have hb1 : P.length ≤ 999999 := by
  have : (Pa.F.cons n k.out .nil).size = k.out.size + 0 + 1 := rfl
  omega
 have hkl : k.roots.length ≤ 1000000 := by
  have h1 : (Pa.F.cons n k.out .nil).size = k.out.size + 0 + 1 := rfl
  have h2 := len_size k.out
  rw [LF.roots_len]
  omega
 clear hb
 go_enter Tryz.func80, Tryz.ntmps80
 go_wp2_with (at_builtin; refine zac rfl _ _ 27 rfl 0 68 i0 _ 6 80 Tryz.underlying27 hi0 hz0 hz1 hz2 rfl (by decide) _ P.length (zai P) rfl ((hk0.alloc _).row 0 rfl) ⟨W.heap.size, 0, none⟩ 1 1 (ncs n) rfl rfl (new6p _ _ _ _ _ _ _ _) (by intro u hu; simp at hu; rcases hu with rfl | rfl | rfl | rfl | rfl | rfl <;> rfl) (by decide) (by unfold maxLen; omega) (by omega) (Nat.zero_le _) ?_; intro v' w1 hown hgrow hat; obtain ⟨A1, c1, rfl⟩ := zag hown; have hk1 := (hk0.alloc (.cells (ncs n).toArray 68)).grown 0 rfl hown hgrow hat; obtain ⟨d0, d1, d2, d3, d4, d5, d6⟩ := (hk1.blk 1 rfl).get7; clear hown hgrow hat)
 have HIH := Lib.hid ih
 clear ih
 have hk2 : Hp o W (inodes (.slice A1 (P.length + 1) c1) (P ++ [nv0 n]) :: inats (.slice none 0 0) [] :: (tits n g (.slice KA k.roots.length kc) k ++ krows [])) w1 := by
  have h1 := hk1.nilrow 3 1
  have e1 : (P ++ [nv0 n]).length = P.length + 1 := by simp
  have e2 : zai (P ++ [nv0 n]) = zai P ++ ncs n := by rw [zc3]; rfl
  unfold inodes
  rw [e1, e2]
  show Hp o W (_ :: inats (.slice none 0 0) [] :: (tits n g (.slice KA k.roots.length kc) k ++ [])) w1
  rw [List.append_nil]
  exact h1.perm (List.Perm.swap _ _ _)
 clear hk1 hk0 d0 d1 d2 d3 d4 d5 d6
 go_loopg [1, 6, 23] (k.roots.length + 1) (fun m s1 s6 s23 wx => ∃ (a b : LF) (Q : List NV) (OA VK : Option Addr) (oc vc : Nat), m = b.roots.length + 1 ∧ s1 = .slice OA (P.length + 1 + Q.length) oc ∧ s6 = .slice VK a.roots.length vc ∧ s23 = .int .i64 (a.roots.length : Int) ∧ a.roots.length + b.roots.length = k.roots.length ∧ Hid (k = a.app b ∧ Q.map Prod.fst = a.out.num (P.length + 1)) ∧ Hp o W (inodes (.slice OA (P.length + 1 + Q.length) oc) (P ++ [nv0 n] ++ Q) :: inats (.slice VK a.roots.length vc) (a.out.idx (P.length + 1)) :: (tits n g (.slice KA k.roots.length kc) k ++ krows Q)) wx)
 case atStart => exact ⟨.nil, k, [], A1, none, c1, 0, rfl, rfl, rfl, rfl, by simp [LF.roots], Lib.hid ⟨rfl, rfl⟩, by rw [List.append_nil]; exact hk2⟩
 case round =>
  obtain ⟨a, b, Q, OA, VK, oc, vc, rfl, rfl, rfl, rfl, hab, HE, hM⟩ := hrel
  clear hk2
  have hsz2 := hM.size
  cases b with
  | nil =>
   have hd : decide ((a.roots.length : Int) < (k.roots.length : Int)) = false := by
    have e : (LF.nil).roots.length = 0 := rfl
    rw [e] at hab
    simp; omega
   have HE2 : Hid (k = a ∧ Q.map Prod.fst = a.out.num (P.length + 1)) := Lib.hid ⟨by
    rw [HE.out.1]
    clear hM HE hab hd
    induction a with
    | nil => rfl
    | cons n g kv k r _ ih => rw [LF.app, ih], HE.out.2⟩
   clear HE
   have hlen : (P ++ [nv0 n] ++ Q).length = P.length + 1 + Q.length := by simp; omega
   have hrow := zb9 (hM.row 0 rfl) hlen
   obtain ⟨go, oc', hov, -⟩ := za5 hrow (by omega)
   have hOA : OA = some ⟨go, 0, none⟩ := by injection hov
   subst hOA
   clear hov
   have e : zai (P ++ [nv0 n] ++ Q) = zai P ++ (ncs n ++ zai Q) := by simp [zai]
   have hce : wr.cell? ⟨go, P.length * 6 + 4, none⟩ = some (.slice none 0 0) := zaz hrow (by
    rw [e, List.getElem?_append_right (by rw [za0]; omega), za0, Nat.add_sub_cancel_left]
    rfl)
   have hfr := row_frozen hrow (P.length * 6 + 4)
   have hat1 : (P.length : Int) < (P.length : Int) + 1 + (Q.length : Int) := by omega
   have hd2 : ¬ a.roots.length < k.roots.length := by
    have e : (LF.nil).roots.length = 0 := rfl
    rw [e] at hab
    omega
   have hM2 : Hp o W (irow 68 6 (.slice (some ⟨go, 0, none⟩) (P.length + 1 + Q.length) oc) (P.length + 1 + Q.length) (zai (P ++ [nv0 n] ++ Q)) :: inats (.slice VK a.roots.length vc) (a.out.idx (P.length + 1)) :: (tits n g (.slice KA k.roots.length kc) k ++ krows Q)) wr := by
    have h1 := hM
    unfold inodes at h1
    rw [hlen] at h1
    exact h1
   have hil : (a.out.idx (P.length + 1)).length = a.roots.length := by rw [Pa.F.idx_len, LF.roots_len]
   have HM := Lib.hid (hM2.rowset 0 rfl (P.length * 6 + 4) (by omega) (.slice VK a.roots.length vc))
   have HL := Lib.hid (And.intro hlen (And.intro e hil))
   clear hM hM2 hrow e hlen hil hd hab hsz2
   go_wp2_with fail
   go_ret
   refine ⟨((n, a.out.idx (P.length + 1)), (VK, vc)) :: Q, _, ?_, rfl, ?_⟩
   ·rw [List.map_cons, HE2.out.2, HE2.out.1]
    show _ = (n, _) :: (a.out.num (P.length + 1) ++ [])
    rw [List.append_nil]
   ·have h1 := HM.out
    have e2 : (P ++ ((n, a.out.idx (P.length + 1)), (VK, vc)) :: Q).length = P.length + 1 + Q.length := by simp; omega
    have e3 : (zai (P ++ [nv0 n] ++ Q)).set (P.length * 6 + 4) (.slice VK a.roots.length vc) = zai (P ++ ((n, a.out.idx (P.length + 1)), (VK, vc)) :: Q) := by
     rw [HL.out.2.1, List.set_append_right _ _ (by rw [za0]; omega), za0, Nat.add_sub_cancel_left]
     have e4 : zai (P ++ ((n, a.out.idx (P.length + 1)), (VK, vc)) :: Q) = zai P ++ (nvc ((n, a.out.idx (P.length + 1)), (VK, vc)) ++ zai Q) := by simp [zai]
     rw [e4]
     show _ = zai P ++ ([_, _, _, _, .slice VK (a.out.idx (P.length + 1)).length vc, _] ++ zai Q)
     rw [HL.out.2.2]
     rfl
    unfold inodes
    rw [e2, ← e3]
    refine h1.perm (List.Perm.cons _ ?_)
    show (inats (.slice VK a.roots.length vc) (a.out.idx (P.length + 1)) :: (tits n g (.slice KA k.roots.length kc) k ++ krows Q)).Perm (tits n g (.slice KA k.roots.length kc) k ++ (inats (.slice VK (a.out.idx (P.length + 1)).length vc) (a.out.idx (P.length + 1)) :: krows Q))
    rw [HL.out.2.2]
    exact List.perm_middle.symm
  | cons n2 g2 kv2 k2 r2 =>
   have hlt : (a.roots.length : Int) < (k.roots.length : Int) := by
    have e : (LF.cons n2 g2 kv2 k2 r2).roots.length = r2.roots.length + 1 := rfl
    rw [e] at hab
    omega
   have hge : (0 : Int) ≤ (a.roots.length : Int) := by omega
   have hN : NumOK n2 g2 kv2 k2 := by
    have h1 := HIH.out
    rw [HE.out.1] at h1
    exact h1.at
   obtain ⟨gk, kc', hkv, -⟩ := za5 (hM.row 3 rfl) (by omega)
   have hKA : KA = some ⟨gk, 0, none⟩ := by injection hkv
   subst hKA
   clear hkv
   have hel : wr.cell? ⟨gk, a.roots.length, none⟩ = some (ptr g2) := zaz (hM.row 3 rfl) (by
    have : k.roots = a.roots ++ g2 :: r2.roots := by rw [HE.out.1, LF.roots_app]; rfl
    rw [this]
    simp [ptrs])
   have HN := Lib.hid hN
   clear hN
   go_wp2_with (at_builtin; refine zac rfl _ _ 61 rfl 0 3 j0 _ 1 8 Tryz.underlying61 hj0 hy0 hy1 hy2 rfl (by decide) _ a.roots.length (nats (a.out.idx (P.length + 1))) rfl (zb9 ((hM.alloc _).row 1 rfl) (by rw [Pa.F.idx_len, LF.roots_len])) ⟨wr.heap.size, 0, none⟩ 1 1 [.int .i64 ((P.length : Int) + 1 + (Q.length : Int))] rfl rfl (new1p _ _ _) (by intro u hu; simp at hu; rw [hu]; rfl) (by decide) (by unfold maxLen; omega) (by omega) (Nat.zero_le _) ?_; intro v' w3 hown hgrow hat)
   obtain ⟨VK2, vc2, rfl⟩ := zag hown
   have hQl : Q.length = a.out.size := by
    have := congrArg List.length HE.out.2
    rwa [List.length_map, Pa.F.num_len] at this
   have hM2 := (hM.alloc (.cells #[.int .i64 ((P.length : Int) + 1 + (Q.length : Int))] 3)).grown 1 rfl hown hgrow hat
   clear hown hgrow hat hel
   have hsize : k.out.size = a.out.size + (k2.out.size + r2.out.size + 1) := by rw [HE.out.1, LF.out_app, Pa.F.size_app]; rfl
   have hits : k.its = a.its ++ (tits n2 g2 kv2 k2 ++ r2.its) := by rw [HE.out.1, LF.its_app]; rfl
   have hroots : (a.app (LF.cons n2 g2 kv2 k2 .nil)).roots = a.roots ++ [g2] := by rw [LF.roots_app]; rfl
   have hidx : nats ((a.app (LF.cons n2 g2 kv2 k2 .nil)).out.idx (P.length + 1)) = nats (a.out.idx (P.length + 1)) ++ [.int .i64 ((P.length : Int) + 1 + (Q.length : Int))] := by
    rw [LF.out_app, Pa.F.idx_app, hQl]
    show nats (_ ++ [P.length + 1 + a.out.size]) = _
    simp [nats]
   have hil : ((a.app (LF.cons n2 g2 kv2 k2 .nil)).out.idx (P.length + 1)).length = a.roots.length + 1 := by
    rw [Pa.F.idx_len, ← LF.roots_len, hroots]; simp
   have hM3 : Hp o W ((inodes (.slice OA (P.length + 1 + Q.length) oc) (P ++ [nv0 n] ++ Q) :: tits n2 g2 kv2 k2) ++ (inats (.slice VK2 (a.roots.length + 1) vc2) ((a.app (LF.cons n2 g2 kv2 k2 .nil)).out.idx (P.length + 1)) :: itree n g (.slice (some ⟨gk, 0, none⟩) k.roots.length kc) :: iptrs (.slice (some ⟨gk, 0, none⟩) k.roots.length kc) k.roots :: (a.its ++ r2.its ++ krows Q))) w3 := by
    refine Hp.perm ?_ (perm_go _ _ _ _ _ _ _ _)
    unfold inats
    rw [hidx, hil, ← hits]
    exact hM2
   clear hM2 hM
   have hbn : (P ++ [nv0 n] ++ Q).length + (Pa.F.cons n2 k2.out .nil).size ≤ 1000000 := by
    have h1 : (Pa.F.cons n2 k2.out .nil).size = k2.out.size + 0 + 1 := rfl
    have h2 : (Pa.F.cons n k.out .nil).size = k.out.size + 0 + 1 := rfl
    have h3 := HB.out
    simp only [List.length_append, List.length_singleton]
    omega
   refine (HN.out _ _ w3 hbn ⟨fun x hx => hM3.sep.ok x (List.mem_append_left _ hx), (List.nodup_append.1 (by have := hM3.sep.ap; rw [zbv] at this; exact this)).1⟩).mono ?_
   rintro e w4 ⟨Q2, v2, hQ2, rfl, hH⟩
   obtain ⟨OA2, oc2, rfl⟩ := zag (hH.row 0 rfl)
   have hM4 := Hp.call hM3 hH
   clear hM3 hH HN
   have hM5 : Hp o W (inodes (.slice OA2 (P ++ [nv0 n] ++ Q ++ Q2).length oc2) (P ++ [nv0 n] ++ (Q ++ Q2)) :: inats (.slice VK2 (a.roots.length + 1) vc2) ((a.app (LF.cons n2 g2 kv2 k2 .nil)).out.idx (P.length + 1)) :: (tits n g (.slice (some ⟨gk, 0, none⟩) k.roots.length kc) k ++ krows (Q ++ Q2))) w4 := by
    have h1 := hM4.perm (perm_back _ _ _ _ _ _ _ _ _)
    rw [krows_app]
    rw [← hits] at h1
    rw [← List.append_assoc (P ++ [nv0 n])]
    exact h1
   have hlen : (P ++ [nv0 n] ++ Q ++ Q2).length = P.length + 1 + (Q ++ Q2).length := by simp; omega
   have hal : (a.app (LF.cons n2 g2 kv2 k2 .nil)).roots.length = a.roots.length + 1 := by rw [hroots]; simp
   have HX : Hid ((k = (a.app (LF.cons n2 g2 kv2 k2 .nil)).app r2 ∧ (Q ++ Q2).map Prod.fst = (a.app (LF.cons n2 g2 kv2 k2 .nil)).out.num (P.length + 1)) ∧ (a.app (LF.cons n2 g2 kv2 k2 .nil)).roots.length + r2.roots.length = k.roots.length ∧ a.roots.length + 1 = (a.app (LF.cons n2 g2 kv2 k2 .nil)).roots.length) := Lib.hid (by
    refine ⟨⟨?_, ?_⟩, ?_, hal.symm⟩
    ·rw [LF.app_assoc, HE.out.1]; rfl
    ·rw [LF.out_app, Pa.F.num_app, List.map_append, HE.out.2, hQ2]
     congr 2
     simp only [List.length_append, List.length_singleton]
     omega
    ·have e : (LF.cons n2 g2 kv2 k2 r2).roots.length = r2.roots.length + 1 := rfl
     rw [e] at hab
     omega)
   rw [hlen] at hM5 ⊢
   clear hM4 hlen hal hroots hits hidx hil hsize hQl hQ2 hbn HE hab
   generalize a.app (LF.cons n2 g2 kv2 k2 .nil) = a2 at *
   generalize Q ++ Q2 = Q3 at *
   go_wp2_with fail
   go_roundg (r2.roots.length + 1)
   case measure =>
    have e : (LF.cons n2 g2 kv2 k2 r2).roots.length = r2.roots.length + 1 := rfl
    rw [e]; omega
   case rel =>
    refine ⟨a2, r2, Q3, OA2, VK2, oc2, vc2, rfl, rfl, ?_, ?_, HX.out.2.1, Lib.hid HX.out.1, ?_⟩
    ·rw [HX.out.2.2]
    ·rw [← HX.out.2.2]; rfl
    ·rw [HX.out.2.2] at hM5; exact hM5
theorem all_num (x : LF) : x.All NumOK := by
 induction x with
 | nil => trivial
 | cons n g kv k r ih1 ih2 => exact ⟨num_any n g kv k ih1, ih1, ih2⟩
open Go.RowKit Go.Shelf
attribute [local go_sem] tf0 tf1 tf2
def pcells (l : List (Pa.Tx × Pa.Tx)) : List Value := l.flatMap fun x => [Sv x.1, Sv x.2]
theorem pcells_snoc (l : List (Pa.Tx × Pa.Tx)) (x : Pa.Tx × Pa.Tx) : pcells (l ++ [x]) = pcells l ++ [Sv x.1, Sv x.2] := by simp [pcells]
abbrev iuses (v : Value) (l : List (Pa.Tx × Pa.Tx)) : It := irow 50 2 v l.length (pcells l)
abbrev irefs (v : Value) (l : List (Pa.Tx × Pa.Tx)) : It := irow 89 2 v l.length (pcells l)
theorem use_info : (Tryz.prog.info? 50).map (fun i => (i.zero, i.size, i.bytes)) = some (some (.agg #[.string ⟨#[]⟩, .string ⟨#[]⟩]), 2, 32) := by kernel_rfl
theorem ref_info : (Tryz.prog.info? 89).map (fun i => (i.zero, i.size, i.bytes)) = some (some (.agg #[.string ⟨#[]⟩, .string ⟨#[]⟩]), 2, 32) := by kernel_rfl
abbrev plc (nm : Pa.Tx) (vu vr vn : Value) (sc : Pa.Tx) (lim : Int) (esc : Pa.Tx) : List Value := [Sv nm, vu, vr, vn, .int .i64 0, Sv sc, .int .i64 lim, Sv esc]
def moreR {α : Type} (rd : List Lx.Tok → Pa.Rd α) (more : Bool) (acc : List α) (k : Nat) (q : List Lx.Tok) : Pa.Rd (List α) :=
 if more then (Pa.listR rd k q).then fun l q => (some (acc ++ l), q) else (some acc, q)
theorem moreR_start {α : Type} (rd : List Lx.Tok → Pa.Rd α) (k : Nat) (q : List Lx.Tok) : moreR rd true [] k q = Pa.listR rd k q := by
 unfold moreR
 rw [if_pos rfl]
 generalize Pa.listR rd k q = x
 obtain ⟨o, r⟩ := x
 cases o <;> rfl
theorem moreR_bad {α : Type} (rd : List Lx.Tok → Pa.Rd α) (acc : List α) (k : Nat) (q q' : List Lx.Tok) (h : rd q = (none, q')) : moreR rd true acc (k + 1) q = (none, q') := by
 rw [moreR, if_pos rfl, Pa.listR, h]; rfl
theorem moreR_step {α : Type} (rd : List Lx.Tok → Pa.Rd α) (acc : List α) (k : Nat) (q q' : List Lx.Tok) (a : α) (h : rd q = (some a, q')) : moreR rd true acc (k + 1) q = moreR rd (Pa.isT Pa.sComma q') (acc ++ [a]) k (takeT Pa.sComma q') := by
 rw [moreR, if_pos rfl, Pa.listR, h, Pa.then_some, moreR, takeT]
 cases Pa.isT Pa.sComma q' with
 | true =>
  simp only [if_true]
  generalize Pa.listR rd k q'.tail = x
  obtain ⟨o, r⟩ := x
  cases o with
  | none => rfl
  | some l => simp
 | false => simp
theorem Blk.get8 {w : World} {g : Nat} {t : TypeId} {a b c d e f i j : Value} (h : Blk w g t [a, b, c, d, e, f, i, j]) : w.cell? ⟨g, 0, none⟩ = some a ∧ w.cell? ⟨g, 1, none⟩ = some b ∧ w.cell? ⟨g, 2, none⟩ = some c ∧ w.cell? ⟨g, 3, none⟩ = some d ∧ w.cell? ⟨g, 4, none⟩ = some e ∧ w.cell? ⟨g, 5, none⟩ = some f ∧ w.cell? ⟨g, 6, none⟩ = some i ∧ w.cell? ⟨g, 7, none⟩ = some j := ⟨h.cell 0, h.cell 1, h.cell 2, h.cell 3, h.cell 4, h.cell 5, h.cell 6, h.cell 7⟩
theorem takeT_len (s : Pa.Tx) (ts : List Lx.Tok) : (takeT s ts).length + (if Pa.isT s ts then 1 else 0) = ts.length := by
 unfold takeT
 cases h : Pa.isT s ts with
 | true => simp only [if_true]; exact Pa.isT_len h
 | false => simp
theorem takeT_suf (s : Pa.Tx) (ts : List Lx.Tok) : takeT s ts <:+ ts := by
 unfold takeT
 split
 ·exact List.tail_suffix _
 ·exact List.suffix_refl _
theorem takeT_good {s : Pa.Tx} {ts : List Lx.Tok} (h : Pa.Good ts) : Pa.Good (takeT s ts) := by
 unfold takeT
 split
 ·rename_i h1; exact h.isT h1
 ·exact h
end Go.Proofs.YtekkapgknohadaaGreatDoor
