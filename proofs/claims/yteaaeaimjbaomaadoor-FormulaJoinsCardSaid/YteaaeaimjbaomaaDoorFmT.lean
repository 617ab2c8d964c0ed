import Derived.Test.YteaaeaimjbaomaaDoorFmA
import Derived.Lib.ItoaNum
import Derived.Test.YteaaeaimjbaomaaDoorBld
import Derived.Test.YteaaeaimjbaomaaDoorShelf
import Derived.Test.YteaaeaimjbaomaaDoorHp
import Derived.Deep.LoopGhost
import Derived.Deep.DeepCutAuto
/-
  The text of a formula, plain.
-/
namespace Go.Proofs.YteaaeaimjbaomaaDoor
set_option linter.unusedVariables false

/-- the texts of kids, from kid i on, each behind its sign -/
def textKs (t : Int → List UInt8) : Nat → List Int → List UInt8
  | _, [] => []
  | i, k :: ks => (if i = 0 then 40 else 44) :: (t k ++ textKs t (i + 1) ks)
def textP (F : List Gt) : Nat → Int → List UInt8
  | 0, _ => []
  | f + 1, a => match F[a.toNat]? with
    | none => []
    | some g => if g.kids = [] then Lib.decDigits g.leaf.toNat else Lib.decDigits g.need.toNat ++ textKs (textP F f) 0 g.kids ++ [41]
theorem textKs_append (t : Int → List UInt8) (k : Int) : ∀ (ks : List Int) (i : Nat), textKs t i (ks ++ [k]) = textKs t i ks ++ (if i + ks.length = 0 then 40 else 44) :: t k
  | [], i => by simp [textKs]
  | x :: xs, i => by
    rw [List.cons_append, textKs, textKs, textKs_append t k xs (i + 1), List.length_cons]
    simp only [List.cons_append, List.append_assoc]
    congr 4
    rw [if_neg (by omega), if_neg (by omega)]
/-- what a visit that succeeds says of its gate -/
theorem visit_some {F : List Gt} {f : Nat} {a nx c' : Int} {s : Int × Int} (h : visitP F (f + 1) a s = (true, nx, c')) : a = s.1 ∧ a < F.length ∧ ∃ g, F[a.toNat]? = some g ∧
    ((g.kids = [] ∧ g.need = 0 ∧ g.leaf = s.2 ∧ nx = s.1 + 1 ∧ c' = s.2 + 1) ∨ (g.kids ≠ [] ∧ 1 ≤ g.need ∧ g.need ≤ g.kids.length ∧ g.leaf = 0 ∧ kidsP (visitP F f) g.kids (s.1 + 1, s.2) = (true, nx, c'))) := by
  rw [visitP] at h
  by_cases hc : a ≠ s.1 ∨ (F.length : Int) ≤ a
  · rw [if_pos hc] at h; cases h
  · rw [if_neg hc] at h
    have hk : a = s.1 := Classical.byContradiction fun h9 => hc (.inl h9)
    have hlt : a < F.length := by
      have : ¬ (F.length : Int) ≤ a := fun h9 => hc (.inr h9)
      omega
    refine ⟨hk, hlt, ?_⟩
    cases hg : F[a.toNat]? with
    | none => rw [hg] at h; cases h
    | some g =>
      rw [hg] at h
      simp only at h
      refine ⟨g, rfl, ?_⟩
      by_cases hz : g.kids = []
      · rw [if_pos hz] at h
        have h1 := congrArg Prod.fst h
        have h2 := congrArg (fun p => p.2.1) h
        have h3 := congrArg (fun p => p.2.2) h
        simp only [Bool.and_eq_true, decide_eq_true_eq] at h1 h2 h3
        exact .inl ⟨hz, h1.1, h1.2, h2.symm, h3.symm⟩
      · rw [if_neg hz] at h
        by_cases hb : g.need < 1 ∨ (g.kids.length : Int) < g.need ∨ g.leaf ≠ 0
        · rw [if_pos hb] at h; cases h
        · rw [if_neg hb] at h
          have n1 : ¬ g.need < 1 := fun h9 => hb (.inl h9)
          have n2 : ¬ (g.kids.length : Int) < g.need := fun h9 => hb (.inr (.inl h9))
          have n3 : g.leaf = 0 := Classical.byContradiction fun h9 => hb (.inr (.inr h9))
          exact .inr ⟨hz, by omega, by omega, n3, h⟩
theorem kids_cons {v : Int → Int × Int → Bool × Int × Int} {k : Int} {ks : List Int} {s : Int × Int} {r : Int × Int} (h : kidsP v (k :: ks) s = (true, r)) : ∃ m, v k s = (true, m) ∧ kidsP v ks m = (true, r) := by
  rw [kidsP] at h
  by_cases hb : (v k s).1 = true
  · rw [if_pos hb] at h
    exact ⟨(v k s).2, Prod.ext hb rfl, h⟩
  · rw [if_neg hb] at h; cases h
theorem dec_len (n : Nat) (h : n < 100) : (Lib.decDigits n).length ≤ 2 := by
  rw [Lib.decDigits]
  split
  · simp
  · rw [Lib.decDigits, dif_pos (by omega)]; simp
theorem textP_len {F : List Gt} (hF : F.length ≤ 40) (hK : ∀ g ∈ F, g.kids.length ≤ 40) : ∀ (f : Nat) (a : Int) (s r : Int × Int), visitP F f a s = (true, r) → 0 ≤ s.1 → 0 ≤ s.2 → s.2 ≤ s.1 → s.1 < r.1 ∧ ((textP F f a).length : Int) + 1 ≤ 4 * (r.1 - s.1)
  | 0, a, s, r, h, _, _, _ => by rw [visitP] at h; cases h
  | f + 1, a, s, r, h, h0, h1, h2 => by
    obtain ⟨e, hl, g, hg, hc⟩ := visit_some (nx := r.1) (c' := r.2) h
    rw [textP, hg]
    simp only
    rcases hc with ⟨c1, c2, c3, c4, c5⟩ | ⟨c1, c2, c3, c4, c5⟩
    · rw [if_pos c1]
      have := dec_len g.leaf.toNat (by omega)
      omega
    · rw [if_neg c1]
      have hb := hK g (List.mem_of_getElem? hg)
      have hd := dec_len g.need.toNat (by omega)
      -- the kids' counts stay in order
      have hkk : ∀ (ks : List Int) (i : Nat) (s r : Int × Int), kidsP (visitP F f) ks s = (true, r) → 0 ≤ s.1 → 0 ≤ s.2 → s.2 ≤ s.1 → s.1 ≤ F.length → s.1 ≤ r.1 ∧ ((textKs (textP F f) i ks).length : Int) ≤ 4 * (r.1 - s.1) := by
        intro ks
        induction ks with
        | nil =>
          intro i s r h h0 h1 h2 h3
          have h9 : s = r := by rw [kidsP] at h; exact congrArg Prod.snd h
          subst h9
          exact ⟨Int.le_refl _, by rw [textKs]; simp⟩
        | cons k ks ih =>
          intro i s r h h0 h1 h2 h3
          obtain ⟨m, e1, e2⟩ := kids_cons h
          obtain ⟨a1, a2⟩ := textP_len hF hK f k s m e1 h0 h1 h2
          have hbd := visitP_bd F f k s h1 h2 h3
          rw [e1] at hbd
          simp only at hbd
          obtain ⟨b1, b2⟩ := ih (i + 1) m r e2 (by omega) hbd.2.2.1 hbd.2.2.2 hbd.2.1
          refine ⟨by omega, ?_⟩
          rw [textKs, List.length_cons, List.length_append]
          omega
      obtain ⟨q1, q2⟩ := hkk g.kids 0 (s.1 + 1, s.2) (r.1, r.2) c5 (by show 0 ≤ s.1 + 1; omega) h1 (by show s.2 ≤ s.1 + 1; omega) (by show s.1 + 1 ≤ _; omega)
      simp only at q1 q2
      simp only [List.length_append, List.length_cons, List.length_nil]
      omega
end Go.Proofs.YteaaeaimjbaomaaDoor

/-
  formula.Text's closure, which writes a gate.
-/
namespace Go.Proofs.YteaaeaimjbaomaaDoor
open Go.RowKit
set_option linter.unusedVariables false

theorem Gates.read {w W : World} {A : Option Addr} {F : List Gt} (hG : Gates w w.heap.size A F) (hb : Below w.heap.size w W) {k : Nat} {g : Gt} (hg : F[k]? = some g) :
    ∃ ad, A = some ad ∧ ∃ KA kc, W.cell? (ad.add (k * 3)) = some (.int .i64 g.need) ∧ W.cell? ⟨(ad.add (k * 3)).block, (ad.add (k * 3)).off + 1, none⟩ = some (.slice KA g.kids.length kc) ∧
      W.cell? ⟨(ad.add (k * 3)).block, (ad.add (k * 3)).off + 2, none⟩ = some (.int .i64 g.leaf) ∧ Ints w w.heap.size KA g.kids := by
  obtain ⟨ad, hA, hab, hga⟩ := hG.some_ (by rintro rfl; simp at hg)
  obtain ⟨KA, kc, gk', gi⟩ := (hga k g hg).kids
  have ga := (hga k g hg).keep hb (Nat.le_refl _) (by rw [add_block]; exact hab)
  refine ⟨ad, hA, KA, kc, ga.need, ?_, ga.leaf, gi⟩
  rw [hb.cell (p := ⟨(ad.add (k * 3)).block, (ad.add (k * 3)).off + 1, none⟩) (by show (ad.add (k * 3)).block < _; rw [add_block]; exact hab)]; exact gk'
theorem Ints.read {w W : World} {B : Nat} {A : Option Addr} {l : List Int} (hI : Ints w B A l) (hb : Below B w W) {j : Nat} {x : Int} (hx : l[j]? = some x) : ∃ ad, A = some ad ∧ W.cell? (ad.add j) = some (.int .i64 x) := by
  obtain ⟨ka, hKA, hkb, hrun⟩ := hI.some_ (by rintro rfl; simp at hx)
  refine ⟨ka, hKA, ?_⟩
  rw [hb.cell (p := ka.add j) (by rw [add_block]; exact hkb)]
  exact hrun j _ (by rw [List.getElem?_map, hx]; rfl)
theorem Blk.oth {W W' : World} {b g : Nat} {t : TypeId} {cs : List Value} (h : Blk W g t cs) (ho : Oth b W W') (hg : g ≠ b) (ht : t ≠ 5) : Blk W' g t cs :=
  ho g _ h (fun e => hg (Option.some.inj e)) (fun c fz e => by injection e with _ e1; exact ht e1)
theorem small_at (n : Int) (h0 : 0 ≤ n) (h : n < 100) (w : World) : Calls Tryd.prog 41 #[.int .i64 n] w fun e w' => e = .returned (.string ⟨(Lib.decDigits n.toNat).toArray⟩) ∧ w' = w := by
  obtain ⟨k, rfl⟩ := Int.eq_ofNat_of_zero_le h0
  rw [Int.toNat_natCast]
  exact Tryd.strconv_Itoa_small k (by omega) w
/-- the memory of formula.Text -/
structure TS (w : World) (gf b gw : Nat) (A : Option Addr) (n c : Nat) (L : List UInt8) (W : World) : Prop where
  Fb : Blk W gf 24 [.slice A n c]
  V : Blk W gw 77 [.func (Fn.func 39) #[] #[pt gf, pt b, pt gw]]
  B : IsB w.heap.size b L W
  D : gf ≠ b ∧ gw ≠ b
  below : Below w.heap.size w W
theorem TS.oth {w : World} {gf b gw : Nat} {A : Option Addr} {n c : Nat} {L L' : List UInt8} {W W' : World} (h : TS w gf b gw A n c L W) (hB : IsB w.heap.size b L' W') (hb : Below w.heap.size W W') (ho : Oth b W W') : TS w gf b gw A n c L' W' :=
  ⟨h.Fb.oth ho h.D.1 (by decide), h.V.oth ho h.D.2 (by decide), hB, h.D, h.below.trans hb⟩
theorem TS.alloc {w : World} {gf b gw : Nat} {A : Option Addr} {n c : Nat} {L : List UInt8} {W : World} (h : TS w gf b gw A n c L W) (o : Obj) : TS w gf b gw A n c L (W.alloc o) :=
  h.oth (Lib.IsBuilderF.alloc h.B o) ((Below.refl _ _).alloc h.below.size _) ((Lib.OthersKept.refl _ _ _).alloc o)
set_option maxHeartbeats 2000000 in
theorem write_any (w : World) (gf b gw : Nat) (A : Option Addr) (c : Nat) (F : List Gt) (n : Int) (hF : F.length ≤ 40) (hK : ∀ g ∈ F, g.kids.length ≤ 40) (hn : n ≤ 40) (hV : ∀ (i : Nat) g, F[i]? = some g → GOk F.length 0 n i g) (hG : Gates w w.heap.size A F) (f : Nat) :
    ∀ (a : Int) (W : World) (L : List UInt8), 0 ≤ a → a < F.length → (F.length : Int) - a ≤ f → TS w gf b gw A F.length c L W → L.length + (textP F f a).length ≤ 1000000 →
    Calls Tryd.prog 39 #[.int .i64 a, pt gf, pt b, pt gw] W fun e w' => e = .returned (.tuple #[]) ∧ TS w gf b gw A F.length c (L ++ textP F f a) w' ∧ Oth b W w' := by
  induction f with
  | zero => intro a W L h0 h1 h2; omega
  | succ f ih =>
    intro a W L h0 h1 h2 hT hlen
    obtain ⟨k, rfl⟩ := Int.eq_ofNat_of_zero_le h0
    have hk : k < F.length := by omega
    obtain ⟨g, hg⟩ : ∃ g, F[k]? = some g := ⟨_, List.getElem?_eq_getElem hk⟩
    have hok := hV k g hg
    have hkl := hK g (List.mem_of_getElem? hg)
    obtain ⟨ad, hA, KA, kc, gn, gk, gl, gi⟩ := hG.read hT.below hg
    subst hA
    have c0 := hT.Fb.cell 0
    simp only [List.getElem?_cons_zero] at c0
    have HT : Hid (textP F (f + 1) (k : Int) = if g.kids = [] then Lib.decDigits g.leaf.toNat else Lib.decDigits g.need.toNat ++ textKs (textP F f) 0 g.kids ++ [41]) := by
      refine Lib.hid ?_
      rw [textP, Int.toNat_natCast, hg]
    go_enter Tryd.func39, Tryd.ntmps39
    go_upto_region 1 with fail
    have hT2 := hT.alloc (.cells #[.int .i64 g.need, .slice KA g.kids.length kc, .int .i64 g.leaf] 40)
    have hB : Blk (W.alloc (.cells #[.int .i64 g.need, .slice KA g.kids.length kc, .int .i64 g.leaf] 40)) W.heap.size 40 [.int .i64 g.need, .slice KA g.kids.length kc, .int .i64 g.leaf] := Blk.new W 40 [.int .i64 g.need, .slice KA g.kids.length kc, .int .i64 g.leaf]
    have ho : Oth b W (W.alloc (.cells #[.int .i64 g.need, .slice KA g.kids.length kc, .int .i64 g.leaf] 40)) := (Lib.OthersKept.refl _ _ _).alloc _
    have hgb : W.heap.size ≠ b := by
      have : b < W.heap.size := by
        rcases hT.B with h9 | h9
        · obtain ⟨_, v, hb, _⟩ := h9; exact (Array.getElem?_eq_some_iff.1 hb).1
        · obtain ⟨_, v, hb, _⟩ := h9; exact (Array.getElem?_eq_some_iff.1 hb).1
      omega
    clear gn gk gl c0 hT
    generalize W.alloc (.cells #[.int .i64 g.need, .slice KA g.kids.length kc, .int .i64 g.leaf] 40) = W2 at *
    generalize W.heap.size = g5 at *
    obtain ⟨b0, b1, b2⟩ := hB.get3
    by_cases hkz : g.kids = []
    · have hz : ((g.kids.length : Int) == 0) = true := by rw [hkz]; rfl
      obtain ⟨l1, l2, l3⟩ := hok.1 hkz
      have HL : Hid (L.length + (Lib.decDigits g.leaf.toNat).length ≤ 1000000) := by
        refine Lib.hid ?_
        rw [HT.out, if_pos hkz] at hlen; exact hlen
      have HT2 : Hid (textP F (f + 1) (k : Int) = Lib.decDigits g.leaf.toNat) := by refine Lib.hid ?_; rw [HT.out, if_pos hkz]
      clear HT hlen hkz ih hok
      go_wp2_with fail
      refine (small_at g.leaf l2 (by omega) W2).mono ?_
      rintro e w3 ⟨rfl, rfl⟩
      go_wp2_with fail
      refine (writeString_at w.heap.size b L (Lib.decDigits g.leaf.toNat) w3 hT2.B (by have := HL.out; omega) hT2.below.size).mono ?_
      rintro e w4 ⟨rfl, hB4, hb4, ho4⟩
      have hT4 := hT2.oth hB4 hb4 ho4
      go_wp2_with fail
      first | go_end0 | refine bodyPost_ret (results_none rfl _ _ _) rfl ?_
      rw [HT2.out]
      exact ⟨rfl, hT4, ho.trans ho4⟩
    · have hz : ((g.kids.length : Int) == 0) = false := by
        rw [beq_eq_false_iff_ne]
        intro h9
        exact hkz (List.eq_nil_of_length_eq_zero (by omega))
      obtain ⟨l1, l2⟩ := hok.2.1 hkz
      have HT2 : Hid (textP F (f + 1) (k : Int) = Lib.decDigits g.need.toNat ++ textKs (textP F f) 0 g.kids ++ [41]) := by refine Lib.hid ?_; rw [HT.out, if_neg hkz]
      have HL : Hid (L.length + (Lib.decDigits g.need.toNat).length + (textKs (textP F f) 0 g.kids).length + 1 ≤ 1000000) := by
        refine Lib.hid ?_
        rw [HT2.out] at hlen
        simp only [List.length_append, List.length_cons, List.length_nil] at hlen
        omega
      have hin := hok.2.2
      have HI := Lib.hid ih
      clear HT hlen hkz ih hok
      go_wp2_with fail
      refine (small_at g.need (by omega) (by omega) W2).mono ?_
      rintro e w3 ⟨rfl, rfl⟩
      go_wp2_with fail
      refine (writeString_at w.heap.size b L (Lib.decDigits g.need.toNat) w3 hT2.B (by have := HL.out; omega) hT2.below.size).mono ?_
      rintro e w4 ⟨rfl, hB4, hb4, ho4⟩
      have hT4 := hT2.oth hB4 hb4 ho4
      have hG4 := hB.oth ho4 hgb (by decide)
      have ho5 := ho.trans ho4
      clear hT2 hB b0 b1 b2 ho hB4 hb4 ho4
      obtain ⟨b0, b1, b2⟩ := hG4.get3
      go_upto_region 5 with fail
      clear b0 b1 b2
      go_loopg [28] g.kids.length (fun m s28 wx => ∃ j : Nat, j ≤ g.kids.length ∧ m = g.kids.length - j ∧ s28 = .int .i64 (j : Int) ∧ TS w gf b gw (some ad) F.length c (L ++ Lib.decDigits g.need.toNat ++ textKs (textP F f) 0 (g.kids.take j)) wx ∧ Oth b W wx ∧ Blk wx g5 40 [.int .i64 g.need, .slice KA g.kids.length kc, .int .i64 g.leaf])
      case atStart => exact ⟨0, Nat.zero_le _, rfl, rfl, by rw [List.take_zero, textKs, List.append_nil]; exact hT4, ho5, hG4⟩
      case round =>
        obtain ⟨j, hj, rfl, rfl, hS, hoS, hGS⟩ := hrel
        clear hT4 hG4 ho5
        by_cases hjl : j < g.kids.length
        · obtain ⟨x, hx⟩ : ∃ x, g.kids[j]? = some x := ⟨_, List.getElem?_eq_getElem hjl⟩
          obtain ⟨ka, hKA, cx⟩ := gi.read hS.below hx
          subst hKA
          have hxm := hin x (List.mem_of_getElem? hx)
          have HK : Hid (textKs (textP F f) 0 (g.kids.take (j + 1)) = textKs (textP F f) 0 (g.kids.take j) ++ (if j = 0 then 40 else 44) :: textP F f x) := by
            refine Lib.hid ?_
            rw [List.take_add_one, hx]
            show textKs _ 0 (g.kids.take j ++ [x]) = _
            rw [textKs_append, List.length_take, Nat.min_eq_left hj, Nat.zero_add]
          have HL2 : Hid ((L ++ Lib.decDigits g.need.toNat ++ textKs (textP F f) 0 (g.kids.take j)).length + 1 + (textP F f x).length ≤ 1000000) := by
            refine Lib.hid ?_
            have h8 : (textKs (textP F f) 0 (g.kids.take (j + 1))).length ≤ (textKs (textP F f) 0 g.kids).length := by
              have hmono : ∀ (ks : List Int) (i m : Nat), (textKs (textP F f) i (ks.take m)).length ≤ (textKs (textP F f) i ks).length := by
                intro ks
                induction ks with
                | nil => intro i m; simp
                | cons y ys ih9 =>
                  intro i m
                  cases m with
                  | zero => simp [textKs]
                  | succ m =>
                    rw [List.take_succ_cons, textKs, textKs]
                    simp only [List.length_cons, List.length_append]
                    have := ih9 (i + 1) m
                    omega
              exact hmono _ _ _
            rw [HK.out] at h8
            have h9 := HL.out
            simp only [List.length_append, List.length_cons] at h8 ⊢
            omega
          have hcw : wr.cell? ⟨gw, 0, none⟩ = some (.func (Fn.func 39) #[] #[pt gf, pt b, pt gw]) := hS.V.cell 0
          clear hx hin
          generalize hLL : L ++ Lib.decDigits g.need.toNat ++ textKs (textP F f) 0 (g.kids.take j) = LL at hS HL2
          have HLL := Lib.hid hLL
          clear hLL
          go_upto_if 34 with fail
          go_cut [] (fun wx => TS w gf b gw (some ad) F.length c (LL ++ [if j = 0 then 40 else 44]) wx ∧ Oth b W wx ∧ Blk wx g5 40 [.int .i64 g.need, .slice (some ka) g.kids.length kc, .int .i64 g.leaf])
          case first =>
            by_cases hj0 : j = 0
            · have tj : ((j : Int) == 0) = true := by simpa using hj0
              have hL1 := HL2.out
              have HJ := Lib.hid hj0
              clear hj0 HK HL HI HLL HT2 cx hcw HL2
              go_wp2_with fail
              refine (writeByte_lit w.heap.size b LL 40 40 rfl wr hS.B (by omega) hS.below.size).mono ?_
              rintro e w5 ⟨rfl, hB5, hb5, ho5⟩
              go_wp2_with fail
              go_meet
              first | rw [if_pos HJ.out] | rw [if_neg HJ.out]
              exact ⟨hS.oth hB5 hb5 ho5, hoS.trans ho5, hGS.oth ho5 hgb (by decide)⟩
            · have tj : ((j : Int) == 0) = false := by simpa using hj0
              have hL1 := HL2.out
              have HJ := Lib.hid hj0
              clear hj0 HK HL HI HLL HT2 cx hcw HL2
              go_wp2_with fail
              refine (writeByte_lit w.heap.size b LL 44 44 rfl wr hS.B (by omega) hS.below.size).mono ?_
              rintro e w5 ⟨rfl, hB5, hb5, ho5⟩
              go_wp2_with fail
              go_meet
              first | rw [if_pos HJ.out] | rw [if_neg HJ.out]
              exact ⟨hS.oth hB5 hb5 ho5, hoS.trans ho5, hGS.oth ho5 hgb (by decide)⟩
          case rest =>
            obtain ⟨hS5, ho5, hG5⟩ := hcut
            have hcw5 : wc.cell? ⟨gw, 0, none⟩ = some (.func (Fn.func 39) #[] #[pt gf, pt b, pt gw]) := hS5.V.cell 0
            have HC := Lib.hid (HI.out x wc (LL ++ [if j = 0 then 40 else 44]) (by omega) hxm.2 (by omega) hS5 (by have := HL2.out; simp only [List.length_append, List.length_cons, List.length_nil]; omega))
            clear hS hoS hGS hcw cx HI
            go_wp2_with fail
            refine HC.out.mono ?_
            rintro e w6 ⟨rfl, hS6, ho6⟩
            clear HC hS5 hcw5
            go_wp2_with fail
            go_roundg (g.kids.length - (j + 1))
            case measure => omega
            case rel =>
              refine ⟨j + 1, hjl, rfl, by first | rfl | simp, ?_, ho5.trans ho6, hG5.oth ho6 hgb (by decide)⟩
              rw [HK.out, ← List.append_assoc, HLL.out]
              have h9 := hS6
              rw [List.append_assoc] at h9
              exact h9
        · have hjj : j = g.kids.length := by omega
          have HL3 : Hid ((L ++ Lib.decDigits g.need.toNat ++ textKs (textP F f) 0 (g.kids.take j)).length + 1 ≤ 1000000) := by
            refine Lib.hid ?_
            rw [hjj, List.take_length]
            have := HL.out
            simp only [List.length_append]
            omega
          have HT3 : Hid (L ++ textP F (f + 1) (k : Int) = L ++ Lib.decDigits g.need.toNat ++ textKs (textP F f) 0 (g.kids.take j) ++ [41]) := by
            refine Lib.hid ?_
            rw [HT2.out, hjj, List.take_length]
            simp only [List.append_assoc]
          clear HL HT2 HI hin hjj
          generalize hLL : L ++ Lib.decDigits g.need.toNat ++ textKs (textP F f) 0 (g.kids.take j) = LL at hS HL3 HT3
          clear hLL
          go_wp2_with fail
          refine (writeByte_lit w.heap.size b LL 41 41 rfl wr hS.B (by have := HL3.out; omega) hS.below.size).mono ?_
          rintro e w5 ⟨rfl, hB5, hb5, ho5⟩
          go_wp2_with fail
          first | go_end0 | refine bodyPost_ret (results_none rfl _ _ _) rfl ?_
          rw [HT3.out]
          exact ⟨rfl, hS.oth hB5 hb5 ho5, hoS.trans ho5⟩
end Go.Proofs.YteaaeaimjbaomaaDoor

/-
  formula.Text.
-/
namespace Go.Proofs.YteaaeaimjbaomaaDoor
open Go.RowKit
set_option linter.unusedVariables false

def textR (F : List Gt) : List UInt8 × Int := if (leavesP F).2 = false then ([], 3) else if F = [] then ([], 0) else (textP F (F.length + 1) 0, 0)
theorem leaves_le {F : List Gt} : 0 ≤ (leavesP F).1 ∧ (leavesP F).1 ≤ F.length := by
  unfold leavesP
  split
  · rename_i h; subst h; simp
  · have := visitP_bd F (F.length + 1) 0 (0, 0) (Int.le_refl _) (Int.le_refl _) (by show 0 ≤ _; omega)
    exact ⟨this.2.2.1, Int.le_trans this.2.2.2 this.2.1⟩
theorem text_len {F : List Gt} (hF : F.length ≤ 40) (hK : ∀ g ∈ F, g.kids.length ≤ 40) (h : (leavesP F).2 = true) (hne : F ≠ []) : (textP F (F.length + 1) 0).length ≤ 160 := by
  unfold leavesP at h
  rw [if_neg hne] at h
  simp only [Bool.and_eq_true] at h
  obtain ⟨⟨h1, _⟩, _⟩ := h
  have hbd := visitP_bd F (F.length + 1) 0 (0, 0) (Int.le_refl _) (Int.le_refl _) (by show 0 ≤ _; omega)
  have := textP_len hF hK (F.length + 1) 0 (0, 0) _ (Prod.ext h1 rfl) (Int.le_refl _) (Int.le_refl _) (Int.le_refl _)
  simp only at this hbd
  generalize visitP F (F.length + 1) 0 (0, 0) = r at *
  obtain ⟨b, nx, ct⟩ := r
  simp only at *
  omega
theorem isB_new (w : World) (B : Nat) (hB : B ≤ w.heap.size) : IsB B w.heap.size [] (w.alloc (.cells #[.pointer none, .slice none 0 0] 76)) :=
  .inl ⟨hB, .slice none 0 0, heap_alloc_new w _, World.ownsRowF_nil _ _ _ _, by simp [Value.ownBlock]⟩
set_option maxHeartbeats 2000000 in
theorem Text_any (A : Option Addr) (c : Nat) (F : List Gt) (hF : F.length ≤ 40) (hK : ∀ g ∈ F, g.kids.length ≤ 40) (w : World) (hG : Gates w w.heap.size A F) :
    Calls Tryd.prog 22 #[.agg #[.slice A F.length c]] w fun e w' => e = .returned (.tuple #[.string ⟨(textR F).1.toArray⟩, .int .i64 (textR F).2]) ∧ Below w.heap.size w w' := by
  have hk := (Kp.start w).new 24 [.slice A F.length c]
  have HC := Lib.hid (leaves_any A c F (by omega) (fun g hg => by have := hK g hg; omega) (w.alloc (.cells #[.slice A F.length c] 24)) (hG.keep' hk.below))
  by_cases hv : (leavesP F).2 = true
  · by_cases hz : F = []
    · have HR : Hid (textR F = ([], 0)) := by refine Lib.hid ?_; rw [textR, if_neg (by simp [hv]), if_pos hz]
      have h0 : ((F.length : Int) == 0) = true := by rw [hz]; rfl
      rw [hv] at HC
      have H0 := Lib.hid hz
      clear hv hz hG hK
      go_enter Tryd.func22, Tryd.ntmps22
      go_wp2_with fail
      refine HC.out.mono ?_
      rintro e w1 ⟨rfl, hb1⟩
      have hk1 := hk.next hb1
      have b0 := (hk1.at_ 0 rfl).cell 0
      simp only [List.getElem?_cons_zero] at b0
      go_wp2_with fail
      go_ret2
      rw [HR.out]
      exact ⟨rfl, hk1.below⟩
    · have HR : Hid (textR F = (textP F (F.length + 1) 0, 0)) := by refine Lib.hid ?_; rw [textR, if_neg (by simp [hv]), if_neg hz]
      have h0 : ((F.length : Int) == 0) = false := by
        rw [beq_eq_false_iff_ne]
        intro h9
        exact hz (List.eq_nil_of_length_eq_zero (by omega))
      have hpos : 0 < F.length := by
        rcases Nat.eq_zero_or_pos F.length with h | h
        · exact absurd (List.eq_nil_of_length_eq_zero h) hz
        · exact h
      have hlen := text_len hF hK hv hz
      have hV := valid_gates (F := F) (n := (leavesP F).1) (Prod.ext rfl hv)
      have hle := leaves_le (F := F)
      rw [hv] at HC
      clear hz hv
      generalize (leavesP F).1 = n at *
      have HS := Lib.hid (run_store_func Tryd.prog)
      go_enter Tryd.func22, Tryd.ntmps22
      go_wp2_with fail
      refine HC.out.mono ?_
      rintro e w1 ⟨rfl, hb1⟩
      have hk1 := hk.next hb1
      clear hk HC hb1
      have b0 := (hk1.at_ 0 rfl).cell 0
      simp only [List.getElem?_cons_zero] at b0
      go_upto_region 8 with fail
      clear b0
      have hD : w.heap.size < w1.heap.size := (hk1.at_ 0 rfl).lt
      have hk2 : Kp w [(w1.heap.size + 1, 77, [.nilFunc]), (w.heap.size, 24, [.slice A F.length c])] ((w1.alloc (.cells #[.pointer none, .slice none 0 0] 76)).alloc (.cells #[.nilFunc] 77)) := by
        have := (hk1.alloc (.cells #[.pointer none, .slice none 0 0] 76)).new 77 [.nilFunc]
        simpa using this
      have hB2 : IsB w.heap.size w1.heap.size [] ((w1.alloc (.cells #[.pointer none, .slice none 0 0] 76)).alloc (.cells #[.nilFunc] 77)) := Lib.IsBuilderF.alloc (isB_new w1 _ hk1.below.size) _
      clear hk1
      generalize (w1.alloc (.cells #[.pointer none, .slice none 0 0] 76)).alloc (.cells #[.nilFunc] 77) = W4 at *
      have hgw : w1.heap.size < w1.heap.size + 1 := by omega
      generalize w1.heap.size + 1 = gw at *
      generalize w1.heap.size = b at *
      have bV := hk2.at_ 0 rfl
      have hst := fun x y => HS.out W4 ⟨gw, 0, none⟩ .plain (Fn.func 39) x y _ (bV.cell 0) (bV.frozen 0)
      go_upto_region 9 with fail
      clear hst
      have hT : TS w w.heap.size b gw A F.length c [] (W4.setCell ⟨gw, 0, none⟩ (.func (Fn.func 39) #[] #[pt w.heap.size, pt b, pt gw])) := by
        exact ⟨(hk2.at_ 1 rfl).far (by simp; omega) _, bV.set_ 0 _, hB2.far bV (by decide) (by omega) _ _, by omega, hk2.below.setCell (by simp; omega) _⟩
      clear hk2 hB2 bV
      generalize W4.setCell ⟨gw, 0, none⟩ (.func (Fn.func 39) #[] #[pt w.heap.size, pt b, pt gw]) = W5 at *
      have cw := hT.V.cell 0
      simp only [List.getElem?_cons_zero] at cw
      go_wp2_with fail
      refine (write_any w w.heap.size b gw A c F n hF hK (by omega) hV hG (F.length + 1) 0 W5 [] (Int.le_refl _) (by omega) (by omega) hT (by simp; omega)).mono ?_
      rintro e w6 ⟨rfl, hT6, _⟩
      clear hT cw
      go_wp2_with fail
      refine (builderString_at w.heap.size b _ w6 hT6.B hT6.below.size).mono ?_
      rintro e w7 ⟨rfl, _, hb7, _⟩
      go_wp2_with fail
      go_ret2
      rw [HR.out]
      exact ⟨rfl, hT6.below.trans hb7⟩
  · have hv0 : (leavesP F).2 = false := by simpa using hv
    have HR : Hid (textR F = ([], 3)) := by refine Lib.hid ?_; rw [textR, if_pos hv0]
    rw [hv0] at HC
    clear hv hv0 hG hK
    go_enter Tryd.func22, Tryd.ntmps22
    go_wp2_with fail
    refine HC.out.mono ?_
    rintro e w1 ⟨rfl, hb1⟩
    have hk1 := hk.next hb1
    go_wp2_with fail
    go_ret2
    rw [HR.out]
    exact ⟨rfl, hk1.below⟩
end Go.Proofs.YteaaeaimjbaomaaDoor
