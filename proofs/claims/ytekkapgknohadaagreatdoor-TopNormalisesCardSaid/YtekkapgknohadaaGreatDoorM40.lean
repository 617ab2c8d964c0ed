/- normal: threshold. -/
import Derived.Test.YtekkapgknohadaaGreatDoorM37
import Derived.Test.YtekkapgknohadaaGreatDoorM23
set_option linter.unusedVariables false
set_option maxRecDepth 20000
set_option maxHeartbeats 16000000
namespace Go.Proofs.YtekkapgknohadaaGreatDoor.Nf
open Go.RowKit Go.Shelf
open Lib (hid)
open Pa (F Nd)
theorem trues_app : ∀ (f g : F), trues (f.app g) = trues f + trues g
 | .nil, g => by rw [F.app, trues, Int.zero_add]
 | .cons x k r, g => by rw [F.app, trues, trues, trues_app, Int.add_assoc]
theorem rest_app : ∀ (f g : F), rest (f.app g) = (rest f).app (rest g)
 | .nil, g => rfl
 | .cons x k r, g => by
   rw [F.app, rest, rest, rest_app]
   split <;> rfl
theorem flat_app (w : Bool) (k : Int) : ∀ (f g : F), flat w k (f.app g) = (flat w k f).app (flat w k g)
 | .nil, g => rfl
 | .cons x ks r, g => by
   rw [F.app, flat, flat, flat_app]
   split
   ·rw [F.app_assoc]
   ·rfl
theorem trues_le : ∀ (f : F), 0 ≤ trues f ∧ trues f ≤ (f.len : Int)
 | .nil => ⟨Int.le_refl _, Int.le_refl _⟩
 | .cons x k r => by
   have := trues_le r
   rw [trues, F.len]
   split <;> omega
theorem CvM.one {B : Nat} {W : World} : ∀ {f : F} {vs : List Value}, CvM B W f vs → ∀ u ∈ vs, u.oneCell' = true
 | .nil, vs, h, u, hu => by rw [show vs = [] from h] at hu; cases hu
 | .cons x ks r, vs, h, u, hu => by
   obtain ⟨v, us, rfl, h2, h3⟩ := h
   rcases List.mem_cons.1 hu with rfl | hu
   ·by_cases hk : x.kind = 5
    ·rw [if_pos hk] at h3
     obtain ⟨-, A, c, ws, rfl, -⟩ := h3
     rfl
    ·rw [if_neg hk] at h3
     obtain ⟨-, A, c, rfl, -⟩ := h3
     rfl
   ·exact CvM.one h2 u hu
theorem flat_pos {B : Nat} {W : World} (w : Bool) (k : Int) : ∀ {l : F} {vs : List Value}, CvM B W l vs → 0 < l.len → 0 < (flat w k l).len
 | .nil, _, _, h => by cases h
 | .cons x ks r, vs, h, _ => by
   obtain ⟨v, us, rfl, h2, h3⟩ := h
   rw [flat]
   cases ho : opens w k x ks with
   | false => rw [if_neg (by decide)]; show 0 < _ + 1; omega
   | true =>
     rw [if_pos rfl, F.len_app]
     have hk : x.kind = 5 := by
      unfold opens at ho
      simp only [Bool.and_eq_true, decide_eq_true_eq] at ho
      exact ho.1
     rw [if_pos hk] at h3
     obtain ⟨-, A, c, ws, -, hp, -, hc⟩ := h3
     have := hc.len
     omega
theorem vls_row {B : Nat} {W : World} {A : Option Addr} {n c : Nat} {t : TypeId} {vs : List Value} (hr : W.ownsRow 0 t 1 (.slice A n c) n vs) (hn : vs.length = n) (hB : ∀ g, A = some g → B ≤ g.block) : Vls B W A vs := fun i u hu => by
 have hi := (List.getElem?_eq_some_iff.1 hu).1
 obtain ⟨g, cap, e, -⟩ := za5 hr (by omega)
 injection e with e1 e2 e3
 subst e1
 exact ⟨⟨g, 0, none⟩, rfl, hB _ rfl, by rw [zcn]; exact zaz hr hu⟩
theorem cond_info : (Tryz.prog.info? 91).map (fun i => (i.zero, i.size, i.bytes)) = some (some .nilIface, 1, 16) := by kernel_rfl
abbrev zcf (v : Value) (vs : List Value) : It := irow 91 1 v vs.length vs
theorem ta1 (k : Int) (A : Option Addr) (n c : Nat) : ∀ W, (Instr.typeAssert (gtV k A n c) 91 235 true).run Tryz.prog W = .ok (.tuple #[.agg #[.int .i64 0, .int .i64 0, .string ⟨#[]⟩, .string ⟨#[]⟩, .slice none 0 0, .int .i64 0, .slice none 0 0], .bool false]) W := fun W => by kernel_rfl
theorem ta2 (k : Int) (A : Option Addr) (n c : Nat) : ∀ W, (Instr.typeAssert (gtV k A n c) 91 237 true).run Tryz.prog W = .ok (.tuple #[.agg #[.int .i64 k, .slice A n c], .bool true]) W := fun W => by kernel_rfl
theorem ta3 (k n : Int) (s t : ByteArray) (A : Option Addr) (vn vc : Nat) : ∀ W, (Instr.typeAssert (atV k n s t none 0 0 0 A vn vc) 91 235 true).run Tryz.prog W = .ok (.tuple #[.agg #[.int .i64 k, .int .i64 n, .string s, .string t, .slice none 0 0, .int .i64 0, .slice A vn vc], .bool true]) W := fun W => by kernel_rfl
theorem ta4 (k n : Int) (s t : ByteArray) (A : Option Addr) (vn vc : Nat) : ∀ W, (Instr.typeAssert (atV k n s t none 0 0 0 A vn vc) 91 237 true).run Tryz.prog W = .ok (.tuple #[.agg #[.int .i64 0, .slice none 0 0], .bool false]) W := fun W => by kernel_rfl
structure ThrI (B : Nat) (w0 : World) (f : F) (vs : List Value) (a b : F) (rs vb : List Value) : Prop where
 eq : f = a.app b
 cb : CvM B w0 b vb
 dr : vs.drop a.len = vb
 cr : CvM B w0 (rest a) rs
 le : rs.length ≤ a.len
theorem ThrI.step {B : Nat} {w0 : World} {f : F} {vs : List Value} {a : F} {x : Nd} {ks r : F} {rs : List Value} {v : Value} {us : List Value} (h : ThrI B w0 f vs a (.cons x ks r) rs (v :: us)) :
 vs[a.len]? = some v ∧ (a.app (.cons x ks .nil)).len = a.len + 1 ∧ ((x.kind = 0 ∨ x.kind = 1) → ThrI B w0 f vs (a.app (.cons x ks .nil)) r rs us) ∧ (¬ (x.kind = 0 ∨ x.kind = 1) → ThrI B w0 f vs (a.app (.cons x ks .nil)) r (rs ++ [v]) us) := by
 have hl : (a.app (.cons x ks .nil)).len = a.len + 1 := by rw [F.len_app]; rfl
 have hd : vs.drop (a.app (.cons x ks .nil)).len = us := by
  rw [hl, ← List.drop_drop, h.dr]; rfl
 have he : f = (a.app (.cons x ks .nil)).app r := by rw [F.app_assoc, h.eq]; rfl
 obtain ⟨v', us', e1, c1, c2⟩ := h.cb
 injection e1 with e1 e2
 subst e1 e2
 have hr := h.le
 refine ⟨?_, hl, fun hx => ⟨he, c1, hd, ?_, by omega⟩, fun hx => ⟨he, c1, hd, ?_, by rw [hl, List.length_append]; simp; omega⟩⟩
 ·have := congrArg (fun l => l[0]?) h.dr
  simpa using this
 ·rw [rest_app, rest, if_pos hx, rest, F.app_nil]; exact h.cr
 ·rw [rest_app, rest, if_neg hx, rest]
  exact h.cr.app ⟨v, [], rfl, rfl, c2⟩
structure FlI (B : Nat) (w0 : World) (wh : Bool) (K : Int) (l : F) (rs : List Value) (a b : F) (qs vb : List Value) : Prop where
 eq : l = a.app b
 cb : CvM B w0 b vb
 dr : rs.drop a.len = vb
 cq : CvM B w0 (flat wh K a) qs
theorem FlI.len {B : Nat} {w0 : World} {wh : Bool} {K : Int} {l : F} {rs : List Value} {a b : F} {qs vb : List Value} (h : FlI B w0 wh K l rs a b qs vb) : qs.length ≤ l.size := by
 have h1 := h.cq.len
 have h2 := F.len_size (flat wh K a)
 have h3 := flat_size wh K a
 have h4 : l.size = a.size + b.size := by rw [h.eq, F.size_app]
 omega
theorem FlI.step {B : Nat} {w0 : World} {wh : Bool} {K : Int} {l : F} {rs : List Value} {a : F} {x : Nd} {ks r : F} {qs : List Value} {v : Value} {us : List Value} (h : FlI B w0 wh K l rs a (.cons x ks r) qs (v :: us)) :
 rs[a.len]? = some v ∧ (a.app (.cons x ks .nil)).len = a.len + 1 ∧ (opens wh K x ks = false → FlI B w0 wh K l rs (a.app (.cons x ks .nil)) r (qs ++ [v]) us) ∧ (opens wh K x ks = true → ∀ ws, CvM B w0 ks ws → FlI B w0 wh K l rs (a.app (.cons x ks .nil)) r (qs ++ ws) us) := by
 have hl : (a.app (.cons x ks .nil)).len = a.len + 1 := by rw [F.len_app]; rfl
 have hd : rs.drop (a.app (.cons x ks .nil)).len = us := by
  rw [hl, ← List.drop_drop, h.dr]; rfl
 have he : l = (a.app (.cons x ks .nil)).app r := by rw [F.app_assoc, h.eq]; rfl
 obtain ⟨v', us', e1, c1, c2⟩ := h.cb
 injection e1 with e1 e2
 subst e1 e2
 refine ⟨?_, hl, fun hx => ⟨he, c1, hd, ?_⟩, fun hx ws hc => ⟨he, c1, hd, ?_⟩⟩
 ·have := congrArg (fun l => l[0]?) h.dr
  simpa using this
 ·rw [flat_app, flat, hx, if_neg (by decide), flat]
  exact h.cq.app ⟨v, [], rfl, rfl, c2⟩
 ·rw [flat_app, flat, hx, if_pos rfl, flat, F.app_nil]
  exact h.cq.app hc
theorem threshold_any (w0 : World) (k : Int) (f : F) (vs : List Value) (LA : Option Addr) (lc : Nat) (hf : f.size ≤ 100000) (hk1 : -1000000 ≤ k) (hk2 : k ≤ 1000000) (B : Nat) (hBs : B ≤ w0.heap.size) (hV : Vls B w0 LA vs) (hC : CvM B w0 f vs) (w : World) (h0 : Below w0.heap.size w0 w) :
 Calls Tryz.prog 94 #[.int .i64 k, .slice LA vs.length lc] w fun e w' => (∃ v, e = .returned v ∧ CvM B w' (thr k f) [v]) ∧ Below w.heap.size w w' := by
 have hvl : vs.length = f.len := hC.len
 have hfl : f.len ≤ f.size := F.len_size f
 obtain ⟨i0, hi0, hz0, hz1, hz2⟩ := info_parts cond_info
 have hk0 := (Hp.start w).nilrow 91 1
 have HL := hid hvl
 have HS := hid hf
 have hvb : vs.length ≤ 100000 := by omega
 clear hvl hfl hf
 go_enter Tryz.func94, Tryz.ntmps94
 go_upto_region 3 with fail
 go_loopg [0, 5, 17] f.len (fun m s0 s5 s17 wx => ∃ (a b : F) (rs vb : List Value) (OA : Option Addr) (oc : Nat), m = b.len ∧ s0 = .int .i64 (k - trues a) ∧ s5 = .slice OA rs.length oc ∧ s17 = .int .i64 (a.len : Int) ∧ Hid (ThrI B w0 f vs a b rs vb) ∧ Hp [] w [zcf (.slice OA rs.length oc) rs] wx)
 case atStart => exact ⟨.nil, f, [], vs, none, 0, rfl, by simp [trues], rfl, rfl, hid ⟨rfl, hC, rfl, rfl, Nat.le_refl _⟩, hk0⟩
 case round =>
  obtain ⟨a, b, rs, vb, OA, oc, rfl, rfl, rfl, rfl, HI, hM⟩ := hrel
  clear hk0
  cases b with
  | nil =>
    have hfa : f = a := by rw [HI.out.eq, F.app_nil]
    subst hfa
    have hcr := HI.out.cr
    have hII : ¬ (f.len : Int) < (vs.length : Int) := by have := HL.out; omega
    have hrl : rs.length = (rest f).len := hcr.len
    have HC := hid hcr
    have hrv : rs.length ≤ 100000 := by have := HI.out.le; have := HS.out; have := F.len_size f; omega
    have HZ := hid (rest_size f)
    obtain ⟨K, hK⟩ : ∃ K, k - trues f = K := ⟨_, rfl⟩
    have HV9 : Hid (thr k f = thrB K (rest f)) := hid (by unfold thr; rw [hK])
    rw [hK]
    have hKb : -2000000 ≤ K ∧ K ≤ 2000000 := by have := trues_le f; have := F.len_size f; have := HS.out; omega
    generalize rest f = l at *
    clear hcr hK HI hV hC
    by_cases h1 : K ≤ 0
    ·have HT := hid (fun W => za8 true W B)
     have HV : Hid (thr k f = tru true) := hid (by rw [HV9.out, thrB, if_pos h1])
     go_wp2_with fail
     refine (HT.out _).mono ?_
     rintro e w4 ⟨⟨v, rfl, hv⟩, hb4⟩
     have hk4 := hM.next hb4
     have HV2 := hid hv
     clear hv HT
     go_wp2_with fail
     go_ret
     exact ⟨⟨v, rfl, by rw [HV.out]; exact HV2.out⟩, hk4.below0⟩
    ·by_cases h2 : (rs.length : Int) < K
     ·have HT := hid (fun W => za8 false W B)
      have HV : Hid (thr k f = tru false) := hid (by rw [HV9.out, thrB, if_neg h1, if_pos (by omega)])
      go_wp2_with fail
      refine (HT.out _).mono ?_
      rintro e w4 ⟨⟨v, rfl, hv⟩, hb4⟩
      have hk4 := hM.next hb4
      have HV2 := hid hv
      clear hv HT
      go_wp2_with fail
      go_ret
      exact ⟨⟨v, rfl, by rw [HV.out]; exact HV2.out⟩, hk4.below0⟩
     ·by_cases h3 : rs.length = 1
      ·have HV : Hid (thr k f = l) := hid (by rw [HV9.out, thrB, if_neg h1, if_neg (by omega), if_pos (by omega)])
       obtain ⟨v, rfl⟩ := List.length_eq_one_iff.1 h3
       obtain ⟨g, cap, hov, -⟩ := za5 (hM.row 0 rfl) (by simp)
       injection hov with hov _ _
       subst hov
       have ce := zaz (hM.row 0 rfl) (j := 0) (u := v) rfl
       have hlen : (((([v] : List Value).length : Nat) : Int) == 1) = true := rfl
       go_wp2_with fail
       go_ret
       exact ⟨⟨v, rfl, by rw [HV.out]; exact CvM.up (h0.trans (hM.below0.mono h0.size)) HC.out⟩, hM.below0⟩
      ·have h3b : ((rs.length : Int) == 1) = false := by simpa using fun e : (rs.length : Int) = 1 => h3 (by omega)
       have hpos : 2 ≤ rs.length := by omega
       obtain ⟨wh, hwh⟩ : ∃ b, decide (K = (rs.length : Int)) = b := ⟨_, rfl⟩
       have hwb : (K == (rs.length : Int)) = wh := hwh
       have HV : Hid (thr k f = gate (if wh = true then ((flat wh K l).len : Int) else K) (flat wh K l)) := hid (by
        rw [HV9.out, thrB, if_neg h1, if_neg (by omega), if_neg (by omega), ← hrl, hwh]
        congr 1
        rw [← hwh]
        by_cases e : K = (rs.length : Int)
        ·rw [if_pos e, if_pos (decide_eq_true e)]
        ·rw [if_neg e, if_neg (by rw [decide_eq_false e]; decide)])
       have hk9 := (hM.nilrow 91 1)
       have HRL := hid hrl
       have hll2 : 2 ≤ l.len := by omega
       clear hrl
       go_upto_region 26 with fail
       go_loopg [11, 71] l.len (fun m s11 s71 wx => ∃ (a b : F) (qs vb : List Value) (QA : Option Addr) (qc : Nat), m = b.len ∧ s11 = .slice QA qs.length qc ∧ s71 = .int .i64 (a.len : Int) ∧ Hid (FlI B w0 wh K l rs a b qs vb) ∧ Hp [] w [zcf (.slice QA qs.length qc) qs, zcf (.slice OA rs.length oc) rs] wx)
       case atStart => exact ⟨.nil, l, [], rs, none, 0, rfl, rfl, rfl, hid ⟨rfl, HC.out, rfl, rfl⟩, hk9⟩
       case round =>
        obtain ⟨a, b, qs, vb, QA, qc, rfl, rfl, rfl, HI, hM⟩ := hrel
        clear hk9
        cases b with
        | nil =>
          have hla : l = a := by rw [HI.out.eq, F.app_nil]
          subst hla
          have hII : ¬ (l.len : Int) < (rs.length : Int) := by have := HRL.out; omega
          have hcq := HI.out.cq
          have hql := hcq.len
          have hqp := flat_pos wh K HC.out (by omega)
          have HQ := hid hcq
          have hb := hM.below0
          have HB := hid (h0.trans (hb.mono h0.size))
          have HVL := hid (vls_row (B := B) (hM.row 0 rfl) rfl (fun ag e => Nat.le_trans hBs (Nat.le_trans h0.size (hM.ge (by rw [show QA = some ag from e]; simp [ow, irow, Value.ownBlock])))))
          have HQL := hid (And.intro hql hqp)
          clear hcq HI HC hql hqp
          cases wh
          all_goals
           go_wp2_with fail
           go_ret
           refine ⟨⟨_, rfl, ?_⟩, hb⟩
           rw [HV.out]
           refine ⟨_, [], rfl, rfl, ?_⟩
           rw [if_pos rfl]
           first
            | exact ⟨rfl, QA, qc, qs, rfl, by have := HQL.out; omega, HVL.out, HQ.out.up HB.out⟩
            | exact ⟨rfl, QA, qc, qs, (by show gtV (qs.length : Int) QA qs.length qc = gtV (if True then ((flat true K l).len : Int) else K) QA qs.length qc; rw [if_pos trivial, ← HQL.out.1]), by have := HQL.out; omega, HVL.out, HQ.out.up HB.out⟩
        | cons x ks r =>
          have hst := fun (v : Value) (us : List Value) (e : vb = v :: us) => FlI.step (by subst e; exact HI.out : FlI B w0 wh K l rs a (.cons x ks r) qs (v :: us))
          have hql := HI.out.len
          have hsz : ks.size ≤ l.size := by
           have : l.size = a.size + (ks.size + r.size + 1) := by rw [HI.out.eq, F.size_app]; rfl
           omega
          obtain ⟨v, us, hvb2, hc1, hc2⟩ := HI.out.cb
          obtain ⟨s1, s2, s3, s4⟩ := hst v us hvb2
          clear hst
          have hil := (List.getElem?_eq_some_iff.1 s1).1
          have hii : (a.len : Int) < (rs.length : Int) := by omega
          have hge : (0 : Int) ≤ (a.len : Int) := by omega
          obtain ⟨go, cap, hov, -⟩ := za5 (hM.row 1 rfl) (by omega)
          have hOA : OA = some ⟨go, 0, none⟩ := by injection hov
          subst hOA
          clear hov
          have ca := zaz (hM.row 1 rfl) s1
          have hqn : qs.length ≤ 100000 := by have := HS.out; have := HZ.out; omega
          have hkn : ks.size ≤ 100000 := by have := HS.out; have := HZ.out; omega
          have HLN := hid s2
          have H3 := hid s3
          have H4 := hid s4
          clear s1 s2 s3 s4 hvb2 HI hc1 hql hsz
          by_cases h5 : x.kind = 5
          ·rw [if_pos h5] at hc2
           obtain ⟨-, A2, c2, ws, rfl, hwp, hwv, hwc⟩ := hc2
           have HWL := hid hwc.len
           have hta2 := ta2 x.num A2 ws.length c2
           have HCW := hid hwc
           have HOP : Hid (opens wh K x ks = (wh && decide (x.num = (ws.length : Int)) || !wh && decide (K = 1) && decide (x.num = 1))) := hid (by unfold opens; rw [decide_eq_true h5, HWL.out, Bool.true_and])
           have hwn : ws.length ≤ 100000 := by have := F.len_size ks; have := HWL.out; omega
           have hM1 := hM.new 237 [.int .i64 x.num, .slice A2 ws.length c2]
           go_upto_region 31 with fail
           generalize wr.alloc (.cells #[.int .i64 x.num, .slice A2 ws.length c2] 237) = W2 at *
           generalize wr.heap.size = g2 at *
           clear hM ca hwc h5
           have x0 := (hM1.blk 0 rfl).cell 0
           have x1 := (hM1.blk 0 rfl).cell 1
           simp only [List.getElem?_cons_zero, List.getElem?_cons_succ] at x0 x1
           have hb1 : (x.num == (ws.length : Int)) = decide (x.num = (ws.length : Int)) := rfl
           have hb2 : (K == 1) = decide (K = 1) := rfl
           have hb3 : (x.num == 1) = decide (x.num = 1) := rfl
           generalize decide (x.num = (ws.length : Int)) = B1 at *
           generalize decide (K = 1) = B2 at *
           generalize decide (x.num = 1) = B3 at *
           obtain ⟨ad2, hA2⟩ : ∃ ad, A2 = some ad := by
            obtain ⟨ad, e, -, -⟩ := hwv 0 _ (List.getElem?_eq_getElem hwp)
            exact ⟨ad, e⟩
           subst hA2
           have HNW : Hid (∀ j u, ws[j]? = some u → W2.cell? (ad2.add j) = some u) := hid fun j u hu => by
            obtain ⟨ad, e, -, h9⟩ := hwv j u hu
            injection e with e
            subst e
            exact zaa (zaa h9 h0) hM1.below0
           cases hop : opens wh K x ks with
           | true =>
             have HX := hid (H4.out hop ws HCW.out)
             rw [hop] at HOP
             clear H3 H4 hop
             cases wh <;> cases B1 <;> cases B2 <;> cases B3
             all_goals
              first
              | (have h9 := HOP.out; cases h9; done)
              | skip
             all_goals
              clear HOP
              go_wp2_with (at_builtin; refine zac rfl _ _ 181 rfl 0 91 i0 _ 1 16 Tryz.underlying181 hi0 hz0 hz1 hz2 rfl (by decide) _ qs.length qs rfl (hM1.row 1 rfl) ad2 ws.length c2 ws rfl (by omega) HNW.out HCW.out.one hwp (by unfold maxLen; omega) (by omega) (Nat.zero_le _) ?_; intro v' w3 hown hgrow hat; obtain ⟨QA2, qc2, rfl⟩ := zag hown; have hM2 := (hM1.grown 1 rfl hown hgrow hat).tail; clear hown hgrow hat hM1)
              go_roundg r.len
              case measure => show r.len < r.len + 1; omega
              case rel => exact ⟨a.app (.cons x ks .nil), r, qs ++ ws, us, QA2, qc2, rfl, by rw [List.length_append], by rw [HLN.out]; first | rfl | simp, HX, by unfold zcf; rw [List.length_append]; exact hM2⟩
           | false =>
             have HX := hid (H3.out hop)
             rw [hop] at HOP
             clear H3 H4 hop
             cases wh <;> cases B1 <;> cases B2 <;> cases B3
             all_goals
              first
              | (have h9 := HOP.out; cases h9; done)
              | skip
             all_goals
              clear HOP
              go_wp2_with (at_builtin; refine zac rfl _ _ 181 rfl 0 91 i0 _ 1 16 Tryz.underlying181 hi0 hz0 hz1 hz2 rfl (by decide) _ qs.length qs rfl ((hM1.alloc _).row 1 rfl) ⟨W2.heap.size, 0, none⟩ 1 1 [gtV x.num (some ad2) ws.length c2] rfl rfl (new1p _ _ _) (by intro u hu; simp at hu; rw [hu]; rfl) (by decide) (by unfold maxLen; omega) (by omega) (Nat.zero_le _) ?_; intro v' w3 hown hgrow hat; obtain ⟨QA2, qc2, rfl⟩ := zag hown; have hM2 := ((hM1.alloc (.cells #[gtV x.num (some ad2) ws.length c2] 91)).grown 1 rfl hown hgrow hat).tail; clear hown hgrow hat hM1)
              go_roundg r.len
              case measure => show r.len < r.len + 1; omega
              case rel => exact ⟨a.app (.cons x ks .nil), r, qs ++ [_], us, QA2, qc2, rfl, by rw [List.length_append]; rfl, by rw [HLN.out]; first | rfl | simp, HX, by unfold zcf; rw [List.length_append]; exact hM2⟩
          ·rw [if_neg h5] at hc2
           obtain ⟨-, A2, c2, rfl, -⟩ := hc2
           have hta4 := ta4 (x.kind : Int) x.num (bs x.name) (bs x.attr) A2 (vals ks).length c2
           have HX := hid (H3.out (by unfold opens; rw [decide_eq_false h5]; rfl))
           clear H3 H4 h5
           go_wp2_with (at_builtin; refine zac rfl _ _ 181 rfl 0 91 i0 _ 1 16 Tryz.underlying181 hi0 hz0 hz1 hz2 rfl (by decide) _ qs.length qs rfl ((hM.alloc _).row 0 rfl) ⟨wr.heap.size, 0, none⟩ 1 1 [atV (x.kind : Int) x.num (bs x.name) (bs x.attr) none 0 0 0 A2 (vals ks).length c2] rfl rfl (new1p _ _ _) (by intro u hu; simp at hu; rw [hu]; rfl) (by decide) (by unfold maxLen; omega) (by omega) (Nat.zero_le _) ?_; intro v' w3 hown hgrow hat; obtain ⟨QA2, qc2, rfl⟩ := zag hown; have hM2 := ((hM.alloc (.cells #[atV (x.kind : Int) x.num (bs x.name) (bs x.attr) none 0 0 0 A2 (vals ks).length c2] 91)).grown 0 rfl hown hgrow hat); clear hown hgrow hat hM)
           go_roundg r.len
           case measure => show r.len < r.len + 1; omega
           case rel => exact ⟨a.app (.cons x ks .nil), r, qs ++ [_], us, QA2, qc2, rfl, by rw [List.length_append]; rfl, by rw [HLN.out]; first | rfl | simp, HX, by unfold zcf; rw [List.length_append]; exact hM2⟩
  | cons x ks r =>
    have hst := fun (v : Value) (us : List Value) (e : vb = v :: us) => ThrI.step (by subst e; exact HI.out : ThrI B w0 f vs a (.cons x ks r) rs (v :: us))
    obtain ⟨v, us, hvb2, hc1, hc2⟩ := HI.out.cb
    obtain ⟨s1, s2, s3, s4⟩ := hst v us hvb2
    clear hst
    have hil := (List.getElem?_eq_some_iff.1 s1).1
    have hii : (a.len : Int) < (vs.length : Int) := by omega
    have hge : (0 : Int) ≤ (a.len : Int) := by omega
    obtain ⟨ad, hLA, -, ca⟩ := hV a.len v s1
    subst hLA
    replace ca := zaa (zaa ca h0) hM.below0
    have hrn : rs.length ≤ 100000 := by have := HI.out.le; omega
    have htr := trues_le a
    have hal : (a.len : Int) ≤ 100000 := by omega
    have hw9 : IntKind.i64.wrap (k - trues a - 1) = k - trues a - 1 := IntWalk.i64_in _ (by omega)
    have HLN := hid s2
    have H3 := hid s3
    have H4 := hid s4
    clear s1 s2 s3 s4 hvb2 HI hc1 hC htr
    by_cases h5 : x.kind = 5
    ·rw [if_pos h5] at hc2
     obtain ⟨-, A2, c2, ws, rfl, -⟩ := hc2
     have HX := hid (H4.out (by rw [h5]; decide))
     have HTR : Hid (trues (a.app (.cons x ks .nil)) = trues a) := hid (by rw [trues_app, trues, if_neg (by rw [h5]; decide), trues]; omega)
     clear H3 H4 h5
     have hta1 := ta1 x.num A2 ws.length c2
     have hta2 := ta2 x.num A2 ws.length c2
     go_upto_region 15 with fail
     have hM1 := hM.new 237 [.int .i64 x.num, .slice A2 ws.length c2]
     generalize wr.alloc (.cells #[.int .i64 x.num, .slice A2 ws.length c2] 237) = W2 at *
     generalize wr.heap.size = g2 at *
     clear hM
     have x0 := (hM1.blk 0 rfl).cell 0
     have x1 := (hM1.blk 0 rfl).cell 1
     simp only [List.getElem?_cons_zero, List.getElem?_cons_succ] at x0 x1
     go_wp2_with (at_builtin; refine zac rfl _ _ 181 rfl 0 91 i0 _ 1 16 Tryz.underlying181 hi0 hz0 hz1 hz2 rfl (by decide) _ rs.length rs rfl ((hM1.alloc _).row 1 rfl) ⟨W2.heap.size, 0, none⟩ 1 1 [gtV x.num A2 ws.length c2] rfl rfl (new1p _ _ _) (by intro u hu; simp at hu; rw [hu]; rfl) (by decide) (by unfold maxLen; omega) (by omega) (Nat.zero_le _) ?_; intro v' w3 hown hgrow hat; obtain ⟨OA2, oc2, rfl⟩ := zag hown; have hM2 := ((hM1.alloc (.cells #[gtV x.num A2 ws.length c2] 91)).grown 1 rfl hown hgrow hat).tail; clear hown hgrow hat hM1)
     go_roundg r.len
     case measure => show r.len < r.len + 1; omega
     case rel => exact ⟨a.app (.cons x ks .nil), r, rs ++ [gtV x.num A2 ws.length c2], us, OA2, oc2, rfl, by rw [HTR.out], by rw [List.length_append]; rfl, by rw [HLN.out]; first | rfl | simp, HX, by unfold zcf; rw [List.length_append]; exact hM2⟩
    ·rw [if_neg h5] at hc2
     obtain ⟨-, A2, c2, rfl, -⟩ := hc2
     have hta3 := ta3 (x.kind : Int) x.num (bs x.name) (bs x.attr) A2 (vals ks).length c2
     have hM1 := hM.new 235 [.int .i64 (x.kind : Int), .int .i64 x.num, .string (bs x.name), .string (bs x.attr), .slice none 0 0, .int .i64 0, .slice A2 (vals ks).length c2]
     by_cases h0k : x.kind = 0
     ·have hz : ((x.kind : Int) == 0) = true := by rw [h0k]; rfl
      have HX := hid (H3.out (.inl h0k))
      have HTR : Hid (trues (a.app (.cons x ks .nil)) = trues a + 1) := hid (by rw [trues_app, trues, if_pos h0k, trues]; omega)
      clear H3 H4 h5 h0k
      go_wp2_with fail
      go_roundg r.len
      case measure => show r.len < r.len + 1; omega
      case rel => exact ⟨a.app (.cons x ks .nil), r, rs, us, OA, oc, rfl, by rw [HTR.out]; exact congrArg _ (by omega), rfl, by rw [HLN.out]; first | rfl | simp, HX, hM1.tail⟩
     ·have hz : ((x.kind : Int) == 0) = false := by simpa using h0k
      by_cases h1k : x.kind = 1
      ·have hz1 : ((x.kind : Int) == 1) = true := by rw [h1k]; rfl
       have HX := hid (H3.out (.inr h1k))
       have HTR : Hid (trues (a.app (.cons x ks .nil)) = trues a) := hid (by rw [trues_app, trues, if_neg h0k, trues]; omega)
       clear H3 H4 h5 h0k h1k
       go_wp2_with fail
       go_roundg r.len
       case measure => show r.len < r.len + 1; omega
       case rel => exact ⟨a.app (.cons x ks .nil), r, rs, us, OA, oc, rfl, by rw [HTR.out], rfl, by rw [HLN.out]; first | rfl | simp, HX, hM1.tail⟩
      ·have hz9 : ((x.kind : Int) == 1) = false := by simpa using fun e : (x.kind : Int) = 1 => h1k (by omega)
       have HX := hid (H4.out (fun e => e.elim h0k h1k))
       have HTR : Hid (trues (a.app (.cons x ks .nil)) = trues a) := hid (by rw [trues_app, trues, if_neg h0k, trues]; omega)
       clear H3 H4 h5 h0k h1k
       go_upto_region 8 with fail
       generalize wr.alloc (.cells #[.int .i64 (x.kind : Int), .int .i64 x.num, .string (bs x.name), .string (bs x.attr), .slice none 0 0, .int .i64 0, .slice A2 (vals ks).length c2] 235) = W2 at *
       generalize wr.heap.size = g2 at *
       clear hM
       obtain ⟨x0, x1, x2, x3, x4, x5, x6⟩ := (hM1.blk 0 rfl).get7
       go_wp2_with (at_builtin; refine zac rfl _ _ 181 rfl 0 91 i0 _ 1 16 Tryz.underlying181 hi0 hz0 hz1 hz2 rfl (by decide) _ rs.length rs rfl ((hM1.alloc _).row 1 rfl) ⟨W2.heap.size, 0, none⟩ 1 1 [atV (x.kind : Int) x.num (bs x.name) (bs x.attr) none 0 0 0 A2 (vals ks).length c2] rfl rfl (new1p _ _ _) (by intro u hu; simp at hu; rw [hu]; rfl) (by decide) (by unfold maxLen; omega) (by omega) (Nat.zero_le _) ?_; intro v' w3 hown hgrow hat; obtain ⟨OA2, oc2, rfl⟩ := zag hown; have hM2 := ((hM1.alloc (.cells #[atV (x.kind : Int) x.num (bs x.name) (bs x.attr) none 0 0 0 A2 (vals ks).length c2] 91)).grown 1 rfl hown hgrow hat).tail; clear hown hgrow hat hM1)
       go_roundg r.len
       case measure => show r.len < r.len + 1; omega
       case rel => exact ⟨a.app (.cons x ks .nil), r, rs ++ [atV (x.kind : Int) x.num (bs x.name) (bs x.attr) none 0 0 0 A2 (vals ks).length c2], us, OA2, oc2, rfl, by rw [HTR.out], by rw [List.length_append]; rfl, by rw [HLN.out]; first | rfl | simp, HX, by unfold zcf; rw [List.length_append]; exact hM2⟩
end Go.Proofs.YtekkapgknohadaaGreatDoor.Nf
