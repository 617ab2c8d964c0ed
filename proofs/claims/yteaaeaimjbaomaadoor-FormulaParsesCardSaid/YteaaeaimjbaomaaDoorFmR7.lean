/-
  (*dominoref20.Reader).gate.
-/
import Derived.Test.YteaaeaimjbaomaaDoorFmRq
import Derived.Deep.RegionHeldLaw
import Derived.Deep.AppendLies
import Derived.Deep.RegionHeld3
namespace Go.Proofs.YteaaeaimjbaomaaDoor
open Go.RowKit
set_option linter.unusedVariables false

/-- dominoref20 reads one digit more -/
def numB (s : ByteArray) (p a : Nat) (l : List UInt8) : Bool := decide (p < s.size) && isD (((tl s).drop p).headD 0) && decide (p - a < 9) && !(decide (0 < p - a) && isZ l)
theorem isZ_at {s : ByteArray} {a : Nat} {l : List UInt8} (h : (tl s).drop a = l) (ha : a < s.size) : isZ l = decide (s[a].toNat = 48) := by
  rw [← h, at_tl s a ha]
  unfold isZ
  rw [List.headD_cons, decide_eq_decide]
  constructor
  · intro h; rw [h]; rfl
  · intro h; exact UInt8.toNat_inj.1 h
theorem numV_bd2 (l : List UInt8) (k : Nat) (hk : k ≤ numLen l) : 0 ≤ numV (l.take k) ∧ numV (l.take k) ≤ 1000000000 := by
  have hd : ∀ b ∈ l.take k, isD b = true := fun b hb => numLen_digits l b (by
    have e : l.take k = (l.take (numLen l)).take k := by rw [List.take_take, Nat.min_eq_left hk]
    rw [e] at hb
    exact List.mem_of_mem_take hb)
  obtain ⟨h1, h2⟩ := foldl_bd (l.take k) 0 (Int.le_refl _) hd
  refine ⟨h1, ?_⟩
  have h3 : (10 : Int) ^ (l.take k).length ≤ 10 ^ 9 := by
    have h9 := numLen_nine l
    have hl : (l.take k).length ≤ 9 := by rw [List.length_take]; omega
    generalize (l.take k).length = k at *
    obtain rfl | rfl | rfl | rfl | rfl | rfl | rfl | rfl | rfl | rfl : k = 0 ∨ k = 1 ∨ k = 2 ∨ k = 3 ∨ k = 4 ∨ k = 5 ∨ k = 6 ∨ k = 7 ∨ k = 8 ∨ k = 9 := by omega
    all_goals decide
  have h4 : numV (l.take k) + 1 ≤ (0 + 1) * 10 ^ (l.take k).length := h2
  have h5 : (10 : Int) ^ 9 = 1000000000 := by decide
  omega
theorem numB_step {s : ByteArray} {p a : Nat} {l : List UInt8} (ha : a ≤ p) : numL (isZ l) (p - a) ((tl s).drop p) = if numB s p a l then numL (isZ l) (p + 1 - a) ((tl s).drop (p + 1)) else p - a := by
  unfold numB
  by_cases hp : p < s.size
  · rw [at_tl s p hp, numL, List.headD_cons, decide_eq_true hp, Bool.true_and, show p - a + 1 = p + 1 - a by omega]
  · rw [decide_eq_false hp, List.drop_eq_nil_of_le (by rw [length_tl]; omega)]
    rfl
/-- the loop over a gate's kids -/
def RLoop (g : Nat) (s : ByteArray) (o : List Nat) (W : World) (f a : Nat) (P : List GV) (nv : Int) (R : GR × List Int) (gh : Nat) (more : Value) (wx : World) : Prop :=
  ∃ bm q rr g3 c3 vk ks Pn Q H m, more = .bool bm ∧ q ≤ s.size ∧ rr = (tl s).drop q ∧ gh = s.size + 1 - q ∧ Q = P ++ (⟨nv, ks, 0⟩, vk) :: Pn ∧ Q.length + (s.size - q) ≤ P.length + (s.size - a) ∧ ks.length ≤ q ∧
    Hp o W (r4 g s q (.slice (some ⟨g3, 0, none⟩) Q.length c3) false Q) wx ∧ H.length = Q.length ∧
    (bm = true → rr ≠ [] ∧ s.size - q < m ∧ s.size - q < f ∧ gts Q = H.set P.length ⟨nv, ks, 0⟩ ∧ Hid (kidsR (gateP f) m rr H ks = R)) ∧
    (bm = false → (rr.headD 0 = 41 ∧ R = ((true, rr.drop 1, H), ks) ∧ gts Q = H.set P.length ⟨nv, ks, 0⟩) ∨ (rr.headD 0 ≠ 41 ∧ R.1.1 = false ∧ R.1.2.1 = rr))
theorem r4_S {o : List Nat} {w W : World} {g : Nat} {s : ByteArray} {p : Nat} {bad : Bool} {g3 c3 : Nat} {P : List GV} {i : Nat} {x : GV} (h : Hp o w (r4 g s p (.slice (some ⟨g3, 0, none⟩) P.length c3) bad P) W) (hx : P[i]? = some x) :
    W.cell? ⟨g, 1, none⟩ = some (.slice (some ⟨g3, 0, none⟩) P.length c3) ∧ W.cell? ⟨g3, i * 3 + 1, none⟩ = some x.2 ∧ W.frozen? ⟨g3, i * 3 + 1, none⟩ = false := by
  obtain ⟨-, a, -, b⟩ := r4_row h rfl hx
  exact ⟨(r4_cells h).2.1, a, b _⟩
theorem lies_alt {W : World} {v : Value} {g n c : Nat} (h : v.ownBlock = some g ∨ g = W.heap.size) : (Value.slice (some ⟨g, 0, none⟩) n c).ownBlock = v.ownBlock ∨ ∀ b, (Value.slice (some ⟨g, 0, none⟩) n c).ownBlock = some b → W.heap.size ≤ b := by
  rcases h with h | h
  · exact .inl (by rw [h]; rfl)
  · exact .inr fun b hb => by simp [Value.ownBlock] at hb; omega
set_option maxRecDepth 20000 in
set_option maxHeartbeats 64000000 in
theorem rgate_any (g : Nat) (s : ByteArray) (hs : s.size ≤ 2000) (f : Nat) : ∀ (a : Nat) (vg : Value) (P : List GV) (W : World), a ≤ s.size → s.size - a < f → P.length + (s.size - a) ≤ 2000 → Sep W (r4 g s a vg false P) →
    Calls Tryd.prog 47 #[ptr g] W fun e w' => RPost (ow (r4 g s a vg false P)) W g s a P (gateP f ((tl s).drop a) (gts P)) e w' := by
  induction f with
  | zero => intro a vg P W hp hf; omega
  | succ f ih =>
    intro a vg P W hp hf hcnt hsep
    have hS := Hp.self hsep
    clear hsep
    generalize hoo : ow (r4 g s a vg false P) = o at *
    clear hoo
    generalize hl : (tl s).drop a = l at *
    have hll := size_drop hp hl.symm
    have HL := Lib.hid hl
    have hih := Lib.hid ih
    clear ih hl
    obtain ⟨A, cap, rfl⟩ := row_forms (hS.row 1 rfl)
    have hnl := numLen_le l
    have hn9 := numLen_nine l
    have hq : a + numLen l ≤ s.size := by omega
    go_enter Tryd.func47, Tryd.ntmps47
    obtain ⟨c0, c1, c2, c3⟩ := r4_cells hS
    go_upto_region 0 with fail
    go_cut [2, 3] (fun s2 s3 wx => s2 = .int .i64 0 ∧ s3 = .int .i64 (a : Int) ∧ Hp o W (r4 g s a (.slice A P.length cap) false P) wx)
    case first =>
      go_quiet (fail)
      go_wp2_with fail
      go_meet
      exact ⟨rfl, rfl, hS.drewN nq⟩
    case rest =>
      obtain ⟨rfl, rfl, hS0⟩ := hcut
      clear hS c0 c1 c2 c3
      go_upto_block 0 with fail
      go_cut [2] (fun s2 wx => s2 = .int .i64 (numV (l.take (numLen l))) ∧ Hp o W (r4 g s (a + numLen l) (.slice A P.length cap) false P) wx)
      case first => as_aux_lemma =>
        go_wp2_with fail
        go_loopg [2] 10 (fun m s2 wx => ∃ p : Nat, a ≤ p ∧ p ≤ a + 9 ∧ p ≤ a + numLen l ∧ m = 10 - (p - a) ∧ s2 = .int .i64 (numV (l.take (p - a))) ∧ Hp o W (r4 g s p (.slice A P.length cap) false P) wx ∧ Hid (numL (isZ l) (p - a) ((tl s).drop p) = numLen l))
        case atStart => exact ⟨a, Nat.le_refl _, by omega, by omega, by omega, (by rw [Nat.sub_self]; rfl), hS0, Lib.hid (by rw [HL.out, Nat.sub_self]; rfl)⟩
        case round =>
          obtain ⟨p, hap, hp9, hpn, rfl, rfl, hS, HN⟩ := hrel
          clear hS0
          obtain ⟨c0, c1, c2, c3⟩ := r4_cells hS
          go_upto_region 1 with fail
          go_cut [71] (fun s71 wx => s71 = .bool (numB s p a l) ∧ Hp o W (r4 g s p (.slice A P.length cap) false P) wx)
          case first => as_aux_lemma =>
            have hp0 : (0 : Int) ≤ (p : Int) := by omega
            have ha0 : (0 : Int) ≤ (a : Int) := by omega
            by_cases hps : p < s.size
            · have hz : decide ((p : Int) < (s.size : Int)) = true := by rw [decide_eq_true_iff]; omega
              have hpi : (p : Int) < (s.size : Int) := by omega
              have hai : (a : Int) < (s.size : Int) := by omega
              have hd := at_tl s p hps
              by_cases hlo : 48 ≤ s[p].toNat
              · have hz1 : decide ((48 : Int) ≤ (s[p].toNat : Int)) = true := by rw [decide_eq_true_iff]; omega
                by_cases hhi : s[p].toNat ≤ 57
                · have hz2 : decide ((s[p].toNat : Int) ≤ (57 : Int)) = true := by rw [decide_eq_true_iff]; omega
                  have has : a < s.size := by omega
                  have HZ : isZ l = decide (s[a].toNat = 48) := isZ_at HL.out has
                  have hD : isD s[p] = true := by unfold isD; simp [hlo, hhi]
                  by_cases h9 : p - a < 9
                  · have t3 : decide ((p : Int) - (a : Int) < 9) = true := by rw [decide_eq_true_iff]; omega
                    by_cases hpa : a < p
                    · have t4 : decide ((a : Int) < (p : Int)) = true := by rw [decide_eq_true_iff]; omega
                      by_cases hzf : s[a].toNat = 48
                      · have t5 : ((s[a].toNat : Int) == 48) = true := by rw [beq_iff_eq]; omega
                        have HB : Hid (numB s p a l = false) := by refine Lib.hid ?_; rw [numB, hd, List.headD_cons, hD, HZ]; simp [hzf]; omega
                        clear hd hlo hhi HZ hD hzf HN
                        go_quiet (fail)
                        go_wp2_with fail
                        go_meet
                        exact ⟨by rw [HB.out], hS.drewN nq⟩
                      · have t5 : ((s[a].toNat : Int) == 48) = false := by rw [beq_eq_false_iff_ne]; omega
                        have HB : Hid (numB s p a l = true) := by refine Lib.hid ?_; rw [numB, hd, List.headD_cons, hD, HZ]; simp [hzf, hps, h9]
                        clear hd hlo hhi HZ hD hzf HN
                        go_quiet (fail)
                        go_wp2_with fail
                        go_meet
                        exact ⟨by rw [HB.out], hS.drewN nq⟩
                    · have t4 : decide ((a : Int) < (p : Int)) = false := by rw [decide_eq_false_iff_not]; omega
                      have HB : Hid (numB s p a l = true) := by refine Lib.hid ?_; rw [numB, hd, List.headD_cons, hD, show p - a = 0 by omega]; simp [hps]
                      clear hd hlo hhi HZ hD HN
                      go_quiet (fail)
                      go_wp2_with fail
                      go_meet
                      exact ⟨by rw [HB.out], hS.drewN nq⟩
                  · have t3 : decide ((p : Int) - (a : Int) < 9) = false := by rw [decide_eq_false_iff_not]; omega
                    have HB : Hid (numB s p a l = false) := by refine Lib.hid ?_; rw [numB, hd, List.headD_cons, hD]; simp [h9]
                    clear hd hlo hhi HZ hD HN
                    go_quiet (fail)
                    go_wp2_with fail
                    go_meet
                    exact ⟨by rw [HB.out], hS.drewN nq⟩
                · have hz2 : decide ((s[p].toNat : Int) ≤ (57 : Int)) = false := by rw [decide_eq_false_iff_not]; omega
                  have HB : Hid (numB s p a l = false) := by refine Lib.hid ?_; rw [numB, hd, List.headD_cons, isD]; simp [hhi]
                  clear hd hlo hhi HN
                  go_quiet (fail)
                  go_wp2_with fail
                  go_meet
                  exact ⟨by rw [HB.out], hS.drewN nq⟩
              · have hz1 : decide ((48 : Int) ≤ (s[p].toNat : Int)) = false := by rw [decide_eq_false_iff_not]; omega
                have HB : Hid (numB s p a l = false) := by refine Lib.hid ?_; rw [numB, hd, List.headD_cons, isD]; simp [hlo]
                clear hd hlo HN
                go_quiet (fail)
                go_wp2_with fail
                go_meet
                exact ⟨by rw [HB.out], hS.drewN nq⟩
            · have hz : decide ((p : Int) < (s.size : Int)) = false := by rw [decide_eq_false_iff_not]; omega
              have HB : Hid (numB s p a l = false) := by refine Lib.hid ?_; rw [numB]; simp [hps]
              clear HN
              go_quiet (fail)
              go_wp2_with fail
              go_meet
              exact ⟨by rw [HB.out], hS.drewN nq⟩
          case rest => as_aux_lemma =>
            obtain ⟨rfl, hS1⟩ := hcut
            clear hS c0 c1 c2 c3
            rw [numB_step hap] at HN
            obtain ⟨c0, c1, c2, c3⟩ := r4_cells hS1
            have hf := r4_free hS1 2
            by_cases hb : numB s p a l = true
            · rw [hb]
              rw [if_pos hb] at HN
              unfold numB at hb
              simp only [Bool.and_eq_true, decide_eq_true_eq] at hb
              obtain ⟨⟨⟨hps, hdig⟩, h9⟩, -⟩ := hb
              rw [at_tl s p hps, List.headD_cons] at hdig
              unfold isD at hdig
              simp only [Bool.and_eq_true, decide_eq_true_eq] at hdig
              have HTK : Hid (numV (l.take (p + 1 - a)) = 10 * numV (l.take (p - a)) + ((s[p].toNat : Int) - 48)) := by
                refine Lib.hid ?_
                rw [← numV_append]
                congr 1
                rw [show p + 1 - a = (p - a) + 1 by omega, List.take_add_one, ← HL.out, List.getElem?_drop, show a + (p - a) = p by omega, List.getElem?_eq_getElem (by rw [length_tl]; omega), tl_getElem s p hps]
                rfl
              have hpn2 : p + 1 - a ≤ numLen l := by
                have := (numL_le (isZ l) ((tl s).drop (p + 1)) (p + 1 - a)).1
                have h8 := HN.out
                omega
              have hnb : 0 ≤ numV (l.take (p - a)) ∧ numV (l.take (p - a)) ≤ 1000000000 := numV_bd2 l (p - a) (by omega)
              have hpi : (p : Int) < (s.size : Int) := by omega
              have hp0 : (0 : Int) ≤ (p : Int) := by omega
              obtain ⟨x, hx⟩ : ∃ x : Int, (s[p].toNat : Int) = x := ⟨_, rfl⟩
              have hw : IntKind.u8.wrap (x - 48) = x - 48 := by
                rw [← hx]
                exact IntWalk.u8_in _ ⟨by omega, by omega⟩
              generalize numV (l.take (p - a)) = nv at *
              go_wp2_with fail
              go_quiet (fail)
              have hS2 := hS1.drewN nq
              clear c0 c1 c2 c3 hf hS1 hw
              generalize wc.drewN nq = w2 at *
              obtain ⟨-, -, c2, -⟩ := r4_cells hS2
              have hf := r4_free hS2 2
              go_wp2_with fail
              go_roundg (10 - (p + 1 - a))
              case measure => omega
              case rel => exact ⟨p + 1, by omega, by omega, by omega, rfl, by rw [HTK.out, hx], r4_at hS2 (p + 1) _ (by omega), HN⟩
            · rw [if_neg hb] at HN
              rw [show numB s p a l = false by simpa using hb]
              clear hb c0 c1 c2 c3 hf
              go_wp2_with fail
              go_meet
              rw [← HN.out, show a + (p - a) = p by omega]
              exact ⟨rfl, hS1⟩
      case rest =>
        obtain ⟨rfl, hS1⟩ := hcut
        clear hS0
        have hnv := numV_bd l
        obtain ⟨c0, c1, c2, c3⟩ := r4_cells hS1
        have hf := r4_free hS1 3
        have hGP : gateP (f + 1) l (gts P) = (if nOk l = false then (false, l.drop (numLen l), gts P) else if (l.drop (numLen l)).headD 0 ≠ 40 then (true, l.drop (numLen l), gts P ++ [⟨0, [], numV (l.take (numLen l))⟩])
          else if (kidsR (gateP f) f (l.drop (numLen l)) (gts P ++ [⟨0, [], 0⟩]) []).1.1 = false then (kidsR (gateP f) f (l.drop (numLen l)) (gts P ++ [⟨0, [], 0⟩]) []).1
          else (true, (kidsR (gateP f) f (l.drop (numLen l)) (gts P ++ [⟨0, [], 0⟩]) []).1.2.1, (kidsR (gateP f) f (l.drop (numLen l)) (gts P ++ [⟨0, [], 0⟩]) []).1.2.2.set (gts P).length ⟨numV (l.take (numLen l)), (kidsR (gateP f) f (l.drop (numLen l)) (gts P ++ [⟨0, [], 0⟩]) []).2, 0⟩)) := by rw [gateP]
        have hgl : (gts P).length = P.length := by simp
        have hdr : l.drop (numLen l) = (tl s).drop (a + numLen l) := by rw [← HL.out, List.drop_drop]
        have hrl := size_drop hq hdr
        by_cases hz : numLen l = 0
        · have HB : Hid (gateP (f + 1) l (gts P) = (false, l.drop (numLen l), gts P)) := by
            refine Lib.hid ?_
            rw [hGP, if_pos (by rw [nOk, hz]; rfl)]
          have t1 : (((a + numLen l : Nat) : Int) == (a : Int)) = true := by rw [hz, beq_iff_eq]; rfl
          clear hGP hz
          go_wp2_with fail
          go_end0
          refine ⟨rfl, a + numLen l, _, _, true, hq, ?_, r4_bad hS1, fun _ => ?_, fun h9 => (by cases h9)⟩
          · rw [HB.out]; exact hdr
          · rw [HB.out]
        · have t1 : (((a + numLen l : Nat) : Int) == (a : Int)) = false := by rw [beq_eq_false_iff_ne]; omega
          have HOK : Hid (nOk l = false ↔ isD ((l.drop (numLen l)).headD 0) = true) := by
            refine Lib.hid ?_
            rw [nOk, decide_eq_true (by omega), Bool.true_and]
            simp
          generalize numV (l.take (numLen l)) = nv at *
          generalize hrr : l.drop (numLen l) = rr at *
          generalize hqq : a + numLen l = q at *
          have HG := Lib.hid hGP
          have HQ : Hid (a < q) := Lib.hid (by omega)
          obtain ⟨i0, hi0, hz0, hz1, hz2⟩ := info_parts gate_info
          have hrow := hS1.row 1 rfl
          clear hGP hqq hrr hf
          go_wp2_with (first | (at_builtin; refine wpList_append_own2 rfl _ _ 22 rfl 0 40 i0 _ 3 40 Tryd.underlying22 hi0 hz0 hz1 hz2 rfl (by decide) _ _ _ rfl (hrow.alloc _) ⟨wc.heap.size, 0, none⟩ 1 1 [.int .i64 0, .slice none 0 0, .int .i64 nv] rfl rfl (new3' _ _ _ _ _) ?c2 (by decide) ?c3 ?c4 ?c5 ?_))
          case c2 => intro u hu; simp at hu; rcases hu with rfl | rfl | rfl <;> rfl
          case c3 => unfold maxLen; omega
          case c4 => omega
          case c5 => omega
          intro v' w3 hown3 hg3 hv3
          obtain ⟨g3, cap3, rfl, -⟩ := row_form hown3 (by omega)
          have hS3 := (hS1.alloc _).grown 1 rfl hown3 hg3 (new_at hv3)
          have c1' := (hS3.blk 0 rfl).cell 1
          have f1' := (hS3.blk 0 rfl).frozen 1
          simp only [List.getElem?_cons_succ, List.getElem?_cons_zero] at c1'
          have hS4 := r4_push hS1 _ hown3 hg3 (new_at hv3)
          clear hS1 hS3 hown3 hg3 hv3 hrow c0 c1 c2 c3 t1
          go_upto_region 8 with fail
          clear c1' f1'
          generalize w3.setCell ⟨g, 1, none⟩ (.slice (some ⟨g3, 0, none⟩) (P.length + 1) cap3) = w4 at *
          go_cut [142] (fun s142 wx => s142 = .bool (decide (rr.headD 0 ≠ 40)) ∧ Hp o W (r4 g s q (.slice (some ⟨g3, 0, none⟩) (P.length + 1) cap3) false (P ++ [(⟨0, [], nv⟩, .slice none 0 0)])) wx)
          case first => as_aux_lemma =>
            obtain ⟨c0, c1, c2, c3⟩ := r4_cells hS4
            by_cases hqs : q < s.size
            · have hz : decide ((s.size : Int) ≤ (q : Int)) = false := by rw [decide_eq_false_iff_not]; omega
              have hzn : ¬ s.size ≤ q := by omega
              have hqi : (q : Int) < (s.size : Int) := by omega
              have hqj : (0 : Int) ≤ (q : Int) := by omega
              have hh := headD_at hdr hqs
              by_cases h40 : s[q] = 40
              · have t1 : ((s[q].toNat : Int) != 40) = false := by rw [h40]; rfl
                have HD : Hid (decide (rr.headD 0 ≠ 40) = false) := by refine Lib.hid ?_; rw [hh, h40]; rfl
                clear hh h40
                go_quiet (fail)
                go_wp2_with fail
                go_meet
                rw [HD.out]
                exact ⟨rfl, hS4.drewN nq⟩
              · have t1 : ((s[q].toNat : Int) != 40) = true := by
                  rw [bne_iff_ne]
                  intro h9
                  exact h40 (UInt8.toNat_inj.1 (by show _ = 40; omega))
                have HD : Hid (decide (rr.headD 0 ≠ 40) = true) := by refine Lib.hid ?_; rw [hh]; simpa using h40
                clear hh h40
                go_quiet (fail)
                go_wp2_with fail
                go_meet
                rw [HD.out]
                exact ⟨rfl, hS4.drewN nq⟩
            · have hz : decide ((s.size : Int) ≤ (q : Int)) = true := by rw [decide_eq_true_iff]; omega
              have hzn : s.size ≤ q := by omega
              have HD : Hid (decide (rr.headD 0 ≠ 40) = true) := by refine Lib.hid ?_; rw [headD_end hdr (by omega)]; rfl
              go_quiet (fail)
              go_wp2_with fail
              go_meet
              rw [HD.out]
              exact ⟨rfl, hS4.drewN nq⟩
          case rest =>
            obtain ⟨rfl, hS5⟩ := hcut
            clear hS4
            by_cases h40 : rr.headD 0 = 40
            · have hok : ¬ nOk l = false := fun h9 => by
                have h8 := HOK.out.1 h9
                rw [h40] at h8; exact absurd h8 (by decide)
              obtain ⟨K0, hK0⟩ : ∃ K0, kidsR (gateP f) f rr (gts P ++ [⟨0, [], 0⟩]) [] = K0 := ⟨_, rfl⟩
              have HG2 : Hid (gateP (f + 1) l (gts P) = if K0.1.1 = false then K0.1 else (true, K0.1.2.1, K0.1.2.2.set P.length ⟨nv, K0.2, 0⟩)) := by
                refine Lib.hid ?_
                rw [HG.out, if_neg hok, if_neg (by simpa using h40), hK0, hgl]
              have HK0 := Lib.hid hK0
              rw [decide_eq_false (by simpa using h40)]
              have hgt := r4_gate (m := nv) hS5
              obtain ⟨k1, k2, k3, k4⟩ := r4_row (i := P.length) (x := (⟨0, [], nv⟩, .slice none 0 0)) hS5 (by simp) (by simp)
              have kf := k4 (P.length * 3)
              have kf1 := k4 (P.length * 3 + 1)
              have kf2 := k4 (P.length * 3 + 2)
              have c1 := (r4_cells hS5).2.1
              simp only at k1 k2 k3
              have H40 := Lib.hid h40
              have hnum : q ≤ s.size ∧ s.size - q < f ∧ P.length + 1 + (s.size - q) ≤ P.length + (s.size - a) := by
                have := HQ.out
                omega
              clear HG HOK hok hK0 h40 hnl hn9 hll k4
              go_upto_region 10 with fail
              clear k1 k2 k3 kf kf1 kf2 c1 hS5
              have hS6 : Hp o W (r4 g s q (.slice (some ⟨g3, 0, none⟩) (P ++ [((⟨nv, [], 0⟩ : Gt), Value.slice none 0 0)]).length cap3) false (P ++ [(⟨nv, [], 0⟩, .slice none 0 0)])) (((wc.setCell ⟨g3, P.length * 3, none⟩ (.int .i64 nv)).setCell ⟨g3, P.length * 3 + 1, none⟩ (.slice none 0 0)).setCell ⟨g3, P.length * 3 + 2, none⟩ (.int .i64 0)) := by
                rw [show (P ++ [((⟨nv, [], 0⟩ : Gt), Value.slice none 0 0)]).length = P.length + 1 by simp]
                exact hgt
              clear hgt
              generalize ((wc.setCell ⟨g3, P.length * 3, none⟩ (.int .i64 nv)).setCell ⟨g3, P.length * 3 + 1, none⟩ (.slice none 0 0)).setCell ⟨g3, P.length * 3 + 2, none⟩ (.int .i64 0) = w5 at *
              have H0 : RLoop g s o W f a P nv K0 (s.size + 1 - q) (.bool true) w5 := by
                refine ⟨true, q, rr, g3, cap3, .slice none 0 0, [], [], P ++ [(⟨nv, [], 0⟩, .slice none 0 0)], gts P ++ [⟨0, [], 0⟩], f, rfl, hnum.1, hdr, rfl, rfl, (by simpa using hnum.2.2), Nat.zero_le _, hS6, (by simp), fun _ => ⟨?_, hnum.2.1, hnum.2.1, ?_, HK0⟩, fun h9 => (by cases h9)⟩
                · intro h9
                  have := H40.out
                  rw [h9] at this; exact absurd this (by decide)
                · rw [← hgl]; simp [gts]
              clear hS6 HK0 H40 hnum HQ hdr hrl
              go_wp2_with fail
              go_loopg [5] (s.size + 1 - q) (RLoop g s o W f a P nv K0)
              case atStart => exact H0
              case round =>
                obtain ⟨bm, q, rr, g3, cap3, vk, ks, Pn, Q, H, m, rfl, hq, hdr, rfl, hQ, hcn, hksq, hS, hHl, hT, hF⟩ := hrel
                clear H0
                have hrl := size_drop hq hdr
                have hQl : Q.length = P.length + 1 + Pn.length := by rw [hQ]; simp; omega
                have hx : Q[P.length]? = some (⟨nv, ks, 0⟩, vk) := by rw [hQ]; simp
                have HQ := Lib.hid hQ
                have HQL0 := Lib.hid hQl
                clear hQ hQl
                cases bm with
                | true => as_aux_lemma =>
                  obtain ⟨hne, hm, hqf, hgq, HK⟩ := hT rfl
                  clear hT hF
                  have hqs : q < s.size := by
                    rcases Nat.lt_or_ge q s.size with h | h
                    · exact h
                    · exact absurd (by rw [hdr, List.drop_eq_nil_of_le (by rw [length_tl]; exact h)]) hne
                  obtain ⟨m, rfl⟩ : ∃ m', m = m' + 1 := ⟨m - 1, by omega⟩
                  have hrd : rr.drop 1 = (tl s).drop (q + 1) := by rw [hdr, List.drop_drop]
                  obtain ⟨-, c1, c2, -⟩ := r4_cells hS
                  have hfr := r4_free hS 2
                  go_upto_region 13 with fail
                  have hS1 : Hp o W (r4 g s (q + 1) (.slice (some ⟨g3, 0, none⟩) Q.length cap3) false Q) (wr.setCell ⟨g, 2, none⟩ (.int .i64 ((q : Int) + 1))) := r4_at hS (q + 1) ((q : Int) + 1) (by omega)
                  clear hS c1 c2 hfr
                  generalize wr.setCell ⟨g, 2, none⟩ (.int .i64 ((q : Int) + 1)) = w7 at *
                  obtain ⟨-, c1, -, -⟩ := r4_cells hS1
                  have HC := Lib.hid (hih.out (q + 1) _ Q w7 (by omega) (by omega) (by omega) hS1.sep)
                  go_wp2_with fail
                  refine HC.out.mono ?_
                  rintro e w8 ⟨rfl, p', vg', its, bad, hp', hrest, hH, hbd, hgd⟩
                  have hS8 : Hp o W (ird4 g s p' vg' bad :: its) w8 := by
                    have := Hp.call (a := r4 g s (q + 1) (.slice (some ⟨g3, 0, none⟩) Q.length cap3) false Q) (r := []) (by rw [List.append_nil]; exact hS1) hH
                    rw [List.append_nil] at this
                    exact this
                  obtain ⟨g1, g2, g3'⟩ := gate_eq f (rr.drop 1) H (gts Q) (by rw [hHl]; simp)
                  have hout := gate_out f (rr.drop 1) H
                  have HK2 := HK.out
                  rw [kidsR] at HK2
                  rw [← hrd] at hrest hbd hgd
                  clear HC hS1 hH HK hrd c1
                  generalize hr' : gateP f (rr.drop 1) (gts Q) = r' at *
                  generalize gateP f (rr.drop 1) H = r at *
                  obtain ⟨-, -, -, c3⟩ := r4_cells hS8
                  cases bad with
                  | true => as_aux_lemma =>
                    have hb := hbd rfl
                    have hb0 : r.1 = false := g1.trans hb
                    rw [if_pos hb0] at HK2
                    have HB := Lib.hid hb0
                    have HK4 := Lib.hid HK2
                    have HR := Lib.hid (g2.trans hrest)
                    clear hb hb0 HK2 hrest hbd hgd hout g1 g2 g3' hr' hgq
                    go_wp2_with fail
                    go_end0
                    have e9 : gateP (f + 1) l (gts P) = r := by rw [HG2.out, ← HK4.out, if_pos HB.out]
                    refine ⟨rfl, p', vg', its, true, hp', ?_, hS8, fun _ => ?_, fun h9 => (by cases h9)⟩
                    · rw [e9]; exact HR.out
                    · rw [e9]; exact HB.out
                  | false => as_aux_lemma =>
                    obtain ⟨h1, Qn, rfl, h2, h3⟩ := hgd rfl
                    clear hbd hgd
                    have hx8 : (Q ++ Qn)[P.length]? = some (⟨nv, ks, 0⟩, vk) := by rw [List.getElem?_append_left (by have := HQL0.out; omega)]; exact hx
                    obtain ⟨Ak, ck, hvk⟩ := row_forms (r4_kids hS8 hx8)
                    simp only at hvk
                    subst hvk
                    obtain ⟨g8, c8, rfl, -⟩ := row_form (hS8.row 1 rfl) (by rw [List.length_append]; have := HQL0.out; omega)
                    have hil : (P.length : Int) < ((Q ++ Qn).length : Int) := by rw [List.length_append]; have := HQL0.out; omega
                    have hil0 : (0 : Int) ≤ (P.length : Int) := by omega
                    have hil2 : P.length < (Q ++ Qn).length := by omega
                    have hqq : (Q ++ Qn).length ≤ 2000 := by omega
                    have hkl : ks.length ≤ 2000 := by omega
                    obtain ⟨Q2, hQ2⟩ : ∃ Q2, Q ++ Qn = Q2 := ⟨_, rfl⟩
                    rw [hQ2] at hx8 hil hil2 hqq h3 hS8
                    have hQl2 : Q2.length = Q.length + Qn.length := by rw [← hQ2, List.length_append]
                    have HQ2 := Lib.hid hQ2
                    have HQL := Lib.hid hQl2
                    have h2' : r'.1 = true → gts Q2 = r'.2.2 := hQ2 ▸ h2
                    have H2 := Lib.hid h2'
                    have H1 := Lib.hid h1
                    have HG1 := Lib.hid g1
                    have HG2b := Lib.hid g2
                    have HG3 := Lib.hid g3'
                    have HKx := Lib.hid HK2
                    have HR := Lib.hid hrest
                    have HO := Lib.hid hout
                    have HGQ := Lib.hid hgq
                    clear hQ2 hQl2 h1 h2 h2' g1 g2 g3' HK2 hrest hout hr' hgq
                    obtain ⟨j0, hj0, hy0, hy1, hy2⟩ := info_parts int_info
                    go_upto_region 16 with fail
                    go_cut [] (fun wx => ∃ v9, Hp o W (r4 g s p' (.slice (some ⟨g8, 0, none⟩) Q2.length c8) false (Q2.set P.length (⟨nv, ks ++ [(Q.length : Int)], 0⟩, v9))) wx)
                    case first => as_aux_lemma =>
                      have hSd := hS8.drew
                      have hSa : Hp o W (r4 g s p' (.slice (some ⟨g8, 0, none⟩) Q2.length c8) false Q2) (w8.alloc (.cells #[.int .i64 (Q.length : Int)] 3)).drew := (hS8.alloc (.cells #[.int .i64 (Q.length : Int)] 3)).drew
                      clear hS8 c3
                      obtain ⟨d1, d2, d3⟩ := r4_S hSd hx8
                      obtain ⟨e1, e2, e3⟩ := r4_S hSa hx8
                      have HSA := Lib.hid hSa
                      clear hSa
                      --BEGIN16
                      refine wp_region_held_drew (S := (fun w' => w'.cell? ⟨g, 1, none⟩ = some (.slice (some ⟨g8, 0, none⟩) Q2.length c8))) (by kernel_rfl) ?_ (fun hHeld => ?_)
                      · exact d1
                      refine wpAnyH_take (i := 0) (v := ?_) rfl (by kernel_rfl) (by kernel_rfl) (by kernel_rfl) (fun _ _ _ h => h) (Or.inl ⟨by rfl, ?_⟩) (by assumption) ?_
                      rotate_left
                      · (intro w hSw; (try dsimp only at hSw); go_simp; (try with_reducible rfl))
                      try simp only [Act.put, List.getElem_toArray, List.getElem_cons_zero, List.setIfInBounds_toArray, List.set_cons_zero, List.set_cons_succ]
                      refine wpAnyH_take (i := 1) (v := ?_) rfl (by kernel_rfl) (by kernel_rfl) (by kernel_rfl) (fun _ _ _ h => h) (Or.inl ⟨by rfl, ?_⟩) (by assumption) ?_
                      rotate_left
                      · (intro w hSw; (try dsimp only at hSw); go_simp; (try with_reducible rfl))
                      try simp only [Act.put, List.getElem_toArray, List.getElem_cons_zero, List.getElem_cons_succ, List.setIfInBounds_toArray, List.set_cons_zero, List.set_cons_succ]
                      refine wpAnyH_take (i := 2) (v := ?_) rfl (by kernel_rfl) (by kernel_rfl) (by kernel_rfl) (fun _ _ _ h => h) (Or.inl ⟨by rfl, ?_⟩) (by assumption) ?_
                      rotate_left
                      · (intro w hSw; (try dsimp only at hSw); go_simp; (try with_reducible rfl))
                      try simp only [Act.put, List.getElem_toArray, List.getElem_cons_zero, List.getElem_cons_succ, List.setIfInBounds_toArray, List.set_cons_zero, List.set_cons_succ]
                      refine wpAnyH_take (i := 3) (v := ?_) rfl (by kernel_rfl) (by kernel_rfl) (by kernel_rfl) (fun _ _ _ h => h) (Or.inl ⟨by rfl, ?_⟩) (by assumption) ?_
                      rotate_left
                      · (intro w hSw; (try dsimp only at hSw); go_simp; (try with_reducible rfl))
                      try simp only [Act.put, List.getElem_toArray, List.getElem_cons_zero, List.getElem_cons_succ, List.setIfInBounds_toArray, List.set_cons_zero, List.set_cons_succ]
                      refine wpAnyH_take (i := 4) (v := ?_) rfl (by kernel_rfl) (by kernel_rfl) (by kernel_rfl) (fun _ _ _ h => h) (Or.inl ⟨by rfl, ?_⟩) (by assumption) ?_
                      rotate_left
                      · (intro w hSw; (try dsimp only at hSw); go_simp; (try with_reducible rfl))
                      try simp only [Act.put, List.getElem_toArray, List.getElem_cons_zero, List.getElem_cons_succ, List.setIfInBounds_toArray, List.set_cons_zero, List.set_cons_succ]
                      refine wpAnyH_take (i := 5) (v := ?_) rfl (by kernel_rfl) (by kernel_rfl) (by kernel_rfl) (fun _ _ _ h => h) (Or.inl ⟨by rfl, ?_⟩) (by assumption) ?_
                      rotate_left
                      · (intro w hSw; (try dsimp only at hSw); go_simp; (try with_reducible rfl))
                      try simp only [Act.put, List.getElem_toArray, List.getElem_cons_zero, List.getElem_cons_succ, List.setIfInBounds_toArray, List.set_cons_zero, List.set_cons_succ]
                      refine wpAnyH_take (i := 6) (v := ?_) rfl (by kernel_rfl) (by kernel_rfl) (by kernel_rfl) (fun _ _ _ h => h) (Or.inl ⟨by rfl, ?_⟩) (by assumption) ?_
                      rotate_left
                      · (intro w hSw; (try dsimp only at hSw); go_simp; (try with_reducible rfl))
                      try simp only [Act.put, List.getElem_toArray, List.getElem_cons_zero, List.getElem_cons_succ, List.setIfInBounds_toArray, List.set_cons_zero, List.set_cons_succ]
                      refine wpAnyH_take (i := 7) (v := ?_) rfl (by kernel_rfl) (by kernel_rfl) (by kernel_rfl) (fun _ _ _ h => h) (Or.inl ⟨by rfl, ?_⟩) (by assumption) ?_
                      rotate_left
                      · (intro w hSw; (try dsimp only at hSw); go_simp; (try with_reducible rfl))
                      try simp only [Act.put, List.getElem_toArray, List.getElem_cons_zero, List.getElem_cons_succ, List.setIfInBounds_toArray, List.set_cons_zero, List.set_cons_succ]
                      refine wpAnyH_take (i := 8) (v := ?_) rfl (by kernel_rfl) (by kernel_rfl) (by kernel_rfl) (fun _ _ _ h => h) (Or.inl ⟨by rfl, ?_⟩) (by assumption) ?_
                      rotate_left
                      · (intro w hSw; (try dsimp only at hSw); go_simp; (try with_reducible rfl))
                      try simp only [Act.put, List.getElem_toArray, List.getElem_cons_zero, List.getElem_cons_succ, List.setIfInBounds_toArray, List.set_cons_zero, List.set_cons_succ]
                      refine wpAnyH_take (i := 9) (v := ?_) rfl (by kernel_rfl) (by kernel_rfl) (by kernel_rfl) (fun _ _ _ h => h) (Or.inl ⟨by rfl, ?_⟩) (by assumption) ?_
                      rotate_left
                      · (intro w hSw; (try dsimp only at hSw); go_simp; (try with_reducible rfl))
                      try simp only [Act.put, List.getElem_toArray, List.getElem_cons_zero, List.getElem_cons_succ, List.setIfInBounds_toArray, List.set_cons_zero, List.set_cons_succ]
                      refine wpAnyH_take (i := 10) (v := ?_) rfl (by kernel_rfl) (by kernel_rfl) (by kernel_rfl) (fun _ _ _ h => h) (Or.inl ⟨by rfl, ?_⟩) (by assumption) ?_
                      rotate_left
                      · (intro w hSw; (try dsimp only at hSw); go_simp; (try with_reducible rfl))
                      try simp only [Act.put, List.getElem_toArray, List.getElem_cons_zero, List.getElem_cons_succ, List.setIfInBounds_toArray, List.set_cons_zero, List.set_cons_succ]
                      refine wpAnyH_take (i := 11) (v := ?_) rfl (by kernel_rfl) (by kernel_rfl) (by kernel_rfl) (fun _ _ _ h => h) (Or.inl ⟨by rfl, ?_⟩) (by assumption) ?_
                      rotate_left
                      · (intro w hSw; (try dsimp only at hSw); go_simp; (try with_reducible rfl))
                      try simp only [Act.put, List.getElem_toArray, List.getElem_cons_zero, List.getElem_cons_succ, List.setIfInBounds_toArray, List.set_cons_zero, List.set_cons_succ]
                      refine wpAnyH_take (i := 12) (v := ?_) rfl (by kernel_rfl) (by kernel_rfl) (by kernel_rfl) (fun _ _ _ h => h) (Or.inl ⟨by rfl, ?_⟩) (by assumption) ?_
                      rotate_left
                      · (intro w hSw; (try dsimp only at hSw); go_simp; (try with_reducible rfl))
                      try simp only [Act.put, List.getElem_toArray, List.getElem_cons_zero, List.getElem_cons_succ, List.setIfInBounds_toArray, List.set_cons_zero, List.set_cons_succ]
                      refine wpAnyH_take (i := 13) (v := ?_) rfl (by kernel_rfl) (by kernel_rfl) (by kernel_rfl) (fun _ _ _ h => h) (Or.inl ⟨by rfl, ?_⟩) (by assumption) ?_
                      rotate_left
                      · (intro w hSw; (try dsimp only at hSw); go_simp; (try with_reducible rfl))
                      try simp only [Act.put, List.getElem_toArray, List.getElem_cons_zero, List.getElem_cons_succ, List.setIfInBounds_toArray, List.set_cons_zero, List.set_cons_succ]
                      refine wpAnyH_take (i := 15) (v := ?_) rfl (by kernel_rfl) (by kernel_rfl) (by kernel_rfl) (fun _ _ _ h => h) (Or.inl ⟨by rfl, ?_⟩) (by assumption) ?_
                      rotate_left
                      · (intro w hSw; (try dsimp only at hSw); go_simp; (try with_reducible rfl))
                      try simp only [Act.put, List.getElem_toArray, List.getElem_cons_zero, List.getElem_cons_succ, List.setIfInBounds_toArray, List.set_cons_zero, List.set_cons_succ]
                      refine wpAnyH_ready (rs := [14, 16]) (by kernel_rfl) (by simp) ?_
                      refine AllReadyH.cons rfl (fun K hK => ?_) ?_
                      · go_simp
                        refine hK.out _ _ ?_ (fun hHeld => ?_)
                        · first | exact d1 | exact e1 | exact k1 | exact k5
                        clear hK K
                        refine wpAnyH_ready (rs := [16]) (by kernel_rfl) (by simp) ?_
                        refine AllReadyH.cons rfl (fun K hK => ?_) ?_
                        · go_simp
                          refine hK.out _ _ ?_ (fun hHeld => ?_)
                          · first | exact d1 | exact e1 | exact k1 | exact k5
                          clear hK K
                          refine wpAnyH_ready (rs := [17]) (by kernel_rfl) (by simp) ?_
                          refine AllReadyH.cons rfl (fun K hK => ?_) ?_
                          · refine step_append_lies _ (by rfl) (.tmp 186) (.tmp 188) 38 (by rfl) 0 3 j0 _ 1 8 Tryd.underlying38 hj0 hy0 hy1 hy2 rfl (by decide) _ ks.length (ivals ks) (by rfl) ?o1 _ 1 1 [.int .i64 (Q.length : Int)] (by rfl) (by rfl) ?nw ?oc (by decide) ?l1 ?l2 ?l3 _ (by rfl) ?_
                            case o1 => exact r4_kids HSA.out hx8
                            case nw => exact new1' _ _ _
                            case oc => (intro u hu; simp at hu; rw [hu]; rfl)
                            case l1 => (unfold maxLen; omega)
                            case l2 => omega
                            case l3 => exact Nat.zero_le _
                            intro gn cn w1 hownn hgrow hat hltn
                            obtain ⟨k1, k2, k3, k4⟩ := r4_kid HSA.out rfl hx8 (Q.length : Int) (by simp) (by simp [ivals]) hownn hgrow (lies_alt hat)
                            have k5 := (k4.blk 0 rfl).cell 1
                            refine hK.out _ _ ?_ (fun hHeld => ?_)
                            · first | exact d1 | exact e1 | exact k1 | exact k5
                            clear hK K
                            refine wpAnyH_take (i := 18) (v := ?_) rfl (by kernel_rfl) (by kernel_rfl) (by kernel_rfl) (fun _ _ _ h => h) (Or.inl ⟨by rfl, ?_⟩) (by assumption) ?_
                            rotate_left
                            · (intro w hSw; (try dsimp only at hSw); go_simp; (try with_reducible rfl))
                            try simp only [Act.put, List.getElem_toArray, List.getElem_cons_zero, List.getElem_cons_succ, List.setIfInBounds_toArray, List.set_cons_zero, List.set_cons_succ]
                            refine wpAnyH_take (i := 19) (v := ?_) rfl (by kernel_rfl) (by kernel_rfl) (by kernel_rfl) (fun _ _ _ h => h) (Or.inl ⟨by rfl, ?_⟩) (by assumption) ?_
                            rotate_left
                            · (intro w hSw; (try dsimp only at hSw); go_simp; (try with_reducible rfl))
                            try simp only [Act.put, List.getElem_toArray, List.getElem_cons_zero, List.getElem_cons_succ, List.setIfInBounds_toArray, List.set_cons_zero, List.set_cons_succ]
                            refine wpAnyH_ready (rs := [20]) (by kernel_rfl) (by simp) ?_
                            refine AllReadyH.cons rfl (fun K hK => ?_) ?_
                            · go_simp
                              refine hK.out _ _ ?_ (fun hHeld => ?_)
                              · first | exact d1 | exact e1 | exact k1 | exact k5
                              clear hK K
                              refine wpAnyH_done (by kernel_rfl) ?_ _
                              go_wp2_with fail
                              go_meet
                              first | exact ⟨_, k4⟩ | exact ⟨_, k4.drew⟩
                            exact AllReadyH.nil
                          exact AllReadyH.nil
                        exact AllReadyH.nil
                      refine AllReadyH.cons rfl (fun K hK => ?_) ?_
                      · go_simp
                        refine hK.out _ _ ?_ (fun hHeld => ?_)
                        · first | exact d1 | exact e1 | exact k1 | exact k5
                        clear hK K
                        refine wpAnyH_ready (rs := [14]) (by kernel_rfl) (by simp) ?_
                        refine AllReadyH.cons rfl (fun K hK => ?_) ?_
                        · go_simp
                          refine hK.out _ _ ?_ (fun hHeld => ?_)
                          · first | exact d1 | exact e1 | exact k1 | exact k5
                          clear hK K
                          refine wpAnyH_ready (rs := [17]) (by kernel_rfl) (by simp) ?_
                          refine AllReadyH.cons rfl (fun K hK => ?_) ?_
                          · refine step_append_lies _ (by rfl) (.tmp 186) (.tmp 188) 38 (by rfl) 0 3 j0 _ 1 8 Tryd.underlying38 hj0 hy0 hy1 hy2 rfl (by decide) _ ks.length (ivals ks) (by rfl) ?o1 _ 1 1 [.int .i64 (Q.length : Int)] (by rfl) (by rfl) ?nw ?oc (by decide) ?l1 ?l2 ?l3 _ (by rfl) ?_
                            case o1 => exact r4_kids HSA.out hx8
                            case nw => exact new1' _ _ _
                            case oc => (intro u hu; simp at hu; rw [hu]; rfl)
                            case l1 => (unfold maxLen; omega)
                            case l2 => omega
                            case l3 => exact Nat.zero_le _
                            intro gn cn w1 hownn hgrow hat hltn
                            obtain ⟨k1, k2, k3, k4⟩ := r4_kid HSA.out rfl hx8 (Q.length : Int) (by simp) (by simp [ivals]) hownn hgrow (lies_alt hat)
                            have k5 := (k4.blk 0 rfl).cell 1
                            refine hK.out _ _ ?_ (fun hHeld => ?_)
                            · first | exact d1 | exact e1 | exact k1 | exact k5
                            clear hK K
                            refine wpAnyH_take (i := 18) (v := ?_) rfl (by kernel_rfl) (by kernel_rfl) (by kernel_rfl) (fun _ _ _ h => h) (Or.inl ⟨by rfl, ?_⟩) (by assumption) ?_
                            rotate_left
                            · (intro w hSw; (try dsimp only at hSw); go_simp; (try with_reducible rfl))
                            try simp only [Act.put, List.getElem_toArray, List.getElem_cons_zero, List.getElem_cons_succ, List.setIfInBounds_toArray, List.set_cons_zero, List.set_cons_succ]
                            refine wpAnyH_take (i := 19) (v := ?_) rfl (by kernel_rfl) (by kernel_rfl) (by kernel_rfl) (fun _ _ _ h => h) (Or.inl ⟨by rfl, ?_⟩) (by assumption) ?_
                            rotate_left
                            · (intro w hSw; (try dsimp only at hSw); go_simp; (try with_reducible rfl))
                            try simp only [Act.put, List.getElem_toArray, List.getElem_cons_zero, List.getElem_cons_succ, List.setIfInBounds_toArray, List.set_cons_zero, List.set_cons_succ]
                            refine wpAnyH_ready (rs := [20]) (by kernel_rfl) (by simp) ?_
                            refine AllReadyH.cons rfl (fun K hK => ?_) ?_
                            · go_simp
                              refine hK.out _ _ ?_ (fun hHeld => ?_)
                              · first | exact d1 | exact e1 | exact k1 | exact k5
                              clear hK K
                              refine wpAnyH_done (by kernel_rfl) ?_ _
                              go_wp2_with fail
                              go_meet
                              first | exact ⟨_, k4⟩ | exact ⟨_, k4.drew⟩
                            exact AllReadyH.nil
                          exact AllReadyH.nil
                        exact AllReadyH.nil
                      exact AllReadyH.nil
                      --END16
                    case rest => as_aux_lemma =>
                     obtain ⟨v9, hS9'⟩ := hcut
                     clear hS8 c3 hj0 hy0 hy1 hy2
                     have hx9 : (Q2.set P.length ((⟨nv, ks ++ [(Q.length : Int)], 0⟩ : Gt), v9))[P.length]? = some (⟨nv, ks ++ [(Q.length : Int)], 0⟩, v9) := by rw [List.getElem?_set_self hil2]
                     have hS9 : Hp o W (r4 g s p' (.slice (some ⟨g8, 0, none⟩) (Q2.set P.length ((⟨nv, ks ++ [(Q.length : Int)], 0⟩ : Gt), v9)).length c8) false (Q2.set P.length (⟨nv, ks ++ [(Q.length : Int)], 0⟩, v9))) wc := by rw [List.length_set]; exact hS9'
                     have hQ3 : Q2.set P.length ((⟨nv, ks ++ [(Q.length : Int)], 0⟩ : Gt), v9) = P ++ (⟨nv, ks ++ [(Q.length : Int)], 0⟩, v9) :: (Pn ++ Qn) := by rw [← HQ2.out, HQ.out]; simp
                     have hgq3 : r'.1 = true → gts (Q2.set P.length ((⟨nv, ks ++ [(Q.length : Int)], 0⟩ : Gt), v9)) = r.2.2.set P.length ⟨nv, ks ++ [(Q.length : Int)], 0⟩ := by
                       intro hr'
                       obtain ⟨Hn, n1, n2⟩ := HG3.out (HG1.out.trans hr')
                       have hml : P.length < H.length := by rw [hHl]; have := HQL0.out; omega
                       have e5 : gts (Q2.set P.length ((⟨nv, ks ++ [(Q.length : Int)], 0⟩ : Gt), v9)) = (gts Q2).set P.length ⟨nv, ks ++ [(Q.length : Int)], 0⟩ := List.map_set
                       rw [e5, H2.out hr', n2, n1, HGQ.out, List.set_append_left _ _ (by rw [List.length_set]; exact hml), List.set_append_left _ _ hml, List.set_set]
                     have hl3 : (Q2.set P.length ((⟨nv, ks ++ [(Q.length : Int)], 0⟩ : Gt), v9)).length = Q2.length := List.length_set
                     have hcnt3 : Q2.length + (s.size - p') ≤ P.length + (s.size - a) := by omega
                     clear hS9' hx8 hx9
                     generalize Q2.set P.length ((⟨nv, ks ++ [(Q.length : Int)], 0⟩ : Gt), v9) = Q3 at *
                     have HQ3 := Lib.hid hQ3
                     have HGQ3 := Lib.hid hgq3
                     have HL3 := Lib.hid hl3
                     clear hQ3 hgq3 hl3
                     have hlt : p' > q := by
                       have h8 := HO.out.rest
                       rw [HG2b.out, size_drop hp' HR.out, List.length_drop, hrl] at h8
                       omega
                     have HNext : Hid (∀ wx, Hp o W (r4 g s p' (.slice (some ⟨g8, 0, none⟩) Q3.length c8) false Q3) wx → ∀ b, b = decide (r'.2.1.headD 0 = 44) → RLoop g s o W f a P nv K0 (s.size + 1 - p') (.bool b) wx) := by
                       refine Lib.hid fun wx hwx b hb => ?_
                       have e1 : r.2.1 = r'.2.1 := HG2b.out
                       have hk := HKx.out
                       rw [e1] at hk
                       by_cases hr : r.1 = true
                       · have hr' : r'.1 = true := HG1.out.symm.trans hr
                         have hgg := HGQ3.out hr'
                         obtain ⟨Hn, n1, n2⟩ := HG3.out hr
                         have hl9 : r.2.2.length = Q3.length := by
                           have h8 := H2.out hr'
                           rw [HL3.out, n1, List.length_append, hHl]
                           have h7 := congrArg List.length h8
                           rw [n2] at h7
                           simp only [List.length_append, List.length_map] at h7
                           omega
                         rw [if_neg (by rw [hr]; decide)] at hk
                         by_cases h44 : r'.2.1.headD 0 = 44
                         · rw [if_pos h44] at hk
                           have hbt : b = true := by rw [hb, decide_eq_true h44]
                           subst hbt
                           refine ⟨true, p', r'.2.1, g8, c8, v9, ks ++ [(Q.length : Int)], Pn ++ Qn, Q3, r.2.2, m, rfl, hp', HR.out, rfl, HQ3.out, by rw [HL3.out]; exact hcnt3, (by rw [List.length_append]; simp only [List.length_cons, List.length_nil]; omega), hwx, hl9, fun _ => ⟨?_, by omega, by omega, hgg, ?_⟩, fun h9 => (by cases h9)⟩
                           · intro h9
                             rw [h9] at h44; exact absurd h44 (by decide)
                           · rw [hHl] at hk; exact Lib.hid hk
                         · rw [if_neg h44] at hk
                           have hbf : b = false := by rw [hb, decide_eq_false h44]
                           subst hbf
                           refine ⟨false, p', r'.2.1, g8, c8, v9, ks ++ [(Q.length : Int)], Pn ++ Qn, Q3, r.2.2, m, rfl, hp', HR.out, rfl, HQ3.out, by rw [HL3.out]; exact hcnt3, (by rw [List.length_append]; simp only [List.length_cons, List.length_nil]; omega), hwx, hl9, fun h9 => (by cases h9), fun _ => ?_⟩
                           by_cases h41 : r'.2.1.headD 0 = 41
                           · rw [if_pos h41, hHl] at hk
                             exact .inl ⟨h41, hk.symm, hgg⟩
                           · rw [if_neg h41] at hk
                             exact .inr ⟨h41, by rw [← hk], by rw [← hk]; exact e1⟩
                       · have hr0 : r.1 = false := by simpa using hr
                         have hr' : r'.1 = false := HG1.out.symm.trans hr0
                         rw [if_pos hr0] at hk
                         have hdig : isD (r'.2.1.headD 0) = true := by
                           rcases H1.out with h9 | h9
                           · rw [hr'] at h9; cases h9
                           · exact h9
                         have hn44 : r'.2.1.headD 0 ≠ 44 := fun h9 => by rw [h9] at hdig; exact absurd hdig (by decide)
                         have hn41 : r'.2.1.headD 0 ≠ 41 := fun h9 => by rw [h9] at hdig; exact absurd hdig (by decide)
                         have hbf : b = false := by rw [hb, decide_eq_false hn44]
                         subst hbf
                         refine ⟨false, p', r'.2.1, g8, c8, v9, ks ++ [(Q.length : Int)], Pn ++ Qn, Q3, gts Q3, m, rfl, hp', HR.out, rfl, HQ3.out, by rw [HL3.out]; exact hcnt3, (by rw [List.length_append]; simp only [List.length_cons, List.length_nil]; omega), hwx, by simp, fun h9 => (by cases h9), fun _ => .inr ⟨hn41, by rw [← hk]; exact hr0, by rw [← hk]; exact e1⟩⟩
                     go_upto_region 17 with fail
                     obtain ⟨c0, c1, c2, c3⟩ := r4_cells hS9
                     by_cases hqs : p' < s.size
                     · have hqi : (p' : Int) < (s.size : Int) := by omega
                       have hqj : (0 : Int) ≤ (p' : Int) := by omega
                       have hz : decide ((p' : Int) < (s.size : Int)) = true := by rw [decide_eq_true_iff]; omega
                       have hh := headD_at HR.out hqs
                       by_cases hch : s[p'] = 44
                       · have t1 : ((s[p'].toNat : Int) == 44) = true := by rw [hch]; rfl
                         have HD : Hid (decide (r'.2.1.headD 0 = 44) = true) := by refine Lib.hid ?_; rw [hh, hch]; rfl
                         clear hh hch
                         go_quiet (fail)
                         go_wp2_with fail
                         go_roundg (s.size + 1 - p')
                         case measure => omega
                         case rel => exact HNext.out _ (hS9.drewN nq) _ HD.out.symm
                       · have t1 : ((s[p'].toNat : Int) == 44) = false := by
                           rw [beq_eq_false_iff_ne]
                           intro h9
                           exact hch (UInt8.toNat_inj.1 (by show _ = 44; omega))
                         have HD : Hid (decide (r'.2.1.headD 0 = 44) = false) := by refine Lib.hid ?_; rw [hh]; simpa using hch
                         clear hh hch
                         go_quiet (fail)
                         go_wp2_with fail
                         go_roundg (s.size + 1 - p')
                         case measure => omega
                         case rel => exact HNext.out _ (hS9.drewN nq) _ HD.out.symm
                     · have hz : decide ((p' : Int) < (s.size : Int)) = false := by rw [decide_eq_false_iff_not]; omega
                       have HD : Hid (decide (r'.2.1.headD 0 = 44) = false) := by refine Lib.hid ?_; rw [headD_end HR.out (by omega)]; rfl
                       go_quiet (fail)
                       go_wp2_with fail
                       go_roundg (s.size + 1 - p')
                       case measure => omega
                       case rel => exact HNext.out _ (hS9.drewN nq) _ HD.out.symm
                | false => as_aux_lemma =>
                  have HF := Lib.hid (hF rfl)
                  have HGQ := Lib.hid hgl
                  clear hT hF
                  go_upto_region 18 with fail
                  go_cut [235] (fun s235 wx => s235 = .bool (decide (rr.headD 0 ≠ 41)) ∧ Hp o W (r4 g s q (.slice (some ⟨g3, 0, none⟩) Q.length cap3) false Q) wx)
                  case first => as_aux_lemma =>
                    obtain ⟨c0, c1, c2, c3⟩ := r4_cells hS
                    by_cases hqs : q < s.size
                    · have hqi : (q : Int) < (s.size : Int) := by omega
                      have hqj : (0 : Int) ≤ (q : Int) := by omega
                      have hz : decide ((s.size : Int) ≤ (q : Int)) = false := by rw [decide_eq_false_iff_not]; omega
                      have hzn : ¬ s.size ≤ q := by omega
                      have hh := headD_at hdr hqs
                      by_cases hch : s[q] = 41
                      · have t1 : ((s[q].toNat : Int) != 41) = false := by rw [hch]; rfl
                        have HD : Hid (decide (rr.headD 0 ≠ 41) = false) := by refine Lib.hid ?_; rw [hh, hch]; rfl
                        clear hh hch
                        go_quiet (fail)
                        go_wp2_with fail
                        go_meet
                        rw [HD.out]
                        exact ⟨rfl, hS.drewN nq⟩
                      · have t1 : ((s[q].toNat : Int) != 41) = true := by
                          rw [bne_iff_ne]
                          intro h9
                          exact hch (UInt8.toNat_inj.1 (by show _ = 41; omega))
                        have HD : Hid (decide (rr.headD 0 ≠ 41) = true) := by refine Lib.hid ?_; rw [hh]; simpa using hch
                        clear hh hch
                        go_quiet (fail)
                        go_wp2_with fail
                        go_meet
                        rw [HD.out]
                        exact ⟨rfl, hS.drewN nq⟩
                    · have hz : decide ((s.size : Int) ≤ (q : Int)) = true := by rw [decide_eq_true_iff]; omega
                      have hzn : s.size ≤ q := by omega
                      have HD : Hid (decide (rr.headD 0 ≠ 41) = true) := by refine Lib.hid ?_; rw [headD_end hdr (by omega)]; rfl
                      go_quiet (fail)
                      go_wp2_with fail
                      go_meet
                      rw [HD.out]
                      exact ⟨rfl, hS.drewN nq⟩
                  case rest => as_aux_lemma =>
                    obtain ⟨rfl, hS10⟩ := hcut
                    clear hS
                    by_cases h41 : rr.headD 0 = 41
                    · rw [decide_eq_false (by simpa using h41)]
                      have hrd2 := headD_pos h41 (by decide)
                      have HE : Hid (gateP (f + 1) l (gts P) = (true, rr.drop 1, gts Q)) := by
                        refine Lib.hid ?_
                        rcases HF.out with ⟨_, h8, h9⟩ | ⟨h8, _⟩
                        · rw [HG2.out, h8, h9]; rfl
                        · exact absurd h41 h8
                      have hrd : rr.drop 1 = (tl s).drop (q + 1) := by rw [hdr, List.drop_drop]
                      have HRD := Lib.hid hrd
                      obtain ⟨-, -, c2, -⟩ := r4_cells hS10
                      have hfr := r4_free hS10 2
                      clear HF h41 HG2 hrd
                      go_wp2_with fail
                      go_end0
                      have hS11 : Hp o W (r4 g s (q + 1) (.slice (some ⟨g3, 0, none⟩) Q.length cap3) false Q) (wc.setCell ⟨g, 2, none⟩ (.int .i64 ((q : Int) + 1))) := r4_at hS10 (q + 1) ((q : Int) + 1) (by omega)
                      refine ⟨rfl, q + 1, _, _, false, by omega, by rw [HE.out]; exact HRD.out, hS11, fun h9 => (by cases h9), fun _ => ⟨.inl (by rw [HE.out]), (⟨nv, ks, 0⟩, vk) :: Pn, ?_, fun _ => ?_, ?_⟩⟩
                      · rw [HQ.out]
                      · rw [HE.out, HQ.out]
                      · rw [← HQ.out]; omega
                    · rw [decide_eq_true (by simpa using h41)]
                      have HE : Hid ((gateP (f + 1) l (gts P)).1 = false ∧ (gateP (f + 1) l (gts P)).2.1 = rr) := by
                        refine Lib.hid ?_
                        rcases HF.out with ⟨h8, _⟩ | ⟨_, h8, h9⟩
                        · exact absurd h8 h41
                        · rw [HG2.out, if_pos h8]; exact ⟨h8, h9⟩
                      have hfr := r4_free hS10 3
                      obtain ⟨-, -, -, c3⟩ := r4_cells hS10
                      clear HF h41 HG2
                      go_wp2_with fail
                      go_end0
                      exact ⟨rfl, q, _, _, true, hq, by rw [HE.out.2]; exact hdr, r4_bad hS10, fun _ => HE.out.1, fun h9 => (by cases h9)⟩
            · rw [decide_eq_true (by simpa using h40)]
              have HE : Hid ((gateP (f + 1) l (gts P)).2.1 = rr ∧ ((gateP (f + 1) l (gts P)).1 = true ∨ isD (rr.headD 0) = true) ∧ ((gateP (f + 1) l (gts P)).1 = true → gts P ++ [⟨0, [], nv⟩] = (gateP (f + 1) l (gts P)).2.2)) := by
                refine Lib.hid ?_
                rw [HG.out]
                by_cases hk : nOk l = false
                · rw [if_pos hk]
                  exact ⟨rfl, .inr (HOK.out.1 hk), fun h9 => (by cases h9)⟩
                · rw [if_neg hk, if_pos h40]
                  exact ⟨rfl, .inl rfl, fun _ => rfl⟩
              clear h40 HG HOK
              go_wp2_with fail
              go_end0
              obtain ⟨e1, e2, e3⟩ := HE.out
              refine ⟨rfl, q, _, _, false, hq, by rw [e1]; exact hdr, hS5, fun h9 => (by cases h9), fun _ => ⟨?_, [(⟨0, [], nv⟩, .slice none 0 0)], rfl, fun h9 => ?_, ?_⟩⟩
              · rw [e1]; exact e2
              · rw [← e3 h9]; simp [gts]
              · have := HQ.out
                simp only [List.length_append, List.length_cons, List.length_nil]
                omega
end Go.Proofs.YteaaeaimjbaomaaDoor
