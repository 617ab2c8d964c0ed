/-
  The lexer: skip.
-/
import Derived.Test.YtminghdnclpocaaGreatDoorLxW3
import Derived.Lib.IndexBytes
namespace Go.Proofs.YtminghdnclpocaaGreatDoor
open Go.RowKit
set_option linter.unusedVariables false

theorem index_nl (l : List UInt8) : Lib.indexByte l 10 = if Lx.sp (fun c => c != 10) l < l.length then (Lx.sp (fun c => c != 10) l : Int) else -1 := by
  induction l with
  | nil => rfl
  | cons c m ih =>
    unfold Lib.indexByte
    cases hc : (c == 10) with
    | true =>
      rw [if_pos (by rfl), Lx.sp_stop (p := fun c => c != 10) (by show (!(c == 10)) = false; rw [hc]; rfl), if_pos (by simp)]
      rfl
    | false =>
      rw [if_neg (by simp), Lx.sp_succ (p := fun c => c != 10) (by show (!(c == 10)) = true; rw [hc]; rfl), ih]
      have hle := Lx.sp_le (fun c => c != 10) m
      by_cases h : Lx.sp (fun c => c != 10) m < m.length
      · rw [if_pos h, if_neg (by rw [beq_iff_eq]; omega), if_pos (by rw [List.length_cons]; omega)]
        simp
      · rw [if_neg h, if_pos (by rfl), if_neg (by simp only [List.length_cons]; omega)]
theorem gb_trans {w w1 w2 : World} {r : Option Nat} (h : w.grownBy w1 r) (k : w1.grownBy w2 r) : w.grownBy w2 r :=
  ⟨k.os.trans h.os, k.tape.trans h.tape, k.output.trans h.output, Nat.le_trans h.size k.size, fun i hi hn => (k.block i (Nat.lt_of_lt_of_le hi h.size) hn).trans (h.block i hi hn)⟩
theorem gb_below {w w1 : World} {r : Option Nat} (h : Below w.heap.size w w1) : w.grownBy w1 r := ⟨h.os, h.tape, h.output, h.size, fun i hi _ => h.block i hi⟩
theorem gb_set {w : World} {g i : Nat} (v : Value) : w.grownBy (w.setCell ⟨g, i, none⟩ v) (some g) :=
  ⟨rfl, rfl, rfl, by simp [World.setCell], fun k _ hn => Below.heap_setCell _ _ _ _ (fun h => hn (by rw [h]))⟩
theorem gb_drewN {w w1 : World} {r : Option Nat} (h : w.grownBy w1 r) (n : Nat) : w.grownBy (w1.drewN n) r := gb_trans h ⟨rfl, rfl, rfl, Nat.le_refl _, fun _ _ _ => rfl⟩
theorem Scn.set {w : World} {g : Nat} {s : ByteArray} {a : Nat} (h : Scn w g s a) (b : Nat) : Scn (w.setCell ⟨g, 257, none⟩ (.int .i64 (b : Int))) g s b := by
  have := Blk.set_ h 257 (.int .i64 (b : Int))
  rw [scnL_set] at this
  exact this
def atOf (g : Nat) (w : World) : Nat := match w.cell? ⟨g, 257, none⟩ with | some (.int _ q) => q.toNat | _ => 0
theorem atOf_scn {w : World} {g : Nat} {s : ByteArray} {a : Nat} (h : Scn w g s a) : atOf g w = a := by
  unfold atOf
  rw [h.cell 257, scnL_at]
  simp
def SkRel (s : ByteArray) (g a : Nat) (w : World) (_ : Value) (W : World) : Prop := ∃ b, Scn W g s b ∧ b ≤ s.size ∧ w.grownBy W (some g) ∧ a + Lx.sk false ((tl s).drop a) = b + Lx.sk false ((tl s).drop b)
/-- behind white space -/
theorem sk_sps (s : ByteArray) {a n : Nat} (hn : Lx.sp Lx.isSp ((tl s).drop a) = n) : Lx.sk false ((tl s).drop a) = n + Lx.sk false ((tl s).drop (a + n)) := by
  rw [Lx.sk_run, hn, List.drop_drop]
theorem sk_here (s : ByteArray) {a n : Nat} (hn : Lx.sp Lx.isSp ((tl s).drop a) = n) (h : a + n < s.size) (hh : (s[a + n] == 35) = false) : Lx.sk false ((tl s).drop (a + n)) = 0 := by
  have hl : a + n < (tl s).length := by rw [length_tl]; exact h
  rw [List.drop_eq_getElem_cons hl, tl_getElem s _ h]
  refine Lx.sk_stop ?_ hh
  have h2 := Lx.sp_end (p := Lx.isSp) (l := (tl s).drop a) (by rw [List.length_drop]; omega)
  simp only [hn, List.getElem_drop] at h2
  rw [tl_getElem s _ h] at h2
  exact h2
theorem sk_comment (s : ByteArray) {b j : Nat} (h : b < s.size) (hh : (s[b] == 35) = true) (hj : Lx.sp (fun c => c != 10) ((tl s).drop b) = j) : 0 < j ∧ b + j ≤ s.size ∧ Lx.sk false ((tl s).drop b) = j + Lx.sk false ((tl s).drop (b + j)) := by
  have hl : b < (tl s).length := by rw [length_tl]; exact h
  have e : (tl s).drop b = 35 :: (tl s).drop (b + 1) := by rw [List.drop_eq_getElem_cons hl, tl_getElem s _ h]; simp at hh; rw [hh]
  have hf := sp_fit hj (Nat.le_of_lt h)
  have hj2 := hj
  rw [e, Lx.sp_succ (by decide)] at hj2
  refine ⟨by omega, hf, ?_⟩
  rw [← List.drop_drop, e, Lx.sk_hash, ← hj2, List.drop_succ_cons, Lx.sk_line]; omega
theorem index_at (s : ByteArray) (b : Nat) (k : Int) (w : World) (hk : Lib.indexByte ((tl s).drop b) 10 = k) :
    Calls Tryz.prog 81 #[.string (s.extract b s.size), .int .u8 10] w fun e w' => e = .returned (.int .i64 k) ∧ w' = w :=
  (Tryz.strings_IndexByte _ 10 w).mono fun e w' ⟨he, hw⟩ => ⟨by rw [he]; refine ret_int ?_; rw [← hk]; have : (s.extract b s.size).data.toList = (tl s).drop b := Lib.extract_to_end s b; rw [this]; rfl, hw⟩
theorem skip_any (g : Nat) (s : ByteArray) (a : Nat) (w : World) (hS : Scn w g s a) (hs : s.size ≤ 65536) (ha : a ≤ s.size) :
    Calls Tryz.prog 31 #[.pointer (some ⟨g, 0, none⟩)] w fun e w' => e = .returned (.tuple #[]) ∧ Scn w' g s (a + Lx.sk false ((tl s).drop a)) ∧ w.grownBy w' (some g) := by
  go_enter Tryz.func31, Tryz.ntmps31
  go_wp2_with fail
  go_loopw [2] (SkRel s g a w) (fun _ W => s.size - atOf g W)
  case atStart => exact ⟨a, hS, ha, ⟨rfl, rfl, rfl, Nat.le_refl _, fun _ _ _ => rfl⟩, rfl⟩
  case round =>
    obtain ⟨b, hB, hb, hg, he⟩ := hrel
    have HE := Lib.hid he
    clear he
    have HM := Lib.hid (atOf_scn hB)
    have c2 : wr.cell? ⟨g, 257, none⟩ = some (.int .i64 (b : Int)) := (hB.cell _).trans (scnL_at s b)
    obtain ⟨n, hn⟩ : ∃ n, Lx.sp Lx.isSp ((tl s).drop b) = n := ⟨_, rfl⟩
    have HN := Lib.hid hn
    have hfit := sp_fit hn hb
    clear hn
    go_wp2_with fail
    refine (while_sp_n _ b n g s b _ rfl HN.out hB hs hb).mono ?_
    rintro e w1 ⟨rfl, hb1⟩
    have hB1 := hB.below hb1 hB.lt
    have d2 : w1.cell? ⟨g, 257, none⟩ = some (.int .i64 (b : Int)) := (hB1.cell _).trans (scnL_at s b)
    have d3 : w1.frozen? ⟨g, 257, none⟩ = false := hB1.frozen _
    go_wp2_with fail
    have hB2 := Scn.set hB1 (b + n)
    have hg2 := gb_trans (gb_trans hg (gb_below hb1)) (gb_set (w := w1) (g := g) (i := 257) (.int .i64 ((b + n : Nat) : Int)))
    have hE2 := Lib.hid (HE.out.trans (show b + Lx.sk false ((tl s).drop b) = b + n + Lx.sk false ((tl s).drop (b + n)) by rw [sk_sps s HN.out]; omega))
    have hhere := Lib.hid (sk_here s HN.out)
    clear d2 d3 hB1 hb1 hg c2 hB HE HN
    rw [← Int.natCast_add]
    have hbc : b ≤ b + n := Nat.le_add_right _ _
    generalize w1.setCell ⟨g, 257, none⟩ (.int .i64 ((b + n : Nat) : Int)) = W2 at *
    generalize b + n = c at *
    have c0 : W2.cell? ⟨g, 0, none⟩ = some (.string s) := hB2.cell 0
    have c2 : W2.cell? ⟨g, 257, none⟩ = some (.int .i64 (c : Int)) := (hB2.cell 257).trans (scnL_at s c)
    by_cases hend : c = s.size
    · have h1 : ((c : Int) == (s.size : Int)) = true := by simp; omega
      have hz : Lx.sk false ((tl s).drop (c)) = 0 := by rw [List.drop_eq_nil_of_le (by rw [length_tl]; omega)]; rfl
      have HZ := Lib.hid hz
      clear hz
      have HEND := Lib.hid hend
      clear hend
      go_quiet (fail)
      go_wp2_with fail
      refine bodyPost_ret (v := .tuple #[]) (by simp [results, Tryz.results31, go_sem]) rfl ⟨rfl, ?_, gb_drewN hg2 _⟩
      rw [hE2.out, HZ.out]
      exact hB2
    · have h1 : ((c : Int) == (s.size : Int)) = false := by simp; omega
      have hlt : c < s.size := by omega
      have h6 := s[c].toNat_lt
      cases hq : (s[c] == 35) with
      | false =>
        have h7 : ((s[c].toNat : Int) != 35) = true := by simp at hq ⊢; intro h8; exact hq (UInt8.toNat_inj.1 (by have h9 : (35 : UInt8).toNat = 35 := rfl; omega))
        have HZ := Lib.hid (hhere.out hlt hq)
        clear hq
        go_quiet (fail)
        go_wp2_with fail
        refine bodyPost_ret (v := .tuple #[]) (by simp [results, Tryz.results31, go_sem]) rfl ⟨rfl, ?_, gb_drewN hg2 _⟩
        rw [hE2.out, HZ.out]
        exact hB2
      | true =>
        have h7 : ((s[c].toNat : Int) != 35) = false := by simp at hq ⊢; rw [hq]; rfl
        obtain ⟨j, hj⟩ : ∃ j, Lx.sp (fun c => c != 10) ((tl s).drop (c)) = j := ⟨_, rfl⟩
        obtain ⟨j0, j1, j2⟩ := sk_comment s hlt hq hj
        have J2 := Lib.hid j2
        clear j2 hq
        have hix := index_nl ((tl s).drop (c))
        rw [hj, List.length_drop, length_tl] at hix
        by_cases hjl : j < s.size - (c)
        · rw [if_pos hjl] at hix
          have HX := Lib.hid hix
          clear hix hj
          go_quiet (fail)
          have hB3 := hB2.drewN nq
          have hg3 := gb_drewN hg2 nq
          clear c0 c2 hB2 hg2
          generalize W2.drewN nq = W3 at *
          have c0 : W3.cell? ⟨g, 0, none⟩ = some (.string s) := hB3.cell 0
          have c2 : W3.cell? ⟨g, 257, none⟩ = some (.int .i64 (c : Int)) := (hB3.cell 257).trans (scnL_at s c)
          have c3 : W3.frozen? ⟨g, 257, none⟩ = false := hB3.frozen _
          go_wp2_with fail
          go_quiet ((go_at_call 81; exact Calls.quiet_of_same (index_at s (c) j _ HX.out)))
          go_wp2_with fail
          go_roundw
          case rel =>
            refine ⟨c + j, ?_, j1, gb_trans (gb_drewN hg3 _) (gb_set _), ?_⟩
            · have h := Scn.set (hB3.drewN nq) (c + j)
              rw [Int.natCast_add] at h
              exact h
            · rw [hE2.out, J2.out]; omega
          case measure =>
            have h := Scn.set (hB3.drewN nq) (c + j)
            rw [Int.natCast_add] at h
            rw [atOf_scn h, HM.out]
            omega
        · rw [if_neg hjl] at hix
          have HX := Lib.hid hix
          clear hix hj
          go_quiet (fail)
          have hB3 := hB2.drewN nq
          have hg3 := gb_drewN hg2 nq
          clear c0 c2 hB2 hg2
          generalize W2.drewN nq = W3 at *
          have c0 : W3.cell? ⟨g, 0, none⟩ = some (.string s) := hB3.cell 0
          have c2 : W3.cell? ⟨g, 257, none⟩ = some (.int .i64 (c : Int)) := (hB3.cell 257).trans (scnL_at s c)
          have c3 : W3.frozen? ⟨g, 257, none⟩ = false := hB3.frozen _
          go_wp2_with fail
          go_quiet ((go_at_call 81; exact Calls.quiet_of_same (index_at s (c) (-1) _ HX.out)))
          go_wp2_with fail
          go_roundw
          case rel =>
            refine ⟨s.size, Scn.set (hB3.drewN nq) s.size, Nat.le_refl _, gb_trans (gb_drewN hg3 _) (gb_set _), ?_⟩
            rw [hE2.out, J2.out, show c + j = s.size by omega]; omega
          case measure =>
            rw [atOf_scn (Scn.set (hB3.drewN nq) s.size), HM.out]
            omega
end Go.Proofs.YtminghdnclpocaaGreatDoor
