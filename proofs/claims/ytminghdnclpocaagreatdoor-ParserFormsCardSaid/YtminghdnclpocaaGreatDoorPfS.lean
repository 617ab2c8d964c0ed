import Derived.Test.YtminghdnclpocaaGreatDoorPbZ
import Derived.Test.YtminghdnclpocaaGreatDoorPaV
import Derived.Test.YtminghdnclpocaaGreatDoorPeZ
/-
  A source that is cut behind a token has the same tokens up to there. Plain; the law of Stops.
-/
namespace Go.Proofs.YtminghdnclpocaaGreatDoor.Lx
set_option linter.unusedVariables false

theorem Sc.cut {a : Nat} {l : List UInt8} {ts : List Tok} (h : Sc a l ts) : ∀ (us : List Tok) (t : Tok) (vs : List Tok), ts = us ++ t :: vs → t.kind ≠ 3 → ∀ (rest : List UInt8) (ts' : List Tok), Sc a (l.take (t.at_ + t.text.length - a) ++ 10 :: rest) ts' → ∃ vs', ts' = us ++ t :: vs' := by
  induction h with
  | done a l h =>
    intro us t vs e hk
    cases us with
    | nil => simp only [List.nil_append, List.cons.injEq] at e; rw [← e.1] at hk; exact absurd rfl hk
    | cons u us => simp at e
  | step a l k n ts ht hl h ih =>
    intro us t vs e hk rest ts' h'
    have hlen := tk_len ht
    have hsk := sk_le false l
    have hn : ((l.drop (sk false l)).take n).length = n := by rw [List.length_take]; omega
    rw [List.length_drop] at hlen
    have hN : sk false l + n ≤ t.at_ + t.text.length - a := by
      cases us with
      | nil =>
        simp only [List.nil_append, List.cons.injEq] at e
        rw [← e.1]
        simp only [hn]; omega
      | cons u us =>
        simp only [List.cons_append, List.cons.injEq] at e
        have := (h.within t (by rw [e.2]; simp)).1
        omega
    obtain ⟨b', g1, g2⟩ := sk_own l
    have hne := tk_ne ht
    have hb : b' = false := by
      cases b' with
      | false => rfl
      | true => exact (hne (sk_true_pos g2)).elim
    subst hb
    generalize hNN : t.at_ + t.text.length - a = N at *
    have e1 : l.take N ++ 10 :: rest = l.take (sk false l) ++ ((l.drop (sk false l)).take (N - sk false l) ++ 10 :: rest) := by
      rw [← List.append_assoc]
      congr 1
      conv => lhs; rw [show N = sk false l + (N - sk false l) by omega]
      rw [List.take_add]
    have e2 : (l.drop (sk false l)).take (N - sk false l) ++ 10 :: rest = (l.drop (sk false l)).take n ++ (((l.drop (sk false l)).drop n).take (N - sk false l - n) ++ 10 :: rest) := by
      rw [← List.append_assoc]
      congr 1
      conv => lhs; rw [show N - sk false l = n + (N - sk false l - n) by omega]
      rw [List.take_add]
    have hlk : Look ((l.drop (sk false l)).drop n) (((l.drop (sk false l)).drop n).take (N - sk false l - n) ++ 10 :: rest) := by
      cases hz : N - sk false l - n with
      | zero => exact .inr (.inr ⟨10, rest, by simp, .inl (by decide)⟩)
      | succ z =>
        cases hm : (l.drop (sk false l)).drop n with
        | nil => exact .inr (.inr ⟨10, rest, by simp, .inl (by decide)⟩)
        | cons c q => exact .inl rfl
    have htk := tk_look ht hlk
    rw [← e2] at htk
    have hs0 : sk false ((l.drop (sk false l)).take (N - sk false l) ++ 10 :: rest) = 0 := by
      have g3 := g2
      cases hm : l.drop (sk false l) with
      | nil => exact absurd hm hne
      | cons c q =>
        rw [hm] at g3
        rw [show N - sk false l = (N - sk false l - 1) + 1 by omega, List.take_succ_cons, List.cons_append]
        exact sk_same g3
    have hsl : sk false (l.take N ++ 10 :: rest) = sk false l := by rw [e1, g1, hs0]; rfl
    have hdr : (l.take N ++ 10 :: rest).drop (sk false l) = (l.drop (sk false l)).take (N - sk false l) ++ 10 :: rest := by
      rw [e1]
      exact List.drop_left' (by rw [List.length_take]; omega)
    have htn : ((l.drop (sk false l)).take (N - sk false l) ++ 10 :: rest).take n = (l.drop (sk false l)).take n := by
      rw [e2]; exact List.take_left' hn
    have hdn : ((l.drop (sk false l)).take (N - sk false l) ++ 10 :: rest).drop n = ((l.drop (sk false l)).drop n).take (N - sk false l - n) ++ 10 :: rest := by
      rw [e2]; exact List.drop_left' hn
    generalize hw : l.take N ++ 10 :: rest = w at *
    cases h' with
    | done _ _ h9 =>
      rw [hsl, hdr] at h9
      rw [h9] at htk
      exact absurd htk (by intro h; exact tk_ne h rfl)
    | step _ _ k' n' ts'' ht' hl' h'' =>
      rw [hsl, hdr] at ht'
      rw [htk] at ht'
      simp only [Sum.inr.injEq, Prod.mk.injEq] at ht'
      obtain ⟨rfl, rfl⟩ := ht'
      rw [hsl, hdr, hdn] at h''
      rw [hsl, hdr, htn]
      cases us with
      | nil =>
        simp only [List.nil_append, List.cons.injEq] at e
        exact ⟨ts'', by rw [List.nil_append, e.1]⟩
      | cons u us =>
        simp only [List.cons_append, List.cons.injEq] at e
        obtain ⟨vs', h10⟩ := ih us t vs e.2 hk rest ts'' (by
          rw [show t.at_ + t.text.length - (a + sk false l + n) = N - sk false l - n by omega]
          exact h'')
        exact ⟨vs', by rw [h10, ← e.1]; rfl⟩
/-- offsets ascend -/
theorem Sc.asc {a : Nat} {l : List UInt8} {ts : List Tok} (h : Sc a l ts) : ∀ (us : List Tok) (t : Tok) (vs : List Tok), ts = us ++ t :: vs → (∀ u ∈ us, u.at_ < t.at_ ∧ u.kind ≠ 3) ∧ (t.kind ≠ 3 → ∀ v ∈ vs, t.at_ < v.at_) := by
  induction h with
  | done a l h =>
    intro us t vs e
    cases us with
    | nil =>
      simp only [List.nil_append, List.cons.injEq] at e
      rw [← e.1, ← e.2]
      exact ⟨fun u hu => (by cases hu), fun _ v hv => (by cases hv)⟩
    | cons u us => simp at e
  | step a l k n ts ht hl h ih =>
    intro us t vs e
    have hlen := tk_len ht
    have hkd := tk_kind ht
    cases us with
    | nil =>
      simp only [List.nil_append, List.cons.injEq] at e
      rw [← e.1]
      refine ⟨fun u hu => (by cases hu), fun _ v hv => ?_⟩
      have := (h.within v (by rw [e.2]; exact hv)).1
      simp only
      omega
    | cons u us =>
      simp only [List.cons_append, List.cons.injEq] at e
      obtain ⟨h1, h2⟩ := ih us t vs e.2
      refine ⟨fun v hv => ?_, h2⟩
      rcases List.mem_cons.1 hv with rfl | hv
      · have := (h.within t (by rw [e.2]; simp)).1
        rw [← e.1]
        simp only
        omega
      · exact h1 v hv
end Go.Proofs.YtminghdnclpocaaGreatDoor.Lx
namespace Go.Proofs.YtminghdnclpocaaGreatDoor
open Go.RowKit Go.Shelf
set_option linter.unusedVariables false

theorem loopP_code {v : Int → List Int → Int × List Int} (hv : ∀ k S, (v k S).1 = 0 ∨ (v k S).1 = 2 ∨ (v k S).1 = 3 ∨ (v k S).1 = 7) : ∀ (l S : List Int), (loopP v l S).1 = 0 ∨ (loopP v l S).1 = 2 ∨ (loopP v l S).1 = 3 ∨ (loopP v l S).1 = 7
  | [], S => .inl rfl
  | k :: r, S => by
    rw [loopP]
    split
    · exact hv k S
    · exact loopP_code hv r _
theorem formP_code (n : Nk) (c : Bool) : formP n c = 0 ∨ formP n c = 2 ∨ formP n c = 3 := by
  unfold formP
  split
  · exact .inr (.inr rfl)
  · split
    · exact .inr (.inl rfl)
    · exact .inl rfl
theorem visitP_code (ns : List Nk) : ∀ (f : Nat) (a : Int) (c : Bool) (S : List Int), (visitP ns f a c S).1 = 0 ∨ (visitP ns f a c S).1 = 2 ∨ (visitP ns f a c S).1 = 3 ∨ (visitP ns f a c S).1 = 7 := by
  intro f
  induction f with
  | zero =>
    intro a c S
    unfold visitP
    split
    · exact .inr (.inr (.inl rfl))
    · exact .inr (.inr (.inr rfl))
  | succ f ih =>
    intro a c S
    unfold visitP
    split
    · exact .inr (.inr (.inl rfl))
    · dsimp only
      split
      · exact .inr (.inr (.inl rfl))
      · split
        · rename_i n _ _
          rcases formP_code n c with h | h | h <;> rw [h] <;> simp
        · exact loopP_code (fun k S => ih k _ S) _ _
theorem checkP_code (d : Po) : checkP d ≠ 4 := by
  have ht : treeP d ≠ 4 := by
    unfold treeP
    split
    · rcases visitP_code d.nodes 32 d.root true [] with h | h | h | h <;> rw [h] <;> decide
    · split <;> decide
  unfold checkP
  repeat' (first | (exact ht) | decide | split)
/-- the law of Stops -/
theorem stops_law {l rest : List UInt8} {ts : List Lx.Tok} {i : Nat} (h : Lx.sc l = .ok ts) (hp : (parseP l).2.2 = 4) (hi : i < ts.length) (ha : ts[i].at_ = (parseP l).2.1) (hk : ts[i].kind ≠ 3) :
    ts[i].at_ + ts[i].text.length ≤ l.length ∧ parseP (l.take (ts[i].at_ + ts[i].text.length) ++ 10 :: rest) = match Lx.sc (l.take (ts[i].at_ + ts[i].text.length) ++ 10 :: rest) with | .err a e => (zPo, a, (e : Int)) | .ok _ => (zPo, ts[i].at_, 4) := by
  have hS := Lx.sc_iff.1 h
  have hg := Pa.sc_good hS
  have hw := hS.within ts[i] (List.getElem_mem hi)
  refine ⟨by omega, ?_⟩
  have hpp : parseP l = parseT ts := by unfold parseP; rw [h]
  rw [hpp] at hp ha
  have hkk := Pa.policy_keeps ts hg
  cases hr : Pa.policyR ts with
  | mk o q =>
    rw [hr] at hkk
    cases o with
    | some p =>
      exfalso
      unfold parseT at hp
      rw [hr] at hp
      dsimp only at hp
      split at hp
      · exact checkP_code _ hp
      · cases hp
    | none =>
      have hat : (parseT ts).2.1 = Pa.atT q := by unfold parseT; rw [hr]
      rw [hat] at ha
      obtain ⟨us, hus⟩ := hkk.1
      have hqg := hkk.2
      simp only at hus hqg
      cases q with
      | nil => exact absurd rfl hqg.ne
      | cons t vs =>
        have hta : Pa.atT (t :: vs) = t.at_ := rfl
        rw [hta] at ha
        obtain ⟨a1, a2⟩ := hS.asc us t vs hus.symm
        have hiu : i = us.length := by
          rcases Nat.lt_trichotomy i us.length with h1 | h1 | h1
          · have h2 := (a1 us[i] (List.getElem_mem h1)).1
            have h3 : ts[i] = us[i] := by
              simp only [← hus]; exact List.getElem_append_left h1
            rw [h3] at ha
            omega
          · exact h1
          · exfalso
            obtain ⟨b1, b2⟩ := hS.asc (ts.take i) ts[i] (ts.drop (i + 1)) (by rw [List.getElem_cons_drop, List.take_append_drop])
            have h2 := (b1 t (by
              rw [← hus, List.take_append, List.take_of_length_le (by omega)]
              refine List.mem_append_right _ ?_
              rw [show i - us.length = (i - us.length - 1) + 1 by omega, List.take_succ_cons]
              exact List.mem_cons_self ..)).1
            omega
        have hti : ts[i] = t := by
          subst hiu
          simp only [← hus]
          simp
        rw [hti] at hk ⊢
        cases hs2 : Lx.sc (l.take (t.at_ + t.text.length) ++ 10 :: rest) with
        | err a e => unfold parseP; rw [hs2]
        | ok ts' =>
          obtain ⟨vs', hv⟩ := hS.cut us t vs hus.symm hk rest ts' (by simpa using Lx.sc_iff.1 hs2)
          have h6 := Pa.policy_lc us (t := t) (r := vs) (r' := vs') (by rw [hus]; exact hg) none [] (by rw [hus, hr]; rfl)
          unfold parseP
          rw [hs2]
          dsimp only
          unfold parseT
          rw [hv, h6]
          rfl
end Go.Proofs.YtminghdnclpocaaGreatDoor

/-
  dominolaw42.ParserStops.
-/
namespace Go.Proofs.YtminghdnclpocaaGreatDoor
open Go.RowKit Go.Shelf
set_option linter.unusedVariables false

theorem tl_app (u v : ByteArray) : tl (u ++ v) = tl u ++ tl v := by
  show (u ++ v).data.toList = _
  rw [ByteArray.data_append]; simp [tl]
theorem pa_out_cells {r : Po × Nat × Int} {e : Ending} {w' : World} (h : PaOut r e w') : ∃ nm ua un uc ra rn rc na nn nc rt sc lim esc, e = .returned (.tuple #[.agg #[.string nm, .slice ua un uc, .slice ra rn rc, .slice na nn nc, .int .i64 rt, .string sc, .int .i64 lim, .string esc], .int .i64 (r.2.1 : Int), .int .i64 r.2.2]) := by
  obtain ⟨L, h1, -⟩ := h
  exact ⟨_, _, _, _, _, _, _, _, _, _, _, _, _, _, h1⟩
/-- Parse, of which only the offset and the error are looked at -/
theorem parse_two (s : ByteArray) (hs : s.size ≤ 65536) (w : World) : Calls Tryz.prog 11 #[.string s] w fun e w' => (∃ nm ua un uc ra rn rc na nn nc rt sc lim esc, e = .returned (.tuple #[.agg #[.string nm, .slice ua un uc, .slice ra rn rc, .slice na nn nc, .int .i64 rt, .string sc, .int .i64 lim, .string esc], .int .i64 ((parseP (tl s)).2.1 : Int), .int .i64 (parseP (tl s)).2.2])) ∧ Below w.heap.size w w' :=
  (Parse_any s hs w).mono fun e w' ⟨h1, h2⟩ => ⟨pa_out_cells h1, h2⟩
set_option maxRecDepth 20000 in
set_option maxHeartbeats 8000000 in
theorem stops_walk (s r : ByteArray) (w : World) : Calls Tryz.prog 4 #[.string s, .string r] w fun e w' => e = .returned (.bool true) ∧ Below w.heap.size w w' := by
  have HA := Lib.hid (fun W => awake_any W)
  by_cases hs : 400 < s.size
  · have hi : (400 : Int) < (s.size : Int) := by omega
    go_enter Tryz.func4, Tryz.ntmps4
    go_wp2_with fail
    refine (HA.out _).mono ?_
    rintro e w1 ⟨rfl, hb1⟩
    go_wp2_with fail
    go_ret
    exact ⟨rfl, hb1⟩
  have hi : ¬ (400 : Int) < (s.size : Int) := by omega
  by_cases hr : 100 < r.size
  · have hj : (100 : Int) < (r.size : Int) := by omega
    go_enter Tryz.func4, Tryz.ntmps4
    go_wp2_with fail
    refine (HA.out _).mono ?_
    rintro e w1 ⟨rfl, hb1⟩
    go_wp2_with fail
    go_ret
    exact ⟨rfl, hb1⟩
  have hj : ¬ (100 : Int) < (r.size : Int) := by omega
  have HP := Lib.hid (fun W => parse_two s (by omega) W)
  cases hsc : Lx.sc (tl s) with
  | err a n =>
    have hn : ((n : Int) == 0) = false := by
      have := sc_err_ne hsc
      simp; omega
    have HS := Lib.hid (fun W => scan_err s a n W (by omega) hsc)
    go_enter Tryz.func4, Tryz.ntmps4
    go_wp2_with fail
    refine (HS.out _).mono ?_
    rintro e w1 ⟨rfl, hb1⟩
    go_wp2_with fail
    refine (HP.out _).mono ?_
    rintro e w2 ⟨⟨nm, ua, un, uc, ra, rn, rc, na, nn, nc, rt, sc, lim, esc, rfl⟩, hb2⟩
    go_wp2_with fail
    refine (HA.out _).mono ?_
    rintro e w3 ⟨rfl, hb3⟩
    go_wp2_with fail
    go_ret
    exact ⟨rfl, ((((Hp.start w).next hb1).next hb2).alloc _ |>.next hb3).below0⟩
  | ok ts =>
    have h0 : 0 < ts.length := List.length_pos_iff.2 (Pa.sc_good (Lx.sc_iff.1 hsc)).ne
    have htl : ts.length ≤ 401 := by have := toks_len (Lx.sc_iff.1 hsc); rw [length_tl] at this; omega
    have HS := Lib.hid (fun W => scan_ok s ts W (by omega) hsc h0)
    have HL := Lib.hid (fun (rest : List UInt8) (i : Nat) (h1 : (parseP (tl s)).2.2 = 4) (h2 : i < ts.length) (h3 : ts[i].at_ = (parseP (tl s)).2.1) (h4 : ts[i].kind ≠ 3) => stops_law (rest := rest) hsc h1 h2 h3 h4)
    generalize parseP (tl s) = R at *
    obtain ⟨pd, at_, E⟩ := R
    simp only at HL HP
    cases hE : (E == 4) with
    | false =>
      go_enter Tryz.func4, Tryz.ntmps4
      go_wp2_with fail
      refine (HS.out _).mono ?_
      rintro e w1 ⟨g, cap, rfl, hT, hc, hb1⟩
      go_wp2_with fail
      refine (HP.out _).mono ?_
      rintro e w2 ⟨⟨nm, ua, un, uc, ra, rn, rc, na, nn, nc, rt, sc, lim, esc, rfl⟩, hb2⟩
      go_wp2_with fail
      refine (HA.out _).mono ?_
      rintro e w3 ⟨rfl, hb3⟩
      go_wp2_with fail
      go_ret
      exact ⟨rfl, ((((Hp.start w).next hb1).next hb2).alloc _ |>.next hb3).below0⟩
    | true =>
      obtain rfl : E = 4 := by simpa using hE
      clear hE
      go_enter Tryz.func4, Tryz.ntmps4
      go_wp2_with fail
      refine (HS.out _).mono ?_
      rintro e w1 ⟨g, cap, rfl, hT, hc, hb1⟩
      have hk1 := (Hp.start w).next hb1
      go_wp2_with fail
      refine (HP.out _).mono ?_
      rintro e w2 ⟨⟨nm, ua, un, uc, ra, rn, rc, na, nn, nc, rt, sc, lim, esc, rfl⟩, hb2⟩
      have hk2 := (hk1.next hb2).alloc (.cells #[.string nm, .slice ua un uc, .slice ra rn rc, .slice na nn nc, .int .i64 rt, .string sc, .int .i64 lim, .string esc] 27)
      have hT2 := hT.below (hb2.alloc hb2.size (.cells #[.string nm, .slice ua un uc, .slice ra rn rc, .slice na nn nc, .int .i64 rt, .string sc, .int .i64 lim, .string esc] 27)) (Nat.le_refl _)
      clear HP HS hk1 hT hb1 hb2
      go_upto_region 5 with fail
      generalize w2.alloc _ = w3 at *
      go_upto_region 8 with fail
      go_loopg [11] ts.length (fun m s11 wx => ∃ i : Nat, i ≤ ts.length ∧ m = ts.length - i ∧ s11 = .int .i64 (i : Int) ∧ wx = w3)
      case atStart => exact ⟨0, Nat.zero_le _, by omega, rfl, rfl⟩
      case round =>
        obtain ⟨i, hi, rfl, rfl, rfl⟩ := hrel
        by_cases hil : i < ts.length
        · have hii : (i : Int) < (ts.length : Int) := by omega
          obtain ⟨t0, t1, t2⟩ := hT2.at i hil
          cases ha : decide (ts[i].at_ = at_) with
          | false => 
            have ha2 : (((ts[i].at_ : Nat) : Int) == ((at_ : Nat) : Int)) = false := by
              have := of_decide_eq_false ha
              simp; omega
            clear ha
            go_wp2_with fail
            go_roundg (ts.length - (i + 1))
            case measure => omega
            case rel => exact ⟨i + 1, hil, rfl, by first | rfl | simp, rfl⟩
          | true =>
            have hX : ts[i].at_ = at_ := of_decide_eq_true ha
            clear ha
            cases hb : (((ts[i].kind : Nat) : Int) == 3) with
            | true =>
              subst hX
              clear HL
              go_wp2_with fail
              go_roundg (ts.length - (i + 1))
              case measure => omega
              case rel => exact ⟨i + 1, hil, rfl, by first | rfl | simp, rfl⟩
            | false =>
              have hL := fun rest => HL.out rest i (by first | trivial | rfl) hil hX (by simp at hb; omega)
              subst hX
              obtain ⟨hle, -⟩ := hL []
              rw [length_tl] at hle
              have hL2 := Lib.hid (hL (tl r)).2
              clear hL HL
              have hpos : ¬ ((ts[i].at_ : Nat) : Int) < 0 := by omega
              have hle2 : ¬ ((s.size : Nat) : Int) < ((ts[i].at_ : Nat) : Int) + (((bs ts[i].text).size : Nat) : Int) := by rw [size_bs]; omega
              generalize hx : ts[i].text = x at *
              generalize ts[i].at_ = a at *
              generalize ts[i].kind = kk at *
              go_upto_region 14 with fail
              have hTl : tl (s.extract 0 (a + (bs x).size) ++ { data := #[10] } ++ r) = (tl s).take (a + x.length) ++ 10 :: tl r := by
                rw [tl_app, tl_app, tl_extract, size_bs]
                simp [tl]
              have hTs : (s.extract 0 (a + (bs x).size) ++ { data := #[10] } ++ r).size ≤ 65536 := by
                have := congrArg List.length hTl
                rw [length_tl, List.length_append, List.length_cons, List.length_take, length_tl, length_tl] at this
                omega
              generalize s.extract 0 (a + (bs x).size) ++ { data := #[10] } ++ r = T at *
              have hL3 := hL2.out
              rw [← hTl] at hL3
              have HQ := Lib.hid (fun W => parse_two T hTs W)
              cases hsT : Lx.sc (tl T) with
              | err b n =>
                rw [hsT] at hL3
                dsimp only at hL3
                rw [hL3] at HQ
                dsimp only at HQ
                have hn : ((n : Int) == 0) = false := by
                  have := sc_err_ne hsT
                  simp; omega
                have HS := Lib.hid (fun W => scan_err T b n W hTs hsT)
                clear hL2 hL3 hTl hTs hsT t0 t1 t2 hT2
                go_wp2_with fail
                refine (HQ.out _).mono ?_
                rintro e w4 ⟨⟨nm2, ua2, un2, uc2, ra2, rn2, rc2, na2, nn2, nc2, rt2, sc2, lim2, esc2, rfl⟩, hb4⟩
                go_wp2_with fail
                refine (HS.out _).mono ?_
                rintro e w5 ⟨rfl, hb5⟩
                go_wp2_with fail
                refine (HA.out _).mono ?_
                rintro e w6 ⟨rfl, hb6⟩
                go_wp2_with fail
                go_ret
                exact ⟨rfl, (((hk2.next hb4).alloc _ |>.next hb5).next hb6).below0⟩
              | ok ts2 =>
                rw [hsT] at hL3
                dsimp only at hL3
                rw [hL3] at HQ
                dsimp only at HQ
                have HS := Lib.hid (fun W => scan_ok T ts2 W hTs hsT (List.length_pos_iff.2 (Pa.sc_good (Lx.sc_iff.1 hsT)).ne))
                clear hL2 hL3 hTl hTs hsT t0 t1 t2 hT2
                go_wp2_with fail
                refine (HQ.out _).mono ?_
                rintro e w4 ⟨⟨nm2, ua2, un2, uc2, ra2, rn2, rc2, na2, nn2, nc2, rt2, sc2, lim2, esc2, rfl⟩, hb4⟩
                go_wp2_with fail
                refine (HS.out _).mono ?_
                rintro e w5 ⟨g2, cap2, rfl, hT5, hc5, hb5⟩
                go_wp2_with fail
                refine (HA.out _).mono ?_
                rintro e w6 ⟨rfl, hb6⟩
                go_wp2_with fail
                go_ret
                exact ⟨rfl, (((hk2.next hb4).alloc _ |>.next hb5).next hb6).below0⟩
        · have hii : ¬ (i : Int) < (ts.length : Int) := by omega
          go_wp2_with fail
          refine (HA.out _).mono ?_
          rintro e w4 ⟨rfl, hb4⟩
          go_wp2_with fail
          go_ret
          exact ⟨rfl, (hk2.next hb4).below0⟩
end Go.Proofs.YtminghdnclpocaaGreatDoor
