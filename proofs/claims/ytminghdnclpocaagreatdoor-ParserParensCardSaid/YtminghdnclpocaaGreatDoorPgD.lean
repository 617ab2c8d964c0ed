/-
  dominolaw42.ParserParens. Printed by mkpgd.py.
-/
import Derived.Test.YtminghdnclpocaaGreatDoorPqC
import Derived.Test.YtminghdnclpocaaGreatDoorPgC
namespace Go.Proofs.YtminghdnclpocaaGreatDoor
open Go.RowKit Go.Shelf
set_option linter.unusedVariables false

theorem scan_big (s : ByteArray) (w : World) (hs : 65536 < s.size) : Calls Tryz.prog 14 #[.string s] w fun e w' => e = .returned (.tuple #[.slice none 0 0, .int .i64 0, .int .i64 5]) ∧ w' = w := by
  have hi : (65536 : Int) < (s.size : Int) := by omega
  go_enter Tryz.func14, Tryz.ntmps14
  go_wp2_with fail
  go_step3
  go_wp2_with fail
  rw [Exit.noGoto_ret]
  go_ret3
  exact ⟨rfl, rfl⟩
def partB (x : List UInt8) : Bool := (x == Pa.kPolicy) || (x == Pa.kUses) || (x == Pa.kReveal) || (x == Pa.kProve) || (x == Pa.kScope) || (x == Pa.kLimit) || (x == Pa.kEscrow) || (x == Pa.kEnd)
theorem partB_mem {x : List UInt8} (h : partB x = false) : x ∉ partK := by
  simp only [partB, Bool.or_eq_false_iff, beq_eq_false_iff_ne] at h
  simp only [partK, List.mem_cons, List.not_mem_nil, or_false, not_or]
  obtain ⟨⟨⟨⟨⟨⟨⟨h1, h2⟩, h3⟩, h4⟩, h5⟩, h6⟩, h7⟩, h8⟩ := h
  exact ⟨h1, h2, h3, h4, h5, h6, h7, h8⟩
theorem bs_list (x : List UInt8) (y : List UInt8) : ((bs x).toList == y) = (x == y) := by
  rw [toList_tl, tl_bs]
set_option maxRecDepth 20000 in
set_option maxHeartbeats 8000000 in
theorem parts_any (g cap : Nat) (ts : List Lx.Tok) (W : World) (hT : TokIn W g ts) (htl : ts.length ≤ 100000) : Calls Tryz.prog 18 #[.slice (some ⟨g, 0, none⟩) ts.length cap] W fun e w' => e = .returned (.bool (ts.any fun t => partB t.text)) ∧ w' = W := by
  go_enter Tryz.func18, Tryz.ntmps18
  go_upto_region 2 with fail
  go_loopg [3] ts.length (fun m s3 wx => ∃ i : Nat, i ≤ ts.length ∧ m = ts.length - i ∧ s3 = .int .i64 (i : Int) ∧ wx = W ∧ Hid ((ts.any fun t => partB t.text) = ((ts.drop i).any fun t => partB t.text)))
  case atStart => exact ⟨0, Nat.zero_le _, rfl, rfl, rfl, Lib.hid rfl⟩
  case round =>
    obtain ⟨i, hi, rfl, rfl, rfl, HE⟩ := hrel
    by_cases hil : i < ts.length
    · have hii : (i : Int) < (ts.length : Int) := by omega
      have hi0 : (0 : Int) ≤ (i : Int) := by omega
      obtain ⟨t0, t1, t2⟩ := hT.at i hil
      have HN : Hid ((ts.any fun t => partB t.text) = (partB ts[i].text || ((ts.drop (i + 1)).any fun t => partB t.text))) := Lib.hid (by rw [HE.out, List.drop_eq_getElem_cons hil, List.any_cons])
      clear HE
      have p0 := bs_list ts[i].text [112, 111, 108, 105, 99, 121]
      have p1 := bs_list ts[i].text [117, 115, 101, 115]
      have p2 := bs_list ts[i].text [114, 101, 118, 101, 97, 108]
      have p3 := bs_list ts[i].text [112, 114, 111, 118, 101]
      have p4 := bs_list ts[i].text [115, 99, 111, 112, 101]
      have p5 := bs_list ts[i].text [108, 105, 109, 105, 116]
      have p6 := bs_list ts[i].text [101, 115, 99, 114, 111, 119]
      have p7 := bs_list ts[i].text [101, 110, 100]
      have HB : Hid (partB ts[i].text = ((ts[i].text == [112, 111, 108, 105, 99, 121]) || (ts[i].text == [117, 115, 101, 115]) || (ts[i].text == [114, 101, 118, 101, 97, 108]) || (ts[i].text == [112, 114, 111, 118, 101]) || (ts[i].text == [115, 99, 111, 112, 101]) || (ts[i].text == [108, 105, 109, 105, 116]) || (ts[i].text == [101, 115, 99, 114, 111, 119]) || (ts[i].text == [101, 110, 100]))) := Lib.hid rfl
      generalize partB ts[i].text = B at *
      generalize bs ts[i].text = tx at *
      generalize (ts[i].text == [112, 111, 108, 105, 99, 121]) = b0 at *
      generalize (ts[i].text == [117, 115, 101, 115]) = b1 at *
      generalize (ts[i].text == [114, 101, 118, 101, 97, 108]) = b2 at *
      generalize (ts[i].text == [112, 114, 111, 118, 101]) = b3 at *
      generalize (ts[i].text == [115, 99, 111, 112, 101]) = b4 at *
      generalize (ts[i].text == [108, 105, 109, 105, 116]) = b5 at *
      generalize (ts[i].text == [101, 115, 99, 114, 111, 119]) = b6 at *
      generalize (ts[i].text == [101, 110, 100]) = b7 at *
      cases b0 with
      | true =>
        have HD : Hid ((ts.any fun t => partB t.text) = true) := Lib.hid (by rw [HN.out, HB.out]; simp)
        clear HN HB
        go_wp2_with fail
        go_ret
        exact ⟨ret_val (by first | (rw [HD.out]; rfl) | rw [HD.out]), rfl⟩
      | false =>
        cases b1 with
        | true =>
          have HD : Hid ((ts.any fun t => partB t.text) = true) := Lib.hid (by rw [HN.out, HB.out]; simp)
          clear HN HB
          go_wp2_with fail
          go_ret
          exact ⟨ret_val (by first | (rw [HD.out]; rfl) | rw [HD.out]), rfl⟩
        | false =>
          cases b2 with
          | true =>
            have HD : Hid ((ts.any fun t => partB t.text) = true) := Lib.hid (by rw [HN.out, HB.out]; simp)
            clear HN HB
            go_wp2_with fail
            go_ret
            exact ⟨ret_val (by first | (rw [HD.out]; rfl) | rw [HD.out]), rfl⟩
          | false =>
            cases b3 with
            | true =>
              have HD : Hid ((ts.any fun t => partB t.text) = true) := Lib.hid (by rw [HN.out, HB.out]; simp)
              clear HN HB
              go_wp2_with fail
              go_ret
              exact ⟨ret_val (by first | (rw [HD.out]; rfl) | rw [HD.out]), rfl⟩
            | false =>
              cases b4 with
              | true =>
                have HD : Hid ((ts.any fun t => partB t.text) = true) := Lib.hid (by rw [HN.out, HB.out]; simp)
                clear HN HB
                go_wp2_with fail
                go_ret
                exact ⟨ret_val (by first | (rw [HD.out]; rfl) | rw [HD.out]), rfl⟩
              | false =>
                cases b5 with
                | true =>
                  have HD : Hid ((ts.any fun t => partB t.text) = true) := Lib.hid (by rw [HN.out, HB.out]; simp)
                  clear HN HB
                  go_wp2_with fail
                  go_ret
                  exact ⟨ret_val (by first | (rw [HD.out]; rfl) | rw [HD.out]), rfl⟩
                | false =>
                  cases b6 with
                  | true =>
                    have HD : Hid ((ts.any fun t => partB t.text) = true) := Lib.hid (by rw [HN.out, HB.out]; simp)
                    clear HN HB
                    go_wp2_with fail
                    go_ret
                    exact ⟨ret_val (by first | (rw [HD.out]; rfl) | rw [HD.out]), rfl⟩
                  | false =>
                    cases b7 with
                    | true =>
                      have HD : Hid ((ts.any fun t => partB t.text) = true) := Lib.hid (by rw [HN.out, HB.out]; simp)
                      clear HN HB
                      go_wp2_with fail
                      go_ret
                      exact ⟨ret_val (by first | (rw [HD.out]; rfl) | rw [HD.out]), rfl⟩
                    | false =>
                      have HX := Lib.hid (by rw [HN.out, HB.out]; rfl : (ts.any fun t => partB t.text) = ((ts.drop (i + 1)).any fun t => partB t.text))
                      clear HN HB
                      go_wp2_with fail
                      go_roundg (ts.length - (i + 1))
                      case measure => omega
                      case rel => exact ⟨i + 1, hil, rfl, by first | rfl | simp, rfl, HX⟩
    · obtain rfl : i = ts.length := by omega
      have hii : ¬ (ts.length : Int) < (ts.length : Int) := by omega
      have HD : Hid ((ts.any fun t => partB t.text) = false) := Lib.hid (by rw [HE.out, List.drop_of_length_le (Nat.le_refl _)]; rfl)
      go_wp2_with fail
      go_ret
      exact ⟨ret_val (by first | (rw [HD.out]; rfl) | rw [HD.out]), rfl⟩
theorem ba_of (s : ByteArray) : (⟨(tl s).toArray⟩ : ByteArray) = s := by
  apply eq_of_tl
  simp [tl]
theorem body_ba (s : ByteArray) (hs : s.size ≤ 1000) : ∃ T : ByteArray, tl T = cmPre ++ 32 :: (tl s ++ cmEnd) ∧ ∀ W, Calls Tryz.prog 16 #[.string s] W fun e w' => e = .returned (.string T) ∧ Below W.heap.size W w' := by
  refine ⟨⟨(cmPre ++ 32 :: (tl s ++ cmEnd)).toArray⟩, by simp [tl], fun W => ?_⟩
  have := body_any (tl s) (by rw [length_tl]; exact hs) W
  rw [ba_of] at this
  exact this
/-- nodes behind a 'not' -/
theorem not_nodes {a b : Po} {n : Int} (h : a.er = (b.notP n).er) : a.nodes.length = b.nodes.length + 1 ∧ (∃ x, a.nodes[0]? = some x ∧ x.kind = 2) ∧ ∀ i x, b.nodes[i]? = some x → ∃ y, a.nodes[i + 1]? = some y ∧ y.kind = x.kind ∧ y.num = x.num ∧ y.name = x.name ∧ y.attr = x.attr ∧ y.kids.length = x.kids.length := by
  have h1 : a.nodes.map Nk.er = (b.notP n).nodes.map Nk.er := (congrArg Po.nodes h : _)
  have hl := congrArg List.length h1
  rw [List.length_map, List.length_map, Po.notP, List.length_cons, List.length_map] at hl
  refine ⟨hl, ?_, fun i x hx => ?_⟩
  · have h2 := congrArg (fun l => l[0]?) h1
    simp only [List.getElem?_map, Po.notP, List.map_cons, List.getElem?_cons_zero] at h2
    cases h3 : a.nodes[0]? with
    | none => rw [h3] at h2; cases h2
    | some y =>
      rw [h3] at h2
      simp only [Option.map_some, Option.some.injEq] at h2
      exact ⟨y, rfl, (congrArg Nk.kind h2 : _)⟩
  · have h2 := congrArg (fun l => l[i + 1]?) h1
    simp only [List.getElem?_map, Po.notP, List.map_cons, List.getElem?_cons_succ, hx, Option.map_some] at h2
    cases h3 : a.nodes[i + 1]? with
    | none => rw [h3] at h2; cases h2
    | some y =>
      rw [h3] at h2
      simp only [Option.map_some, Option.some.injEq] at h2
      have e5 : y.kids = x.kids.map (· + 1) := (congrArg Nk.kids h2 : _)
      exact ⟨y, rfl, (congrArg Nk.kind h2 : _), (congrArg Nk.num h2 : _), (congrArg Nk.name h2 : _), (congrArg Nk.attr h2 : _), by rw [e5, List.length_map]⟩
set_option maxRecDepth 20000 in
set_option maxHeartbeats 16000000 in
theorem parens_walk (s : ByteArray) (w : World) : Calls Tryz.prog 8 #[.string s] w fun e w' => e = .returned (.bool true) ∧ Below w.heap.size w w' := by
  have HA := Lib.hid (fun W => awake_any W)
  by_cases hbig : 65536 < s.size
  · have HS := Lib.hid (fun W => scan_big s W hbig)
    have hi : (300 : Int) < (s.size : Int) := by omega
    go_enter Tryz.func8, Tryz.ntmps8
    go_wp2_with fail
    refine (HS.out _).mono ?_
    rintro e w1 ⟨rfl, rfl⟩
    go_wp2_with fail
    refine (HA.out _).mono ?_
    rintro e wf ⟨rfl, hbf⟩
    go_wp2_with fail
    go_ret
    exact ⟨rfl, hbf⟩
  cases hsc : Lx.sc (tl s) with
  | err a n =>
    have HS := Lib.hid (fun W => scan_err s a n W (by omega) hsc)
    have hn : ((n : Int) != 0) = true := by
      have := sc_err_ne hsc
      rw [bne_iff_ne]; omega
    clear hsc
    by_cases hi : (300 : Int) < (s.size : Int)
    · go_enter Tryz.func8, Tryz.ntmps8
      go_wp2_with fail
      refine (HS.out _).mono ?_
      rintro e w1 ⟨rfl, hb1⟩
      go_wp2_with fail
      refine (HA.out _).mono ?_
      rintro e wf ⟨rfl, hbf⟩
      go_wp2_with fail
      go_ret
      exact ⟨rfl, hb1.trans (hbf.mono hb1.size)⟩
    · go_enter Tryz.func8, Tryz.ntmps8
      go_wp2_with fail
      refine (HS.out _).mono ?_
      rintro e w1 ⟨rfl, hb1⟩
      go_wp2_with fail
      refine (HA.out _).mono ?_
      rintro e wf ⟨rfl, hbf⟩
      go_wp2_with fail
      go_ret
      exact ⟨rfl, hb1.trans (hbf.mono hb1.size)⟩
  | ok ts =>
    have h0 : 0 < ts.length := List.length_pos_iff.2 (Pa.sc_good (Lx.sc_iff.1 hsc)).ne
    have HS := Lib.hid (fun W => scan_ok s ts W (by omega) hsc h0)
    by_cases hi : (300 : Int) < (s.size : Int)
    · clear hsc
      go_enter Tryz.func8, Tryz.ntmps8
      go_wp2_with fail
      refine (HS.out _).mono ?_
      rintro e w1 ⟨g, cap, rfl, hT, hc, hb1⟩
      go_wp2_with fail
      refine (HA.out _).mono ?_
      rintro e wf ⟨rfl, hbf⟩
      go_wp2_with fail
      go_ret
      exact ⟨rfl, hb1.trans (hbf.mono hb1.size)⟩
    have htl : ts.length ≤ 301 := by have := toks_len (Lx.sc_iff.1 hsc); rw [length_tl] at this; omega
    cases hpt : (ts.any fun t => partB t.text) with
    | true =>
      have HT := Lib.hid (fun g cap W h => parts_any g cap ts W h (by omega))
      rw [hpt] at HT
      clear hsc hpt
      go_enter Tryz.func8, Tryz.ntmps8
      go_wp2_with fail
      refine (HS.out _).mono ?_
      rintro e w1 ⟨g, cap, rfl, hT, hc, hb1⟩
      have HT2 := Lib.hid (HT.out g cap w1 hT)
      clear HT
      go_wp2_with fail
      refine HT2.out.mono ?_
      rintro e w2 ⟨rfl, rfl⟩
      go_wp2_with fail
      refine (HA.out _).mono ?_
      rintro e wf ⟨rfl, hbf⟩
      go_wp2_with fail
      go_ret
      exact ⟨rfl, hb1.trans (hbf.mono hb1.size)⟩
    | false =>
      have HT := Lib.hid (fun g cap W h => parts_any g cap ts W h (by omega))
      rw [hpt] at HT
      have hs3 : s.size ≤ 300 := by omega
      have hpp : ∀ t ∈ ts, t.text ∉ partK := fun t ht => partB_mem (by
        have := List.any_eq_false.1 hpt t ht
        simpa using this)
      obtain ⟨T1, e1, B1⟩ := body_ba s (by omega)
      obtain ⟨T2, e2, B2⟩ := body_ba (⟨#[40]⟩ ++ s ++ ⟨#[10, 41]⟩) (by simp only [ByteArray.size_append]; show 1 + s.size + 2 ≤ 1000; omega)
      obtain ⟨T3, e3, B3⟩ := body_ba (⟨#[110, 111, 116, 40]⟩ ++ s ++ ⟨#[10, 41]⟩) (by simp only [ByteArray.size_append]; show 4 + s.size + 2 ≤ 1000; omega)
      have q1 : tl T1 = paP1 (tl s) := e1
      have q2 : tl T2 = paP2 (tl s) := by rw [e2, tl_app, tl_app]; simp [paP2, tl, cmClose]
      have q3 : tl T3 = paP3 (tl s) := by rw [e3, tl_app, tl_app]; simp [paP3, tl, cmClose]
      have HL := Lib.hid (fun h => parens_law hsc hpp h)
      have z1 : T1.size ≤ 1000 := by rw [← length_tl, q1]; simp only [paP1, List.length_append, List.length_cons, length_tl, List.length_nil]; omega
      have z2 : T2.size ≤ 1000 := by rw [← length_tl, q2]; simp only [paP2, List.length_append, List.length_cons, length_tl, List.length_nil]; omega
      have z3 : T3.size ≤ 1000 := by rw [← length_tl, q3]; simp only [paP3, List.length_append, List.length_cons, length_tl, List.length_nil]; omega
      have bd1 := parse_pbd (tl T1) (by rw [length_tl]; omega)
      have bd2 := parse_pbd (tl T2) (by rw [length_tl]; omega)
      have bd3 := parse_pbd (tl T3) (by rw [length_tl]; omega)
      have HP1 := Lib.hid (fun W => Parse_any T1 (by omega) W)
      have HP2 := Lib.hid (fun W => Parse_any T2 (by omega) W)
      have HP3 := Lib.hid (fun W => Parse_any T3 (by omega) W)
      rw [q1] at bd1 HP1
      rw [q2] at bd2 HP2
      rw [q3] at bd3 HP3
      have HB1 := Lib.hid B1
      have HB2 := Lib.hid B2
      have HB3 := Lib.hid B3
      clear hsc hpt hpp e1 e2 e3 B1 B2 B3 q1 q2 q3 z1 z2 z3
      generalize parseP (paP1 (tl s)) = R1 at *
      generalize parseP (paP2 (tl s)) = R2 at *
      generalize parseP (paP3 (tl s)) = R3 at *
      obtain ⟨pd1, at1, E1⟩ := R1
      obtain ⟨pd2, at2, E2⟩ := R2
      obtain ⟨pd3, at3, E3⟩ := R3
      simp only at HL bd1 bd2 bd3
      go_enter Tryz.func8, Tryz.ntmps8
      go_wp2_with fail
      refine (HS.out _).mono ?_
      rintro e wa ⟨g, cap, rfl, hT, hc, hb1⟩
      have hk0 := (Hp.start w).next hb1
      have HT2 := Lib.hid (HT.out g cap wa hT)
      clear HT hb1 hT
      go_wp2_with fail
      refine HT2.out.mono ?_
      rintro e w2 ⟨rfl, rfl⟩
      clear HT2
      go_wp2_with fail
      refine (HB1.out _).mono ?_
      rintro e wb ⟨rfl, hbb⟩
      have hkb := hk0.next hbb
      go_wp2_with fail
      refine (HP1.out _).mono ?_
      rintro e wp ⟨⟨L1, rfl, hM⟩, hbp⟩
      have hk1 := (hkb.next hbp).new 27 (polcs pd1 L1)
      have hba := (Below.refl wp.heap.size wp).alloc (Nat.le_refl _) (.cells #[.string pd1.name, .slice L1.ua pd1.uses.length L1.uc, .slice L1.ra pd1.reveal.length L1.rc, .slice L1.na pd1.nodes.length L1.nc, .int .i64 pd1.root, .string pd1.scope, .int .i64 pd1.limit, .string pd1.escrow] 27)
      have M1 := hM.up hba
      clear hM hbb hbp hba hkb HB1 HP1 hk0
      go_upto_region 5 with fail
      obtain ⟨g1, hg1⟩ : ∃ g, wp.heap.size = g := ⟨_, rfl⟩
      simp only [hg1] at hk1 ⊢
      generalize wp.alloc _ = w1 at *
      clear hg1 wp wb
      go_wp2_with fail
      refine (HB2.out _).mono ?_
      rintro e wb ⟨rfl, hbb⟩
      have hkb := hk1.next hbb
      go_wp2_with fail
      refine (HP2.out _).mono ?_
      rintro e wp ⟨⟨L2, rfl, hM⟩, hbp⟩
      have hk2 := (hkb.next hbp).new 27 (polcs pd2 L2)
      have hba := (Below.refl wp.heap.size wp).alloc (Nat.le_refl _) (.cells #[.string pd2.name, .slice L2.ua pd2.uses.length L2.uc, .slice L2.ra pd2.reveal.length L2.rc, .slice L2.na pd2.nodes.length L2.nc, .int .i64 pd2.root, .string pd2.scope, .int .i64 pd2.limit, .string pd2.escrow] 27)
      have M2 := hM.up hba
      replace M1 := ((M1.up hbb).up hbp).up hba
      clear hM hbb hbp hba hkb HB2 HP2 hk1
      go_upto_region 6 with fail
      obtain ⟨g2, hg2⟩ : ∃ g, wp.heap.size = g := ⟨_, rfl⟩
      simp only [hg2] at hk2 ⊢
      generalize wp.alloc _ = w2 at *
      clear hg2 wp wb
      go_wp2_with fail
      refine (HB3.out _).mono ?_
      rintro e wb ⟨rfl, hbb⟩
      have hkb := hk2.next hbb
      go_wp2_with fail
      refine (HP3.out _).mono ?_
      rintro e wp ⟨⟨L3, rfl, hM⟩, hbp⟩
      have hk3 := (hkb.next hbp).new 27 (polcs pd3 L3)
      have hba := (Below.refl wp.heap.size wp).alloc (Nat.le_refl _) (.cells #[.string pd3.name, .slice L3.ua pd3.uses.length L3.uc, .slice L3.ra pd3.reveal.length L3.rc, .slice L3.na pd3.nodes.length L3.nc, .int .i64 pd3.root, .string pd3.scope, .int .i64 pd3.limit, .string pd3.escrow] 27)
      have M3 := hM.up hba
      replace M1 := ((M1.up hbb).up hbp).up hba
      replace M2 := ((M2.up hbb).up hbp).up hba
      clear hM hbb hbp hba hkb HB3 HP3 hk2
      go_upto_region 7 with fail
      obtain ⟨g3, hg3⟩ : ∃ g, wp.heap.size = g := ⟨_, rfl⟩
      simp only [hg3] at hk3 ⊢
      generalize wp.alloc _ = w3 at *
      clear hg3 wp wb
      by_cases hE1 : E1 = 0
      · subst hE1
        obtain ⟨hE2, hsm, hl⟩ := HL.out rfl
        subst hE2
        clear HL
        have HSm := Lib.hid (fun W h1 h2 => psame_any pd1 pd2 L1 L2 bd1 bd2 W h1 h2)
        rw [hsm] at HSm
        clear hsm
        obtain ⟨c0, c1, c2, c3, c4, c5, c6, c7⟩ := (hk3.blk 2 rfl).get8
        obtain ⟨d0, d1, d2, d3, d4, d5, d6, d7⟩ := (hk3.blk 1 rfl).get8
        have HS2 := Lib.hid (HSm.out _ M1 M2)
        have HLL := Lib.hid hl
        clear HSm hl
        go_wp2_with fail
        refine HS2.out.mono ?_
        rintro e w5 ⟨rfl, hb5⟩
        have hk5 := hk3.next hb5
        have N1 := M1.up hb5
        have N3 := M3.up hb5
        clear HS2 hk3 M1 M2 M3 c0 c1 c2 c3 c4 c5 c6 c7 d0 d1 d2 d3 d4 d5 d6 d7
        rcases HLL.out with h6 | h6 | ⟨h6, n, h7⟩
        · subst h6
          clear HLL
          go_wp2_with fail
          refine (HA.out _).mono ?_
          rintro e wf ⟨rfl, hbf⟩
          go_wp2_with fail
          go_ret
          exact ⟨rfl, (hk5.next hbf).below0⟩
        · subst h6
          clear HLL
          go_wp2_with fail
          refine (HA.out _).mono ?_
          rintro e wf ⟨rfl, hbf⟩
          go_wp2_with fail
          go_ret
          exact ⟨rfl, (hk5.next hbf).below0⟩
        · subst h6
          obtain ⟨hlen, ⟨x0', hx0', hk2⟩, hall⟩ := not_nodes h7
          have HALL := Lib.hid hall
          clear HLL h7 hall
          have m1 := hk5.blk 2 rfl
          have m3 := hk5.blk 0 rfl
          obtain ⟨c0, c1, c2, c3, c4, c5, c6, c7⟩ := m1.get8
          obtain ⟨d0, d1, d2, d3, d4, d5, d6, d7⟩ := m3.get8
          obtain ⟨bd, KY, ky, hna, ny⟩ := N3.ns.at_ 0 _ hx0'
          rw [hna] at d3
          have HNA := Lib.hid hna
          clear hna
          obtain ⟨y0, -, -, -, -, -, -⟩ := ny
          rw [hk2, Nat.zero_mul, add_none] at y0
          have hlen1 : pd1.nodes.length ≤ 1000000 := bd1.nl
          have hw1 : IntKind.i64.wrap ((pd1.nodes.length : Int) + 1) = (pd1.nodes.length : Int) + 1 := IntWalk.i64_in _ (by omega)
          have hlen2 : ((pd3.nodes.length : Int) != (pd1.nodes.length : Int) + 1) = false := by rw [hlen]; simp
          have hpos : (0 : Int) < (pd3.nodes.length : Int) := by omega
          have hLN := Lib.hid hlen
          clear hlen hk2 hx0'
          go_upto_region 16 with fail
          clear y0 c0 c1 c2 c3 c4 c5 c6 c7 d0 d1 d2 d3 d4 d5 d6 d7 hlen2 hw1
          go_loopg [15] pd1.nodes.length (fun m s15 wx => ∃ i : Nat, i ≤ pd1.nodes.length ∧ m = pd1.nodes.length - i ∧ s15 = .int .i64 (i : Int) ∧ Below w5.heap.size w5 wx)
          case atStart => exact ⟨0, Nat.zero_le _, rfl, rfl, Below.refl _ _⟩
          case round =>
            obtain ⟨i, hi9, rfl, rfl, hbx⟩ := hrel
            have mr1 := m1.up hbx
            have mr3 := m3.up hbx
            have c3 := mr1.cell 3
            have d3 := mr3.cell 3
            simp only [List.getElem?_cons_zero, List.getElem?_cons_succ] at c3 d3
            by_cases hil : i < pd1.nodes.length
            · have hii : (i : Int) < (pd1.nodes.length : Int) := by omega
              have hi0 : (0 : Int) ≤ (i : Int) := by omega
              have hi1 : (i : Int) + 1 < (pd3.nodes.length : Int) := by have := hLN.out; omega
              have hw1 : IntKind.i64.wrap ((i : Int) + 1) = (i : Int) + 1 := IntWalk.i64_in _ (by omega)
              have hti : ((i : Int) + 1).toNat = i + 1 := by omega
              have hi2 : 0 ≤ (i : Int) + 1 := by omega
              obtain ⟨x, hx⟩ : ∃ x, pd1.nodes[i]? = some x := ⟨_, List.getElem?_eq_getElem hil⟩
              obtain ⟨y, hy, k1, k2, k3, k4, k5⟩ := HALL.out i x hx
              obtain ⟨ad, KX, kx, hna1, nx⟩ := (N1.up hbx).ns.at_ i x hx
              obtain ⟨bd', KZ, kz, hnb1, ny⟩ := (N3.up hbx).ns.at_ (i + 1) y hy
              obtain ⟨yk, yn, ynm, ya, yks, yat⟩ := y
              simp only at k1 k2 k3 k4 k5
              subst k1 k2 k3 k4
              rw [HNA.out] at hnb1
              obtain rfl : bd = bd' := by injection hnb1
              rw [hna1] at c3
              rw [HNA.out] at d3
              obtain ⟨x0, x1, x2, x3, x4, x5, -⟩ := nx
              obtain ⟨y0, y1, y2, y3, y4, y5, -⟩ := ny
              simp only at y0 y1 y2 y3 y4 y5
              have hkl : ((x.kids.length : Int) != (yks.length : Int)) = false := by rw [k5]; simp
              clear k5 hx hy hna1 hnb1
              go_upto_region 18 with fail
              go_cut [16, 17] from 106 to 116 (fun s16 s17 wx => ∃ g16 g17, s16 = pptr g16 ∧ s17 = pptr g17 ∧ Blk wx g16 46 [.int .i64 x.kind, .int .i64 x.num, .string x.name, .string x.attr, .slice KX x.kids.length kx, .int .i64 x.at_] ∧ Blk wx g17 46 [.int .i64 x.kind, .int .i64 x.num, .string x.name, .string x.attr, .slice KZ yks.length kz, .int .i64 yat] ∧ Below wr.heap.size wr wx)
              case first => as_aux_lemma =>
                refine wp_region_held_drew (S := (fun w' => Below wr.heap.size wr w')) (by kernel_rfl) ?_ (fun hHeld => ?_)
                · exact (Below.refl _ _).drew
                refine wpAnyH_take (i := 0) (v := ?_) rfl (by kernel_rfl) (by kernel_rfl) (by kernel_rfl) (fun _ _ _ h => h) (Or.inl ⟨by rfl, ?_⟩) (by assumption) ?_
                rotate_left
                · (intro w hSw; (try dsimp only at hSw); (have s0 := scell_up c3 hSw; have s1 := scell_up d3 hSw; have s2 := scell_up x0 hSw; have s3 := scell_up x1 hSw; have s4 := scell_up x2 hSw; have s5 := scell_up x3 hSw; have s6 := scell_up x4 hSw; have s7 := scell_up x5 hSw; have s8 := scell_up y0 hSw; have s9 := scell_up y1 hSw; have s10 := scell_up y2 hSw; have s11 := scell_up y3 hSw; have s12 := scell_up y4 hSw; have s13 := scell_up y5 hSw); go_simp; (try with_reducible rfl))
                try simp only [Act.put, List.getElem_toArray, List.getElem_cons_zero, List.setIfInBounds_toArray, List.set_cons_zero, List.set_cons_succ]
                refine wpAnyH_take (i := 1) (v := ?_) rfl (by kernel_rfl) (by kernel_rfl) (by kernel_rfl) (fun _ _ _ h => h) (Or.inl ⟨by rfl, ?_⟩) (by assumption) ?_
                rotate_left
                · (intro w hSw; (try dsimp only at hSw); (have s0 := scell_up c3 hSw; have s1 := scell_up d3 hSw; have s2 := scell_up x0 hSw; have s3 := scell_up x1 hSw; have s4 := scell_up x2 hSw; have s5 := scell_up x3 hSw; have s6 := scell_up x4 hSw; have s7 := scell_up x5 hSw; have s8 := scell_up y0 hSw; have s9 := scell_up y1 hSw; have s10 := scell_up y2 hSw; have s11 := scell_up y3 hSw; have s12 := scell_up y4 hSw; have s13 := scell_up y5 hSw); go_simp; (try with_reducible rfl))
                try simp only [Act.put, List.getElem_toArray, List.getElem_cons_zero, List.getElem_cons_succ, List.setIfInBounds_toArray, List.set_cons_zero, List.set_cons_succ]
                refine wpAnyH_take (i := 2) (v := ?_) rfl (by kernel_rfl) (by kernel_rfl) (by kernel_rfl) (fun _ _ _ h => h) (Or.inl ⟨by rfl, ?_⟩) (by assumption) ?_
                rotate_left
                · (intro w hSw; (try dsimp only at hSw); (have s0 := scell_up c3 hSw; have s1 := scell_up d3 hSw; have s2 := scell_up x0 hSw; have s3 := scell_up x1 hSw; have s4 := scell_up x2 hSw; have s5 := scell_up x3 hSw; have s6 := scell_up x4 hSw; have s7 := scell_up x5 hSw; have s8 := scell_up y0 hSw; have s9 := scell_up y1 hSw; have s10 := scell_up y2 hSw; have s11 := scell_up y3 hSw; have s12 := scell_up y4 hSw; have s13 := scell_up y5 hSw); go_simp; (try with_reducible rfl))
                try simp only [Act.put, List.getElem_toArray, List.getElem_cons_zero, List.getElem_cons_succ, List.setIfInBounds_toArray, List.set_cons_zero, List.set_cons_succ]
                refine wpAnyH_take (i := 3) (v := ?_) rfl (by kernel_rfl) (by kernel_rfl) (by kernel_rfl) (fun _ _ _ h => h) (Or.inl ⟨by rfl, ?_⟩) (by assumption) ?_
                rotate_left
                · (intro w hSw; (try dsimp only at hSw); (have s0 := scell_up c3 hSw; have s1 := scell_up d3 hSw; have s2 := scell_up x0 hSw; have s3 := scell_up x1 hSw; have s4 := scell_up x2 hSw; have s5 := scell_up x3 hSw; have s6 := scell_up x4 hSw; have s7 := scell_up x5 hSw; have s8 := scell_up y0 hSw; have s9 := scell_up y1 hSw; have s10 := scell_up y2 hSw; have s11 := scell_up y3 hSw; have s12 := scell_up y4 hSw; have s13 := scell_up y5 hSw); go_simp; (try with_reducible rfl))
                try simp only [Act.put, List.getElem_toArray, List.getElem_cons_zero, List.getElem_cons_succ, List.setIfInBounds_toArray, List.set_cons_zero, List.set_cons_succ]
                refine wpAnyH_take (i := 4) (v := ?_) rfl (by kernel_rfl) (by kernel_rfl) (by kernel_rfl) (fun _ _ _ h => h) (Or.inl ⟨by rfl, ?_⟩) (by assumption) ?_
                rotate_left
                · (intro w hSw; (try dsimp only at hSw); (have s0 := scell_up c3 hSw; have s1 := scell_up d3 hSw; have s2 := scell_up x0 hSw; have s3 := scell_up x1 hSw; have s4 := scell_up x2 hSw; have s5 := scell_up x3 hSw; have s6 := scell_up x4 hSw; have s7 := scell_up x5 hSw; have s8 := scell_up y0 hSw; have s9 := scell_up y1 hSw; have s10 := scell_up y2 hSw; have s11 := scell_up y3 hSw; have s12 := scell_up y4 hSw; have s13 := scell_up y5 hSw); go_simp; (try with_reducible rfl))
                try simp only [Act.put, List.getElem_toArray, List.getElem_cons_zero, List.getElem_cons_succ, List.setIfInBounds_toArray, List.set_cons_zero, List.set_cons_succ]
                refine wpAnyH_take (i := 5) (v := ?_) rfl (by kernel_rfl) (by kernel_rfl) (by kernel_rfl) (fun _ _ _ h => h) (Or.inl ⟨by rfl, ?_⟩) (by assumption) ?_
                rotate_left
                · (intro w hSw; (try dsimp only at hSw); (have s0 := scell_up c3 hSw; have s1 := scell_up d3 hSw; have s2 := scell_up x0 hSw; have s3 := scell_up x1 hSw; have s4 := scell_up x2 hSw; have s5 := scell_up x3 hSw; have s6 := scell_up x4 hSw; have s7 := scell_up x5 hSw; have s8 := scell_up y0 hSw; have s9 := scell_up y1 hSw; have s10 := scell_up y2 hSw; have s11 := scell_up y3 hSw; have s12 := scell_up y4 hSw; have s13 := scell_up y5 hSw); go_simp; (try with_reducible rfl))
                try simp only [Act.put, List.getElem_toArray, List.getElem_cons_zero, List.getElem_cons_succ, List.setIfInBounds_toArray, List.set_cons_zero, List.set_cons_succ]
                refine wpAnyH_take (i := 6) (v := ?_) rfl (by kernel_rfl) (by kernel_rfl) (by kernel_rfl) (fun _ _ _ h => h) (Or.inl ⟨by rfl, ?_⟩) (by assumption) ?_
                rotate_left
                · (intro w hSw; (try dsimp only at hSw); (have s0 := scell_up c3 hSw; have s1 := scell_up d3 hSw; have s2 := scell_up x0 hSw; have s3 := scell_up x1 hSw; have s4 := scell_up x2 hSw; have s5 := scell_up x3 hSw; have s6 := scell_up x4 hSw; have s7 := scell_up x5 hSw; have s8 := scell_up y0 hSw; have s9 := scell_up y1 hSw; have s10 := scell_up y2 hSw; have s11 := scell_up y3 hSw; have s12 := scell_up y4 hSw; have s13 := scell_up y5 hSw); go_simp; (try with_reducible rfl))
                try simp only [Act.put, List.getElem_toArray, List.getElem_cons_zero, List.getElem_cons_succ, List.setIfInBounds_toArray, List.set_cons_zero, List.set_cons_succ]
                refine wpAnyH_take (i := 7) (v := ?_) rfl (by kernel_rfl) (by kernel_rfl) (by kernel_rfl) (fun _ _ _ h => h) (Or.inl ⟨by rfl, ?_⟩) (by assumption) ?_
                rotate_left
                · (intro w hSw; (try dsimp only at hSw); (have s0 := scell_up c3 hSw; have s1 := scell_up d3 hSw; have s2 := scell_up x0 hSw; have s3 := scell_up x1 hSw; have s4 := scell_up x2 hSw; have s5 := scell_up x3 hSw; have s6 := scell_up x4 hSw; have s7 := scell_up x5 hSw; have s8 := scell_up y0 hSw; have s9 := scell_up y1 hSw; have s10 := scell_up y2 hSw; have s11 := scell_up y3 hSw; have s12 := scell_up y4 hSw; have s13 := scell_up y5 hSw); go_simp; (try with_reducible rfl))
                try simp only [Act.put, List.getElem_toArray, List.getElem_cons_zero, List.getElem_cons_succ, List.setIfInBounds_toArray, List.set_cons_zero, List.set_cons_succ]
                refine wpAnyH_take (i := 8) (v := ?_) rfl (by kernel_rfl) (by kernel_rfl) (by kernel_rfl) (fun _ _ _ h => h) (Or.inl ⟨by rfl, ?_⟩) (by assumption) ?_
                rotate_left
                · (intro w hSw; (try dsimp only at hSw); (have s0 := scell_up c3 hSw; have s1 := scell_up d3 hSw; have s2 := scell_up x0 hSw; have s3 := scell_up x1 hSw; have s4 := scell_up x2 hSw; have s5 := scell_up x3 hSw; have s6 := scell_up x4 hSw; have s7 := scell_up x5 hSw; have s8 := scell_up y0 hSw; have s9 := scell_up y1 hSw; have s10 := scell_up y2 hSw; have s11 := scell_up y3 hSw; have s12 := scell_up y4 hSw; have s13 := scell_up y5 hSw); go_simp; (try with_reducible rfl))
                try simp only [Act.put, List.getElem_toArray, List.getElem_cons_zero, List.getElem_cons_succ, List.setIfInBounds_toArray, List.set_cons_zero, List.set_cons_succ]
                refine wpAnyH_take (i := 9) (v := ?_) rfl (by kernel_rfl) (by kernel_rfl) (by kernel_rfl) (fun _ _ _ h => h) (Or.inl ⟨by rfl, ?_⟩) (by assumption) ?_
                rotate_left
                · (intro w hSw; (try dsimp only at hSw); (have s0 := scell_up c3 hSw; have s1 := scell_up d3 hSw; have s2 := scell_up x0 hSw; have s3 := scell_up x1 hSw; have s4 := scell_up x2 hSw; have s5 := scell_up x3 hSw; have s6 := scell_up x4 hSw; have s7 := scell_up x5 hSw; have s8 := scell_up y0 hSw; have s9 := scell_up y1 hSw; have s10 := scell_up y2 hSw; have s11 := scell_up y3 hSw; have s12 := scell_up y4 hSw; have s13 := scell_up y5 hSw); go_simp; (try with_reducible rfl))
                try simp only [Act.put, List.getElem_toArray, List.getElem_cons_zero, List.getElem_cons_succ, List.setIfInBounds_toArray, List.set_cons_zero, List.set_cons_succ]
                refine wpAnyH_take (i := 10) (v := ?_) rfl (by kernel_rfl) (by kernel_rfl) (by kernel_rfl) (fun _ _ _ h => h) (Or.inl ⟨by rfl, ?_⟩) (by assumption) ?_
                rotate_left
                · (intro w hSw; (try dsimp only at hSw); (have s0 := scell_up c3 hSw; have s1 := scell_up d3 hSw; have s2 := scell_up x0 hSw; have s3 := scell_up x1 hSw; have s4 := scell_up x2 hSw; have s5 := scell_up x3 hSw; have s6 := scell_up x4 hSw; have s7 := scell_up x5 hSw; have s8 := scell_up y0 hSw; have s9 := scell_up y1 hSw; have s10 := scell_up y2 hSw; have s11 := scell_up y3 hSw; have s12 := scell_up y4 hSw; have s13 := scell_up y5 hSw); go_simp; (try with_reducible rfl))
                try simp only [Act.put, List.getElem_toArray, List.getElem_cons_zero, List.getElem_cons_succ, List.setIfInBounds_toArray, List.set_cons_zero, List.set_cons_succ]
                refine wpAnyH_ready (rs := [11, 12]) (by kernel_rfl) (by simp) ?_
                refine AllReadyH.cons rfl (fun K hK => ?_) ?_
                · go_simp
                  have hA1 : Blk (wr.alloc (.cells #[.int .i64 0, .int .i64 0, .string ⟨#[]⟩, .string ⟨#[]⟩, .slice none 0 0, .int .i64 0] 46)).drew wr.heap.size 46 [.int .i64 0, .int .i64 0, .string ⟨#[]⟩, .string ⟨#[]⟩, .slice none 0 0, .int .i64 0] := Blk.new _ _ _
                  have hb1 : Below wr.heap.size wr (wr.alloc (.cells #[.int .i64 0, .int .i64 0, .string ⟨#[]⟩, .string ⟨#[]⟩, .slice none 0 0, .int .i64 0] 46)).drew := ((Below.refl _ _).drew).alloc (Nat.le_refl _) (.cells #[.int .i64 0, .int .i64 0, .string ⟨#[]⟩, .string ⟨#[]⟩, .slice none 0 0, .int .i64 0] 46)
                  refine hK.out _ _ ?_ (fun hHeld => ?_)
                  · exact hb1
                  clear hK K
                  refine wpAnyH_ready (rs := [12]) (by kernel_rfl) (by simp) ?_
                  refine AllReadyH.cons rfl (fun K hK => ?_) ?_
                  · go_simp
                    have e9 : (wr.alloc (.cells #[.int .i64 0, .int .i64 0, .string ⟨#[]⟩, .string ⟨#[]⟩, .slice none 0 0, .int .i64 0] 46)).drew.heap.size = wr.heap.size + 1 := by show (wr.heap.push _).size = _; simp
                    have hB2 : Blk ((wr.alloc (.cells #[.int .i64 0, .int .i64 0, .string ⟨#[]⟩, .string ⟨#[]⟩, .slice none 0 0, .int .i64 0] 46)).alloc (.cells #[.int .i64 0, .int .i64 0, .string ⟨#[]⟩, .string ⟨#[]⟩, .slice none 0 0, .int .i64 0] 46)).drew (wr.heap.size + 1) 46 [.int .i64 0, .int .i64 0, .string ⟨#[]⟩, .string ⟨#[]⟩, .slice none 0 0, .int .i64 0] := by
                      have h9 := Blk.new (wr.alloc (.cells #[.int .i64 0, .int .i64 0, .string ⟨#[]⟩, .string ⟨#[]⟩, .slice none 0 0, .int .i64 0] 46)).drew 46 [.int .i64 0, .int .i64 0, .string ⟨#[]⟩, .string ⟨#[]⟩, .slice none 0 0, .int .i64 0]
                      rw [e9] at h9
                      exact h9
                    have hA2 : Blk ((wr.alloc (.cells #[.int .i64 0, .int .i64 0, .string ⟨#[]⟩, .string ⟨#[]⟩, .slice none 0 0, .int .i64 0] 46)).alloc (.cells #[.int .i64 0, .int .i64 0, .string ⟨#[]⟩, .string ⟨#[]⟩, .slice none 0 0, .int .i64 0] 46)).drew wr.heap.size 46 [.int .i64 0, .int .i64 0, .string ⟨#[]⟩, .string ⟨#[]⟩, .slice none 0 0, .int .i64 0] := hA1.alloc _
                    have hb2 : Below wr.heap.size wr ((wr.alloc (.cells #[.int .i64 0, .int .i64 0, .string ⟨#[]⟩, .string ⟨#[]⟩, .slice none 0 0, .int .i64 0] 46)).alloc (.cells #[.int .i64 0, .int .i64 0, .string ⟨#[]⟩, .string ⟨#[]⟩, .slice none 0 0, .int .i64 0] 46)).drew := hb1.alloc (by omega) (.cells #[.int .i64 0, .int .i64 0, .string ⟨#[]⟩, .string ⟨#[]⟩, .slice none 0 0, .int .i64 0] 46)
                    clear hA1
                    refine hK.out _ _ ?_ (fun hHeld => ?_)
                    · exact hb2
                    clear hK K
                    refine wpAnyH_ready (rs := [13]) (by kernel_rfl) (by simp) ?_
                    refine AllReadyH.cons rfl (fun K hK => ?_) ?_
                    · try rw [if_pos (by rfl)]
                      refine wp_store_row 46 (.tmp 16) (.tmp 110) (by rfl) wr.heap.size ([.int .i64 x.kind, .int .i64 x.num, .string x.name, .string x.attr, .slice KX x.kids.length kx, .int .i64 x.at_] : List Value).toArray (by rfl) (by rfl) 46 ([.int .i64 0, .int .i64 0, .string ⟨#[]⟩, .string ⟨#[]⟩, .slice none 0 0, .int .i64 0] : List Value).toArray hA2 (by kernel_rfl) (by kernel_rfl) (by kernel_rfl) ?_
                      have hX1 := blk_row hA2 [.int .i64 x.kind, .int .i64 x.num, .string x.name, .string x.attr, .slice KX x.kids.length kx, .int .i64 x.at_]
                      have hY1 := blk_far hB2 (b := wr.heap.size) (by omega) ([.int .i64 x.kind, .int .i64 x.num, .string x.name, .string x.attr, .slice KX x.kids.length kx, .int .i64 x.at_] : List Value).toArray
                      have hb3 := hb2.trans (below_row' wr.heap.size (by omega) ([.int .i64 x.kind, .int .i64 x.num, .string x.name, .string x.attr, .slice KX x.kids.length kx, .int .i64 x.at_] : List Value).toArray)
                      clear hA2 hB2 hb2
                      refine hK.out _ _ ?_ (fun hHeld => ?_)
                      · exact hb3
                      clear hK K
                      refine wpAnyH_ready (rs := [14]) (by kernel_rfl) (by simp) ?_
                      refine AllReadyH.cons rfl (fun K hK => ?_) ?_
                      · try rw [if_pos (by rfl)]
                        refine wp_store_row 46 (.tmp 17) (.tmp 116) (by rfl) (wr.heap.size + 1) ([.int .i64 x.kind, .int .i64 x.num, .string x.name, .string x.attr, .slice KZ yks.length kz, .int .i64 yat] : List Value).toArray (by rfl) (by rfl) 46 ([.int .i64 0, .int .i64 0, .string ⟨#[]⟩, .string ⟨#[]⟩, .slice none 0 0, .int .i64 0] : List Value).toArray hY1 (by kernel_rfl) (by kernel_rfl) (by kernel_rfl) ?_
                        have hY2 := blk_row hY1 [.int .i64 x.kind, .int .i64 x.num, .string x.name, .string x.attr, .slice KZ yks.length kz, .int .i64 yat]
                        have hX2 := blk_far hX1 (b := (wr.heap.size + 1)) (by omega) ([.int .i64 x.kind, .int .i64 x.num, .string x.name, .string x.attr, .slice KZ yks.length kz, .int .i64 yat] : List Value).toArray
                        have hb4 := hb3.trans (below_row' (wr.heap.size + 1) (by omega) ([.int .i64 x.kind, .int .i64 x.num, .string x.name, .string x.attr, .slice KZ yks.length kz, .int .i64 yat] : List Value).toArray)
                        clear hY1 hX1 hb3
                        refine hK.out _ _ ?_ (fun hHeld => ?_)
                        · exact hb4
                        clear hK K
                        refine wpAnyH_done (by kernel_rfl) ?_ _
                        try simp only [Act.put, List.getElem_toArray, List.getElem_cons_zero, List.getElem_cons_succ]
                        go_wp2_with fail
                        go_meet
                        exact ⟨wr.heap.size, (wr.heap.size + 1), rfl, rfl, hX2, hY2, hb4⟩
                      exact AllReadyH.nil
                    exact AllReadyH.nil
                  exact AllReadyH.nil
                refine AllReadyH.cons rfl (fun K hK => ?_) ?_
                · go_simp
                  have hA1 : Blk (wr.alloc (.cells #[.int .i64 0, .int .i64 0, .string ⟨#[]⟩, .string ⟨#[]⟩, .slice none 0 0, .int .i64 0] 46)).drew wr.heap.size 46 [.int .i64 0, .int .i64 0, .string ⟨#[]⟩, .string ⟨#[]⟩, .slice none 0 0, .int .i64 0] := Blk.new _ _ _
                  have hb1 : Below wr.heap.size wr (wr.alloc (.cells #[.int .i64 0, .int .i64 0, .string ⟨#[]⟩, .string ⟨#[]⟩, .slice none 0 0, .int .i64 0] 46)).drew := ((Below.refl _ _).drew).alloc (Nat.le_refl _) (.cells #[.int .i64 0, .int .i64 0, .string ⟨#[]⟩, .string ⟨#[]⟩, .slice none 0 0, .int .i64 0] 46)
                  refine hK.out _ _ ?_ (fun hHeld => ?_)
                  · exact hb1
                  clear hK K
                  refine wpAnyH_ready (rs := [11]) (by kernel_rfl) (by simp) ?_
                  refine AllReadyH.cons rfl (fun K hK => ?_) ?_
                  · go_simp
                    have e9 : (wr.alloc (.cells #[.int .i64 0, .int .i64 0, .string ⟨#[]⟩, .string ⟨#[]⟩, .slice none 0 0, .int .i64 0] 46)).drew.heap.size = wr.heap.size + 1 := by show (wr.heap.push _).size = _; simp
                    have hB2 : Blk ((wr.alloc (.cells #[.int .i64 0, .int .i64 0, .string ⟨#[]⟩, .string ⟨#[]⟩, .slice none 0 0, .int .i64 0] 46)).alloc (.cells #[.int .i64 0, .int .i64 0, .string ⟨#[]⟩, .string ⟨#[]⟩, .slice none 0 0, .int .i64 0] 46)).drew (wr.heap.size + 1) 46 [.int .i64 0, .int .i64 0, .string ⟨#[]⟩, .string ⟨#[]⟩, .slice none 0 0, .int .i64 0] := by
                      have h9 := Blk.new (wr.alloc (.cells #[.int .i64 0, .int .i64 0, .string ⟨#[]⟩, .string ⟨#[]⟩, .slice none 0 0, .int .i64 0] 46)).drew 46 [.int .i64 0, .int .i64 0, .string ⟨#[]⟩, .string ⟨#[]⟩, .slice none 0 0, .int .i64 0]
                      rw [e9] at h9
                      exact h9
                    have hA2 : Blk ((wr.alloc (.cells #[.int .i64 0, .int .i64 0, .string ⟨#[]⟩, .string ⟨#[]⟩, .slice none 0 0, .int .i64 0] 46)).alloc (.cells #[.int .i64 0, .int .i64 0, .string ⟨#[]⟩, .string ⟨#[]⟩, .slice none 0 0, .int .i64 0] 46)).drew wr.heap.size 46 [.int .i64 0, .int .i64 0, .string ⟨#[]⟩, .string ⟨#[]⟩, .slice none 0 0, .int .i64 0] := hA1.alloc _
                    have hb2 : Below wr.heap.size wr ((wr.alloc (.cells #[.int .i64 0, .int .i64 0, .string ⟨#[]⟩, .string ⟨#[]⟩, .slice none 0 0, .int .i64 0] 46)).alloc (.cells #[.int .i64 0, .int .i64 0, .string ⟨#[]⟩, .string ⟨#[]⟩, .slice none 0 0, .int .i64 0] 46)).drew := hb1.alloc (by omega) (.cells #[.int .i64 0, .int .i64 0, .string ⟨#[]⟩, .string ⟨#[]⟩, .slice none 0 0, .int .i64 0] 46)
                    clear hA1
                    refine hK.out _ _ ?_ (fun hHeld => ?_)
                    · exact hb2
                    clear hK K
                    refine wpAnyH_ready (rs := [13]) (by kernel_rfl) (by simp) ?_
                    refine AllReadyH.cons rfl (fun K hK => ?_) ?_
                    · try rw [if_pos (by rfl)]
                      refine wp_store_row 46 (.tmp 16) (.tmp 110) (by rfl) (wr.heap.size + 1) ([.int .i64 x.kind, .int .i64 x.num, .string x.name, .string x.attr, .slice KX x.kids.length kx, .int .i64 x.at_] : List Value).toArray (by rfl) (by rfl) 46 ([.int .i64 0, .int .i64 0, .string ⟨#[]⟩, .string ⟨#[]⟩, .slice none 0 0, .int .i64 0] : List Value).toArray hB2 (by kernel_rfl) (by kernel_rfl) (by kernel_rfl) ?_
                      have hX1 := blk_row hB2 [.int .i64 x.kind, .int .i64 x.num, .string x.name, .string x.attr, .slice KX x.kids.length kx, .int .i64 x.at_]
                      have hY1 := blk_far hA2 (b := (wr.heap.size + 1)) (by omega) ([.int .i64 x.kind, .int .i64 x.num, .string x.name, .string x.attr, .slice KX x.kids.length kx, .int .i64 x.at_] : List Value).toArray
                      have hb3 := hb2.trans (below_row' (wr.heap.size + 1) (by omega) ([.int .i64 x.kind, .int .i64 x.num, .string x.name, .string x.attr, .slice KX x.kids.length kx, .int .i64 x.at_] : List Value).toArray)
                      clear hB2 hA2 hb2
                      refine hK.out _ _ ?_ (fun hHeld => ?_)
                      · exact hb3
                      clear hK K
                      refine wpAnyH_ready (rs := [14]) (by kernel_rfl) (by simp) ?_
                      refine AllReadyH.cons rfl (fun K hK => ?_) ?_
                      · try rw [if_pos (by rfl)]
                        refine wp_store_row 46 (.tmp 17) (.tmp 116) (by rfl) wr.heap.size ([.int .i64 x.kind, .int .i64 x.num, .string x.name, .string x.attr, .slice KZ yks.length kz, .int .i64 yat] : List Value).toArray (by rfl) (by rfl) 46 ([.int .i64 0, .int .i64 0, .string ⟨#[]⟩, .string ⟨#[]⟩, .slice none 0 0, .int .i64 0] : List Value).toArray hY1 (by kernel_rfl) (by kernel_rfl) (by kernel_rfl) ?_
                        have hY2 := blk_row hY1 [.int .i64 x.kind, .int .i64 x.num, .string x.name, .string x.attr, .slice KZ yks.length kz, .int .i64 yat]
                        have hX2 := blk_far hX1 (b := wr.heap.size) (by omega) ([.int .i64 x.kind, .int .i64 x.num, .string x.name, .string x.attr, .slice KZ yks.length kz, .int .i64 yat] : List Value).toArray
                        have hb4 := hb3.trans (below_row' wr.heap.size (by omega) ([.int .i64 x.kind, .int .i64 x.num, .string x.name, .string x.attr, .slice KZ yks.length kz, .int .i64 yat] : List Value).toArray)
                        clear hY1 hX1 hb3
                        refine hK.out _ _ ?_ (fun hHeld => ?_)
                        · exact hb4
                        clear hK K
                        refine wpAnyH_done (by kernel_rfl) ?_ _
                        try simp only [Act.put, List.getElem_toArray, List.getElem_cons_zero, List.getElem_cons_succ]
                        go_wp2_with fail
                        go_meet
                        exact ⟨(wr.heap.size + 1), wr.heap.size, rfl, rfl, hX2, hY2, hb4⟩
                      exact AllReadyH.nil
                    exact AllReadyH.nil
                  exact AllReadyH.nil
                exact AllReadyH.nil
              case rest => as_aux_lemma =>
                obtain ⟨g16, g17, rfl, rfl, hX, hY, hb9⟩ := hcut
                clear c3 d3 x0 x1 x2 x3 x4 x5 y0 y1 y2 y3 y4 y5
                obtain ⟨x0, x1, x2, x3, x4, x5⟩ := hX.get6
                obtain ⟨y0, y1, y2, y3, y4, y5⟩ := hY.get6
                have hb10 := hbx.trans (hb9.mono hbx.size)
                go_wp2_with fail
                go_roundg (pd1.nodes.length - (i + 1))
                case measure => omega
                case rel => exact ⟨i + 1, hil, rfl, by first | rfl | simp, hb10⟩
            · have hii : ¬ (i : Int) < (pd1.nodes.length : Int) := by omega
              have hk9 := hk5.next hbx
              go_wp2_with fail
              refine (HA.out _).mono ?_
              rintro e wf ⟨rfl, hbf⟩
              go_wp2_with fail
              go_ret
              exact ⟨rfl, (hk9.next hbf).below0⟩
      · have hne : (E1 != 0) = true := by rw [bne_iff_ne]; exact hE1
        clear HL
        go_wp2_with fail
        refine (HA.out _).mono ?_
        rintro e wf ⟨rfl, hbf⟩
        go_wp2_with fail
        go_ret
        exact ⟨rfl, (hk3.next hbf).below0⟩
end Go.Proofs.YtminghdnclpocaaGreatDoor
