/-
  policy.names, policy.twice. Printed by mkpcg.py.
-/
import Derived.Test.YtminghdnclpocaaGreatDoorPcF
namespace Go.Proofs.YtminghdnclpocaaGreatDoor
open Go.RowKit Go.Shelf Go.Maps
set_option linter.unusedVariables false

theorem pairsP_take {l : List Bp} {i : Nat} {x : Bp} (h : l[i]? = some x) : pairsP (l.take (i + 1)) = (pairsP (l.take i) && (nameP x.1 && nameP x.2)) := by
  rw [take_at h]; simp [pairsP]
theorem pairsP_full {l : List Bp} {i : Nat} (h : ¬ i < l.length) : pairsP (l.take i) = pairsP l := by rw [List.take_of_length_le (by omega)]
theorem Prs.cells {W : World} {A : Option Addr} {l : List Bp} (h : Prs W A l) {i : Nat} {x : Bp} (hx : l[i]? = some x) : ∃ ad, A = some ad ∧ W.cell? (ad.add (i * 2)) = some (.string x.1) ∧ W.cell? ⟨(ad.add (i * 2)).block, (ad.add (i * 2)).off + 1, none⟩ = some (.string x.2) := h.at_ i x hx

set_option maxRecDepth 20000 in
set_option maxHeartbeats 16000000 in
theorem names_any (d : Po) (L : Lp) (hB : PBd d) (w : World) (hP : PolM w d L) : Calls Tryz.prog 39 #[polV d L] w fun e w' => e = .returned (.bool (namesP d)) ∧ Below w.heap.size w w' := by
  obtain ⟨ua, uc, ra, rc, na, nc⟩ := L
  have hus : Prs w ua d.uses := hP.us
  have hrv : Prs w ra d.reveal := hP.rv
  have hk := (Hp.start w).new 27 (polcs d ⟨ua, uc, ra, rc, na, nc⟩)
  have HN := Lib.hid (pname_any d.name hB.name)
  have HE1 := Lib.hid (pname_any d.escrow hB.escrow)
  have HS1 := Lib.hid (pword_any d.scope hB.scope)
  have HNM : Hid (namesP d = (nameP d.name && (decide (d.escrow.size = 0) || nameP d.escrow) && (decide (d.scope.size = 0) || wordP d.scope) && pairsP d.uses && pairsP d.reveal)) := Lib.hid rfl
  have hul := hB.ul
  have hrl := hB.rl
  obtain ⟨g, hg⟩ : ∃ x, w.heap.size = x := ⟨_, rfl⟩
  rw [hg] at hk

  go_enter Tryz.func39, Tryz.ntmps39
  go_upto_region 1 with fail
  try simp only [hg]
  have hk : Hp [] w [iblk g 27 (polcs d ⟨ua, uc, ra, rc, na, nc⟩)] (w.alloc (.cells #[.string d.name, .slice ua d.uses.length uc, .slice ra d.reveal.length rc, .slice na d.nodes.length nc, .int .i64 d.root, .string d.scope, .int .i64 d.limit, .string d.escrow] 27)) := hk
  generalize w.alloc (.cells #[.string d.name, .slice ua d.uses.length uc, .slice ra d.reveal.length rc, .slice na d.nodes.length nc, .int .i64 d.root, .string d.scope, .int .i64 d.limit, .string d.escrow] 27) = W at *
  go_cut [3] (fun s3 wx => s3 = .bool (nameP d.name && (decide (d.escrow.size = 0) || nameP d.escrow) && (decide (d.scope.size = 0) || wordP d.scope)) ∧ Hp [] w [iblk g 27 (polcs d ⟨ua, uc, ra, rc, na, nc⟩)] wx)
  case first =>
    generalize nameP d.name = q1 at *
    generalize nameP d.escrow = q2 at *
    generalize wordP d.scope = q3 at *
    have p0 : W.cell? ⟨g, 0, none⟩ = some (.string d.name) := (hk.blk 0 rfl).cell 0
    go_wp2_with fail
    refine (HN.out W).mono ?_
    rintro e w1 ⟨rfl, hb1⟩
    have hk1 := hk.next hb1
    clear hk hb1 p0
    have p7 : w1.cell? ⟨g, 7, none⟩ = some (.string d.escrow) := (hk1.blk 0 rfl).cell 7
    have p5 : w1.cell? ⟨g, 5, none⟩ = some (.string d.scope) := (hk1.blk 0 rfl).cell 5
    cases q1 with
    | false =>
      go_wp2_with fail
      go_meet
      exact ⟨rfl, hk1⟩
    | true =>
      have HSC : ∀ (V : World), Hp [] w [iblk g 27 (polcs d ⟨ua, uc, ra, rc, na, nc⟩)] V → V.cell? ⟨g, 5, none⟩ = some (.string d.scope) := fun V h => (h.blk 0 rfl).cell 5
      have HSC := Lib.hid HSC
      cases he : decide (d.escrow.size = 0) with
      | true =>
        obtain ⟨e1, e2⟩ := sz_empty he
        cases hs : decide (d.scope.size = 0) with
        | true =>
          obtain ⟨e3, e4⟩ := sz_empty hs
          go_wp2_with fail
          go_meet
          exact ⟨by (try rw [he]); (try rw [hs]); (first | rfl | (cases q3 <;> rfl)), hk1⟩
        | false =>
          obtain ⟨e3, e4⟩ := sz_full hs
          go_wp2_with fail
          refine (HS1.out w1).mono ?_
          rintro e w3 ⟨rfl, hb3⟩
          go_wp2_with fail
          go_meet
          exact ⟨by (try rw [he]); (try rw [hs]); (first | rfl | (cases q3 <;> rfl)), hk1.next hb3⟩
      | false =>
        obtain ⟨e1, e2⟩ := sz_full he
        go_wp2_with fail
        refine (HE1.out w1).mono ?_
        rintro e w2 ⟨rfl, hb2⟩
        have hk2 := hk1.next hb2
        clear hk1 hb2 p7 p5
        have p5 := HSC.out _ hk2
        cases q2 with
        | false =>
          go_wp2_with fail
          go_meet
          exact ⟨by (try rw [he]); (try rw [hs]); (first | rfl | (cases q3 <;> rfl)), hk2⟩
        | true =>
          cases hs : decide (d.scope.size = 0) with
          | true =>
            obtain ⟨e3, e4⟩ := sz_empty hs
            go_wp2_with fail
            go_meet
            exact ⟨by (try rw [he]); (try rw [hs]); (first | rfl | (cases q3 <;> rfl)), hk2⟩
          | false =>
            obtain ⟨e3, e4⟩ := sz_full hs
            go_wp2_with fail
            refine (HS1.out w2).mono ?_
            rintro e w3 ⟨rfl, hb3⟩
            go_wp2_with fail
            go_meet
            exact ⟨by (try rw [he]); (try rw [hs]); (first | rfl | (cases q3 <;> rfl)), hk2.next hb3⟩
  case rest =>
    obtain ⟨rfl, hk1⟩ := hcut
    clear hk HN HE1 HS1
    generalize (nameP d.name && (decide (d.escrow.size = 0) || nameP d.escrow) && (decide (d.scope.size = 0) || wordP d.scope)) = q0 at *
    have p1 : wc.cell? ⟨g, 1, none⟩ = some (.slice ua d.uses.length uc) := (hk1.blk 0 rfl).cell 1
    go_upto_region 3 with fail
    clear p1
    go_loopg [3, 34] d.uses.length (fun m s3 sk wx => ∃ (i : Nat) (q : Bool), i ≤ d.uses.length ∧ m = d.uses.length - i ∧ s3 = .bool q ∧ sk = .int .i64 (i : Int) ∧ Hp [] w [iblk g 27 (polcs d ⟨ua, uc, ra, rc, na, nc⟩)] wx ∧ Hid (q = (q0 && pairsP (d.uses.take i))))
    case atStart => exact ⟨0, q0, Nat.zero_le _, rfl, rfl, rfl, hk1, Lib.hid (by simp [pairsP])⟩
    case round =>
      obtain ⟨i, q, hi, rfl, rfl, rfl, hM, HE⟩ := hrel
      clear hk1
      by_cases hil : i < d.uses.length
      · have hii : (i : Int) < (d.uses.length : Int) := by omega
        have hi0 : (0 : Int) ≤ (i : Int) := by omega
        obtain ⟨x, hx⟩ : ∃ x, d.uses[i]? = some x := ⟨_, List.getElem?_eq_getElem hil⟩
        obtain ⟨ad, hA, hx1, hx2⟩ := (hus.up hM.below0).cells hx
        subst hA
        have hxb := hB.us x (List.mem_of_getElem? hx)
        have HT := Lib.hid (pairsP_take hx)
        have HN1 := Lib.hid (pname_any x.1 hxb.1)
        have HN2 := Lib.hid (pname_any x.2 hxb.2)
        have hM1 := hM.new 50 [.string x.1, .string x.2]
        obtain ⟨gx, hgx⟩ : ∃ y, wr.heap.size = y := ⟨_, rfl⟩
        rw [hgx] at hM1
        clear hx hM
        generalize nameP x.1 = q1 at *
        generalize nameP x.2 = q2 at *
        go_upto_region 5 with fail
        try simp only [hgx]
        have hM1 : Hp [] w [iblk gx 50 [.string x.1, .string x.2], _] (wr.alloc (.cells #[.string x.1, .string x.2] 50)) := hM1
        clear hx1 hx2
        generalize wr.alloc (.cells #[.string x.1, .string x.2] 50) = wa at *
        clear hgx
        obtain ⟨c0, c1⟩ := (hM1.blk 0 rfl).get2
        cases q with
        | false =>
          go_wp2_with fail
          go_roundg (d.uses.length - (i + 1))
          case measure => omega
          case rel => exact ⟨i + 1, false, hil, rfl, rfl, by first | rfl | simp, hM1.tail, Lib.hid (by rw [HT.out, ← Bool.and_assoc, ← HE.out]; rfl)⟩
        | true =>
          go_wp2_with fail
          refine (HN1.out wa).mono ?_
          rintro e w5 ⟨rfl, hb5⟩
          have hM2 := hM1.next hb5
          clear hM1 hb5 c0 c1
          obtain ⟨c0, c1⟩ := (hM2.blk 0 rfl).get2
          cases q1 with
          | false =>
            go_wp2_with fail
            go_roundg (d.uses.length - (i + 1))
            case measure => omega
            case rel => exact ⟨i + 1, false, hil, rfl, rfl, by first | rfl | simp, hM2.tail, Lib.hid (by rw [HT.out, ← Bool.and_assoc, ← HE.out]; rfl)⟩
          | true =>
            go_wp2_with fail
            refine (HN2.out w5).mono ?_
            rintro e w6 ⟨rfl, hb6⟩
            have hM3 := hM2.next hb6
            clear hM2 hb6 c0 c1
            go_wp2_with fail
            go_roundg (d.uses.length - (i + 1))
            case measure => omega
            case rel => exact ⟨i + 1, q2, hil, rfl, rfl, by first | rfl | simp, hM3.tail, Lib.hid (by rw [HT.out, ← Bool.and_assoc, ← HE.out]; simp)⟩
      · have hii : ¬ (i : Int) < (d.uses.length : Int) := by omega
        have HF := Lib.hid (HE.out.trans (by rw [pairsP_full hil]) : q = (q0 && pairsP d.uses))
        clear HE
        have hk2 := hM
        have HQ2 := Lib.hid HF.out
        clear HF hM
        generalize hq2 : (q0 && pairsP d.uses) = qq at *
        clear hq2
        have hq9 := HQ2.out
        subst hq9
        generalize q = qb at *
        have p2 : wr.cell? ⟨g, 2, none⟩ = some (.slice ra d.reveal.length rc) := (hk2.blk 0 rfl).cell 2
        go_upto_region 8 with fail
        clear p2
        go_loopg [3, 53] d.reveal.length (fun m s3 sk wx => ∃ (i : Nat) (q : Bool), i ≤ d.reveal.length ∧ m = d.reveal.length - i ∧ s3 = .bool q ∧ sk = .int .i64 (i : Int) ∧ Hp [] w [iblk g 27 (polcs d ⟨ua, uc, ra, rc, na, nc⟩)] wx ∧ Hid (q = (qb && pairsP (d.reveal.take i))))
        case atStart => exact ⟨0, qb, Nat.zero_le _, rfl, rfl, rfl, hk2, Lib.hid (by simp [pairsP])⟩
        case round =>
          obtain ⟨i, q, hi, rfl, rfl, rfl, hM, HE⟩ := hrel
          clear hk2
          by_cases hil : i < d.reveal.length
          · have hii : (i : Int) < (d.reveal.length : Int) := by omega
            have hi0 : (0 : Int) ≤ (i : Int) := by omega
            obtain ⟨x, hx⟩ : ∃ x, d.reveal[i]? = some x := ⟨_, List.getElem?_eq_getElem hil⟩
            obtain ⟨ad, hA, hx1, hx2⟩ := (hrv.up hM.below0).cells hx
            subst hA
            have hxb := hB.rv x (List.mem_of_getElem? hx)
            have HT := Lib.hid (pairsP_take hx)
            have HN1 := Lib.hid (pname_any x.1 hxb.1)
            have HN2 := Lib.hid (pname_any x.2 hxb.2)
            have hM1 := hM.new 52 [.string x.1, .string x.2]
            obtain ⟨gx, hgx⟩ : ∃ y, wr.heap.size = y := ⟨_, rfl⟩
            rw [hgx] at hM1
            clear hx hM
            generalize nameP x.1 = q1 at *
            generalize nameP x.2 = q2 at *
            go_upto_region 10 with fail
            try simp only [hgx]
            have hM1 : Hp [] w [iblk gx 52 [.string x.1, .string x.2], _] (wr.alloc (.cells #[.string x.1, .string x.2] 52)) := hM1
            clear hx1 hx2
            generalize wr.alloc (.cells #[.string x.1, .string x.2] 52) = wa at *
            clear hgx
            obtain ⟨c0, c1⟩ := (hM1.blk 0 rfl).get2
            cases q with
            | false =>
              go_wp2_with fail
              go_roundg (d.reveal.length - (i + 1))
              case measure => omega
              case rel => exact ⟨i + 1, false, hil, rfl, rfl, by first | rfl | simp, hM1.tail, Lib.hid (by rw [HT.out, ← Bool.and_assoc, ← HE.out]; rfl)⟩
            | true =>
              go_wp2_with fail
              refine (HN1.out wa).mono ?_
              rintro e w5 ⟨rfl, hb5⟩
              have hM2 := hM1.next hb5
              clear hM1 hb5 c0 c1
              obtain ⟨c0, c1⟩ := (hM2.blk 0 rfl).get2
              cases q1 with
              | false =>
                go_wp2_with fail
                go_roundg (d.reveal.length - (i + 1))
                case measure => omega
                case rel => exact ⟨i + 1, false, hil, rfl, rfl, by first | rfl | simp, hM2.tail, Lib.hid (by rw [HT.out, ← Bool.and_assoc, ← HE.out]; rfl)⟩
              | true =>
                go_wp2_with fail
                refine (HN2.out w5).mono ?_
                rintro e w6 ⟨rfl, hb6⟩
                have hM3 := hM2.next hb6
                clear hM2 hb6 c0 c1
                go_wp2_with fail
                go_roundg (d.reveal.length - (i + 1))
                case measure => omega
                case rel => exact ⟨i + 1, q2, hil, rfl, rfl, by first | rfl | simp, hM3.tail, Lib.hid (by rw [HT.out, ← Bool.and_assoc, ← HE.out]; simp)⟩
          · have hii : ¬ (i : Int) < (d.reveal.length : Int) := by omega
            have HF := Lib.hid (HE.out.trans (by rw [pairsP_full hil]) : q = (qb && pairsP d.reveal))
            clear HE
            go_wp2_with fail
            go_ret
            have HR : Hid (namesP d = q) := Lib.hid (by rw [HNM.out, HF.out])
            rw [HR.out]
            exact ⟨rfl, by first | exact hM.below0 | (subst hg; exact hM.below0)⟩

set_option maxRecDepth 20000 in
set_option maxHeartbeats 16000000 in
theorem twiceS_any (A : Option Addr) (c : Nat) (l : List ByteArray) (hl : l.length ≤ 1000000) (hs : ∀ x ∈ l, x.size ≤ 1000000) (w : World) (hS : Strs w A l) :
    Calls Tryz.prog 41 #[.slice A l.length c] w fun e w' => e = .returned (.bool (twiceP [] l)) ∧ Below w.heap.size w w' := by
  have hmm := @run_makeMap Tryz.prog
  have hS0 := (Hp.start w).setNew strK
  obtain ⟨gm, hgm⟩ : ∃ g, w.heap.size = g := ⟨_, rfl⟩
  rw [hgm] at hS0
  go_enter Tryz.func41, Tryz.ntmps41
  go_upto_region 2 with fail
  clear hmm
  try simp only [hgm]
  generalize w.alloc (.map #[] 0) = W at *
  go_upto_region 3 with fail
  go_loopg [9] l.length (fun m s9 wx => ∃ i : Nat, i ≤ l.length ∧ m = l.length - i ∧ s9 = .int .i64 (i : Int) ∧ Hp [] w [iset strK gm (l.take i)] wx ∧ Hid (twiceP [] l = twiceP (l.take i) (l.drop i)))
  case atStart => exact ⟨0, Nat.zero_le _, rfl, rfl, hS0, Lib.hid rfl⟩
  case round =>
    obtain ⟨i, hi, rfl, rfl, hM, HE⟩ := hrel
    clear hS0
    by_cases hil : i < l.length
    · have hii : (i : Int) < (l.length : Int) := by omega
      have hi0 : (0 : Int) ≤ (i : Int) := by omega
      obtain ⟨x, hx⟩ : ∃ x, l[i]? = some x := ⟨_, List.getElem?_eq_getElem hil⟩
      have hxs := hs x (List.mem_of_getElem? hx)
      obtain ⟨ad, rfl, ca⟩ := (hS.up hM.below0).at_ i x hx
      have HT := Lib.hid (take_at hx)
      have HE2 : Hid (twiceP [] l = (memD x (l.take i) || twiceP (l.take (i + 1)) (l.drop (i + 1)))) := Lib.hid (by
        rw [HE.out, drop_at hx, twiceP, HT.out])
      have htl : (l.take i).length ≤ 1000000 := by rw [List.length_take]; omega
      clear hx HE
      obtain ⟨wa, hwa⟩ : ∃ x, wr = x := ⟨_, rfl⟩
      subst hwa
      have hlk := iset_look strK (hM.sep.ok _ (List.mem_cons_self ..)) x hxs
      have hlk : (Instr.lookup 125 (.map (some gm)) (.string x) false).run Tryz.prog wr = .ok (.bool (memD x (l.take i))) wr := hlk
      generalize memD x (l.take i) = r at *
      cases r with
      | true =>
        go_wp2_with fail
        go_ret
        rw [HE2.out]
        exact ⟨rfl, by first | exact hM.below0 | (subst hgm; exact hM.below0)⟩
      | false =>
        have hown := iset_own strK (hM.sep.ok _ (List.mem_cons_self ..))
        go_wp2_with (first | (at_mapUpdate; refine wpList_mapUpdate_own _ rfl _ _ _ 125 rfl 9 4 strK.law Tryz.underlying125 (plainElem (H := Unit) Tryz.prog 4) gm (l.take i).length (strK.setD (l.take i)) rfl hown (by unfold maxLen; omega) _ _ (strK.kl x) rfl rfl (strK.key x hxs) _ [] (plainElem_bool Tryz.underlying4 true) ?_; intro w2 hown2 hgrow2))
        have hM2 := hM.setPut strK 0 rfl hxs hown2 hgrow2
        rw [← HT.out] at hM2
        have hM2 : Hp [] w ([iset strK gm (l.take (i + 1))]) w2 := hM2
        have HE3 : Hid (twiceP [] l = twiceP (l.take (i + 1)) (l.drop (i + 1))) := Lib.hid (by rw [HE2.out]; rfl)
        clear hown hown2 hgrow2 hM HE2
        go_roundg (l.length - (i + 1))
        case measure => omega
        case rel => exact ⟨i + 1, hil, rfl, by first | rfl | simp, hM2, HE3⟩
    · have hii : ¬ (i : Int) < (l.length : Int) := by omega
      have HR : Hid (twiceP [] l = false) := Lib.hid (by rw [HE.out, List.drop_of_length_le (by omega), twiceP])
      go_wp2_with fail
      go_ret
      rw [HR.out]
      exact ⟨rfl, by first | exact hM.below0 | (subst hgm; exact hM.below0)⟩

set_option maxRecDepth 20000 in
set_option maxHeartbeats 16000000 in
theorem twiceR_any (A : Option Addr) (c : Nat) (l : List Bp) (hl : l.length ≤ 1000000) (hs : ∀ x ∈ l, x.1.size ≤ 1000000 ∧ x.2.size ≤ 1000000) (w : World) (hS : Prs w A l) :
    Calls Tryz.prog 42 #[.slice A l.length c] w fun e w' => e = .returned (.bool (twiceP [] l)) ∧ Below w.heap.size w w' := by
  have hmm := @run_makeMap Tryz.prog
  have hS0 := (Hp.start w).setNew refK
  obtain ⟨gm, hgm⟩ : ∃ g, w.heap.size = g := ⟨_, rfl⟩
  rw [hgm] at hS0
  go_enter Tryz.func42, Tryz.ntmps42
  go_upto_region 2 with fail
  clear hmm
  try simp only [hgm]
  generalize w.alloc (.map #[] 0) = W at *
  go_upto_region 3 with fail
  go_loopg [9] l.length (fun m s9 wx => ∃ i : Nat, i ≤ l.length ∧ m = l.length - i ∧ s9 = .int .i64 (i : Int) ∧ Hp [] w [iset refK gm (l.take i)] wx ∧ Hid (twiceP [] l = twiceP (l.take i) (l.drop i)))
  case atStart => exact ⟨0, Nat.zero_le _, rfl, rfl, hS0, Lib.hid rfl⟩
  case round =>
    obtain ⟨i, hi, rfl, rfl, hM, HE⟩ := hrel
    clear hS0
    by_cases hil : i < l.length
    · have hii : (i : Int) < (l.length : Int) := by omega
      have hi0 : (0 : Int) ≤ (i : Int) := by omega
      obtain ⟨x, hx⟩ : ∃ x, l[i]? = some x := ⟨_, List.getElem?_eq_getElem hil⟩
      have hxs := hs x (List.mem_of_getElem? hx)
      obtain ⟨ad, rfl, ca, cb⟩ := (hS.up hM.below0).at_ i x hx
      have HT := Lib.hid (take_at hx)
      have HE2 : Hid (twiceP [] l = (memD x (l.take i) || twiceP (l.take (i + 1)) (l.drop (i + 1)))) := Lib.hid (by
        rw [HE.out, drop_at hx, twiceP, HT.out])
      have htl : (l.take i).length ≤ 1000000 := by rw [List.length_take]; omega
      clear hx HE
      have hM1 := (hM.new 52 [.string x.1, .string x.2]).perm (List.Perm.swap _ _ _)
      obtain ⟨gx, hgx⟩ : ∃ y, wr.heap.size = y := ⟨_, rfl⟩
      rw [hgx] at hM1
      go_upto_region 5 with fail
      try simp only [hgx]
      have hM1 : Hp [] w [iset refK gm (l.take i), iblk gx 52 [.string x.1, .string x.2]] (wr.alloc (.cells #[.string x.1, .string x.2] 52)) := hM1
      clear ca cb hM
      generalize wr.alloc (.cells #[.string x.1, .string x.2] 52) = wa at *
      clear hgx
      have hM := hM1
      clear hM1
      obtain ⟨c0, c1⟩ := (hM.blk 1 rfl).get2
      have hlk := iset_look refK (hM.sep.ok _ (List.mem_cons_self ..)) x hxs
      have hlk : (Instr.lookup 126 (.map (some gm)) (refV x) false).run Tryz.prog wa = .ok (.bool (memD x (l.take i))) wa := hlk
      generalize memD x (l.take i) = r at *
      cases r with
      | true =>
        go_wp2_with fail
        go_ret
        rw [HE2.out]
        exact ⟨rfl, by first | exact hM.below0 | (subst hgm; exact hM.below0)⟩
      | false =>
        have hown := iset_own refK (hM.sep.ok _ (List.mem_cons_self ..))
        go_wp2_with (first | (at_mapUpdate; refine wpList_mapUpdate_own _ rfl _ _ _ 126 rfl 52 4 refK.law Tryz.underlying126 (plainElem (H := Unit) Tryz.prog 4) gm (l.take i).length (refK.setD (l.take i)) rfl hown (by unfold maxLen; omega) _ _ (refK.kl x) rfl rfl (refK.key x hxs) _ [] (plainElem_bool Tryz.underlying4 true) ?_; intro w2 hown2 hgrow2))
        have hM2 := hM.setPut refK 0 rfl hxs hown2 hgrow2
        rw [← HT.out] at hM2
        have hM2 : Hp [] w ([iset refK gm (l.take (i + 1))] ++ [iblk gx 52 [.string x.1, .string x.2]]) w2 := hM2
        have HE3 : Hid (twiceP [] l = twiceP (l.take (i + 1)) (l.drop (i + 1))) := Lib.hid (by rw [HE2.out]; rfl)
        clear hown hown2 hgrow2 hM HE2
        go_roundg (l.length - (i + 1))
        case measure => omega
        case rel => exact ⟨i + 1, hil, rfl, by first | rfl | simp, hM2.sub, HE3⟩
    · have hii : ¬ (i : Int) < (l.length : Int) := by omega
      have HR : Hid (twiceP [] l = false) := Lib.hid (by rw [HE.out, List.drop_of_length_le (by omega), twiceP])
      go_wp2_with fail
      go_ret
      rw [HR.out]
      exact ⟨rfl, by first | exact hM.below0 | (subst hgm; exact hM.below0)⟩

end Go.Proofs.YtminghdnclpocaaGreatDoor
