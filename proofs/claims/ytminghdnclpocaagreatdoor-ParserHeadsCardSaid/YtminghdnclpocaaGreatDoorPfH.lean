/-
  dominolaw42.ParserHeads.
-/
import Derived.Test.YtminghdnclpocaaGreatDoorPeZ
namespace Go.Proofs.YtminghdnclpocaaGreatDoor
open Go.RowKit Go.Shelf
set_option linter.unusedVariables false

theorem heads_law (n m : Nat) (h1 : 1 ≤ n) (h2 : n ≤ 4) (h3 : m < 5) (a b c d : Bool) : ∃ at_ : Int, parseP (hdSrc n m a b c d ++ cmEnd) = (hdPo n m a b c d at_, 0, 0) ∧ ((a || b || d) = false → at_ = (((hdSrc n m a b c d).length : Nat) : Int) + 1) := by
  have h := hd_all ⟨n - 1, by omega⟩ ⟨m, h3⟩ a b c d
  simp only [show n - 1 + 1 = n by omega] at h
  unfold hdTest at h
  rw [Bool.and_eq_true, decide_eq_true_eq] at h
  refine ⟨_, h.1, fun he => ?_⟩
  have h4 := h.2
  rw [he, Bool.false_or, decide_eq_true_eq] at h4
  rw [h4]; omega
abbrev hdPre : List UInt8 := [112, 111, 108, 105, 99, 121, 32, 112, 32, 117, 115, 101, 115, 32]
theorem hdUses_len : ∀ n, (hdUses n).length ≤ 8 * n
  | 0 => Nat.le_refl _
  | n + 1 => by
    have := hdUses_len n
    unfold hdUses
    rw [List.length_append, List.length_append]
    split <;> simp [hdUse] <;> omega
theorem hdRev_len : ∀ n, (hdRev n).length ≤ 13 * n
  | 0 => Nat.le_refl _
  | n + 1 => by
    have := hdRev_len n
    unfold hdRev
    rw [List.length_append]
    split <;> simp <;> omega
theorem hdec (i : Nat) (h : i < 10) (w : World) : Calls Tryz.prog 15 #[.int .i64 (i : Int)] w fun e w' => e = .returned (.string ⟨[UInt8.ofNat (48 + i)].toArray⟩) ∧ Below w.heap.size w w' := by
  have := ldecimal_digit i h w
  rw [Lib.decDigits_one h] at this
  exact this
theorem Blk.get4' {W : World} {g : Nat} {t : TypeId} {a b c d : Value} (h : Blk W g t [a, b, c, d]) : W.cell? ⟨g, 0, none⟩ = some a ∧ W.cell? ⟨g, 1, none⟩ = some b ∧ W.cell? ⟨g, 2, none⟩ = some c ∧ W.cell? ⟨g, 3, none⟩ = some d :=
  ⟨h.cell 0, h.cell 1, h.cell 2, h.cell 3⟩
theorem app_empty (x : ByteArray) : x ++ (⟨#[]⟩ : ByteArray) = x := by
  apply ByteArray.ext
  rw [ByteArray.data_append]; simp
theorem empty_app (x : ByteArray) : (⟨#[]⟩ : ByteArray) ++ x = x := by
  apply ByteArray.ext
  rw [ByteArray.data_append]; simp
theorem cat_run (x y : ByteArray) (h : x.size + y.size ≤ 1000000) (w : World) : (Op.stringOp .add x y).run Tryz.prog w = .ok (.string (x ++ y)) w := by
  have h2 : ¬ (((x.size + y.size : Nat) : Int) > IntKind.i64.max) := by
    show ¬ (((x.size + y.size : Nat) : Int) > 9223372036854775807)
    omega
  unfold Op.stringOp
  dsimp only
  rw [if_neg h2]
  rfl
theorem size_list (l : List UInt8) : (⟨l.toArray⟩ : ByteArray).size = l.length := by simp [ByteArray.size]
def hdUl (n : Nat) : List Bp := (List.range n).map (fun i => (bs [97, UInt8.ofNat (48 + i)], bs [83, UInt8.ofNat (48 + i)]))
def hdRl (m : Nat) : List Bp := (List.range m).map (fun i => (bs [97, 48], bs [102, UInt8.ofNat (48 + i)]))
def hdNd (a : Bool) (at_ : Int) : Nk := ⟨if a then 1 else 0, 0, bs [], bs [], [], at_⟩
def hdSc (b : Bool) : ByteArray := if b then ⟨#[115, 104, 111, 112]⟩ else ⟨#[]⟩
def hdEs (d : Bool) : ByteArray := if d then ⟨#[106, 117, 100, 103, 101]⟩ else ⟨#[]⟩
def hdLm (b c : Bool) : Int := if b && c then 7 else 0
theorem heads_call {n m : Nat} {a b c d : Bool} {at_ : Int} (h : parseP (hdSrc n m a b c d ++ cmEnd) = (hdPo n m a b c d at_, 0, 0)) (hl : (hdSrc n m a b c d ++ cmEnd).length ≤ 1000) (w : World) :
    Calls Tryz.prog 11 #[.string (⟨(hdSrc n m a b c d).toArray⟩ ++ ⟨#[32, 101, 110, 100]⟩)] w fun e w' => (∃ ua uc ra rc na nc, e = .returned (.tuple #[.agg #[.string ⟨#[112]⟩, .slice ua n uc, .slice ra m rc, .slice (some na) 1 nc, .int .i64 0, .string (hdSc b), .int .i64 (hdLm b c), .string (hdEs d)], .int .i64 0, .int .i64 0]) ∧ Prs w' ua (hdUl n) ∧ Prs w' ra (hdRl m) ∧ Nks w' (some na) [hdNd a at_]) ∧ Below w.heap.size w w' := by
  have e1 : (⟨(hdSrc n m a b c d).toArray⟩ : ByteArray) ++ ⟨#[32, 101, 110, 100]⟩ = ⟨(hdSrc n m a b c d ++ cmEnd).toArray⟩ := ba_app _ _
  rw [e1]
  refine (parse_at h (by omega) w).mono fun e w' ⟨⟨⟨ua, uc, ra, rc, na, nc⟩, h1, hP⟩, h2⟩ => ?_
  obtain ⟨na, rfl, -⟩ := hP.ns.base (Nat.succ_pos _)
  have e2 : (hdPo n m a b c d at_).uses.length = n := by simp [hdPo]
  have e3 : (hdPo n m a b c d at_).reveal.length = m := by simp [hdPo]
  refine ⟨⟨ua, uc, ra, rc, na, nc, ?_, hP.us, hP.rv, hP.ns⟩, h2⟩
  rw [h1]
  show Ending.returned (.tuple #[.agg #[_, .slice ua (hdPo n m a b c d at_).uses.length uc, .slice ra (hdPo n m a b c d at_).reveal.length rc, _, _, _, _, _], _, _]) = _
  rw [e2, e3]
  cases b <;> cases d <;> rfl
theorem hdSrc_len (n m : Nat) (hn : n ≤ 4) (hm : m < 5) (a b c d : Bool) : (hdSrc n m a b c d ++ cmEnd).length ≤ 1000 := by
  have := hdUses_len n
  have := hdRev_len m
  unfold hdSrc
  simp only [List.length_append]
  cases a <;> cases b <;> cases c <;> cases d <;> simp <;> omega
theorem hdSrc_app (n m : Nat) (a b c d : Bool) : (⟨(hdSrc n m a b c d).toArray⟩ : ByteArray) = ⟨(hdPre ++ hdUses n ++ hdRev m).toArray⟩ ++ (if a then ⟨#[32, 112, 114, 111, 118, 101, 32, 102, 97, 108, 115, 101]⟩ else ⟨#[]⟩) ++ (if b then ⟨#[32, 115, 99, 111, 112, 101, 32, 39, 115, 104, 111, 112, 39]⟩ else ⟨#[]⟩) ++ (if b && c then ⟨#[32, 108, 105, 109, 105, 116, 32, 55]⟩ else ⟨#[]⟩) ++ (if d then ⟨#[32, 101, 115, 99, 114, 111, 119, 32, 106, 117, 100, 103, 101]⟩ else ⟨#[]⟩) := by
  have e : ∀ (x : Bool) (l : List UInt8), (if x then (⟨l.toArray⟩ : ByteArray) else ⟨#[]⟩) = ⟨(if x then l else []).toArray⟩ := fun x l => by cases x <;> rfl
  rw [e, e, e, e, ba_app, ba_app, ba_app, ba_app, hdSrc]
set_option maxRecDepth 20000 in
set_option maxHeartbeats 8000000 in
theorem heads_walk (u r : Int) (a b c d : Bool) (h1 : 0 ≤ u) (h2 : u ≤ 255) (h3 : 0 ≤ r) (h4 : r ≤ 255) (w : World) : Calls Tryz.prog 6 #[.int .u8 u, .int .u8 r, .agg #[.bool a, .bool b, .bool c, .bool d]] w fun e w' => e = .returned (.bool true) ∧ Below w.heap.size w w' := by
  have HA := Lib.hid (fun W => awake_any W)
  obtain ⟨mu, rfl⟩ := Int.eq_ofNat_of_zero_le h1
  obtain ⟨mr, rfl⟩ := Int.eq_ofNat_of_zero_le h3
  obtain ⟨N, hN⟩ : ∃ k, mu % 4 + 1 = k := ⟨_, rfl⟩
  obtain ⟨M, hM⟩ : ∃ k, mr % 5 = k := ⟨_, rfl⟩
  have hN1 : 1 ≤ N := by omega
  have hN4 : N ≤ 4 := by omega
  have hM5 : M < 5 := by omega
  have he1 : (1 : Int) + (mu : Int) % 4 = (N : Int) := by omega
  have he2 : (mr : Int) % 5 = (M : Int) := by omega
  have hk1 := (Hp.start w).new 48 [.bool a, .bool b, .bool c, .bool d]
  go_enter Tryz.func6, Tryz.ntmps6
  go_upto_region 4 with fail
  try simp only [he1]
  generalize w.alloc (.cells #[.bool a, .bool b, .bool c, .bool d] 48) = w1 at *
  generalize w.heap.size = gb at *
  go_loopg [8, 9] N (fun m s8 s9 wx => ∃ i : Nat, i ≤ N ∧ m = N - i ∧ s9 = .int .i64 (i : Int) ∧ s8 = .string ⟨(hdPre ++ hdUses i).toArray⟩ ∧ Hp [] w [iblk gb 48 [.bool a, .bool b, .bool c, .bool d]] wx)
  case atStart => exact ⟨0, Nat.zero_le _, by omega, rfl, rfl, hk1⟩
  case round =>
    obtain ⟨i, hi, rfl, rfl, rfl, hk2⟩ := hrel
    clear hk1
    have hsv : (⟨(hdPre ++ hdUses i).toArray⟩ : ByteArray).size ≤ 60 := by
      rw [size_list, List.length_append]; have := hdUses_len i; simp; omega
    have HV : Hid ((⟨(hdPre ++ hdUses (i + 1)).toArray⟩ : ByteArray) = ⟨(hdPre ++ hdUses i).toArray⟩ ++ ((if i = 0 then ⟨#[]⟩ else ⟨#[44, 32]⟩) ++ (⟨#[97]⟩ ++ ⟨[UInt8.ofNat (48 + i)].toArray⟩ ++ ⟨#[58, 32, 83]⟩ ++ ⟨[UInt8.ofNat (48 + i)].toArray⟩))) := by
      refine Lib.hid ?_
      have e : (if i = 0 then (⟨#[]⟩ : ByteArray) else ⟨#[44, 32]⟩) = ⟨(if i = 0 then [] else [44, 32] : List UInt8).toArray⟩ := by split <;> rfl
      rw [e, ba_app, ba_app, ba_app, ba_app, ba_app, hdUses, List.append_assoc]
      rfl
    generalize hsv0 : (⟨(hdPre ++ hdUses i).toArray⟩ : ByteArray) = sv at *
    have HSV := Lib.hid hsv0
    clear hsv0
    by_cases hil : i < N
    · have hii : (i : Int) < (N : Int) := by omega
      have HD := Lib.hid (fun W => hdec i (by omega) W)
      have hdz : (⟨[UInt8.ofNat (48 + i)].toArray⟩ : ByteArray).size ≤ 1 := by rw [size_list]; simp
      generalize (⟨[UInt8.ofNat (48 + i)].toArray⟩ : ByteArray) = dg at *
      by_cases hz : i = 0
      · have hzz : ¬ (0 : Int) < (i : Int) := by omega
        rw [if_pos hz] at HV
        clear hz
        go_wp2_with fail
        refine (HD.out _).mono ?_
        rintro e w2 ⟨rfl, hb2⟩
        go_wp2_with fail
        refine (HD.out _).mono ?_
        rintro e w3 ⟨rfl, hb3⟩
        have hk3 := (hk2.next hb2).next hb3
        go_wp2_with fail
        go_roundg (N - (i + 1))
        case measure => omega
        case rel => exact ⟨i + 1, hil, rfl, by first | rfl | simp, by rw [HV.out, empty_app], hk3⟩
      · have hzz : (0 : Int) < (i : Int) := by omega
        rw [if_neg hz] at HV
        clear hz
        go_wp2_with fail
        refine (HD.out _).mono ?_
        rintro e w2 ⟨rfl, hb2⟩
        go_wp2_with fail
        refine (HD.out _).mono ?_
        rintro e w3 ⟨rfl, hb3⟩
        have hk3 := (hk2.next hb2).next hb3
        go_wp2_with fail
        go_roundg (N - (i + 1))
        case measure => omega
        case rel => exact ⟨i + 1, hil, rfl, by first | rfl | simp, by rw [HV.out, ByteArray.append_assoc], hk3⟩
    · obtain rfl : N = i := by omega
      have hii : ¬ (N : Int) < (N : Int) := by omega
      clear HV
      go_upto_region 11 with fail
      try simp only [he2]
      clear hii hil hi
      go_loopg [8, 11] M (fun m s8 s11 wx => ∃ i : Nat, i ≤ M ∧ m = M - i ∧ s11 = .int .i64 (i : Int) ∧ s8 = .string ⟨(hdPre ++ hdUses N ++ hdRev i).toArray⟩ ∧ Hp [] w [iblk gb 48 [.bool a, .bool b, .bool c, .bool d]] wx)
      case atStart => exact ⟨0, Nat.zero_le _, by omega, rfl, by rw [← HSV.out, hdRev, List.append_nil], hk2⟩
      case round =>
        clear hsv HSV hk2
        obtain ⟨i, hi, rfl, rfl, rfl, hk3⟩ := hrel
        have hsv : (⟨(hdPre ++ hdUses N ++ hdRev i).toArray⟩ : ByteArray).size ≤ 110 := by
          rw [size_list, List.length_append, List.length_append]; have := hdUses_len N; have := hdRev_len i; simp; omega
        have HV : Hid ((⟨(hdPre ++ hdUses N ++ hdRev (i + 1)).toArray⟩ : ByteArray) = ⟨(hdPre ++ hdUses N ++ hdRev i).toArray⟩ ++ (if i = 0 then ⟨#[32, 114, 101, 118, 101, 97, 108, 32, 97, 48, 46, 102, 48]⟩ else (⟨#[44, 32, 97, 48, 46, 102]⟩ ++ ⟨[UInt8.ofNat (48 + i)].toArray⟩))) := by
          refine Lib.hid ?_
          rw [hdRev, ← List.append_assoc, ← ba_app]
          congr 1
          split
          · rfl
          · rw [ba_app]
        generalize hsv0 : (⟨(hdPre ++ hdUses N ++ hdRev i).toArray⟩ : ByteArray) = sv at *
        have HSV := Lib.hid hsv0
        clear hsv0
        by_cases hil : i < M
        · have hii : (i : Int) < (M : Int) := by omega
          by_cases hz : i = 0
          · have hzz : ((i : Int) == 0) = true := by simp; omega
            rw [if_pos hz] at HV
            clear hz
            go_wp2_with fail
            go_roundg (M - (i + 1))
            case measure => omega
            case rel => exact ⟨i + 1, hil, rfl, by first | rfl | simp, by rw [HV.out], hk3⟩
          · have hzz : ((i : Int) == 0) = false := by simp; omega
            rw [if_neg hz] at HV
            clear hz
            have HD := Lib.hid (fun W => hdec i (by omega) W)
            have hdz : (⟨[UInt8.ofNat (48 + i)].toArray⟩ : ByteArray).size ≤ 1 := by rw [size_list]; simp
            generalize (⟨[UInt8.ofNat (48 + i)].toArray⟩ : ByteArray) = dg at *
            go_wp2_with fail
            refine (HD.out _).mono ?_
            rintro e w3 ⟨rfl, hb3⟩
            have hk4 := hk3.next hb3
            go_wp2_with fail
            go_roundg (M - (i + 1))
            case measure => omega
            case rel => exact ⟨i + 1, hil, rfl, by first | rfl | simp, by rw [HV.out], hk4⟩
        · obtain rfl : M = i := by omega
          have hii : ¬ (M : Int) < (M : Int) := by omega
          clear HV hil hi
          go_upto_region 16 with fail
          clear hii
          obtain ⟨b0, b1, b2, b3⟩ := Blk.get4' (hk3.blk 0 rfl)
          go_upto_if 58 with fail
          go_cut [8] from 59 to 60 (fun s8 wx => s8 = .string (sv ++ if a then ⟨#[32, 112, 114, 111, 118, 101, 32, 102, 97, 108, 115, 101]⟩ else ⟨#[]⟩) ∧ Hp [] w [iblk gb 48 [.bool a, .bool b, .bool c, .bool d]] wx)
          case first => as_aux_lemma =>
            cases a <;> (go_wp2_with fail; go_meet; exact ⟨by first | rfl | exact congrArg Value.string (app_empty _).symm | (simp only [Bool.false_eq_true, if_false, Bool.and_true, Bool.and_false, Bool.and_self]; exact congrArg Value.string (app_empty _).symm), by assumption⟩)
          case rest => as_aux_lemma =>
            clear hk3 b0 b1 b2 b3
            obtain ⟨rfl, hk3⟩ := hcut
            obtain ⟨b0, b1, b2, b3⟩ := Blk.get4' (hk3.blk 0 rfl)
            have hzs1 : (sv ++ if a then (⟨#[32, 112, 114, 111, 118, 101, 32, 102, 97, 108, 115, 101]⟩ : ByteArray) else ⟨#[]⟩).size ≤ 124 := by
              rw [ByteArray.size_append]
              have : (if a then (⟨#[32, 112, 114, 111, 118, 101, 32, 102, 97, 108, 115, 101]⟩ : ByteArray) else ⟨#[]⟩).size ≤ 14 := by split <;> decide
              omega
            generalize hys1 : (sv ++ if a then (⟨#[32, 112, 114, 111, 118, 101, 32, 102, 97, 108, 115, 101]⟩ : ByteArray) else ⟨#[]⟩) = s1 at *
            have HYs1 := Lib.hid hys1
            clear hys1
            go_upto_if 62 with fail
            go_cut [8] from 63 to 64 (fun s8 wx => s8 = .string (s1 ++ if b then ⟨#[32, 115, 99, 111, 112, 101, 32, 39, 115, 104, 111, 112, 39]⟩ else ⟨#[]⟩) ∧ Hp [] w [iblk gb 48 [.bool a, .bool b, .bool c, .bool d]] wx)
            case first => as_aux_lemma =>
              cases b <;> (go_wp2_with fail; go_meet; exact ⟨by first | rfl | exact congrArg Value.string (app_empty _).symm | (simp only [Bool.false_eq_true, if_false, Bool.and_true, Bool.and_false, Bool.and_self]; exact congrArg Value.string (app_empty _).symm), by assumption⟩)
            case rest => as_aux_lemma =>
              clear hk3 b0 b1 b2 b3
              obtain ⟨rfl, hk3⟩ := hcut
              obtain ⟨b0, b1, b2, b3⟩ := Blk.get4' (hk3.blk 0 rfl)
              have hzs2 : (s1 ++ if b then (⟨#[32, 115, 99, 111, 112, 101, 32, 39, 115, 104, 111, 112, 39]⟩ : ByteArray) else ⟨#[]⟩).size ≤ 138 := by
                rw [ByteArray.size_append]
                have : (if b then (⟨#[32, 115, 99, 111, 112, 101, 32, 39, 115, 104, 111, 112, 39]⟩ : ByteArray) else ⟨#[]⟩).size ≤ 14 := by split <;> decide
                omega
              generalize hys2 : (s1 ++ if b then (⟨#[32, 115, 99, 111, 112, 101, 32, 39, 115, 104, 111, 112, 39]⟩ : ByteArray) else ⟨#[]⟩) = s2 at *
              have HYs2 := Lib.hid hys2
              clear hys2
              go_upto_region 20 with fail
              go_cut [70] from 65 to 70 (fun s70 wx => s70 = .bool (b && c) ∧ Hp [] w [iblk gb 48 [.bool a, .bool b, .bool c, .bool d]] wx)
              case first => as_aux_lemma =>
                cases b <;> (go_wp2_with fail; go_meet; exact ⟨rfl, by assumption⟩)
              case rest => as_aux_lemma =>
              clear hk3 b0 b1 b2 b3
              obtain ⟨rfl, hk3⟩ := hcut
              obtain ⟨b0, b1, b2, b3⟩ := Blk.get4' (hk3.blk 0 rfl)
              go_upto_if 70 with fail
              go_cut [8] from 71 to 72 (fun s8 wx => s8 = .string (s2 ++ if b && c then ⟨#[32, 108, 105, 109, 105, 116, 32, 55]⟩ else ⟨#[]⟩) ∧ Hp [] w [iblk gb 48 [.bool a, .bool b, .bool c, .bool d]] wx)
              case first => as_aux_lemma =>
                cases b <;> cases c <;> (go_wp2_with fail; go_meet; exact ⟨by first | rfl | exact congrArg Value.string (app_empty _).symm | (simp only [Bool.false_eq_true, if_false, Bool.and_true, Bool.and_false, Bool.and_self]; exact congrArg Value.string (app_empty _).symm), by assumption⟩)
              case rest => as_aux_lemma =>
                clear hk3 b0 b1 b2 b3
                obtain ⟨rfl, hk3⟩ := hcut
                obtain ⟨b0, b1, b2, b3⟩ := Blk.get4' (hk3.blk 0 rfl)
                have hzs3 : (s2 ++ if b && c then (⟨#[32, 108, 105, 109, 105, 116, 32, 55]⟩ : ByteArray) else ⟨#[]⟩).size ≤ 152 := by
                  rw [ByteArray.size_append]
                  have : (if b && c then (⟨#[32, 108, 105, 109, 105, 116, 32, 55]⟩ : ByteArray) else ⟨#[]⟩).size ≤ 14 := by split <;> decide
                  omega
                generalize hys3 : (s2 ++ if b && c then (⟨#[32, 108, 105, 109, 105, 116, 32, 55]⟩ : ByteArray) else ⟨#[]⟩) = s3 at *
                have HYs3 := Lib.hid hys3
                clear hys3
                go_upto_if 74 with fail
                go_cut [8] from 75 to 76 (fun s8 wx => s8 = .string (s3 ++ if d then ⟨#[32, 101, 115, 99, 114, 111, 119, 32, 106, 117, 100, 103, 101]⟩ else ⟨#[]⟩) ∧ Hp [] w [iblk gb 48 [.bool a, .bool b, .bool c, .bool d]] wx)
                case first => as_aux_lemma =>
                  cases d <;> (go_wp2_with fail; go_meet; exact ⟨by first | rfl | exact congrArg Value.string (app_empty _).symm | (simp only [Bool.false_eq_true, if_false, Bool.and_true, Bool.and_false, Bool.and_self]; exact congrArg Value.string (app_empty _).symm), by assumption⟩)
                case rest => as_aux_lemma =>
                  clear hk3 b0 b1 b2 b3
                  obtain ⟨rfl, hk3⟩ := hcut
                  obtain ⟨b0, b1, b2, b3⟩ := Blk.get4' (hk3.blk 0 rfl)
                  have hzs4 : (s3 ++ if d then (⟨#[32, 101, 115, 99, 114, 111, 119, 32, 106, 117, 100, 103, 101]⟩ : ByteArray) else ⟨#[]⟩).size ≤ 166 := by
                    rw [ByteArray.size_append]
                    have : (if d then (⟨#[32, 101, 115, 99, 114, 111, 119, 32, 106, 117, 100, 103, 101]⟩ : ByteArray) else ⟨#[]⟩).size ≤ 14 := by split <;> decide
                    omega
                  generalize hys4 : (s3 ++ if d then (⟨#[32, 101, 115, 99, 114, 111, 119, 32, 106, 117, 100, 103, 101]⟩ : ByteArray) else ⟨#[]⟩) = s4 at *
                  have HYs4 := Lib.hid hys4
                  clear hys4
                  go_upto_region 24 with fail
                  have HE : Hid ((⟨(hdSrc N M a b c d).toArray⟩ : ByteArray) = s4) := Lib.hid (by rw [hdSrc_app, HSV.out, HYs1.out, HYs2.out, HYs3.out, HYs4.out])
                  clear HSV HYs1 HYs2 HYs3 HYs4 hzs1 hzs2 hzs3 hsv b0 b1 b2 b3
                  obtain ⟨at_, hP, hat⟩ := heads_law N M hN1 hN4 hM5 a b c d
                  have HC := fun W => heads_call hP (hdSrc_len N M hN4 hM5 a b c d) W
                  rw [HE.out] at HC
                  have HC := Lib.hid HC
                  have hat2 : Hid ((a || b || d) = false → at_ = ((s4.size : Nat) : Int) + 1) := Lib.hid (fun h => by rw [hat h, ← HE.out, size_list])
                  clear HE hP hat
                  go_wp2_with fail
                  refine (HC.out _).mono ?_
                  rintro e w2 ⟨⟨ua, uc, ra, rc, na, nc, rfl, hU, hR, hK⟩, hb2⟩
                  have hk4 := (hk3.next hb2).new 27 [.string ⟨#[112]⟩, .slice ua N uc, .slice ra M rc, .slice (some na) 1 nc, .int .i64 0, .string (hdSc b), .int .i64 (hdLm b c), .string (hdEs d)]
                  have hb3 := (Below.refl w2.heap.size w2).alloc (Nat.le_refl _) (.cells #[.string ⟨#[112]⟩, .slice ua N uc, .slice ra M rc, .slice (some na) 1 nc, .int .i64 0, .string (hdSc b), .int .i64 (hdLm b c), .string (hdEs d)] 27)
                  have hU2 := hU.up hb3
                  have hR2 := hR.up hb3
                  have hK2 := hK.up hb3
                  clear hk3 hU hR hK hb2 hb3 HC
                  go_upto_region 26 with fail
                  generalize w2.heap.size = bp at *
                  generalize w2.alloc _ = w3 at *
                  obtain ⟨c0, c1, c2, c3, c4, c5, c6, c7⟩ := (hk4.blk 0 rfl).get8
                  go_upto_region 29 with fail
                  go_loopg [16] N (fun m s16 wx => ∃ i : Nat, i ≤ N ∧ m = N - i ∧ s16 = .int .i64 (i : Int) ∧ Below w3.heap.size w3 wx)
                  case atStart => exact ⟨0, Nat.zero_le _, by omega, rfl, Below.refl _ _⟩
                  case round =>
                    obtain ⟨i, hi, rfl, rfl, hbw⟩ := hrel
                    by_cases hil : i < N
                    · have hii : (i : Int) < (N : Int) := by omega
                      have hx1 := scell_up c1 hbw
                      obtain ⟨ad, rfl, hUU⟩ := hU2.base (by simp [hdUl]; omega)
                      obtain ⟨q0, q1⟩ := hUU i (bs [97, UInt8.ofNat (48 + i)], bs [83, UInt8.ofNat (48 + i)]) (by simp [hdUl, hil])
                      have eq0 : bs [97, UInt8.ofNat (48 + i)] = ⟨#[97]⟩ ++ ⟨[UInt8.ofNat (48 + i)].toArray⟩ := (ba_app [97] [UInt8.ofNat (48 + i)]).symm
                      have eq1 : bs [83, UInt8.ofNat (48 + i)] = ⟨#[83]⟩ ++ ⟨[UInt8.ofNat (48 + i)].toArray⟩ := (ba_app [83] [UInt8.ofNat (48 + i)]).symm
                      rw [eq0] at q0
                      rw [eq1] at q1
                      have r0 := scell_up q0 hbw
                      have r1 := scell_up q1 hbw
                      have HD : Hid (∀ W, Below w3.heap.size w3 W → Calls Tryz.prog 15 #[.int .i64 (i : Int)] W fun e w' => e = .returned (.string ⟨[UInt8.ofNat (48 + i)].toArray⟩) ∧ Below w3.heap.size w3 w') := Lib.hid (fun W h => (hdec i (by omega) W).mono fun e w' ⟨h1, h2⟩ => ⟨h1, h.trans (h2.mono h.size)⟩)
                      have hdz : (⟨[UInt8.ofNat (48 + i)].toArray⟩ : ByteArray).size ≤ 1 := by rw [size_list]; simp
                      clear eq0 eq1 hUU
                      generalize (⟨[UInt8.ofNat (48 + i)].toArray⟩ : ByteArray) = dg at *
                      have HS : Hid (∀ W, Below w3.heap.size w3 W → W.cell? ⟨bp, 1, none⟩ = some (.slice (some ad) N uc) ∧ W.cell? (ad.add (i * 2)) = some (.string (⟨#[97]⟩ ++ dg)) ∧ W.cell? ⟨(ad.add (i * 2)).block, (ad.add (i * 2)).off + 1, none⟩ = some (.string (⟨#[83]⟩ ++ dg))) := Lib.hid (fun W h => ⟨scell_up c1 h, scell_up q0 h, scell_up q1 h⟩)
                      clear q0 q1
                      have hlim := fun w => cat_run ⟨#[97]⟩ dg (by rw [show (⟨#[97]⟩ : ByteArray).size = 1 from rfl]; omega) w
                      have hlim2 := fun w => cat_run ⟨#[83]⟩ dg (by rw [show (⟨#[83]⟩ : ByteArray).size = 1 from rfl]; omega) w
                      go_upto_region 31 with fail
                      go_cut [135] from 114 to 135 (fun s135 wx => s135 = .bool false ∧ Below w3.heap.size w3 wx)
                      case first => as_aux_lemma =>
                        first | go_region_held3 (fun w' => w'.cell? ⟨bp, 1, none⟩ = some (.slice (some ad) N uc) ∧ w'.cell? (ad.add (i * 2)) = some (.string (⟨#[97]⟩ ++ dg)) ∧ w'.cell? ⟨(ad.add (i * 2)).block, (ad.add (i * 2)).off + 1, none⟩ = some (.string (⟨#[83]⟩ ++ dg))) (exact HS.out _ (by first | assumption | exact hbw.drew)) ((go_at_call 15; refine (HD.out _ (by first | assumption | exact hbw.drew)).mono ?_; rintro e w8 ⟨rfl, hb8⟩)) | fail
                        all_goals (go_wp2_with fail; go_meet; exact ⟨rfl, by assumption⟩)
                      case rest => as_aux_lemma =>
                      obtain ⟨rfl, hbc⟩ := hcut
                      go_wp2_with fail
                      go_roundg (N - (i + 1))
                      case measure => omega
                      case rel => exact ⟨i + 1, hil, rfl, by first | rfl | simp, hbc⟩
                    · obtain rfl : N = i := by omega
                      have hii : ¬ (N : Int) < (N : Int) := by omega
                      clear hi hil hU2
                      go_upto_region 34 with fail
                      clear hii
                      go_loopg [17] M (fun m s17 wx => ∃ i : Nat, i ≤ M ∧ m = M - i ∧ s17 = .int .i64 (i : Int) ∧ Below w3.heap.size w3 wx)
                      case atStart => exact ⟨0, Nat.zero_le _, by omega, rfl, hbw⟩
                      case round =>
                        clear hbw
                        obtain ⟨i, hi, rfl, rfl, hbw⟩ := hrel
                        by_cases hil : i < M
                        · have hii : (i : Int) < (M : Int) := by omega
                          have hx2 := scell_up c2 hbw
                          obtain ⟨ad, rfl, hUU⟩ := hR2.base (by simp [hdRl]; omega)
                          obtain ⟨q0, q1⟩ := hUU i (bs [97, 48], bs [102, UInt8.ofNat (48 + i)]) (by simp [hdRl, hil])
                          have eq0 : bs [97, 48] = ⟨#[97, 48]⟩ := rfl
                          have eq1 : bs [102, UInt8.ofNat (48 + i)] = ⟨#[102]⟩ ++ ⟨[UInt8.ofNat (48 + i)].toArray⟩ := (ba_app [102] [UInt8.ofNat (48 + i)]).symm
                          rw [eq0] at q0
                          rw [eq1] at q1
                          have r0 := scell_up q0 hbw
                          have r1 := scell_up q1 hbw
                          have HD : Hid (∀ W, Below w3.heap.size w3 W → Calls Tryz.prog 15 #[.int .i64 (i : Int)] W fun e w' => e = .returned (.string ⟨[UInt8.ofNat (48 + i)].toArray⟩) ∧ Below w3.heap.size w3 w') := Lib.hid (fun W h => (hdec i (by omega) W).mono fun e w' ⟨h1, h2⟩ => ⟨h1, h.trans (h2.mono h.size)⟩)
                          have hdz : (⟨[UInt8.ofNat (48 + i)].toArray⟩ : ByteArray).size ≤ 1 := by rw [size_list]; simp
                          clear eq0 eq1 hUU
                          generalize (⟨[UInt8.ofNat (48 + i)].toArray⟩ : ByteArray) = dg at *
                          have HS : Hid (∀ W, Below w3.heap.size w3 W → W.cell? ⟨bp, 2, none⟩ = some (.slice (some ad) M rc) ∧ W.cell? (ad.add (i * 2)) = some (.string ⟨#[97, 48]⟩) ∧ W.cell? ⟨(ad.add (i * 2)).block, (ad.add (i * 2)).off + 1, none⟩ = some (.string (⟨#[102]⟩ ++ dg))) := Lib.hid (fun W h => ⟨scell_up c2 h, scell_up q0 h, scell_up q1 h⟩)
                          clear q0 q1
                          have hlim := fun w => cat_run ⟨#[102]⟩ dg (by rw [show (⟨#[102]⟩ : ByteArray).size = 1 from rfl]; omega) w
                          go_upto_region 36 with fail
                          go_cut [159] from 141 to 159 (fun s159 wx => s159 = .bool false ∧ Below w3.heap.size w3 wx)
                          case first => as_aux_lemma =>
                            first | go_region_held3 (fun w' => w'.cell? ⟨bp, 2, none⟩ = some (.slice (some ad) M rc) ∧ w'.cell? (ad.add (i * 2)) = some (.string ⟨#[97, 48]⟩) ∧ w'.cell? ⟨(ad.add (i * 2)).block, (ad.add (i * 2)).off + 1, none⟩ = some (.string (⟨#[102]⟩ ++ dg))) (exact HS.out _ (by first | assumption | exact hbw.drew)) ((go_at_call 15; refine (HD.out _ (by first | assumption | exact hbw.drew)).mono ?_; rintro e w8 ⟨rfl, hb8⟩)) | fail
                            all_goals (go_wp2_with fail; go_meet; exact ⟨rfl, by assumption⟩)
                          case rest => as_aux_lemma =>
                          obtain ⟨rfl, hbc⟩ := hcut
                          go_wp2_with fail
                          go_roundg (M - (i + 1))
                          case measure => omega
                          case rel => exact ⟨i + 1, hil, rfl, by first | rfl | simp, hbc⟩
                        · obtain rfl : M = i := by omega
                          have hii : ¬ (M : Int) < (M : Int) := by omega
                          go_upto_region 38 with fail
                          clear hii hi hil hR2 c0 c1 c2 c3 c4 c5 c6 c7
                          have hk5 := hk4.next hbw
                          have hK5 := hK2.up hbw
                          clear hk4 hK2 hbw
                          obtain ⟨c0, c1, c2, c3, c4, c5, c6, c7⟩ := (hk5.blk 0 rfl).get8
                          obtain ⟨b0, b1, b2, b3⟩ := Blk.get4' (hk5.blk 1 rfl)
                          obtain ⟨K0, k0, n0, n1, n2, n3, n4, n5, -⟩ := hK5.get (i := 0) rfl
                          clear hK5
                          simp only [Nat.zero_mul, add_none, hdNd] at n0 n1 n2 n3 n4 n5
                          have hat3 := hat2.out
                          clear hat2 n1 n2 n3 n4 c0 c1 c2 c4
                          go_cut [181] from 160 to 181 (fun s181 wx => s181 = .bool false ∧ wx = wr)
                          case first => as_aux_lemma =>
                            cases a with
                            | true => go_wp2_with fail; go_meet; exact ⟨rfl, rfl⟩
                            | false =>
                              cases b with
                              | true => go_wp2_with fail; go_meet; exact ⟨rfl, rfl⟩
                              | false =>
                                cases d with
                                | true => go_wp2_with fail; go_meet; exact ⟨rfl, rfl⟩
                                | false =>
                                  have hat4 : at_ = (s4.size : Int) + 1 := hat3 rfl
                                  subst hat4
                                  clear hat3
                                  go_wp2_with fail
                                  go_meet
                                  exact ⟨rfl, rfl⟩
                          case rest => as_aux_lemma =>
                          obtain ⟨rfl, hwc⟩ := hcut
                          subst hwc
                          clear hat3 n5
                          have hkd : (((if a = true then 1 else 0 : Int)) == 1) = a := by cases a <;> rfl
                          generalize (if a = true then 1 else 0 : Int) = kd at *
                          have hes : ((hdEs d).toList == [106, 117, 100, 103, 101]) = d := by cases d <;> decide +kernel
                          have hsc : ((hdSc b).toList == [115, 104, 111, 112]) = b := by cases b <;> decide +kernel
                          have hlm : (hdLm b c == 7) = (b && c) := by cases b <;> cases c <;> rfl
                          generalize hdEs d = es at *
                          generalize hdSc b = sc at *
                          generalize hdLm b c = lm at *
                          go_upto_region 40 with fail
                          cases b
                          all_goals
                            refine wp_region_held_drew (S := (fun w' => w'.cell? ⟨bp, 3, none⟩ = some (.slice (some na) 1 nc) ∧ w'.cell? ⟨bp, 5, none⟩ = wc.cell? ⟨bp, 5, none⟩ ∧ w'.cell? ⟨bp, 6, none⟩ = wc.cell? ⟨bp, 6, none⟩ ∧ w'.cell? ⟨bp, 7, none⟩ = wc.cell? ⟨bp, 7, none⟩ ∧ w'.cell? na = wc.cell? na ∧ w'.cell? ⟨gb, 0, none⟩ = wc.cell? ⟨gb, 0, none⟩ ∧ w'.cell? ⟨gb, 1, none⟩ = wc.cell? ⟨gb, 1, none⟩ ∧ w'.cell? ⟨gb, 2, none⟩ = wc.cell? ⟨gb, 2, none⟩ ∧ w'.cell? ⟨gb, 3, none⟩ = wc.cell? ⟨gb, 3, none⟩)) (by kernel_rfl) ?_ (fun hHeld => ?_)
                            · exact ⟨c3, rfl, rfl, rfl, rfl, rfl, rfl, rfl, rfl⟩
                            refine wpAnyH_ready (rs := [0]) (by kernel_rfl) (by simp) ?_
                            refine AllReadyH.cons rfl (fun K hK => ?_) AllReadyH.nil
                            go_simp
                            refine (HA.out _).mono ?_
                            rintro e w8 ⟨rfl, hb7⟩
                            have hb8 : Below wc.heap.size wc w8 := ((Below.refl wc.heap.size wc).drew).trans hb7
                            refine hK.out _ _ ?_ (fun hHeld => ?_)
                            · exact ⟨scell_up c3 hb8, (scell_up c5 hb8).trans c5.symm, (scell_up c6 hb8).trans c6.symm, (scell_up c7 hb8).trans c7.symm, (scell_up n0 hb8).trans n0.symm, (scell_up b0 hb8).trans b0.symm, (scell_up b1 hb8).trans b1.symm, (scell_up b2 hb8).trans b2.symm, (scell_up b3 hb8).trans b3.symm⟩
                            clear hK K
                            refine wpAnyH_take (i := 1) (v := ?_) rfl (by kernel_rfl) (by kernel_rfl) (by kernel_rfl) (fun _ _ _ h => h) (by refine Or.inl ⟨by rfl, fun w hSw => ?_⟩; dsimp only at hSw; obtain ⟨s1, s2, s3, s4, s5, s6, s7, s8, s9⟩ := hSw; rw [c5] at s2; rw [c6] at s3; rw [c7] at s4; rw [n0] at s5; rw [b0] at s6; rw [b1] at s7; rw [b2] at s8; rw [b3] at s9; go_simp; with_reducible rfl) (by assumption) ?_
                            try simp only [Act.put, List.getElem_toArray, List.getElem_cons_zero, List.getElem_cons_succ, List.setIfInBounds_toArray, List.set_cons_zero, List.set_cons_succ]
                            refine wpAnyH_take (i := 2) (v := ?_) rfl (by kernel_rfl) (by kernel_rfl) (by kernel_rfl) (fun _ _ _ h => h) (by refine Or.inl ⟨by rfl, fun w hSw => ?_⟩; dsimp only at hSw; obtain ⟨s1, s2, s3, s4, s5, s6, s7, s8, s9⟩ := hSw; rw [c5] at s2; rw [c6] at s3; rw [c7] at s4; rw [n0] at s5; rw [b0] at s6; rw [b1] at s7; rw [b2] at s8; rw [b3] at s9; go_simp; with_reducible rfl) (by assumption) ?_
                            try simp only [Act.put, List.getElem_toArray, List.getElem_cons_zero, List.getElem_cons_succ, List.setIfInBounds_toArray, List.set_cons_zero, List.set_cons_succ]
                            refine wpAnyH_take (i := 3) (v := ?_) rfl (by kernel_rfl) (by kernel_rfl) (by kernel_rfl) (fun _ _ _ h => h) (by refine Or.inl ⟨by rfl, fun w hSw => ?_⟩; dsimp only at hSw; obtain ⟨s1, s2, s3, s4, s5, s6, s7, s8, s9⟩ := hSw; rw [c5] at s2; rw [c6] at s3; rw [c7] at s4; rw [n0] at s5; rw [b0] at s6; rw [b1] at s7; rw [b2] at s8; rw [b3] at s9; go_simp; with_reducible rfl) (by assumption) ?_
                            try simp only [Act.put, List.getElem_toArray, List.getElem_cons_zero, List.getElem_cons_succ, List.setIfInBounds_toArray, List.set_cons_zero, List.set_cons_succ]
                            refine wpAnyH_take (i := 4) (v := ?_) rfl (by kernel_rfl) (by kernel_rfl) (by kernel_rfl) (fun _ _ _ h => h) (by refine Or.inl ⟨by rfl, fun w hSw => ?_⟩; dsimp only at hSw; obtain ⟨s1, s2, s3, s4, s5, s6, s7, s8, s9⟩ := hSw; rw [c5] at s2; rw [c6] at s3; rw [c7] at s4; rw [n0] at s5; rw [b0] at s6; rw [b1] at s7; rw [b2] at s8; rw [b3] at s9; go_simp; with_reducible rfl) (by assumption) ?_
                            try simp only [Act.put, List.getElem_toArray, List.getElem_cons_zero, List.getElem_cons_succ, List.setIfInBounds_toArray, List.set_cons_zero, List.set_cons_succ]
                            refine wpAnyH_take (i := 5) (v := ?_) rfl (by kernel_rfl) (by kernel_rfl) (by kernel_rfl) (fun _ _ _ h => h) (by refine Or.inl ⟨by rfl, fun w hSw => ?_⟩; dsimp only at hSw; obtain ⟨s1, s2, s3, s4, s5, s6, s7, s8, s9⟩ := hSw; rw [c5] at s2; rw [c6] at s3; rw [c7] at s4; rw [n0] at s5; rw [b0] at s6; rw [b1] at s7; rw [b2] at s8; rw [b3] at s9; go_simp; with_reducible rfl) (by assumption) ?_
                            try simp only [Act.put, List.getElem_toArray, List.getElem_cons_zero, List.getElem_cons_succ, List.setIfInBounds_toArray, List.set_cons_zero, List.set_cons_succ]
                            refine wpAnyH_take (i := 6) (v := ?_) rfl (by kernel_rfl) (by kernel_rfl) (by kernel_rfl) (fun _ _ _ h => h) (by refine Or.inl ⟨by rfl, fun w hSw => ?_⟩; dsimp only at hSw; obtain ⟨s1, s2, s3, s4, s5, s6, s7, s8, s9⟩ := hSw; rw [c5] at s2; rw [c6] at s3; rw [c7] at s4; rw [n0] at s5; rw [b0] at s6; rw [b1] at s7; rw [b2] at s8; rw [b3] at s9; go_simp; with_reducible rfl) (by assumption) ?_
                            try simp only [Act.put, List.getElem_toArray, List.getElem_cons_zero, List.getElem_cons_succ, List.setIfInBounds_toArray, List.set_cons_zero, List.set_cons_succ]
                            refine wpAnyH_take (i := 7) (v := ?_) rfl (by kernel_rfl) (by kernel_rfl) (by kernel_rfl) (fun _ _ _ h => h) (by refine Or.inl ⟨by rfl, fun w hSw => ?_⟩; dsimp only at hSw; obtain ⟨s1, s2, s3, s4, s5, s6, s7, s8, s9⟩ := hSw; rw [c5] at s2; rw [c6] at s3; rw [c7] at s4; rw [n0] at s5; rw [b0] at s6; rw [b1] at s7; rw [b2] at s8; rw [b3] at s9; go_simp; with_reducible rfl) (by assumption) ?_
                            try simp only [Act.put, List.getElem_toArray, List.getElem_cons_zero, List.getElem_cons_succ, List.setIfInBounds_toArray, List.set_cons_zero, List.set_cons_succ]
                            refine wpAnyH_take (i := 8) (v := ?_) rfl (by kernel_rfl) (by kernel_rfl) (by kernel_rfl) (fun _ _ _ h => h) (by refine Or.inl ⟨by rfl, fun w hSw => ?_⟩; dsimp only at hSw; obtain ⟨s1, s2, s3, s4, s5, s6, s7, s8, s9⟩ := hSw; rw [c5] at s2; rw [c6] at s3; rw [c7] at s4; rw [n0] at s5; rw [b0] at s6; rw [b1] at s7; rw [b2] at s8; rw [b3] at s9; go_simp; with_reducible rfl) (by assumption) ?_
                            try simp only [Act.put, List.getElem_toArray, List.getElem_cons_zero, List.getElem_cons_succ, List.setIfInBounds_toArray, List.set_cons_zero, List.set_cons_succ]
                            refine wpAnyH_take (i := 9) (v := ?_) rfl (by kernel_rfl) (by kernel_rfl) (by kernel_rfl) (fun _ _ _ h => h) (by refine Or.inl ⟨by rfl, fun w hSw => ?_⟩; dsimp only at hSw; obtain ⟨s1, s2, s3, s4, s5, s6, s7, s8, s9⟩ := hSw; rw [c5] at s2; rw [c6] at s3; rw [c7] at s4; rw [n0] at s5; rw [b0] at s6; rw [b1] at s7; rw [b2] at s8; rw [b3] at s9; go_simp; with_reducible rfl) (by assumption) ?_
                            try simp only [Act.put, List.getElem_toArray, List.getElem_cons_zero, List.getElem_cons_succ, List.setIfInBounds_toArray, List.set_cons_zero, List.set_cons_succ]
                            refine wpAnyH_take (i := 10) (v := ?_) rfl (by kernel_rfl) (by kernel_rfl) (by kernel_rfl) (fun _ _ _ h => h) (by refine Or.inl ⟨by rfl, fun w hSw => ?_⟩; dsimp only at hSw; obtain ⟨s1, s2, s3, s4, s5, s6, s7, s8, s9⟩ := hSw; rw [c5] at s2; rw [c6] at s3; rw [c7] at s4; rw [n0] at s5; rw [b0] at s6; rw [b1] at s7; rw [b2] at s8; rw [b3] at s9; go_simp; with_reducible rfl) (by assumption) ?_
                            try simp only [Act.put, List.getElem_toArray, List.getElem_cons_zero, List.getElem_cons_succ, List.setIfInBounds_toArray, List.set_cons_zero, List.set_cons_succ]
                            refine wpAnyH_take (i := 11) (v := ?_) rfl (by kernel_rfl) (by kernel_rfl) (by kernel_rfl) (fun _ _ _ h => h) (by refine Or.inl ⟨by rfl, fun w hSw => ?_⟩; dsimp only at hSw; obtain ⟨s1, s2, s3, s4, s5, s6, s7, s8, s9⟩ := hSw; rw [c5] at s2; rw [c6] at s3; rw [c7] at s4; rw [n0] at s5; rw [b0] at s6; rw [b1] at s7; rw [b2] at s8; rw [b3] at s9; go_simp; with_reducible rfl) (by assumption) ?_
                            try simp only [Act.put, List.getElem_toArray, List.getElem_cons_zero, List.getElem_cons_succ, List.setIfInBounds_toArray, List.set_cons_zero, List.set_cons_succ]
                            refine wpAnyH_take (i := 12) (v := ?_) rfl (by kernel_rfl) (by kernel_rfl) (by kernel_rfl) (fun _ _ _ h => h) (by refine Or.inl ⟨by rfl, fun w hSw => ?_⟩; dsimp only at hSw; obtain ⟨s1, s2, s3, s4, s5, s6, s7, s8, s9⟩ := hSw; rw [c5] at s2; rw [c6] at s3; rw [c7] at s4; rw [n0] at s5; rw [b0] at s6; rw [b1] at s7; rw [b2] at s8; rw [b3] at s9; go_simp; with_reducible rfl) (by assumption) ?_
                            try simp only [Act.put, List.getElem_toArray, List.getElem_cons_zero, List.getElem_cons_succ, List.setIfInBounds_toArray, List.set_cons_zero, List.set_cons_succ]
                            refine wpAnyH_take (i := 13) (v := ?_) rfl (by kernel_rfl) (by kernel_rfl) (by kernel_rfl) (fun _ _ _ h => h) (by refine Or.inl ⟨by rfl, fun w hSw => ?_⟩; dsimp only at hSw; obtain ⟨s1, s2, s3, s4, s5, s6, s7, s8, s9⟩ := hSw; rw [c5] at s2; rw [c6] at s3; rw [c7] at s4; rw [n0] at s5; rw [b0] at s6; rw [b1] at s7; rw [b2] at s8; rw [b3] at s9; go_simp; with_reducible rfl) (by assumption) ?_
                            try simp only [Act.put, List.getElem_toArray, List.getElem_cons_zero, List.getElem_cons_succ, List.setIfInBounds_toArray, List.set_cons_zero, List.set_cons_succ]
                            refine wpAnyH_take (i := 14) (v := ?_) rfl (by kernel_rfl) (by kernel_rfl) (by kernel_rfl) (fun _ _ _ h => h) (by refine Or.inl ⟨by rfl, fun w hSw => ?_⟩; dsimp only at hSw; obtain ⟨s1, s2, s3, s4, s5, s6, s7, s8, s9⟩ := hSw; rw [c5] at s2; rw [c6] at s3; rw [c7] at s4; rw [n0] at s5; rw [b0] at s6; rw [b1] at s7; rw [b2] at s8; rw [b3] at s9; go_simp; with_reducible rfl) (by assumption) ?_
                            try simp only [Act.put, List.getElem_toArray, List.getElem_cons_zero, List.getElem_cons_succ, List.setIfInBounds_toArray, List.set_cons_zero, List.set_cons_succ]
                            refine wpAnyH_take (i := 15) (v := ?_) rfl (by kernel_rfl) (by kernel_rfl) (by kernel_rfl) (fun _ _ _ h => h) (by refine Or.inl ⟨by rfl, fun w hSw => ?_⟩; dsimp only at hSw; obtain ⟨s1, s2, s3, s4, s5, s6, s7, s8, s9⟩ := hSw; rw [c5] at s2; rw [c6] at s3; rw [c7] at s4; rw [n0] at s5; rw [b0] at s6; rw [b1] at s7; rw [b2] at s8; rw [b3] at s9; go_simp; with_reducible rfl) (by assumption) ?_
                            try simp only [Act.put, List.getElem_toArray, List.getElem_cons_zero, List.getElem_cons_succ, List.setIfInBounds_toArray, List.set_cons_zero, List.set_cons_succ]
                            refine wpAnyH_take (i := 16) (v := ?_) rfl (by kernel_rfl) (by kernel_rfl) (by kernel_rfl) (fun _ _ _ h => h) (by refine Or.inl ⟨by rfl, fun w hSw => ?_⟩; dsimp only at hSw; obtain ⟨s1, s2, s3, s4, s5, s6, s7, s8, s9⟩ := hSw; rw [c5] at s2; rw [c6] at s3; rw [c7] at s4; rw [n0] at s5; rw [b0] at s6; rw [b1] at s7; rw [b2] at s8; rw [b3] at s9; go_simp; with_reducible rfl) (by assumption) ?_
                            try simp only [Act.put, List.getElem_toArray, List.getElem_cons_zero, List.getElem_cons_succ, List.setIfInBounds_toArray, List.set_cons_zero, List.set_cons_succ]
                            refine wpAnyH_take (i := 17) (v := ?_) rfl (by kernel_rfl) (by kernel_rfl) (by kernel_rfl) (fun _ _ _ h => h) (by refine Or.inl ⟨by rfl, fun w hSw => ?_⟩; dsimp only at hSw; obtain ⟨s1, s2, s3, s4, s5, s6, s7, s8, s9⟩ := hSw; rw [c5] at s2; rw [c6] at s3; rw [c7] at s4; rw [n0] at s5; rw [b0] at s6; rw [b1] at s7; rw [b2] at s8; rw [b3] at s9; go_simp; with_reducible rfl) (by assumption) ?_
                            try simp only [Act.put, List.getElem_toArray, List.getElem_cons_zero, List.getElem_cons_succ, List.setIfInBounds_toArray, List.set_cons_zero, List.set_cons_succ]
                            refine wpAnyH_take (i := 18) (v := ?_) rfl (by kernel_rfl) (by kernel_rfl) (by kernel_rfl) (fun _ _ _ h => h) (by refine Or.inl ⟨by rfl, fun w hSw => ?_⟩; dsimp only at hSw; obtain ⟨s1, s2, s3, s4, s5, s6, s7, s8, s9⟩ := hSw; rw [c5] at s2; rw [c6] at s3; rw [c7] at s4; rw [n0] at s5; rw [b0] at s6; rw [b1] at s7; rw [b2] at s8; rw [b3] at s9; go_simp; with_reducible rfl) (by assumption) ?_
                            try simp only [Act.put, List.getElem_toArray, List.getElem_cons_zero, List.getElem_cons_succ, List.setIfInBounds_toArray, List.set_cons_zero, List.set_cons_succ]
                            refine wpAnyH_take (i := 19) (v := ?_) rfl (by kernel_rfl) (by kernel_rfl) (by kernel_rfl) (fun _ _ _ h => h) (by refine Or.inl ⟨by rfl, fun w hSw => ?_⟩; dsimp only at hSw; obtain ⟨s1, s2, s3, s4, s5, s6, s7, s8, s9⟩ := hSw; rw [c5] at s2; rw [c6] at s3; rw [c7] at s4; rw [n0] at s5; rw [b0] at s6; rw [b1] at s7; rw [b2] at s8; rw [b3] at s9; go_simp; with_reducible rfl) (by assumption) ?_
                            try simp only [Act.put, List.getElem_toArray, List.getElem_cons_zero, List.getElem_cons_succ, List.setIfInBounds_toArray, List.set_cons_zero, List.set_cons_succ]
                            refine wpAnyH_take (i := 20) (v := ?_) rfl (by kernel_rfl) (by kernel_rfl) (by kernel_rfl) (fun _ _ _ h => h) (by refine Or.inl ⟨by rfl, fun w hSw => ?_⟩; dsimp only at hSw; obtain ⟨s1, s2, s3, s4, s5, s6, s7, s8, s9⟩ := hSw; rw [c5] at s2; rw [c6] at s3; rw [c7] at s4; rw [n0] at s5; rw [b0] at s6; rw [b1] at s7; rw [b2] at s8; rw [b3] at s9; go_simp; with_reducible rfl) (by assumption) ?_
                            try simp only [Act.put, List.getElem_toArray, List.getElem_cons_zero, List.getElem_cons_succ, List.setIfInBounds_toArray, List.set_cons_zero, List.set_cons_succ]
                            refine wpAnyH_take (i := 21) (v := ?_) rfl (by kernel_rfl) (by kernel_rfl) (by kernel_rfl) (fun _ _ _ h => h) (by refine Or.inl ⟨by rfl, fun w hSw => ?_⟩; dsimp only at hSw; obtain ⟨s1, s2, s3, s4, s5, s6, s7, s8, s9⟩ := hSw; rw [c5] at s2; rw [c6] at s3; rw [c7] at s4; rw [n0] at s5; rw [b0] at s6; rw [b1] at s7; rw [b2] at s8; rw [b3] at s9; go_simp; with_reducible rfl) (by assumption) ?_
                            try simp only [Act.put, List.getElem_toArray, List.getElem_cons_zero, List.getElem_cons_succ, List.setIfInBounds_toArray, List.set_cons_zero, List.set_cons_succ]
                            refine wpAnyH_take (i := 22) (v := ?_) rfl (by kernel_rfl) (by kernel_rfl) (by kernel_rfl) (fun _ _ _ h => h) (by refine Or.inl ⟨by rfl, fun w hSw => ?_⟩; dsimp only at hSw; obtain ⟨s1, s2, s3, s4, s5, s6, s7, s8, s9⟩ := hSw; rw [c5] at s2; rw [c6] at s3; rw [c7] at s4; rw [n0] at s5; rw [b0] at s6; rw [b1] at s7; rw [b2] at s8; rw [b3] at s9; go_simp; with_reducible rfl) (by assumption) ?_
                            try simp only [Act.put, List.getElem_toArray, List.getElem_cons_zero, List.getElem_cons_succ, List.setIfInBounds_toArray, List.set_cons_zero, List.set_cons_succ]
                            refine wpAnyH_take (i := 23) (v := ?_) rfl (by kernel_rfl) (by kernel_rfl) (by kernel_rfl) (fun _ _ _ h => h) (by refine Or.inl ⟨by rfl, fun w hSw => ?_⟩; dsimp only at hSw; obtain ⟨s1, s2, s3, s4, s5, s6, s7, s8, s9⟩ := hSw; rw [c5] at s2; rw [c6] at s3; rw [c7] at s4; rw [n0] at s5; rw [b0] at s6; rw [b1] at s7; rw [b2] at s8; rw [b3] at s9; go_simp; with_reducible rfl) (by assumption) ?_
                            try simp only [Act.put, List.getElem_toArray, List.getElem_cons_zero, List.getElem_cons_succ, List.setIfInBounds_toArray, List.set_cons_zero, List.set_cons_succ]
                            refine wpAnyH_take (i := 24) (v := ?_) rfl (by kernel_rfl) (by kernel_rfl) (by kernel_rfl) (fun _ _ _ h => h) (by refine Or.inl ⟨by rfl, fun w hSw => ?_⟩; dsimp only at hSw; obtain ⟨s1, s2, s3, s4, s5, s6, s7, s8, s9⟩ := hSw; rw [c5] at s2; rw [c6] at s3; rw [c7] at s4; rw [n0] at s5; rw [b0] at s6; rw [b1] at s7; rw [b2] at s8; rw [b3] at s9; go_simp; with_reducible rfl) (by assumption) ?_
                            try simp only [Act.put, List.getElem_toArray, List.getElem_cons_zero, List.getElem_cons_succ, List.setIfInBounds_toArray, List.set_cons_zero, List.set_cons_succ]
                            refine wpAnyH_take (i := 25) (v := ?_) rfl (by kernel_rfl) (by kernel_rfl) (by kernel_rfl) (fun _ _ _ h => h) (by refine Or.inl ⟨by rfl, fun w hSw => ?_⟩; dsimp only at hSw; obtain ⟨s1, s2, s3, s4, s5, s6, s7, s8, s9⟩ := hSw; rw [c5] at s2; rw [c6] at s3; rw [c7] at s4; rw [n0] at s5; rw [b0] at s6; rw [b1] at s7; rw [b2] at s8; rw [b3] at s9; go_simp; with_reducible rfl) (by assumption) ?_
                            try simp only [Act.put, List.getElem_toArray, List.getElem_cons_zero, List.getElem_cons_succ, List.setIfInBounds_toArray, List.set_cons_zero, List.set_cons_succ]
                            refine wpAnyH_take (i := 26) (v := ?_) rfl (by kernel_rfl) (by kernel_rfl) (by kernel_rfl) (fun _ _ _ h => h) (by refine Or.inl ⟨by rfl, fun w hSw => ?_⟩; dsimp only at hSw; obtain ⟨s1, s2, s3, s4, s5, s6, s7, s8, s9⟩ := hSw; rw [c5] at s2; rw [c6] at s3; rw [c7] at s4; rw [n0] at s5; rw [b0] at s6; rw [b1] at s7; rw [b2] at s8; rw [b3] at s9; go_simp; with_reducible rfl) (by assumption) ?_
                            try simp only [Act.put, List.getElem_toArray, List.getElem_cons_zero, List.getElem_cons_succ, List.setIfInBounds_toArray, List.set_cons_zero, List.set_cons_succ]
                            first | refine wpAnyH_take (i := 27) (v := undef) rfl (by kernel_rfl) (by kernel_rfl) (by kernel_rfl) (fun _ _ _ h => h) (Or.inr ⟨by rfl, rfl⟩) (by assumption) ?_ | refine wpAnyH_take (i := 27) (v := ?_) rfl (by kernel_rfl) (by kernel_rfl) (by kernel_rfl) (fun _ _ _ h => h) (by refine Or.inl ⟨by rfl, fun w hSw => ?_⟩; dsimp only at hSw; obtain ⟨s1, s2, s3, s4, s5, s6, s7, s8, s9⟩ := hSw; rw [c5] at s2; rw [c6] at s3; rw [c7] at s4; rw [n0] at s5; rw [b0] at s6; rw [b1] at s7; rw [b2] at s8; rw [b3] at s9; go_simp; with_reducible rfl) (by assumption) ?_
                            try simp only [Act.put, List.getElem_toArray, List.getElem_cons_zero, List.getElem_cons_succ, List.setIfInBounds_toArray, List.set_cons_zero, List.set_cons_succ]
                            first | refine wpAnyH_take (i := 28) (v := undef) rfl (by kernel_rfl) (by kernel_rfl) (by kernel_rfl) (fun _ _ _ h => h) (Or.inr ⟨by rfl, rfl⟩) (by assumption) ?_ | refine wpAnyH_take (i := 28) (v := ?_) rfl (by kernel_rfl) (by kernel_rfl) (by kernel_rfl) (fun _ _ _ h => h) (by refine Or.inl ⟨by rfl, fun w hSw => ?_⟩; dsimp only at hSw; obtain ⟨s1, s2, s3, s4, s5, s6, s7, s8, s9⟩ := hSw; rw [c5] at s2; rw [c6] at s3; rw [c7] at s4; rw [n0] at s5; rw [b0] at s6; rw [b1] at s7; rw [b2] at s8; rw [b3] at s9; go_simp; with_reducible rfl) (by assumption) ?_
                            try simp only [Act.put, List.getElem_toArray, List.getElem_cons_zero, List.getElem_cons_succ, List.setIfInBounds_toArray, List.set_cons_zero, List.set_cons_succ]
                            refine wpAnyH_take (i := 29) (v := ?_) rfl (by kernel_rfl) (by kernel_rfl) (by kernel_rfl) (fun _ _ _ h => h) (by refine Or.inl ⟨by rfl, fun w hSw => ?_⟩; dsimp only at hSw; obtain ⟨s1, s2, s3, s4, s5, s6, s7, s8, s9⟩ := hSw; rw [c5] at s2; rw [c6] at s3; rw [c7] at s4; rw [n0] at s5; rw [b0] at s6; rw [b1] at s7; rw [b2] at s8; rw [b3] at s9; go_simp; with_reducible rfl) (by assumption) ?_
                            try simp only [Act.put, List.getElem_toArray, List.getElem_cons_zero, List.getElem_cons_succ, List.setIfInBounds_toArray, List.set_cons_zero, List.set_cons_succ]
                            refine wpAnyH_take (i := 30) (v := ?_) rfl (by kernel_rfl) (by kernel_rfl) (by kernel_rfl) (fun _ _ _ h => h) (by refine Or.inl ⟨by rfl, fun w hSw => ?_⟩; dsimp only at hSw; obtain ⟨s1, s2, s3, s4, s5, s6, s7, s8, s9⟩ := hSw; rw [c5] at s2; rw [c6] at s3; rw [c7] at s4; rw [n0] at s5; rw [b0] at s6; rw [b1] at s7; rw [b2] at s8; rw [b3] at s9; go_simp; with_reducible rfl) (by assumption) ?_
                            try simp only [Act.put, List.getElem_toArray, List.getElem_cons_zero, List.getElem_cons_succ, List.setIfInBounds_toArray, List.set_cons_zero, List.set_cons_succ]
                            refine wpAnyH_take (i := 31) (v := ?_) rfl (by kernel_rfl) (by kernel_rfl) (by kernel_rfl) (fun _ _ _ h => h) (by refine Or.inl ⟨by rfl, fun w hSw => ?_⟩; dsimp only at hSw; obtain ⟨s1, s2, s3, s4, s5, s6, s7, s8, s9⟩ := hSw; rw [c5] at s2; rw [c6] at s3; rw [c7] at s4; rw [n0] at s5; rw [b0] at s6; rw [b1] at s7; rw [b2] at s8; rw [b3] at s9; go_simp; with_reducible rfl) (by assumption) ?_
                            try simp only [Act.put, List.getElem_toArray, List.getElem_cons_zero, List.getElem_cons_succ, List.setIfInBounds_toArray, List.set_cons_zero, List.set_cons_succ]
                            refine wpAnyH_take (i := 32) (v := ?_) rfl (by kernel_rfl) (by kernel_rfl) (by kernel_rfl) (fun _ _ _ h => h) (by refine Or.inl ⟨by rfl, fun w hSw => ?_⟩; dsimp only at hSw; obtain ⟨s1, s2, s3, s4, s5, s6, s7, s8, s9⟩ := hSw; rw [c5] at s2; rw [c6] at s3; rw [c7] at s4; rw [n0] at s5; rw [b0] at s6; rw [b1] at s7; rw [b2] at s8; rw [b3] at s9; go_simp; with_reducible rfl) (by assumption) ?_
                            try simp only [Act.put, List.getElem_toArray, List.getElem_cons_zero, List.getElem_cons_succ, List.setIfInBounds_toArray, List.set_cons_zero, List.set_cons_succ]
                            refine wpAnyH_take (i := 33) (v := ?_) rfl (by kernel_rfl) (by kernel_rfl) (by kernel_rfl) (fun _ _ _ h => h) (by refine Or.inl ⟨by rfl, fun w hSw => ?_⟩; dsimp only at hSw; obtain ⟨s1, s2, s3, s4, s5, s6, s7, s8, s9⟩ := hSw; rw [c5] at s2; rw [c6] at s3; rw [c7] at s4; rw [n0] at s5; rw [b0] at s6; rw [b1] at s7; rw [b2] at s8; rw [b3] at s9; go_simp; with_reducible rfl) (by assumption) ?_
                            try simp only [Act.put, List.getElem_toArray, List.getElem_cons_zero, List.getElem_cons_succ, List.setIfInBounds_toArray, List.set_cons_zero, List.set_cons_succ]
                            refine wpAnyH_take (i := 34) (v := ?_) rfl (by kernel_rfl) (by kernel_rfl) (by kernel_rfl) (fun _ _ _ h => h) (by refine Or.inl ⟨by rfl, fun w hSw => ?_⟩; dsimp only at hSw; obtain ⟨s1, s2, s3, s4, s5, s6, s7, s8, s9⟩ := hSw; rw [c5] at s2; rw [c6] at s3; rw [c7] at s4; rw [n0] at s5; rw [b0] at s6; rw [b1] at s7; rw [b2] at s8; rw [b3] at s9; go_simp; with_reducible rfl) (by assumption) ?_
                            try simp only [Act.put, List.getElem_toArray, List.getElem_cons_zero, List.getElem_cons_succ, List.setIfInBounds_toArray, List.set_cons_zero, List.set_cons_succ]
                            refine wpAnyH_take (i := 35) (v := ?_) rfl (by kernel_rfl) (by kernel_rfl) (by kernel_rfl) (fun _ _ _ h => h) (by refine Or.inl ⟨by rfl, fun w hSw => ?_⟩; dsimp only at hSw; obtain ⟨s1, s2, s3, s4, s5, s6, s7, s8, s9⟩ := hSw; rw [c5] at s2; rw [c6] at s3; rw [c7] at s4; rw [n0] at s5; rw [b0] at s6; rw [b1] at s7; rw [b2] at s8; rw [b3] at s9; go_simp; with_reducible rfl) (by assumption) ?_
                            try simp only [Act.put, List.getElem_toArray, List.getElem_cons_zero, List.getElem_cons_succ, List.setIfInBounds_toArray, List.set_cons_zero, List.set_cons_succ]
                            refine wpAnyH_take (i := 36) (v := ?_) rfl (by kernel_rfl) (by kernel_rfl) (by kernel_rfl) (fun _ _ _ h => h) (by refine Or.inl ⟨by rfl, fun w hSw => ?_⟩; dsimp only at hSw; obtain ⟨s1, s2, s3, s4, s5, s6, s7, s8, s9⟩ := hSw; rw [c5] at s2; rw [c6] at s3; rw [c7] at s4; rw [n0] at s5; rw [b0] at s6; rw [b1] at s7; rw [b2] at s8; rw [b3] at s9; go_simp; with_reducible rfl) (by assumption) ?_
                            try simp only [Act.put, List.getElem_toArray, List.getElem_cons_zero, List.getElem_cons_succ, List.setIfInBounds_toArray, List.set_cons_zero, List.set_cons_succ]
                            refine wpAnyH_take (i := 37) (v := ?_) rfl (by kernel_rfl) (by kernel_rfl) (by kernel_rfl) (fun _ _ _ h => h) (by refine Or.inl ⟨by rfl, fun w hSw => ?_⟩; dsimp only at hSw; obtain ⟨s1, s2, s3, s4, s5, s6, s7, s8, s9⟩ := hSw; rw [c5] at s2; rw [c6] at s3; rw [c7] at s4; rw [n0] at s5; rw [b0] at s6; rw [b1] at s7; rw [b2] at s8; rw [b3] at s9; go_simp; with_reducible rfl) (by assumption) ?_
                            try simp only [Act.put, List.getElem_toArray, List.getElem_cons_zero, List.getElem_cons_succ, List.setIfInBounds_toArray, List.set_cons_zero, List.set_cons_succ]
                            refine wpAnyH_take (i := 38) (v := ?_) rfl (by kernel_rfl) (by kernel_rfl) (by kernel_rfl) (fun _ _ _ h => h) (by refine Or.inl ⟨by rfl, fun w hSw => ?_⟩; dsimp only at hSw; obtain ⟨s1, s2, s3, s4, s5, s6, s7, s8, s9⟩ := hSw; rw [c5] at s2; rw [c6] at s3; rw [c7] at s4; rw [n0] at s5; rw [b0] at s6; rw [b1] at s7; rw [b2] at s8; rw [b3] at s9; go_simp; with_reducible rfl) (by assumption) ?_
                            try simp only [Act.put, List.getElem_toArray, List.getElem_cons_zero, List.getElem_cons_succ, List.setIfInBounds_toArray, List.set_cons_zero, List.set_cons_succ]
                            refine wpAnyH_take (i := 39) (v := ?_) rfl (by kernel_rfl) (by kernel_rfl) (by kernel_rfl) (fun _ _ _ h => h) (by refine Or.inl ⟨by rfl, fun w hSw => ?_⟩; dsimp only at hSw; obtain ⟨s1, s2, s3, s4, s5, s6, s7, s8, s9⟩ := hSw; rw [c5] at s2; rw [c6] at s3; rw [c7] at s4; rw [n0] at s5; rw [b0] at s6; rw [b1] at s7; rw [b2] at s8; rw [b3] at s9; go_simp; with_reducible rfl) (by assumption) ?_
                            try simp only [Act.put, List.getElem_toArray, List.getElem_cons_zero, List.getElem_cons_succ, List.setIfInBounds_toArray, List.set_cons_zero, List.set_cons_succ]
                            refine wpAnyH_take (i := 40) (v := ?_) rfl (by kernel_rfl) (by kernel_rfl) (by kernel_rfl) (fun _ _ _ h => h) (by refine Or.inl ⟨by rfl, fun w hSw => ?_⟩; dsimp only at hSw; obtain ⟨s1, s2, s3, s4, s5, s6, s7, s8, s9⟩ := hSw; rw [c5] at s2; rw [c6] at s3; rw [c7] at s4; rw [n0] at s5; rw [b0] at s6; rw [b1] at s7; rw [b2] at s8; rw [b3] at s9; go_simp; with_reducible rfl) (by assumption) ?_
                            try simp only [Act.put, List.getElem_toArray, List.getElem_cons_zero, List.getElem_cons_succ, List.setIfInBounds_toArray, List.set_cons_zero, List.set_cons_succ]
                            refine wpAnyH_done (by kernel_rfl) ?_ _
                            go_wp2_with fail
                            go_ret
                            exact ⟨rfl, (hk5.next hb8).below0⟩
end Go.Proofs.YtminghdnclpocaaGreatDoor
