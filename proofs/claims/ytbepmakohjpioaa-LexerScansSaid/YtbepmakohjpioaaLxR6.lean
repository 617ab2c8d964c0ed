/-
  dominoref40: Scan.
-/
import Derived.Test.YtbepmakohjpioaaLxR5
namespace Go.Proofs.Ytbepmakohjpioaa
open Go.RowKit
set_option linter.unusedVariables false

def RcRel (w : World) (s : ByteArray) (v at_ : Value) (W : World) : Prop := ∃ a out, at_ = .int .i64 ((a : Nat) : Int) ∧ W.ownsRow w.heap.size 31 3 v out.length (tokL out) ∧ Lx.SI (tl s) a out ∧ out.length ≤ a ∧ Below w.heap.size w W
theorem rc_push {w W W' : World} {v v' : Value} {out : List Lx.Tok} (t : Lx.Tok) (o : Obj) (hown0 : W.ownsRow w.heap.size 31 3 v out.length (tokL out)) (hb : Below w.heap.size w W) (hown : W'.ownsRow w.heap.size 31 3 v' (out.length + 1) (tokL out ++ [.int .i64 (t.kind : Int), .string (bs t.text), .int .i64 (t.at_ : Int)])) (hg : (W.alloc o).grownBy W' v.ownBlock) :
    W'.ownsRow w.heap.size 31 3 v' (out ++ [t]).length (tokL (out ++ [t])) ∧ Below w.heap.size w W' := by
  refine ⟨by rw [tokL_snoc, List.length_append]; exact hown, ?_⟩
  exact (hb.alloc hb.size o).grown hg (by have := hb.size; simp; omega) (fun k hk => (hown0.lt k hk).1)
theorem u8_ne' {c : UInt8} {n : Nat} (hn : n < 256) (h : c ≠ UInt8.ofNat n) : ((c.toNat : Int) == (n : Int)) = false := by
  rw [beq_eq_false_iff_ne]
  intro h2
  refine h (UInt8.toNat_inj.1 ?_)
  rw [UInt8.toNat_ofNat_of_lt' (by simpa using hn)]
  omega
theorem rkey_at (s : ByteArray) (a n : Nat) (v : Bool) (w : World) (h : Lx.kw (((tl s).drop a).take n) = v) (hs : (s.extract a (a + n)).size ≤ 1000000) : Calls Try.prog 14 #[.string (s.extract a (a + n))] w fun e w' => e = .returned (.bool v) ∧ Below w.heap.size w w' :=
  (rkey_any _ w hs).mono fun e w' ⟨he, hw⟩ => ⟨by rw [he, tl_extract, Nat.add_sub_cancel_left, h], hw⟩
theorem rlet_any' (c : UInt8) (x : Int) (v : Bool) (w : World) (hx : x = (c.toNat : Int)) (hv : Lx.isLet c = v) : Calls Try.prog 25 #[.int .u8 x] w fun e w' => e = .returned (.bool v) ∧ w = w' := by subst hx; exact rlet_any c v w hv
theorem rdig_any' (c : UInt8) (x : Int) (v : Bool) (w : World) (hx : x = (c.toNat : Int)) (hv : Lx.isDig c = v) : Calls Try.prog 27 #[.int .u8 x] w fun e w' => e = .returned (.bool v) ∧ w = w' := by subst hx; exact rdig_any c v w hv
theorem own_below {w W W' : World} {v : Value} {n : Nat} {xs : List Value} (h : W.ownsRow w.heap.size 31 3 v n xs) (hb : Below W.heap.size W W') : W'.ownsRow w.heap.size 31 3 v n xs :=
  h.kept (gb_below (r := none) hb) (by cases v.ownBlock <;> simp)
theorem wh_pos {p : UInt8 → Bool} {s : ByteArray} {a k : Nat} (he : a + Lx.sp p ((tl s).drop a) = k + Lx.sp p ((tl s).drop k)) (hlt : a < s.size) (hp : p s[a] = true) : a < k + Lx.sp p ((tl s).drop k) := by
  rw [← he, drop_cons s hlt, Lx.sp_succ hp]; omega
set_option maxRecDepth 100000 in
set_option maxHeartbeats 8000000 in
theorem rscan_any (s : ByteArray) (w : World) (hs : s.size ≤ 65536) : Calls Try.prog 11 #[.string s] w (ScanPost s w) := by
  go_enter Try.func11, Try.ntmps11
  go_wp2_with fail
  go_loopw [5, 6] (RcRel w s) (fun _ i _ => s.size - (intOf i).toNat)
  case atStart => exact ⟨0, [], rfl, World.ownsRow_nil _ _ _ _, Lx.SI.start _, Nat.le_refl _, Below.refl _ _⟩
  case round =>
    obtain ⟨a, out, rfl, hown, hI, hol, hb⟩ := hrel
    have hle := hI.le
    rw [length_tl] at hle
    obtain ⟨i0, hi0, hz0, hz1, hz2⟩ := info_parts tok_info
    have HI := Lib.hid hI
    clear hI
    by_cases hlt : a < s.size
    · have hlt' : a < (tl s).length := by rw [length_tl]; exact hlt
      have hget : (tl s)[a] = s[a] := tl_getElem s a hlt
      have HG := Lib.hid hget
      clear hget
      have h6 := s[a].toNat_lt
      by_cases hsp : Lx.isSp s[a] = true
      · have HSI := Lib.hid (HI.out.space hlt' (by rw [HG.out]; exact hsp))
        have hcs : s[a] = 32 ∨ s[a] = 9 ∨ s[a] = 13 ∨ s[a] = 10 := by
          simp [Lx.isSp] at hsp
          rcases hsp with ((h | h) | h) | h
          · exact .inl h
          · exact .inr (.inl h)
          · exact .inr (.inr (.inl h))
          · exact .inr (.inr (.inr h))
        clear hsp
        rcases hcs with hx | hx | hx | hx
        · have n10 : (s[a].toNat : Int) = 32 := by rw [hx]; rfl
          clear hx
          go_wp2_with fail
          go_roundw
          case rel => exact ⟨a + 1, out, by simp, hown, HSI.out, by omega, hb⟩
          case measure => simp [intOf]; omega
        · have n10 : (s[a].toNat : Int) = 9 := by rw [hx]; rfl
          clear hx
          go_wp2_with fail
          go_roundw
          case rel => exact ⟨a + 1, out, by simp, hown, HSI.out, by omega, hb⟩
          case measure => simp [intOf]; omega
        · have n10 : (s[a].toNat : Int) = 13 := by rw [hx]; rfl
          clear hx
          go_wp2_with fail
          go_roundw
          case rel => exact ⟨a + 1, out, by simp, hown, HSI.out, by omega, hb⟩
          case measure => simp [intOf]; omega
        · have n10 : (s[a].toNat : Int) = 10 := by rw [hx]; rfl
          clear hx
          go_wp2_with fail
          go_roundw
          case rel => exact ⟨a + 1, out, by simp, hown, HSI.out, by omega, hb⟩
          case measure => simp [intOf]; omega
      · by_cases h35 : s[a] = 35
        · have HSI := Lib.hid (HI.out.comment hlt' (by rw [HG.out]; exact h35))
          have n35 : (s[a].toNat : Int) = 35 := by rw [h35]; rfl
          have HP := Lib.hid (show (fun c : UInt8 => c != 10) s[a] = true by rw [h35]; rfl)
          clear h35 hsp
          go_wp2_with fail
          go_loopw [6] (WhRel (fun c => c != 10) s a wr) (fun v _ => s.size - (intOf v).toNat)
          case atStart => exact WhRel.start hle
          case round =>
            obtain ⟨k, hk, rfl, he, hbk⟩ := hrel
            have HE := Lib.hid he
            clear he
            by_cases hk2 : k < s.size
            · have h7 := s[k].toNat_lt
              by_cases h10 : s[k] = 10
              · have n10 : ((s[k].toNat : Int) != 10) = false := by rw [h10]; rfl
                have HQ := Lib.hid (show (fun c : UInt8 => c != 10) s[k] = false by rw [h10]; rfl)
                clear h10 n35
                go_wp2_with fail
                go_roundw
                case rel => exact ⟨k, out, rfl, own_below hown hbk, by have h8 := HE.out; rw [wh_stop (p := fun c => c != 10) hk2 HQ.out] at h8; have h9 := HSI.out; rw [h8] at h9; exact h9, by have h8 := wh_pos HE.out hlt HP.out; have h9 : Lx.sp (fun c => c != 10) ((tl s).drop k) = 0 := wh_stop (p := fun c => c != 10) hk2 HQ.out; omega, hb.trans (hbk.mono hb.size)⟩
                case measure => have h8 := wh_pos HE.out hlt HP.out; have h9 : Lx.sp (fun c => c != 10) ((tl s).drop k) = 0 := wh_stop (p := fun c => c != 10) hk2 HQ.out; simp [intOf]; omega
              · have n10 : ((s[k].toNat : Int) != 10) = true := by simp; intro h8; exact h10 (UInt8.toNat_inj.1 (by have h9 : (10 : UInt8).toNat = 10 := rfl; omega))
                have HQ := Lib.hid (show (fun c : UInt8 => c != 10) s[k] = true by simpa using h10)
                clear h10 n35
                go_wp2_with fail
                go_roundw
                case rel => exact WhRel.next hk2 HQ.out HE.out hbk
                case measure => simp [intOf]; omega
            · clear n35
              go_wp2_with fail
              go_roundw
              case rel => exact ⟨k, out, rfl, own_below hown hbk, by have h8 := HE.out; rw [wh_end hk2] at h8; have h9 := HSI.out; rw [h8] at h9; exact h9, by have h8 := wh_pos HE.out hlt HP.out; have h9 : Lx.sp (fun c => c != 10) ((tl s).drop k) = 0 := wh_end hk2; omega, hb.trans (hbk.mono hb.size)⟩
              case measure => have h8 := wh_pos HE.out hlt HP.out; have h9 : Lx.sp (fun c => c != 10) ((tl s).drop k) = 0 := wh_end hk2; simp [intOf]; omega
        · have hsp' : Lx.isSp s[a] = false := by simpa using hsp
          have hsk : Hid (Lx.sk false ((tl s).drop a) = 0) := Lib.hid (by rw [drop_cons s hlt]; exact Lx.sk_stop hsp' (by simpa using h35))
          have hno : s[a] ≠ 32 ∧ s[a] ≠ 9 ∧ s[a] ≠ 10 ∧ s[a] ≠ 13 := by
            simp [Lx.isSp] at hsp'
            exact ⟨hsp'.1.1.1, hsp'.1.1.2, hsp'.2, hsp'.1.2⟩
          have n1 : ((s[a].toNat : Int) == 32) = false := u8_ne' (n := 32) (by decide) hno.1
          have n2 : ((s[a].toNat : Int) == 9) = false := u8_ne' (n := 9) (by decide) hno.2.1
          have n3 : ((s[a].toNat : Int) == 10) = false := u8_ne' (n := 10) (by decide) hno.2.2.1
          have n4 : ((s[a].toNat : Int) == 13) = false := u8_ne' (n := 13) (by decide) hno.2.2.2
          have n5 : ((s[a].toNat : Int) == 35) = false := u8_ne' (n := 35) (by decide) h35
          clear hno h35 hsp hsp'
          cases rout_of s a hs hlt with
          | nerr n hl hn h ht =>
            have hfit := sp_fit hn hle
            have HN := Lib.hid hn
            have HT := Lib.hid ht
            clear hn ht
            go_wp2_with fail
            refine (rlet_any s[a] true _ hl).mono ?_
            rintro e' wa ⟨rfl, rfl⟩
            go_wp2_with fail
            refine (run_nm s _ a n _ rfl HN.out hs hle).mono ?_
            rintro e' wa ⟨rfl, hba⟩
            have hown := own_below hown hba
            have hb := hb.trans (hba.mono hb.size)
            clear hba
            go_wp2_with fail
            go_ret3
            exact ScanPost.err (HI.out.error hlt' hsk.out HT.out) rfl rfl hb
          | ntok n v hl hn h hk ht =>
            have HN := Lib.hid hn
            have HK := Lib.hid hk
            clear hn hk
            have HT := Lib.hid ht
            have hln := Lx.tk_len ht
            rw [List.length_drop, length_tl] at hln
            clear ht
            cases v with
            | true =>
              have hng : Hid (¬ (2 = 1 ∧ Lx.luAt ((tl s).drop (a + n)) = true)) := Lib.hid (fun h5 => absurd h5.1 (by decide))
              go_wp2_with fail
              refine (rlet_any s[a] true _ hl).mono ?_
              rintro e' wa ⟨rfl, rfl⟩
              go_wp2_with fail
              refine (run_nm s _ a n _ rfl HN.out hs hle).mono ?_
              rintro e' wa ⟨rfl, hba⟩
              have hown := own_below hown hba
              have hb := hb.trans (hba.mono hb.size)
              clear hba
              go_wp2_with fail
              refine (rkey_at s a n true _ HK.out (by rw [ByteArray.size_extract]; omega)).mono ?_
              rintro e' wz ⟨rfl, hba⟩
              have hown := own_below hown hba
              have hb := hb.trans (hba.mono hb.size)
              clear hba
              go_wp2_with (first | (at_builtin; refine wpList_append_own _ rfl _ _ 23 rfl w.heap.size 31 i0 _ 3 32 Try.underlying23 hi0 hz0 hz1 hz2 rfl (by decide) _ _ _ rfl (hown.alloc _) ⟨wz.heap.size, 0, none⟩ 1 1 [.int .i64 2, .string (s.extract a (a + n)), .int .i64 (a : Int)] rfl rfl (new3 _ _ _ _ _) ?c2 ?c3 ?c4 ?c5 ?_))
              case c2 => intro u hu; simp at hu; rcases hu with rfl | rfl | rfl <;> rfl
              case c3 => unfold maxLen; omega
              case c4 => omega
              case c5 => have := hb.size; simp; omega
              intro v' w9 hown9 hg9 _
              rw [ext_str s a n] at hown9 hg9
              obtain ⟨hown2, hb2⟩ := rc_push ⟨2, ((tl s).drop a).take n, a⟩ _ hown hb hown9 hg9
              clear hown9 hg9
              go_wp2_with fail
              go_roundw
              case rel => exact ⟨a + n, out ++ [⟨2, ((tl s).drop a).take n, a⟩], by simp, hown2, HI.out.token hlt' hsk.out HT.out hng.out, by rw [List.length_append]; simp; omega, hb2⟩
              case measure => simp [intOf]; omega
            | false =>
              have hng : Hid (¬ (0 = 1 ∧ Lx.luAt ((tl s).drop (a + n)) = true)) := Lib.hid (fun h5 => absurd h5.1 (by decide))
              go_wp2_with fail
              refine (rlet_any s[a] true _ hl).mono ?_
              rintro e' wa ⟨rfl, rfl⟩
              go_wp2_with fail
              refine (run_nm s _ a n _ rfl HN.out hs hle).mono ?_
              rintro e' wa ⟨rfl, hba⟩
              have hown := own_below hown hba
              have hb := hb.trans (hba.mono hb.size)
              clear hba
              go_wp2_with fail
              refine (rkey_at s a n false _ HK.out (by rw [ByteArray.size_extract]; omega)).mono ?_
              rintro e' wz ⟨rfl, hba⟩
              have hown := own_below hown hba
              have hb := hb.trans (hba.mono hb.size)
              clear hba
              go_wp2_with (first | (at_builtin; refine wpList_append_own _ rfl _ _ 23 rfl w.heap.size 31 i0 _ 3 32 Try.underlying23 hi0 hz0 hz1 hz2 rfl (by decide) _ _ _ rfl (hown.alloc _) ⟨wz.heap.size, 0, none⟩ 1 1 [.int .i64 0, .string (s.extract a (a + n)), .int .i64 (a : Int)] rfl rfl (new3 _ _ _ _ _) ?c2 ?c3 ?c4 ?c5 ?_))
              case c2 => intro u hu; simp at hu; rcases hu with rfl | rfl | rfl <;> rfl
              case c3 => unfold maxLen; omega
              case c4 => omega
              case c5 => have := hb.size; simp; omega
              intro v' w9 hown9 hg9 _
              rw [ext_str s a n] at hown9 hg9
              obtain ⟨hown2, hb2⟩ := rc_push ⟨0, ((tl s).drop a).take n, a⟩ _ hown hb hown9 hg9
              clear hown9 hg9
              go_wp2_with fail
              go_roundw
              case rel => exact ⟨a + n, out ++ [⟨0, ((tl s).drop a).take n, a⟩], by simp, hown2, HI.out.token hlt' hsk.out HT.out hng.out, by rw [List.length_append]; simp; omega, hb2⟩
              case measure => simp [intOf]; omega
          | uerr p e hl hd hf he hr =>
            have he2 : ((e : Int) != 0) = true := by simp; omega
            have HR : Hid (Lx.sc (tl s) = .err p e) := Lib.hid (by
              rcases hr with ⟨rfl, ht⟩ | ⟨n, ht, hlu, rfl, rfl⟩
              · exact HI.out.error hlt' hsk.out ht
              · exact HI.out.glued hlt' hsk.out ht hlu)
            clear hr
            have HF := Lib.hid hf
            clear hf
            rcases hd with hd | ⟨hd, h45⟩
            · go_wp2_with fail
              refine (rlet_any s[a] false _ hl).mono ?_
              rintro e' wa ⟨rfl, rfl⟩
              go_wp2_with fail
              refine (rdig_any s[a] true _ hd).mono ?_
              rintro e' wa ⟨rfl, rfl⟩
              go_wp2_with fail
              refine (HF.out _).mono ?_
              rintro e' wa ⟨rfl, hba⟩
              have hown := own_below hown hba
              have hb := hb.trans (hba.mono hb.size)
              clear hba
              go_wp2_with fail
              go_ret3
              exact ScanPost.err (HR.out) rfl rfl hb
            · have n45 : (s[a].toNat : Int) = 45 := by rw [h45]; rfl
              clear h45 n1 n2 n3 n4 n5
              go_wp2_with fail
              refine (rlet_any' s[a] 45 false _ n45.symm hl).mono ?_
              rintro e' wa ⟨rfl, rfl⟩
              go_wp2_with fail
              refine (rdig_any' s[a] 45 false _ n45.symm hd).mono ?_
              rintro e' wa ⟨rfl, rfl⟩
              go_wp2_with fail
              refine (HF.out _).mono ?_
              rintro e' wa ⟨rfl, hba⟩
              have hown := own_below hown hba
              have hb := hb.trans (hba.mono hb.size)
              clear hba
              go_wp2_with fail
              go_ret3
              exact ScanPost.err (HR.out) rfl rfl hb
          | utok n hl hd hf ht hlu =>
            have HT := Lib.hid ht
            have hln := Lx.tk_len ht
            rw [List.length_drop, length_tl] at hln
            clear ht
            have HF := Lib.hid hf
            clear hf
            have hng : Hid (¬ Lx.luAt ((tl s).drop (a + n)) = true) := Lib.hid (by rw [hlu]; decide)
            clear hlu
            rcases hd with hd | ⟨hd, h45⟩
            · go_wp2_with fail
              refine (rlet_any s[a] false _ hl).mono ?_
              rintro e' wa ⟨rfl, rfl⟩
              go_wp2_with fail
              refine (rdig_any s[a] true _ hd).mono ?_
              rintro e' wa ⟨rfl, rfl⟩
              go_wp2_with fail
              refine (HF.out _).mono ?_
              rintro e' wz ⟨rfl, hba⟩
              have hown := own_below hown hba
              have hb := hb.trans (hba.mono hb.size)
              clear hba
              go_wp2_with (first | (at_builtin; refine wpList_append_own _ rfl _ _ 23 rfl w.heap.size 31 i0 _ 3 32 Try.underlying23 hi0 hz0 hz1 hz2 rfl (by decide) _ _ _ rfl (hown.alloc _) ⟨wz.heap.size, 0, none⟩ 1 1 [.int .i64 1, .string (s.extract a (a + n)), .int .i64 (a : Int)] rfl rfl (new3 _ _ _ _ _) ?c2 ?c3 ?c4 ?c5 ?_))
              case c2 => intro u hu; simp at hu; rcases hu with rfl | rfl | rfl <;> rfl
              case c3 => unfold maxLen; omega
              case c4 => omega
              case c5 => have := hb.size; simp; omega
              intro v' w9 hown9 hg9 _
              rw [ext_str s a n] at hown9 hg9
              obtain ⟨hown2, hb2⟩ := rc_push ⟨1, ((tl s).drop a).take n, a⟩ _ hown hb hown9 hg9
              clear hown9 hg9
              go_wp2_with fail
              go_roundw
              case rel => exact ⟨a + n, out ++ [⟨1, ((tl s).drop a).take n, a⟩], by simp, hown2, HI.out.token hlt' hsk.out HT.out (fun h5 => hng.out h5.2), by rw [List.length_append]; simp; omega, hb2⟩
              case measure => simp [intOf]; omega
            · have n45 : (s[a].toNat : Int) = 45 := by rw [h45]; rfl
              clear h45 n1 n2 n3 n4 n5
              go_wp2_with fail
              refine (rlet_any' s[a] 45 false _ n45.symm hl).mono ?_
              rintro e' wa ⟨rfl, rfl⟩
              go_wp2_with fail
              refine (rdig_any' s[a] 45 false _ n45.symm hd).mono ?_
              rintro e' wa ⟨rfl, rfl⟩
              go_wp2_with fail
              refine (HF.out _).mono ?_
              rintro e' wz ⟨rfl, hba⟩
              have hown := own_below hown hba
              have hb := hb.trans (hba.mono hb.size)
              clear hba
              go_wp2_with (first | (at_builtin; refine wpList_append_own _ rfl _ _ 23 rfl w.heap.size 31 i0 _ 3 32 Try.underlying23 hi0 hz0 hz1 hz2 rfl (by decide) _ _ _ rfl (hown.alloc _) ⟨wz.heap.size, 0, none⟩ 1 1 [.int .i64 1, .string (s.extract a (a + n)), .int .i64 (a : Int)] rfl rfl (new3 _ _ _ _ _) ?c2 ?c3 ?c4 ?c5 ?_))
              case c2 => intro u hu; simp at hu; rcases hu with rfl | rfl | rfl <;> rfl
              case c3 => unfold maxLen; omega
              case c4 => omega
              case c5 => have := hb.size; simp; omega
              intro v' w9 hown9 hg9 _
              rw [ext_str s a n] at hown9 hg9
              obtain ⟨hown2, hb2⟩ := rc_push ⟨1, ((tl s).drop a).take n, a⟩ _ hown hb hown9 hg9
              clear hown9 hg9
              go_wp2_with fail
              go_roundw
              case rel => exact ⟨a + n, out ++ [⟨1, ((tl s).drop a).take n, a⟩], by simp, hown2, HI.out.token hlt' hsk.out HT.out (fun h5 => hng.out h5.2), by rw [List.length_append]; simp; omega, hb2⟩
              case measure => simp [intOf]; omega
          | werr e hl hd hq hf he ht =>
            have he2 : ((e : Int) != 0) = true := by simp; omega
            have n39 : (s[a].toNat : Int) = 39 := by rw [hq]; rfl
            have HT := Lib.hid ht
            clear ht hq n1 n2 n3 n4 n5
            have HF := Lib.hid hf
            clear hf
            go_wp2_with fail
            refine (rlet_any' s[a] 39 false _ n39.symm hl).mono ?_
            rintro e' wa ⟨rfl, rfl⟩
            go_wp2_with fail
            refine (rdig_any' s[a] 39 false _ n39.symm hd).mono ?_
            rintro e' wa ⟨rfl, rfl⟩
            go_wp2_with fail
            refine (HF.out _).mono ?_
            rintro e' wa ⟨rfl, hba⟩
            have hown := own_below hown hba
            have hb := hb.trans (hba.mono hb.size)
            clear hba
            go_wp2_with fail
            go_ret3
            exact ScanPost.err (HI.out.error hlt' hsk.out HT.out) rfl rfl hb
          | wtok n hl hd hq hf ht =>
            have n39 : (s[a].toNat : Int) = 39 := by rw [hq]; rfl
            have hng : Hid (¬ (0 = 1 ∧ Lx.luAt ((tl s).drop (a + n)) = true)) := Lib.hid (fun h5 => absurd h5.1 (by decide))
            clear hq n1 n2 n3 n4 n5
            have HT := Lib.hid ht
            have hln := Lx.tk_len ht
            rw [List.length_drop, length_tl] at hln
            clear ht
            have HF := Lib.hid hf
            clear hf
            go_wp2_with fail
            refine (rlet_any' s[a] 39 false _ n39.symm hl).mono ?_
            rintro e' wa ⟨rfl, rfl⟩
            go_wp2_with fail
            refine (rdig_any' s[a] 39 false _ n39.symm hd).mono ?_
            rintro e' wa ⟨rfl, rfl⟩
            go_wp2_with fail
            refine (HF.out _).mono ?_
            rintro e' wz ⟨rfl, hba⟩
            have hown := own_below hown hba
            have hb := hb.trans (hba.mono hb.size)
            clear hba
            go_wp2_with (first | (at_builtin; refine wpList_append_own _ rfl _ _ 23 rfl w.heap.size 31 i0 _ 3 32 Try.underlying23 hi0 hz0 hz1 hz2 rfl (by decide) _ _ _ rfl (hown.alloc _) ⟨wz.heap.size, 0, none⟩ 1 1 [.int .i64 0, .string (s.extract a (a + n)), .int .i64 (a : Int)] rfl rfl (new3 _ _ _ _ _) ?c2 ?c3 ?c4 ?c5 ?_))
            case c2 => intro u hu; simp at hu; rcases hu with rfl | rfl | rfl <;> rfl
            case c3 => unfold maxLen; omega
            case c4 => omega
            case c5 => have := hb.size; simp; omega
            intro v' w9 hown9 hg9 _
            rw [ext_str s a n] at hown9 hg9
            obtain ⟨hown2, hb2⟩ := rc_push ⟨0, ((tl s).drop a).take n, a⟩ _ hown hb hown9 hg9
            clear hown9 hg9
            go_wp2_with fail
            go_roundw
            case rel => exact ⟨a + n, out ++ [⟨0, ((tl s).drop a).take n, a⟩], by simp, hown2, HI.out.token hlt' hsk.out HT.out hng.out, by rw [List.length_append]; simp; omega, hb2⟩
            case measure => simp [intOf]; omega
          | snone hl hd hm hq hf ht =>
            have HT := Lib.hid ht
            clear ht
            have n45 : ((s[a].toNat : Int) == 45) = false := u8_ne' (n := 45) (by decide) hm
            have n39 : ((s[a].toNat : Int) == 39) = false := u8_ne' (n := 39) (by decide) hq
            clear hm hq
            have HF := Lib.hid hf
            clear hf
            go_wp2_with fail
            refine (rlet_any s[a] false _ hl).mono ?_
            rintro e' wa ⟨rfl, rfl⟩
            go_wp2_with fail
            refine (rdig_any s[a] false _ hd).mono ?_
            rintro e' wa ⟨rfl, rfl⟩
            go_wp2_with fail
            refine (HF.out _).mono ?_
            rintro e' wa ⟨rfl, hba⟩
            have hown := own_below hown hba
            have hb := hb.trans (hba.mono hb.size)
            clear hba
            go_wp2_with fail
            go_ret3
            exact ScanPost.err (HI.out.error hlt' hsk.out HT.out) rfl rfl hb
          | stok n hl hd hm hq hf ht =>
            have hng : Hid (¬ (2 = 1 ∧ Lx.luAt ((tl s).drop (a + n)) = true)) := Lib.hid (fun h5 => absurd h5.1 (by decide))
            have HT := Lib.hid ht
            have hln := Lx.tk_len ht
            rw [List.length_drop, length_tl] at hln
            clear ht
            have n45 : ((s[a].toNat : Int) == 45) = false := u8_ne' (n := 45) (by decide) hm
            have n39 : ((s[a].toNat : Int) == 39) = false := u8_ne' (n := 39) (by decide) hq
            clear hm hq
            have HF := Lib.hid hf
            clear hf
            go_wp2_with fail
            refine (rlet_any s[a] false _ hl).mono ?_
            rintro e' wa ⟨rfl, rfl⟩
            go_wp2_with fail
            refine (rdig_any s[a] false _ hd).mono ?_
            rintro e' wa ⟨rfl, rfl⟩
            go_wp2_with fail
            refine (HF.out _).mono ?_
            rintro e' wz ⟨rfl, hba⟩
            have hown := own_below hown hba
            have hb := hb.trans (hba.mono hb.size)
            clear hba
            go_wp2_with (first | (at_builtin; refine wpList_append_own _ rfl _ _ 23 rfl w.heap.size 31 i0 _ 3 32 Try.underlying23 hi0 hz0 hz1 hz2 rfl (by decide) _ _ _ rfl (hown.alloc _) ⟨wz.heap.size, 0, none⟩ 1 1 [.int .i64 2, .string (s.extract a (a + n)), .int .i64 (a : Int)] rfl rfl (new3 _ _ _ _ _) ?c2 ?c3 ?c4 ?c5 ?_))
            case c2 => intro u hu; simp at hu; rcases hu with rfl | rfl | rfl <;> rfl
            case c3 => unfold maxLen; omega
            case c4 => omega
            case c5 => have := hb.size; simp; omega
            intro v' w9 hown9 hg9 _
            rw [ext_str s a n] at hown9 hg9
            obtain ⟨hown2, hb2⟩ := rc_push ⟨2, ((tl s).drop a).take n, a⟩ _ hown hb hown9 hg9
            clear hown9 hg9
            go_wp2_with fail
            go_roundw
            case rel => exact ⟨a + n, out ++ [⟨2, ((tl s).drop a).take n, a⟩], by simp, hown2, HI.out.token hlt' hsk.out HT.out hng.out, by rw [List.length_append]; simp; omega, hb2⟩
            case measure => simp [intOf]; omega
    · have hae : a = s.size := by omega
      go_wp2_with (first | (at_builtin; refine wpList_append_own _ rfl _ _ 23 rfl w.heap.size 31 i0 _ 3 32 Try.underlying23 hi0 hz0 hz1 hz2 rfl (by decide) _ _ _ rfl (hown.alloc _) ⟨wr.heap.size, 0, none⟩ 1 1 [.int .i64 3, .string ⟨#[]⟩, .int .i64 (s.size : Int)] rfl rfl (new3 _ _ _ _ _) ?c2 ?c3 ?c4 ?c5 ?_))
      case c2 => intro u hu; simp at hu; rcases hu with rfl | rfl | rfl <;> rfl
      case c3 => unfold maxLen; omega
      case c4 => omega
      case c5 => have := hb.size; simp; omega
      intro v' w9 hown9 hg9 _
      obtain ⟨hown2, hb2⟩ := rc_push ⟨3, [], s.size⟩ _ hown hb hown9 hg9
      clear hown9 hg9
      go_wp2_with fail
      go_ret3
      have h5 := HI.out.atEnd (by rw [length_tl]; exact hae)
      rw [hae] at h5
      exact ScanPost.ok h5 hown2 (Nat.le_refl _) hb2
end Go.Proofs.Ytbepmakohjpioaa
