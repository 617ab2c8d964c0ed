/-
  alike; the walk of the law LexerSpaces.
-/
import Derived.Test.YtbepmakohjpioaaLxA
import Derived.Deep.RegionHeld3
namespace Go.Proofs.Ytbepmakohjpioaa
open Go.RowKit
set_option linter.unusedVariables false

theorem alk_true (k a b : Int) (t : ByteArray) (w : World) : Calls Try.prog 32 #[.agg #[.int .i64 k, .string t, .int .i64 a], .agg #[.int .i64 k, .string t, .int .i64 b]] w fun e w' => e = .returned (.bool true) ∧ Below w.heap.size w w' := by
  go_enter Try.func32, Try.ntmps32
  go_wp2
  go_ret
  exact ⟨by simp, ((Below.refl _ _).alloc (Nat.le_refl _) _).alloc (by simp) _⟩
theorem cell_al {w : World} {g i : Nat} (h : g < w.heap.size) (o : Obj) : (w.alloc o).cell? ⟨g, i, none⟩ = w.cell? ⟨g, i, none⟩ := World.cell?_of_block (Below.heap_alloc w o g h)
def AkRel (n : Nat) (w : World) (i : Value) (W : World) : Prop := ∃ k : Nat, k ≤ n ∧ i = .int .i64 (k : Int) ∧ Below w.heap.size w W
theorem kt_at {ts us : List Lx.Tok} (h : ts.map Lx.kt = us.map Lx.kt) {k : Nat} (h1 : k < ts.length) (h2 : k < us.length) : us[k].kind = ts[k].kind ∧ us[k].text = ts[k].text := by
  have h3 : (ts.map Lx.kt)[k]? = (us.map Lx.kt)[k]? := by rw [h]
  rw [List.getElem?_map, List.getElem?_map, List.getElem?_eq_getElem h1, List.getElem?_eq_getElem h2] at h3
  simp [Lx.kt] at h3
  exact ⟨h3.1.symm, h3.2.symm⟩
set_option maxHeartbeats 1000000 in
theorem eqf_true (ts us : List Lx.Tok) (g1 c1 g2 c2 : Nat) (w : World) (h1 : TokIn w g1 ts) (h2 : TokIn w g2 us) (hk : Hid (ts.map Lx.kt = us.map Lx.kt)) (hl : ts.length ≤ 65537) :
    Calls Try.prog 31 #[.slice (some ⟨g1, 0, none⟩) ts.length c1, .slice (some ⟨g2, 0, none⟩) ts.length c2, .func (.func 32) #[] #[]] w fun e w' => e = .returned (.bool true) ∧ Below w.heap.size w w' := by
  have hlen : Hid (us.length = ts.length) := Lib.hid (by have := congrArg List.length hk.out; simpa using this.symm)
  go_enter Try.func31, Try.ntmps31
  go_wp2_with fail
  go_loopw [17] (AkRel ts.length w) (fun i _ => ts.length - (intOf i).toNat)
  case atStart => exact ⟨0, Nat.zero_le _, rfl, Below.refl _ _⟩
  case round =>
    obtain ⟨k, hk1, rfl, hb⟩ := hrel
    by_cases hlt : k < ts.length
    · have hlt2 : k < us.length := by have := hlen.out; omega
      obtain ⟨c0, c1', c2'⟩ := (h1.below hb (Nat.le_refl _)).at k hlt
      obtain ⟨d0, d1, d2⟩ := (h2.below hb (Nat.le_refl _)).at k hlt2
      obtain ⟨e1, e2⟩ := kt_at hk.out hlt hlt2
      rw [e1] at d0
      rw [e2] at d1
      clear e1 e2
      generalize ts[k].kind = kd at *
      generalize ts[k].text = tx at *
      generalize ts[k].at_ = a1 at *
      generalize us[k].at_ = a2 at *
      have hT2 := (h2.below hb (Nat.le_refl _)).1
      have x0 : (wr.alloc (.cells #[.int .i64 (kd : Int), .string (bs tx), .int .i64 (a1 : Int)] 31)).cell? ⟨g2, k * 3, none⟩ = some (.int .i64 (kd : Int)) := (cell_al hT2 _).trans d0
      have x1 : (wr.alloc (.cells #[.int .i64 (kd : Int), .string (bs tx), .int .i64 (a1 : Int)] 31)).cell? ⟨g2, k * 3 + 1, none⟩ = some (.string (bs tx)) := (cell_al hT2 _).trans d1
      have x2 : (wr.alloc (.cells #[.int .i64 (kd : Int), .string (bs tx), .int .i64 (a1 : Int)] 31)).cell? ⟨g2, k * 3 + 2, none⟩ = some (.int .i64 (a2 : Int)) := (cell_al hT2 _).trans d2
      go_wp2_with fail
      refine (alk_true _ _ _ _ _).mono ?_
      rintro e w1 ⟨rfl, hb1⟩
      go_wp2_with fail
      go_roundw
      case rel =>
        refine ⟨k + 1, by omega, by simp, ?_⟩
        have h3 := (hb.alloc hb.size (.cells #[.int .i64 (kd : Int), .string (bs tx), .int .i64 (a1 : Int)] 31)).alloc (by have := hb.size; simp; omega) (.cells #[.int .i64 (kd : Int), .string (bs tx), .int .i64 (a2 : Int)] 31)
        exact h3.trans (hb1.mono (by have := hb.size; simp; omega))
      case measure => simp [intOf]; omega
    · go_wp2_with fail
      go_ret
      exact ⟨rfl, hb⟩
theorem alike_true (ts us : List Lx.Tok) (g1 c1 g2 c2 n : Nat) (w : World) (h1 : TokIn w g1 ts) (h2 : TokIn w g2 us) (hk : Hid (ts.map Lx.kt = us.map Lx.kt)) (hl : ts.length ≤ 65537) (hn : us.length = n) :
    Calls Try.prog 15 #[.slice (some ⟨g1, 0, none⟩) ts.length c1, .slice (some ⟨g2, 0, none⟩) n c2] w fun e w' => e = .returned (.bool true) ∧ Below w.heap.size w w' := by
  have hlen : us.length = ts.length := by have := congrArg List.length hk.out; simpa using this.symm
  rw [← hn, hlen]
  clear hlen hn
  go_enter Try.func15, Try.ntmps15
  go_wp2_with fail
  refine (eqf_true ts us g1 c1 g2 c2 _ h1 h2 hk hl).mono ?_
  rintro e w1 ⟨rfl, hb1⟩
  go_wp2_with fail
  go_ret
  exact ⟨rfl, hb1⟩
theorem tk_err_ne {m : List UInt8} {e : Nat} (h : Lx.tk m = .inl e) : e ≠ 0 := by
  rintro rfl
  have hN : ∀ m : List UInt8, Lx.tkName m ≠ .inl 0 := fun m h => by unfold Lx.tkName at h; split at h <;> simp at h
  have hW : ∀ m : List UInt8, Lx.tkWord m ≠ .inl 0 := fun m h => by unfold Lx.tkWord at h; split at h; simp at h; split at h <;> simp at h
  have hS : ∀ m : List UInt8, Lx.tkSign m ≠ .inl 0 := fun m h => by unfold Lx.tkSign at h; split at h <;> simp at h
  cases m with
  | nil => simp [Lx.tk] at h
  | cons c m =>
    rw [Lx.tk] at h
    split at h
    · exact hN _ h
    · split at h
      · exact hW _ h
      · split at h
        · split at h
          · exact hS _ h
          · split at h <;> simp at h
        · split at h
          · exact hS _ h
          · split at h <;> simp at h
theorem scF_err_ne : ∀ (f a : Nat) (l : List UInt8) (b e : Nat), Lx.scF f a l = .err b e → e ≠ 0 := by
  intro f
  induction f with
  | zero => intro a l b e h; simp [Lx.scF] at h
  | succ f ih =>
    intro a l b e h
    rw [Lx.scF] at h
    by_cases hm : l.drop (Lx.sk false l) = []
    · rw [hm] at h; simp [Lx.st] at h
    · cases ht : Lx.tk (l.drop (Lx.sk false l)) with
      | inl e' =>
        rw [Lx.st_inl ht hm] at h
        simp only [Lx.Res.err.injEq] at h
        rw [← h.2]
        exact tk_err_ne ht
      | inr kn =>
        obtain ⟨k, n⟩ := kn
        rw [Lx.st_inr ht] at h
        split at h
        · simp only [Lx.Res.err.injEq] at h
          omega
        · cases hr : Lx.scF f (a + Lx.sk false l + n) ((l.drop (Lx.sk false l)).drop n) with
          | ok ts => rw [hr] at h; simp [Lx.Res.pre] at h
          | err b' e' =>
            rw [hr] at h
            simp only [Lx.Res.pre, Lx.Res.err.injEq] at h
            rw [← h.2]
            exact ih _ _ _ _ hr
theorem sc_err_ne {l : List UInt8} {b e : Nat} (h : Lx.sc l = .err b e) : e ≠ 0 := scF_err_ne _ _ _ _ _ h
def gaps : List (List UInt8) := [[32], [10], [9, 13], [35, 97, 32, 39, 98, 32, 51, 10], [10, 10]]
theorem gap_of : ∀ s ∈ gaps, Lx.Gap s := by
  intro s hs
  simp only [gaps, List.mem_cons, List.not_mem_nil, or_false] at hs
  have hsp : ∀ (c : UInt8) (r : List UInt8), Lx.isSp c = true → Lx.sk false (c :: r) = Lx.sk false r + 1 := fun c r h => Lx.sk_sp h
  rcases hs with rfl | rfl | rfl | rfl | rfl
  · exact ⟨fun b => by cases b <;> rfl, fun r _ h => by show Lx.sk false (32 :: r) = 1; rw [hsp _ _ rfl, h], fun r => ⟨32, r, rfl, .inl rfl⟩⟩
  · exact ⟨fun b => by cases b <;> rfl, fun r _ h => by show Lx.sk false (10 :: r) = 1; rw [hsp _ _ rfl, h], fun r => ⟨10, r, rfl, .inl rfl⟩⟩
  · exact ⟨fun b => by cases b <;> rfl, fun r _ h => by show Lx.sk false (9 :: 13 :: r) = 2; rw [hsp _ _ rfl, hsp _ _ rfl, h], fun r => ⟨9, 13 :: r, rfl, .inl rfl⟩⟩
  · refine ⟨fun b => by cases b <;> rfl, fun r _ h => ?_, fun r => ⟨35, _, rfl, .inr rfl⟩⟩
    show Lx.sk false (35 :: 97 :: 32 :: 39 :: 98 :: 32 :: 51 :: 10 :: r) = 8
    rw [Lx.sk_hash, Lx.sk_in rfl, Lx.sk_in rfl, Lx.sk_in rfl, Lx.sk_in rfl, Lx.sk_in rfl, Lx.sk_in rfl, Lx.sk_nl, h]
  · exact ⟨fun b => by cases b <;> rfl, fun r _ h => by show Lx.sk false (10 :: 10 :: r) = 2; rw [hsp _ _ rfl, hsp _ _ rfl, h], fun r => ⟨10, 10 :: r, rfl, .inl rfl⟩⟩
end Go.Proofs.Ytbepmakohjpioaa
