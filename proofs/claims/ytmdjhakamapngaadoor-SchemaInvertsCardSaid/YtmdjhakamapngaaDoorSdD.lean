/-
  dominolaw39.SchemaChecks.
-/
import Derived.Test.YtmdjhakamapngaaDoorSdA
import Derived.Test.YtmdjhakamapngaaDoorSdB
namespace Go.Proofs.YtmdjhakamapngaaDoor
open Go.RowKit Go.Shelf
set_option linter.unusedVariables false

/-- a schema that came in, in its box -/
structure Sw (w : World) (g : Nat) (nm : ByteArray) (A : Option Addr) (c : Nat) (L : List Fd) (W : World) : Prop where
  hp : Hp [] w [iblk g 24 [.string nm, .slice A L.length c]] W
  fl : Flds W A L
  gl : Glob W
section
variable {w W W' : World} {g : Nat} {nm : ByteArray} {A : Option Addr} {c : Nat} {L : List Fd}
theorem Sw.next (h : Sw w g nm A c L W) (hb : Below W.heap.size W W') : Sw w g nm A c L W' := ⟨h.hp.next hb, h.fl.up hb, h.gl.up hb⟩
theorem Sw.drew (h : Sw w g nm A c L W) : Sw w g nm A c L W.drew := h.next (Below.refl _ _).drew
theorem Sw.below (h : Sw w g nm A c L W) : Below w.heap.size w W := h.hp.below0
theorem Sw.cells (h : Sw w g nm A c L W) : W.cell? ⟨g, 0, none⟩ = some (.string nm) ∧ W.cell? ⟨g, 1, none⟩ = some (.slice A L.length c) := (h.hp.blk 0 rfl).get2
theorem Sw.box (w : World) (nm : ByteArray) (A : Option Addr) (c : Nat) (L : List Fd) (hS : Flds w A L) (hG : Glob w) : Sw w w.heap.size nm A c L (w.alloc (.cells #[.string nm, .slice A L.length c] 24)) := by
  have hk := (Hp.start w).new 24 [.string nm, .slice A L.length c]
  exact ⟨hk, hS.up hk.below0, hG.up hk.below0⟩
theorem Sw.few (h : Sw w g nm A c L W) : Calls Tryd.prog 8 #[schV nm A L.length c] W fun e w' => e = .returned (.bool (fewP nm L)) ∧ Sw w g nm A c L w' :=
  (few_any nm A c L W h.fl).mono fun _ _ ⟨a, b⟩ => ⟨a, h.next b⟩
theorem Sw.awake (h : Sw w g nm A c L W) : Calls Tryd.prog 9 #[] W fun e w' => e = .returned (.bool true) ∧ Sw w g nm A c L w' :=
  (awake_any W h.gl).mono fun _ _ ⟨a, b⟩ => ⟨a, h.next b⟩
theorem Sw.check (h : Sw w g nm A c L W) (hB : SBd nm L) : Calls Tryd.prog 12 #[schV nm A L.length c] W fun e w' => e = .returned (.int .i64 (schemaE nm L)) ∧ Sw w g nm A c L w' :=
  (check_any nm A c L hB W h.fl).mono fun _ _ ⟨a, b⟩ => ⟨a, h.next b⟩
theorem Sw.rcheck (h : Sw w g nm A c L W) (hB : SBd nm L) : Calls Tryd.prog 13 #[schV nm A L.length c] W fun e w' => e = .returned (.int .i64 (schemaE nm L)) ∧ Sw w g nm A c L w' :=
  (rcheck_any nm A c L hB W h.fl).mono fun _ _ ⟨a, b⟩ => ⟨a, h.next b⟩
theorem Sw.find (h : Sw w g nm A c L W) (hB : SBd nm L) (s : ByteArray) : Calls Tryd.prog 10 #[schV nm A L.length c, .string s] W fun e w' => e = .returned (findV L s) ∧ Sw w g nm A c L w' :=
  (find_any nm s A c L hB.len W h.fl).mono fun _ _ ⟨a, b⟩ => ⟨a, h.next b⟩
theorem Sw.rfind (h : Sw w g nm A c L W) (hB : SBd nm L) (s : ByteArray) : Calls Tryd.prog 11 #[schV nm A L.length c, .string s] W fun e w' => e = .returned (findV L s) ∧ Sw w g nm A c L w' :=
  (rfind_any nm s A c L hB.len W h.fl).mono fun _ _ ⟨a, b⟩ => ⟨a, h.next b⟩
end
theorem findV_form (L : List Fd) (s : ByteArray) : ∃ (k : Int) (b : Bool), findV L s = .tuple #[.int .i64 k, .bool b] := by
  unfold findV
  split
  · exact ⟨_, _, rfl⟩
  · exact ⟨_, _, rfl⟩
set_option maxRecDepth 20000 in
set_option maxHeartbeats 16000000 in
theorem schecks_walk (nm : ByteArray) (A : Option Addr) (c : Nat) (L : List Fd) (s : ByteArray) (w : World) (hS : Flds w A L) (hG : Glob w) :
    Calls Tryd.prog 3 #[schV nm A L.length c, .string s] w fun e w' => e = .returned (.bool true) ∧ Below w.heap.size w w' := by
  have hL0 := Sw.box w nm A c L hS hG
  obtain ⟨g, hg⟩ : ∃ g, w.heap.size = g := ⟨_, rfl⟩
  rw [hg] at hL0
  clear hS hG
  go_enter Tryd.func3, Tryd.ntmps3
  go_upto_region 1 with fail
  try simp only [hg]
  generalize w.alloc (.cells #[.string nm, .slice A L.length c] 24) = W at *
  clear hg
  obtain ⟨c0, c1⟩ := hL0.cells
  go_wp2_with fail
  refine hL0.few.mono ?_
  rintro e w1 ⟨rfl, hL1⟩
  clear hL0 c0 c1
  obtain ⟨c0, c1⟩ := hL1.cells
  cases hf : fewP nm L with
  | false =>
    clear hf
    go_wp2_with fail
    refine hL1.awake.mono ?_
    rintro e w2 ⟨rfl, hL2⟩
    go_wp2_with fail
    go_ret
    exact ⟨rfl, hL2.below⟩
  | true =>
    have HBd := Lib.hid (few_bd hf).1
    clear hf
    by_cases h60 : s.size ≤ 60
    · have hi : ¬ (60 : Int) < (s.size : Int) := by omega
      obtain ⟨k, b, hfv⟩ := findV_form L s
      have HF1 := Lib.hid (fun (V : World) (h : Sw w g nm A c L V) => h.find HBd.out s)
      have HF2 := Lib.hid (fun (V : World) (h : Sw w g nm A c L V) => h.rfind HBd.out s)
      rw [hfv] at HF1 HF2
      clear hfv h60
      have hbb : (b == b) = true := by cases b <;> rfl
      go_wp2_with fail
      refine (HF1.out _ hL1).mono ?_
      rintro e w2 ⟨rfl, hL2⟩
      clear hL1 c0 c1 HF1
      obtain ⟨c0, c1⟩ := hL2.cells
      go_upto_region 4 with fail
      go_wp2_with fail
      refine (HF2.out _ hL2).mono ?_
      rintro e w3 ⟨rfl, hL3⟩
      clear hL2 c0 c1 HF2
      go_upto_region 5 with fail
      have hLd := hL3.drew
      clear hL3
      first | go_region_held3 (fun w' => w'.cell? ⟨g, 0, none⟩ = some (.string nm) ∧ w'.cell? ⟨g, 1, none⟩ = some (.slice A L.length c)) (exact Sw.cells (by assumption)) (first
        | (go_at_call 12; refine (Sw.check (by assumption) HBd.out).mono ?_; rintro e w' ⟨rfl, hl⟩)
        | (go_at_call 13; refine (Sw.rcheck (by assumption) HBd.out).mono ?_; rintro e w' ⟨rfl, hl⟩)
        | (go_at_call 9; refine (Sw.awake (by assumption)).mono ?_; rintro e w' ⟨rfl, hl⟩)) | fail
      all_goals
        go_wp2_with fail
        go_ret
        exact ⟨rfl, Sw.below (by assumption)⟩
    · have hi : (60 : Int) < (s.size : Int) := by omega
      go_wp2_with fail
      refine hL1.awake.mono ?_
      rintro e w2 ⟨rfl, hL2⟩
      go_wp2_with fail
      go_ret
      exact ⟨rfl, hL2.below⟩
end Go.Proofs.YtmdjhakamapngaaDoor
