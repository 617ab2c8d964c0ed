/-
  dominolaw39.SchemaValues.
-/
import Derived.Test.YtmdjhakamapngaaDoorSdD
import Derived.Test.YtmdjhakamapngaaDoorScP
namespace Go.Proofs.YtmdjhakamapngaaDoor
open Go.RowKit Go.Shelf
set_option linter.unusedVariables false

set_option maxRecDepth 20000 in
set_option maxHeartbeats 16000000 in
theorem svalues_walk (nm : ByteArray) (A : Option Addr) (c : Nat) (L : List Fd) (q v : Int) (t : ByteArray) (w : World) (hS : Flds w A L) (hG : Glob w) :
    Calls Tryd.prog 4 #[schV nm A L.length c, .agg #[.int .i64 q, .int .i64 v, .string t]] w fun e w' => e = .returned (.bool true) ∧ Below w.heap.size w w' := by
  have hk := ((Hp.start w).new 24 [.string nm, .slice A L.length c]).new 34 [.int .i64 q, .int .i64 v, .string t]
  have hsz : (w.alloc (.cells #[.string nm, .slice A L.length c] 24)).heap.size = w.heap.size + 1 := by simp
  rw [hsz] at hk
  have HS := Lib.hid hS
  have HG := Lib.hid hG
  clear hS hG hsz
  obtain ⟨g1, hg1⟩ : ∃ g, w.heap.size = g := ⟨_, rfl⟩
  have HFew := Lib.hid (fun W' h => few_any nm A c L W' h)
  rw [hg1] at hk
  go_enter Tryd.func4, Tryd.ntmps4
  go_upto_region 1 with fail
  try simp only [hg1]
  have hk : Hp [] w [iblk (g1 + 1) 34 [.int .i64 q, .int .i64 v, .string t], iblk g1 24 [.string nm, .slice A L.length c]] ((w.alloc (.cells #[.string nm, .slice A L.length c] 24)).alloc (.cells #[.int .i64 q, .int .i64 v, .string t] 34)) := hk
  generalize (w.alloc (.cells #[.string nm, .slice A L.length c] 24)).alloc (.cells #[.int .i64 q, .int .i64 v, .string t] 34) = W at *
  have hb0 := hk.below0
  obtain ⟨c0, c1⟩ := (hk.blk 1 rfl).get2
  obtain ⟨d0, d1, d2⟩ := (hk.blk 0 rfl).get3
  go_wp2_with fail
  refine (HFew.out W (HS.out.up hb0)).mono ?_
  rintro e w1 ⟨rfl, hb1⟩
  have hk1 := hk.next hb1
  clear hk hb0 hb1 c0 c1 d0 d1 d2 HFew
  have hb1 := hk1.below0
  obtain ⟨c0, c1⟩ := (hk1.blk 1 rfl).get2
  obtain ⟨d0, d1, d2⟩ := (hk1.blk 0 rfl).get3
  cases hf : fewP nm L with
  | false =>
    clear hf
    go_wp2_with fail
    refine (awake_any w1 (HG.out.up hb1)).mono ?_
    rintro e w2 ⟨rfl, hb2⟩
    go_wp2_with fail
    go_ret
    exact ⟨rfl, (hk1.next hb2).below0⟩
  | true =>
    have HBd := Lib.hid (few_bd hf).1
    clear hf
    by_cases h60 : t.size ≤ 60
    · have hi : ¬ (60 : Int) < (t.size : Int) := by omega
      have HV1 := Lib.hid (fun W' hG hS => value_any nm A c L HBd.out q t (by omega) W' hG hS)
      have HV2 := Lib.hid (fun W' hS => rvalue_any nm A c L HBd.out q t (by omega) W' hS)
      have HN1 := Lib.hid (fun W' hG hS => name_any' nm A c L HBd.out q v W' hG hS)
      have HN2 := Lib.hid (fun W' hS => rname_any' nm A c L HBd.out q v W' hS)
      generalize valV nm L q t = vv at *
      generalize nameV nm L q v = nv at *
      obtain ⟨vn, ve⟩ := vv
      obtain ⟨nn, ne⟩ := nv
      have t1 : (vn == vn) = true := by simp
      have t2 : (ve == ve) = true := by simp
      have t3 : (nn.toList == nn.toList) = true := by simp
      have t4 : (ne == ne) = true := by simp
      go_wp2_with fail
      refine (HV1.out w1 (HG.out.up hb1) (HS.out.up hb1)).mono ?_
      rintro e w2 ⟨rfl, hb2⟩
      have hk2 := hk1.next hb2
      clear hk1 hb1 hb2 c0 c1 d0 d1 d2 HV1
      have hb2 := hk2.below0
      obtain ⟨c0, c1⟩ := (hk2.blk 1 rfl).get2
      obtain ⟨d0, d1, d2⟩ := (hk2.blk 0 rfl).get3
      go_upto_region 4 with fail
      go_wp2_with fail
      refine (HV2.out w2 (HS.out.up hb2)).mono ?_
      rintro e w3 ⟨rfl, hb3⟩
      have hk3 := hk2.next hb3
      clear hk2 hb2 hb3 c0 c1 d0 d1 d2 HV2
      have hb3 := hk3.below0
      obtain ⟨c0, c1⟩ := (hk3.blk 1 rfl).get2
      obtain ⟨d0, d1, d2⟩ := (hk3.blk 0 rfl).get3
      go_upto_region 5 with fail
      go_wp2_with fail
      refine (HN1.out w3 (HG.out.up hb3) (HS.out.up hb3)).mono ?_
      rintro e w4 ⟨rfl, hb4⟩
      have hk4 := hk3.next hb4
      clear hk3 hb3 hb4 c0 c1 d0 d1 d2 HN1
      have hb4 := hk4.below0
      obtain ⟨c0, c1⟩ := (hk4.blk 1 rfl).get2
      obtain ⟨d0, d1, d2⟩ := (hk4.blk 0 rfl).get3
      go_upto_region 6 with fail
      go_wp2_with fail
      refine (HN2.out w4 (HS.out.up hb4)).mono ?_
      rintro e w5 ⟨rfl, hb5⟩
      have hk5 := hk4.next hb5
      clear hk4 hb4 hb5 c0 c1 d0 d1 d2 HN2
      have hb5 := hk5.below0
      go_upto_region 7 with fail
      go_wp2_with fail
      refine (awake_any w5 (HG.out.up hb5)).mono ?_
      rintro e w6 ⟨rfl, hb6⟩
      go_wp2_with fail
      go_ret
      exact ⟨rfl, (hk5.next hb6).below0⟩
    · have hi : (60 : Int) < (t.size : Int) := by omega
      go_wp2_with fail
      refine (awake_any w1 (HG.out.up hb1)).mono ?_
      rintro e w2 ⟨rfl, hb2⟩
      go_wp2_with fail
      go_ret
      exact ⟨rfl, (hk1.next hb2).below0⟩
end Go.Proofs.YtmdjhakamapngaaDoor
