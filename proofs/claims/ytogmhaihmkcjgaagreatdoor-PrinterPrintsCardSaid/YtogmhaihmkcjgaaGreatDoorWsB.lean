/-
  dominoref43.text, whole; dominoref43.Node.
-/
import Derived.Test.YtogmhaihmkcjgaaGreatDoorWsA
import Derived.Test.YtogmhaihmkcjgaaGreatDoorWrY
import Derived.Test.YtogmhaihmkcjgaaGreatDoorPcJ
namespace Go.Proofs.YtogmhaihmkcjgaaGreatDoor
open Go.RowKit Go.Shelf
set_option linter.unusedVariables false
set_option linter.unusedSimpArgs false

theorem vtext_any (d : Po) (L : Lp) (hB : PBd d) : ∀ (f : Nat) (c : Bool) (x : Int), Pa.VN d.nodes f c x → WfP d.nodes f x → (Pa.treeN d.nodes f x).size ≤ 9000 → VText d L x (Pa.textN d.nodes f x)
  | 0, c, x, h, _, _ => h.elim
  | f + 1, c, x, h, hw, hsz => by
    have hlen := Pa.text_len d.nodes (fun n hn => (hB.ns n hn).kids) (f + 1) c x h
    obtain ⟨n, hn, hf, hk⟩ := h
    obtain ⟨h0, n', hn', hk'⟩ := hw
    rw [hn] at hn'
    injection hn' with hn'
    subst hn'
    have hF := Pa.form_fm hf
    obtain ⟨i, rfl⟩ : ∃ i : Nat, x = (i : Int) := ⟨x.toNat, by omega⟩
    have hn2 : d.nodes[i]? = some n := by simpa using hn
    have hb := hB.ns n (List.mem_of_getElem? hn2)
    have hkb := hb.kids
    have h1 := hF.low
    have h2 := hF.high
    rw [Pa.textN_in hn, node_txt] at hlen ⊢
    have hks : ∀ k ∈ n.kids, (Pa.treeN d.nodes f k).size ≤ 9000 := fun k hk9 => by
      rw [Pa.treeN_in hn, Pa.F.size, cat_size] at hsz
      have := mem_sum_le (fun k => (Pa.treeN d.nodes f k).size) hk9
      have e : Pa.F.nil.size = 0 := rfl
      rw [e] at hsz
      omega
    refine vtext_step d L hB.nl i n hn2 hb ?_ ?_ hF.lo hF.hi hF.kids ?_ (Pa.textN d.nodes f) (by omega) (fun k hk9 => vtext_any d L hB f _ k (hk k hk9) (hk' k hk9) (hks k hk9))
    · unfold lowP at h1; split at h1 <;> (try split at h1) <;> omega
    · unfold highP at h2; split at h2 <;> (try split at h2) <;> (try split at h2) <;> omega
    · intro h6
      unfold lowP at h1
      unfold highP at h2
      rw [if_neg (by omega), if_neg (by omega)] at h1
      rw [if_neg (by omega), if_pos h6] at h2
      exact ⟨h1, h2⟩
/-- a node's text by the reference -/
theorem vnode_text {d : Po} (h : checkP d = 0) (hB : PBd d) (L : Lp) {x : Int} (h0 : 0 ≤ x) (h1 : x < (d.nodes.length : Int)) : VText d L x (Pa.textN d.nodes 32 x) := by
  obtain ⟨f, c, g1, ⟨g2, g3⟩, g4⟩ := node_vn h x h0 h1
  rw [text_more d.nodes f 32 c x g2 g1]
  exact vtext_any d L hB f c x g2 g3 (by omega)
set_option maxRecDepth 20000 in
set_option maxHeartbeats 8000000 in
theorem rnode_any (d : Po) (L : Lp) (x : Int) (hB : PBd d) (w : World) (hP : PolM w d L) : Calls Tryz.prog 30 #[polV d L, .int .i64 x] w fun e w' => e = .returned (.tuple #[.string (ndS d x), .int .i64 (ndE d x)]) ∧ Below w.heap.size w w' := by
  have hk0 := (Hp.start w).new 29 (polcs d L)
  obtain ⟨gp, hgp⟩ : ∃ x, w.heap.size = x := ⟨_, rfl⟩
  rw [hgp] at hk0
  go_enter Tryz.func30, Tryz.ntmps30
  go_upto_region 1 with fail
  try simp only [hgp]
  have hk1 : Hp [] w [iblk gp 29 (polcs d L)] (w.alloc (.cells #[.string d.name, .slice L.ua d.uses.length L.uc, .slice L.ra d.reveal.length L.rc, .slice L.na d.nodes.length L.nc, .int .i64 d.root, .string d.scope, .int .i64 d.limit, .string d.escrow] 29)) := hk0
  clear hk0
  generalize w.alloc (.cells #[.string d.name, .slice L.ua d.uses.length L.uc, .slice L.ra d.reveal.length L.rc, .slice L.na d.nodes.length L.nc, .int .i64 d.root, .string d.scope, .int .i64 d.limit, .string d.escrow] 29) = W1 at *
  obtain ⟨c0, c1, c2, c3, c4, c5, c6, c7⟩ := (hk1.blk 0 rfl).get8
  have HC := Lib.hid (rcheck_any d L hB W1 (hP.up hk1.below0))
  by_cases hE : checkP d = 0
  · have H2 := Lib.hid (fun h => nd_eq2 (x := x) hE h)
    have H0 := Lib.hid (fun h => nd_ok (x := x) hE h)
    have HT := Lib.hid (fun h0 h1 => vnode_text hE hB L (x := x) h0 h1)
    rw [hE] at HC
    clear hE
    go_wp2_with fail
    refine HC.out.mono ?_
    rintro e w2 ⟨rfl, hb2⟩
    have hk2 := hk1.next hb2
    clear HC hk1 c0 c1 c2 c3 c4 c5 c6 c7
    obtain ⟨c0, c1, c2, c3, c4, c5, c6, c7⟩ := (hk2.blk 0 rfl).get8
    by_cases hx0 : x < 0
    · have HR := Lib.hid (H2.out (.inl hx0))
      clear H2 H0 HT
      go_wp2_with fail
      go_ret2
      rw [HR.out.1, HR.out.2]
      exact ⟨rfl, by first | exact hk2.below0 | (subst hgp; exact hk2.below0)⟩
    · by_cases hx1 : (d.nodes.length : Int) ≤ x
      · have HR := Lib.hid (H2.out (.inr hx1))
        clear H2 H0 HT
        go_wp2_with fail
        go_ret2
        rw [HR.out.1, HR.out.2]
        exact ⟨rfl, by first | exact hk2.below0 | (subst hgp; exact hk2.below0)⟩
      · have HR := Lib.hid (H0.out (by omega))
        have HA := Lib.hid (HT.out (by omega) (by omega) w2 (hP.up hk2.below0))
        clear H2 H0 HT
        generalize Pa.textN d.nodes 32 x = tx at *
        go_wp2_with fail
        refine HA.out.mono ?_
        rintro e w3 ⟨rfl, hb3⟩
        have hk3 := hk2.next hb3
        clear HA
        go_wp2_with fail
        go_ret2
        rw [HR.out.1, HR.out.2]
        exact ⟨rfl, by first | exact hk3.below0 | (subst hgp; exact hk3.below0)⟩
  · have HR := Lib.hid (nd_eq0 (x := x) hE)
    generalize checkP d = E at *
    have hE1 : (E == 0) = false := by simpa using hE
    have hE2 : (E != 0) = true := by simpa using hE
    go_wp2_with fail
    refine HC.out.mono ?_
    rintro e w2 ⟨rfl, hb2⟩
    have hk2 := hk1.next hb2
    clear HC hk1 c0 c1 c2 c3 c4 c5 c6 c7
    go_wp2_with fail
    go_ret2
    rw [HR.out.1, HR.out.2]
    exact ⟨rfl, by first | exact hk2.below0 | (subst hgp; exact hk2.below0)⟩
end Go.Proofs.YtogmhaihmkcjgaaGreatDoor
