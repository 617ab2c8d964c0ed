/-
  schema.Check and dominoref39.Check.
-/
import Derived.Test.YtmdjhakamapngaaDoorScD
namespace Go.Proofs.YtmdjhakamapngaaDoor
open Go.RowKit Go.Shelf
set_option linter.unusedVariables false

def fieldsE : List ByteArray → List Fd → Int
  | _, [] => 0
  | S, f :: r => if nameP f.name = false then 1 else if memS f.name S then 8 else if fieldE f ≠ 0 then fieldE f else fieldsE (S ++ [f.name]) r
def schemaE (nm : ByteArray) (L : List Fd) : Int := if nameP nm = false then 1 else if L.length < 1 ∨ 16 < L.length then 6 else fieldsE [] L
abbrev nms (L : List Fd) : List ByteArray := L.map Fd.name
/-- short names, few fields -/
structure SBd (nm : ByteArray) (L : List Fd) : Prop where
  name : nm.size ≤ 1000000
  len : L.length ≤ 1000000
  fld : ∀ f ∈ L, FBd f
abbrev schV (nm : ByteArray) (A : Option Addr) (n c : Nat) : Value := .agg #[.string nm, .slice A n c]
theorem nms_take {L : List Fd} {i : Nat} {f : Fd} (h : L[i]? = some f) : nms (L.take (i + 1)) = nms (L.take i) ++ [f.name] := by
  rw [take_at h]; simp [nms]
theorem fieldsE_at {L : List Fd} {i : Nat} {f : Fd} {E : Int} (h : L[i]? = some f) (hE : E = fieldsE (nms (L.take i)) (L.drop i)) : E = if nameP f.name = false then 1 else if memS f.name (nms (L.take i)) then 8 else if fieldE f ≠ 0 then fieldE f else fieldsE (nms (L.take (i + 1))) (L.drop (i + 1)) := by
  rw [hE, drop_at h, fieldsE, nms_take h]
set_option maxRecDepth 20000 in
set_option maxHeartbeats 16000000 in
theorem check_any (nm : ByteArray) (A : Option Addr) (c : Nat) (L : List Fd) (hB : SBd nm L) (w : World) (hS : Flds w A L) :
    Calls Tryd.prog 12 #[schV nm A L.length c] w fun e w' => e = .returned (.int .i64 (schemaE nm L)) ∧ Below w.heap.size w w' := by
  have hk := (Hp.start w).new 24 [.string nm, .slice A L.length c]
  have HN := Lib.hid (name_any nm hB.name (w.alloc (.cells #[.string nm, .slice A L.length c] 24)))
  have HV : Hid (schemaE nm L = if nameP nm = false then 1 else if L.length < 1 ∨ 16 < L.length then 6 else fieldsE [] L) := Lib.hid rfl
  have hbl := hB.len
  have HBF := Lib.hid hB.fld
  obtain ⟨g1, hg1⟩ : ∃ g, w.heap.size = g := ⟨_, rfl⟩
  rw [hg1] at hk
  clear hB
  generalize hq : nameP nm = q at *
  clear hq
  go_enter Tryd.func12, Tryd.ntmps12
  go_upto_region 1 with fail
  generalize w.alloc (.cells #[.string nm, .slice A L.length c] 24) = W at *
  try simp only [hg1]
  have c0 := (hk.blk 0 rfl).cell 0
  simp only [List.getElem?_cons_zero] at c0
  go_wp2_with fail
  refine HN.out.mono ?_
  rintro e w1 ⟨rfl, hb1⟩
  have hk1 := hk.next hb1
  clear HN hk hb1 c0
  cases q with
  | false =>
    go_wp2_with fail
    go_ret
    rw [HV.out]
    exact ⟨rfl, by first | exact hk1.below0 | (subst hg1; exact hk1.below0)⟩
  | true =>
    have c1 := (hk1.blk 0 rfl).cell 1
    simp only [List.getElem?_cons_zero, List.getElem?_cons_succ] at c1
    by_cases h1 : L.length < 1
    · have hi : (L.length : Int) < 1 := by omega
      have HR : Hid (schemaE nm L = 6) := Lib.hid (by rw [HV.out, if_neg (by simp), if_pos (.inl h1)])
      clear h1
      go_wp2_with fail
      go_ret
      rw [HR.out]
      exact ⟨rfl, by first | exact hk1.below0 | (subst hg1; exact hk1.below0)⟩
    · have hi : ¬ (L.length : Int) < 1 := by omega
      by_cases h2 : 16 < L.length
      · have hi2 : (16 : Int) < (L.length : Int) := by omega
        have HR : Hid (schemaE nm L = 6) := Lib.hid (by rw [HV.out, if_neg (by simp), if_pos (.inr h2)])
        go_wp2_with fail
        go_ret
        rw [HR.out]
        exact ⟨rfl, by first | exact hk1.below0 | (subst hg1; exact hk1.below0)⟩
      · have hi2 : ¬ (16 : Int) < (L.length : Int) := by omega
        have HR : Hid (schemaE nm L = fieldsE [] L) := Lib.hid (by rw [HV.out, if_neg (by simp), if_neg (by omega)])
        have hl16 : L.length ≤ 16 := by omega
        have hmm := @run_makeMap Tryd.prog
        go_upto_region 6 with fail
        have hS0 := hk1.mapNew
        clear hmm hk1 c1
        generalize w1.alloc (.map #[] 0) = W2 at *
        generalize w1.heap.size = gm at *
        have c1 := (hS0.blk 1 rfl).cell 1
        simp only [List.getElem?_cons_zero, List.getElem?_cons_succ] at c1
        go_upto_region 7 with fail
        clear c1
        go_loopg [25] L.length (fun m s25 wx => ∃ i : Nat, i ≤ L.length ∧ m = L.length - i ∧ s25 = .int .i64 (i : Int) ∧ Hp [] w [imap gm (nms (L.take i)), iblk g1 24 [.string nm, .slice A L.length c]] wx ∧ Hid (fieldsE [] L = fieldsE (nms (L.take i)) (L.drop i)))
        case atStart => exact ⟨0, Nat.zero_le _, rfl, rfl, hS0, Lib.hid rfl⟩
        case round =>
          obtain ⟨i, hi, rfl, rfl, hM, HE⟩ := hrel
          clear hS0
          by_cases hil : i < L.length
          · have hii : (i : Int) < (L.length : Int) := by omega
            have hi0 : (0 : Int) ≤ (i : Int) := by omega
            obtain ⟨f, hf⟩ : ∃ f, L[i]? = some f := ⟨_, List.getElem?_eq_getElem hil⟩
            have hfb := HBF.out f (List.mem_of_getElem? hf)
            obtain ⟨ad, WA, wc, rfl, hF0⟩ := hS.at_ i f hf
            have hF := hF0.up hM.below0
            have HF0 := Lib.hid hF0
            have d0 := hF.name
            have d1 := hF.kind
            have d2 := hF.min
            have d3 := hF.max
            have d4 := hF.words
            have HT := Lib.hid (nms_take hf)
            have HE2 := Lib.hid (fieldsE_at hf HE.out)
            have hfn := hfb.name
            have HFB := Lib.hid hfb
            have htl : (nms (L.take i)).length ≤ 16 := by rw [List.length_map, List.length_take]; omega
            clear hf HE hfb
            go_upto_region 9 with fail
            have hM1 := hM.new 49 (fcs f WA wc)
            have hst := hF.strs.up ((Below.refl wr.heap.size wr).alloc (Nat.le_refl _) (.cells (fcs f WA wc).toArray 49))
            clear hM d0 d1 d2 d3 d4 hF
            generalize wr.alloc (.cells #[.string f.name, .int .i64 f.kind, .int .i64 f.min, .int .i64 f.max, .slice WA f.words.length wc] 49) = w3 at *
            generalize wr.heap.size = g5 at *
            obtain ⟨d0, d1, d2, d3, d4⟩ := (hM1.blk 0 rfl).get5
            have HN := Lib.hid (name_any f.name hfn w3)
            generalize hq : nameP f.name = q at *
            clear hq
            go_wp2_with fail
            refine HN.out.mono ?_
            rintro e w4 ⟨rfl, hb4⟩
            have hM2 := hM1.next hb4
            have hst := hst.up hb4
            clear HN hM1 hb4 d0 d1 d2 d3 d4
            obtain ⟨d0, d1, d2, d3, d4⟩ := (hM2.blk 0 rfl).get5
            have hlk := imap_look (hM2.sep.ok _ (List.mem_cons_of_mem _ (List.mem_cons_self ..))) f.name hfn
            generalize memS f.name (nms (L.take i)) = r at *
            cases q with
            | false =>
              go_wp2_with fail
              go_ret
              rw [HR.out, HE2.out]
              exact ⟨rfl, by first | exact hM2.below0 | (subst hg1; exact hM2.below0)⟩
            | true =>
              cases r with
              | true =>
                go_wp2_with fail
                go_ret
                rw [HR.out, HE2.out]
                exact ⟨rfl, by first | exact hM2.below0 | (subst hg1; exact hM2.below0)⟩
              | false =>
                have hown : w4.ownsMap Tryd.prog 9 (plainElem (H := Unit) Tryd.prog 4) gm (nms (L.take i)).length (setD (nms (L.take i))) := hM2.sep.ok _ (List.mem_cons_of_mem _ (List.mem_cons_self ..))
                go_upto_region 14 with (first | (at_mapUpdate; refine wpList_mapUpdate_own _ rfl _ _ _ 72 rfl 9 4 lawS Tryd.underlying72 (plainElem (H := Unit) Tryd.prog 4) gm (nms (L.take i)).length (setD (nms (L.take i))) rfl hown (by unfold maxLen; omega) _ _ _ rfl rfl (keyS f.name hfn) _ [] (plainElem_bool Tryd.underlying4 true) ?_; intro w5 hown2 hgrow2))
                have hM3 := hM2.mapPut 1 rfl hown2 hgrow2
                rw [← HT.out] at hM3
                have hM3 : Hp [] w (iblk g5 49 (fcs f WA wc) :: imap gm (nms (L.take (i + 1))) :: [iblk g1 24 [.string nm, .slice (some ad) L.length c]]) w5 := hM3
                have hst5 := HF0.out.strs.up hM3.below0
                clear hown hown2 hgrow2 hM2 hlk d0 d1 d2 d3 d4
                obtain ⟨d0, d1, d2, d3, d4⟩ := (hM3.blk 0 rfl).get5
                have HC := Lib.hid (checkField_any f WA wc HFB.out w5 hst5)
                generalize fieldE f = fe at *
                go_wp2_with fail
                refine HC.out.mono ?_
                rintro e w6 ⟨rfl, hb6⟩
                have hM4 := hM3.next hb6
                clear HC hM3 hb6 d0 d1 d2 d3 d4
                cases hfe : (fe != 0) with
                | true =>
                  have hne : fe ≠ 0 := by simpa using hfe
                  have HE3 : Hid (fieldsE [] L = fe) := Lib.hid (by rw [HE2.out, if_neg (by simp), if_neg (by simp), if_pos hne])
                  clear hne
                  go_wp2_with fail
                  go_ret
                  rw [HR.out, HE3.out]
                  exact ⟨rfl, by first | exact hM4.below0 | (subst hg1; exact hM4.below0)⟩
                | false =>
                  have hne : fe = 0 := by simpa using hfe
                  have HE3 : Hid (fieldsE [] L = fieldsE (nms (L.take (i + 1))) (L.drop (i + 1))) := Lib.hid (by rw [HE2.out, if_neg (by simp), if_neg (by simp), if_neg (by simp [hne])])
                  clear hne
                  go_wp2_with fail
                  go_roundg (L.length - (i + 1))
                  case measure => omega
                  case rel => exact ⟨i + 1, hil, rfl, by first | rfl | simp, hM4.tail, HE3⟩
          · have hii : ¬ (i : Int) < (L.length : Int) := by omega
            have HR2 : Hid (schemaE nm L = 0) := Lib.hid (by rw [HR.out, HE.out, List.drop_of_length_le (by omega), fieldsE])
            go_wp2_with fail
            go_ret
            rw [HR2.out]
            exact ⟨rfl, by first | exact hM.below0 | (subst hg1; exact hM.below0)⟩
theorem find_ne : ∀ (L : List Fd) (s : ByteArray), findF L s = none → ∀ (j : Nat) (g : Fd), L[j]? = some g → g.name ≠ s
  | [], s, _, j, g, hg => by simp at hg
  | f :: L, s, h, j, g, hg => by
    rw [findF] at h
    split at h
    · cases h
    · rename_i hf
      cases j with
      | zero =>
        have : f = g := by simpa using hg
        rw [← this]; exact hf
      | succ j => exact find_ne L s (by simpa using h) j g (by simpa using hg)
theorem find_self {L : List Fd} {i : Nat} {f : Fd} (h : L[i]? = some f) : ∃ k, k ≤ i ∧ findF L f.name = some k ∧ memS f.name (nms (L.take i)) = decide (k < i) := by
  cases hk : findF L f.name with
  | none => exact absurd rfl (find_ne L f.name hk i f h)
  | some k =>
    obtain ⟨h1, ⟨g, h2, h3⟩, h4⟩ := find_lt L f.name k hk
    refine ⟨k, ?_, rfl, ?_⟩
    · rcases Nat.lt_or_ge i k with h5 | h5
      · exact absurd rfl (h4 i f h5 h)
      · exact h5
    · rw [Bool.eq_iff_iff, decide_eq_true_iff, memS_iff]
      constructor
      · intro h5
        obtain ⟨x, hx, hn⟩ := List.mem_map.1 h5
        obtain ⟨j, hj⟩ := List.mem_iff_getElem?.1 hx
        rw [List.getElem?_take] at hj
        split at hj
        · rename_i hji
          rcases Nat.lt_or_ge j k with h6 | h6
          · exact absurd hn (h4 j x h6 hj)
          · omega
        · cases hj
      · intro h5
        exact List.mem_map.2 ⟨g, List.mem_iff_getElem?.2 ⟨k, by rw [List.getElem?_take, if_pos h5]; exact h2⟩, h3⟩
set_option maxRecDepth 20000 in
set_option maxHeartbeats 16000000 in
theorem rcheck_any (nm : ByteArray) (A : Option Addr) (c : Nat) (L : List Fd) (hB : SBd nm L) (w : World) (hS : Flds w A L) :
    Calls Tryd.prog 13 #[schV nm A L.length c] w fun e w' => e = .returned (.int .i64 (schemaE nm L)) ∧ Below w.heap.size w w' := by
  have hk := (Hp.start w).new 24 [.string nm, .slice A L.length c]
  have HN := Lib.hid (rname_any nm hB.name (w.alloc (.cells #[.string nm, .slice A L.length c] 24)))
  have HV : Hid (schemaE nm L = if nameP nm = false then 1 else if L.length < 1 ∨ 16 < L.length then 6 else fieldsE [] L) := Lib.hid rfl
  have hbl := hB.len
  have HBF := Lib.hid hB.fld
  obtain ⟨g1, hg1⟩ : ∃ g, w.heap.size = g := ⟨_, rfl⟩
  rw [hg1] at hk
  clear hB
  generalize hq : nameP nm = q at *
  clear hq
  go_enter Tryd.func13, Tryd.ntmps13
  go_upto_region 1 with fail
  generalize w.alloc (.cells #[.string nm, .slice A L.length c] 24) = W at *
  try simp only [hg1]
  have c0 := (hk.blk 0 rfl).cell 0
  simp only [List.getElem?_cons_zero] at c0
  go_wp2_with fail
  refine HN.out.mono ?_
  rintro e w1 ⟨rfl, hb1⟩
  have hk1 := hk.next hb1
  clear HN hk hb1 c0
  cases q with
  | false =>
    go_wp2_with fail
    go_ret
    rw [HV.out]
    exact ⟨rfl, by first | exact hk1.below0 | (subst hg1; exact hk1.below0)⟩
  | true =>
    have c1 := (hk1.blk 0 rfl).cell 1
    simp only [List.getElem?_cons_zero, List.getElem?_cons_succ] at c1
    by_cases h1 : L.length < 1
    · have hi : (L.length : Int) < 1 := by omega
      have HR : Hid (schemaE nm L = 6) := Lib.hid (by rw [HV.out, if_neg (by simp), if_pos (.inl h1)])
      clear h1
      go_wp2_with fail
      go_ret
      rw [HR.out]
      exact ⟨rfl, by first | exact hk1.below0 | (subst hg1; exact hk1.below0)⟩
    · have hi : ¬ (L.length : Int) < 1 := by omega
      by_cases h2 : 16 < L.length
      · have hi2 : (16 : Int) < (L.length : Int) := by omega
        have HR : Hid (schemaE nm L = 6) := Lib.hid (by rw [HV.out, if_neg (by simp), if_pos (.inr h2)])
        go_wp2_with fail
        go_ret
        rw [HR.out]
        exact ⟨rfl, by first | exact hk1.below0 | (subst hg1; exact hk1.below0)⟩
      · have hi2 : ¬ (16 : Int) < (L.length : Int) := by omega
        have HR : Hid (schemaE nm L = fieldsE [] L) := Lib.hid (by rw [HV.out, if_neg (by simp), if_neg (by omega)])
        have hl16 : L.length ≤ 16 := by omega
        go_upto_region 6 with fail
        clear c1
        go_loopg [3] L.length (fun m s3 wx => ∃ i : Nat, i ≤ L.length ∧ m = L.length - i ∧ s3 = .int .i64 (i : Int) ∧ Hp [] w [iblk g1 24 [.string nm, .slice A L.length c]] wx ∧ Hid (fieldsE [] L = fieldsE (nms (L.take i)) (L.drop i)))
        case atStart => exact ⟨0, Nat.zero_le _, rfl, rfl, hk1, Lib.hid rfl⟩
        case round =>
          obtain ⟨i, hi, rfl, rfl, hM, HE⟩ := hrel
          clear hk1
          have c1 := (hM.blk 0 rfl).cell 1
          simp only [List.getElem?_cons_zero, List.getElem?_cons_succ] at c1
          by_cases hil : i < L.length
          · have hii : (i : Int) < (L.length : Int) := by omega
            have hi0 : (0 : Int) ≤ (i : Int) := by omega
            obtain ⟨f, hf⟩ : ∃ f, L[i]? = some f := ⟨_, List.getElem?_eq_getElem hil⟩
            have hfb := HBF.out f (List.mem_of_getElem? hf)
            obtain ⟨ad, WA, wc, rfl, hF0⟩ := hS.at_ i f hf
            have hF := hF0.up hM.below0
            have HF0 := Lib.hid hF0
            have d0 := hF.name
            have d1 := hF.kind
            have d2 := hF.min
            have d3 := hF.max
            have d4 := hF.words
            have HE2 := Lib.hid (fieldsE_at hf HE.out)
            have hfn := hfb.name
            have HFB := Lib.hid hfb
            obtain ⟨k, hki, hkf, hkm⟩ := find_self hf
            have HFV : Hid (findV L f.name = .tuple #[.int .i64 (k : Int), .bool true]) := Lib.hid (by unfold findV; rw [hkf])
            rw [hkm] at HE2
            clear hf HE hfb hkf hkm
            go_upto_region 9 with fail
            have hM1 := hM.new 49 (fcs f WA wc)
            clear hM d0 d1 d2 d3 d4 hF c1
            generalize wr.alloc (.cells #[.string f.name, .int .i64 f.kind, .int .i64 f.min, .int .i64 f.max, .slice WA f.words.length wc] 49) = w3 at *
            generalize wr.heap.size = g5 at *
            obtain ⟨d0, d1, d2, d3, d4⟩ := (hM1.blk 0 rfl).get5
            have HN := Lib.hid (rname_any f.name hfn w3)
            generalize hq : nameP f.name = q at *
            clear hq
            go_wp2_with fail
            refine HN.out.mono ?_
            rintro e w4 ⟨rfl, hb4⟩
            have hM2 := hM1.next hb4
            clear HN hM1 hb4 d0 d1 d2 d3 d4
            obtain ⟨d0, d1, d2, d3, d4⟩ := (hM2.blk 0 rfl).get5
            have e0 := (hM2.blk 1 rfl).cell 0
            have e1 := (hM2.blk 1 rfl).cell 1
            simp only [List.getElem?_cons_zero, List.getElem?_cons_succ] at e0 e1
            cases q with
            | false =>
              go_wp2_with fail
              go_ret
              rw [HR.out, HE2.out]
              exact ⟨rfl, by first | exact hM2.below0 | (subst hg1; exact hM2.below0)⟩
            | true =>
              have HFi := rfind_any nm f.name (some ad) c L hbl w4 (hS.up hM2.below0)
              rw [HFV.out] at HFi
              have HFi := Lib.hid HFi
              go_wp2_with fail
              refine HFi.out.mono ?_
              rintro e w5 ⟨rfl, hb5⟩
              have hM3 := hM2.next hb5
              clear HFi hM2 hb5 d0 d1 d2 d3 d4 e0 e1
              obtain ⟨d0, d1, d2, d3, d4⟩ := (hM3.blk 0 rfl).get5
              by_cases hlt : k < i
              · have hlti : (k : Int) < (i : Int) := by omega
                rw [decide_eq_true hlt] at HE2
                go_wp2_with fail
                go_ret
                rw [HR.out, HE2.out]
                exact ⟨rfl, by first | exact hM3.below0 | (subst hg1; exact hM3.below0)⟩
              · have hlti : ¬ (k : Int) < (i : Int) := by omega
                rw [decide_eq_false hlt] at HE2
                have HE3 : Hid (fieldsE [] L = if fieldE f ≠ 0 then fieldE f else fieldsE (nms (L.take (i + 1))) (L.drop (i + 1))) := Lib.hid (by rw [HE2.out, if_neg (by simp), if_neg (by simp)])
                have hst := HF0.out.strs.up hM3.below0
                have HW := Lib.hid (rwords_any WA wc f.words HFB.out.words HFB.out.word w5 hst)
                have HV3 : Hid (fieldE f = if f.kind = 0 then numE f else if f.kind = 1 then wrdE f else 3) := Lib.hid rfl
                clear HE2 hlt
                have hend : ∀ (x : Int), fieldE f = x → x ≠ 0 → schemaE nm L = x := fun x h1 h2 => by
                  rw [HR.out, HE3.out, h1, if_pos h2]
                have hgo : fieldE f = 0 → fieldsE [] L = fieldsE (nms (L.take (i + 1))) (L.drop (i + 1)) := fun h1 => by
                  rw [HE3.out, h1, if_neg (by simp)]
                have HEnd := Lib.hid hend
                have HGo := Lib.hid hgo
                clear hend hgo hst
                cases h0 : (f.kind == 0) with
                | true =>
                  have e0 : f.kind = 0 := by simpa using h0
                  rw [if_pos e0] at HV3
                  clear e0
                  by_cases hw : 0 < f.words.length
                  · have hi : (0 : Int) < (f.words.length : Int) := by omega
                    have HX : Hid (schemaE nm L = 3) := Lib.hid (HEnd.out 3 (by rw [HV3.out, numE, if_pos hw]) (by decide))
                    go_wp2_with fail
                    go_ret
                    rw [HX.out]
                    exact ⟨rfl, by first | exact hM3.below0 | (subst hg1; exact hM3.below0)⟩
                  · have hi : ¬ (0 : Int) < (f.words.length : Int) := by omega
                    have HV4 : Hid (fieldE f = if f.min < -2147483648 ∨ 2147483647 < f.max ∨ f.max < f.min then 2 else 0) := Lib.hid (by rw [HV3.out, numE, if_neg hw])
                    by_cases a : f.min < -2147483648
                    · have HX : Hid (schemaE nm L = 2) := Lib.hid (HEnd.out 2 (by rw [HV4.out, if_pos (.inl a)]) (by decide))
                      go_wp2_with fail
                      go_ret
                      rw [HX.out]
                      exact ⟨rfl, by first | exact hM3.below0 | (subst hg1; exact hM3.below0)⟩
                    · by_cases b : 2147483647 < f.max
                      · have HX : Hid (schemaE nm L = 2) := Lib.hid (HEnd.out 2 (by rw [HV4.out, if_pos (.inr (.inl b))]) (by decide))
                        go_wp2_with fail
                        go_ret
                        rw [HX.out]
                        exact ⟨rfl, by first | exact hM3.below0 | (subst hg1; exact hM3.below0)⟩
                      · by_cases d : f.max < f.min
                        · have HX : Hid (schemaE nm L = 2) := Lib.hid (HEnd.out 2 (by rw [HV4.out, if_pos (.inr (.inr d))]) (by decide))
                          go_wp2_with fail
                          go_ret
                          rw [HX.out]
                          exact ⟨rfl, by first | exact hM3.below0 | (subst hg1; exact hM3.below0)⟩
                        · have HX := Lib.hid (HGo.out (by rw [HV4.out, if_neg (by omega)]))
                          go_wp2_with fail
                          go_roundg (L.length - (i + 1))
                          case measure => omega
                          case rel => exact ⟨i + 1, hil, rfl, by first | rfl | simp, hM3.tail, HX⟩
                | false =>
                  have e0 : ¬ f.kind = 0 := by simpa using h0
                  rw [if_neg e0] at HV3
                  clear e0
                  cases h1 : (f.kind == 1) with
                  | false =>
                    have e1 : ¬ f.kind = 1 := by simpa using h1
                    have HX : Hid (schemaE nm L = 3) := Lib.hid (HEnd.out 3 (by rw [HV3.out, if_neg e1]) (by decide))
                    clear e1
                    go_wp2_with fail
                    go_ret
                    rw [HX.out]
                    exact ⟨rfl, by first | exact hM3.below0 | (subst hg1; exact hM3.below0)⟩
                  | true =>
                    have e1 : f.kind = 1 := by simpa using h1
                    have HV4 : Hid (fieldE f = if f.min ≠ 0 ∨ f.max ≠ 0 then 3 else wordsP f.words) := Lib.hid (by rw [HV3.out, if_pos e1]; rfl)
                    clear e1
                    cases hn : (f.min != 0) with
                    | true =>
                      have en : f.min ≠ 0 := by simpa using hn
                      have HX : Hid (schemaE nm L = 3) := Lib.hid (HEnd.out 3 (by rw [HV4.out, if_pos (.inl en)]) (by decide))
                      clear en
                      go_wp2_with fail
                      go_ret
                      rw [HX.out]
                      exact ⟨rfl, by first | exact hM3.below0 | (subst hg1; exact hM3.below0)⟩
                    | false =>
                      have en : f.min = 0 := by simpa using hn
                      cases hx : (f.max != 0) with
                      | true =>
                        have ex : f.max ≠ 0 := by simpa using hx
                        have HX : Hid (schemaE nm L = 3) := Lib.hid (HEnd.out 3 (by rw [HV4.out, if_pos (.inr ex)]) (by decide))
                        clear en ex
                        go_wp2_with fail
                        go_ret
                        rw [HX.out]
                        exact ⟨rfl, by first | exact hM3.below0 | (subst hg1; exact hM3.below0)⟩
                      | false =>
                        have ex : f.max = 0 := by simpa using hx
                        have HV5 : Hid (fieldE f = wordsP f.words) := Lib.hid (by rw [HV4.out, if_neg (by rintro (h | h) <;> contradiction)])
                        clear en ex
                        generalize wordsP f.words = fe at *
                        go_wp2_with fail
                        refine HW.out.mono ?_
                        rintro e w6 ⟨rfl, hb6⟩
                        have hM4 := hM3.next hb6
                        cases hfe : (fe != 0) with
                        | true =>
                          have HX : Hid (schemaE nm L = fe) := Lib.hid (HEnd.out fe HV5.out (by simpa using hfe))
                          go_wp2_with fail
                          go_ret
                          rw [HX.out]
                          exact ⟨rfl, by first | exact hM4.below0 | (subst hg1; exact hM4.below0)⟩
                        | false =>
                          have HX := Lib.hid (HGo.out (by rw [HV5.out]; simpa using hfe))
                          go_wp2_with fail
                          go_roundg (L.length - (i + 1))
                          case measure => omega
                          case rel => exact ⟨i + 1, hil, rfl, by first | rfl | simp, hM4.tail, HX⟩
          · have hii : ¬ (i : Int) < (L.length : Int) := by omega
            have HR2 : Hid (schemaE nm L = 0) := Lib.hid (by rw [HR.out, HE.out, List.drop_of_length_le (by omega), fieldsE])
            go_wp2_with fail
            go_ret
            rw [HR2.out]
            exact ⟨rfl, by first | exact hM.below0 | (subst hg1; exact hM.below0)⟩
end Go.Proofs.YtmdjhakamapngaaDoor
