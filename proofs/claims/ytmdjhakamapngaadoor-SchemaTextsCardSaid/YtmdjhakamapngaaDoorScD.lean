/-
  Fields and schemas: checkField, Find, Check (schema and its reference).
-/
import Derived.Test.YtmdjhakamapngaaDoorScC
namespace Go.Proofs.YtmdjhakamapngaaDoor
open Go.RowKit Go.Shelf
set_option linter.unusedVariables false

def numE (f : Fd) : Int := if 0 < f.words.length then 3 else if f.min < -2147483648 ∨ 2147483647 < f.max ∨ f.max < f.min then 2 else 0
def wrdE (f : Fd) : Int := if f.min ≠ 0 ∨ f.max ≠ 0 then 3 else wordsP f.words
def fieldE (f : Fd) : Int := if f.kind = 0 then numE f else if f.kind = 1 then wrdE f else 3
/-- short strings, few words -/
structure FBd (f : Fd) : Prop where
  name : f.name.size ≤ 1000000
  words : f.words.length ≤ 1000000
  word : ∀ s ∈ f.words, s.size ≤ 1000000
set_option maxRecDepth 20000 in
set_option maxHeartbeats 8000000 in
theorem checkField_any (f : Fd) (WA : Option Addr) (c : Nat) (hf : FBd f) (w : World) (hS : Strs w WA f.words) :
    Calls Tryd.prog 32 #[.agg (fcs f WA c).toArray] w fun e w' => e = .returned (.int .i64 (fieldE f)) ∧ Below w.heap.size w w' := by
  have hb := (Below.refl w.heap.size w).alloc (Nat.le_refl _) (.cells (fcs f WA c).toArray 49)
  obtain ⟨c0, c1, c2, c3, c4⟩ := (show Blk (w.alloc (.cells (fcs f WA c).toArray 49)) w.heap.size 49 (fcs f WA c) from Blk.new w _ _).get5
  have hS2 := hS.up ((Below.refl w.heap.size w).alloc (Nat.le_refl _) (.cells (fcs f WA c).toArray 49))
  have HW := Lib.hid (checkWords_any WA c f.words hf.words hf.word _ hS2)
  have HV : Hid (fieldE f = if f.kind = 0 then numE f else if f.kind = 1 then wrdE f else 3) := Lib.hid rfl
  cases h0 : (f.kind == 0) with
  | true =>
    have e0 : f.kind = 0 := by simpa using h0
    rw [if_pos e0] at HV
    clear e0
    by_cases hw : 0 < f.words.length
    · have hi : (0 : Int) < (f.words.length : Int) := by omega
      have HV2 : Hid (fieldE f = 3) := Lib.hid (by rw [HV.out, numE, if_pos hw])
      go_enter Tryd.func32, Tryd.ntmps32
      go_wp2_with fail
      go_ret
      rw [HV2.out]
      exact ⟨rfl, hb⟩
    · have hi : ¬ (0 : Int) < (f.words.length : Int) := by omega
      have HV2 : Hid (fieldE f = if f.min < -2147483648 ∨ 2147483647 < f.max ∨ f.max < f.min then 2 else 0) := Lib.hid (by rw [HV.out, numE, if_neg hw])
      by_cases a : f.min < -2147483648
      · rw [if_pos (.inl a)] at HV2
        go_enter Tryd.func32, Tryd.ntmps32
        go_wp2_with fail
        go_ret
        rw [HV2.out]
        exact ⟨rfl, hb⟩
      · by_cases b : 2147483647 < f.max
        · rw [if_pos (.inr (.inl b))] at HV2
          go_enter Tryd.func32, Tryd.ntmps32
          go_wp2_with fail
          go_ret
          rw [HV2.out]
          exact ⟨rfl, hb⟩
        · by_cases d : f.max < f.min
          · rw [if_pos (.inr (.inr d))] at HV2
            go_enter Tryd.func32, Tryd.ntmps32
            go_wp2_with fail
            go_ret
            rw [HV2.out]
            exact ⟨rfl, hb⟩
          · rw [if_neg (by omega)] at HV2
            go_enter Tryd.func32, Tryd.ntmps32
            go_wp2_with fail
            go_ret
            rw [HV2.out]
            exact ⟨rfl, hb⟩
  | false =>
    have e0 : ¬ f.kind = 0 := by simpa using h0
    rw [if_neg e0] at HV
    clear e0
    cases h1 : (f.kind == 1) with
    | false =>
      have e1 : ¬ f.kind = 1 := by simpa using h1
      rw [if_neg e1] at HV
      clear e1
      go_enter Tryd.func32, Tryd.ntmps32
      go_wp2_with fail
      go_ret
      rw [HV.out]
      exact ⟨rfl, hb⟩
    | true =>
      have e1 : f.kind = 1 := by simpa using h1
      rw [if_pos e1] at HV
      clear e1
      have HV2 : Hid (fieldE f = if f.min ≠ 0 ∨ f.max ≠ 0 then 3 else wordsP f.words) := Lib.hid HV.out
      cases hn : (f.min != 0) with
      | true =>
        have en : f.min ≠ 0 := by simpa using hn
        rw [if_pos (.inl en)] at HV2
        clear en
        go_enter Tryd.func32, Tryd.ntmps32
        go_wp2_with fail
        go_ret
        rw [HV2.out]
        exact ⟨rfl, hb⟩
      | false =>
        have en : f.min = 0 := by simpa using hn
        cases hx : (f.max != 0) with
        | true =>
          have ex : f.max ≠ 0 := by simpa using hx
          rw [if_pos (.inr ex)] at HV2
          clear en ex
          go_enter Tryd.func32, Tryd.ntmps32
          go_wp2_with fail
          go_ret
          rw [HV2.out]
          exact ⟨rfl, hb⟩
        | false =>
          have ex : f.max = 0 := by simpa using hx
          rw [if_neg (by rintro (h | h) <;> contradiction)] at HV2
          clear en ex
          go_enter Tryd.func32, Tryd.ntmps32
          go_wp2_with fail
          refine HW.out.mono ?_
          rintro e w1 ⟨rfl, hb1⟩
          go_wp2_with fail
          go_ret
          rw [HV2.out]
          exact ⟨rfl, hb.trans (hb1.mono hb.size)⟩
/-- the first field with a name -/
def findF : List Fd → ByteArray → Option Nat
  | [], _ => none
  | f :: L, s => if f.name = s then some 0 else (findF L s).map (· + 1)
def findI (L : List Fd) (s : ByteArray) : Int := match findF L s with | some k => (k : Int) | none => -1
theorem find_some : ∀ (L : List Fd) (i : Nat) (f : Fd) (s : ByteArray), L[i]? = some f → f.name = s → (∀ (j : Nat) (g : Fd), j < i → L[j]? = some g → g.name ≠ s) → findF L s = some i
  | [], i, f, s, h, _, _ => by simp at h
  | g :: L, 0, f, s, h, h2, _ => by
    have : g = f := by simpa using h
    rw [findF, if_pos (by rw [this]; exact h2)]
  | g :: L, i + 1, f, s, h, h2, h3 => by
    rw [findF, if_neg (h3 0 g (by omega) rfl), find_some L i f s (by simpa using h) h2 (fun j g' hj hg => h3 (j + 1) g' (by omega) (by simpa using hg))]
    rfl
theorem find_none : ∀ (L : List Fd) (s : ByteArray), (∀ (j : Nat) (g : Fd), L[j]? = some g → g.name ≠ s) → findF L s = none
  | [], s, _ => rfl
  | g :: L, s, h => by
    rw [findF, if_neg (h 0 g rfl), find_none L s (fun j g' hg => h (j + 1) g' (by simpa using hg))]
    rfl
theorem find_lt : ∀ (L : List Fd) (s : ByteArray) (k : Nat), findF L s = some k → k < L.length ∧ (∃ f : Fd, L[k]? = some f ∧ f.name = s) ∧ ∀ (j : Nat) (g : Fd), j < k → L[j]? = some g → g.name ≠ s
  | [], s, k, h => by cases h
  | g :: L, s, k, h => by
    rw [findF] at h
    split at h
    · rename_i hg
      cases h
      exact ⟨by simp, ⟨g, rfl, hg⟩, fun j g' hj => absurd hj (Nat.not_lt_zero _)⟩
    · rename_i hg
      obtain ⟨m, hm, rfl⟩ := Option.map_eq_some_iff.1 h
      obtain ⟨h1, ⟨f, h2, h3⟩, h4⟩ := find_lt L s m hm
      refine ⟨by simpa using h1, ⟨f, by simpa using h2, h3⟩, fun j g' hj hg' => ?_⟩
      cases j with
      | zero =>
        have : g = g' := by simpa using hg'
        rw [← this]; exact hg
      | succ j => exact h4 j g' (by omega) (by simpa using hg')
set_option maxRecDepth 20000 in
set_option maxHeartbeats 4000000 in
theorem find1_any (f : Fd) (WA : Option Addr) (c g : Nat) (s : ByteArray) (w : World) (hg : w.cell? ⟨g, 0, none⟩ = some (.string s)) :
    Calls Tryd.prog 30 #[.agg (fcs f WA c).toArray, .pointer (some ⟨g, 0, none⟩)] w fun e w' => e = .returned (.bool (decide (f.name = s))) ∧ Below w.heap.size w w' := by
  have hb := (Below.refl w.heap.size w).alloc (Nat.le_refl _) (.cells (fcs f WA c).toArray 49)
  obtain ⟨c0, -, -, -, -⟩ := (show Blk (w.alloc (.cells (fcs f WA c).toArray 49)) w.heap.size 49 (fcs f WA c) from Blk.new w _ _).get5
  have hg2 := scell_up hg hb
  have hee := @strs_eq f.name s
  generalize decide (f.name = s) = r at *
  go_enter Tryd.func30, Tryd.ntmps30
  go_wp2_with fail
  go_ret
  exact ⟨by first | rfl | (rw [← hee]), hb⟩
set_option maxRecDepth 20000 in
set_option maxHeartbeats 4000000 in
theorem indexF_any (A : Option Addr) (c : Nat) (L : List Fd) (g : Nat) (s : ByteArray) (hL : L.length ≤ 1000000) (w : World) (hS : Flds w A L) (hg : w.cell? ⟨g, 0, none⟩ = some (.string s)) :
    Calls Tryd.prog 29 #[.slice A L.length c, .func (.func 30) #[] #[.pointer (some ⟨g, 0, none⟩)]] w fun e w' => e = .returned (.int .i64 (findI L s)) ∧ Below w.heap.size w w' := by
  go_enter Tryd.func29, Tryd.ntmps29
  go_upto_region 2 with fail
  go_loopg [8] L.length (fun m s8 wx => ∃ i : Nat, i ≤ L.length ∧ m = L.length - i ∧ s8 = .int .i64 (i : Int) ∧ Below w.heap.size w wx ∧ Hid (∀ (j : Nat) (f : Fd), j < i → L[j]? = some f → f.name ≠ s))
  case atStart => exact ⟨0, Nat.zero_le _, rfl, rfl, Below.refl _ _, Lib.hid (fun j f hj => absurd hj (Nat.not_lt_zero _))⟩
  case round =>
    obtain ⟨i, hi, rfl, rfl, hb, HI⟩ := hrel
    by_cases hil : i < L.length
    · have hii : (i : Int) < (L.length : Int) := by omega
      have hi0 : (0 : Int) ≤ (i : Int) := by omega
      obtain ⟨f, hf⟩ : ∃ f, L[i]? = some f := ⟨_, List.getElem?_eq_getElem hil⟩
      obtain ⟨ad, WA, wc, rfl, hF⟩ := (hS.up hb).at_ i f hf
      have c0 := hF.name
      have c1 := hF.kind
      have c2 := hF.min
      have c3 := hF.max
      have c4 := hF.words
      have HC := Lib.hid (find1_any f WA wc g s wr (scell_up hg hb))
      by_cases hfs : f.name = s
      · have HV : Hid (findI L s = (i : Int)) := Lib.hid (by unfold findI; rw [find_some L i f s hf hfs HI.out])
        rw [decide_eq_true hfs] at HC
        clear hfs hf HI
        go_wp2_with fail
        refine HC.out.mono ?_
        rintro e w1 ⟨rfl, hb1⟩
        clear HC
        go_wp2_with fail
        go_ret
        rw [HV.out]
        exact ⟨rfl, hb.trans (hb1.mono hb.size)⟩
      · have HI2 : Hid (∀ (j : Nat) (f : Fd), j < i + 1 → L[j]? = some f → f.name ≠ s) := Lib.hid (fun j f' hj hf' => by
          by_cases hji : j = i
          · subst hji
            rw [hf] at hf'
            injection hf' with hf'
            rw [← hf']; exact hfs
          · exact HI.out j f' (by omega) hf')
        rw [decide_eq_false hfs] at HC
        clear hfs hf HI
        go_wp2_with fail
        refine HC.out.mono ?_
        rintro e w1 ⟨rfl, hb1⟩
        clear HC
        go_wp2_with fail
        go_roundg (L.length - (i + 1))
        case measure => omega
        case rel => exact ⟨i + 1, hil, rfl, by first | rfl | simp, hb.trans (hb1.mono hb.size), HI2⟩
    · have hii : ¬ (i : Int) < (L.length : Int) := by omega
      have HV : Hid (findI L s = -1) := Lib.hid (by unfold findI; rw [find_none L s (fun j g hj => HI.out j g (by have := (List.getElem?_eq_some_iff.1 hj).1; omega) hj)])
      clear HI
      go_wp2_with fail
      go_ret
      rw [HV.out]
      exact ⟨rfl, hb⟩
def findV (L : List Fd) (s : ByteArray) : Value := match findF L s with | some k => .tuple #[.int .i64 (k : Int), .bool true] | none => .tuple #[.int .i64 0, .bool false]
set_option maxRecDepth 20000 in
set_option maxHeartbeats 4000000 in
theorem find_any (nm s : ByteArray) (A : Option Addr) (c : Nat) (L : List Fd) (hL : L.length ≤ 1000000) (w : World) (hS : Flds w A L) :
    Calls Tryd.prog 10 #[.agg #[.string nm, .slice A L.length c], .string s] w fun e w' => e = .returned (findV L s) ∧ Below w.heap.size w w' := by
  have hb := ((Below.refl w.heap.size w).alloc (Nat.le_refl _) (.cells #[.string nm, .slice A L.length c] 24)).alloc (by simp) (.cells #[.string s] 9)
  have hk := ((Hp.start w).new 24 [.string nm, .slice A L.length c]).new 9 [.string s]
  have c1 := (hk.blk 1 rfl).cell 1
  have c2 := (hk.blk 0 rfl).cell 0
  simp only [List.getElem?_cons_zero, List.getElem?_cons_succ] at c1 c2
  have HC := Lib.hid (indexF_any A c L _ s hL _ (hS.up hk.below0) c2)
  have HV : Hid (findV L s = match findF L s with | some k => .tuple #[.int .i64 (k : Int), .bool true] | none => .tuple #[.int .i64 0, .bool false]) := Lib.hid rfl
  clear hk
  have hsz : (w.alloc (.cells #[.string nm, .slice A L.length c] 24)).heap.size = w.heap.size + 1 := by simp
  rw [hsz] at HC c2
  cases hf : findF L s with
  | none =>
    have hI : findI L s = -1 := by unfold findI; rw [hf]
    rw [hI] at HC
    rw [hf] at HV
    clear hI hf
    go_enter Tryd.func10, Tryd.ntmps10
    go_wp2_with fail
    refine HC.out.mono ?_
    rintro e w1 ⟨rfl, hb1⟩
    go_wp2_with fail
    go_ret2
    rw [HV.out]
    exact ⟨rfl, hb.trans (hb1.mono hb.size)⟩
  | some k =>
    have hkl := (find_lt L s k hf).1
    have hI : findI L s = (k : Int) := by unfold findI; rw [hf]
    rw [hI] at HC
    rw [hf] at HV
    have hm : max (k : Int) 0 = (k : Int) := by omega
    have hge : (0 : Int) ≤ (k : Int) := by omega
    clear hI hf
    go_enter Tryd.func10, Tryd.ntmps10
    go_wp2_with fail
    refine HC.out.mono ?_
    rintro e w1 ⟨rfl, hb1⟩
    go_wp2_with fail
    go_ret2
    rw [HV.out]
    exact ⟨by first | rfl | simp [hm], hb.trans (hb1.mono hb.size)⟩
set_option maxRecDepth 20000 in
set_option maxHeartbeats 4000000 in
theorem rfind_any (nm s : ByteArray) (A : Option Addr) (c : Nat) (L : List Fd) (hL : L.length ≤ 1000000) (w : World) (hS : Flds w A L) :
    Calls Tryd.prog 11 #[.agg #[.string nm, .slice A L.length c], .string s] w fun e w' => e = .returned (findV L s) ∧ Below w.heap.size w w' := by
  have hk := (Hp.start w).new 24 [.string nm, .slice A L.length c]
  obtain ⟨g2, hg2⟩ : ∃ g, w.heap.size = g := ⟨_, rfl⟩
  rw [hg2] at hk
  go_enter Tryd.func11, Tryd.ntmps11
  go_upto_region 2 with fail
  generalize w.alloc (.cells #[.string nm, .slice A L.length c] 24) = W at *
  try simp only [hg2]
  go_loopg [6] L.length (fun m s6 wx => ∃ i : Nat, i ≤ L.length ∧ m = L.length - i ∧ s6 = .int .i64 (i : Int) ∧ Hp [] w [iblk g2 24 [.string nm, .slice A L.length c]] wx ∧ Hid (∀ (j : Nat) (f : Fd), j < i → L[j]? = some f → f.name ≠ s))
  case atStart => exact ⟨0, Nat.zero_le _, rfl, rfl, hk, Lib.hid (fun j f hj => absurd hj (Nat.not_lt_zero _))⟩
  case round =>
    obtain ⟨i, hi, rfl, rfl, hM, HI⟩ := hrel
    have c2 := (hM.blk 0 rfl).cell 1
    simp only [List.getElem?_cons_zero, List.getElem?_cons_succ] at c2
    have hb := hM.below0
    by_cases hil : i < L.length
    · have hii : (i : Int) < (L.length : Int) := by omega
      have hi0 : (0 : Int) ≤ (i : Int) := by omega
      obtain ⟨f, hf⟩ : ∃ f, L[i]? = some f := ⟨_, List.getElem?_eq_getElem hil⟩
      obtain ⟨ad, WA, wc, rfl, hF⟩ := (hS.up hb).at_ i f hf
      have c0 := hF.name
      by_cases hfs : f.name = s
      · have HV : Hid (findV L s = .tuple #[.int .i64 (i : Int), .bool true]) := Lib.hid (by unfold findV; rw [find_some L i f s hf hfs HI.out])
        have hee : (f.name.toList == s.toList) = true := by rw [strs_eq, decide_eq_true hfs]
        clear hfs hf HI
        go_wp2_with fail
        go_ret2
        rw [HV.out]
        exact ⟨rfl, by first | exact hb | (subst hg2; exact hb)⟩
      · have HI2 : Hid (∀ (j : Nat) (f : Fd), j < i + 1 → L[j]? = some f → f.name ≠ s) := Lib.hid (fun j f' hj hf' => by
          by_cases hji : j = i
          · subst hji
            rw [hf] at hf'
            injection hf' with hf'
            rw [← hf']; exact hfs
          · exact HI.out j f' (by omega) hf')
        have hee : (f.name.toList == s.toList) = false := by rw [strs_eq, decide_eq_false hfs]
        clear hfs hf HI
        go_wp2_with fail
        go_roundg (L.length - (i + 1))
        case measure => omega
        case rel => exact ⟨i + 1, hil, rfl, by first | rfl | simp, hM, HI2⟩
    · have hii : ¬ (i : Int) < (L.length : Int) := by omega
      have HV : Hid (findV L s = .tuple #[.int .i64 0, .bool false]) := Lib.hid (by unfold findV; rw [find_none L s (fun j g hj => HI.out j g (by have := (List.getElem?_eq_some_iff.1 hj).1; omega) hj)])
      clear HI
      go_wp2_with fail
      go_ret2
      rw [HV.out]
      exact ⟨rfl, by first | exact hb | (subst hg2; exact hb)⟩
end Go.Proofs.YtmdjhakamapngaaDoor
