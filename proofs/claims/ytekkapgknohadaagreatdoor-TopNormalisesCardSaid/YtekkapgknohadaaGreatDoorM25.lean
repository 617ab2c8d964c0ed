/- Schemas in memory; schema.Check and schema.Find. Printed by mkta.py. -/
import Derived.Test.YtekkapgknohadaaGreatDoorM23
import Derived.Test.YtekkapgknohadaaGreatDoorM18
import Derived.Deep.DeepCutAuto
import Derived.Deep.QuietTactic
import Derived.BigQuiet
import Derived.Deep.LoopGhost
import Derived.Deep.RegionHeld3
import Derived.Maps.OwnSet
set_option linter.unusedVariables false
set_option maxRecDepth 20000
set_option maxHeartbeats 16000000
namespace Go.Proofs.YtekkapgknohadaaGreatDoor.Nf
open Go.RowKit Go.Shelf Go.Maps Go.WideMaps
open Lib (hid)
theorem allN_take {p : Nat → Bool} {s : ByteArray} {k : Nat} (h : k < s.size) : allN p ((tl s).take (k + 1)) = (allN p ((tl s).take k) && p s[k].toNat) := by
 unfold allN
 rw [take_snoc s k h, List.all_append]; simp
theorem allN_bad {p : Nat → Bool} {s : ByteArray} {k : Nat} (h : k < s.size) (hp : p s[k].toNat = false) : allN p (tl s) = false := by
 unfold allN
 rw [Bool.eq_false_iff]
 intro h9
 have := List.all_eq_true.1 h9 s[k] (by rw [← zar s k h]; exact List.getElem_mem _)
 rw [hp] at this; cases this
theorem allN_full {p : Nat → Bool} {s : ByteArray} {k : Nat} (h : ¬ k < s.size) : allN p ((tl s).take k) = allN p (tl s) := by
 rw [List.take_of_length_le (by rw [zab]; omega)]
theorem letter_any (n : Nat) (w : World) : Calls Tryz.prog 240 #[.int .u8 (n : Int)] w fun e w' => e = .returned (.bool (ltN n)) ∧ w' = w := by
 by_cases a : (97 : Int) ≤ (n : Int) <;> by_cases b : (n : Int) ≤ 122 <;> by_cases c : (65 : Int) ≤ (n : Int) <;> by_cases d : (n : Int) ≤ 90 <;>
 first
 | (exfalso; omega)
 | (go_enter Tryz.func240, Tryz.ntmps240
    go_wp2_with fail
    go_ret
    exact ⟨zap (by rw [Bool.eq_iff_iff]; simp [ltN]; omega), rfl⟩)
theorem digit_any (n : Nat) (w : World) : Calls Tryz.prog 261 #[.int .u8 (n : Int)] w fun e w' => e = .returned (.bool (dgN n)) ∧ w' = w := by
 by_cases a : (48 : Int) ≤ (n : Int) <;> by_cases b : (n : Int) ≤ 57 <;>
 first
 | (exfalso; omega)
 | (go_enter Tryz.func261, Tryz.ntmps261
    go_wp2_with fail
    go_ret
    exact ⟨zap (by rw [Bool.eq_iff_iff]; simp [dgN]; omega), rfl⟩)
theorem inName_any (n : Nat) (w : World) : Calls Tryz.prog 242 #[.int .u8 (n : Int)] w fun e w' => e = .returned (.bool (nmN n)) ∧ w' = w := by
 have HL := hid (letter_any n)
 have HD := hid (digit_any n)
 have HV : Hid (nmN n = (ltN n || dgN n || decide (n = 95))) := hid rfl
 generalize ltN n = l at *
 generalize dgN n = d at *
 generalize nmN n = r at *
 have HE : Hid (decide (n = 95) = ((n : Int) == 95)) := hid (by rw [Bool.eq_iff_iff]; simp; omega)
 cases h : ((n : Int) == 95)
 all_goals
  cases l <;> cases d
  all_goals
   go_enter Tryz.func242, Tryz.ntmps242
   go_wp2_with fail
   refine (HL.out w).mono ?_
   rintro e w1 ⟨rfl, rfl⟩
   go_wp2_with fail
   first
    | (go_ret; exact ⟨zap (by rw [HV.out, HE.out, h]; rfl), rfl⟩)
    | (refine (HD.out w1).mono ?_
       rintro e w2 ⟨rfl, rfl⟩
       go_wp2_with fail
       go_ret
       exact ⟨zap (by rw [HV.out, HE.out, h]; rfl), rfl⟩)
theorem inWord_any (n : Nat) (w : World) : Calls Tryz.prog 272 #[.int .u8 (n : Int)] w fun e w' => e = .returned (.bool (wdN n)) ∧ w' = w := by
 have HL := hid (inName_any n)
 have HV : Hid (wdN n = (nmN n || decide (n = 45))) := hid rfl
 generalize nmN n = l at *
 generalize wdN n = r at *
 have HE : Hid (decide (n = 45) = ((n : Int) == 45)) := hid (by rw [Bool.eq_iff_iff]; simp; omega)
 cases h : ((n : Int) == 45)
 all_goals
  cases l
  all_goals
   go_enter Tryz.func272, Tryz.ntmps272
   go_wp2_with fail
   refine (HL.out w).mono ?_
   rintro e w1 ⟨rfl, rfl⟩
   go_wp2_with fail
   go_ret
   exact ⟨zap (by rw [HV.out, HE.out, h]; rfl), rfl⟩
structure Decides (f : FuncId) (p : Nat → Bool) : Prop where
 enters : ∀ args w, (callFunc f args).run Tryz.prog w = .ok (.enter f args) w
 dec : ∀ (n : Nat) (w : World), Calls Tryz.prog f #[.int .u8 (n : Int)] w fun e w' => e = .returned (.bool (p n)) ∧ w' = w
theorem decName : Decides 242 nmN := ⟨enters_of Tryz.func242 (by kernel_rfl) rfl, inName_any⟩
theorem decWord : Decides 272 wdN := ⟨enters_of Tryz.func272 (by kernel_rfl) rfl, inWord_any⟩
theorem all_any (s : ByteArray) (hs : s.size ≤ 1000000) (f : FuncId) (p : Nat → Bool) (hf : Decides f p) (w : World) : Calls Tryz.prog 241 #[.string s, .func (.func f) #[] #[]] w fun e w' => e = .returned (.bool (allN p (tl s))) ∧ w' = w := by
 have hen := hf.enters
 have HV : Hid (allN p (tl s) = allN p (tl s)) := hid rfl
 go_enter Tryz.func241, Tryz.ntmps241
 go_upto_region 2 with fail
 go_loopg [8] s.size (fun m s8 wx => ∃ i : Nat, i ≤ s.size ∧ m = s.size - i ∧ s8 = .int .i64 (i : Int) ∧ wx = w ∧ Hid (allN p ((tl s).take i) = true))
 case atStart => exact ⟨0, Nat.zero_le _, rfl, rfl, rfl, hid rfl⟩
 case round =>
  obtain ⟨i, hi, rfl, rfl, rfl, HA⟩ := hrel
  by_cases hil : i < s.size
  ·have hii : (i : Int) < (s.size : Int) := by omega
   have HT := hid (allN_take (p := p) hil)
   have HB := hid (fun h => allN_bad (p := p) hil h)
   have HC := hid (hf.dec s[i].toNat wr)
   go_wp2_with fail
   refine HC.out.mono ?_
   rintro e w1 ⟨rfl, hw⟩
   subst hw
   clear HC
   cases hp : p s[i].toNat with
   | false =>
     have HR := hid (HB.out hp)
     clear hp
     go_wp2_with fail
     go_ret
     rw [HR.out]
     exact ⟨rfl, rfl⟩
   | true =>
     have HA2 : Hid (allN p ((tl s).take (i + 1)) = true) := hid (by rw [HT.out, HA.out, hp]; rfl)
     clear hp
     go_wp2_with fail
     go_roundg (s.size - (i + 1))
     case measure => omega
     case rel => exact ⟨i + 1, hil, rfl, by first | rfl | simp, rfl, HA2⟩
  ·have hii : ¬ (i : Int) < (s.size : Int) := by omega
   have HR := hid ((allN_full (p := p) hil).symm.trans HA.out)
   go_wp2_with fail
   go_ret
   rw [HR.out]
   exact ⟨rfl, rfl⟩
theorem word_any (s : ByteArray) (w : World) : Calls Tryz.prog 262 #[.string s] w fun e w' => e = .returned (.bool (wordP s)) ∧ w' = w := by
 by_cases h0 : s.size = 0
 ·obtain ⟨e1, e2⟩ := str_empty h0
  have HV : Hid (wordP s = false) := hid (by unfold wordP; rw [h0]; rfl)
  clear h0
  go_enter Tryz.func262, Tryz.ntmps262
  go_wp2_with fail
  go_ret
  rw [HV.out]
  exact ⟨rfl, rfl⟩
 ·obtain ⟨e1, e2⟩ := str_full (s := s) (by omega)
  by_cases h1 : s.size ≤ 32
  ·have hi : (s.size : Int) ≤ 32 := by omega
   have HV : Hid (wordP s = allN wdN (tl s)) := hid (by unfold wordP; rw [decide_eq_true (by omega : 0 < s.size), decide_eq_true h1]; rfl)
   have HC := hid (all_any s (by omega) _ _ decWord w)
   clear h0
   generalize allN wdN (tl s) = r at *
   go_enter Tryz.func262, Tryz.ntmps262
   go_wp2_with fail
   refine HC.out.mono ?_
   rintro e w1 ⟨rfl, rfl⟩
   go_wp2_with fail
   go_ret
   rw [HV.out]
   exact ⟨rfl, rfl⟩
  ·have hi : ¬ (s.size : Int) ≤ 32 := by omega
   have HV : Hid (wordP s = false) := hid (by unfold wordP; rw [decide_eq_false h1]; simp)
   clear h0
   go_enter Tryz.func262, Tryz.ntmps262
   go_wp2_with fail
   go_ret
   rw [HV.out]
   exact ⟨rfl, rfl⟩
def kws16 : List ByteArray := [⟨#[112, 111, 108, 105, 99, 121]⟩, ⟨#[117, 115, 101, 115]⟩, ⟨#[114, 101, 118, 101, 97, 108]⟩, ⟨#[112, 114, 111, 118, 101]⟩, ⟨#[115, 99, 111, 112, 101]⟩, ⟨#[108, 105, 109, 105, 116]⟩, ⟨#[101, 115, 99, 114, 111, 119]⟩, ⟨#[101, 110, 100]⟩, ⟨#[97, 108, 108]⟩, ⟨#[97, 110, 121]⟩, ⟨#[97, 116, 108, 101, 97, 115, 116]⟩, ⟨#[110, 111, 116]⟩, ⟨#[116, 114, 117, 101]⟩, ⟨#[102, 97, 108, 115, 101]⟩, ⟨#[98, 101, 116, 119, 101, 101, 110]⟩, ⟨#[97, 110, 100]⟩]
def kwIn : ByteArray := ⟨#[105, 110]⟩
def kws : List ByteArray := kws16 ++ [kwIn]
def kwP (s : ByteArray) : Bool := memD s kws
theorem zc5 (s : ByteArray) (w : World) : Calls Tryz.prog 243 #[.string s] w fun e w' => e = .returned (.bool (kwP s)) ∧ Below w.heap.size w w' := by
 have hb := (Below.refl w.heap.size w).alloc (Nat.le_refl _) (.cells (kws.map Value.string).toArray 9)
 have hblk := show Blk (w.alloc (.cells (kws.map Value.string).toArray 9)) w.heap.size 9 (kws.map Value.string) from Blk.new w _ _
 have HC := hid (Tryz.slices_Contains_string w.heap.size 0 17 17 kws s (w.alloc (.cells (kws.map Value.string).toArray 9)) (by decide) (by decide) (fun j hj => by
  rw [Nat.zero_add, hblk.cell j, List.getElem?_map, List.getElem?_eq_getElem hj, List.getD_eq_getElem?_getD, List.getElem?_eq_getElem hj]; rfl))
 have HV : Hid (Lib.containsS (kws.take 17) s = kwP s) := hid (by rw [containsD]; rfl)
 go_enter Tryz.func243, Tryz.ntmps243
 go_wp2_with fail
 refine HC.out.mono ?_
 rintro e w1 ⟨rfl, rfl⟩
 rw [HV.out]
 go_wp2_with fail
 go_ret
 exact ⟨rfl, hb⟩
def nameP (s : ByteArray) : Bool := if h : 0 < s.size then decide (s.size ≤ 32) && ltN s[0].toNat && allN nmN (tl s) && !kwP s else false
theorem zb1 (s : ByteArray) (w : World) : Calls Tryz.prog 201 #[.string s] w fun e w' => e = .returned (.bool (nameP s)) ∧ Below w.heap.size w w' := by
 by_cases h0 : s.size = 0
 ·obtain ⟨e1, e2⟩ := str_empty h0
  have HV : Hid (nameP s = false) := hid (by unfold nameP; rw [dif_neg (by omega)])
  clear h0
  go_enter Tryz.func201, Tryz.ntmps201
  go_wp2_with fail
  go_ret
  rw [HV.out]
  exact ⟨rfl, Below.refl _ _⟩
 ·obtain ⟨e1, e2⟩ := str_full (s := s) (by omega)
  have hpos : 0 < s.size := by omega
  by_cases h1 : s.size ≤ 32
  ·have hi : (s.size : Int) ≤ 32 := by omega
   have HV : Hid (nameP s = (ltN s[0].toNat && allN nmN (tl s) && !kwP s)) := hid (by
    unfold nameP
    rw [dif_pos hpos, decide_eq_true h1]; rfl)
   have HL := hid (letter_any s[0].toNat w)
   have HC := hid (all_any s (by omega) _ _ decName w)
   have HK := hid (zc5 s w)
   generalize allN nmN (tl s) = r at *
   generalize kwP s = q at *
   generalize ltN s[0].toNat = l at *
   cases l <;> cases r
   all_goals
    go_enter Tryz.func201, Tryz.ntmps201
    go_wp2_with fail
    refine HL.out.mono ?_
    rintro e w1 ⟨rfl, hw⟩
    subst hw
    go_wp2_with fail
    first
     | (go_ret; exact ⟨zap (by rw [HV.out]; rfl), Below.refl _ _⟩)
     | (refine HC.out.mono ?_
        rintro e w2 ⟨rfl, hw⟩
        subst hw
        go_wp2_with fail
        first
         | (go_ret; exact ⟨zap (by rw [HV.out]; rfl), Below.refl _ _⟩)
         | (refine HK.out.mono ?_
            rintro e w3 ⟨rfl, hb3⟩
            go_wp2_with fail
            go_ret
            exact ⟨zap (by rw [HV.out]; rfl), hb3⟩))
  ·have hi : ¬ (s.size : Int) ≤ 32 := by omega
   have HV : Hid (nameP s = false) := hid (by unfold nameP; rw [dif_pos (by omega), decide_eq_false h1]; simp)
   clear h0
   go_enter Tryz.func201, Tryz.ntmps201
   go_wp2_with fail
   go_ret
   rw [HV.out]
   exact ⟨rfl, Below.refl _ _⟩
structure FieldAt (W : World) (ad : Addr) (f : Fd) (WA : Option Addr) (c : Nat) : Prop where
 name : W.cell? ad = some (.string f.name)
 kind : W.cell? ⟨ad.block, ad.off + 1, none⟩ = some (.int .i64 f.kind)
 min : W.cell? ⟨ad.block, ad.off + 2, none⟩ = some (.int .i64 f.min)
 max : W.cell? ⟨ad.block, ad.off + 3, none⟩ = some (.int .i64 f.max)
 words : W.cell? ⟨ad.block, ad.off + 4, none⟩ = some (.slice WA f.words.length c)
 strs : Strs W WA f.words
theorem FieldAt.up {W W' : World} {ad : Addr} {f : Fd} {WA : Option Addr} {c : Nat} (h : FieldAt W ad f WA c) (hb : Below W.heap.size W W') : FieldAt W' ad f WA c :=
 ⟨zaa h.name hb, zaa h.kind hb, zaa h.min hb, zaa h.max hb, zaa h.words hb, h.strs.up hb⟩
structure Flds (W : World) (A : Option Addr) (L : List Fd) : Prop where
 at_ : ∀ i f, L[i]? = some f → ∃ ad WA c, A = some ad ∧ FieldAt W (ad.add (i * 5)) f WA c
theorem Flds.up {W W' : World} {A : Option Addr} {L : List Fd} (h : Flds W A L) (hb : Below W.heap.size W W') : Flds W' A L := ⟨fun i f hf => by
 obtain ⟨ad, WA, c, h1, h2⟩ := h.at_ i f hf
 exact ⟨ad, WA, c, h1, h2.up hb⟩⟩
abbrev fcs (f : Fd) (WA : Option Addr) (c : Nat) : List Value := [.string f.name, .int .i64 f.kind, .int .i64 f.min, .int .i64 f.max, .slice WA f.words.length c]
def wordsE : List ByteArray → List ByteArray → Int
 | _, [] => 0
 | S, w :: r => if wordP w = false then 1 else if memD w S then 8 else wordsE (S ++ [w]) r
def wordsP (l : List ByteArray) : Int := if l.length < 1 ∨ 64 < l.length then 6 else wordsE [] l
theorem word_len {s : ByteArray} (h : wordP s = true) : s.size ≤ 1000000 := by
 unfold wordP at h
 simp only [Bool.and_eq_true, decide_eq_true_eq] at h
 omega
theorem checkWords_any (A : Option Addr) (c : Nat) (l : List ByteArray) (hl : l.length ≤ 1000000) (w : World) (hS : Strs w A l) :
 Calls Tryz.prog 244 #[.slice A l.length c] w fun e w' => e = .returned (.int .i64 (wordsP l)) ∧ Below w.heap.size w w' := by
 by_cases h6 : l.length < 1 ∨ 64 < l.length
 ·have HV : Hid (wordsP l = 6) := hid (by rw [wordsP, if_pos h6])
  by_cases h1 : l.length < 1
  ·have hi : (l.length : Int) < 1 := by omega
   clear h6
   go_enter Tryz.func244, Tryz.ntmps244
   go_wp2_with fail
   go_ret
   rw [HV.out]
   exact ⟨rfl, Below.refl _ _⟩
  ·have hi : ¬ (l.length : Int) < 1 := by omega
   have hi2 : (64 : Int) < (l.length : Int) := by omega
   clear h6
   go_enter Tryz.func244, Tryz.ntmps244
   go_wp2_with fail
   go_ret
   rw [HV.out]
   exact ⟨rfl, Below.refl _ _⟩
 ·have hi : ¬ (l.length : Int) < 1 := by omega
  have hi2 : ¬ (64 : Int) < (l.length : Int) := by omega
  have hl64 : l.length ≤ 64 := by omega
  have HV : Hid (wordsP l = wordsE [] l) := hid (by rw [wordsP, if_neg h6])
  clear h6
  have hmm := @run_makeMap Tryz.prog
  go_enter Tryz.func244, Tryz.ntmps244
  go_upto_region 4 with fail
  have hS0 := (Hp.start w).setNew strK
  clear hmm
  generalize w.alloc (.map #[] 0) = W at *
  obtain ⟨gm, hgm⟩ : ∃ g, w.heap.size = g := ⟨_, rfl⟩
  rw [hgm] at hS0
  try simp only [hgm]
  go_upto_region 5 with fail
  go_loopg [17] l.length (fun m s17 wx => ∃ i : Nat, i ≤ l.length ∧ m = l.length - i ∧ s17 = .int .i64 (i : Int) ∧ Hp [] w [iset strK gm (l.take i)] wx ∧ Hid (wordsE [] l = wordsE (l.take i) (l.drop i)))
  case atStart => exact ⟨0, Nat.zero_le _, rfl, rfl, hS0, hid rfl⟩
  case round =>
   obtain ⟨i, hi, rfl, rfl, hM, HE⟩ := hrel
   clear hS0
   by_cases hil : i < l.length
   ·have hii : (i : Int) < (l.length : Int) := by omega
    have hi0 : (0 : Int) ≤ (i : Int) := by omega
    obtain ⟨s, hsi⟩ : ∃ s, l[i]? = some s := ⟨_, List.getElem?_eq_getElem hil⟩
    obtain ⟨ad, rfl, ca⟩ := (hS.up hM.below0).at_ i s hsi
    have HT := hid (zbb hsi)
    have HE2 : Hid (wordsE [] l = if wordP s = false then 1 else if memD s (l.take i) then 8 else wordsE (l.take (i + 1)) (l.drop (i + 1))) := hid (by
     rw [HE.out, zc7 hsi, wordsE, HT.out])
    have HW := hid (word_any s wr)
    have HLK := hid (fun hs => (show (Instr.lookup 222 (.map (some gm)) (.string s) false).run Tryz.prog wr = .ok (.bool (memD s (l.take i))) wr from zcw strK (hM.sep.ok _ (List.mem_singleton.2 rfl)) s hs))
    have HWL := hid (word_len (s := s))
    have htl : (l.take i).length ≤ 64 := by rw [List.length_take]; omega
    have HTL : Hid (i < maxLen) := hid (by unfold maxLen; omega)
    clear hsi HE
    generalize wordP s = q at *
    generalize memD s (l.take i) = r at *
    cases q with
    | false =>
      go_wp2_with fail
      refine HW.out.mono ?_
      rintro e w1 ⟨rfl, hw⟩
      subst hw
      go_wp2_with fail
      go_ret
      rw [HV.out, HE2.out]
      exact ⟨rfl, by first | exact hM.below0 | (subst hgm; exact hM.below0)⟩
    | true =>
      have hss := HWL.out rfl
      have hlk := HLK.out hss
      cases r with
      | true =>
        go_wp2_with fail
        refine HW.out.mono ?_
        rintro e w1 ⟨rfl, hw⟩
        subst hw
        go_wp2_with fail
        go_ret
        rw [HV.out, HE2.out]
        exact ⟨rfl, by first | exact hM.below0 | (subst hgm; exact hM.below0)⟩
      | false =>
        go_wp2_with fail
        refine HW.out.mono ?_
        rintro e w1 ⟨rfl, hw⟩
        subst hw
        have hown : w1.ownsMap Tryz.prog 9 (plainElem (H := Unit) Tryz.prog 4) gm (l.take i).length (strK.setD (l.take i)) := iset_own strK (hM.sep.ok _ (List.mem_singleton.2 rfl))
        go_wp2_with (first | (at_mapUpdate; refine wpList_mapUpdate_own _ rfl _ _ _ 222 rfl 9 4 strK.law Tryz.underlying222 (plainElem (H := Unit) Tryz.prog 4) gm (l.take i).length (strK.setD (l.take i)) rfl hown (by unfold maxLen; omega) _ _ (strK.kl s) rfl rfl (strK.key s hss) _ [] (plainElem_bool Tryz.underlying4 true) ?_; intro w2 hown2 hgrow2))
        have hM2 : Hp [] w [iset strK gm (l.take (i + 1))] w2 := by rw [HT.out]; exact hM.setPut strK 0 rfl hss hown2 hgrow2
        have HE3 : Hid (wordsE [] l = wordsE (l.take (i + 1)) (l.drop (i + 1))) := hid (by rw [HE2.out]; rfl)
        clear hown hown2 hgrow2 hM HE2
        go_roundg (l.length - (i + 1))
        case measure => omega
        case rel => exact ⟨i + 1, hil, rfl, by first | rfl | simp, hM2, HE3⟩
   ·have hii : ¬ (i : Int) < (l.length : Int) := by omega
    have HR : Hid (wordsP l = 0) := hid (by rw [HV.out, HE.out, List.drop_of_length_le (by omega), wordsE])
    go_wp2_with fail
    go_ret
    rw [HR.out]
    exact ⟨rfl, by first | exact hM.below0 | (subst hgm; exact hM.below0)⟩
def numE (f : Fd) : Int := if 0 < f.words.length then 3 else if f.min < -2147483648 ∨ 2147483647 < f.max ∨ f.max < f.min then 2 else 0
def wrdE (f : Fd) : Int := if f.min ≠ 0 ∨ f.max ≠ 0 then 3 else wordsP f.words
def fieldE (f : Fd) : Int := if f.kind = 0 then numE f else if f.kind = 1 then wrdE f else 3
structure FBd (f : Fd) : Prop where
 name : f.name.size ≤ 1000000
 words : f.words.length ≤ 1000000
theorem checkField_any (f : Fd) (WA : Option Addr) (c : Nat) (hf : FBd f) (w : World) (hS : Strs w WA f.words) :
 Calls Tryz.prog 202 #[.agg (fcs f WA c).toArray] w fun e w' => e = .returned (.int .i64 (fieldE f)) ∧ Below w.heap.size w w' := by
 have hb := (Below.refl w.heap.size w).alloc (Nat.le_refl _) (.cells (fcs f WA c).toArray 57)
 obtain ⟨c0, c1, c2, c3, c4⟩ := (show Blk (w.alloc (.cells (fcs f WA c).toArray 57)) w.heap.size 57 (fcs f WA c) from Blk.new w _ _).get5
 have hS2 := hS.up ((Below.refl w.heap.size w).alloc (Nat.le_refl _) (.cells (fcs f WA c).toArray 57))
 have HW := hid (checkWords_any WA c f.words hf.words _ hS2)
 have HV : Hid (fieldE f = if f.kind = 0 then numE f else if f.kind = 1 then wrdE f else 3) := hid rfl
 cases h0 : (f.kind == 0) with
 | true =>
   have e0 : f.kind = 0 := by simpa using h0
   rw [if_pos e0] at HV
   clear e0
   by_cases hw : 0 < f.words.length
   ·have hi : (0 : Int) < (f.words.length : Int) := by omega
    have HV2 : Hid (fieldE f = 3) := hid (by rw [HV.out, numE, if_pos hw])
    go_enter Tryz.func202, Tryz.ntmps202
    go_wp2_with fail
    go_ret
    rw [HV2.out]
    exact ⟨rfl, hb⟩
   ·have hi : ¬ (0 : Int) < (f.words.length : Int) := by omega
    have HV2 : Hid (fieldE f = if f.min < -2147483648 ∨ 2147483647 < f.max ∨ f.max < f.min then 2 else 0) := hid (by rw [HV.out, numE, if_neg hw])
    by_cases a : f.min < -2147483648
    ·rw [if_pos (.inl a)] at HV2
     go_enter Tryz.func202, Tryz.ntmps202
     go_wp2_with fail
     go_ret
     rw [HV2.out]
     exact ⟨rfl, hb⟩
    ·by_cases b : 2147483647 < f.max
     ·rw [if_pos (.inr (.inl b))] at HV2
      go_enter Tryz.func202, Tryz.ntmps202
      go_wp2_with fail
      go_ret
      rw [HV2.out]
      exact ⟨rfl, hb⟩
     ·by_cases d : f.max < f.min
      ·rw [if_pos (.inr (.inr d))] at HV2
       go_enter Tryz.func202, Tryz.ntmps202
       go_wp2_with fail
       go_ret
       rw [HV2.out]
       exact ⟨rfl, hb⟩
      ·rw [if_neg (by omega)] at HV2
       go_enter Tryz.func202, Tryz.ntmps202
       go_wp2_with fail
       go_ret
       rw [HV2.out]
       exact ⟨rfl, hb⟩
 | false =>
   have e0 : ¬ f.kind = 0 := by simpa using h0
   rw [if_neg e0] at HV
   clear e0
   cases h1 : (f.kind == 1) with
   | false =>
     have e1 : ¬ f.kind = 1 := by simpa using h1
     rw [if_neg e1] at HV
     clear e1
     go_enter Tryz.func202, Tryz.ntmps202
     go_wp2_with fail
     go_ret
     rw [HV.out]
     exact ⟨rfl, hb⟩
   | true =>
     have e1 : f.kind = 1 := by simpa using h1
     rw [if_pos e1] at HV
     clear e1
     have HV2 : Hid (fieldE f = if f.min ≠ 0 ∨ f.max ≠ 0 then 3 else wordsP f.words) := hid HV.out
     cases hn : (f.min != 0) with
     | true =>
       have en : f.min ≠ 0 := by simpa using hn
       rw [if_pos (.inl en)] at HV2
       clear en
       go_enter Tryz.func202, Tryz.ntmps202
       go_wp2_with fail
       go_ret
       rw [HV2.out]
       exact ⟨rfl, hb⟩
     | false =>
       have en : f.min = 0 := by simpa using hn
       cases hx : (f.max != 0) with
       | true =>
         have ex : f.max ≠ 0 := by simpa using hx
         rw [if_pos (.inr ex)] at HV2
         clear en ex
         go_enter Tryz.func202, Tryz.ntmps202
         go_wp2_with fail
         go_ret
         rw [HV2.out]
         exact ⟨rfl, hb⟩
       | false =>
         have ex : f.max = 0 := by simpa using hx
         rw [if_neg (by rintro (h | h) <;> contradiction)] at HV2
         clear en ex
         go_enter Tryz.func202, Tryz.ntmps202
         go_wp2_with fail
         refine HW.out.mono ?_
         rintro e w1 ⟨rfl, hb1⟩
         go_wp2_with fail
         go_ret
         rw [HV2.out]
         exact ⟨rfl, hb.trans (hb1.mono hb.size)⟩
def findF : List Fd → ByteArray → Option Nat
 | [], _ => none
 | f :: L, s => if f.name = s then some 0 else (findF L s).map (· + 1)
def findI (L : List Fd) (s : ByteArray) : Int := match findF L s with | some k => (k : Int) | none => -1
theorem find_some : ∀ (L : List Fd) (i : Nat) (f : Fd) (s : ByteArray), L[i]? = some f → f.name = s → (∀ (j : Nat) (g : Fd), j < i → L[j]? = some g → g.name ≠ s) → findF L s = some i
 | [], i, f, s, h, _, _ => by simp at h
 | g :: L, 0, f, s, h, h2, _ => by
   have : g = f := by simpa using h
   rw [findF, if_pos (by rw [this]; exact h2)]
 | g :: L, i + 1, f, s, h, h2, h3 => by
   rw [findF, if_neg (h3 0 g (by omega) rfl), find_some L i f s (by simpa using h) h2 (fun j g' hj hg => h3 (j + 1) g' (by omega) (by simpa using hg))]
   rfl
theorem find_none : ∀ (L : List Fd) (s : ByteArray), (∀ (j : Nat) (g : Fd), L[j]? = some g → g.name ≠ s) → findF L s = none
 | [], s, _ => rfl
 | g :: L, s, h => by
   rw [findF, if_neg (h 0 g rfl), find_none L s (fun j g' hg => h (j + 1) g' (by simpa using hg))]
   rfl
theorem find_lt : ∀ (L : List Fd) (s : ByteArray) (k : Nat), findF L s = some k → k < L.length ∧ (∃ f : Fd, L[k]? = some f ∧ f.name = s) ∧ ∀ (j : Nat) (g : Fd), j < k → L[j]? = some g → g.name ≠ s
 | [], s, k, h => by cases h
 | g :: L, s, k, h => by
   rw [findF] at h
   split at h
   ·rename_i hg
    cases h
    exact ⟨by simp, ⟨g, rfl, hg⟩, fun j g' hj => absurd hj (Nat.not_lt_zero _)⟩
   ·rename_i hg
    obtain ⟨m, hm, rfl⟩ := Option.map_eq_some_iff.1 h
    obtain ⟨h1, ⟨f, h2, h3⟩, h4⟩ := find_lt L s m hm
    refine ⟨by simpa using h1, ⟨f, by simpa using h2, h3⟩, fun j g' hj hg' => ?_⟩
    cases j with
    | zero =>
      have : g = g' := by simpa using hg'
      rw [← this]; exact hg
    | succ j => exact h4 j g' (by omega) (by simpa using hg')
theorem find1_any (f : Fd) (WA : Option Addr) (c g : Nat) (s : ByteArray) (w : World) (hg : w.cell? ⟨g, 0, none⟩ = some (.string s)) :
 Calls Tryz.prog 203 #[.agg (fcs f WA c).toArray, .pointer (some ⟨g, 0, none⟩)] w fun e w' => e = .returned (.bool (decide (f.name = s))) ∧ Below w.heap.size w w' := by
 have hb := (Below.refl w.heap.size w).alloc (Nat.le_refl _) (.cells (fcs f WA c).toArray 57)
 obtain ⟨c0, -, -, -, -⟩ := (show Blk (w.alloc (.cells (fcs f WA c).toArray 57)) w.heap.size 57 (fcs f WA c) from Blk.new w _ _).get5
 have hg2 := zaa hg hb
 have hee := @strs_eq f.name s
 generalize decide (f.name = s) = r at *
 go_enter Tryz.func203, Tryz.ntmps203
 go_wp2_with fail
 go_ret
 exact ⟨by first | rfl | (rw [← hee]), hb⟩
theorem indexF_any (A : Option Addr) (c : Nat) (L : List Fd) (g : Nat) (s : ByteArray) (hL : L.length ≤ 1000000) (w : World) (hS : Flds w A L) (hg : w.cell? ⟨g, 0, none⟩ = some (.string s)) :
 Calls Tryz.prog 64 #[.slice A L.length c, .func (.func 203) #[] #[.pointer (some ⟨g, 0, none⟩)]] w fun e w' => e = .returned (.int .i64 (findI L s)) ∧ Below w.heap.size w w' := by
 go_enter Tryz.func64, Tryz.ntmps64
 go_upto_region 2 with fail
 go_loopg [8] L.length (fun m s8 wx => ∃ i : Nat, i ≤ L.length ∧ m = L.length - i ∧ s8 = .int .i64 (i : Int) ∧ Below w.heap.size w wx ∧ Hid (∀ (j : Nat) (f : Fd), j < i → L[j]? = some f → f.name ≠ s))
 case atStart => exact ⟨0, Nat.zero_le _, rfl, rfl, Below.refl _ _, hid (fun j f hj => absurd hj (Nat.not_lt_zero _))⟩
 case round =>
  obtain ⟨i, hi, rfl, rfl, hb, HI⟩ := hrel
  by_cases hil : i < L.length
  ·have hii : (i : Int) < (L.length : Int) := by omega
   have hi0 : (0 : Int) ≤ (i : Int) := by omega
   obtain ⟨f, hf⟩ : ∃ f, L[i]? = some f := ⟨_, List.getElem?_eq_getElem hil⟩
   obtain ⟨ad, WA, wc, rfl, hF⟩ := (hS.up hb).at_ i f hf
   have c0 := hF.name
   have c1 := hF.kind
   have c2 := hF.min
   have c3 := hF.max
   have c4 := hF.words
   have HC := hid (find1_any f WA wc g s wr (zaa hg hb))
   by_cases hfs : f.name = s
   ·have HV : Hid (findI L s = (i : Int)) := hid (by unfold findI; rw [find_some L i f s hf hfs HI.out])
    rw [decide_eq_true hfs] at HC
    clear hfs hf HI
    go_wp2_with fail
    refine HC.out.mono ?_
    rintro e w1 ⟨rfl, hb1⟩
    clear HC
    go_wp2_with fail
    go_ret
    rw [HV.out]
    exact ⟨rfl, hb.trans (hb1.mono hb.size)⟩
   ·have HI2 : Hid (∀ (j : Nat) (f : Fd), j < i + 1 → L[j]? = some f → f.name ≠ s) := hid (fun j f' hj hf' => by
     by_cases hji : j = i
     ·subst hji
      rw [hf] at hf'
      injection hf' with hf'
      rw [← hf']; exact hfs
     ·exact HI.out j f' (by omega) hf')
    rw [decide_eq_false hfs] at HC
    clear hfs hf HI
    go_wp2_with fail
    refine HC.out.mono ?_
    rintro e w1 ⟨rfl, hb1⟩
    clear HC
    go_wp2_with fail
    go_roundg (L.length - (i + 1))
    case measure => omega
    case rel => exact ⟨i + 1, hil, rfl, by first | rfl | simp, hb.trans (hb1.mono hb.size), HI2⟩
  ·have hii : ¬ (i : Int) < (L.length : Int) := by omega
   have HV : Hid (findI L s = -1) := hid (by unfold findI; rw [find_none L s (fun j g hj => HI.out j g (by have := (List.getElem?_eq_some_iff.1 hj).1; omega) hj)])
   clear HI
   go_wp2_with fail
   go_ret
   rw [HV.out]
   exact ⟨rfl, hb⟩
def findV (L : List Fd) (s : ByteArray) : Value := match findF L s with | some k => .tuple #[.int .i64 (k : Int), .bool true] | none => .tuple #[.int .i64 0, .bool false]
theorem find_any (nm s : ByteArray) (A : Option Addr) (c : Nat) (L : List Fd) (hL : L.length ≤ 1000000) (w : World) (hS : Flds w A L) :
 Calls Tryz.prog 155 #[.agg #[.string nm, .slice A L.length c], .string s] w fun e w' => e = .returned (findV L s) ∧ Below w.heap.size w w' := by
 have hb := ((Below.refl w.heap.size w).alloc (Nat.le_refl _) (.cells #[.string nm, .slice A L.length c] 53)).alloc (by simp) (.cells #[.string s] 9)
 have hk := ((Hp.start w).new 53 [.string nm, .slice A L.length c]).new 9 [.string s]
 have c1 := (hk.blk 1 rfl).cell 1
 have c2 := (hk.blk 0 rfl).cell 0
 simp only [List.getElem?_cons_zero, List.getElem?_cons_succ] at c1 c2
 have HC := hid (indexF_any A c L _ s hL _ (hS.up hk.below0) c2)
 have HV : Hid (findV L s = match findF L s with | some k => .tuple #[.int .i64 (k : Int), .bool true] | none => .tuple #[.int .i64 0, .bool false]) := hid rfl
 clear hk
 have hsz : (w.alloc (.cells #[.string nm, .slice A L.length c] 53)).heap.size = w.heap.size + 1 := by simp
 rw [hsz] at HC c2
 cases hf : findF L s with
 | none =>
   have hI : findI L s = -1 := by unfold findI; rw [hf]
   rw [hI] at HC
   rw [hf] at HV
   clear hI hf
   go_enter Tryz.func155, Tryz.ntmps155
   go_wp2_with fail
   refine HC.out.mono ?_
   rintro e w1 ⟨rfl, hb1⟩
   go_wp2_with fail
   go_ret2
   rw [HV.out]
   exact ⟨rfl, hb.trans (hb1.mono hb.size)⟩
 | some k =>
   have hkl := (find_lt L s k hf).1
   have hI : findI L s = (k : Int) := by unfold findI; rw [hf]
   rw [hI] at HC
   rw [hf] at HV
   have hm : max (k : Int) 0 = (k : Int) := by omega
   have hge : (0 : Int) ≤ (k : Int) := by omega
   clear hI hf
   go_enter Tryz.func155, Tryz.ntmps155
   go_wp2_with fail
   refine HC.out.mono ?_
   rintro e w1 ⟨rfl, hb1⟩
   go_wp2_with fail
   go_ret2
   rw [HV.out]
   exact ⟨by first | rfl | simp [hm], hb.trans (hb1.mono hb.size)⟩
def zbf : List ByteArray → List Fd → Int
 | _, [] => 0
 | S, f :: r => if nameP f.name = false then 1 else if memD f.name S then 8 else if fieldE f ≠ 0 then fieldE f else zbf (S ++ [f.name]) r
def schemaE (nm : ByteArray) (L : List Fd) : Int := if nameP nm = false then 1 else if L.length < 1 ∨ 16 < L.length then 6 else zbf [] L
abbrev nms (L : List Fd) : List ByteArray := L.map Fd.name
structure SBd (nm : ByteArray) (L : List Fd) : Prop where
 name : nm.size ≤ 1000000
 len : L.length ≤ 1000000
 fld : ∀ f ∈ L, FBd f
abbrev schV (nm : ByteArray) (A : Option Addr) (n c : Nat) : Value := .agg #[.string nm, .slice A n c]
theorem nms_take {L : List Fd} {i : Nat} {f : Fd} (h : L[i]? = some f) : nms (L.take (i + 1)) = nms (L.take i) ++ [f.name] := by
 rw [zbb h]; simp [nms]
theorem fieldsE_at {L : List Fd} {i : Nat} {f : Fd} {E : Int} (h : L[i]? = some f) (hE : E = zbf (nms (L.take i)) (L.drop i)) : E = if nameP f.name = false then 1 else if memD f.name (nms (L.take i)) then 8 else if fieldE f ≠ 0 then fieldE f else zbf (nms (L.take (i + 1))) (L.drop (i + 1)) := by
 rw [hE, zc7 h, zbf, nms_take h]
theorem check_any (nm : ByteArray) (A : Option Addr) (c : Nat) (L : List Fd) (hB : SBd nm L) (w : World) (hS : Flds w A L) :
 Calls Tryz.prog 153 #[schV nm A L.length c] w fun e w' => e = .returned (.int .i64 (schemaE nm L)) ∧ Below w.heap.size w w' := by
 have hk := (Hp.start w).new 53 [.string nm, .slice A L.length c]
 have HN := hid (zb1 nm (w.alloc (.cells #[.string nm, .slice A L.length c] 53)))
 have HV : Hid (schemaE nm L = if nameP nm = false then 1 else if L.length < 1 ∨ 16 < L.length then 6 else zbf [] L) := hid rfl
 have hbl := hB.len
 have HBF := hid hB.fld
 obtain ⟨g1, hg1⟩ : ∃ g, w.heap.size = g := ⟨_, rfl⟩
 rw [hg1] at hk
 clear hB
 generalize hq : nameP nm = q at *
 clear hq
 go_enter Tryz.func153, Tryz.ntmps153
 go_upto_region 1 with fail
 generalize w.alloc (.cells #[.string nm, .slice A L.length c] 53) = W at *
 try simp only [hg1]
 have c0 := (hk.blk 0 rfl).cell 0
 simp only [List.getElem?_cons_zero] at c0
 go_wp2_with fail
 refine HN.out.mono ?_
 rintro e w1 ⟨rfl, hb1⟩
 have hk1 := hk.next hb1
 clear HN hk hb1 c0
 cases q with
 | false =>
   go_wp2_with fail
   go_ret
   rw [HV.out]
   exact ⟨rfl, by first | exact hk1.below0 | (subst hg1; exact hk1.below0)⟩
 | true =>
   have c1 := (hk1.blk 0 rfl).cell 1
   simp only [List.getElem?_cons_zero, List.getElem?_cons_succ] at c1
   by_cases h1 : L.length < 1
   ·have hi : (L.length : Int) < 1 := by omega
    have HR : Hid (schemaE nm L = 6) := hid (by rw [HV.out, if_neg (by simp), if_pos (.inl h1)])
    clear h1
    go_wp2_with fail
    go_ret
    rw [HR.out]
    exact ⟨rfl, by first | exact hk1.below0 | (subst hg1; exact hk1.below0)⟩
   ·have hi : ¬ (L.length : Int) < 1 := by omega
    by_cases h2 : 16 < L.length
    ·have hi2 : (16 : Int) < (L.length : Int) := by omega
     have HR : Hid (schemaE nm L = 6) := hid (by rw [HV.out, if_neg (by simp), if_pos (.inr h2)])
     go_wp2_with fail
     go_ret
     rw [HR.out]
     exact ⟨rfl, by first | exact hk1.below0 | (subst hg1; exact hk1.below0)⟩
    ·have hi2 : ¬ (16 : Int) < (L.length : Int) := by omega
     have HR : Hid (schemaE nm L = zbf [] L) := hid (by rw [HV.out, if_neg (by simp), if_neg (by omega)])
     have hl16 : L.length ≤ 16 := by omega
     have hmm := @run_makeMap Tryz.prog
     go_upto_region 6 with fail
     have hS0 := hk1.setNew strK
     clear hmm hk1 c1
     generalize w1.alloc (.map #[] 0) = W2 at *
     generalize w1.heap.size = gm at *
     have c1 := (hS0.blk 1 rfl).cell 1
     simp only [List.getElem?_cons_zero, List.getElem?_cons_succ] at c1
     go_upto_region 7 with fail
     clear c1
     go_loopg [25] L.length (fun m s25 wx => ∃ i : Nat, i ≤ L.length ∧ m = L.length - i ∧ s25 = .int .i64 (i : Int) ∧ Hp [] w [iset strK gm (nms (L.take i)), iblk g1 53 [.string nm, .slice A L.length c]] wx ∧ Hid (zbf [] L = zbf (nms (L.take i)) (L.drop i)))
     case atStart => exact ⟨0, Nat.zero_le _, rfl, rfl, hS0, hid rfl⟩
     case round =>
      obtain ⟨i, hi, rfl, rfl, hM, HE⟩ := hrel
      clear hS0
      by_cases hil : i < L.length
      ·have hii : (i : Int) < (L.length : Int) := by omega
       have hi0 : (0 : Int) ≤ (i : Int) := by omega
       obtain ⟨f, hf⟩ : ∃ f, L[i]? = some f := ⟨_, List.getElem?_eq_getElem hil⟩
       have hfb := HBF.out f (List.mem_of_getElem? hf)
       obtain ⟨ad, WA, wc, rfl, hF0⟩ := hS.at_ i f hf
       have hF := hF0.up hM.below0
       have HF0 := hid hF0
       have d0 := hF.name
       have d1 := hF.kind
       have d2 := hF.min
       have d3 := hF.max
       have d4 := hF.words
       have HT := hid (nms_take hf)
       have HE2 := hid (fieldsE_at hf HE.out)
       have hfn := hfb.name
       have HFB := hid hfb
       have htl : (nms (L.take i)).length ≤ 16 := by rw [List.length_map, List.length_take]; omega
       clear hf HE hfb
       go_upto_region 9 with fail
       have hM1 := hM.new 57 (fcs f WA wc)
       have hst := hF.strs.up ((Below.refl wr.heap.size wr).alloc (Nat.le_refl _) (.cells (fcs f WA wc).toArray 57))
       clear hM d0 d1 d2 d3 d4 hF
       generalize wr.alloc (.cells #[.string f.name, .int .i64 f.kind, .int .i64 f.min, .int .i64 f.max, .slice WA f.words.length wc] 57) = w3 at *
       generalize wr.heap.size = g5 at *
       obtain ⟨d0, d1, d2, d3, d4⟩ := (hM1.blk 0 rfl).get5
       have HN := hid (zb1 f.name w3)
       generalize hq : nameP f.name = q at *
       clear hq
       go_wp2_with fail
       refine HN.out.mono ?_
       rintro e w4 ⟨rfl, hb4⟩
       have hM2 := hM1.next hb4
       have hst := hst.up hb4
       clear HN hM1 hb4 d0 d1 d2 d3 d4
       obtain ⟨d0, d1, d2, d3, d4⟩ := (hM2.blk 0 rfl).get5
       have hlk : (Instr.lookup 222 (.map (some gm)) (.string f.name) false).run Tryz.prog w4 = .ok (.bool (memD f.name (nms (L.take i)))) w4 := zcw strK (hM2.sep.ok _ (List.mem_cons_of_mem _ (List.mem_cons_self ..))) f.name hfn
       generalize memD f.name (nms (L.take i)) = r at *
       cases q with
       | false =>
         go_wp2_with fail
         go_ret
         rw [HR.out, HE2.out]
         exact ⟨rfl, by first | exact hM2.below0 | (subst hg1; exact hM2.below0)⟩
       | true =>
         cases r with
         | true =>
           go_wp2_with fail
           go_ret
           rw [HR.out, HE2.out]
           exact ⟨rfl, by first | exact hM2.below0 | (subst hg1; exact hM2.below0)⟩
         | false =>
           have hown : w4.ownsMap Tryz.prog 9 (plainElem (H := Unit) Tryz.prog 4) gm (nms (L.take i)).length (strK.setD (nms (L.take i))) := iset_own strK (hM2.sep.ok _ (List.mem_cons_of_mem _ (List.mem_cons_self ..)))
           go_upto_region 14 with (first | (at_mapUpdate; refine wpList_mapUpdate_own _ rfl _ _ _ 222 rfl 9 4 strK.law Tryz.underlying222 (plainElem (H := Unit) Tryz.prog 4) gm (nms (L.take i)).length (strK.setD (nms (L.take i))) rfl hown (by unfold maxLen; omega) _ _ (strK.kl f.name) rfl rfl (strK.key f.name hfn) _ [] (plainElem_bool Tryz.underlying4 true) ?_; intro w5 hown2 hgrow2))
           have hM3 := hM2.setPut strK 1 rfl hfn hown2 hgrow2
           rw [← HT.out] at hM3
           have hM3 : Hp [] w (iblk g5 57 (fcs f WA wc) :: iset strK gm (nms (L.take (i + 1))) :: [iblk g1 53 [.string nm, .slice (some ad) L.length c]]) w5 := hM3
           have hst5 := HF0.out.strs.up hM3.below0
           clear hown hown2 hgrow2 hM2 hlk d0 d1 d2 d3 d4
           obtain ⟨d0, d1, d2, d3, d4⟩ := (hM3.blk 0 rfl).get5
           have HC := hid (checkField_any f WA wc HFB.out w5 hst5)
           generalize fieldE f = fe at *
           go_wp2_with fail
           refine HC.out.mono ?_
           rintro e w6 ⟨rfl, hb6⟩
           have hM4 := hM3.next hb6
           clear HC hM3 hb6 d0 d1 d2 d3 d4
           cases hfe : (fe != 0) with
           | true =>
             have hne : fe ≠ 0 := by simpa using hfe
             have HE3 : Hid (zbf [] L = fe) := hid (by rw [HE2.out, if_neg (by simp), if_neg (by simp), if_pos hne])
             clear hne
             go_wp2_with fail
             go_ret
             rw [HR.out, HE3.out]
             exact ⟨rfl, by first | exact hM4.below0 | (subst hg1; exact hM4.below0)⟩
           | false =>
             have hne : fe = 0 := by simpa using hfe
             have HE3 : Hid (zbf [] L = zbf (nms (L.take (i + 1))) (L.drop (i + 1))) := hid (by rw [HE2.out, if_neg (by simp), if_neg (by simp), if_neg (by simp [hne])])
             clear hne
             go_wp2_with fail
             go_roundg (L.length - (i + 1))
             case measure => omega
             case rel => exact ⟨i + 1, hil, rfl, by first | rfl | simp, hM4.tail, HE3⟩
      ·have hii : ¬ (i : Int) < (L.length : Int) := by omega
       have HR2 : Hid (schemaE nm L = 0) := hid (by rw [HR.out, HE.out, List.drop_of_length_le (by omega), zbf])
       go_wp2_with fail
       go_ret
       rw [HR2.out]
       exact ⟨rfl, by first | exact hM.below0 | (subst hg1; exact hM.below0)⟩
end Go.Proofs.YtekkapgknohadaaGreatDoor.Nf
