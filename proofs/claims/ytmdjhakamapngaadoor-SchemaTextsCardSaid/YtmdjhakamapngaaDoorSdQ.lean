/-
  dominoref39.Text.
-/
import Derived.Test.YtmdjhakamapngaaDoorSdN
namespace Go.Proofs.YtmdjhakamapngaaDoor
open Go.RowKit Go.Shelf
set_option linter.unusedVariables false

theorem tl_app (u v : ByteArray) : tl (u ++ v) = tl u ++ tl v := by
  show (u ++ v).data.toList = _
  rw [ByteArray.data_append]; simp [tl]
theorem join_snoc (sep : List UInt8) (l : List (List UInt8)) (x : List UInt8) : Lib.join (l ++ [x]) sep = Lib.join l sep ++ (if l = [] then [] else sep) ++ x := by
  cases l with
  | nil => simp [Lib.join, List.intercalate]
  | cons a l =>
    rw [List.cons_append, join_cons, join_cons, List.flatMap_append]
    simp
def numPart (f : Fd) : List UInt8 := if f.kind = 0 then (32 :: numberB) ++ (32 :: Lib.itoa f.min) ++ (32 :: Lib.itoa f.max) else []
def wordPart (l : List ByteArray) : List UInt8 := l.flatMap fun w => 32 :: 39 :: (tl w ++ [39])
theorem fieldT_parts (f : Fd) : fieldT f = tl f.name ++ numPart f ++ wordPart f.words := rfl
theorem wordPart_snoc (l : List ByteArray) (s : ByteArray) : wordPart (l ++ [s]) = wordPart l ++ (32 :: 39 :: (tl s ++ [39])) := by unfold wordPart; rw [List.flatMap_append]; simp
theorem size_of_tl {u : ByteArray} {l : List UInt8} (h : tl u = l) : u.size = l.length := by rw [← h, length_tl]
theorem wordPart_len {l : List ByteArray} (h : ∀ w ∈ l, w.size ≤ 32) : (wordPart l).length ≤ 35 * l.length := flat_len2 h
set_option maxRecDepth 20000 in
set_option maxHeartbeats 16000000 in
theorem rstext_any (nm : ByteArray) (A : Option Addr) (c : Nat) (L : List Fd) (hB : SBd nm L) (w : World) (hS : Flds w A L) :
    Calls Tryd.prog 25 #[schV nm A L.length c] w fun e w' => e = .returned (.tuple #[Sv (textP nm L).1, .int .i64 (textP nm L).2]) ∧ Below w.heap.size w w' := by
  have hk := (Hp.start w).new 24 [.string nm, .slice A L.length c]
  have HC := Lib.hid (rcheck_any nm A c L hB _ (hS.up hk.below0))
  have HP : Hid (textP nm L = if schemaE nm L ≠ 0 then ([], schemaE nm L) else (schemaT nm L, 0)) := Lib.hid rfl
  obtain ⟨g1, hg1⟩ : ∃ g, w.heap.size = g := ⟨_, rfl⟩
  rw [hg1] at hk
  obtain ⟨E, hE⟩ : ∃ E, schemaE nm L = E := ⟨_, rfl⟩
  rw [hE] at HC HP
  go_enter Tryd.func25, Tryd.ntmps25
  go_upto_region 1 with fail
  try simp only [hg1]
  generalize w.alloc (.cells #[.string nm, .slice A L.length c] 24) = W at *
  obtain ⟨c0, c1⟩ := (hk.blk 0 rfl).get2
  go_wp2_with fail
  refine HC.out.mono ?_
  rintro e w1 ⟨rfl, hb1⟩
  have hk1 := hk.next hb1
  clear hk hb1 HC c0 c1
  cases hE0 : (E != 0) with
  | true =>
    have HR : Hid (textP nm L = ([], E)) := Lib.hid (by rw [HP.out, if_pos (by simpa using hE0)])
    go_wp2_with fail
    go_ret2
    rw [HR.out]
    exact ⟨rfl, by first | exact hk1.below0 | (subst hg1; exact hk1.below0)⟩
  | false =>
    have hE1 : E = 0 := by simpa using hE0
    subst hE1
    have HR : Hid (textP nm L = (schemaT nm L, 0)) := Lib.hid (by rw [HP.out, if_neg (by simp)])
    have hL16 := (schemaE_ok hE).2.2.1
    have HOk := Lib.hid (schemaE_ok hE).2.2.2
    have HST := Lib.hid (schema_text nm L)
    have hn32 := name_size (schemaE_ok hE).1
    clear HP hE0 hE
    have hcat0 : ¬ 9223372036854775807 < nm.size + 1 := by omega
    obtain ⟨c0, c1⟩ := (hk1.blk 0 rfl).get2
    go_upto_region 6 with fail
    clear c0 c1
    go_loopg [6, 5] L.length (fun m s6 s5 wx => ∃ (i : Nat) (u : ByteArray), i ≤ L.length ∧ m = L.length - i ∧ s6 = .int .i64 (i : Int) ∧ s5 = .string u ∧ Hp [] w [iblk g1 24 [.string nm, .slice A L.length c]] wx ∧ u.size ≤ 33 + 4002 * i ∧ Hid (tl u = tl nm ++ [40] ++ Lib.join ((L.take i).map fieldT) [44, 32]))
    case atStart => exact ⟨0, nm ++ ⟨#[40]⟩, Nat.zero_le _, rfl, rfl, rfl, hk1, by rw [ByteArray.size_append]; show nm.size + 1 ≤ _; omega, Lib.hid (by rw [tl_app]; simp [Lib.join, List.intercalate])⟩
    case round =>
      obtain ⟨i, u, hi, rfl, rfl, rfl, hM, hu, HU⟩ := hrel
      clear hk1
      obtain ⟨c0, c1⟩ := (hM.blk 0 rfl).get2
      by_cases hil : i < L.length
      · have hii : (i : Int) < (L.length : Int) := by omega
        have hi0' : (0 : Int) ≤ (i : Int) := by omega
        obtain ⟨f, hf⟩ : ∃ f, L[i]? = some f := ⟨_, List.getElem?_eq_getElem hil⟩
        obtain ⟨ad, WA, wk, rfl, hF0⟩ := hS.at_ i f hf
        have HS0 := Lib.hid hF0.strs
        have hF := hF0.up hM.below0
        have d0 := hF.name
        have d1 := hF.kind
        have d2 := hF.min
        have d3 := hF.max
        have d4 := hF.words
        have hFOk := HOk.out f (List.mem_of_getElem? hf)
        obtain ⟨b1, b2, b3, b4, b5, b6, b7, b8⟩ := fieldT_len hFOk
        have HB1 := Lib.hid b1
        have HB4 := Lib.hid b4
        have HTk : Hid ((L.take (i + 1)).map fieldT = (L.take i).map fieldT ++ [fieldT f]) := Lib.hid (by rw [take_at hf, List.map_append]; rfl)
        have hM1 := hM.new 49 (fcs f WA wk)
        have hnil : ((L.take i).map fieldT = []) ↔ i = 0 := by
          rw [List.map_eq_nil_iff, List.take_eq_nil_iff]
          constructor
          · rintro (h | h)
            · exact h
            · rw [h] at hil; simp at hil
          · intro h; exact .inl h
        have HNil := Lib.hid hnil
        clear hf hF hF0 hFOk b1 b4 hnil
        obtain ⟨g5, hg5⟩ : ∃ g, wr.heap.size = g := ⟨_, rfl⟩
        rw [hg5] at hM1
        go_upto_region 9 with fail
        try simp only [hg5]
        have hM2 : Hp [] w [iblk g5 49 (fcs f WA wk), iblk g1 24 [.string nm, .slice (some ad) L.length c]] (wr.alloc (.cells #[.string f.name, .int .i64 f.kind, .int .i64 f.min, .int .i64 f.max, .slice WA f.words.length wk] 49)) := hM1
        clear hM hM1 d0 d1 d2 d3 d4 c0 c1
        generalize wr.alloc (.cells #[.string f.name, .int .i64 f.kind, .int .i64 f.min, .int .i64 f.max, .slice WA f.words.length wk] 49) = w3 at *
        clear hg5
        have hiN : decide ((0 : Int) < (i : Int)) = decide (0 < i) := by rw [Bool.eq_iff_iff, decide_eq_true_iff, decide_eq_true_iff]; omega
        go_upto_if 30 with fail
        go_cut [5] (fun s5 wx => ∃ v : ByteArray, s5 = .string v ∧ wx = w3 ∧ v.size ≤ u.size + 2 ∧ Hid (tl v = tl u ++ (if (L.take i).map fieldT = [] then [] else [44, 32])))
        case first =>
          clear hiN
          by_cases hz : i = 0
          · have hzi : ¬ (0 : Int) < (i : Int) := by omega
            have HZ := Lib.hid hz
            clear hz
            go_wp2_with fail
            go_meet
            exact ⟨u, rfl, rfl, by omega, Lib.hid (by rw [if_pos (HNil.out.2 HZ.out)]; simp)⟩
          · have hzi : (0 : Int) < (i : Int) := by omega
            have hcat : ¬ 9223372036854775807 < u.size + 2 := by omega
            go_wp2_with fail
            go_meet
            exact ⟨u ++ ⟨#[44, 32]⟩, rfl, rfl, by rw [ByteArray.size_append]; exact Nat.le_refl _, Lib.hid (by rw [if_neg (fun h => hz (HNil.out.1 h)), tl_app])⟩
        case rest =>
          obtain ⟨v, rfl, hw3, hv, HV⟩ := hcut
          rw [hw3]
          clear hw3
          obtain ⟨d0, d1, d2, d3, d4⟩ := (hM2.blk 0 rfl).get5
          have hcat1 : ¬ 9223372036854775807 < v.size + f.name.size := by omega
          go_upto_if 39 with fail
          go_cut [5] (fun s5 wx => ∃ x : ByteArray, s5 = .string x ∧ Hp [] w [iblk g5 49 (fcs f WA wk), iblk g1 24 [.string nm, .slice (some ad) L.length c]] wx ∧ x.size ≤ v.size + 100 ∧ Hid (tl x = tl v ++ tl f.name ++ numPart f))
          case first =>
            cases hke : (f.kind == 0) with
            | true =>
              have hk0 : f.kind = 0 := by simpa using hke
              have HPW : Hid (numPart f = (32 :: numberB) ++ (32 :: Lib.itoa f.min) ++ (32 :: Lib.itoa f.max)) := Lib.hid (by unfold numPart; rw [if_pos hk0])
              have HI1 := Lib.hid (fun W' => text_any f.min (by omega) (by omega) W')
              have HI2 := Lib.hid (fun W' => text_any f.max (by omega) (by omega) W')
              dsimp only [Sv] at HI1 HI2
              have hz1 := itoa_len b5 b6
              have hz2 := itoa_len b7 b8
              rw [← size_bs] at hz1 hz2
              have HZ1 := Lib.hid (size_bs (Lib.itoa f.min))
              have HZ2 := Lib.hid (size_bs (Lib.itoa f.max))
              have HT1 := Lib.hid (tl_bs (Lib.itoa f.min))
              have HT2 := Lib.hid (tl_bs (Lib.itoa f.max))
              generalize bs (Lib.itoa f.min) = s1 at *
              generalize bs (Lib.itoa f.max) = s2 at *
              have hc1 : ¬ 9223372036854775807 < v.size + f.name.size + 8 := by omega
              have hc2 : ¬ 9223372036854775807 < v.size + f.name.size + 8 + s1.size := by omega
              have hc3 : ¬ 9223372036854775807 < v.size + f.name.size + 8 + s1.size + 1 := by omega
              have hc4 : ¬ 9223372036854775807 < v.size + f.name.size + 8 + s1.size + 1 + s2.size := by omega
              clear hk0
              go_upto_region 13 with fail
              have hMd := hM2.drew
              clear hM2 d0 d1 d2 d3 d4
              obtain ⟨d0, d1, d2, d3, d4⟩ := (hMd.blk 0 rfl).get5
              first | go_region_held3 (fun w' => w'.cell? ⟨g5, 2, none⟩ = some (.int .i64 f.min) ∧ w'.cell? ⟨g5, 3, none⟩ = some (.int .i64 f.max)) (first | exact ⟨d2, d3⟩ | exact ⟨e2, e3⟩ | exact ⟨f2, f3⟩)
                (first
                 | (go_at_call 40; have hq9 := hA3; refine (HI2.out _).mono ?_; rintro e w6 ⟨rfl, hb6⟩; have hA4 := hA3.next hb6; obtain ⟨f0, f1, f2, f3, f4⟩ := (hA4.blk 0 rfl).get5)
                 | (go_at_call 40; refine (HI1.out _).mono ?_; rintro e w5 ⟨rfl, hb5⟩; have hA3 := hMd.next hb5; obtain ⟨e0, e1, e2, e3, e4⟩ := (hA3.blk 0 rfl).get5)) | fail
              all_goals
                go_wp2_with fail
                go_meet
                refine ⟨_, rfl, hA4, ?_, Lib.hid ?_⟩
                · simp only [ByteArray.size_append]
                  show v.size + f.name.size + 8 + s1.size + 1 + s2.size ≤ _
                  omega
                · simp only [tl_app]
                  rw [HT1.out, HT2.out, HPW.out]
                  simp [numberB]
                  rfl
            | false =>
              have hk0 : ¬ f.kind = 0 := by simpa using hke
              have HPW : Hid (numPart f = []) := Lib.hid (by unfold numPart; rw [if_neg hk0])
              go_wp2_with fail
              go_meet
              exact ⟨v ++ f.name, rfl, hM2, by rw [ByteArray.size_append]; omega, Lib.hid (by rw [tl_app, HPW.out, List.append_nil])⟩
          case rest =>
            clear hM2 d0 d1 d2 d3 d4
            obtain ⟨x, rfl, hM3, hx, HX⟩ := hcut
            go_upto_region 15 with fail
            go_loopg [8, 5] f.words.length (fun m s8 s5 wx => ∃ (k : Nat) (y : ByteArray), k ≤ f.words.length ∧ m = f.words.length - k ∧ s8 = .int .i64 (k : Int) ∧ s5 = .string y ∧ Hp [] w [iblk g5 49 (fcs f WA wk), iblk g1 24 [.string nm, .slice (some ad) L.length c]] wx ∧ y.size ≤ x.size + 35 * k ∧ Hid (tl y = tl x ++ wordPart (f.words.take k)))
            case atStart => exact ⟨0, x, Nat.zero_le _, rfl, rfl, rfl, hM3, by omega, Lib.hid (by simp [wordPart])⟩
            case round =>
              clear hM3
              obtain ⟨k, y, hk, rfl, rfl, rfl, hM4, hy, HY⟩ := hrel
              obtain ⟨d0, d1, d2, d3, d4⟩ := (hM4.blk 0 rfl).get5
              by_cases hkl : k < f.words.length
              · have hkk : (k : Int) < (f.words.length : Int) := by omega
                have hk0 : (0 : Int) ≤ (k : Int) := by omega
                obtain ⟨s, hs⟩ : ∃ s, f.words[k]? = some s := ⟨_, List.getElem?_eq_getElem hkl⟩
                obtain ⟨bd, rfl, cb⟩ := (HS0.out.up hM4.below0).at_ k s hs
                have hs32 := HB4.out s (List.mem_of_getElem? hs)
                have hc1 : ¬ 9223372036854775807 < y.size + 2 := by omega
                have hc2 : ¬ 9223372036854775807 < y.size + 2 + s.size := by omega
                have hc3 : ¬ 9223372036854775807 < y.size + 2 + s.size + 1 := by omega
                have HY2 : Hid (tl (y ++ ⟨#[32, 39]⟩ ++ s ++ ⟨#[39]⟩) = tl x ++ wordPart (f.words.take (k + 1))) := Lib.hid (by
                  rw [take_at hs, wordPart_snoc, tl_app, tl_app, tl_app, HY.out]
                  simp
                  rfl)
                clear hs
                go_wp2_with fail
                go_roundg (f.words.length - (k + 1))
                case measure => omega
                case rel => exact ⟨k + 1, y ++ ⟨#[32, 39]⟩ ++ s ++ ⟨#[39]⟩, hkl, rfl, by first | rfl | simp, rfl, hM4, by simp only [ByteArray.size_append]; show y.size + 2 + s.size + 1 ≤ _; omega, HY2⟩
              · have hkk : ¬ (k : Int) < (f.words.length : Int) := by omega
                have HY2 : Hid (tl y = tl nm ++ [40] ++ Lib.join ((L.take (i + 1)).map fieldT) [44, 32]) := Lib.hid (by
                  rw [HTk.out, join_snoc, HY.out, HX.out, HV.out, HU.out, List.take_of_length_le (by omega : f.words.length ≤ k), fieldT_parts]
                  simp only [List.append_assoc])
                go_wp2_with fail
                go_roundg (L.length - (i + 1))
                case measure => omega
                case rel => exact ⟨i + 1, y, hil, rfl, by first | rfl | simp, rfl, hM4.tail, by omega, HY2⟩
      · have hii : ¬ (i : Int) < (L.length : Int) := by omega
        have hcat : ¬ 9223372036854775807 < u.size + 1 := by omega
        go_wp2_with fail
        go_ret2
        rw [HR.out]
        refine ⟨ret_two (congrArg Value.string ?_) rfl, by first | exact hM.below0 | (subst hg1; exact hM.below0)⟩
        apply eq_of_tl
        rw [tl_app, HU.out, List.take_of_length_le (by omega), tl_bs, ← HST.out]
end Go.Proofs.YtmdjhakamapngaaDoor
