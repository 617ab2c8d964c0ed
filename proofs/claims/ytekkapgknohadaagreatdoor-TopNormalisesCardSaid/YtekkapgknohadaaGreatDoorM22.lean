/- The text of a policy, in plain words: nodes, trees. No program in sight. -/
import Derived.Test.YtekkapgknohadaaGreatDoorM21
import Derived.Lib.ItoaLen
set_option linter.unusedVariables false
namespace Go.Proofs.YtekkapgknohadaaGreatDoor.Pa
open Lx (Tok)
set_option linter.unusedSimpArgs false
def commas : List Tx → Tx
 | [] => []
 | [t] => t
 | t :: u :: r => t ++ ([44, 32] ++ commas (u :: r))
def sgn (k : Int) : Tx := cmps.getD k.toNat []
def nodeText (kind num : Int) (name attr : Tx) (l : List Tx) : Tx :=
 if kind = 0 then kTrue
 else if kind = 1 then kFalse
 else if kind = 2 then [110, 111, 116, 32] ++ l.getD 0 []
 else if kind = 3 then [97, 108, 108, 40] ++ commas l ++ [41]
 else if kind = 4 then [97, 110, 121, 40] ++ commas l ++ [41]
 else if kind = 5 then [97, 116, 108, 101, 97, 115, 116, 32] ++ Lib.itoa num ++ [40] ++ commas l ++ [41]
 else if kind = 6 then l.getD 0 [] ++ [32] ++ sgn num ++ [32] ++ l.getD 1 []
 else if kind = 7 then l.getD 0 [] ++ [32, 98, 101, 116, 119, 101, 101, 110, 32] ++ l.getD 1 [] ++ [32, 97, 110, 100, 32] ++ l.getD 2 []
 else if kind = 8 then l.getD 0 [] ++ [32, 105, 110, 32, 123] ++ commas l.tail ++ [125]
 else if kind = 9 then name ++ [46] ++ attr
 else if kind = 10 then Lib.itoa num
 else [39] ++ name ++ [39]
inductive Pc where
 | tok (k : Nat) (t : Tx)
 | sp (c : UInt8)
def Pc.txt : Pc → Tx
 | .tok _ t => t
 | .sp c => [c]
def flat (l : List Pc) : Tx := l.flatMap Pc.txt
def toks : List Pc → List (Nat × Tx)
 | [] => []
 | .tok k t :: l => (k, t) :: toks l
 | .sp _ :: l => toks l
theorem flat_app (l m : List Pc) : flat (l ++ m) = flat l ++ flat m := by simp [flat]
theorem flat_cons (p : Pc) (l : List Pc) : flat (p :: l) = p.txt ++ flat l := by simp [flat]
theorem za4 (l m : List Pc) : toks (l ++ m) = toks l ++ toks m := by
 induction l with
 | nil => rfl
 | cons p l ih => cases p <;> simp [toks, ih]
def Stop (k : Nat) (t : Tx) (r : Tx) : Prop := Lx.tk (t ++ r) = .inr (k, t.length) ∧ ¬ (k = 1 ∧ Lx.luAt r = true)
def Okk : List Pc → Prop
 | [] => True
 | .tok k t :: l => Stop k t (flat l) ∧ t ≠ [] ∧ Lx.sk false (t ++ flat l) = 0 ∧ Okk l
 | .sp c :: l => Lx.isSp c = true ∧ Okk l
theorem okk_sc : ∀ {l : List Pc}, Okk l → ∀ a, ∃ ts, Lx.Sc a (flat l) (ts ++ [⟨3, [], a + (flat l).length⟩]) ∧ ts.map Lx.kt = toks l
 | [], _, a => ⟨[], Lx.Sc.done a [] rfl, rfl⟩
 | .sp c :: l, h, a => by
  obtain ⟨ts, h1, h2⟩ := okk_sc (l := l) h.2 (a + 1)
  refine ⟨ts, ?_, h2⟩
  have h3 := Lx.Sc.space h.1 h1
  rw [flat_cons]
  show Lx.Sc a (c :: flat l) _
  rw [show a + ((Pc.sp c).txt ++ flat l).length = a + 1 + (flat l).length by simp [Pc.txt]; omega]
  exact h3
 | .tok k t :: l, h, a => by
  obtain ⟨⟨s1, s2⟩, hne, hsk, hl⟩ := h
  obtain ⟨ts, h1, h2⟩ := okk_sc (l := l) hl (a + t.length)
  refine ⟨⟨k, t, a⟩ :: ts, ?_, by rw [List.map_cons, h2]; rfl⟩
  have h3 := Lx.Sc.step a (t ++ flat l) k t.length (ts ++ [⟨3, [], a + t.length + (flat l).length⟩]) (by rw [hsk]; exact s1) (by rw [hsk, List.drop_zero, List.drop_left]; exact s2) (by rw [hsk, List.drop_zero, List.drop_left]; exact h1)
  rw [hsk, List.drop_zero, List.take_left, Nat.add_zero] at h3
  rw [flat_cons]
  show Lx.Sc a (t ++ flat l) _
  rw [show a + ((Pc.tok k t).txt ++ flat l).length = a + t.length + (flat l).length by rw [List.length_append]; show a + (t.length + _) = _; omega]
  exact h3
def Hd (p : UInt8 → Bool) : Tx → Prop
 | [] => True
 | c :: _ => p c = true
theorem sk0 {c : UInt8} {m : Tx} (h1 : Lx.isSp c = false) (h2 : (c == 35) = false) : Lx.sk false (c :: m) = 0 := Lx.sk_stop h1 h2
theorem sp_hd0 {p : UInt8 → Bool} : ∀ {r : Tx}, Hd (fun c => !p c) r → Lx.sp p r = 0
 | [], _ => rfl
 | c :: m, h => Lx.sp_stop (by
   have : (!p c) = true := h
   simpa using this)
theorem sp_full {p : UInt8 → Bool} {t r : Tx} (h : ∀ c ∈ t, p c = true) (hr : Hd (fun c => !p c) r) : Lx.sp p (t ++ r) = t.length := by
 rw [Lx.sp_app_all (sp_every t h), sp_hd0 hr]; rfl
theorem stop_name {c : UInt8} {m r : Tx} (h1 : Lx.isLet c = true) (h2 : ∀ x ∈ m, Lx.isNm x = true) (h3 : m.length < 32) (hr : Hd (fun c => !Lx.isNm c) r) : Stop (if Lx.kw (c :: m) then 2 else 0) (c :: m) r := by
 have hc : Lx.isNm c = true := by unfold Lx.isNm; rw [h1]; rfl
 have hs : Lx.sp Lx.isNm (c :: m ++ r) = (c :: m).length := sp_full (fun x hx => by
  rcases List.mem_cons.1 hx with rfl | hx
  ·exact hc
  ·exact h2 x hx) hr
 refine ⟨?_, ?_⟩
 ·show Lx.tk (c :: (m ++ r)) = _
  rw [Lx.tk, if_pos h1]
  show Lx.tkName (c :: m ++ r) = _
  unfold Lx.tkName
  rw [hs, if_neg (by rw [List.length_cons]; omega), List.take_left]
 ·rintro ⟨h, -⟩
  split at h <;> cases h
theorem zc2 {c : UInt8} {r : Tx} (h : Lx.one c = true) (h1 : Lx.isLet c = false) (h2 : (c == 39) = false) (h3 : (c == 45) = false) (h4 : Lx.isDig c = false) (h5 : (c == 33 || c == 60 || c == 62) = false) : Stop 2 [c] r := by
 have hsg : Lx.sg ([c] ++ r) = 1 := by
  cases r with
  | nil => show (if Lx.one c then 1 else 0) = 1; rw [if_pos h]
  | cons d q =>
   show (if Lx.two c d then 2 else if Lx.one c then 1 else 0) = 1
   rw [if_neg (by unfold Lx.two; rw [h5]; simp), if_pos h]
 refine ⟨?_, by rintro ⟨h, -⟩; cases h⟩
 show Lx.tk (c :: r) = _
 rw [Lx.tk, if_neg (by rw [h1]; decide), if_neg (by rw [h2]; decide), if_neg (by rw [h3]; decide), if_pos (Lx.sp_stop h4), Lx.tkSign]
 rw [show Lx.sg (c :: r) = 1 from hsg]; rfl
theorem tk_itoa (n : Int) (h1 : -2147483648 ≤ n) (h2 : n ≤ 2147483647) {r : Tx} (hr : Hd (fun c => !Lx.isDig c) r) : Lx.tk (Lib.itoa n ++ r) = .inr (1, (Lib.itoa n).length) := by
 have hsp : ∀ u, Lx.sp Lx.isDig (Lib.decDigits u ++ r) = (Lib.decDigits u).length := fun u => sp_full (decd u).1 hr
 unfold Lib.itoa
 split
 ·obtain ⟨h4, h5, h6⟩ := decd n.natAbs
  have h7 : (Lib.decDigits n.natAbs).length ≠ 0 := fun h => h6 (List.eq_nil_of_length_eq_zero h)
  rw [List.cons_append, Lx.tk, if_neg (by decide), if_neg (by decide), if_pos (by decide), hsp, if_neg h7, List.take_left, h5, if_pos (by omega)]; rfl
 ·obtain ⟨h4, h5, h6⟩ := decd n.toNat
  have hs := hsp n.toNat
  cases hd : Lib.decDigits n.toNat with
  | nil => exact absurd hd h6
  | cons c m =>
   rw [hd] at hs h4 h5
   obtain ⟨e1, e2, e3, -⟩ := dig_not (h4 c (List.mem_cons_self ..))
   rw [List.cons_append] at hs ⊢
   rw [Lx.tk, e1, e2, e3, hs]
   simp only [Bool.false_eq_true, if_false, List.length_cons, Nat.succ_ne_zero]
   rw [← List.cons_append, show m.length + 1 = (c :: m).length from rfl, List.take_left, h5, if_pos (by omega)]
def sepc (c : UInt8) : Bool := c == 32 || c == 10 || c == 40 || c == 41 || c == 44 || c == 46 || c == 58 || c == 123 || c == 125
theorem sepc_not {c : UInt8} (h : sepc c = true) : Lx.isNm c = false ∧ Lx.isDig c = false ∧ Lx.isLU c = false := by
 have h0 : ∀ c : UInt8, sepc c = true → Lx.isNm c = false ∧ Lx.isDig c = false ∧ Lx.isLU c = false := by
  rintro ⟨v⟩; revert v; decide +kernel
 exact h0 c h
theorem sep_nm {r : Tx} (h : Hd sepc r) : Hd (fun c => !Lx.isNm c) r := by
 cases r with
 | nil => trivial
 | cons c q => show (!Lx.isNm c) = true; rw [(sepc_not h).1]; rfl
theorem sep_dig {r : Tx} (h : Hd sepc r) : Hd (fun c => !Lx.isDig c) r := by
 cases r with
 | nil => trivial
 | cons c q => show (!Lx.isDig c) = true; rw [(sepc_not h).2.1]; rfl
theorem sep_lu {r : Tx} (h : Hd sepc r) : Lx.luAt r = false := by
 cases r with
 | nil => rfl
 | cons c q => exact (sepc_not h).2.2
theorem stop_num (n : Int) (h1 : -2147483648 ≤ n) (h2 : n ≤ 2147483647) {r : Tx} (hr : Hd sepc r) : Stop 1 (Lib.itoa n) r :=
 ⟨tk_itoa n h1 h2 (sep_dig hr), by rintro ⟨-, h⟩; rw [sep_lu hr] at h; cases h⟩
theorem stop_word {w r : Tx} (h1 : ∀ c ∈ w, Lx.isWd c = true) (h2 : 0 < w.length) (h3 : w.length ≤ 32) : Stop 0 (39 :: (w ++ [39])) r := by
 have hs : Lx.sp Lx.isWd (w ++ ([39] ++ r)) = w.length := sp_full h1 (show (!Lx.isWd 39) = true by decide)
 refine ⟨?_, by rintro ⟨h, -⟩; cases h⟩
 show Lx.tk (39 :: ((w ++ [39]) ++ r)) = _
 rw [Lx.tk, if_neg (by decide), if_pos (by decide), List.append_assoc]
 unfold Lx.tkWord
 rw [hs, if_neg (by omega), if_neg]
 ·rw [List.length_cons, List.length_append]; rfl
 ·rintro (h | h)
  ·omega
  ·exact h (by rw [List.getElem?_append_right (Nat.le_refl _)]; simp)
def OkR (l : List Pc) : Prop := ∀ m, Okk m → Hd sepc (flat m) → Okk (l ++ m)
def HdP (m : List Pc) : Prop := ∃ c q, flat m = c :: q ∧ sepc c = true
theorem HdP.app {m : List Pc} (h : HdP m) (n : List Pc) : Hd sepc (flat (m ++ n)) := by
 obtain ⟨c, q, e, hc⟩ := h
 rw [flat_app, e]; exact hc
theorem OkR.app {l m : List Pc} (h : OkR l) (k : OkR m) (hh : HdP m) : OkR (l ++ m) := fun n hn hs => by
 rw [List.append_assoc]
 exact h _ (k n hn hs) (hh.app n)
theorem OkR.sp {c : UInt8} {l : List Pc} (hc : Lx.isSp c = true) (h : OkR l) : OkR (.sp c :: l) := fun n hn hs => ⟨hc, h n hn hs⟩
theorem OkR.nil : OkR [] := fun n hn _ => hn
theorem okr_tok {k : Nat} {t : Tx} (h : ∀ r, Hd sepc r → Stop k t r) (hne : ∃ c m, t = c :: m ∧ Lx.isSp c = false ∧ (c == 35) = false) : OkR [.tok k t] := fun n hn hs => by
 obtain ⟨c, m, rfl, h1, h2⟩ := hne
 exact ⟨h _ hs, by simp, sk0 h1 h2, hn⟩
theorem zco {c : UInt8} {l : List Pc} (hs : ∀ r, Stop 2 [c] r) (h1 : Lx.isSp c = false) (h2 : (c == 35) = false) (h : OkR l) : OkR (.tok 2 [c] :: l) := fun n hn hh => ⟨hs _, by simp, sk0 h1 h2, h n hn hh⟩
theorem let_not {c : UInt8} (h : Lx.isLet c = true) : Lx.isSp c = false ∧ (c == 35) = false := by
 have h0 : ∀ c : UInt8, Lx.isLet c = true → Lx.isSp c = false ∧ (c == 35) = false := by
  rintro ⟨v⟩; revert v; decide +kernel
 exact h0 c h
theorem dig_sp {c : UInt8} (h : c ∈ ([45, 48, 49, 50, 51, 52, 53, 54, 55, 56, 57] : List UInt8)) : Lx.isSp c = false ∧ (c == 35) = false := by
 simp only [List.mem_cons, List.not_mem_nil, or_false] at h
 rcases h with rfl | rfl | rfl | rfl | rfl | rfl | rfl | rfl | rfl | rfl | rfl <;> decide
theorem zcp {t : Tx} (h : NameT t) : OkR [.tok 0 t] := by
 obtain ⟨ha, ⟨c, m, rfl, hc⟩, hl, hk⟩ := h
 refine okr_tok (fun r hr => ?_) ⟨c, m, rfl, (let_not hc).1, (let_not hc).2⟩
 have := stop_name hc (fun x hx => ha x (List.mem_cons_of_mem _ hx)) (by rw [List.length_cons] at hl; omega) (sep_nm hr)
 rw [hk] at this
 exact this
theorem zbw {c : UInt8} {m : Tx} (hc : Lx.isLet c = true) (ha : ∀ x ∈ m, Lx.isNm x = true) (hl : m.length < 32) (hk : Lx.kw (c :: m) = true) : OkR [.tok 2 (c :: m)] := by
 refine okr_tok (fun r hr => ?_) ⟨c, m, rfl, (let_not hc).1, (let_not hc).2⟩
 have := stop_name hc ha hl (sep_nm hr)
 rw [hk] at this
 exact this
theorem okr_num (n : Int) (h1 : -2147483648 ≤ n) (h2 : n ≤ 2147483647) : OkR [.tok 1 (Lib.itoa n)] := by
 obtain ⟨c, m, e, hc⟩ := itoa_in n
 exact okr_tok (fun r hr => stop_num n h1 h2 hr) ⟨c, m, e, (dig_sp hc).1, (dig_sp hc).2⟩
theorem okr_word {w : Tx} (h1 : ∀ c ∈ w, Lx.isWd c = true) (h2 : 0 < w.length) (h3 : w.length ≤ 32) : OkR [.tok 0 (39 :: (w ++ [39]))] :=
 okr_tok (fun r _ => stop_word h1 h2 h3) ⟨39, _, rfl, by decide, by decide⟩
theorem stop_open (r : Tx) : Stop 2 sOpen r := zc2 (by decide) (by decide) (by decide) (by decide) (by decide) (by decide)
theorem stop_close (r : Tx) : Stop 2 sClose r := zc2 (by decide) (by decide) (by decide) (by decide) (by decide) (by decide)
theorem stop_bra (r : Tx) : Stop 2 sBra r := zc2 (by decide) (by decide) (by decide) (by decide) (by decide) (by decide)
theorem stop_ket (r : Tx) : Stop 2 sKet r := zc2 (by decide) (by decide) (by decide) (by decide) (by decide) (by decide)
theorem stop_dot (r : Tx) : Stop 2 sDot r := zc2 (by decide) (by decide) (by decide) (by decide) (by decide) (by decide)
theorem stop_comma (r : Tx) : Stop 2 sComma r := zc2 (by decide) (by decide) (by decide) (by decide) (by decide) (by decide)
theorem stop_colon (r : Tx) : Stop 2 sColon r := zc2 (by decide) (by decide) (by decide) (by decide) (by decide) (by decide)
theorem okr_sgn {k : Nat} (hk : k < 6) {l : List Pc} (h : OkR l) : OkR (.tok 2 (cmps.getD k []) :: .sp 32 :: l) := fun n hn hh => by
 have h1 : ∀ r, Stop 2 (cmps.getD k []) (32 :: r) := fun r => by
  rcases (by omega : k = 0 ∨ k = 1 ∨ k = 2 ∨ k = 3 ∨ k = 4 ∨ k = 5) with rfl | rfl | rfl | rfl | rfl | rfl <;> exact ⟨by kernel_rfl, by rintro ⟨h, -⟩; cases h⟩
 have h2 : ∃ c m, cmps.getD k [] = c :: m ∧ Lx.isSp c = false ∧ (c == 35) = false := by
  rcases (by omega : k = 0 ∨ k = 1 ∨ k = 2 ∨ k = 3 ∨ k = 4 ∨ k = 5) with rfl | rfl | rfl | rfl | rfl | rfl <;> exact ⟨_, _, rfl, by decide, by decide⟩
 obtain ⟨c, m, e, e1, e2⟩ := h2
 have h3 := h1 (flat (l ++ n))
 rw [e] at h3 ⊢
 exact ⟨h3, by simp, sk0 e1 e2, by decide, h n hn hh⟩
def commasP : List (List Pc) → List Pc
 | [] => []
 | [t] => t
 | t :: u :: r => t ++ (.tok 2 sComma :: .sp 32 :: commasP (u :: r))
theorem commas_flat : ∀ l : List (List Pc), flat (commasP l) = commas (l.map flat)
 | [] => rfl
 | [t] => rfl
 | t :: u :: r => by
  rw [commasP, flat_app, flat_cons, flat_cons, commas_flat (u :: r)]
  rfl
theorem zbp : ∀ {l : List (List Pc)}, (∀ x ∈ l, OkR x) → OkR (commasP l)
 | [], _ => OkR.nil
 | [t], h => h t (by simp)
 | t :: u :: r, h => by
  rw [commasP]
  exact (h t (by simp)).app (zco (fun r => stop_comma r) (by decide) (by decide) (OkR.sp (by decide) (zbp fun x hx => h x (List.mem_cons_of_mem _ hx)))) ⟨44, _, rfl, by decide⟩
def nodeP (kind num : Int) (name attr : Tx) (l : List (List Pc)) : List Pc :=
 if kind = 0 then [.tok 2 kTrue]
 else if kind = 1 then [.tok 2 kFalse]
 else if kind = 2 then .tok 2 kNot :: .sp 32 :: l.getD 0 []
 else if kind = 3 then .tok 2 kAll :: .tok 2 sOpen :: (commasP l ++ [.tok 2 sClose])
 else if kind = 4 then .tok 2 kAny :: .tok 2 sOpen :: (commasP l ++ [.tok 2 sClose])
 else if kind = 5 then .tok 2 kAtleast :: .sp 32 :: .tok 1 (Lib.itoa num) :: .tok 2 sOpen :: (commasP l ++ [.tok 2 sClose])
 else if kind = 6 then l.getD 0 [] ++ (.sp 32 :: .tok 2 (sgn num) :: .sp 32 :: l.getD 1 [])
 else if kind = 7 then l.getD 0 [] ++ (.sp 32 :: .tok 2 kBetween :: .sp 32 :: (l.getD 1 [] ++ (.sp 32 :: .tok 2 kAnd :: .sp 32 :: l.getD 2 [])))
 else if kind = 8 then l.getD 0 [] ++ (.sp 32 :: .tok 2 kIn :: .sp 32 :: .tok 2 sBra :: (commasP l.tail ++ [.tok 2 sKet]))
 else if kind = 9 then [.tok 0 name, .tok 2 sDot, .tok 0 attr]
 else if kind = 10 then [.tok 1 (Lib.itoa num)]
 else [.tok 0 (39 :: (name ++ [39]))]
theorem getD_flat (l : List (List Pc)) (i : Nat) : (l.map flat).getD i [] = flat (l.getD i []) := by
 rw [List.getD_eq_getElem?_getD, List.getD_eq_getElem?_getD, List.getElem?_map]
 cases l[i]? <;> rfl
theorem nodeP_flat (kind num : Int) (name attr : Tx) (l : List (List Pc)) : flat (nodeP kind num name attr l) = nodeText kind num name attr (l.map flat) := by
 unfold nodeP nodeText
 have htl : (l.map flat).tail = l.tail.map flat := by cases l <;> rfl
 simp only [getD_flat, htl, ← commas_flat]
 by_cases h0 : kind = 0
 ·rw [if_pos h0, if_pos h0]; simp [flat_app, flat_cons, Pc.txt, kTrue, kFalse, kNot, kAll, kAny, kAtleast, kBetween, kAnd, kIn, sOpen, sClose, sBra, sKet, sDot, flat]
 rw [if_neg h0, if_neg h0]
 by_cases h1 : kind = 1
 ·rw [if_pos h1, if_pos h1]; simp [flat_app, flat_cons, Pc.txt, kTrue, kFalse, kNot, kAll, kAny, kAtleast, kBetween, kAnd, kIn, sOpen, sClose, sBra, sKet, sDot, flat]
 rw [if_neg h1, if_neg h1]
 by_cases h2 : kind = 2
 ·rw [if_pos h2, if_pos h2]; simp [flat_app, flat_cons, Pc.txt, kTrue, kFalse, kNot, kAll, kAny, kAtleast, kBetween, kAnd, kIn, sOpen, sClose, sBra, sKet, sDot, flat]
 rw [if_neg h2, if_neg h2]
 by_cases h3 : kind = 3
 ·rw [if_pos h3, if_pos h3]; simp [flat_app, flat_cons, Pc.txt, kTrue, kFalse, kNot, kAll, kAny, kAtleast, kBetween, kAnd, kIn, sOpen, sClose, sBra, sKet, sDot, flat]
 rw [if_neg h3, if_neg h3]
 by_cases h4 : kind = 4
 ·rw [if_pos h4, if_pos h4]; simp [flat_app, flat_cons, Pc.txt, kTrue, kFalse, kNot, kAll, kAny, kAtleast, kBetween, kAnd, kIn, sOpen, sClose, sBra, sKet, sDot, flat]
 rw [if_neg h4, if_neg h4]
 by_cases h5 : kind = 5
 ·rw [if_pos h5, if_pos h5]; simp [flat_app, flat_cons, Pc.txt, kTrue, kFalse, kNot, kAll, kAny, kAtleast, kBetween, kAnd, kIn, sOpen, sClose, sBra, sKet, sDot, flat]
 rw [if_neg h5, if_neg h5]
 by_cases h6 : kind = 6
 ·rw [if_pos h6, if_pos h6]; simp [flat_app, flat_cons, Pc.txt, kTrue, kFalse, kNot, kAll, kAny, kAtleast, kBetween, kAnd, kIn, sOpen, sClose, sBra, sKet, sDot, flat]
 rw [if_neg h6, if_neg h6]
 by_cases h7 : kind = 7
 ·rw [if_pos h7, if_pos h7]; simp [flat_app, flat_cons, Pc.txt, kTrue, kFalse, kNot, kAll, kAny, kAtleast, kBetween, kAnd, kIn, sOpen, sClose, sBra, sKet, sDot, flat]
 rw [if_neg h7, if_neg h7]
 by_cases h8 : kind = 8
 ·rw [if_pos h8, if_pos h8]; simp [flat_app, flat_cons, Pc.txt, kTrue, kFalse, kNot, kAll, kAny, kAtleast, kBetween, kAnd, kIn, sOpen, sClose, sBra, sKet, sDot, flat]
 rw [if_neg h8, if_neg h8]
 by_cases h9 : kind = 9
 ·rw [if_pos h9, if_pos h9]; simp [flat_app, flat_cons, Pc.txt, kTrue, kFalse, kNot, kAll, kAny, kAtleast, kBetween, kAnd, kIn, sOpen, sClose, sBra, sKet, sDot, flat]
 rw [if_neg h9, if_neg h9]
 by_cases h10 : kind = 10
 ·rw [if_pos h10, if_pos h10]; simp [flat_app, flat_cons, Pc.txt, kTrue, kFalse, kNot, kAll, kAny, kAtleast, kBetween, kAnd, kIn, sOpen, sClose, sBra, sKet, sDot, flat]
 rw [if_neg h10, if_neg h10]
 simp [flat, Pc.txt]
open Lx (Tok)
def textN (ns : List Nk) : Nat → Int → Tx
 | 0, _ => []
 | f + 1, a => match ns[a.toNat]? with
  | none => []
  | some n => nodeText n.kind n.num (tl n.name) (tl n.attr) (n.kids.map (textN ns f))
def piecesN (ns : List Nk) : Nat → Int → List Pc
 | 0, _ => []
 | f + 1, a => match ns[a.toNat]? with
  | none => []
  | some n => nodeP n.kind n.num (tl n.name) (tl n.attr) (n.kids.map (piecesN ns f))
def treeN (ns : List Nk) : Nat → Int → F
 | 0, _ => .nil
 | f + 1, a => match ns[a.toNat]? with
  | none => .nil
  | some n => .cons ⟨n.kind.toNat, n.num, tl n.name, tl n.attr, 0⟩ (F.cat (n.kids.map (treeN ns f))) .nil
theorem textN_in {ns : List Nk} {f : Nat} {a : Int} {n : Nk} (h : ns[a.toNat]? = some n) : textN ns (f + 1) a = nodeText n.kind n.num (tl n.name) (tl n.attr) (n.kids.map (textN ns f)) := by rw [textN, h]
theorem piecesN_in {ns : List Nk} {f : Nat} {a : Int} {n : Nk} (h : ns[a.toNat]? = some n) : piecesN ns (f + 1) a = nodeP n.kind n.num (tl n.name) (tl n.attr) (n.kids.map (piecesN ns f)) := by rw [piecesN, h]
theorem treeN_in {ns : List Nk} {f : Nat} {a : Int} {n : Nk} (h : ns[a.toNat]? = some n) : treeN ns (f + 1) a = .cons ⟨n.kind.toNat, n.num, tl n.name, tl n.attr, 0⟩ (F.cat (n.kids.map (treeN ns f))) .nil := by rw [treeN, h]
theorem pieces_text (ns : List Nk) : ∀ f a, flat (piecesN ns f a) = textN ns f a
 | 0, a => rfl
 | f + 1, a => by
  cases h : ns[a.toNat]? with
  | none => rw [piecesN, textN, h]; rfl
  | some n =>
   rw [piecesN_in h, textN_in h, nodeP_flat, List.map_map]
   congr 1
   exact List.map_congr_left fun k _ => pieces_text ns f k
def VN (ns : List Nk) : Nat → Bool → Int → Prop
 | 0, _, _ => False
 | f + 1, c, a => ∃ n, ns[a.toNat]? = some n ∧ formP n c = 0 ∧ ∀ k ∈ n.kids, VN ns f (decide (n.kind ≤ 5)) k
theorem visit_vn (ns : List Nk) : ∀ (f : Nat) (a : Int) (c : Bool) (S : List Int), (visitP ns f a c S).1 = 0 → VN ns f c a
 | 0, a, c, S, h => by
  by_cases hb : a < 0 ∨ (ns.length : Int) ≤ a ∨ a ∈ S
  ·rw [zau hb] at h; cases h
  ·rw [zb6 hb] at h; cases h
 | f + 1, a, c, S, h => by
  by_cases hb : a < 0 ∨ (ns.length : Int) ≤ a ∨ a ∈ S
  ·rw [zau hb] at h; cases h
  ·obtain ⟨n, hn⟩ : ∃ n, ns[a.toNat]? = some n := ⟨_, List.getElem?_eq_getElem (by omega)⟩
   rw [zct hb hn] at h
   split at h
   ·rename_i h1; exact absurd h h1
   ·rename_i h1
    refine ⟨n, hn, Decidable.not_not.1 h1, fun k hk => ?_⟩
    obtain ⟨T, hT⟩ := loopP_ok _ _ h k hk
    exact visit_vn ns f k _ T hT
theorem tree_vn {d : Po} (h : checkP d = 0) : VN d.nodes 32 true d.root := by
 refine visit_vn d.nodes 32 d.root true [] ?_
 have h := za7 h
 unfold treeP at h
 split at h
 ·rename_i h1; exact absurd h h1
 ·rename_i h1; omega
theorem ltN_is (c : UInt8) : ltN c.toNat = Lx.isLet c := by
 obtain ⟨v⟩ := c
 revert v
 decide +kernel
theorem nmN_is (c : UInt8) : nmN c.toNat = Lx.isNm c := by
 obtain ⟨v⟩ := c
 revert v
 decide +kernel
theorem wdN_is (c : UInt8) : wdN c.toNat = Lx.isWd c := by
 obtain ⟨v⟩ := c
 revert v
 decide +kernel
theorem name_t {s : ByteArray} (h : nameP s = true) : NameT (tl s) := by
 unfold nameP at h
 split at h
 ·rename_i h0
  simp only [Bool.and_eq_true, decide_eq_true_eq, Bool.not_eq_true'] at h
  obtain ⟨⟨⟨h1, h2⟩, h3⟩, h4⟩ := h
  refine ⟨fun c hc => ?_, ?_, by rw [zab]; exact h1, h4⟩
  ·have := List.all_eq_true.1 h3 c hc
   rw [← nmN_is]; exact this
  ·have h5 : 0 < (tl s).length := by rw [zab]; exact h0
   cases hs : tl s with
   | nil => rw [hs] at h5; simp at h5
   | cons c m =>
    refine ⟨c, m, rfl, ?_⟩
    have h6 := zar s 0 h0
    rw [← ltN_is]
    have h7 : (tl s)[0]'(by rw [zab]; exact h0) = c := by simp only [hs, List.getElem_cons_zero]
    rw [← h7, h6]; exact h2
 ·cases h
theorem word_t {s : ByteArray} (h : wordP s = true) : (∀ c ∈ tl s, Lx.isWd c = true) ∧ 0 < (tl s).length ∧ (tl s).length ≤ 32 := by
 unfold wordP at h
 simp only [Bool.and_eq_true, decide_eq_true_eq] at h
 obtain ⟨⟨h1, h2⟩, h3⟩ := h
 refine ⟨fun c hc => ?_, by rw [zab]; exact h1, by rw [zab]; exact h2⟩
 have := List.all_eq_true.1 h3 c hc
 rw [← wdN_is]; exact this
structure Fm (n : Nk) (c : Bool) : Prop where
 lo : 0 ≤ n.kind
 hi : n.kind < 12
 ctx : decide (n.kind ≤ 8) = c
 kids : kidsP n.kind n.kids.length = true
 texts : textsP n = true
 low : lowP n ≤ n.num
 high : n.num ≤ highP n
theorem form_fm {n : Nk} {c : Bool} (h : formP n c = 0) : Fm n c := by
 unfold formP at h
 split at h
 ·cases h
 ·rename_i h1
  split at h
  ·cases h
  ·rename_i h2
   simp only [Bool.not_eq_false] at h1
   unfold shapeP at h1
   simp only [Bool.and_eq_true, decide_eq_true_eq, beq_iff_eq] at h1
   obtain ⟨⟨⟨⟨a, b⟩, e⟩, k⟩, t⟩ := h1
   exact ⟨a, b, e, k, t, by omega, by omega⟩
theorem zaf {ts : List Tok} {k : Nat} {t : Tx} {l : List (Nat × Tx)} (h : ts.map Lx.kt = (k, t) :: l) : ∃ c us, ts = c :: us ∧ c.kind = k ∧ c.text = t ∧ us.map Lx.kt = l := by
 cases ts with
 | nil => cases h
 | cons c us =>
  rw [List.map_cons] at h
  injection h with h1 h2
  have e1 : c.kind = k := congrArg Prod.fst h1
  have e2 : c.text = t := congrArg Prod.snd h1
  exact ⟨c, us, rfl, e1, e2, h2⟩
theorem zbl {ts : List Tok} (h : ts.map Lx.kt = []) : ts = [] := List.map_eq_nil_iff.1 h
theorem zcc {ts : List Tok} {l m : List (Nat × Tx)} (h : ts.map Lx.kt = l ++ m) : ∃ us vs, ts = us ++ vs ∧ us.map Lx.kt = l ∧ vs.map Lx.kt = m := List.map_eq_append_iff.1 h
theorem is_t {c : Tok} {s : Tx} (h1 : c.kind = 2) (h2 : c.text = s) : isT s [c] = true := by simp [isT, h1, h2]
theorem is_m {c : Tok} (h1 : c.kind = 1) : isM [c] = true := by simp [isM, h1]
theorem is_n {c : Tok} (h1 : c.kind = 0) (h2 : NameT c.text) : isN [c] = true := by
 obtain ⟨x, m, e, hx⟩ := h2.fst
 have hne := isLet_ne hx
 simp [isN, isW, h1, e, hne]
theorem is_w {c : Tok} {w : Tx} (h1 : c.kind = 0) (h2 : c.text = 39 :: (w ++ [39])) : isW [c] = true ∧ c.text.tail.dropLast = w := by
 refine ⟨by simp [isW, h1, h2], ?_⟩
 rw [h2]; simp
def Dw (l : List (Nat × Tx)) (t : F) : Prop := ∀ ts : List Tok, ts.map Lx.kt = l → ∃ n, Vl ts n ∧ (leaf n).er = t
def Dv (b : Bool) (l : List (Nat × Tx)) (t : F) : Prop := ∀ ts : List Tok, ts.map Lx.kt = l → ∃ g, Ex b ts g ∧ g.er = t
def Dws (l : List (Nat × Tx)) (t : F) : Prop := ∀ ts : List Tok, ts.map Lx.kt = l → ∃ g, Vs ts g ∧ g.er = t
theorem dv_commas {p : Int → List Pc} {t : Int → F} : ∀ {ks : List Int}, ks ≠ [] → (∀ k ∈ ks, Dv false (toks (p k)) (t k)) → Dv true (toks (commasP (ks.map p))) (F.cat (ks.map t))
 | [], h, _ => (h rfl).elim
 | [k], _, h => by
  intro ts hts
  obtain ⟨g, hg, e⟩ := h k (by simp) ts hts
  exact ⟨g, Ex.one ts g hg, by rw [List.map_cons, List.map_nil, F.cat, F.cat, F.app_nil]; exact e⟩
 | k :: j :: r, _, h => by
  intro ts hts
  rw [List.map_cons, List.map_cons, commasP, za4] at hts
  obtain ⟨us, vs, rfl, e1, e2⟩ := zcc hts
  obtain ⟨c, ws, rfl, c1, c2, e3⟩ := zaf e2
  obtain ⟨g, hg, e⟩ := h k (by simp) us e1
  obtain ⟨g2, hg2, e4⟩ := dv_commas (ks := j :: r) (by simp) (fun x hx => h x (List.mem_cons_of_mem _ hx)) ws e3
  exact ⟨g.app g2, Ex.more us g c ws g2 hg (is_t c1 c2) hg2, by rw [F.er_app, e, e4]; rfl⟩
theorem dws_commas {p : Int → List Pc} {t : Int → F} : ∀ {ks : List Int}, ks ≠ [] → (∀ k ∈ ks, Dw (toks (p k)) (t k)) → Dws (toks (commasP (ks.map p))) (F.cat (ks.map t))
 | [], h, _ => (h rfl).elim
 | [k], _, h => by
  intro ts hts
  obtain ⟨n, hn, e⟩ := h k (by simp) ts hts
  exact ⟨leaf n, Vs.one ts n hn, by rw [List.map_cons, List.map_nil, F.cat, F.cat, F.app_nil]; exact e⟩
 | k :: j :: r, _, h => by
  intro ts hts
  rw [List.map_cons, List.map_cons, commasP, za4] at hts
  obtain ⟨us, vs, rfl, e1, e2⟩ := zcc hts
  obtain ⟨c, ws, rfl, c1, c2, e3⟩ := zaf e2
  obtain ⟨n, hn, e⟩ := h k (by simp) us e1
  obtain ⟨g2, hg2, e4⟩ := dws_commas (ks := j :: r) (by simp) (fun x hx => h x (List.mem_cons_of_mem _ hx)) ws e3
  exact ⟨(leaf n).app g2, Vs.more us n c ws g2 hn (is_t c1 c2) hg2, by rw [F.er_app, e, e4]; rfl⟩
theorem size0 {s : ByteArray} (h : s.size = 0) : tl s = [] := List.eq_nil_of_length_eq_zero (by rw [zab]; exact h)
theorem len1 {l : List Int} (h : l.length = 1) : ∃ a, l = [a] := List.length_eq_one_iff.1 h
theorem len2 {l : List Int} (h : l.length = 2) : ∃ a b, l = [a, b] := by
 match l, h with
 | [a, b], _ => exact ⟨a, b, rfl⟩
theorem len3 {l : List Int} (h : l.length = 3) : ∃ a b c, l = [a, b, c] := by
 match l, h with
 | [a, b, c], _ => exact ⟨a, b, c, rfl⟩
theorem len2' {l : List Int} (h : 2 ≤ l.length) : ∃ a b r, l = a :: b :: r := by
 match l, h with
 | a :: b :: r, _ => exact ⟨a, b, r, rfl⟩
theorem value_dw {n : Nk} (h : Fm n false) (p : Int → List Pc) (t : Int → F) : OkR (nodeP n.kind n.num (tl n.name) (tl n.attr) (n.kids.map p)) ∧ Dw (toks (nodeP n.kind n.num (tl n.name) (tl n.attr) (n.kids.map p))) (.cons ⟨n.kind.toNat, n.num, tl n.name, tl n.attr, 0⟩ (F.cat (n.kids.map t)) .nil) := by
 have hk : ¬ n.kind ≤ 8 := of_decide_eq_false h.ctx
 have h12 := h.hi
 have hkd : n.kids = [] := by
  have := h.kids
  unfold kidsP at this
  rw [if_pos (by omega)] at this
  exact List.eq_nil_of_length_eq_zero (of_decide_eq_true this)
 have htx := h.texts
 have hlo := h.low
 have hhi := h.high
 unfold textsP at htx
 unfold lowP at hlo
 unfold highP at hhi
 rcases (by omega : n.kind = 9 ∨ n.kind = 10 ∨ n.kind = 11) with e | e | e
 ·rw [if_pos e, Bool.and_eq_true] at htx
  have a1 := name_t htx.1
  have a2 := name_t htx.2
  have hm : n.num = 0 := by
   rw [if_neg (by omega), if_neg (by omega)] at hlo
   rw [if_neg (by omega), if_neg (by omega), if_neg (by omega)] at hhi
   omega
  rw [hkd, e, hm]
  refine ⟨?_, fun ts hts => ?_⟩
  ·show OkR ([.tok 0 (tl n.name)] ++ [.tok 2 sDot, .tok 0 (tl n.attr)])
   exact (zcp a1).app (zco (fun r => stop_dot r) (by decide) (by decide) (zcp a2)) ⟨46, _, rfl, by decide⟩
  ·obtain ⟨x, us, rfl, x1, x2, e1⟩ := zaf hts
   obtain ⟨y, vs, rfl, y1, y2, e2⟩ := zaf e1
   obtain ⟨z, ws, rfl, z1, z2, e3⟩ := zaf e2
   rw [zbl e3]
   refine ⟨_, Vl.ref x y z (is_n x1 (by rw [x2]; exact a1)) (is_t y1 y2) (is_n z1 (by rw [z2]; exact a2)), ?_⟩
   rw [← x2, ← z2]; rfl
 ·rw [if_neg (by omega), if_neg (by omega), Bool.and_eq_true] at htx
  rw [if_neg (by omega), if_pos e] at hlo
  rw [if_neg (by omega), if_neg (by omega), if_pos e] at hhi
  rw [hkd, e, size0 (of_decide_eq_true htx.1), size0 (of_decide_eq_true htx.2)]
  refine ⟨okr_num _ hlo hhi, fun ts hts => ?_⟩
  obtain ⟨x, us, rfl, x1, x2, e1⟩ := zaf hts
  rw [zbl e1]
  refine ⟨_, Vl.num x (is_m x1), ?_⟩
  rw [x2, numV_dec]; rfl
 ·rw [if_neg (by omega), if_pos e, Bool.and_eq_true] at htx
  obtain ⟨a1, a2, a3⟩ := word_t htx.1
  have hm : n.num = 0 := by
   rw [if_neg (by omega), if_neg (by omega)] at hlo
   rw [if_neg (by omega), if_neg (by omega), if_neg (by omega)] at hhi
   omega
  rw [hkd, e, hm, size0 (of_decide_eq_true htx.2)]
  refine ⟨okr_word a1 a2 a3, fun ts hts => ?_⟩
  obtain ⟨x, us, rfl, x1, x2, e1⟩ := zaf hts
  rw [zbl e1]
  obtain ⟨b1, b2⟩ := is_w x1 x2
  refine ⟨_, Vl.word x b1, ?_⟩
  rw [b2]; rfl
theorem kw_not : OkR [.tok 2 kNot] := zbw (c := 110) (m := [111, 116]) (by decide) (by decide) (by decide) (by decide)
theorem kw_all : OkR [.tok 2 kAll] := zbw (c := 97) (m := [108, 108]) (by decide) (by decide) (by decide) (by decide)
theorem kw_any : OkR [.tok 2 kAny] := zbw (c := 97) (m := [110, 121]) (by decide) (by decide) (by decide) (by decide)
theorem kw_atleast : OkR [.tok 2 kAtleast] := zbw (c := 97) (m := [116, 108, 101, 97, 115, 116]) (by decide) (by decide) (by decide) (by decide)
theorem kw_true : OkR [.tok 2 kTrue] := zbw (c := 116) (m := [114, 117, 101]) (by decide) (by decide) (by decide) (by decide)
theorem kw_false : OkR [.tok 2 kFalse] := zbw (c := 102) (m := [97, 108, 115, 101]) (by decide) (by decide) (by decide) (by decide)
theorem kw_between : OkR [.tok 2 kBetween] := zbw (c := 98) (m := [101, 116, 119, 101, 101, 110]) (by decide) (by decide) (by decide) (by decide)
theorem kw_and : OkR [.tok 2 kAnd] := zbw (c := 97) (m := [110, 100]) (by decide) (by decide) (by decide) (by decide)
theorem kw_in : OkR [.tok 2 kIn] := zbw (c := 105) (m := [110]) (by decide) (by decide) (by decide) (by decide)
theorem zbi {l : List Pc} (h : OkR l) : OkR (.sp 32 :: l) := OkR.sp (by decide) h
theorem zbn {l : List Pc} : HdP (.sp 32 :: l) := ⟨32, _, rfl, by decide⟩
theorem okr_open {l : List Pc} (h : OkR l) : OkR (.tok 2 sOpen :: l) := zco (fun r => stop_open r) (by decide) (by decide) h
theorem okr_bra {l : List Pc} (h : OkR l) : OkR (.tok 2 sBra :: l) := zco (fun r => stop_bra r) (by decide) (by decide) h
theorem okr_end {l : List Pc} (h : OkR l) : OkR (l ++ [.tok 2 sClose]) := h.app (zco (fun r => stop_close r) (by decide) (by decide) OkR.nil) ⟨41, _, rfl, by decide⟩
theorem okr_kend {l : List Pc} (h : OkR l) : OkR (l ++ [.tok 2 sKet]) := h.app (zco (fun r => stop_ket r) (by decide) (by decide) OkR.nil) ⟨125, _, rfl, by decide⟩
theorem cmp_is {c : Tok} {k : Nat} (h1 : c.kind = 2) (hk : k < 6) (h2 : c.text = cmps.getD k []) : cmpOf [c] = some k := by
 show (if (c.kind == 2) = true then cmps.findIdx? (fun s => s == c.text) else none) = some k
 rw [h1, h2]
 rcases (by omega : k = 0 ∨ k = 1 ∨ k = 2 ∨ k = 3 ∨ k = 4 ∨ k = 5) with rfl | rfl | rfl | rfl | rfl | rfl <;> rfl
theorem cond_dv {n : Nk} (h : Fm n true) (hb : n.kids.length ≤ 1000000) (p : Int → List Pc) (t : Int → F) (hp : ∀ k ∈ n.kids, OkR (p k)) (hv : n.kind ≤ 5 → ∀ k ∈ n.kids, Dv false (toks (p k)) (t k)) (hw : ¬ n.kind ≤ 5 → ∀ k ∈ n.kids, Dw (toks (p k)) (t k)) :
 OkR (nodeP n.kind n.num (tl n.name) (tl n.attr) (n.kids.map p)) ∧ Dv false (toks (nodeP n.kind n.num (tl n.name) (tl n.attr) (n.kids.map p))) (.cons ⟨n.kind.toNat, n.num, tl n.name, tl n.attr, 0⟩ (F.cat (n.kids.map t)) .nil) := by
 have hk : n.kind ≤ 8 := of_decide_eq_true h.ctx
 have h0 := h.lo
 have htx := h.texts
 have hlo := h.low
 have hhi := h.high
 have hkd := h.kids
 unfold textsP at htx
 rw [if_neg (by omega), if_neg (by omega), Bool.and_eq_true] at htx
 have t1 := size0 (of_decide_eq_true htx.1)
 have t2 := size0 (of_decide_eq_true htx.2)
 unfold lowP at hlo
 unfold highP at hhi
 unfold kidsP at hkd
 have hop : ∀ x ∈ n.kids.map p, OkR x := fun x hx => by
  obtain ⟨k, hk, rfl⟩ := List.mem_map.1 hx
  exact hp k hk
 rw [t1, t2]
 rcases (by omega : n.kind = 0 ∨ n.kind = 1 ∨ n.kind = 2 ∨ n.kind = 3 ∨ n.kind = 4 ∨ n.kind = 5 ∨ n.kind = 6 ∨ n.kind = 7 ∨ n.kind = 8) with e | e | e | e | e | e | e | e | e
 ·rw [if_pos (by omega)] at hkd
  have hkn := List.eq_nil_of_length_eq_zero (of_decide_eq_true hkd)
  have hm : n.num = 0 := by
   rw [if_neg (by omega), if_neg (by omega)] at hlo
   rw [if_neg (by omega), if_neg (by omega), if_neg (by omega)] at hhi
   omega
  rw [hkn, e, hm]
  refine ⟨kw_true, fun ts hts => ?_⟩
  obtain ⟨x, us, rfl, x1, x2, e1⟩ := zaf hts
  rw [zbl e1]
  exact ⟨_, Ex.true x (is_t x1 x2), rfl⟩
 ·rw [if_pos (by omega)] at hkd
  have hkn := List.eq_nil_of_length_eq_zero (of_decide_eq_true hkd)
  have hm : n.num = 0 := by
   rw [if_neg (by omega), if_neg (by omega)] at hlo
   rw [if_neg (by omega), if_neg (by omega), if_neg (by omega)] at hhi
   omega
  rw [hkn, e, hm]
  refine ⟨kw_false, fun ts hts => ?_⟩
  obtain ⟨x, us, rfl, x1, x2, e1⟩ := zaf hts
  rw [zbl e1]
  exact ⟨_, Ex.false x (is_t x1 x2), rfl⟩
 ·rw [if_neg (by omega), if_pos e] at hkd
  obtain ⟨k, hkn⟩ := len1 (of_decide_eq_true hkd)
  have hm : n.num = 0 := by
   rw [if_neg (by omega), if_neg (by omega)] at hlo
   rw [if_neg (by omega), if_neg (by omega), if_neg (by omega)] at hhi
   omega
  have k1 := hp k (by rw [hkn]; simp)
  have k2 := hv (by omega) k (by rw [hkn]; simp)
  rw [hkn, e, hm]
  refine ⟨kw_not.app (zbi k1) zbn, fun ts hts => ?_⟩
  obtain ⟨x, us, rfl, x1, x2, e1⟩ := zaf hts
  obtain ⟨g, hg, e2⟩ := k2 us e1
  refine ⟨_, Ex.not x us g (is_t x1 x2) hg, ?_⟩
  show F.cons _ g.er .nil = F.cons _ (F.cat [t k]) .nil
  rw [e2, F.cat, F.cat, F.app_nil]; rfl
 ·have hne : n.kids ≠ [] := by
   rintro h9
   rw [if_neg (by omega), if_neg (by omega), if_pos (by omega), h9] at hkd
   exact absurd (of_decide_eq_true hkd) (by decide)
  have hm : n.num = 0 := by
   rw [if_neg (by omega), if_neg (by omega)] at hlo
   rw [if_neg (by omega), if_neg (by omega), if_neg (by omega)] at hhi
   omega
  have hd := dv_commas hne (hv (by omega))
  rw [e, hm]
  refine ⟨kw_all.app (okr_open (okr_end (zbp hop))) ⟨40, _, rfl, by decide⟩, fun ts hts => ?_⟩
  obtain ⟨x, us, rfl, x1, x2, e1⟩ := zaf hts
  obtain ⟨y, vs, rfl, y1, y2, e2⟩ := zaf e1
  rw [za4] at e2
  obtain ⟨ws, zs, rfl, e3, e4⟩ := zcc e2
  obtain ⟨z, zz, rfl, z1, z2, e5⟩ := zaf e4
  rw [zbl e5]
  obtain ⟨g, hg, e6⟩ := hd ws e3
  refine ⟨_, Ex.all x y z ws g (is_t x1 x2) (is_t y1 y2) hg (is_t z1 z2), ?_⟩
  show F.cons _ g.er .nil = _
  rw [e6]; rfl
 ·have hne : n.kids ≠ [] := by
   rintro h9
   rw [if_neg (by omega), if_neg (by omega), if_pos (by omega), h9] at hkd
   exact absurd (of_decide_eq_true hkd) (by decide)
  have hm : n.num = 0 := by
   rw [if_neg (by omega), if_neg (by omega)] at hlo
   rw [if_neg (by omega), if_neg (by omega), if_neg (by omega)] at hhi
   omega
  have hd := dv_commas hne (hv (by omega))
  rw [e, hm]
  refine ⟨kw_any.app (okr_open (okr_end (zbp hop))) ⟨40, _, rfl, by decide⟩, fun ts hts => ?_⟩
  obtain ⟨x, us, rfl, x1, x2, e1⟩ := zaf hts
  obtain ⟨y, vs, rfl, y1, y2, e2⟩ := zaf e1
  rw [za4] at e2
  obtain ⟨ws, zs, rfl, e3, e4⟩ := zcc e2
  obtain ⟨z, zz, rfl, z1, z2, e5⟩ := zaf e4
  rw [zbl e5]
  obtain ⟨g, hg, e6⟩ := hd ws e3
  refine ⟨_, Ex.any x y z ws g (is_t x1 x2) (is_t y1 y2) hg (is_t z1 z2), ?_⟩
  show F.cons _ g.er .nil = _
  rw [e6]; rfl
 ·have hne : n.kids ≠ [] := by
   rintro h9
   rw [if_neg (by omega), if_neg (by omega), if_pos (by omega), h9] at hkd
   exact absurd (of_decide_eq_true hkd) (by decide)
  rw [if_pos e] at hlo hhi
  have hd := dv_commas hne (hv (by omega))
  rw [e]
  refine ⟨kw_atleast.app (zbi ((okr_num n.num (by omega) (by omega)).app (okr_open (okr_end (zbp hop))) ⟨40, _, rfl, by decide⟩)) zbn, fun ts hts => ?_⟩
  obtain ⟨x, us, rfl, x1, x2, e1⟩ := zaf hts
  obtain ⟨m, us2, rfl, m1, m2, e7⟩ := zaf e1
  obtain ⟨y, vs, rfl, y1, y2, e2⟩ := zaf e7
  rw [za4] at e2
  obtain ⟨ws, zs, rfl, e3, e4⟩ := zcc e2
  obtain ⟨z, zz, rfl, z1, z2, e5⟩ := zaf e4
  rw [zbl e5]
  obtain ⟨g, hg, e6⟩ := hd ws e3
  refine ⟨_, Ex.atleast x m y z ws g (is_t x1 x2) (is_m m1) (is_t y1 y2) hg (is_t z1 z2), ?_⟩
  show F.cons _ g.er .nil = _
  rw [e6, m2, numV_dec]; rfl
 ·rw [if_neg (by omega), if_neg (by omega), if_neg (by omega), if_pos e] at hkd
  obtain ⟨a, b, hkn⟩ := len2 (of_decide_eq_true hkd)
  rw [if_neg (by omega), if_neg (by omega)] at hlo
  rw [if_neg (by omega), if_pos e] at hhi
  obtain ⟨j, hj⟩ : ∃ j : Nat, n.num = (j : Int) := ⟨n.num.toNat, by omega⟩
  have hj6 : j < 6 := by omega
  have k1 := hp a (by rw [hkn]; simp)
  have k2 := hp b (by rw [hkn]; simp)
  have w1 := hw (by omega) a (by rw [hkn]; simp)
  have w2 := hw (by omega) b (by rw [hkn]; simp)
  rw [hkn, e, hj]
  refine ⟨k1.app (zbi (okr_sgn hj6 k2)) zbn, fun ts hts => ?_⟩
  have hts' : ts.map Lx.kt = toks (p a) ++ (2, cmps.getD j []) :: toks (p b) := by
   rw [hts]
   show toks (p a ++ (Pc.sp 32 :: Pc.tok 2 (sgn (j : Int)) :: Pc.sp 32 :: p b)) = _
   rw [za4]; rfl
  obtain ⟨us, vs, rfl, e1, e2⟩ := zcc hts'
  obtain ⟨c, ws, rfl, c1, c2, e3⟩ := zaf e2
  obtain ⟨x, hx, x1⟩ := w1 us e1
  obtain ⟨y, hy, y1⟩ := w2 ws e3
  refine ⟨_, Ex.cmp us ws c j x y hx (cmp_is c1 hj6 c2) hy, ?_⟩
  show F.cons _ ((leaf x).app (leaf y)).er .nil = F.cons _ (F.cat [t a, t b]) .nil
  rw [F.er_app, x1, y1, F.cat, F.cat, F.cat, F.app_nil]; rfl
 ·rw [if_neg (by omega), if_neg (by omega), if_neg (by omega), if_neg (by omega), if_pos e] at hkd
  obtain ⟨a, b, c, hkn⟩ := len3 (of_decide_eq_true hkd)
  have hm : n.num = 0 := by
   rw [if_neg (by omega), if_neg (by omega)] at hlo
   rw [if_neg (by omega), if_neg (by omega), if_neg (by omega)] at hhi
   omega
  have k1 := hp a (by rw [hkn]; simp)
  have k2 := hp b (by rw [hkn]; simp)
  have k3 := hp c (by rw [hkn]; simp)
  have w1 := hw (by omega) a (by rw [hkn]; simp)
  have w2 := hw (by omega) b (by rw [hkn]; simp)
  have w3 := hw (by omega) c (by rw [hkn]; simp)
  rw [hkn, e, hm]
  refine ⟨k1.app (zbi (kw_between.app (zbi (k2.app (zbi (kw_and.app (zbi k3) zbn)) zbn)) zbn)) zbn, fun ts hts => ?_⟩
  have hts' : ts.map Lx.kt = toks (p a) ++ (2, kBetween) :: (toks (p b) ++ (2, kAnd) :: toks (p c)) := by
   rw [hts]
   show toks (p a ++ (Pc.sp 32 :: Pc.tok 2 kBetween :: Pc.sp 32 :: (p b ++ (Pc.sp 32 :: Pc.tok 2 kAnd :: Pc.sp 32 :: p c)))) = _
   rw [za4, toks, toks, toks, za4]; rfl
  obtain ⟨us, vs, rfl, e1, e2⟩ := zcc hts'
  obtain ⟨d, vs2, rfl, d1, d2, e3⟩ := zaf e2
  obtain ⟨ws, vs3, rfl, e4, e5⟩ := zcc e3
  obtain ⟨f, xs, rfl, f1, f2, e6⟩ := zaf e5
  obtain ⟨x, hx, x1⟩ := w1 us e1
  obtain ⟨y, hy, y1⟩ := w2 ws e4
  obtain ⟨z, hz, z1⟩ := w3 xs e6
  refine ⟨_, Ex.between us ws xs d f x y z hx (is_t d1 d2) hy (is_t f1 f2) hz, ?_⟩
  show F.cons _ ((leaf x).app ((leaf y).app (leaf z))).er .nil = F.cons _ (F.cat [t a, t b, t c]) .nil
  rw [F.er_app, F.er_app, x1, y1, z1, F.cat, F.cat, F.cat, F.cat, F.app_nil]; rfl
 ·rw [if_neg (by omega), if_neg (by omega), if_neg (by omega), if_neg (by omega), if_neg (by omega), if_pos e] at hkd
  obtain ⟨a, b, r, hkn⟩ := len2' (of_decide_eq_true hkd)
  have hm : n.num = 0 := by
   rw [if_neg (by omega), if_neg (by omega)] at hlo
   rw [if_neg (by omega), if_neg (by omega), if_neg (by omega)] at hhi
   omega
  have k1 := hp a (by rw [hkn]; simp)
  have w1 := hw (by omega) a (by rw [hkn]; simp)
  have w2 : Dws (toks (commasP ((b :: r).map p))) (F.cat ((b :: r).map t)) := dws_commas (by simp) fun x hx => hw (by omega) x (by rw [hkn]; exact List.mem_cons_of_mem _ hx)
  have k2 : OkR (commasP ((b :: r).map p)) := zbp fun x hx => hop x (by rw [hkn]; exact List.mem_cons_of_mem _ hx)
  rw [hkn, e, hm]
  refine ⟨k1.app (zbi (kw_in.app (zbi (okr_bra (okr_kend k2))) zbn)) zbn, fun ts hts => ?_⟩
  have hts' : ts.map Lx.kt = toks (p a) ++ (2, kIn) :: (2, sBra) :: (toks (commasP ((b :: r).map p)) ++ [(2, sKet)]) := by
   rw [hts]
   show toks (p a ++ (Pc.sp 32 :: Pc.tok 2 kIn :: Pc.sp 32 :: Pc.tok 2 sBra :: (commasP ((b :: r).map p) ++ [Pc.tok 2 sKet]))) = _
   rw [za4, toks, toks, toks, toks, za4]; rfl
  obtain ⟨us, vs, rfl, e1, e2⟩ := zcc hts'
  obtain ⟨c, vs2, rfl, c1, c2, e3⟩ := zaf e2
  obtain ⟨o, vs3, rfl, o1, o2, e4⟩ := zaf e3
  obtain ⟨ws, xs, rfl, e5, e6⟩ := zcc e4
  obtain ⟨d, zz, rfl, d1, d2, e7⟩ := zaf e6
  rw [zbl e7]
  obtain ⟨x, hx, x1⟩ := w1 us e1
  obtain ⟨g, hg, g1⟩ := w2 ws e5
  refine ⟨_, Ex.in_ us ws c o d x g hx (is_t c1 c2) (is_t o1 o2) hg (is_t d1 d2), ?_⟩
  show F.cons _ ((leaf x).app g).er .nil = F.cons _ (F.cat (t a :: (b :: r).map t)) .nil
  rw [F.er_app, x1, g1, F.cat.eq_2]; rfl
open Lx (Tok)
theorem tree_dv (ns : List Nk) (hb : ∀ n ∈ ns, n.kids.length ≤ 1000000) : ∀ f c a, VN ns f c a → OkR (piecesN ns f a) ∧ (c = true → Dv false (toks (piecesN ns f a)) (treeN ns f a)) ∧ (c = false → Dw (toks (piecesN ns f a)) (treeN ns f a))
 | 0, c, a, h => h.elim
 | f + 1, c, a, h => by
  obtain ⟨n, hn, hf, hk⟩ := h
  have hF := form_fm hf
  have ih : ∀ k ∈ n.kids, OkR (piecesN ns f k) ∧ (decide (n.kind ≤ 5) = true → Dv false (toks (piecesN ns f k)) (treeN ns f k)) ∧ (decide (n.kind ≤ 5) = false → Dw (toks (piecesN ns f k)) (treeN ns f k)) := fun k hk' => tree_dv ns hb f _ k (hk k hk')
  rw [piecesN_in hn, treeN_in hn]
  cases c with
  | true =>
   have h1 := cond_dv hF (hb n (List.mem_of_getElem? hn)) (piecesN ns f) (treeN ns f) (fun k hk => (ih k hk).1) (fun h5 k hk => (ih k hk).2.1 (decide_eq_true h5)) (fun h5 k hk => (ih k hk).2.2 (decide_eq_false h5))
   exact ⟨h1.1, fun _ => h1.2, fun h => (by cases h)⟩
  | false =>
   have h1 := value_dw hF (piecesN ns f) (treeN ns f)
   exact ⟨h1.1, fun h => (by cases h), fun _ => h1.2⟩
def usePc (x : Bp) : List Pc := [.tok 0 (tl x.1), .tok 2 sColon, .sp 32, .tok 0 (tl x.2)]
def refPc (x : Bp) : List Pc := [.tok 0 (tl x.1), .tok 2 sDot, .tok 0 (tl x.2)]
def nl : List Pc := [.sp 10]
def rootK (d : Po) : Int := match d.nodes[d.root.toNat]? with | none => 0 | some n => n.kind
def revealPc (d : Po) : List Pc := if d.reveal = [] then [] else .tok 2 kReveal :: .sp 32 :: (commasP (d.reveal.map refPc) ++ nl)
def provePc (d : Po) : List Pc := if rootK d = 0 then [] else .tok 2 kProve :: .sp 32 :: (piecesN d.nodes 32 d.root ++ nl)
def limitPc (d : Po) : List Pc := if 0 < d.limit then [.sp 32, .tok 2 kLimit, .sp 32, .tok 1 (Lib.itoa d.limit)] else []
def scopePc (d : Po) : List Pc := if d.scope.size = 0 then [] else .tok 2 kScope :: .sp 32 :: .tok 0 (39 :: (tl d.scope ++ [39])) :: (limitPc d ++ nl)
def escrowPc (d : Po) : List Pc := if d.escrow.size = 0 then [] else .tok 2 kEscrow :: .sp 32 :: .tok 0 (tl d.escrow) :: nl
def printPc (d : Po) : List Pc := .tok 2 kPolicy :: .sp 32 :: .tok 0 (tl d.name) :: .sp 10 :: .tok 2 kUses :: .sp 32 :: (commasP (d.uses.map usePc) ++ (.sp 10 :: (revealPc d ++ (provePc d ++ (scopePc d ++ (escrowPc d ++ [.tok 2 kEnd, .sp 10]))))))
def printP (d : Po) : Tx := flat (printPc d)
theorem kw_policy : OkR [.tok 2 kPolicy] := zbw (c := 112) (m := [111, 108, 105, 99, 121]) (by decide) (by decide) (by decide) (by decide)
theorem kw_uses : OkR [.tok 2 kUses] := zbw (c := 117) (m := [115, 101, 115]) (by decide) (by decide) (by decide) (by decide)
theorem kw_reveal : OkR [.tok 2 kReveal] := zbw (c := 114) (m := [101, 118, 101, 97, 108]) (by decide) (by decide) (by decide) (by decide)
theorem kw_prove : OkR [.tok 2 kProve] := zbw (c := 112) (m := [114, 111, 118, 101]) (by decide) (by decide) (by decide) (by decide)
theorem kw_scope : OkR [.tok 2 kScope] := zbw (c := 115) (m := [99, 111, 112, 101]) (by decide) (by decide) (by decide) (by decide)
theorem kw_limit : OkR [.tok 2 kLimit] := zbw (c := 108) (m := [105, 109, 105, 116]) (by decide) (by decide) (by decide) (by decide)
theorem kw_escrow : OkR [.tok 2 kEscrow] := zbw (c := 101) (m := [115, 99, 114, 111, 119]) (by decide) (by decide) (by decide) (by decide)
theorem kw_end : OkR [.tok 2 kEnd] := zbw (c := 101) (m := [110, 100]) (by decide) (by decide) (by decide) (by decide)
def Lines (l : List Pc) : Prop := ∀ m, Okk m → Okk (l ++ m)
theorem Lines.nil : Lines [] := fun m h => h
theorem Lines.app {l m : List Pc} (h : Lines l) (k : Lines m) : Lines (l ++ m) := fun n hn => by
 rw [List.append_assoc]; exact h _ (k n hn)
theorem OkR.line {l : List Pc} (h : OkR l) : Lines (l ++ nl) := fun m hm => by
 rw [List.append_assoc]
 exact h _ ⟨by decide, hm⟩ (show sepc 10 = true by decide)
structure Nms (d : Po) : Prop where
 name : NameT (tl d.name)
 escrow : d.escrow.size ≠ 0 → NameT (tl d.escrow)
 scope : d.scope.size ≠ 0 → (∀ c ∈ tl d.scope, Lx.isWd c = true) ∧ 0 < (tl d.scope).length ∧ (tl d.scope).length ≤ 32
 uses : ∀ x ∈ d.uses, NameT (tl x.1) ∧ NameT (tl x.2)
 reveal : ∀ x ∈ d.reveal, NameT (tl x.1) ∧ NameT (tl x.2)
theorem names_nms {d : Po} (h : namesP d = true) : Nms d := by
 unfold namesP at h
 simp only [Bool.and_eq_true, Bool.or_eq_true, decide_eq_true_eq] at h
 obtain ⟨⟨⟨⟨h1, h2⟩, h3⟩, h4⟩, h5⟩ := h
 refine ⟨name_t h1, fun h => name_t (h2.resolve_left h), fun h => word_t (h3.resolve_left h), fun x hx => ?_, fun x hx => ?_⟩
 ·have := List.all_eq_true.1 h4 x hx
  simp only [Bool.and_eq_true] at this
  exact ⟨name_t this.1, name_t this.2⟩
 ·have := List.all_eq_true.1 h5 x hx
  simp only [Bool.and_eq_true] at this
  exact ⟨name_t this.1, name_t this.2⟩
theorem okr_use {x : Bp} (h : NameT (tl x.1) ∧ NameT (tl x.2)) : OkR (usePc x) := by
 show OkR ([.tok 0 (tl x.1)] ++ [.tok 2 sColon, .sp 32, .tok 0 (tl x.2)])
 exact (zcp h.1).app (zco (fun r => stop_colon r) (by decide) (by decide) (zbi (zcp h.2))) ⟨58, _, rfl, by decide⟩
theorem okr_ref {x : Bp} (h : NameT (tl x.1) ∧ NameT (tl x.2)) : OkR (refPc x) := by
 show OkR ([.tok 0 (tl x.1)] ++ [.tok 2 sDot, .tok 0 (tl x.2)])
 exact (zcp h.1).app (zco (fun r => stop_dot r) (by decide) (by decide) (zcp h.2)) ⟨46, _, rfl, by decide⟩
structure Ck (d : Po) : Prop where
 nodes : d.nodes.length ≤ 512
 uses : 1 ≤ d.uses.length
 nms : Nms d
 lim0 : 0 ≤ d.limit
 lim1 : d.limit ≤ 65536
 lim2 : 0 < d.limit → d.scope.size ≠ 0
 tree : treeP d = 0
theorem check_ck {d : Po} (h : checkP d = 0) : Ck d := by
 have ht := za7 h
 unfold checkP at h
 by_cases h1 : 512 < d.nodes.length ∨ d.uses.length < 1 ∨ 4 < d.uses.length ∨ 64 < d.reveal.length
 ·rw [if_pos h1] at h; cases h
 ·rw [if_neg h1] at h
  by_cases h2 : namesP d = false
  ·rw [if_pos h2] at h; cases h
  ·rw [if_neg h2] at h
   by_cases h3 : d.limit < 0 ∨ 65536 < d.limit ∨ (0 < d.limit ∧ d.scope.size = 0)
   ·rw [if_pos h3] at h; cases h
   ·refine ⟨by omega, by omega, names_nms (by simpa using h2), by omega, by omega, fun h4 h5 => h3 (.inr (.inr ⟨h4, h5⟩)), ht⟩
theorem print_okk {d : Po} (h : checkP d = 0) (hb : ∀ n ∈ d.nodes, n.kids.length ≤ 1000000) : Okk (printPc d) := by
 have hc := check_ck h
 have hn := hc.nms
 have hv := tree_vn h
 have l1 : Lines ([Pc.tok 2 kPolicy, .sp 32, .tok 0 (tl d.name)] ++ nl) := ((kw_policy.app (zbi (zcp hn.name)) zbn)).line
 have l2 : Lines ((.tok 2 kUses :: .sp 32 :: commasP (d.uses.map usePc)) ++ nl) := (kw_uses.app (zbi (zbp fun x hx => by
  obtain ⟨y, hy, rfl⟩ := List.mem_map.1 hx
  exact okr_use (hn.uses y hy))) zbn).line
 have l3 : Lines (revealPc d) := by
  unfold revealPc
  split
  ·exact Lines.nil
  ·exact (kw_reveal.app (zbi (zbp fun x hx => by
    obtain ⟨y, hy, rfl⟩ := List.mem_map.1 hx
    exact okr_ref (hn.reveal y hy))) zbn).line
 have l4 : Lines (provePc d) := by
  unfold provePc
  split
  ·exact Lines.nil
  ·exact (kw_prove.app (zbi (tree_dv d.nodes hb 32 true d.root hv).1) zbn).line
 have l5 : Lines (scopePc d) := by
  unfold scopePc
  split
  ·exact Lines.nil
  ·rename_i h5
   obtain ⟨a1, a2, a3⟩ := hn.scope h5
   unfold limitPc
   split
   ·exact (kw_scope.app (zbi ((okr_word a1 a2 a3).app (zbi (kw_limit.app (zbi (okr_num d.limit (by have := hc.lim0; omega) (by have := hc.lim1; omega))) zbn)) zbn)) zbn).line
   ·exact (kw_scope.app (zbi (okr_word a1 a2 a3)) zbn).line
 have l6 : Lines (escrowPc d) := by
  unfold escrowPc
  split
  ·exact Lines.nil
  ·rename_i h6
   exact (kw_escrow.app (zbi (zcp (hn.escrow h6))) zbn).line
 have l7 : Lines ([Pc.tok 2 kEnd] ++ nl) := kw_end.line
 have := (l1.app (l2.app (l3.app (l4.app (l5.app (l6.app l7)))))) [] trivial
 have e : printPc d = (([Pc.tok 2 kPolicy, .sp 32, .tok 0 (tl d.name)] ++ nl) ++ (((.tok 2 kUses :: .sp 32 :: commasP (d.uses.map usePc)) ++ nl) ++ (revealPc d ++ (provePc d ++ (scopePc d ++ (escrowPc d ++ ([Pc.tok 2 kEnd] ++ nl))))))) ++ [] := by
  unfold printPc nl
  simp
 rw [e]; exact this
theorem uses_ps : ∀ {l : List Bp}, l ≠ [] → (∀ x ∈ l, NameT (tl x.1) ∧ NameT (tl x.2)) → ∀ ts : List Tok, ts.map Lx.kt = toks (commasP (l.map usePc)) → Ps sColon ts (l.map fun x => (tl x.1, tl x.2))
 | [], h, _, _, _ => (h rfl).elim
 | [x], _, h, ts, hts => by
  obtain ⟨a, us, rfl, a1, a2, e1⟩ := zaf (show ts.map Lx.kt = (0, tl x.1) :: [(2, sColon), (0, tl x.2)] from hts)
  obtain ⟨d, vs, rfl, d1, d2, e2⟩ := zaf e1
  obtain ⟨b, ws, rfl, b1, b2, e3⟩ := zaf e2
  rw [zbl e3, List.map_cons, List.map_nil, ← a2, ← b2]
  have := h x (by simp)
  exact Ps.one a d b (is_n a1 (by rw [a2]; exact this.1)) (is_t d1 d2) (is_n b1 (by rw [b2]; exact this.2))
 | x :: y :: r, _, h, ts, hts => by
  have hts' : ts.map Lx.kt = (0, tl x.1) :: (2, sColon) :: (0, tl x.2) :: (2, sComma) :: toks (commasP ((y :: r).map usePc)) := by
   rw [hts, List.map_cons, List.map_cons, commasP, za4]; rfl
  obtain ⟨a, us, rfl, a1, a2, e1⟩ := zaf hts'
  obtain ⟨d, vs, rfl, d1, d2, e2⟩ := zaf e1
  obtain ⟨b, ws, rfl, b1, b2, e3⟩ := zaf e2
  obtain ⟨c, xs, rfl, c1, c2, e4⟩ := zaf e3
  have ih := uses_ps (l := y :: r) (by simp) (fun z hz => h z (List.mem_cons_of_mem _ hz)) xs e4
  have := h x (by simp)
  rw [List.map_cons, ← a2, ← b2]
  exact Ps.more a d b c xs _ (is_n a1 (by rw [a2]; exact this.1)) (is_t d1 d2) (is_n b1 (by rw [b2]; exact this.2)) (is_t c1 c2) ih
theorem refs_ps : ∀ {l : List Bp}, l ≠ [] → (∀ x ∈ l, NameT (tl x.1) ∧ NameT (tl x.2)) → ∀ ts : List Tok, ts.map Lx.kt = toks (commasP (l.map refPc)) → Ps sDot ts (l.map fun x => (tl x.1, tl x.2))
 | [], h, _, _, _ => (h rfl).elim
 | [x], _, h, ts, hts => by
  obtain ⟨a, us, rfl, a1, a2, e1⟩ := zaf (show ts.map Lx.kt = (0, tl x.1) :: [(2, sDot), (0, tl x.2)] from hts)
  obtain ⟨d, vs, rfl, d1, d2, e2⟩ := zaf e1
  obtain ⟨b, ws, rfl, b1, b2, e3⟩ := zaf e2
  rw [zbl e3, List.map_cons, List.map_nil, ← a2, ← b2]
  have := h x (by simp)
  exact Ps.one a d b (is_n a1 (by rw [a2]; exact this.1)) (is_t d1 d2) (is_n b1 (by rw [b2]; exact this.2))
 | x :: y :: r, _, h, ts, hts => by
  have hts' : ts.map Lx.kt = (0, tl x.1) :: (2, sDot) :: (0, tl x.2) :: (2, sComma) :: toks (commasP ((y :: r).map refPc)) := by
   rw [hts, List.map_cons, List.map_cons, commasP, za4]; rfl
  obtain ⟨a, us, rfl, a1, a2, e1⟩ := zaf hts'
  obtain ⟨d, vs, rfl, d1, d2, e2⟩ := zaf e1
  obtain ⟨b, ws, rfl, b1, b2, e3⟩ := zaf e2
  obtain ⟨c, xs, rfl, c1, c2, e4⟩ := zaf e3
  have ih := refs_ps (l := y :: r) (by simp) (fun z hz => h z (List.mem_cons_of_mem _ hz)) xs e4
  have := h x (by simp)
  rw [List.map_cons, ← a2, ← b2]
  exact Ps.more a d b c xs _ (is_n a1 (by rw [a2]; exact this.1)) (is_t d1 d2) (is_n b1 (by rw [b2]; exact this.2)) (is_t c1 c2) ih
def printT (d : Po) : F := if rootK d = 0 then leaf ⟨0, 0, [], [], 0⟩ else treeN d.nodes 32 d.root
theorem print_read {d : Po} (h : checkP d = 0) (hb : ∀ n ∈ d.nodes, n.kids.length ≤ 1000000) {ts : List Tok} {z : Tok} (hts : ts.map Lx.kt = toks (printPc d)) (hz : isE [z] = true) :
 ∃ f, policyR (ts ++ [z]) = (some ⟨tl d.name, d.uses.map fun x => (tl x.1, tl x.2), d.reveal.map fun x => (tl x.1, tl x.2), tl d.scope, d.limit, tl d.escrow, f⟩, [z]) ∧ f.er = printT d := by
 have hc := check_ck h
 have hn := hc.nms
 have hv := tree_vn h
 have hts' : ts.map Lx.kt = (2, kPolicy) :: (0, tl d.name) :: (2, kUses) :: (toks (commasP (d.uses.map usePc)) ++ (toks (revealPc d) ++ (toks (provePc d) ++ (toks (scopePc d) ++ (toks (escrowPc d) ++ [(2, kEnd)]))))) := by
  rw [hts]
  unfold printPc
  simp only [toks, za4]
 obtain ⟨a, t1, rfl, a1, a2, e1⟩ := zaf hts'
 obtain ⟨b, t2, rfl, b1, b2, e2⟩ := zaf e1
 obtain ⟨c, t3, rfl, c1, c2, e3⟩ := zaf e2
 obtain ⟨us, t4, rfl, u1, e4⟩ := zcc e3
 obtain ⟨rv, t5, rfl, r1, e5⟩ := zcc e4
 obtain ⟨pv, t6, rfl, p1, e6⟩ := zcc e5
 obtain ⟨so, t7, rfl, s1, e7⟩ := zcc e6
 obtain ⟨eo, t8, rfl, o1, e8⟩ := zcc e7
 obtain ⟨e, t9, rfl, x1, x2, e9⟩ := zaf e8
 rw [zbl e9]
 have hus := uses_ps (l := d.uses) (by intro h0; have := hc.uses; rw [h0] at this; simp at this) hn.uses us u1
 have hrv : Rv rv (d.reveal.map fun x => (tl x.1, tl x.2)) := by
  unfold revealPc at r1
  split at r1
  ·rename_i h0
   rw [zbl r1, h0]; exact Rv.none
  ·rename_i h0
   have r2 : rv.map Lx.kt = (2, kReveal) :: toks (commasP (d.reveal.map refPc)) := by
    rw [r1]; simp only [toks, za4, nl]; simp
   obtain ⟨r, vs, rfl, q1, q2, q3⟩ := zaf r2
   exact Rv.some r vs _ (is_t q1 q2) (refs_ps h0 hn.reveal vs q3)
 obtain ⟨f, hf, hfe⟩ : ∃ f, Pv (atT (so ++ (eo ++ [e, z]))) pv f ∧ f.er = printT d := by
  unfold provePc at p1
  unfold printT
  split at p1
  ·rename_i h0
   rw [zbl p1, if_pos h0]
   exact ⟨_, Pv.none, rfl⟩
  ·rename_i h0
   have p2 : pv.map Lx.kt = (2, kProve) :: toks (piecesN d.nodes 32 d.root) := by
    rw [p1]; simp only [toks, za4, nl]; simp
   obtain ⟨r, vs, rfl, q1, q2, q3⟩ := zaf p2
   obtain ⟨g, hg, hge⟩ := (tree_dv d.nodes hb 32 true d.root hv).2.1 rfl vs q3
   rw [if_neg h0]
   exact ⟨g, Pv.some r vs g (is_t q1 q2) hg, hge⟩
 have hso : So so (tl d.scope, d.limit) := by
  unfold scopePc at s1
  split at s1
  ·rename_i h0
   have hl : d.limit = 0 := by
    have := hc.lim0
    by_cases h9 : 0 < d.limit
    ·exact absurd h0 (hc.lim2 h9)
    ·omega
   rw [zbl s1, hl, size0 h0]; exact So.none
  ·rename_i h0
   obtain ⟨w1, w2, w3⟩ := hn.scope h0
   by_cases hl : 0 < d.limit
   ·have s2 : so.map Lx.kt = [(2, kScope), (0, 39 :: (tl d.scope ++ [39])), (2, kLimit), (1, Lib.itoa d.limit)] := by
     rw [s1]; unfold limitPc; rw [if_pos hl]; rfl
    obtain ⟨s, v1, rfl, q1, q2, q3⟩ := zaf s2
    obtain ⟨w, v2, rfl, q4, q5, q6⟩ := zaf q3
    obtain ⟨l, v3, rfl, q7, q8, q9⟩ := zaf q6
    obtain ⟨m, v4, rfl, q10, q11, q12⟩ := zaf q9
    rw [zbl q12]
    obtain ⟨y1, y2⟩ := is_w q4 q5
    have := So.both s w l m (is_t q1 q2) y1 (is_t q7 q8) (is_m q10)
    rw [y2, q11, numV_dec] at this
    exact this
   ·have hl0 : d.limit = 0 := by have := hc.lim0; omega
    have s2 : so.map Lx.kt = [(2, kScope), (0, 39 :: (tl d.scope ++ [39]))] := by
     rw [s1]; unfold limitPc; rw [if_neg hl]; rfl
    obtain ⟨s, v1, rfl, q1, q2, q3⟩ := zaf s2
    obtain ⟨w, v2, rfl, q4, q5, q6⟩ := zaf q3
    rw [zbl q6, hl0]
    obtain ⟨y1, y2⟩ := is_w q4 q5
    have := So.one s w (is_t q1 q2) y1
    rw [y2] at this
    exact this
 have heo : Eo eo (tl d.escrow) := by
  unfold escrowPc at o1
  split at o1
  ·rename_i h0
   rw [zbl o1, size0 h0]; exact Eo.none
  ·rename_i h0
   obtain ⟨s, v1, rfl, q1, q2, q3⟩ := zaf (show eo.map Lx.kt = (2, kEscrow) :: [(0, tl d.escrow)] from o1)
   obtain ⟨n, v2, rfl, q4, q5, q6⟩ := zaf q3
   rw [zbl q6, ← q5]
   exact Eo.some s n (is_t q1 q2) (is_n q4 (by rw [q5]; exact hn.escrow h0))
 refine ⟨f, ?_, hfe⟩
 refine policy_ok (a := a) (b := b) (c := c) (e := e) (z := z) (us := us) (rv := rv) (pv := pv) (so := so) (eo := eo) (q := []) ⟨by simp, is_t a1 a2, is_n b1 (by rw [b2]; exact hn.name), is_t c1 c2, hus, hrv, hf, hso, heo, is_t x1 x2, hz, b2.symm⟩
end Go.Proofs.YtekkapgknohadaaGreatDoor.Pa
namespace Go.Proofs.YtekkapgknohadaaGreatDoor
open Go.RowKit Go.Shelf
def Holds (ms : List Nk) (g : Pa.F) (k : Nat) : Prop := ∀ i x, (g.num k)[i]? = some x → ms[k + i]? = some (nkOf x)
theorem Holds.cons {ms : List Nk} {n : Pa.Nd} {g1 g2 : Pa.F} {k : Nat} (h : Holds ms (.cons n g1 g2) k) : ms[k]? = some (nkOf (n, g1.idx (k + 1))) ∧ Holds ms g1 (k + 1) ∧ Holds ms g2 (k + 1 + g1.size) := by
 refine ⟨h 0 _ rfl, fun i x hx => ?_, fun i x hx => ?_⟩
 ·have := h (i + 1) x (by
   rw [Pa.F.num, List.getElem?_cons_succ, List.getElem?_append_left (List.getElem?_eq_some_iff.1 hx).1]; exact hx)
  rw [show k + 1 + i = k + (i + 1) by omega]; exact this
 ·have := h (g1.size + i + 1) x (by
   rw [Pa.F.num, List.getElem?_cons_succ, List.getElem?_append_right (by rw [Pa.F.num_len]; omega), Pa.F.num_len, show g1.size + i - g1.size = i by omega]; exact hx)
  rw [show k + 1 + g1.size + i = k + (g1.size + i + 1) by omega]; exact this
theorem cat_cons {ns : List Nk} {f : Nat} {c : Bool} {x : Int} {l : List Int} (h : Pa.VN ns (f + 1) c x) {g : Pa.F} (hg : g.er = Pa.F.cat ((x :: l).map (Pa.treeN ns (f + 1)))) :
 ∃ n n' g1 g2, ns[x.toNat]? = some n ∧ g = .cons n' g1 g2 ∧ n'.er = ⟨n.kind.toNat, n.num, tl n.name, tl n.attr, 0⟩ ∧ g1.er = Pa.F.cat (n.kids.map (Pa.treeN ns f)) ∧ g2.er = Pa.F.cat (l.map (Pa.treeN ns (f + 1))) ∧ Pa.Fm n c ∧ ∀ k ∈ n.kids, Pa.VN ns f (decide (n.kind ≤ 5)) k := by
 obtain ⟨n, hn, hf, hk⟩ := h
 rw [List.map_cons, Pa.F.cat, Pa.treeN_in hn] at hg
 cases g with
 | nil => cases hg
 | cons n' g1 g2 =>
  have hg' : Pa.F.cons n'.er g1.er g2.er = Pa.F.cons ⟨n.kind.toNat, n.num, tl n.name, tl n.attr, 0⟩ (Pa.F.cat (n.kids.map (Pa.treeN ns f))) (Pa.F.cat (l.map (Pa.treeN ns (f + 1)))) := hg
  injection hg' with e1 e2 e3
  exact ⟨n, n', g1, g2, hn, rfl, e1, e2, e3, Pa.form_fm hf, hk⟩
theorem nk_of_er {n : Nk} {n' : Pa.Nd} {c : Bool} (e : n'.er = ⟨n.kind.toNat, n.num, tl n.name, tl n.attr, 0⟩) (h : Pa.Fm n c) (ks : List Nat) : (nkOf (n', ks)).kind = n.kind ∧ (nkOf (n', ks)).num = n.num ∧ (nkOf (n', ks)).name = n.name ∧ (nkOf (n', ks)).attr = n.attr := by
 have e1 : n'.kind = n.kind.toNat := (congrArg Pa.Nd.kind e : _)
 have e2 : n'.num = n.num := (congrArg Pa.Nd.num e : _)
 have e3 : n'.name = tl n.name := (congrArg Pa.Nd.name e : _)
 have e4 : n'.attr = tl n.attr := (congrArg Pa.Nd.attr e : _)
 have := h.lo
 refine ⟨?_, e2, ?_, ?_⟩
 ·show ((n'.kind : Nat) : Int) = n.kind
  rw [e1]; omega
 ·show bs n'.name = n.name
  rw [e3, bs_tl]
 ·show bs n'.attr = n.attr
  rw [e4, bs_tl]
theorem same_forest (ns ms : List Nk) : ∀ (f : Nat) (l : List Int) (c : Bool) (g : Pa.F) (k : Nat), (∀ x ∈ l, Pa.VN ns f c x) → g.er = Pa.F.cat (l.map (Pa.treeN ns f)) → Holds ms g k → eachP (sameN ns ms f) l ((g.idx k).map fun (n : Nat) => (n : Int)) = true := by
 intro f
 induction f with
 | zero =>
  intro l c g k hl hg _
  cases l with
  | nil =>
   cases g with
   | nil => rfl
   | cons _ _ _ => cases hg
  | cons x l => exact (hl x (List.mem_cons_self ..)).elim
 | succ f ihf =>
  intro l
  induction l with
  | nil =>
   intro c g k hl hg _
   cases g with
   | nil => rfl
   | cons _ _ _ => cases hg
  | cons x l ihl =>
   intro c g k hl hg hH
   obtain ⟨n, n', g1, g2, hn, rfl, e1, e2, e3, hF, hk⟩ := cat_cons (hl x (List.mem_cons_self ..)) hg
   obtain ⟨h0, h1, h2⟩ := hH.cons
   have hs := ihf n.kids _ g1 (k + 1) hk e2 h1
   have hr := ihl c g2 (k + 1 + g1.size) (fun y hy => hl y (List.mem_cons_of_mem _ hy)) e3 h2
   rw [Pa.F.idx, List.map_cons, eachP, hr, Bool.and_true, sameN, hn, Int.toNat_natCast, h0]
   show (eqN n (nkOf (n', g1.idx (k + 1))) && eachP (sameN ns ms f) n.kids (nkOf (n', g1.idx (k + 1))).kids) = true
   obtain ⟨a1, a2, a3, a4⟩ := nk_of_er e1 hF (g1.idx (k + 1))
   have h5 : eachP (sameN ns ms f) n.kids (nkOf (n', g1.idx (k + 1))).kids = true := hs
   rw [h5, eqN, a1, a2, a3, a4]
   simp
theorem er_len (g : Pa.F) : g.er.len = g.len := by
 induction g with
 | nil => rfl
 | cons n k r _ ih => rw [Pa.F.er, Pa.F.len, Pa.F.len, ih]
theorem cat_len {ns : List Nk} {f : Nat} {c : Bool} : ∀ {l : List Int}, (∀ x ∈ l, Pa.VN ns f c x) → (Pa.F.cat (l.map (Pa.treeN ns f))).len = l.length
 | [], _ => rfl
 | x :: l, h => by
  rw [List.map_cons, Pa.F.cat, Pa.F.len_app, cat_len fun y hy => h y (List.mem_cons_of_mem _ hy)]
  cases f with
  | zero => exact (h x (List.mem_cons_self ..)).elim
  | succ f =>
   obtain ⟨n, hn, -, -⟩ := h x (List.mem_cons_self ..)
   rw [Pa.treeN_in hn]
   show 0 + 1 + l.length = _
   rw [List.length_cons]; omega
theorem form_cong {n m : Nk} {c : Bool} (h1 : m.kind = n.kind) (h2 : m.num = n.num) (h3 : m.name = n.name) (h4 : m.attr = n.attr) (h5 : m.kids.length = n.kids.length) : formP m c = formP n c := by
 unfold formP shapeP textsP lowP highP
 rw [h1, h2, h3, h4, h5]
theorem visit_forest (ns ms : List Nk) : ∀ (f : Nat) (l : List Int) (c : Bool) (g : Pa.F) (k : Nat), (∀ x ∈ l, Pa.VN ns f c x) → g.er = Pa.F.cat (l.map (Pa.treeN ns f)) → Holds ms g k → loopP (fun k S => visitP ms f k c S) ((g.idx k).map fun (n : Nat) => (n : Int)) (rng k) = (0, rng (k + g.size)) := by
 intro f
 induction f with
 | zero =>
  intro l c g k hl hg _
  cases l with
  | nil =>
   cases g with
   | nil => rfl
   | cons _ _ _ => cases hg
  | cons x l => exact (hl x (List.mem_cons_self ..)).elim
 | succ f ihf =>
  intro l
  induction l with
  | nil =>
   intro c g k hl hg _
   cases g with
   | nil => rfl
   | cons _ _ _ => cases hg
  | cons x l ihl =>
   intro c g k hl hg hH
   have hx := hl x (List.mem_cons_self ..)
   obtain ⟨n, n', g1, g2, hn, rfl, e1, e2, e3, hF, hk⟩ := cat_cons hx hg
   obtain ⟨h0, h1, h2⟩ := hH.cons
   have hkl := (List.getElem?_eq_some_iff.1 h0).1
   have hs := ihf n.kids _ g1 (k + 1) hk e2 h1
   have hr := ihl c g2 (k + 1 + g1.size) (fun y hy => hl y (List.mem_cons_of_mem _ hy)) e3 h2
   obtain ⟨a1, a2, a3, a4⟩ := nk_of_er e1 hF (g1.idx (k + 1))
   have a5 : (nkOf (n', g1.idx (k + 1))).kids.length = n.kids.length := by
    show ((g1.idx (k + 1)).map _).length = _
    rw [List.length_map, Pa.F.idx_len, ← er_len, e2, cat_len hk]
   have hfm : formP (nkOf (n', g1.idx (k + 1))) c = 0 := by
    rw [form_cong a1 a2 a3 a4 a5]
    obtain ⟨m, hm, hfm, -⟩ := hx
    rw [hn] at hm
    cases hm
    exact hfm
   have hv : visitP ms (f + 1) (k : Int) c (rng k) = (0, rng (k + 1 + g1.size)) := by
    rw [zct (n := nkOf (n', g1.idx (k + 1))) (by
     rintro (h | h | h)
     ·omega
     ·omega
     ·rw [rng_mem] at h; omega) (by rw [Int.toNat_natCast]; exact h0), if_neg (by rw [hfm]; simp), ← rng_succ, a1]
    exact hs
   rw [Pa.F.idx, List.map_cons, loopP, hv, if_neg (by simp)]
   rw [Pa.F.size, show k + (g1.size + g2.size + 1) = k + 1 + g1.size + g2.size by omega]
   exact hr
theorem loop_size {v : Int → List Int → Int × List Int} {s : Int → Nat} (hv : ∀ k S, (v k S).1 = 0 → (v k S).2.length = S.length + s k) : ∀ l S, (loopP v l S).1 = 0 → (loopP v l S).2.length = S.length + (l.map s).sum
 | [], S, _ => by simp [loopP]
 | k :: r, S, h => by
  rw [loopP] at h ⊢
  by_cases h1 : (v k S).1 ≠ 0
  ·rw [if_pos h1] at h; exact absurd h h1
  ·rw [if_neg h1] at h ⊢
   rw [loop_size hv r _ h, hv k S (Decidable.not_not.1 h1), List.map_cons, List.sum_cons]
   omega
theorem zda (t : Int → Pa.F) : ∀ l : List Int, (Pa.F.cat (l.map t)).size = (l.map fun k => (t k).size).sum
 | [] => rfl
 | k :: r => by rw [List.map_cons, Pa.F.cat, Pa.F.size_app, zda t r, List.map_cons, List.sum_cons]
theorem visit_size (ns : List Nk) : ∀ f a c S, (visitP ns f a c S).1 = 0 → (visitP ns f a c S).2.length = S.length + (Pa.treeN ns f a).size
 | 0, a, c, S, h => by
  by_cases hb : a < 0 ∨ (ns.length : Int) ≤ a ∨ a ∈ S
  ·rw [zau hb] at h; cases h
  ·rw [zb6 hb] at h; cases h
 | f + 1, a, c, S, h => by
  by_cases hb : a < 0 ∨ (ns.length : Int) ≤ a ∨ a ∈ S
  ·rw [zau hb] at h; cases h
  ·obtain ⟨n, hn⟩ : ∃ n, ns[a.toNat]? = some n := ⟨_, List.getElem?_eq_getElem (by omega)⟩
   rw [zct hb hn] at h ⊢
   split at h
   ·rename_i h1; exact absurd h h1
   ·rename_i h1
    rw [if_neg h1, loop_size (s := fun k => (Pa.treeN ns f k).size) (fun k S h => visit_size ns f k _ S h) _ _ h, Pa.treeN_in hn, Pa.F.size, zda]
    rw [List.length_append]
    rw [show Pa.F.nil.size = 0 from rfl, List.length_singleton]
    omega
theorem tree_size {d : Po} (h : checkP d = 0) : (Pa.treeN d.nodes 32 d.root).size = d.nodes.length := by
 have ht := za7 h
 unfold treeP at ht
 split at ht
 ·rename_i h1; exact absurd ht h1
 ·rename_i h1
  split at ht
  ·cases ht
  ·rename_i h2
   have := visit_size d.nodes 32 d.root true [] (Decidable.not_not.1 h1)
   rw [Decidable.not_not.1 h2] at this
   simpa using this.symm
theorem printT_tree {d : Po} (h : checkP d = 0) : Pa.printT d = Pa.treeN d.nodes 32 d.root := by
 unfold Pa.printT
 split
 ·rename_i h0
  obtain ⟨n, hn, hf, -⟩ := Pa.tree_vn h
  unfold Pa.rootK at h0
  rw [hn] at h0
  have hF := Pa.form_fm hf
  have htx := hF.texts
  have hlo := hF.low
  have hhi := hF.high
  have hkd := hF.kids
  have h0 : n.kind = 0 := h0
  unfold textsP at htx
  rw [if_neg (by omega), if_neg (by omega), Bool.and_eq_true] at htx
  unfold lowP at hlo
  unfold highP at hhi
  unfold kidsP at hkd
  rw [if_neg (by omega), if_neg (by omega)] at hlo
  rw [if_neg (by omega), if_neg (by omega), if_neg (by omega)] at hhi
  rw [if_pos (by omega)] at hkd
  rw [Pa.treeN_in (f := 31) hn, h0, Pa.size0 (of_decide_eq_true htx.1), Pa.size0 (of_decide_eq_true htx.2), List.eq_nil_of_length_eq_zero (of_decide_eq_true hkd), show n.num = 0 by omega]
  rfl
 ·rfl
theorem pre_cat : ∀ (l : List Pa.F), (Pa.F.cat l).pre = l.flatMap Pa.F.pre
 | [] => rfl
 | f :: l => by rw [Pa.F.cat, Pa.F.pre_app, pre_cat l]; rfl
theorem tree_from (ns : List Nk) : ∀ f a, ∀ x ∈ (Pa.treeN ns f a).pre, ∃ n ∈ ns, x = ⟨n.kind.toNat, n.num, tl n.name, tl n.attr, 0⟩
 | 0, a, x, hx => (List.not_mem_nil hx).elim
 | f + 1, a, x, hx => by
  cases hn : ns[a.toNat]? with
  | none => rw [Pa.treeN, hn] at hx; exact (List.not_mem_nil hx).elim
  | some n =>
   rw [Pa.treeN_in hn] at hx
   have hx' : x ∈ (⟨n.kind.toNat, n.num, tl n.name, tl n.attr, 0⟩ : Pa.Nd) :: ((Pa.F.cat (n.kids.map (Pa.treeN ns f))).pre ++ []) := hx
   rcases List.mem_cons.1 hx' with rfl | hx'
   ·exact ⟨n, List.mem_of_getElem? hn, rfl⟩
   ·rw [List.append_nil, pre_cat] at hx'
    obtain ⟨t, ht, hxt⟩ := List.mem_flatMap.1 hx'
    obtain ⟨k, hk, rfl⟩ := List.mem_map.1 ht
    exact tree_from ns f k x hxt
theorem er_pre (g : Pa.F) : g.er.pre = g.pre.map Pa.Nd.er := by
 induction g with
 | nil => rfl
 | cons n k r ih1 ih2 => rw [Pa.F.er, Pa.F.pre, Pa.F.pre, ih1, ih2]; simp
theorem each_map {v : Int → Int → Bool} {α : Type} {F G : Int → α} (h : ∀ a b, v a b = true → F a = G b) : ∀ {l m : List Int}, eachP v l m = true → l.map F = m.map G
 | [], [], _ => rfl
 | a :: l, b :: m, e => by
  rw [eachP, Bool.and_eq_true] at e
  rw [List.map_cons, List.map_cons, h a b e.1, each_map h e.2]
 | [], _ :: _, e => by cases e
 | _ :: _, [], e => by cases e
theorem same_pieces (ns ms : List Nk) : ∀ f i k, sameN ns ms f i k = true → Pa.piecesN ns f i = Pa.piecesN ms f k
 | 0, i, k, h => by cases h
 | f + 1, i, k, h => by
  rw [sameN] at h
  cases hx : ns[i.toNat]? with
  | none => rw [hx] at h; cases h
  | some x =>
   cases hy : ms[k.toNat]? with
   | none => rw [hx, hy] at h; cases h
   | some y =>
    rw [hx, hy] at h
    simp only [Bool.and_eq_true, eqN, decide_eq_true_eq] at h
    obtain ⟨⟨⟨⟨e1, e2⟩, e3⟩, e4⟩, e5⟩ := h
    rw [Pa.piecesN_in hx, Pa.piecesN_in hy, e1, e2, e3, e4, each_map (fun a b h => same_pieces ns ms f a b h) e5]
theorem same_root {d e : Po} (h : sameN d.nodes e.nodes 32 d.root e.root = true) : Pa.rootK d = Pa.rootK e := by
 rw [sameN] at h
 unfold Pa.rootK
 cases hx : d.nodes[d.root.toNat]? with
 | none => rw [hx] at h; cases h
 | some x =>
  cases hy : e.nodes[e.root.toNat]? with
  | none => rw [hx, hy] at h; cases h
  | some y =>
   rw [hx, hy] at h
   simp only [Bool.and_eq_true, eqN, decide_eq_true_eq] at h
   exact h.1.1.1.1
theorem same_print {a b : Po} (h : sameP a b = true) : Pa.printP a = Pa.printP b := by
 unfold sameP at h
 simp only [Bool.and_eq_true, decide_eq_true_eq] at h
 obtain ⟨⟨⟨⟨⟨⟨⟨⟨_, _⟩, e1⟩, e2⟩, e3⟩, e4⟩, e5⟩, e6⟩, e7⟩ := h
 have h1 := same_root e7
 have h2 := same_pieces _ _ _ _ _ e7
 unfold Pa.printP Pa.printPc Pa.revealPc Pa.provePc Pa.scopePc Pa.limitPc Pa.escrowPc
 rw [e1, e2, e3, e4, e5, e6, h1, h2]
theorem back_law {d : Po} (h : checkP d = 0) (hb : ∀ n ∈ d.nodes, n.kids.length ≤ 1000000) : ∃ d', zav (Pa.printP d) = (d', 0, 0) ∧ sameP d d' = true ∧ Pa.printP d' = Pa.printP d := by
 obtain ⟨ts, h1, h2⟩ := Pa.okk_sc (Pa.print_okk h hb) 0
 obtain ⟨f, h3, h4⟩ := Pa.print_read h hb h2 (z := ⟨3, [], 0 + (Pa.flat (Pa.printPc d)).length⟩) rfl
 rw [printT_tree h] at h4
 have hc := Pa.check_ck h
 have hv := Pa.tree_vn h
 obtain ⟨P, hP⟩ : ∃ P : Pa.Pl, P = ⟨tl d.name, d.uses.map fun x => (tl x.1, tl x.2), d.reveal.map fun x => (tl x.1, tl x.2), tl d.scope, d.limit, tl d.escrow, f⟩ := ⟨_, rfl⟩
 have hpr : ∀ l : List Bp, (l.map fun x => (tl x.1, tl x.2)).map bpOf = l := fun l => by
  rw [List.map_map]
  conv => rhs; rw [← List.map_id l]
  exact List.map_congr_left fun x _ => by
   show (bs (tl x.1), bs (tl x.2)) = x
   rw [bs_tl, bs_tl]
 have hD : poOf P = ⟨d.name, d.uses, d.reveal, (f.num 0).map nkOf, 0, d.scope, d.limit, d.escrow⟩ := by
  rw [hP]
  show Po.mk (bs (tl d.name)) ((d.uses.map fun x => (tl x.1, tl x.2)).map bpOf) ((d.reveal.map fun x => (tl x.1, tl x.2)).map bpOf) ((f.num 0).map nkOf) 0 (bs (tl d.scope)) d.limit (bs (tl d.escrow)) = _
  rw [bs_tl, bs_tl, bs_tl, hpr, hpr]
 have hcat : f.er = Pa.F.cat ([d.root].map (Pa.treeN d.nodes 32)) := by
  rw [List.map_cons, List.map_nil, Pa.F.cat, Pa.F.cat, Pa.F.app_nil]; exact h4
 have hvl : ∀ x ∈ [d.root], Pa.VN d.nodes 32 true x := fun x hx => by rw [List.mem_singleton.1 hx]; exact hv
 have hH : Holds ((f.num 0).map nkOf) f 0 := fun i x hx => by rw [List.getElem?_map, Nat.zero_add, hx]; rfl
 have hflen : f.len = 1 := by rw [← er_len, hcat, cat_len hvl]; rfl
 have hidx : f.idx 0 = [0] := by
  cases hf : f with
  | nil => rw [hf] at hflen; cases hflen
  | cons n k r =>
   cases r with
   | nil => rfl
   | cons _ _ _ => rw [hf] at hflen; simp [Pa.F.len] at hflen
 have hsame := same_forest d.nodes ((f.num 0).map nkOf) 32 [d.root] true f 0 hvl hcat hH
 have hvis := visit_forest d.nodes ((f.num 0).map nkOf) 32 [d.root] true f 0 hvl hcat hH
 rw [hidx] at hsame hvis
 have hs2 : sameN d.nodes ((f.num 0).map nkOf) 32 d.root 0 = true := by
  have h5 : (sameN d.nodes ((f.num 0).map nkOf) 32 d.root 0 && true) = true := hsame
  rwa [Bool.and_true] at h5
 have hsz : f.size = d.nodes.length := by rw [← Pa.F.er_size, h4, tree_size h]
 have hnl : ((f.num 0).map nkOf).length = f.size := by rw [List.length_map, Pa.F.num_len]
 have hvis2 : visitP ((f.num 0).map nkOf) 32 0 true [] = (0, rng f.size) := by
  have h5 : loopP (fun k S => visitP ((f.num 0).map nkOf) 32 k true S) [(0 : Int)] [] = (0, rng (0 + f.size)) := hvis
  rw [loopP, Nat.zero_add] at h5
  by_cases h6 : (visitP ((f.num 0).map nkOf) 32 0 true []).1 ≠ 0
  ·rw [if_pos h6] at h5; rw [h5] at h6; exact absurd rfl h6
  ·rw [if_neg h6, loopP] at h5
   have h7 := congrArg Prod.snd h5
   exact Prod.ext (Decidable.not_not.1 h6) h7
 have htree : treeP (poOf P) = 0 := by
  rw [hD]
  unfold treeP
  rw [show (⟨d.name, d.uses, d.reveal, (f.num 0).map nkOf, 0, d.scope, d.limit, d.escrow⟩ : Po).nodes = (f.num 0).map nkOf from rfl, show (⟨d.name, d.uses, d.reveal, (f.num 0).map nkOf, 0, d.scope, d.limit, d.escrow⟩ : Po).root = 0 from rfl, hvis2, if_neg (by simp), if_neg]
  rw [Decidable.not_not, rng_len, hnl]
 have hall : ((f.num 0).map nkOf).all (fun n => !decide (n.kind = 9) || memD n.name d.al) = d.nodes.all (fun n => !decide (n.kind = 9) || memD n.name d.al) ∨ d.nodes.all (fun n => !decide (n.kind = 9) || memD n.name d.al) = false ∨ ((f.num 0).map nkOf).all (fun n => !decide (n.kind = 9) || memD n.name d.al) = true := by
  by_cases h6 : d.nodes.all (fun n => !decide (n.kind = 9) || memD n.name d.al) = false
  ·exact .inr (.inl h6)
  ·right; right
   have h7 : d.nodes.all (fun n => !decide (n.kind = 9) || memD n.name d.al) = true := eq_true_of_ne_false h6
   rw [List.all_eq_true]
   intro y hy
   obtain ⟨x, hx, rfl⟩ := List.mem_map.1 hy
   have h8 : x.1 ∈ f.pre := by rw [← f.num_pre 0]; exact List.mem_map.2 ⟨x, hx, rfl⟩
   have h9 : x.1.er ∈ (Pa.treeN d.nodes 32 d.root).pre := by rw [← h4, er_pre]; exact List.mem_map.2 ⟨_, h8, rfl⟩
   obtain ⟨n, hn, e⟩ := tree_from d.nodes 32 d.root _ h9
   have e1 : x.1.kind = n.kind.toNat := (congrArg Pa.Nd.kind e : _)
   have e3 : x.1.name = tl n.name := (congrArg Pa.Nd.name e : _)
   have h10 := List.all_eq_true.1 h7 n hn
   show (!decide (((x.1.kind : Nat) : Int) = 9) || memD (bs x.1.name) d.al) = true
   rw [e1, e3, bs_tl]
   by_cases h11 : ((n.kind.toNat : Nat) : Int) = 9
   ·have h12 : n.kind = 9 := by omega
    rw [decide_eq_true h12] at h10
    simp only [Bool.not_true, Bool.false_or] at h10
    rw [h10]; simp
   ·rw [decide_eq_false h11]; rfl
 have hck : checkP (poOf P) = 0 := by
  have ht := htree
  have h0 := h
  have hA : (poOf P).al = d.al := by rw [hD]
  unfold checkP at h0 ⊢
  rw [hA]
  have hN : namesP (poOf P) = namesP d := by rw [hD]; rfl
  have hU : (poOf P).uses = d.uses := by rw [hD]
  have hR : (poOf P).reveal = d.reveal := by rw [hD]
  have hL : (poOf P).limit = d.limit := by rw [hD]
  have hS : (poOf P).scope = d.scope := by rw [hD]
  have hNn : (poOf P).nodes = (f.num 0).map nkOf := by rw [hD]
  rw [hN, hU, hR, hL, hS, hNn, hnl, hsz, ht]
  rw [za7 h] at h0
  by_cases q1 : 512 < d.nodes.length ∨ d.uses.length < 1 ∨ 4 < d.uses.length ∨ 64 < d.reveal.length
  ·rw [if_pos q1] at h0; cases h0
  ·rw [if_neg q1] at h0 ⊢
   by_cases q2 : namesP d = false
   ·rw [if_pos q2] at h0; cases h0
   ·rw [if_neg q2] at h0 ⊢
    by_cases q3 : d.limit < 0 ∨ 65536 < d.limit ∨ (0 < d.limit ∧ d.scope.size = 0)
    ·rw [if_pos q3] at h0; cases h0
    ·rw [if_neg q3] at h0 ⊢
     rw [if_neg (by simp)] at h0 ⊢
     by_cases q4 : twiceP [] d.al = true ∨ twiceP [] d.reveal = true
     ·rw [if_pos q4] at h0; cases h0
     ·rw [if_neg q4] at h0 ⊢
      by_cases q5 : d.reveal.all (fun x => memD x.1 d.al) = false
      ·rw [if_pos q5] at h0; cases h0
      ·rw [if_neg q5] at h0 ⊢
       by_cases q6 : d.nodes.all (fun n => !decide (n.kind = 9) || memD n.name d.al) = false
       ·rw [if_pos q6] at h0; cases h0
       ·rcases hall with q7 | q7 | q7
        ·rw [q7, if_neg q6]
        ·exact absurd q7 q6
        ·rw [q7]; simp
 have hsm : sameP d (poOf P) = true := by
  unfold sameP
  rw [hck, h, hD]
  show (decide ((0 : Int) = 0) && decide ((0 : Int) = 0) && decide (d.name = d.name) && decide (d.scope = d.scope) && decide (d.limit = d.limit) && decide (d.escrow = d.escrow) && decide (d.uses = d.uses) && decide (d.reveal = d.reveal) && sameN d.nodes ((f.num 0).map nkOf) 32 d.root 0) = true
  rw [hs2]; simp
 refine ⟨poOf P, ?_, hsm, (same_print hsm).symm⟩
 have hsc : Lx.sc (Pa.printP d) = .ok (ts ++ [⟨3, [], 0 + (Pa.flat (Pa.printPc d)).length⟩]) := Lx.sc_iff.2 h1
 unfold zav
 rw [hsc]
 dsimp only
 unfold parseT
 rw [h3]
 dsimp only
 rw [← hP, if_neg (by rw [hck]; simp)]
end Go.Proofs.YtekkapgknohadaaGreatDoor
namespace Go.Proofs.YtekkapgknohadaaGreatDoor.Pa
set_option linter.unusedSimpArgs false
def tsum (l : List Tx) : Nat := (l.map List.length).sum
theorem zbd (t : Tx) (l : List Tx) : tsum (t :: l) = t.length + tsum l := by unfold tsum; rw [List.map_cons, List.sum_cons]
theorem commas_len : ∀ l : List Tx, (commas l).length ≤ tsum l + 2 * l.length
 | [] => Nat.le_refl _
 | [t] => by rw [commas, zbd]; omega
 | t :: u :: r => by
  have := commas_len (u :: r)
  rw [commas, zbd, List.length_append, List.length_append]
  simp only [List.length_cons, List.length_nil] at this ⊢
  omega
theorem getD_len (l : List Tx) : (l.getD 0 []).length + (l.getD 1 []).length + (l.getD 2 []).length ≤ tsum l := by
 match l with
 | [] => exact Nat.le_refl _
 | [a] => rw [zbd]; show a.length + 0 + 0 ≤ _; omega
 | [a, b] => rw [zbd, zbd]; show a.length + b.length + 0 ≤ _; omega
 | a :: b :: c :: r => rw [zbd, zbd, zbd]; show a.length + b.length + c.length ≤ _; omega
theorem tail_len (l : List Tx) : (l.getD 0 []).length + tsum l.tail ≤ tsum l ∧ l.tail.length ≤ l.length := by
 match l with
 | [] => exact ⟨Nat.le_refl _, Nat.le_refl _⟩
 | a :: r => exact ⟨by rw [zbd]; exact Nat.le_refl _, by simp⟩
theorem sgn_len (n : Int) : (sgn n).length ≤ 2 := by
 unfold sgn
 rw [List.getD_eq_getElem?_getD]
 cases hx : cmps[n.toNat]? with
 | none => exact Nat.zero_le _
 | some x =>
  have : ∀ y ∈ cmps, y.length ≤ 2 := by decide
  exact this x (List.mem_of_getElem? hx)
theorem node_len (kind num : Int) (name attr : Tx) (l : List Tx) : (nodeText kind num name attr l).length ≤ 20 + name.length + attr.length + (Lib.itoa num).length + tsum l + 2 * l.length := by
 have hc := commas_len l
 have hg := getD_len l
 have ht := tail_len l
 have hct := commas_len l.tail
 have hs := sgn_len num
 unfold nodeText
 by_cases k0 : kind = 0
 ·rw [if_pos k0]; have : kTrue.length = 4 := rfl; omega
 rw [if_neg k0]
 by_cases k1 : kind = 1
 ·rw [if_pos k1]; have : kFalse.length = 5 := rfl; omega
 rw [if_neg k1]
 by_cases k2 : kind = 2
 ·rw [if_pos k2]; simp only [List.length_append, List.length_cons, List.length_nil]; omega
 rw [if_neg k2]
 by_cases k3 : kind = 3
 ·rw [if_pos k3]; simp only [List.length_append, List.length_cons, List.length_nil]; omega
 rw [if_neg k3]
 by_cases k4 : kind = 4
 ·rw [if_pos k4]; simp only [List.length_append, List.length_cons, List.length_nil]; omega
 rw [if_neg k4]
 by_cases k5 : kind = 5
 ·rw [if_pos k5]; simp only [List.length_append, List.length_cons, List.length_nil]; omega
 rw [if_neg k5]
 by_cases k6 : kind = 6
 ·rw [if_pos k6]; simp only [List.length_append, List.length_cons, List.length_nil]; omega
 rw [if_neg k6]
 by_cases k7 : kind = 7
 ·rw [if_pos k7]; simp only [List.length_append, List.length_cons, List.length_nil]; omega
 rw [if_neg k7]
 by_cases k8 : kind = 8
 ·rw [if_pos k8]; simp only [List.length_append, List.length_cons, List.length_nil]; omega
 rw [if_neg k8]
 by_cases k9 : kind = 9
 ·rw [if_pos k9]; simp only [List.length_append, List.length_cons, List.length_nil]; omega
 rw [if_neg k9]
 by_cases k10 : kind = 10
 ·rw [if_pos k10]; omega
 rw [if_neg k10]; simp only [List.length_append, List.length_cons, List.length_nil]; omega
theorem fm_len {n : Nk} {c : Bool} (h : Fm n c) (hb : n.kids.length ≤ 1000000) : (tl n.name).length ≤ 32 ∧ (tl n.attr).length ≤ 32 ∧ (Lib.itoa n.num).length ≤ 21 := by
 have htx := h.texts
 have h1 := h.low
 have h2 := h.high
 refine ⟨?_, ?_, ?_⟩
 ·unfold textsP at htx
  by_cases h9 : n.kind = 9
  ·rw [if_pos h9, Bool.and_eq_true] at htx; exact (name_t htx.1).le
  ·rw [if_neg h9] at htx
   by_cases h11 : n.kind = 11
   ·rw [if_pos h11, Bool.and_eq_true] at htx; exact (word_t htx.1).2.2
   ·rw [if_neg h11, Bool.and_eq_true] at htx
    rw [size0 (of_decide_eq_true htx.1)]; exact Nat.zero_le _
 ·unfold textsP at htx
  by_cases h9 : n.kind = 9
  ·rw [if_pos h9, Bool.and_eq_true] at htx; exact (name_t htx.2).le
  ·rw [if_neg h9] at htx
   by_cases h11 : n.kind = 11
   ·rw [if_pos h11, Bool.and_eq_true] at htx
    rw [size0 (of_decide_eq_true htx.2)]; exact Nat.zero_le _
   ·rw [if_neg h11, Bool.and_eq_true] at htx
    rw [size0 (of_decide_eq_true htx.2)]; exact Nat.zero_le _
 ·refine Lib.itoa_length_le _ ?_ ?_
  ·unfold lowP at h1; split at h1 <;> (try split at h1) <;> omega
  ·unfold highP at h2; split at h2 <;> (try split at h2) <;> (try split at h2) <;> omega
theorem sum_le {α : Type} (f g : α → Nat) : ∀ l : List α, (∀ x ∈ l, f x + 2 ≤ g x) → (l.map f).sum + 2 * l.length ≤ (l.map g).sum
 | [], _ => Nat.le_refl _
 | x :: l, h => by
  have h1 := h x (List.mem_cons_self ..)
  have h2 := sum_le f g l fun y hy => h y (List.mem_cons_of_mem _ hy)
  rw [List.map_cons, List.map_cons, List.sum_cons, List.sum_cons, List.length_cons]; omega
theorem sum_mul {α : Type} (k : Nat) (g : α → Nat) : ∀ l : List α, (l.map fun x => k * g x).sum = k * (l.map g).sum
 | [] => rfl
 | x :: l => by rw [List.map_cons, List.map_cons, List.sum_cons, List.sum_cons, sum_mul k g l, Nat.mul_add]
theorem text_len (ns : List Nk) (hb : ∀ n ∈ ns, n.kids.length ≤ 1000000) : ∀ f c a, VN ns f c a → (textN ns f a).length + 2 ≤ 110 * (treeN ns f a).size
 | 0, _, _, h => h.elim
 | f + 1, c, a, h => by
  obtain ⟨n, hn, hf, hk⟩ := h
  have hF := form_fm hf
  obtain ⟨l1, l2, l3⟩ := fm_len hF (hb n (List.mem_of_getElem? hn))
  rw [textN_in hn, treeN_in hn]
  have h1 := node_len n.kind n.num (tl n.name) (tl n.attr) (n.kids.map (textN ns f))
  have h2 := sum_le (fun k => (textN ns f k).length) (fun k => 110 * (treeN ns f k).size) n.kids fun k hk' => text_len ns hb f _ k (hk k hk')
  rw [sum_mul] at h2
  have h3 : tsum (n.kids.map (textN ns f)) = (n.kids.map fun k => (textN ns f k).length).sum := by
   unfold tsum; rw [List.map_map]; rfl
  rw [h3, List.length_map] at h1
  have h4 : (F.cons (⟨n.kind.toNat, n.num, tl n.name, tl n.attr, 0⟩ : Nd) (F.cat (n.kids.map (treeN ns f))) .nil).size = (n.kids.map fun k => (treeN ns f k).size).sum + 1 := by
   rw [F.size, zda]; rfl
  rw [h4]
  omega
theorem root_len {d : Po} (h : checkP d = 0) (hb : ∀ n ∈ d.nodes, n.kids.length ≤ 1000000) : (textN d.nodes 32 d.root).length ≤ 56320 := by
 have h1 := text_len d.nodes hb 32 true d.root (tree_vn h)
 have h2 := tree_size h
 have h3 := (check_ck h).nodes
 rw [h2] at h1
 omega
end Go.Proofs.YtekkapgknohadaaGreatDoor.Pa
namespace Go.Proofs.YtekkapgknohadaaGreatDoor
open Go.RowKit Go.Shelf
end Go.Proofs.YtekkapgknohadaaGreatDoor
namespace Go.Proofs.YtekkapgknohadaaGreatDoor.Pa
open Lx (Tok)
set_option linter.unusedSimpArgs false
theorem tsum_le {l : List Tx} {k : Nat} (h : ∀ x ∈ l, x.length ≤ k) : tsum l ≤ k * l.length := by
 induction l with
 | nil => exact Nat.zero_le _
 | cons a l ih =>
  have h1 := h a (List.mem_cons_self ..)
  have h2 := ih fun x hx => h x (List.mem_cons_of_mem _ hx)
  rw [zbd, List.length_cons, Nat.mul_add]; omega
theorem commasP_len {l : List (List Pc)} {k : Nat} (h : ∀ x ∈ l, (flat x).length ≤ k) : (flat (commasP l)).length ≤ (k + 2) * l.length := by
 rw [commas_flat]
 have h1 := commas_len (l.map flat)
 have h2 := tsum_le (l := l.map flat) (k := k) fun x hx => by
  obtain ⟨y, hy, rfl⟩ := List.mem_map.1 hx
  exact h y hy
 rw [List.length_map] at h1 h2
 rw [Nat.add_mul]; omega
theorem flat_len_cons (p : Pc) (l : List Pc) : (flat (p :: l)).length = p.txt.length + (flat l).length := by rw [flat_cons, List.length_append]
theorem zby (l m : List Pc) : (flat (l ++ m)).length = (flat l).length + (flat m).length := by rw [flat_app, List.length_append]
theorem flat_len_nil : (flat []).length = 0 := rfl
theorem print_len {d : Po} (h : checkP d = 0) (hb : ∀ n ∈ d.nodes, n.kids.length ≤ 1000000) : (printP d).length ≤ 64000 := by
 have hc := check_ck h
 have hn := hc.nms
 have hr := root_len h hb
 have hlim : d.uses.length ≤ 4 ∧ d.reveal.length ≤ 64 := by
  unfold checkP at h
  by_cases h1 : 512 < d.nodes.length ∨ d.uses.length < 1 ∨ 4 < d.uses.length ∨ 64 < d.reveal.length
  ·rw [if_pos h1] at h; cases h
  ·omega
 have hname := hn.name.le
 have l1 : (flat (commasP (d.uses.map usePc))).length ≤ 272 := by
  have := commasP_len (l := d.uses.map usePc) (k := 66) fun x hx => by
   obtain ⟨y, hy, rfl⟩ := List.mem_map.1 hx
   have h1 := (hn.uses y hy).1.le
   have h2 := (hn.uses y hy).2.le
   simp only [usePc, flat_len_cons, flat_len_nil, Pc.txt, List.length_cons, List.length_nil]
   have : sColon.length = 1 := rfl
   omega
  rw [List.length_map] at this
  omega
 have l2 : (flat (revealPc d)).length ≤ 4400 := by
  unfold revealPc
  split
  ·exact Nat.zero_le _
  ·have := commasP_len (l := d.reveal.map refPc) (k := 65) fun x hx => by
    obtain ⟨y, hy, rfl⟩ := List.mem_map.1 hx
    have h1 := (hn.reveal y hy).1.le
    have h2 := (hn.reveal y hy).2.le
    simp only [refPc, flat_len_cons, flat_len_nil, Pc.txt]
    have : sDot.length = 1 := rfl
    omega
   rw [List.length_map] at this
   simp only [flat_len_cons, zby, flat_len_nil, Pc.txt, nl, List.length_cons, List.length_nil]
   have : kReveal.length = 6 := rfl
   omega
 have l3 : (flat (provePc d)).length ≤ 56400 := by
  unfold provePc
  split
  ·exact Nat.zero_le _
  ·simp only [flat_len_cons, zby, flat_len_nil, Pc.txt, nl, List.length_cons, List.length_nil, pieces_text]
   have : kProve.length = 5 := rfl
   omega
 have l4 : (flat (scopePc d)).length ≤ 100 := by
  unfold scopePc
  split
  ·exact Nat.zero_le _
  ·rename_i h1
   have h2 := (hn.scope h1).2.2
   have h3 : (flat (limitPc d)).length ≤ 30 := by
    unfold limitPc
    split
    ·have h4 := hc.lim0
     have h5 := hc.lim1
     have h6 := Lib.itoa_length_le d.limit (by omega) (by omega)
     simp only [flat_len_cons, flat_len_nil, Pc.txt, List.length_cons, List.length_nil]
     have : kLimit.length = 5 := rfl
     omega
    ·exact Nat.zero_le _
   simp only [flat_len_cons, zby, flat_len_nil, Pc.txt, nl, List.length_cons, List.length_nil, List.length_append]
   have : kScope.length = 5 := rfl
   omega
 have l5 : (flat (escrowPc d)).length ≤ 50 := by
  unfold escrowPc
  split
  ·exact Nat.zero_le _
  ·rename_i h1
   have h2 := (hn.escrow h1).le
   simp only [flat_len_cons, zby, flat_len_nil, Pc.txt, nl, List.length_cons, List.length_nil]
   have : kEscrow.length = 6 := rfl
   omega
 unfold printP printPc
 simp only [flat_len_cons, zby, flat_len_nil, Pc.txt, List.length_cons, List.length_nil]
 have : kPolicy.length = 6 := rfl
 have : kUses.length = 4 := rfl
 have : kEnd.length = 3 := rfl
 omega
end Go.Proofs.YtekkapgknohadaaGreatDoor.Pa
