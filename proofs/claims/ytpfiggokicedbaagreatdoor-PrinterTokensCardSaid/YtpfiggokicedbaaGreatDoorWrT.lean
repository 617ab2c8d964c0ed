/-
  The statement PrinterTokens: texts, number, the walk. Printed by mkwrt.py.
-/
import Derived.Test.YtpfiggokicedbaaGreatDoorWrZ
import Derived.Test.YtpfiggokicedbaaGreatDoorPrT
import Derived.Test.YtpfiggokicedbaaGreatDoorPgP
import Derived.Deep.LoopGhost
import Derived.Deep.QuietTactic
import Derived.BigQuiet
namespace Go.Proofs.YtpfiggokicedbaaGreatDoor
open Go.RowKit Go.Shelf
set_option linter.unusedVariables false
set_option linter.unusedSimpArgs false

/-- is it no parenthesis? -/
def npT (t : Lx.Tok) : Bool := t.text != [40] && t.text != [41]
/-- the texts without parentheses -/
def txs (ts : List Lx.Tok) : List ByteArray := (ts.filter npT).map fun t => bs t.text
theorem txs_snoc (ts : List Lx.Tok) (i : Nat) (h : i < ts.length) : txs (ts.take (i + 1)) = txs (ts.take i) ++ (if npT ts[i] then [bs ts[i].text] else []) := by
  unfold txs
  rw [List.take_add_one, List.getElem?_eq_getElem h]
  simp only [Option.toList_some, List.filter_append, List.map_append]
  congr 1
  cases hn : npT ts[i] <;> simp [List.filter, hn]
def strsV (l : List ByteArray) : List Value := l.map fun s => Value.string s
theorem strsV_len (l : List ByteArray) : (strsV l).length = l.length := List.length_map _
theorem w_str_info : ∃ i0, Tryz.prog.info? 9 = some i0 ∧ i0.zero = some (.string ⟨#[]⟩) ∧ i0.size = 1 ∧ i0.bytes = 16 := by
  have h : (Tryz.prog.info? 9).map (fun i => (i.zero, i.size, i.bytes)) = some (some (.string ⟨#[]⟩), 1, 16) := by kernel_rfl
  obtain ⟨i, hi, hs⟩ := Option.map_eq_some_iff.1 h
  simp only [Prod.mk.injEq] at hs
  exact ⟨i, hi, hs.1, hs.2.1, hs.2.2⟩
theorem wstrs_row {W : World} {A : Option Addr} {n c : Nat} {l : List ByteArray} (h : W.ownsRow 0 9 1 (.slice A n c) l.length (strsV l)) : ∀ i s, l[i]? = some s → ∃ ad, A = some ad ∧ W.cell? (ad.add i) = some (.string s) := by
  intro i s hs
  have hi := (List.getElem?_eq_some_iff.1 hs).1
  obtain ⟨g, cap, hv, -⟩ := row_form h (by omega)
  injection hv with hA hn hc
  subst hA
  rw [hn] at h
  refine ⟨_, rfl, ?_⟩
  rw [paddr0]
  exact row_cell h (j := i) (by unfold strsV; rw [List.getElem?_map, hs]; rfl)
theorem wnew1 (w : World) (t : TypeId) (a : Value) : ∀ (j : Nat) u, [a][j]? = some u → (w.alloc (.cells #[a] t)).cell? ((⟨w.heap.size, 0, none⟩ : Addr).add j) = some u := by
  intro j u hu
  cases j with
  | zero =>
    simp at hu
    subst hu
    rw [paddr0]
    exact (Blk.new w t [a]).cell 0
  | succ j => simp at hu
set_option maxRecDepth 20000 in
set_option maxHeartbeats 16000000 in
theorem wtexts_any (s : ByteArray) (ts : List Lx.Tok) (hs : s.size ≤ 65536) (h : Lx.sc (tl s) = .ok ts) (h0 : 0 < ts.length) (hl : ts.length ≤ 70000) (hf : ∀ t ∈ ts, t.text.length ≤ 70000) (w : World) :
    Calls Tryz.prog 17 #[.string s] w fun e w' => ∃ A c, e = .returned (.tuple #[.slice A (txs ts).length c, .bool true]) ∧ (∀ i x, (txs ts)[i]? = some x → ∃ ad, A = some ad ∧ w'.cell? (ad.add i) = some (.string x)) ∧ Below w.heap.size w w' := by
  have HS := Lib.hid (scan_ok s ts w hs h h0)
  obtain ⟨i0, hi0, hz0, hz1, hz2⟩ := w_str_info
  clear h hs
  go_enter Tryz.func17, Tryz.ntmps17
  go_wp2_with fail
  refine HS.out.mono ?_
  rintro e w1 ⟨g, cap, rfl, hT, hcap, hb1⟩
  clear HS
  go_upto_region 6 with fail
  have hkN := (Hp.start w1).nilrow 9 1
  go_loopg [7, 8] ts.length (fun m s7 s8 wx => ∃ (i : Nat) (A : Option Addr) (c : Nat), i ≤ ts.length ∧ m = ts.length - i ∧ s7 = .slice A (txs (ts.take i)).length c ∧ s8 = .int .i64 (i : Int) ∧ Hp [] w1 [irow 9 1 (.slice A (txs (ts.take i)).length c) (txs (ts.take i)).length (strsV (txs (ts.take i)))] wx)
  case atStart => exact ⟨0, none, 0, Nat.zero_le _, rfl, rfl, rfl, hkN⟩
  case round =>
    obtain ⟨i, A, c, hi, rfl, rfl, rfl, hM⟩ := hrel
    have hTx := hT.below hM.below0 (Nat.le_refl _)
    clear hkN
    by_cases hil : i < ts.length
    · have hii : (i : Int) < (ts.length : Int) := by omega
      have hi0' : (0 : Int) ≤ (i : Int) := by omega
      obtain ⟨t0, t1, t2⟩ := hTx.at i hil
      have hw3 : IntKind.i64.wrap ((i : Int) + 1) = ((i + 1 : Nat) : Int) := IntWalk.i64_in _ (by omega)
      have HX := Lib.hid (txs_snoc ts i hil)
      have hnl : (txs (ts.take i)).length ≤ 70000 := by
        unfold txs
        rw [List.length_map]
        have h1 := List.length_filter_le npT (ts.take i)
        rw [List.length_take] at h1
        omega
      have HN : Hid (npT ts[i] = (!((bs ts[i].text).toList == [40]) && !((bs ts[i].text).toList == [41]))) := Lib.hid (by
        rw [toList_tl, tl_bs]; rfl)
      generalize npT ts[i] = nb at *
      generalize bs ts[i].text = tx at *
      generalize hl9 : txs (ts.take i) = lx at *
      cases hb0 : (tx.toList == [40]) with
      | true =>
        have hnb : nb = false := by rw [HN.out, hb0]; rfl
        have hb0' : (tx.toList != [40]) = false := by rw [bne, hb0]; rfl
        have hr := HX.out
        rw [hnb] at hr
        simp only [Bool.false_eq_true, if_false, List.append_nil] at hr
        have HR := Lib.hid hr
        clear hr hnb HX HN hl9
        go_wp2_with fail
        go_roundg (ts.length - (i + 1))
        case measure => omega
        case rel => exact ⟨i + 1, A, c, by omega, rfl, by rw [HR.out], by first | rfl | simp, by rw [HR.out]; exact hM⟩
      | false =>
        have hb0' : (tx.toList != [40]) = true := by rw [bne, hb0]; rfl
        cases hb1 : (tx.toList == [41]) with
        | true =>
          have hnb : nb = false := by rw [HN.out, hb0, hb1]; rfl
          have hb1' : (tx.toList != [41]) = false := by rw [bne, hb1]; rfl
          have hr := HX.out
          rw [hnb] at hr
          simp only [Bool.false_eq_true, if_false, List.append_nil] at hr
          have HR := Lib.hid hr
          clear hr hnb HX HN hl9
          go_wp2_with fail
          go_roundg (ts.length - (i + 1))
          case measure => omega
          case rel => exact ⟨i + 1, A, c, by omega, rfl, by rw [HR.out], by first | rfl | simp, by rw [HR.out]; exact hM⟩
        | false =>
          have hnb : nb = true := by rw [HN.out, hb0, hb1]; rfl
          have hb1' : (tx.toList != [41]) = true := by rw [bne, hb1]; rfl
          have hr := HX.out
          rw [hnb, if_pos rfl] at hr
          have HR := Lib.hid hr
          clear hr hnb HX HN hl9
          go_wp2_with (at_builtin; refine wpList_append_own2 rfl _ _ 42 rfl 0 9 i0 _ 1 16 Tryz.underlying42 hi0 hz0 hz1 hz2 rfl (by decide) _ lx.length (strsV lx) rfl ((hM.alloc _).row 0 rfl) ⟨wr.heap.size, 0, none⟩ 1 1 [.string tx] rfl rfl (wnew1 _ _ _) (by intro u hu; simp at hu; rw [hu]; rfl) (by decide) (by unfold maxLen; omega) (by omega) (Nat.zero_le _) ?_; intro v' w5 hown hgrow hat)
          obtain ⟨A2, c2, rfl⟩ := row_forms hown
          have hM3 := (hM.alloc (.cells #[.string tx] 9)).grown 0 rfl hown hgrow hat
          have e1 : strsV lx ++ [Value.string tx] = strsV (txs (ts.take (i + 1))) := by rw [HR.out]; simp [strsV]
          have e2 : lx.length + 1 = (txs (ts.take (i + 1))).length := by rw [HR.out]; simp
          rw [e2]
          rw [e1, e2] at hM3
          clear hown hgrow hat hM hTx e1 e2
          go_wp2_with fail
          go_roundg (ts.length - (i + 1))
          case measure => omega
          case rel => exact ⟨i + 1, A2, c2, by omega, rfl, rfl, by first | rfl | simp, hM3⟩
    · have hii : ¬ (i : Int) < (ts.length : Int) := by omega
      have e1 : ts.take i = ts := List.take_of_length_le (by omega)
      rw [e1] at hM ⊢
      have HR := Lib.hid (wstrs_row (hM.row 0 rfl))
      go_wp2_with fail
      go_ret2
      exact ⟨A, ⟨c, rfl⟩, HR.out, hb1.trans (hM.below0.mono hb1.size)⟩
/-- a number's text -/
def NumL (x : ByteArray) : Prop := ∃ c l, tl x = c :: l ∧ (c = 45 ∨ (48 ≤ c.toNat ∧ c.toNat ≤ 57))
set_option maxRecDepth 20000 in
set_option maxHeartbeats 4000000 in
theorem number_yes (x : ByteArray) (h : NumL x) (w : World) : Calls Tryz.prog 18 #[.string x] w fun e w' => e = .returned (.bool true) ∧ w' = w := by
  obtain ⟨c, l, hx, hc⟩ := h
  have hx2 : x = ⟨(c :: l).toArray⟩ := by apply eq_of_tl; rw [hx]
  have hsz : 0 < x.size := by rw [← length_tl, hx]; simp
  have hsz2 : (0 : Int) < (x.size : Int) := by omega
  have hemp : x.toList.isEmpty = false := by rw [toList_tl, hx]; rfl
  have hx0 : x[0] = c := by subst hx2; rfl
  have hemp2 : (x.toList != []) = true := by rw [toList_tl, hx]; rfl
  have hemp3 : (x.toList == []) = false := by rw [toList_tl, hx]; rfl
  rcases hc with rfl | ⟨h1, h2⟩
  · go_enter Tryz.func18, Tryz.ntmps18
    go_wp2_with fail
    go_ret
    exact ⟨by simp [hx0, hemp], rfl⟩
  · have h48 : (48 : Int) ≤ (c.toNat : Int) := by omega
    have h57 : (c.toNat : Int) ≤ 57 := by omega
    by_cases h45 : (c.toNat : Int) = 45
    · omega
    have h45b : ((c.toNat : Int) == 45) = false := by simpa using h45
    go_enter Tryz.func18, Tryz.ntmps18
    go_wp2_with fail
    go_ret
    subst hx2
    refine ⟨?_, rfl⟩
    have h0 : ∀ h, (⟨(c :: l).toArray⟩ : ByteArray)[0]'h = c := fun _ => rfl
    simp only [h0] at *
    simp [hemp]
    omega
theorem fine_num {t : Lx.Tok} (h : Pa.Fine t) (hk : t.kind = 1) : NumL (bs t.text) := by
  cases h with
  | word w h1 _ => omega
  | name h1 _ => omega
  | sign h1 _ => omega
  | end_ h1 _ => omega
  | num neg d h1 h2 =>
    have he := h2.eq
    cases neg with
    | true => exact ⟨45, d, by rw [tl_bs, he]; rfl, .inl rfl⟩
    | false =>
      have hp := h2.pos
      cases d with
      | nil => simp at hp
      | cons c d =>
        have hd := h2.all c (List.mem_cons_self ..)
        refine ⟨c, d, by rw [tl_bs, he]; rfl, .inr ?_⟩
        unfold Lx.isDig at hd
        simpa [UInt8.le_iff_toNat_le] using hd
theorem npT_np (t : Lx.Tok) : Pa.np (Lx.kt t) = npT t := rfl
theorem bT_rel {ts us : List Lx.Tok} (h : Pa.bT ts = Pa.bT us) (hf : ∀ t ∈ ts, Pa.Fine t) (hg : ∀ t ∈ us, Pa.Fine t) :
    (txs ts).length = (txs us).length ∧ ∀ (i : Nat) x y, (txs ts)[i]? = some x → (txs us)[i]? = some y → x = y ∨ (NumL x ∧ NumL y) := by
  have key : ∀ l : List Lx.Tok, Pa.bT l = (l.filter npT).map fun t => Pa.cl (Lx.kt t) := fun l => by
    unfold Pa.bT Pa.bk
    rw [List.filter_map, List.map_map]
    rfl
  rw [key, key] at h
  have hlen := congrArg List.length h
  rw [List.length_map, List.length_map] at hlen
  refine ⟨by unfold txs; rw [List.length_map, List.length_map]; exact hlen, fun i x y hx hy => ?_⟩
  unfold txs at hx hy
  rw [List.getElem?_map] at hx hy
  obtain ⟨a, ha, rfl⟩ := Option.map_eq_some_iff.1 hx
  obtain ⟨b, hb, rfl⟩ := Option.map_eq_some_iff.1 hy
  have h1 := congrArg (fun l => l[i]?) h
  simp only [List.getElem?_map, ha, hb, Option.map_some, Option.some.injEq] at h1
  have hma := (List.mem_filter.1 (List.mem_of_getElem? ha)).1
  have hmb := (List.mem_filter.1 (List.mem_of_getElem? hb)).1
  unfold Pa.cl Lx.kt at h1
  simp only at h1
  by_cases ka : a.kind = 1
  · by_cases kb : b.kind = 1
    · exact .inr ⟨fine_num (hf a hma) ka, fine_num (hg b hmb) kb⟩
    · rw [if_pos ka, if_neg kb] at h1; cases h1
  · by_cases kb : b.kind = 1
    · rw [if_neg ka, if_pos kb] at h1; cases h1
    · rw [if_neg ka, if_neg kb] at h1
      injection h1 with h1
      exact .inl (by rw [h1])
theorem sc_pos {l : List UInt8} {ts : List Lx.Tok} (h : Lx.Sc 0 l ts) : 0 < ts.length := by
  obtain ⟨us, e, rfl, -⟩ := h.join
  simp
theorem sc_short {l : List UInt8} {ts : List Lx.Tok} (h : Lx.Sc 0 l ts) : ∀ t ∈ ts, t.text.length ≤ l.length := fun t ht => by
  have := h.within t ht
  omega
/-- what is known of a source that is parsed -/
structure TkF (s : ByteArray) (d : Po) (S : ByteArray) (a b : List ByteArray) : Prop where
  chk : checkP d = 0
  root : d.root = 0
  bd : PBd d
  txt : prS d = S
  at_ : ∀ w, Calls Tryz.prog 17 #[.string s] w fun e w' => ∃ A c, e = .returned (.tuple #[.slice A a.length c, .bool true]) ∧ (∀ (i : Nat) x, a[i]? = some x → ∃ ad, A = some ad ∧ w'.cell? (ad.add i) = some (.string x)) ∧ Below w.heap.size w w'
  bt : ∀ w, Calls Tryz.prog 17 #[.string S] w fun e w' => ∃ A c, e = .returned (.tuple #[.slice A b.length c, .bool true]) ∧ (∀ (i : Nat) x, b[i]? = some x → ∃ ad, A = some ad ∧ w'.cell? (ad.add i) = some (.string x)) ∧ Below w.heap.size w w'
  al : a.length ≤ 70000
  rel : Pa.rootK d ≠ 0 → ((∀ x ∈ a, tl x ≠ Pa.kLimit) ∨ d.limit ≠ 0) → a.length = b.length ∧ ∀ (i : Nat) x y, a[i]? = some x → b[i]? = some y → x = y ∨ (NumL x ∧ NumL y)
theorem tkf_of {s : ByteArray} (hs : s.size ≤ 800) (h : (parseP (tl s)).2.2 = 0) : ∃ S a b, TkF s (parseP (tl s)).1 S a b := by
  obtain ⟨-, h2, h3, -⟩ := forms_ok h
  obtain ⟨ts, p, q, hSc, -, -, -⟩ := parse_read h
  have hBd := parse_pbd (tl s) (by rw [length_tl]; omega)
  have hb : ∀ n ∈ (parseP (tl s)).1.nodes, n.kids.length ≤ 1000000 := fun n hn => (hBd.ns n hn).kids
  obtain ⟨d', e1, -, -⟩ := back_law h3 hb
  have hpl := Pa.print_len h3 hb
  obtain ⟨us, p2, q2, hSc2, -, -, -⟩ := parse_read (l := Pa.printP (parseP (tl s)).1) (by rw [e1])
  have l1 := toks_len hSc
  have l2 := toks_len hSc2
  rw [length_tl] at l1
  have hpe : prS (parseP (tl s)).1 = bs (Pa.printP (parseP (tl s)).1) := by unfold prS; rw [if_pos h3]
  refine ⟨_, txs ts, txs us, h3, h2, hBd, rfl, fun w => wtexts_any s ts (by omega) (Lx.sc_iff.2 hSc) (sc_pos hSc) (by omega) (fun t ht => by have := sc_short hSc t ht; rw [length_tl] at this; omega) w, fun w => ?_, ?_, fun hk hl => ?_⟩
  · rw [hpe]
    exact wtexts_any _ us (by rw [size_bs]; omega) (by rw [tl_bs]; exact Lx.sc_iff.2 hSc2) (sc_pos hSc2) (by omega) (fun t ht => by have := sc_short hSc2 t ht; omega) w
  · unfold txs
    rw [List.length_map]
    have := List.length_filter_le npT ts
    omega
  · obtain ⟨us', e3, e4⟩ := tokens_law (Lx.sc_iff.2 hSc) h hb hk (hl.imp (fun hl t ht => by
      intro h9
      have hn : npT t = true := by unfold npT; rw [h9]; rfl
      have := hl (bs t.text) (by unfold txs; exact List.mem_map.2 ⟨t, List.mem_filter.2 ⟨ht, hn⟩, rfl⟩)
      rw [tl_bs] at this
      exact this h9) id)
    have e5 := sc_uniq (Lx.sc_iff.1 e3) hSc2
    subst e5
    exact bT_rel e4 (Pa.sc_fine hSc) (Pa.sc_fine hSc2)
set_option maxRecDepth 20000 in
set_option maxHeartbeats 16000000 in
theorem tokens_walk (s : ByteArray) (w : World) (hG : Glob w) : Calls Tryz.prog 5 #[.string s] w fun e w' => e = .returned (.bool true) ∧ Below w.heap.size w w' := by
  have HAW : Hid (∀ (it : List It) (V : World), Hp [] w it V → Calls Tryz.prog 11 #[] V fun e w' => e = .returned (.bool true) ∧ Hp [] w it w' ∧ Below V.heap.size V w') := Lib.hid fun it V h => (awake43_any V (hG.up h.below0)).mono fun e w' h9 => ⟨h9.1, h.next h9.2, h9.2⟩
  have hk0 := Hp.start w
  by_cases hs : 800 < s.size
  · have hi : (800 : Int) < (s.size : Int) := by omega
    go_enter Tryz.func5, Tryz.ntmps5
    have HA := Lib.hid (HAW.out _ _ hk0)
    go_wp2_with fail
    refine HA.out.mono ?_
    rintro e w90 ⟨rfl, hk90, hb90⟩
    clear HA
    go_wp2_with fail
    go_ret
    exact ⟨rfl, by first | exact hk90.below0 | exact hk90.below0⟩
  have hi : ¬ (800 : Int) < (s.size : Int) := by omega
  have HP := Lib.hid (fun W => Parse_any s (by omega) W)
  have HT := Lib.hid (fun (h : (parseP (tl s)).2.2 = 0) => tkf_of (s := s) (by omega) h)
  generalize parseP (tl s) = R at *
  obtain ⟨d, at1, E⟩ := R
  simp only at HT
  by_cases hE : E = 0
  · subst hE
    obtain ⟨S, a, b, hX⟩ := HT.out rfl
    clear HT
    have hroot := hX.root
    have hbd := hX.bd
    have HPr := Lib.hid (fun LQ V h hg => print_any d LQ hbd V h hg)
    rw [hX.chk, hX.txt] at HPr
    have HAt := Lib.hid hX.at_
    have HBt := Lib.hid hX.bt
    have HRel := Lib.hid hX.rel
    have hal := hX.al
    have HRK : Hid (∃ n, d.nodes[0]? = some n ∧ Pa.rootK d = n.kind) := Lib.hid (by
      obtain ⟨h0, n, hn, -⟩ := tree_wf (check_tree hX.chk)
      rw [hroot] at hn
      exact ⟨n, hn, by unfold Pa.rootK; rw [hroot]; rw [show (0 : Int).toNat = 0 from rfl] at hn ⊢; rw [hn]⟩)
    obtain ⟨n, hn, hkn⟩ := HRK.out
    have hnl : 0 < d.nodes.length := (List.getElem?_eq_some_iff.1 hn).1
    have hn0 : (0 : Int) < (d.nodes.length : Int) := by omega
    have hn1 : ((d.nodes.length : Int) == 0) = false := by simpa using (by omega : ¬ (d.nodes.length : Int) = 0)
    have hr0 : (d.root == 0) = true := by rw [hroot]; rfl
    have hr1 : (d.root != 0) = false := by rw [hroot]; rfl
    have HKN := Lib.hid hkn
    have HN9 := Lib.hid hn
    clear hX hkn hroot HRK hn hbd
    go_enter Tryz.func5, Tryz.ntmps5
    go_wp2_with fail
    refine (HP.out _).mono ?_
    rintro e w1 ⟨⟨⟨ua, uc, ra, rc, na, nc⟩, rfl, hM⟩, hb1⟩
    have hk1 := ((Hp.start w).next hb1).new 26 (polcs d ⟨ua, uc, ra, rc, na, nc⟩)
    have hba := (Below.refl w1.heap.size w1).alloc (Nat.le_refl _) (.cells #[.string d.name, .slice ua d.uses.length uc, .slice ra d.reveal.length rc, .slice na d.nodes.length nc, .int .i64 d.root, .string d.scope, .int .i64 d.limit, .string d.escrow] 26)
    have M1 := hM.up hba
    clear hM hb1 hba HP hk0
    go_upto_region 4 with fail
    have hk1 : Hp [] w [iblk w1.heap.size 26 (polcs d ⟨ua, uc, ra, rc, na, nc⟩)] (w1.alloc (.cells #[.string d.name, .slice ua d.uses.length uc, .slice ra d.reveal.length rc, .slice na d.nodes.length nc, .int .i64 d.root, .string d.scope, .int .i64 d.limit, .string d.escrow] 26)) := hk1
    generalize w1.alloc (.cells #[.string d.name, .slice ua d.uses.length uc, .slice ra d.reveal.length rc, .slice na d.nodes.length nc, .int .i64 d.root, .string d.scope, .int .i64 d.limit, .string d.escrow] 26) = w2 at *
    generalize w1.heap.size = g at *
    obtain ⟨c0, c1, c2, c3, c4, c5, c6, c7⟩ := (hk1.blk 0 rfl).get8
    try simp only at c0 c1 c2 c3 c4 c5 c6 c7
    obtain ⟨ad, KA, kc, hA, hNd⟩ := M1.ns.at_ 0 n HN9.out
    have m0 := hNd.kind
    rw [Nat.zero_mul] at m0
    have m1 : w2.cell? ad = some (.int .i64 n.kind) := by rw [add_none] at m0; exact m0
    simp only at hA
    subst hA
    have HG3 := Lib.hid (fun V (h : Hp [] w [iblk g 26 (polcs d ⟨ua, uc, ra, rc, some ad, nc⟩)] V) => (h.blk 0 rfl).get8)
    by_cases hk0 : n.kind = 0
    · have hk9 : (n.kind == 0) = true := by rw [hk0]; rfl
      clear hNd
      have HA := Lib.hid (HAW.out _ _ hk1)
      go_wp2_with fail
      refine HA.out.mono ?_
      rintro e w90 ⟨rfl, hk90, hb90⟩
      clear HA
      go_wp2_with fail
      go_ret
      exact ⟨rfl, by first | exact hk90.below0 | exact hk90.below0⟩
    · have hk9 : (n.kind == 0) = false := by simpa using hk0
      have HRel2 := Lib.hid (HRel.out (by rw [HKN.out]; exact hk0))
      clear hNd HRel hk0
      have HA := Lib.hid (HPr.out ⟨ua, uc, ra, rc, some ad, nc⟩ w2 M1 (hG.up hk1.below0))
      go_wp2_with fail
      refine HA.out.mono ?_
      rintro e w3 ⟨rfl, hb3⟩
      have hk3 := hk1.next hb3
      have M3 := M1.up hb3
      clear HA hk1 M1 hb3 c0 c1 c2 c3 c4 c5 c6 c7 m0 m1
      go_wp2_with fail
      refine (HAt.out _).mono ?_
      rintro e w4 ⟨A1, k1, rfl, hx1, hb4⟩
      have hk4 := hk3.next hb4
      have M4 := M3.up hb4
      clear hk3 M3 hb4 HAt
      go_wp2_with fail
      refine (HBt.out _).mono ?_
      rintro e w5 ⟨A2, k2, rfl, hx2, hb5⟩
      have hk5 := hk4.next hb5
      have HX1 : Hid (∀ V, Below w5.heap.size w5 V → ∀ i x, a[i]? = some x → ∃ ad, A1 = some ad ∧ V.cell? (ad.add i) = some (.string x)) := Lib.hid fun V h i x hx => by
        obtain ⟨ad, h1, h2⟩ := hx1 i x hx
        exact ⟨ad, h1, scell_up (scell_up h2 hb5) h⟩
      have HX2 : Hid (∀ V, Below w5.heap.size w5 V → ∀ i x, b[i]? = some x → ∃ ad, A2 = some ad ∧ V.cell? (ad.add i) = some (.string x)) := Lib.hid fun V h i x hx => by
        obtain ⟨ad, h1, h2⟩ := hx2 i x hx
        exact ⟨ad, h1, scell_up h2 h⟩
      clear hk4 M4 hb5 HBt hx1 hx2
      go_upto_region 12 with fail
      go_loopg [12] a.length (fun m sk wx => ∃ i : Nat, i ≤ a.length ∧ m = a.length - i ∧ sk = .int .i64 (i : Int) ∧ w5 = wx ∧ Hid (∀ j x, j < i → a[j]? = some x → (x.toList == [108, 105, 109, 105, 116]) = true → (d.limit == 0) = false))
      case atStart => exact ⟨0, Nat.zero_le _, rfl, rfl, rfl, Lib.hid fun j x hj => (by omega)⟩
      case round =>
        obtain ⟨i, hi1, rfl, rfl, rfl, HE⟩ := hrel
        have c6 : w5.cell? ⟨g, 6, none⟩ = some (.int .i64 d.limit) := (hk5.blk 0 rfl).cell 6
        have hw3 : IntKind.i64.wrap ((i : Int) + 1) = ((i + 1 : Nat) : Int) := IntWalk.i64_in _ (by omega)
        by_cases hil : i < a.length
        · have hii : (i : Int) < (a.length : Int) := by omega
          have hi0 : (0 : Int) ≤ (i : Int) := by omega
          obtain ⟨x, hx⟩ : ∃ x, a[i]? = some x := ⟨_, List.getElem?_eq_getElem hil⟩
          obtain ⟨ad1, rfl, hc1⟩ := HX1.out w5 (Below.refl _ _) i x hx
          cases hxl : (x.toList == [108, 105, 109, 105, 116]) with
          | true =>
            cases hlm : (d.limit == 0) with
            | true =>
              clear hx HE
              have HA := Lib.hid (HAW.out _ _ hk5)
              go_wp2_with fail
              refine HA.out.mono ?_
              rintro e w90 ⟨rfl, hk90, hb90⟩
              clear HA
              go_wp2_with fail
              go_ret
              exact ⟨rfl, by first | exact hk90.below0 | exact hk90.below0⟩
            | false =>
              have HE2 : Hid (∀ j x, j < i + 1 → a[j]? = some x → (x.toList == [108, 105, 109, 105, 116]) = true → (d.limit == 0) = false) := Lib.hid fun j x hj hx hxl => hlm
              clear hx HE
              go_wp2_with fail
              go_roundg (a.length - (i + 1))
              case measure => omega
              case rel => exact ⟨i + 1, by omega, rfl, by first | rfl | simp, rfl, HE2⟩
          | false =>
            have HE2 : Hid (∀ j x, j < i + 1 → a[j]? = some x → (x.toList == [108, 105, 109, 105, 116]) = true → (d.limit == 0) = false) := Lib.hid fun j y hj hy hyl => by
              by_cases hji : j = i
              · subst hji
                rw [hx] at hy
                cases hy
                rw [hxl] at hyl; cases hyl
              · exact HE.out j y (by omega) hy hyl
            clear hx HE
            go_wp2_with fail
            go_roundg (a.length - (i + 1))
            case measure => omega
            case rel => exact ⟨i + 1, by omega, rfl, by first | rfl | simp, rfl, HE2⟩
        · have hii : ¬ (i : Int) < (a.length : Int) := by omega
          obtain ⟨r1, r2⟩ := HRel2.out (by
            by_cases hlm : d.limit = 0
            · refine .inl fun x hx h9 => ?_
              obtain ⟨j, hj⟩ := List.mem_iff_getElem?.1 hx
              have hjl := (List.getElem?_eq_some_iff.1 hj).1
              have := HE.out j x (by omega) hj (by rw [toList_tl, h9]; rfl)
              rw [hlm] at this
              cases this
            · exact .inr hlm)
          have HR2 := Lib.hid r2
          have hll : (a.length : Int) = (b.length : Int) := by omega
          have hll2 : ((a.length : Int) != (b.length : Int)) = false := by rw [hll]; simp
          have HLL := Lib.hid r1
          clear r1 r2 HE c6 hll
          go_upto_region 19 with fail
          clear hii hi1 hil hll2
          go_loopg [13] a.length (fun m sk wx => ∃ i : Nat, i ≤ a.length ∧ m = a.length - i ∧ sk = .int .i64 (i : Int) ∧ Hp [] w [iblk g 26 (polcs d ⟨ua, uc, ra, rc, some ad, nc⟩)] wx ∧ Below w5.heap.size w5 wx)
          case atStart => exact ⟨0, Nat.zero_le _, rfl, rfl, hk5, Below.refl _ _⟩
          case round =>
            obtain ⟨k, hk, rfl, rfl, hM, hbw⟩ := hrel
            have hw4 : IntKind.i64.wrap ((k : Int) + 1) = ((k + 1 : Nat) : Int) := IntWalk.i64_in _ (by omega)
            by_cases hkl : k < a.length
            · have hii : (k : Int) < (a.length : Int) := by omega
              have hii2 : (k : Int) < (b.length : Int) := by have := HLL.out; omega
              have hi0 : (0 : Int) ≤ (k : Int) := by omega
              obtain ⟨x, hx⟩ : ∃ x, a[k]? = some x := ⟨_, List.getElem?_eq_getElem hkl⟩
              obtain ⟨y, hy⟩ : ∃ y, b[k]? = some y := ⟨_, List.getElem?_eq_getElem (by have := HLL.out; omega)⟩
              obtain ⟨ad1, rfl, hc1⟩ := HX1.out _ hbw k x hx
              obtain ⟨ad2, rfl, hc2⟩ := HX2.out _ hbw k y hy
              have HXY := Lib.hid (HR2.out k x y hx hy)
              clear hx hy
              cases hxy : (x.toList == y.toList) with
              | true =>
                have hxy2 : (x.toList != y.toList) = false := by rw [bne, hxy]; rfl
                go_upto_region 21 with fail
                go_quiet (fail)
                go_wp2_with fail
                go_roundg (a.length - (k + 1))
                case measure => omega
                case rel => exact ⟨k + 1, by omega, rfl, by first | rfl | simp, hM.drewN nq, below_drewN' hbw nq⟩
              | false =>
                have hxy2 : (x.toList != y.toList) = true := by rw [bne, hxy]; rfl
                have HNN : Hid (NumL x ∧ NumL y) := Lib.hid (HXY.out.resolve_left fun h9 => by
                  rw [h9, beq_self_eq_true] at hxy
                  cases hxy)
                go_upto_region 21 with fail
                obtain ⟨hnx, hny⟩ := HNN.out
                go_quiet ((go_at_call 18; exact Calls.quiet_of_same (number_yes _ (by assumption) _)))
                go_wp2_with fail
                go_roundg (a.length - (k + 1))
                case measure => omega
                case rel => exact ⟨k + 1, by omega, rfl, by first | rfl | simp, hM.drewN nq, below_drewN' hbw nq⟩
            · have hii : ¬ (k : Int) < (a.length : Int) := by omega
              have HA := Lib.hid (HAW.out _ _ hM)
              go_wp2_with fail
              refine HA.out.mono ?_
              rintro e w90 ⟨rfl, hk90, hb90⟩
              clear HA
              go_wp2_with fail
              go_ret
              exact ⟨rfl, by first | exact hk90.below0 | exact hk90.below0⟩
  · have hE1 : (E == 0) = false := by simpa using hE
    have hE2 : (E != 0) = true := by simpa using hE
    clear HT
    go_enter Tryz.func5, Tryz.ntmps5
    go_wp2_with fail
    refine (HP.out _).mono ?_
    rintro e w1 ⟨⟨L, rfl, hM⟩, hb1⟩
    have hk1 := ((Hp.start w).next hb1).new 26 (polcs d L)
    clear hM hb1 HP hk0
    go_upto_region 4 with fail
    have hk1 : Hp [] w [iblk w1.heap.size 26 (polcs d L)] (w1.alloc (.cells #[.string d.name, .slice L.ua d.uses.length L.uc, .slice L.ra d.reveal.length L.rc, .slice L.na d.nodes.length L.nc, .int .i64 d.root, .string d.scope, .int .i64 d.limit, .string d.escrow] 26)) := hk1
    generalize w1.alloc (.cells #[.string d.name, .slice L.ua d.uses.length L.uc, .slice L.ra d.reveal.length L.rc, .slice L.na d.nodes.length L.nc, .int .i64 d.root, .string d.scope, .int .i64 d.limit, .string d.escrow] 26) = w2 at *
    generalize w1.heap.size = g at *
    have HA := Lib.hid (HAW.out _ _ hk1)
    go_wp2_with fail
    refine HA.out.mono ?_
    rintro e w90 ⟨rfl, hk90, hb90⟩
    clear HA
    go_wp2_with fail
    go_ret
    exact ⟨rfl, by first | exact hk90.below0 | exact hk90.below0⟩

end Go.Proofs.YtpfiggokicedbaaGreatDoor
