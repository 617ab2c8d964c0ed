/-
  Numbers that are found under numbers (a map that a call makes); policy.Tidy. Printed by mkpgh.py.
-/
import Derived.Test.YtminghdnclpocaaGreatDoorPgG
import Derived.Deep.CutBlock
namespace Go.Proofs.YtminghdnclpocaaGreatDoor
open Go.RowKit Go.Shelf Go.Maps Go.WideMaps
set_option linter.unusedVariables false

theorem zeroI (w : World) : (zeroValue 3).run Tryz.prog w = .ok (.int .i64 0) w := by kernel_rfl
/-- the map from the elements of a list to their places, as it reads -/
def posM (l : List Int) : DataW Unit := l.zipIdx.foldl (fun m x => m.put (.int .i64 x.1) (.lit (.int .i64 (x.2 : Int)))) (.map [])
theorem posM_snoc (l : List Int) (a : Int) : posM (l ++ [a]) = (posM l).put (.int .i64 a) (.lit (.int .i64 (l.length : Int))) := by
  unfold posM
  rw [List.zipIdx_append, List.foldl_append]
  simp
theorem posM_isMap (l : List Int) : IsMap (posM l) := by
  have : ∀ (xs : List (Int × Nat)) (m : DataW Unit), IsMap m → IsMap (xs.foldl (fun m x => m.put (.int .i64 x.1) (.lit (.int .i64 (x.2 : Int)))) m) := by
    intro xs
    induction xs with
    | nil => intro m h; exact h
    | cons a xs ih => intro m h; exact ih _ (h.put _ _)
  exact this _ _ isMap_empty
theorem posD_snoc {l : List Int} {a k : Int} (ha : a ∉ l) : posD (l ++ [a]) k = if k = a then (l.length : Int) else posD l k := by
  unfold posD
  by_cases hk : k = a
  · subst hk
    rw [if_pos (by simp), if_pos rfl, List.idxOf_append, if_neg ha]
    simp
  · rw [if_neg hk]
    by_cases h2 : k ∈ l
    · rw [if_pos (List.mem_append_left _ h2), if_pos h2, List.idxOf_append, if_pos h2]
    · rw [if_neg h2, if_neg (by simp [h2, hk])]
theorem posM_at (k : Int) (hk : (Lit.int .i64 k).wf = true) : ∀ (n : Nat) (l : List Int), (∀ x ∈ l, (Lit.int .i64 x).wf = true) → l.length = n → l.Nodup → (posM l).atKey (.int .i64 k) (.lit (.int .i64 0)) = .lit (.int .i64 (posD l k)) := by
  intro n
  induction n with
  | zero =>
    intro l _ hl _
    rw [List.eq_nil_of_length_eq_zero hl]
    simp [posM, DataW.atKey, posD]
  | succ n ih =>
    intro l hok hl hnd
    obtain ⟨T, t, rfl⟩ : ∃ T t, l = T ++ [t] := ⟨l.dropLast, l.getLast (by intro h9; rw [h9] at hl; cases hl), (List.dropLast_concat_getLast _).symm⟩
    have hT : T.length = n := by simpa using hl
    obtain ⟨n1, n2, n3⟩ := List.nodup_append.1 hnd
    have ht : t ∉ T := fun h => n3 t h t (by simp) rfl
    rw [posM_snoc, posD_snoc ht]
    by_cases h : k = t
    · subst h
      have hik : WideAt.IsKeyLit (.int .i64 k) := intK.isKey k hk
      rw [if_pos rfl, atKey_put_same (posM_isMap T) hik]
    · rw [if_neg h, atKey_put_other (fun e => h (by injection e)), ih T (fun x hx => hok x (List.mem_append_left _ hx)) hT n1]
/-- the map in a block -/
def imap (b : Nat) (l : List Int) : It := ⟨[b], fun W => (∀ x ∈ l, (Lit.int .i64 x).wf = true) ∧ W.ownsMap Tryz.prog 3 (plainElem (H := Unit) Tryz.prog 3) b l.length (posM l), fun W W' h hp => by
    obtain ⟨ho, es, clock, hb, r⟩ := hp
    exact ⟨ho, es, clock, (h b (List.mem_singleton.2 rfl)).trans hb, r⟩, fun W hp b' hb => by rw [List.mem_singleton.1 hb]; exact World.ownsMap.lt hp.2⟩
set_option maxRecDepth 20000 in
theorem imap_look {W : World} {b : Nat} {l : List Int} (h : (imap b l).P W) (hn : l.Nodup) (k : Int) (hk : (Lit.int .i64 k).wf = true) : (Instr.lookup 86 (.map (some b)) (.int .i64 k) false).run Tryz.prog W = .ok (.int .i64 (posD l k)) W := by
  obtain ⟨c, hrun, hat, hwc⟩ := World.ownsMap.lookup_int h.2 (int_keyed Tryz.underlying3) Tryz.underlying86 Tryz.underlying3 (zeroI W) (keyOf_int_mk Tryz.underlying3 hk)
  rw [posM_at k hk _ l h.1 rfl hn] at hat
  injection hat with h1
  injection h1 with _ h2
  rw [hrun, h2]
theorem Hp.mapNew {o : List Nat} {w W : World} {it : List It} (h : Hp o w it W) : Hp o w (imap W.heap.size [] :: it) (W.alloc (.map #[] 0)) := by
  have h1 : Hp (ow []) W [imap W.heap.size []] (W.alloc (.map #[] 0)) := by
    refine ⟨⟨fun x hx => ?_, by simp [imap]⟩, ⟨(Below.refl _ _).alloc (Nat.zero_le _) _, fun k hk _ => Below.heap_alloc _ _ _ hk, fun b hb => .inr ?_⟩⟩
    · rw [List.mem_singleton.1 hx]; exact ⟨fun x hx => absurd hx List.not_mem_nil, World.ownsMap_made _ _ _ _⟩
    · simp [imap] at hb; omega
  exact Hp.call (a := []) h h1
theorem Hp.mapPut {o : List Nat} {w W W' : World} {it : List It} (h : Hp o w it W) (i : Nat) {b : Nat} {l : List Int} (hx : it[i]? = some (imap b l)) {a : Int} (hs : (Lit.int .i64 a).wf = true) (hown : W'.ownsMap Tryz.prog 3 (plainElem (H := Unit) Tryz.prog 3) b (l.length + 1) ((posM l).put (.int .i64 a) (.lit (.int .i64 (l.length : Int))))) (hg : W.grownBy W' (some b)) :
    Hp o w (it.set i (imap b (l ++ [a]))) W' := by
  have hP : (imap b l).P W := h.sep.ok _ (List.mem_of_getElem? hx)
  refine h.upd i hx (x' := imap b (l ++ [a])) ?_ ⟨⟨hg.os, hg.tape, hg.output, hg.size, fun k hk => absurd hk (Nat.not_lt_zero _)⟩, fun k hk ho => hg.block k hk (fun h9 => ho ?_), fun b' hb => .inl hb⟩ (by simp [imap])
  · refine ⟨fun x hx => ?_, ?_⟩
    · rcases List.mem_append.1 hx with hx | hx
      · exact hP.1 x hx
      · rw [List.mem_singleton.1 hx]; exact hs
    · show W'.ownsMap _ _ _ b (l ++ [a]).length (posM (l ++ [a]))
      rw [List.length_append, posM_snoc]
      exact hown
  · injection h9 with h9
    rw [h9]; simp [imap]
/-- a node, and where its kids lie -/
abbrev KV := Nk × (Option Addr × Nat)
abbrev kvc (x : KV) : List Value := nkcs x.1 x.2.1 x.2.2
def kvcs (P : List KV) : List Value := P.flatMap kvc
theorem kvcs_snoc (P : List KV) (x : KV) : kvcs (P ++ [x]) = kvcs P ++ kvc x := by simp [kvcs]
theorem kvcs_at {P : List KV} {i : Nat} {x : KV} (h : P[i]? = some x) (j : Nat) (hj : j < 6) : (kvcs P)[i * 6 + j]? = (kvc x)[j]? := by
  induction P generalizing i with
  | nil => simp at h
  | cons y P ih =>
    have e : kvcs (y :: P) = kvc y ++ kvcs P := rfl
    cases i with
    | zero =>
      have : y = x := by simpa using h
      subst this
      rw [e, List.getElem?_append_left (by simp; omega), Nat.zero_mul, Nat.zero_add]
    | succ i =>
      have h2 : P[i]? = some x := by simpa using h
      rw [e, List.getElem?_append_right (by simp; omega)]
      have := ih h2
      rw [← this]
      congr 1
      simp; omega
abbrev kvIt (x : KV) : It := iorder (.slice x.2.1 x.1.kids.length x.2.2) x.1.kids
theorem iord_ints {W : World} {A : Option Addr} {n c : Nat} {l : List Int} (h : W.ownsRow 0 3 1 (.slice A n c) l.length (ivals l)) : Ints W A l := by
  refine ⟨fun i s hs => ?_⟩
  have hi := (List.getElem?_eq_some_iff.1 hs).1
  obtain ⟨g, cap, hv, -⟩ := row_form h (by omega)
  injection hv with hA hn hc
  subst hA
  refine ⟨_, rfl, ?_⟩
  rw [paddr0]
  rw [hn] at h
  exact row_cell h (j := i) (by rw [List.getElem?_map, hs]; rfl)
theorem kv_nks {W : World} {A : Option Addr} {n c : Nat} {P : List KV} (h : W.ownsRow 0 46 6 (.slice A n c) P.length (kvcs P)) (hw : ∀ x ∈ P, (kvIt x).P W) : Nks W A (P.map Prod.fst) := by
  refine ⟨fun i f hf => ?_⟩
  rw [List.getElem?_map] at hf
  obtain ⟨x, hx, rfl⟩ := Option.map_eq_some_iff.1 hf
  have hi := (List.getElem?_eq_some_iff.1 hx).1
  obtain ⟨g, cap, hv, -⟩ := row_form h (by omega)
  injection hv with hA hn hc
  subst hA
  rw [hn] at h
  have hc : ∀ j, j < 6 → W.cell? ⟨g, i * 6 + j, none⟩ = (kvc x)[j]? := fun j hj => by
    have h1 := kvcs_at hx j hj
    cases hu : (kvc x)[j]? with
    | none => rw [List.getElem?_eq_none_iff] at hu; simp at hu; omega
    | some u => exact row_cell h (by rw [h1, hu])
  refine ⟨_, x.2.1, x.2.2, rfl, ?_⟩
  rw [paddr0]
  exact ⟨hc 0 (by omega), hc 1 (by omega), hc 2 (by omega), hc 3 (by omega), hc 4 (by omega), hc 5 (by omega), iord_ints (hw x (List.mem_of_getElem? hx))⟩
theorem at_pos_kids (l : List Int) (n : Nk) : (n.at_pos l).kids.length = n.kids.length := List.length_map _
abbrev zPc : List Value := [.string ⟨#[]⟩, .slice none 0 0, .slice none 0 0, .slice none 0 0, .int .i64 0, .string ⟨#[]⟩, .int .i64 0, .string ⟨#[]⟩]
/-- the node that Tidy lays for a node -/
def pickN (d : Po) (S : List Int) (a : Int) : Nk := ((d.nodes[a.toNat]?).getD ⟨0, 0, ⟨#[]⟩, ⟨#[]⟩, [], 0⟩).at_pos S
/-- the pieces of Tidy's second loop -/
def mits (d : Po) (L : Lp) (S : List Int) (RA UA OA : Option Addr) (rcc ucc oc gm g1 g2 g9 : Nat) (P : List KV) (NA : Option Addr) (nc : Nat) : List It :=
  irow 46 6 (.slice NA P.length nc) P.length (kvcs P) :: irow 52 2 (.slice RA d.reveal.length rcc) d.reveal.length (bcells d.reveal) :: iblk g9 27 [.string d.name, .slice UA d.uses.length ucc, .slice RA d.reveal.length rcc, .slice NA P.length nc, .int .i64 0, .string d.scope, .int .i64 d.limit, .string d.escrow] :: imap gm S :: iorder (.slice OA S.length oc) S :: iblk g1 27 (polcs d L) :: irow 50 2 (.slice UA d.uses.length ucc) d.uses.length (bcells d.uses) :: iblk g2 27 zPc :: P.map kvIt
theorem pick_bd {d : Po} (h : PBd d) (S : List Int) (hS : S.length ≤ 512) : PBd (d.pick S) := by
  refine ⟨h.name, h.scope, h.escrow, h.ul, h.rl, ?_, h.us, h.rv, fun n hn => ?_⟩
  · show (S.map _).length ≤ _
    rw [List.length_map]; omega
  · obtain ⟨a, _, rfl⟩ := List.mem_map.1 (show n ∈ S.map _ from hn)
    cases hx : d.nodes[a.toNat]? with
    | none => exact ⟨Nat.zero_le _, Nat.zero_le _, Nat.zero_le _⟩
    | some x =>
      have := h.ns x (List.mem_of_getElem? hx)
      exact ⟨this.name, this.attr, by show ((x.kids.map _).length) ≤ _; rw [List.length_map]; exact this.kids⟩
/-- the outcome -/
def TO (w : World) (r : Po × Int) (e : Ending) (w' : World) : Prop := (∃ L', e = .returned (.tuple #[polV r.1 L', .int .i64 r.2]) ∧ PolM w' r.1 L') ∧ Below w.heap.size w w'
theorem TO.bad {w w' : World} {r : Po × Int} {E : Int} (h : r = (noPo, E)) (hb : Below w.heap.size w w') : TO w r (.returned (.tuple #[.agg #[.string ⟨#[]⟩, .slice none 0 0, .slice none 0 0, .slice none 0 0, .int .i64 0, .string ⟨#[]⟩, .int .i64 0, .string ⟨#[]⟩], .int .i64 E])) w' := by
  subst h
  exact ⟨⟨⟨none, 0, none, 0, none, 0⟩, rfl, ⟨⟨fun i x h => by simp [noPo] at h⟩, ⟨fun i x h => by simp [noPo] at h⟩, ⟨fun i x h => by simp [noPo] at h⟩⟩⟩, hb⟩
set_option maxRecDepth 20000 in
set_option maxHeartbeats 64000000 in
theorem tidy_any (d : Po) (L : Lp) (hB : PBd d) (w : World) (hP : PolM w d L) : Calls Tryz.prog 19 #[polV d L] w (TO w (tidyP d)) := by
  have hmm := @run_makeMap Tryz.prog
  obtain ⟨j0, hj0, hy0, hy1, hy2⟩ := info3 rint_info
  obtain ⟨i0, hi0x, hz0, hz1, hz2⟩ := info3 node_info
  have HV : Hid (tidyP d = if (reachP d.nodes 513 d.root []).1 = false then (noPo, 3) else if checkP (d.pick (reachP d.nodes 513 d.root []).2) ≠ 0 then (noPo, checkP (d.pick (reachP d.nodes 513 d.root []).2)) else (d.pick (reachP d.nodes 513 d.root []).2, 0)) := Lib.hid rfl
  have HR := Lib.hid (reachP_rch d.nodes 513 d.root [] ⟨⟨List.nodup_nil, fun x hx => absurd hx List.not_mem_nil⟩, Nat.zero_le _⟩).1
  have HC0 : (reachP d.nodes 513 d.root []).1 = true → ∀ b ∈ (reachP d.nodes 513 d.root []).2, ∀ n, d.nodes[b.toNat]? = some n → ∀ k ∈ n.kids, k ∈ (reachP d.nodes 513 d.root []).2 := fun h b hb n hn k hk => (reachP_clo d.nodes 513 d.root [] h).1.kids b hb List.not_mem_nil n hn k hk
  generalize tidyP d = R at *
  obtain ⟨g1, hg1⟩ : ∃ g, w.heap.size = g := ⟨_, rfl⟩
  obtain ⟨g2, hg2⟩ : ∃ g, g1 + 1 = g := ⟨_, rfl⟩
  have hk0 := ((Hp.start w).new 27 (polcs d L)).new 27 zPc
  simp only [sizeA] at hk0
  have hP0 := hP.up hk0.below0
  go_enter Tryz.func19, Tryz.ntmps19
  go_upto_region 1 with fail
  simp only [hg1, hg2] at hk0 ⊢
  generalize (w.alloc _).alloc _ = w1 at *
  obtain ⟨c0, c1, c2, c3, c4, c5, c6, c7⟩ := (hk0.blk 1 rfl).get8
  have HC := reached_any d L hB w1 hP0
  obtain ⟨vr, hvr⟩ : ∃ vr, reachP d.nodes 513 d.root [] = vr := ⟨_, rfl⟩
  rw [hvr] at HC
  have HV2 := HV.out
  have HR2 := HR.out
  rw [hvr] at HV2 HR2 HC0
  have HC9 := HC0
  clear HC0
  obtain ⟨ve, S⟩ := vr
  have HV3 := Lib.hid HV2
  have HR3 := Lib.hid HR2
  have HC := Lib.hid HC
  clear hvr HV HR HV2 HR2
  go_wp2_with fail
  refine HC.out.mono ?_
  rintro e w2 ⟨OA, oc, rfl, hr⟩
  try simp only at hr
  have hk1 : Hp [] w ([iorder (.slice OA S.length oc) S] ++ [iblk g2 27 zPc, iblk g1 27 (polcs d L)]) w2 := Hp.call (a := []) hk0 hr
  clear hk0 hr HC c0 c1 c2 c3 c4 c5 c6 c7
  cases ve with
  | false =>
    go_wp2_with (first | refine wpList_store_row rfl 27 (.tmp 2) (.tmp 23) rfl g2 zPc.toArray rfl rfl 27 zPc.toArray (hk1.blk 1 rfl) (by kernel_rfl) (by kernel_rfl) (by kernel_rfl) ?_)
    have hk2 := hk1.rowAt 1 rfl zPc
    obtain ⟨c0, c1, c2, c3, c4, c5, c6, c7⟩ := (hk2.blk 1 rfl).get8
    refine bodyPost_ret (by simp [results, Tryz.results19, go_sem, c0, c1, c2, c3, c4, c5, c6, c7]; try rfl) rfl ?_
    exact TO.bad (by rw [HV3.out]; rfl) hk2.below0
  | true =>
    have HCL := Lib.hid HC9
    clear HC9
    have hSl : S.length ≤ 512 := HR3.out.len
    have hnl := hB.nl
    have HK := Lib.hid (fun (i : Nat) (a : Int) (h : S[i]? = some a) => HR3.out.met.rg a (List.mem_of_getElem? h))
    obtain ⟨gm, hgm⟩ : ∃ g, w2.heap.size = g := ⟨_, rfl⟩
    have hk2 : Hp [] w [imap gm (S.take 0), iorder (.slice OA S.length oc) S, iblk g2 27 zPc, iblk g1 27 (polcs d L)] (w2.alloc (.map #[] 0)) := by
      have h9 := hk1.mapNew
      rw [hgm] at h9
      exact h9
    go_upto_region 5 with fail
    try simp only [hgm]
    generalize w2.alloc (.map #[] 0) = w3 at *
    clear hk1 hgm
    go_upto_region 6 with fail
    go_loopg [27] S.length (fun m s27 wx => ∃ i : Nat, i ≤ S.length ∧ m = S.length - i ∧ s27 = .int .i64 (i : Int) ∧ Hp [] w [imap gm (S.take i), iorder (.slice OA S.length oc) S, iblk g2 27 zPc, iblk g1 27 (polcs d L)] wx)
    case atStart => exact ⟨0, Nat.zero_le _, rfl, rfl, hk2⟩
    case round =>
      obtain ⟨i, hi, rfl, rfl, hMx⟩ := hrel
      clear hk2
      by_cases hil : i < S.length
      · have hii : (i : Int) < (S.length : Int) := by omega
        have hi0 : (0 : Int) ≤ (i : Int) := by omega
        obtain ⟨a, ha⟩ : ∃ a, S[i]? = some a := ⟨_, List.getElem?_eq_getElem hil⟩
        obtain ⟨a0, a1⟩ := HK.out i a ha
        have hwf := int_wf a0 (by omega)
        obtain ⟨ad, hOA, ca⟩ := (iord_ints (hMx.row 1 rfl)).at_ i a ha
        subst hOA
        have htk := take_at ha
        have hti : (S.take i).length = i := by rw [List.length_take]; omega
        have hown : wr.ownsMap Tryz.prog 3 (plainElem (H := Unit) Tryz.prog 3) gm i (posM (S.take i)) := by
          have h9 : wr.ownsMap Tryz.prog 3 (plainElem (H := Unit) Tryz.prog 3) gm (S.take i).length (posM (S.take i)) := (hMx.sep.ok _ (List.mem_cons_self ..)).2
          rw [hti] at h9
          exact h9
        have HTK := Lib.hid (And.intro htk hti)
        clear htk hti ha a0 a1
        go_upto_region 9 with (first | (at_mapUpdate; refine wpList_mapUpdate_own _ rfl _ _ _ 86 rfl 3 3 intK.law Tryz.underlying86 (plainElem (H := Unit) Tryz.prog 3) gm i (posM (S.take i)) rfl hown (by unfold maxLen; omega) _ _ (intK.kl a) rfl rfl (intK.key a hwf) (.lit (.int .i64 (i : Int))) [] (plainElem_int Tryz.underlying3 (int_wf hi0 (by omega))) ?_; intro w4 hown1 hgrow1))
        have hk5 : Hp [] w [imap gm (S.take (i + 1)), iorder (.slice (some ad) S.length oc) S, iblk g2 27 zPc, iblk g1 27 (polcs d L)] w4 := by
          rw [HTK.out.1]
          refine hMx.mapPut 0 rfl hwf ?_ hgrow1
          rw [HTK.out.2]
          exact hown1
        clear hown hown1 hgrow1 hMx ca
        go_wp2_with fail
        go_roundg (S.length - (i + 1))
        case measure => omega
        case rel => exact ⟨i + 1, hil, rfl, by first | rfl | simp, hk5⟩
      · obtain rfl : i = S.length := by omega
        have hii : ¬ (S.length : Int) < (S.length : Int) := by omega
        have hk3 : Hp [] w [imap gm S, iorder (.slice OA S.length oc) S, iblk g2 27 zPc, iblk g1 27 (polcs d L)] wr := by
          rw [List.take_of_length_le (Nat.le_refl _)] at hMx
          exact hMx
        clear hMx hil hi
        obtain ⟨c0, c1, c2, c3, c4, c5, c6, c7⟩ := (hk3.blk 3 rfl).get8
        obtain ⟨g9, hg9⟩ : ∃ g, wr.heap.size = g := ⟨_, rfl⟩
        have hk4 := hk3.new 27 (polcs d L)
        rw [hg9] at hk4
        go_upto_region 11 with fail
        try simp only [hg9]
        have hk4 : Hp [] w _ (wr.alloc (.cells #[.string d.name, .slice L.ua d.uses.length L.uc, .slice L.ra d.reveal.length L.rc, .slice L.na d.nodes.length L.nc, .int .i64 d.root, .string d.scope, .int .i64 d.limit, .string d.escrow] 27)) := hk4
        clear hk3 c0 c1 c2 c3 c4 c5 c6 c7
        generalize wr.alloc _ = w5 at *
        clear hg9
        have hkd := hk4.drew
        have HN1 := Lib.hid (clone_use L.ua L.uc d.uses w5.drew (hP.up hkd.below0).us hB.ul)
        have HN2 := Lib.hid (fun W (h : Below w.heap.size w W) => clone_ref L.ra L.rc d.reveal W (hP.up h).rv hB.rl)
        have e1 := (hkd.blk 4 rfl).cell 1
        have e2 := (hkd.blk 4 rfl).cell 2
        simp only [List.getElem?_cons_zero, List.getElem?_cons_succ] at e1 e2
        go_upto_region 11 with fail
        refine wp_region_held_drew (S := (fun w' => w'.cell? ⟨g1, 1, none⟩ = some (.slice L.ua d.uses.length L.uc) ∧ w'.cell? ⟨g1, 2, none⟩ = some (.slice L.ra d.reveal.length L.rc))) (by kernel_rfl) ?_ (fun hHeld => ?_)
        · exact ⟨e1, e2⟩
        refine wpAnyH_take (i := 0) (v := ?_) rfl (by kernel_rfl) (by kernel_rfl) (by kernel_rfl) (fun _ _ _ h => h) (Or.inl ⟨by rfl, ?_⟩) (by assumption) ?_
        rotate_left
        · (intro w hSw; (try dsimp only at hSw); (try obtain ⟨hSw1, hSw2⟩ := hSw); go_simp; (try with_reducible rfl))
        try simp only [Act.put, List.getElem_toArray, List.getElem_cons_zero, List.setIfInBounds_toArray, List.set_cons_zero, List.set_cons_succ]
        refine wpAnyH_take (i := 1) (v := ?_) rfl (by kernel_rfl) (by kernel_rfl) (by kernel_rfl) (fun _ _ _ h => h) (Or.inl ⟨by rfl, ?_⟩) (by assumption) ?_
        rotate_left
        · (intro w hSw; (try dsimp only at hSw); (try obtain ⟨hSw1, hSw2⟩ := hSw); go_simp; (try with_reducible rfl))
        try simp only [Act.put, List.getElem_toArray, List.getElem_cons_zero, List.getElem_cons_succ, List.setIfInBounds_toArray, List.set_cons_zero, List.set_cons_succ]
        refine wpAnyH_take (i := 3) (v := ?_) rfl (by kernel_rfl) (by kernel_rfl) (by kernel_rfl) (fun _ _ _ h => h) (Or.inl ⟨by rfl, ?_⟩) (by assumption) ?_
        rotate_left
        · (intro w hSw; (try dsimp only at hSw); (try obtain ⟨hSw1, hSw2⟩ := hSw); go_simp; (try with_reducible rfl))
        try simp only [Act.put, List.getElem_toArray, List.getElem_cons_zero, List.getElem_cons_succ, List.setIfInBounds_toArray, List.set_cons_zero, List.set_cons_succ]
        refine wpAnyH_take (i := 4) (v := ?_) rfl (by kernel_rfl) (by kernel_rfl) (by kernel_rfl) (fun _ _ _ h => h) (Or.inl ⟨by rfl, ?_⟩) (by assumption) ?_
        rotate_left
        · (intro w hSw; (try dsimp only at hSw); (try obtain ⟨hSw1, hSw2⟩ := hSw); go_simp; (try with_reducible rfl))
        try simp only [Act.put, List.getElem_toArray, List.getElem_cons_zero, List.getElem_cons_succ, List.setIfInBounds_toArray, List.set_cons_zero, List.set_cons_succ]
        refine wpAnyH_ready (rs := [2]) (by kernel_rfl) (by simp) ?_
        refine AllReadyH.cons rfl (fun K hK => ?_) ?_
        · go_simp
          refine HN1.out.mono ?_
          rintro e w6 ⟨UA, ucc, rfl, hr6⟩
          have hk6 := Hp.call (a := []) hkd hr6
          clear hr6 e1 e2
          have e1 := (hk6.blk 5 rfl).cell 1
          have e2 := (hk6.blk 5 rfl).cell 2
          simp only [List.getElem?_cons_zero, List.getElem?_cons_succ] at e1 e2
          refine hK.out _ _ ?_ (fun hHeld => ?_)
          · exact ⟨e1, e2⟩
          clear hK K
          refine wpAnyH_take (i := 6) (v := ?_) rfl (by kernel_rfl) (by kernel_rfl) (by kernel_rfl) (fun _ _ _ h => h) (Or.inl ⟨by rfl, ?_⟩) (by assumption) ?_
          rotate_left
          · (intro w hSw; (try dsimp only at hSw); (try obtain ⟨hSw1, hSw2⟩ := hSw); go_simp; (try with_reducible rfl))
          try simp only [Act.put, List.getElem_toArray, List.getElem_cons_zero, List.getElem_cons_succ, List.setIfInBounds_toArray, List.set_cons_zero, List.set_cons_succ]
          refine wpAnyH_ready (rs := [5]) (by kernel_rfl) (by simp) ?_
          refine AllReadyH.cons rfl (fun K hK => ?_) ?_
          · go_simp
            refine (HN2.out _ hk6.below0).mono ?_
            rintro e w7 ⟨RA, rcc, rfl, hr7⟩
            have hk7 := Hp.call (a := []) hk6 hr7
            clear hr7 e1 e2
            have e1 := (hk7.blk 6 rfl).cell 1
            have e2 := (hk7.blk 6 rfl).cell 2
            simp only [List.getElem?_cons_zero, List.getElem?_cons_succ] at e1 e2
            have f1 := (hk7.blk 2 rfl).frozen 1
            have q1 := (hk7.blk 2 rfl).cell 1
            simp only [List.getElem?_cons_zero, List.getElem?_cons_succ] at q1
            refine hK.out _ _ ?_ (fun hHeld => ?_)
            · exact ⟨e1, e2⟩
            clear hK K
            refine wpAnyH_ready (rs := [7]) (by kernel_rfl) (by simp) ?_
            refine AllReadyH.cons rfl (fun K hK => ?_) ?_
            · go_simp
              have hk8 := hk7.set 2 rfl 1 (.slice UA d.uses.length ucc)
              clear e1 e2 f1 q1
              have e1 := (hk8.blk 6 rfl).cell 1
              have e2 := (hk8.blk 6 rfl).cell 2
              simp only [List.getElem?_cons_zero, List.getElem?_cons_succ] at e1 e2
              have f1 := (hk8.blk 2 rfl).frozen 2
              have q1 := (hk8.blk 2 rfl).cell 2
              simp only [List.set_cons_zero, List.set_cons_succ, List.getElem?_cons_zero, List.getElem?_cons_succ] at q1
              refine hK.out _ _ ?_ (fun hHeld => ?_)
              · exact ⟨e1, e2⟩
              clear hK K
              refine wpAnyH_take (i := 8) (v := ?_) rfl (by kernel_rfl) (by kernel_rfl) (by kernel_rfl) (fun _ _ _ h => h) (Or.inl ⟨by rfl, ?_⟩) (by assumption) ?_
              rotate_left
              · (intro w hSw; (try dsimp only at hSw); (try obtain ⟨hSw1, hSw2⟩ := hSw); go_simp; (try with_reducible rfl))
              try simp only [Act.put, List.getElem_toArray, List.getElem_cons_zero, List.getElem_cons_succ, List.setIfInBounds_toArray, List.set_cons_zero, List.set_cons_succ]
              refine wpAnyH_ready (rs := [9]) (by kernel_rfl) (by simp) ?_
              refine AllReadyH.cons rfl (fun K hK => ?_) ?_
              · go_simp
                have hk9 := hk8.set 2 rfl 2 (.slice RA d.reveal.length rcc)
                clear e1 e2 f1 q1
                have e1 := (hk9.blk 6 rfl).cell 1
                have e2 := (hk9.blk 6 rfl).cell 2
                simp only [List.getElem?_cons_zero, List.getElem?_cons_succ] at e1 e2
                refine hK.out _ _ ?_ (fun hHeld => ?_)
                · exact ⟨e1, e2⟩
                clear hK K
                refine wpAnyH_done (by kernel_rfl) ?_ _
                clear e1 e2 hk4 hkd hk6 hk7 hk8 HN1 HN2
                have hkA : Hp [] w [irow 52 2 (.slice RA d.reveal.length rcc) d.reveal.length (bcells d.reveal), irow 50 2 (.slice UA d.uses.length ucc) d.uses.length (bcells d.uses), iblk g9 27 [.string d.name, .slice UA d.uses.length ucc, .slice RA d.reveal.length rcc, .slice L.na d.nodes.length L.nc, .int .i64 d.root, .string d.scope, .int .i64 d.limit, .string d.escrow], imap gm S, iorder (.slice OA S.length oc) S, iblk g2 27 zPc, iblk g1 27 (polcs d L)] _ := hk9
                clear hk9
                generalize World.setCell (World.setCell _ _ _) _ _ = w9 at *
                obtain ⟨c0, c1, c2, c3, c4, c5, c6, c7⟩ := (hkA.blk 2 rfl).get8
                have f3 := (hkA.blk 2 rfl).frozen 3
                have f4 := (hkA.blk 2 rfl).frozen 4
                have hkB := (hkA.set 2 rfl 3 (.slice none 0 0)).set 2 rfl 4 (.int .i64 0)
                go_upto_region 13 with fail
                have hkB : Hp [] w [irow 52 2 (.slice RA d.reveal.length rcc) d.reveal.length (bcells d.reveal), irow 50 2 (.slice UA d.uses.length ucc) d.uses.length (bcells d.uses), iblk g9 27 [.string d.name, .slice UA d.uses.length ucc, .slice RA d.reveal.length rcc, .slice none 0 0, .int .i64 0, .string d.scope, .int .i64 d.limit, .string d.escrow], imap gm S, iorder (.slice OA S.length oc) S, iblk g2 27 zPc, iblk g1 27 (polcs d L)] ((w9.setCell ⟨g9, 3, none⟩ (.slice none 0 0)).setCell ⟨g9, 4, none⟩ (.int .i64 0)) := hkB
                generalize (w9.setCell ⟨g9, 3, none⟩ (.slice none 0 0)).setCell ⟨g9, 4, none⟩ (.int .i64 0) = w10 at *
                clear hkA c0 c1 c2 c3 c4 c5 c6 c7 f3 f4
                go_upto_region 14 with fail
                go_loopg [49] S.length (fun m s49 wx => ∃ (i : Nat) (P : List KV) (NA : Option Addr) (nc : Nat), i ≤ S.length ∧ m = S.length - i ∧ s49 = .int .i64 (i : Int) ∧ Hp [] w (mits d L S RA UA OA rcc ucc oc gm g1 g2 g9 P NA nc) wx ∧ Hid (P.map Prod.fst = (S.take i).map (pickN d S)))
                case atStart =>
                  refine ⟨0, [], none, 0, Nat.zero_le _, rfl, rfl, ?_, Lib.hid rfl⟩
                  refine (hkB.nilrow 46 6).perm ?_
                  refine List.Perm.cons _ (List.Perm.cons _ ?_)
                  refine (List.perm_append_comm (l₁ := [_]) (l₂ := [_, _, _, _, _])).trans ?_
                  refine List.Perm.cons _ (List.Perm.cons _ (List.Perm.cons _ ?_))
                  exact List.perm_append_comm (l₁ := [_]) (l₂ := [_, _])
                case round =>
                  obtain ⟨i, P, NA, nc, hi, rfl, rfl, hMx, HE⟩ := hrel
                  clear hkB
                  have hPb : P.length ≤ 512 := by
                    have := congrArg List.length HE.out
                    rw [List.length_map, List.length_map, List.length_take] at this; omega
                  by_cases hil : i < S.length
                  · have hii : (i : Int) < (S.length : Int) := by omega
                    have hi0 : (0 : Int) ≤ (i : Int) := by omega
                    obtain ⟨a0, ha⟩ : ∃ a, S[i]? = some a := ⟨_, List.getElem?_eq_getElem hil⟩
                    obtain ⟨a1, a2⟩ := HK.out i a0 ha
                    obtain ⟨a, rfl⟩ : ∃ k : Nat, a0 = (k : Int) := ⟨a0.toNat, by omega⟩
                    have hal : a < d.nodes.length := by omega
                    obtain ⟨n, hn⟩ : ∃ n, d.nodes[a]? = some n := ⟨_, List.getElem?_eq_getElem hal⟩
                    have hkl := (hB.ns n (List.mem_of_getElem? hn)).kids
                    have HKN : Hid (∀ k ∈ n.kids, (Lit.int .i64 k).wf = true) := Lib.hid fun k hk => by
                      have h1 := HCL.out (by trivial) (a : Int) (List.mem_of_getElem? ha) n (by rw [Int.toNat_natCast]; exact hn) k hk
                      have h2 := HR3.out.met.rg k h1
                      exact int_wf h2.1 (by omega)
                    obtain ⟨ads, hOA, ca⟩ := (iord_ints (hMx.row 4 rfl)).at_ i _ ha
                    subst hOA
                    have HPN : Hid (P.map Prod.fst ++ [n.at_pos S] = (S.take (i + 1)).map (pickN d S)) := Lib.hid (by
                      rw [HE.out, take_at ha, List.map_append]
                      congr 1
                      show [n.at_pos S] = [pickN d S (a : Int)]
                      unfold pickN
                      rw [Int.toNat_natCast, hn]; rfl)
                    obtain ⟨ad, KA, kc, hna, nx0⟩ := hP.ns.at_ a n hn
                    have HNX := Lib.hid nx0
                    have HNA := Lib.hid hna
                    clear hna nx0 ha HE hn hal
                    have c3 : wr.cell? ⟨g1, 3, none⟩ = some (.slice L.na d.nodes.length L.nc) := (hMx.blk 5 rfl).cell 3
                    rw [HNA.out] at c3
                    obtain ⟨x0, x1, x2, x3, x4, x5, -⟩ := HNX.out.up hMx.below0
                    obtain ⟨g12, hg12⟩ : ∃ g, wr.heap.size = g := ⟨_, rfl⟩
                    have hk5 := hMx.new 46 (nkcs n KA kc)
                    rw [hg12] at hk5
                    have hai : (a : Int) < (d.nodes.length : Int) := by omega
                    go_upto_region 17 with fail
                    try simp only [hg12]
                    have hk5 : Hp [] w _ (wr.alloc (.cells #[.int .i64 n.kind, .int .i64 n.num, .string n.name, .string n.attr, .slice KA n.kids.length kc, .int .i64 n.at_] 46)) := hk5
                    clear hMx c3 x0 x1 x2 x3 x4 x5 ca
                    generalize wr.alloc _ = w11 at *
                    clear hg12
                    obtain ⟨y0, y1, y2, y3, y4, y5⟩ := (hk5.blk 0 rfl).get6
                    have f4 := (hk5.blk 0 rfl).frozen 4
                    have hk6 := (hk5.set 0 rfl 4 (.slice none 0 0)).nilrow 3 1
                    go_upto_region 18 with fail
                    have hk6 : Hp [] w (iorder (.slice none 0 0) [] :: iblk g12 46 [.int .i64 n.kind, .int .i64 n.num, .string n.name, .string n.attr, .slice none 0 0, .int .i64 n.at_] :: mits d L S RA UA (some ads) rcc ucc oc gm g1 g2 g9 P NA nc) (w11.setCell ⟨g12, 4, none⟩ (.slice none 0 0)) := hk6
                    generalize w11.setCell ⟨g12, 4, none⟩ (.slice none 0 0) = w12 at *
                    clear hk5 y0 y1 y2 y3 y4 y5 f4
                    have c3 : w12.cell? ⟨g1, 3, none⟩ = some (.slice L.na d.nodes.length L.nc) := (hk6.blk 7 rfl).cell 3
                    rw [HNA.out] at c3
                    have x4 := (HNX.out.up hk6.below0).kids
                    go_upto_region 19 with fail
                    clear c3 x4
                    go_loopg [66] n.kids.length (fun m s66 wx => ∃ (j : Nat) (T : List Int) (VA : Option Addr) (vc : Nat), j ≤ n.kids.length ∧ m = n.kids.length - j ∧ s66 = .int .i64 (j : Int) ∧ Hp [] w (iorder (.slice VA T.length vc) T :: iblk g12 46 [.int .i64 n.kind, .int .i64 n.num, .string n.name, .string n.attr, .slice VA T.length vc, .int .i64 n.at_] :: mits d L S RA UA (some ads) rcc ucc oc gm g1 g2 g9 P NA nc) wx ∧ Hid (T = (n.kids.take j).map (posD S)))
                    case atStart => exact ⟨0, [], none, 0, Nat.zero_le _, rfl, rfl, hk6, Lib.hid rfl⟩
                    case round =>
                      obtain ⟨j, T, VA, vc, hj, rfl, rfl, hMy, HT⟩ := hrel
                      clear hk6
                      have hTl : T.length ≤ 1000000 := by rw [HT.out, List.length_map, List.length_take]; omega
                      by_cases hjl : j < n.kids.length
                      · have hjj : (j : Int) < (n.kids.length : Int) := by omega
                        have hj0' : (0 : Int) ≤ (j : Int) := by omega
                        obtain ⟨k, hk⟩ : ∃ k, n.kids[j]? = some k := ⟨_, List.getElem?_eq_getElem hjl⟩
                        obtain ⟨ka, hKA, hkc⟩ := (HNX.out.ints.up hMy.below0).at_ j k hk
                        subst hKA
                        have hlk := imap_look (hMy.sep.ok (imap gm S) (List.mem_of_getElem? (i := 5) rfl)) HR3.out.met.nd k (HKN.out k (List.mem_of_getElem? hk))
                        have HT2 : Hid (T ++ [posD S k] = (n.kids.take (j + 1)).map (posD S)) := Lib.hid (by rw [HT.out, take_at hk, List.map_append]; rfl)
                        clear hk HT
                        generalize posD S k = v at *
                        obtain ⟨y0, y1, y2, y3, y4, y5⟩ := (hMy.blk 1 rfl).get6
                        go_upto_region 22 with (first | (at_builtin; refine wpList_append_own2 rfl _ _ 44 rfl 0 3 j0 _ 1 8 Tryz.underlying44 hj0 hy0 hy1 hy2 rfl (by decide) _ T.length (ivals T) rfl ((hMy.alloc (.cells #[.int .i64 v] 3)).row 0 rfl) ⟨wr.heap.size, 0, none⟩ 1 1 [.int .i64 v] rfl rfl (new1q _ _ _) (by intro u hu; simp at hu; rw [hu]; rfl) (by decide) (by unfold maxLen; omega) (by omega) (Nat.zero_le _) ?_; intro v' w14 hown hgrow hat; obtain ⟨A2, ca2, rfl⟩ := row_forms hown; have hk7 := (hMy.alloc (.cells #[.int .i64 v] 3)).grown 0 rfl hown hgrow hat; have y4' := (hk7.blk 1 rfl).cell 4; have f4 := (hk7.blk 1 rfl).frozen 4; clear hown hgrow hat))
                        have hk8 : Hp [] w (iorder (.slice A2 (T ++ [v]).length ca2) (T ++ [v]) :: iblk g12 46 [.int .i64 n.kind, .int .i64 n.num, .string n.name, .string n.attr, .slice A2 (T ++ [v]).length ca2, .int .i64 n.at_] :: mits d L S RA UA (some ads) rcc ucc oc gm g1 g2 g9 P NA nc) (w14.setCell ⟨g12, 4, none⟩ (.slice A2 (T.length + 1) ca2)) := by
                          have h9 := hk7.set 1 rfl 4 (.slice A2 (T.length + 1) ca2)
                          have e2 : (T ++ [v]).length = T.length + 1 := by simp
                          have e3 : ivals T ++ [.int .i64 v] = ivals (T ++ [v]) := by simp [ivals]
                          unfold iorder
                          rw [e2, ← e3]
                          exact h9
                        clear hk7 hMy y4' f4 y0 y1 y2 y3 y4 y5 hlk hkc
                        generalize w14.setCell ⟨g12, 4, none⟩ (.slice A2 (T.length + 1) ca2) = w15 at *
                        go_wp2_with fail
                        go_roundg (n.kids.length - (j + 1))
                        case measure => omega
                        case rel => exact ⟨j + 1, T ++ [v], A2, ca2, hjl, rfl, by first | rfl | simp, hk8, HT2⟩
                      · have hjj : ¬ (j : Int) < (n.kids.length : Int) := by omega
                        have hTk : T = (n.at_pos S).kids := by rw [HT.out, List.take_of_length_le (by omega)]; rfl
                        subst hTk
                        clear HT hj hjl
                        obtain ⟨y0, y1, y2, y3, y4, y5⟩ := (hMy.blk 1 rfl).get6
                        have c3 : wr.cell? ⟨g9, 3, none⟩ = some (.slice NA P.length nc) := (hMy.blk 4 rfl).cell 3
                        go_upto_region 24 with (first | (at_builtin; refine wpList_append_own2 rfl _ _ 25 rfl 0 46 i0 _ 6 80 Tryz.underlying25 hi0x hz0 hz1 hz2 rfl (by decide) _ P.length (kvcs P) rfl ((hMy.alloc _).row 2 rfl) ⟨wr.heap.size, 0, none⟩ 1 1 (kvc (n.at_pos S, (VA, vc))) rfl rfl (new6p _ _ _ _ _ _ _ _) (by intro u hu; simp at hu; rcases hu with rfl | rfl | rfl | rfl | rfl | rfl <;> rfl) (by decide) (by unfold maxLen; omega) (by omega) (Nat.zero_le _) ?_; intro v' w14 hown hgrow hat; obtain ⟨A2, ca2, rfl⟩ := row_forms hown; have hk7 := (hMy.alloc (.cells (kvc (n.at_pos S, (VA, vc))).toArray 46)).grown 2 rfl hown hgrow hat; have c3' := (hk7.blk 4 rfl).cell 3; have f3 := (hk7.blk 4 rfl).frozen 3; clear hown hgrow hat))
                        have hk8 : Hp [] w (mits d L S RA UA (some ads) rcc ucc oc gm g1 g2 g9 (P ++ [(n.at_pos S, (VA, vc))]) A2 ca2) (w14.setCell ⟨g9, 3, none⟩ (.slice A2 (P.length + 1) ca2)) := by
                          have h9 := hk7.set 4 rfl 3 (.slice A2 (P.length + 1) ca2)
                          have e2 : (P ++ [((n.at_pos S, (VA, vc)) : KV)]).length = P.length + 1 := by simp
                          unfold mits
                          rw [e2, kvcs_snoc, List.map_append]
                          refine Hp.tail (x := iblk g12 46 [.int .i64 n.kind, .int .i64 n.num, .string n.name, .string n.attr, .slice VA (n.at_pos S).kids.length vc, .int .i64 n.at_]) (h9.perm ?_)
                          refine (List.Perm.swap _ _ _).trans (List.Perm.cons _ ?_)
                          exact (List.perm_append_singleton _ (irow 46 6 (.slice A2 (P.length + 1) ca2) (P.length + 1) (kvcs P ++ kvc (n.at_pos S, (VA, vc))) :: irow 52 2 (.slice RA d.reveal.length rcc) d.reveal.length (bcells d.reveal) :: iblk g9 27 [.string d.name, .slice UA d.uses.length ucc, .slice RA d.reveal.length rcc, .slice A2 (P.length + 1) ca2, .int .i64 0, .string d.scope, .int .i64 d.limit, .string d.escrow] :: imap gm S :: iorder (.slice (some ads) S.length oc) S :: iblk g1 27 (polcs d L) :: irow 50 2 (.slice UA d.uses.length ucc) d.uses.length (bcells d.uses) :: iblk g2 27 zPc :: P.map kvIt)).symm
                        clear hk7 hMy c3 c3' f3 y0 y1 y2 y3 y4 y5
                        generalize w14.setCell ⟨g9, 3, none⟩ (.slice A2 (P.length + 1) ca2) = w15 at *
                        have HPN2 : Hid ((P ++ [((n.at_pos S, (VA, vc)) : KV)]).map Prod.fst = (S.take (i + 1)).map (pickN d S)) := Lib.hid (by rw [List.map_append]; exact HPN.out)
                        clear HPN
                        go_wp2_with fail
                        go_roundg (S.length - (i + 1))
                        case measure => omega
                        case rel => exact ⟨i + 1, _, A2, ca2, hil, rfl, by first | rfl | simp, hk8, HPN2⟩
                  · obtain rfl : i = S.length := by omega
                    have hii : ¬ (S.length : Int) < (S.length : Int) := by omega
                    have hQ : (d.pick S).nodes = P.map Prod.fst := by
                      rw [HE.out, List.take_of_length_le (Nat.le_refl _)]; rfl
                    have hQl : (d.pick S).nodes.length = P.length := by rw [hQ, List.length_map]
                    have hPM : PolM wr (d.pick S) ⟨UA, ucc, RA, rcc, NA, nc⟩ := ⟨bprs_row (hMx.row 6 rfl), bprs_row (hMx.row 1 rfl), by
                      rw [hQ]
                      exact kv_nks (hMx.row 0 rfl) (fun x hx => hMx.sep.ok _ (by unfold mits; simp only [List.mem_cons]; right; right; right; right; right; right; right; right; exact List.mem_map.2 ⟨x, hx, rfl⟩))⟩
                    have hBQ := pick_bd hB S hSl
                    have HC : Hid (Calls Tryz.prog 20 #[.agg #[.string d.name, .slice UA d.uses.length ucc, .slice RA d.reveal.length rcc, .slice NA P.length nc, .int .i64 0, .string d.scope, .int .i64 d.limit, .string d.escrow]] wr fun e w' => e = .returned (.int .i64 (checkP (d.pick S))) ∧ Below wr.heap.size wr w') := Lib.hid (by
                      have h9 := pcheck_any (d.pick S) ⟨UA, ucc, RA, rcc, NA, nc⟩ hBQ wr hPM
                      unfold polV at h9
                      rw [hQl] at h9
                      exact h9)
                    have HQL := Lib.hid hQl
                    have HQ := Lib.hid hQ
                    obtain ⟨c0, c1, c2, c3, c4, c5, c6, c7⟩ := (hMx.blk 2 rfl).get8
                    clear hil hi hQl hQ
                    by_cases hE : checkP (d.pick S) = 0
                    · have HRR : Hid (R = (d.pick S, 0)) := Lib.hid (by rw [HV3.out, if_neg (by simp), if_neg (by rw [hE]; simp)])
                      rw [hE] at HC
                      clear HV3 hE HE
                      go_wp2_with fail
                      refine HC.out.mono ?_
                      rintro e w16 ⟨rfl, hb16⟩
                      have hk9 := hMx.next hb16
                      have hPM9 := hPM.up hb16
                      clear HC hMx hPM hb16 c0 c1 c2 c3 c4 c5 c6 c7
                      obtain ⟨c0, c1, c2, c3, c4, c5, c6, c7⟩ := (hk9.blk 2 rfl).get8
                      go_wp2_with (first | refine wpList_store_row rfl 27 (.tmp 2) (.tmp 92) rfl g2 ([.string d.name, .slice UA d.uses.length ucc, .slice RA d.reveal.length rcc, .slice NA P.length nc, .int .i64 0, .string d.scope, .int .i64 d.limit, .string d.escrow] : List Value).toArray rfl rfl 27 zPc.toArray (hk9.blk 7 rfl) (by kernel_rfl) (by kernel_rfl) (by kernel_rfl) ?_)
                      have hk10 := hk9.rowAt 7 rfl [.string d.name, .slice UA d.uses.length ucc, .slice RA d.reveal.length rcc, .slice NA P.length nc, .int .i64 0, .string d.scope, .int .i64 d.limit, .string d.escrow]
                      have hPM10 : PolM (w16.setRow g2 ([.string d.name, .slice UA d.uses.length ucc, .slice RA d.reveal.length rcc, .slice NA P.length nc, .int .i64 0, .string d.scope, .int .i64 d.limit, .string d.escrow] : List Value).toArray) (d.pick S) ⟨UA, ucc, RA, rcc, NA, nc⟩ := ⟨bprs_row (hk10.row 6 rfl), bprs_row (hk10.row 1 rfl), by
                        rw [HQ.out]
                        exact kv_nks (hk10.row 0 rfl) (fun x hx => hk10.sep.ok _ (by
                          show kvIt x ∈ _ :: _ :: _ :: _ :: _ :: _ :: _ :: _ :: P.map kvIt
                          simp only [List.mem_cons]; right; right; right; right; right; right; right; right; exact List.mem_map.2 ⟨x, hx, rfl⟩))⟩
                      obtain ⟨c0, c1, c2, c3, c4, c5, c6, c7⟩ := (hk10.blk 7 rfl).get8
                      refine bodyPost_ret (by simp [results, Tryz.results19, go_sem, c0, c1, c2, c3, c4, c5, c6, c7]; try rfl) rfl ?_
                      rw [HRR.out]
                      exact ⟨⟨⟨UA, ucc, RA, rcc, NA, nc⟩, by unfold polV; rw [HQL.out]; rfl, hPM10⟩, hk10.below0⟩
                    · have hne : (checkP (d.pick S) != 0) = true := by rw [bne_iff_ne]; exact hE
                      have HRR : Hid (R = (noPo, checkP (d.pick S))) := Lib.hid (by rw [HV3.out, if_neg (by simp), if_pos hE])
                      clear HV3 hE HE
                      generalize checkP (d.pick S) = E at *
                      go_wp2_with fail
                      refine HC.out.mono ?_
                      rintro e w16 ⟨rfl, hb16⟩
                      have hk9 := hMx.next hb16
                      clear HC hMx hPM hb16 c0 c1 c2 c3 c4 c5 c6 c7
                      go_wp2_with (first | refine wpList_store_row rfl 27 (.tmp 2) (.tmp 90) rfl g2 zPc.toArray rfl rfl 27 zPc.toArray (hk9.blk 7 rfl) (by kernel_rfl) (by kernel_rfl) (by kernel_rfl) ?_)
                      have hk10 := hk9.rowAt 7 rfl zPc
                      obtain ⟨c0, c1, c2, c3, c4, c5, c6, c7⟩ := (hk10.blk 7 rfl).get8
                      refine bodyPost_ret (by simp [results, Tryz.results19, go_sem, c0, c1, c2, c3, c4, c5, c6, c7]; try rfl) rfl ?_
                      exact TO.bad HRR.out hk10.below0
              exact AllReadyH.nil
            exact AllReadyH.nil
          exact AllReadyH.nil
        exact AllReadyH.nil
end Go.Proofs.YtminghdnclpocaaGreatDoor
