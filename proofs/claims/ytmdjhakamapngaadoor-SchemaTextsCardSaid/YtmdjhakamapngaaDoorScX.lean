/-
  schema.Parse.
-/
import Derived.Test.YtmdjhakamapngaaDoorScW
namespace Go.Proofs.YtmdjhakamapngaaDoor
open Go.RowKit Go.Shelf
set_option linter.unusedVariables false

/-- the sizes of a field that was read from b bytes -/
structure FB (b : Nat) (f : Fd) : Prop where
  name : f.name.size ≤ b
  words : f.words.length ≤ b
  word : ∀ s ∈ f.words, s.size ≤ b
theorem nameR_len {l t r : List UInt8} (h : nameR l = (some t, r)) : t.length ≤ l.length := by
  unfold nameR at h
  split at h
  · cases h
    have := congrArg List.length (run_split nmN (skS l))
    rw [List.length_append] at this
    have := (skS_suf l).length_le
    omega
  · cases h
theorem wordR_len {l t r : List UInt8} (h : wordR l = (some t, r)) : t.length ≤ l.length := by
  unfold wordR at h
  split at h
  · split at h
    · cases h
      have := congrArg List.length (run_split wdN (skS l).tail)
      rw [List.length_append, List.length_tail] at this
      have := (skS_suf l).length_le
      omega
    · cases h
  · cases h
theorem wordsR_len : ∀ (k : Nat) (l : List UInt8) (ws vs : List ByteArray) (r : List UInt8), wordsR k l ws = (some vs, r) → vs.length ≤ ws.length + l.length ∧ ∀ w ∈ vs, w ∈ ws ∨ w.size ≤ l.length
  | 0, l, ws, vs, r, h => by cases h
  | k + 1, l, ws, vs, r, h => by
    rw [wordsR] at h
    split at h
    · split at h
      · cases h
      · rename_i w q hw
        obtain ⟨h1, h2⟩ := wordsR_len k q (ws ++ [bs w]) vs r h
        have h3 := (wordR_out hw).1
        have h4 := wordR_len hw
        rw [List.length_append, List.length_singleton] at h1
        refine ⟨by omega, fun x hx => ?_⟩
        rcases h2 x hx with h5 | h5
        · rcases List.mem_append.1 h5 with h6 | h6
          · exact .inl h6
          · rw [List.mem_singleton.1 h6, size_bs]; exact .inr h4
        · exact .inr (by omega)
    · cases h
      exact ⟨by omega, fun w hw => .inl hw⟩
theorem fieldR_len {l r : List UInt8} {f : Fd} (h : fieldR l = (some f, r)) : FB l.length f := by
  unfold fieldR at h
  split at h
  · cases h
  · rename_i nm q hq
    have h1 := nameR_len hq
    have h0 := name_suf l
    rw [hq] at h0
    have h0 := h0.length_le
    split at h
    · split at h
      · cases h
      · rename_i ws x hx
        cases h
        obtain ⟨h2, h3⟩ := wordsR_len _ _ _ _ _ hx
        simp only [List.length_nil, Nat.zero_add] at h2
        exact ⟨by rw [size_bs]; exact h1, Nat.le_trans h2 h0, fun s hs => by
          rcases h3 s hs with h4 | h4
          · cases h4
          · exact Nat.le_trans h4 h0⟩
    · split at h
      · cases h
      · split at h
        · split at h
          · cases h
          · split at h
            · cases h
            · cases h
              exact ⟨by rw [size_bs]; exact h1, Nat.zero_le _, fun s hs => by cases hs⟩
        · cases h
theorem fieldsR_len : ∀ (k : Nat) (l : List UInt8) (fs vs : List Fd) (r : List UInt8), fieldsR k l fs = (some vs, r) → vs.length ≤ fs.length + l.length ∧ ∀ f ∈ vs, f ∈ fs ∨ FB l.length f
  | 0, l, fs, vs, r, h => by cases h
  | k + 1, l, fs, vs, r, h => by
    rw [fieldsR] at h
    split at h
    · rename_i h9
      split at h
      · cases h
      · rename_i f q hq
        obtain ⟨h1, h2⟩ := fieldsR_len k q (fs ++ [f]) vs r h
        have h3 := fieldR_len hq
        have h4 := field_suf (skS l).tail
        rw [hq] at h4
        have h4 := h4.length_le
        have hne : skS l ≠ [] := fun h8 => by unfold isR at h9; rw [h8] at h9; cases h9
        have h5 := (skS_suf l).length_le
        have h6 := List.length_pos_iff.2 hne
        rw [List.length_tail] at h4 h3
        rw [List.length_append, List.length_singleton] at h1
        simp only at h4
        refine ⟨by omega, fun x hx => ?_⟩
        rcases h2 x hx with h7 | h7
        · rcases List.mem_append.1 h7 with h8 | h8
          · exact .inl h8
          · rw [List.mem_singleton.1 h8]
            exact .inr ⟨Nat.le_trans h3.name (by omega), Nat.le_trans h3.words (by omega), fun s hs => Nat.le_trans (h3.word s hs) (by omega)⟩
        · exact .inr ⟨Nat.le_trans h7.name (by omega), Nat.le_trans h7.words (by omega), fun s hs => Nat.le_trans (h7.word s hs) (by omega)⟩
    · cases h
      exact ⟨by omega, fun w hw => .inl hw⟩
theorem schemaR_len {l r : List UInt8} {x : ByteArray × List Fd} (hl : l.length ≤ 65536) (h : schemaR l = (some x, r)) : SBd x.1 x.2 := by
  unfold schemaR at h
  split at h
  · cases h
  · rename_i nm q hq
    have h1 := nameR_len hq
    have h0 := name_suf l
    rw [hq] at h0
    have h0 := h0.length_le
    split at h
    · split at h
      · cases h
      · rename_i f q2 hq2
        have h2 := fieldR_len hq2
        have h3 := field_suf (skS q).tail
        rw [hq2] at h3
        have h3 := h3.length_le
        have h5 := (skS_suf q).length_le
        rw [List.length_tail] at h2 h3
        simp only at h3 h0
        split at h
        · cases h
        · rename_i fs x hx
          obtain ⟨h6, h7⟩ := fieldsR_len _ _ _ _ _ hx
          rw [List.length_singleton] at h6
          split at h
          · split at h
            · cases h
              refine ⟨by rw [size_bs]; omega, by show fs.length ≤ _; omega, fun g hg => ?_⟩
              have key : FB 65536 g := by
                rcases h7 g hg with h8 | h8
                · rw [List.mem_singleton.1 h8]
                  exact ⟨Nat.le_trans h2.name (by omega), Nat.le_trans h2.words (by omega), fun s hs => Nat.le_trans (h2.word s hs) (by omega)⟩
                · exact ⟨Nat.le_trans h8.name (by omega), Nat.le_trans h8.words (by omega), fun s hs => Nat.le_trans (h8.word s hs) (by omega)⟩
              exact ⟨Nat.le_trans key.name (by omega), Nat.le_trans key.words (by omega), fun s hs => Nat.le_trans (key.word s hs) (by omega)⟩
            · cases h
          · cases h
    · cases h
/-- fields that have been built lie in memory -/
theorem addr0 (g k : Nat) : (⟨g, 0, none⟩ : Addr).add k = ⟨g, k, none⟩ := by unfold Addr.add; split <;> simp_all
theorem strs_row {W : World} {A : Option Addr} {n c : Nat} {l : List ByteArray} (h : W.ownsRow 0 9 1 (.slice A n c) l.length (svals l)) : Strs W A l := by
  refine ⟨fun i s hs => ?_⟩
  have hi := (List.getElem?_eq_some_iff.1 hs).1
  obtain ⟨g, cap, hv, -⟩ := row_form h (by omega)
  injection hv with hA hn hc
  subst hA
  refine ⟨_, rfl, ?_⟩
  rw [addr0]
  rw [hn] at h
  exact row_cell h (j := i) (u := .string s) (by rw [List.getElem?_map, hs]; rfl)
theorem fcells_at {P : List FV} {i : Nat} {x : FV} (h : P[i]? = some x) (j : Nat) (hj : j < 5) : (fcells P)[i * 5 + j]? = (fcs x.1 x.2.1 x.2.2)[j]? := by
  induction P generalizing i with
  | nil => simp at h
  | cons y P ih =>
    have e : fcells (y :: P) = fcs y.1 y.2.1 y.2.2 ++ fcells P := rfl
    cases i with
    | zero =>
      have : y = x := by simpa using h
      subst this
      rw [e, List.getElem?_append_left (by simp; omega), Nat.zero_mul, Nat.zero_add]
    | succ i =>
      have h2 : P[i]? = some x := by simpa using h
      rw [e, List.getElem?_append_right (by simp; omega)]
      have := ih h2
      rw [← this]
      congr 1
      simp; omega
theorem flds_row {W : World} {A : Option Addr} {n c : Nat} {P : List FV} (h : W.ownsRow 0 49 5 (.slice A n c) P.length (fcells P)) (hw : ∀ x ∈ P, W.ownsRow 0 9 1 (.slice x.2.1 x.1.words.length x.2.2) x.1.words.length (svals x.1.words)) : Flds W A (fds P) := by
  refine ⟨fun i f hf => ?_⟩
  obtain ⟨x, hx, rfl⟩ := (by rw [List.getElem?_map] at hf; exact Option.map_eq_some_iff.1 hf : ∃ x, P[i]? = some x ∧ x.1 = f)
  have hi := (List.getElem?_eq_some_iff.1 hx).1
  obtain ⟨g, cap, hv, -⟩ := row_form h (by omega)
  injection hv with hA hn hc
  subst hA
  rw [hn] at h
  have hc : ∀ j, j < 5 → W.cell? ⟨g, i * 5 + j, none⟩ = (fcs x.1 x.2.1 x.2.2)[j]? := fun j hj => by
    have h1 := fcells_at hx j hj
    cases hu : (fcs x.1 x.2.1 x.2.2)[j]? with
    | none => rw [List.getElem?_eq_none_iff] at hu; simp at hu; omega
    | some u => exact row_cell h (by rw [h1, hu])
  refine ⟨_, x.2.1, x.2.2, rfl, ?_⟩
  rw [addr0]
  exact ⟨hc 0 (by omega), hc 1 (by omega), hc 2 (by omega), hc 3 (by omega), hc 4 (by omega), strs_row (hw x (List.mem_of_getElem? hx))⟩
theorem wIts_row {o : List Nat} {w W : World} {a : List It} {P : List FV} (h : Hp o w (a ++ wIts P) W) : ∀ x ∈ P, W.ownsRow 0 9 1 (.slice x.2.1 x.1.words.length x.2.2) x.1.words.length (svals x.1.words) := fun x hx =>
  h.sep.ok (iws (.slice x.2.1 x.1.words.length x.2.2) x.1.words) (List.mem_append_right _ (List.mem_map.2 ⟨x, hx, rfl⟩))
def PsOut (r : ByteArray × List Fd × Nat × Int) (e : Ending) (w' : World) : Prop := ∃ A c, e = .returned (.tuple #[.agg #[.string r.1, .slice A r.2.1.length c], .int .i64 (r.2.2.1 : Int), .int .i64 r.2.2.2]) ∧ Flds w' A r.2.1
theorem PsOut.bad {r : ByteArray × List Fd × Nat × Int} {n : Nat} {E : Int} {w' : World} (h : r = (ByteArray.empty, [], n, E)) : PsOut r (.returned (.tuple #[.agg #[.string ByteArray.empty, .slice none 0 0], .int .i64 (n : Int), .int .i64 E])) w' := by
  subst h
  exact ⟨none, 0, rfl, ⟨fun i f hf => by simp at hf⟩⟩
set_option maxRecDepth 20000 in
set_option maxHeartbeats 8000000 in
theorem Parse_any (s : ByteArray) (hs : s.size ≤ 65536) (w : World) (hG : Glob w) : Calls Tryd.prog 26 #[.string s] w fun e w' => PsOut (parseS (tl s)) e w' ∧ Below w.heap.size w w' := by
  have hmf : ∀ (fn : Fn) (first cap : Array Value) (w : World), (Instr.makeFunc fn first cap).run Tryd.prog w = .ok (.func fn first cap) w := fun _ _ _ _ => rfl
  have hlt : ¬ (65536 : Int) < (s.size : Int) := by omega
  have hlen : (tl s).length = s.size := length_tl s
  have h00 : s.size - (tl s).length = 0 := by omega
  have hh : Hp [] w [iblk (w.heap.size + 1 + 1 + 1 + 1) 87 [ptr (w.heap.size + 1 + 1 + 1)], irdS (w.heap.size + 1 + 1 + 1) s (tl s), iblk (w.heap.size + 1 + 1) 29 [.int .i64 0], iblk (w.heap.size + 1) 3 [.int .i64 0], iblk w.heap.size 24 zS]
      (((((w.alloc (.cells #[.string ⟨#[]⟩, .slice none 0 0] 24)).alloc (.cells #[.int .i64 0] 3)).alloc (.cells #[.int .i64 0] 29)).alloc (.cells #[.string s, .int .i64 0] 89)).alloc (.cells #[.pointer (some ⟨w.heap.size + 1 + 1 + 1, 0, none⟩)] 87)) := by
    have := (((((Hp.start w).new 24 zS).new 3 [.int .i64 0]).new 29 [.int .i64 0]).new 89 [.string s, .int .i64 0]).new 87 [ptr (w.heap.size + 1 + 1 + 1)]
    have hsz : ∀ (w : World) (o : Obj), (w.alloc o).heap.size = w.heap.size + 1 := fun w o => by simp
    simp only [hsz] at this
    have e9 : irdS (w.heap.size + 1 + 1 + 1) s (tl s) = iblk (w.heap.size + 1 + 1 + 1) 89 [.string s, .int .i64 0] := by rw [irdS, h00]; rfl
    rw [e9]
    exact this
  go_enter_defers Tryd.func26, Tryd.ntmps26
  go_wp2_with fail
  generalize ((((w.alloc (.cells #[.string ⟨#[]⟩, .slice none 0 0] 24)).alloc (.cells #[.int .i64 0] 3)).alloc (.cells #[.int .i64 0] 29)).alloc (.cells #[.string s, .int .i64 0] 89)).alloc (.cells #[.pointer (some ⟨w.heap.size + 1 + 1 + 1, 0, none⟩)] 87) = W5 at *
  have hD : w.heap.size ≤ w.heap.size + 1 + 1 + 1 := by omega
  generalize w.heap.size + 1 + 1 + 1 + 1 = bp at *
  generalize w.heap.size + 1 + 1 + 1 = gr at *
  generalize w.heap.size + 1 + 1 = be at *
  generalize w.heap.size + 1 = ba at *
  have hGG : GlobG gr W5 := fun W' hb => hG.up (hh.below0.trans (hb.mono hD))
  have hh2 : Hp [] w [irdS gr s (tl s), iblk bp 87 [ptr gr], iblk w.heap.size 24 zS, iblk ba 3 [.int .i64 0], iblk be 29 [.int .i64 0]] W5 :=
    hh.perm ((List.Perm.swap _ _ _).trans (List.Perm.cons _ (List.Perm.cons _ ((List.Perm.cons _ (List.Perm.swap _ _ _)).trans ((List.Perm.swap _ _ _).trans (List.Perm.cons _ (List.Perm.swap _ _ _)))))))
  clear hh hD
  generalize hbf : w.heap.size = bsh at *
  have HC := rdschema_any gr s (by omega) (tl s) (List.suffix_refl _) W5 hh2.rdB hGG
  have hPV : parseS (tl s) = match schemaR (tl s) with
    | (none, r) => (ByteArray.empty, [], (tl s).length - r.length, 4)
    | (some (nm, fs), _) => if schemaE nm fs ≠ 0 then (ByteArray.empty, [], 0, schemaE nm fs) else (nm, fs, 0, 0) := rfl
  have hSB : ∀ x r, schemaR (tl s) = (some x, r) → SBd x.1 x.2 := fun x r h => schemaR_len (by omega) h
  generalize schemaR (tl s) = sr at *
  obtain ⟨so, q⟩ := sr
  refine HC.mono ?_
  cases so with
  | none =>
    rintro e w6 ⟨rfl, hH⟩
    have hS : Hp [] w (pits bp gr bsh ba be s q zS (.int .i64 0) (.int .i64 0) ++ []) w6 := (hh2.rd hH).perm (List.Perm.swap _ _ _)
    have HV : Hid (parseS (tl s) = (ByteArray.empty, [], s.size - q.length, 4)) := Lib.hid (by rw [hPV, hlen])
    clear hh2 hH HC hPV
    unfold panR
    go_wp2_with fail
    refine leaves_cons (f := 48) (args := #[ptr bp, ptr bsh, ptr ba, ptr be]) (by simp) (by simp [go_sem]) ?_
    refine (catch_pan bp gr bsh ba be s q _ _ _ _ [] w6 hS).mono ?_
    rintro e u' w'' ⟨rfl, rfl, hT⟩
    obtain ⟨d0, d1⟩ := (hT.blk 2 rfl).get2
    have d2 := (hT.blk 3 rfl).cell 0
    have d3 := (hT.blk 4 rfl).cell 0
    simp only [List.getElem?_cons_zero] at d2 d3
    have HT := Lib.hid hT.below0
    clear hT hS
    simp [Leaves, settle, results, Tryd.results26, go_sem, d0, d1, d2, d3]
    exact ⟨PsOut.bad HV.out, HT.out⟩
  | some x =>
    rintro e w6 ⟨A, c, P, hP, rfl, hH⟩
    obtain ⟨nm, fs⟩ := x
    simp only at hP hH
    subst hP
    have hS : Hp [] w (pits bp gr bsh ba be s q zS (.int .i64 0) (.int .i64 0) ++ (ifs (.slice A P.length c) P :: wIts P)) w6 := by
      have h1 := Hp.call (a := [irdS gr s (tl s)]) (a' := irdS gr s q :: ifs (.slice A P.length c) P :: wIts P) hh2 hH
      refine h1.perm ?_
      refine (List.Perm.cons _ (List.perm_append_comm (l₁ := ifs (.slice A P.length c) P :: wIts P))).trans ?_
      exact List.Perm.swap _ _ _
    have hB := hSB _ _ rfl
    have HV : Hid (parseS (tl s) = if schemaE nm (fds P) ≠ 0 then (ByteArray.empty, [], 0, schemaE nm (fds P)) else (nm, fds P, 0, 0)) := Lib.hid hPV
    clear hh2 hH HC hPV hSB
    have hfl : (fds P).length = P.length := by simp
    go_wp2_with (refine wpList_store_row rfl 24 (.tmp 2) (.tmp 16) rfl bsh ([.string nm, .slice A P.length c] : List Value).toArray rfl rfl 24 zS.toArray (hS.blk 2 rfl) (by kernel_rfl) (by kernel_rfl) (by kernel_rfl) ?_
                 have hS2 := hS.rowAt 2 rfl [.string nm, .slice A P.length c]
                 obtain ⟨d0, d1⟩ := (hS2.blk 2 rfl).get2)
    have hS3 : Hp [] w (pits bp gr bsh ba be s q [.string nm, .slice A P.length c] (.int .i64 0) (.int .i64 0) ++ (ifs (.slice A P.length c) P :: wIts P)) (w6.setRow bsh #[.string nm, .slice A P.length c]) := hS2
    clear hS hS2
    generalize w6.setRow bsh #[.string nm, .slice A P.length c] = w7 at *
    have hFl : ∀ {W : World} {sc : List Value} {a b : Value}, Hp [] w (pits bp gr bsh ba be s q sc a b ++ (ifs (.slice A P.length c) P :: wIts P)) W → Flds W A (fds P) := fun h => flds_row (h.row 5 rfl) (wIts_row (a := pits bp gr bsh ba be s q _ _ _ ++ [ifs (.slice A P.length c) P]) (by simpa using h))
    have HCk := check_any nm A c (fds P) hB w7 (hFl hS3)
    rw [hfl] at HCk
    generalize schemaE nm (fds P) = E at *
    refine HCk.mono ?_
    rintro e w8 ⟨rfl, hb8⟩
    have hS4 := hS3.next hb8
    clear hS3 hb8 HCk d0 d1
    cases hE : (E != 0) with
    | true =>
      have HV2 : Hid (parseS (tl s) = (ByteArray.empty, [], 0, E)) := Lib.hid (by rw [HV.out, if_pos (by simpa using hE)])
      go_wp2_with (refine wpList_store_row rfl 24 (.tmp 2) (.tmp 21) rfl bsh zS.toArray rfl rfl 24 [.string nm, .slice A P.length c].toArray (hS4.blk 2 rfl) (by kernel_rfl) (by kernel_rfl) (by kernel_rfl) ?_
                   have hS5 := hS4.rowAt 2 rfl zS
                   have c4 := (hS5.blk 3 rfl).cell 0
                   have f4 := (hS5.blk 3 rfl).frozen 0
                   have hS6 := hS5.set 3 rfl 0 (.int .i64 0)
                   have c5 := (hS6.blk 4 rfl).cell 0
                   have f5 := (hS6.blk 4 rfl).frozen 0
                   have hS7 := hS6.set 4 rfl 0 (.int .i64 E)
                   simp only [List.getElem?_cons_zero] at c4 c5)
      refine leaves_cons (f := 48) (args := #[ptr bp, ptr bsh, ptr ba, ptr be]) (by simp) (by simp [go_sem]) ?_
      refine (catch_idle bp bsh ba be _).mono ?_
      rintro e u' w'' ⟨rfl, rfl, rfl⟩
      obtain ⟨d0, d1⟩ := (hS7.blk 2 rfl).get2
      have d2 := (hS7.blk 3 rfl).cell 0
      have d3 := (hS7.blk 4 rfl).cell 0
      have HT := Lib.hid hS7.below0
      clear hS4 hS5 hS6 c4 c5 f4 f5 hS7
      simp at d0 d1 d2 d3
      simp [Leaves, settle, results, Tryd.results26, go_sem, d0, d1, d2, d3]
      exact ⟨PsOut.bad HV2.out, HT.out⟩
    | false =>
      have HV2 : Hid (parseS (tl s) = (nm, fds P, 0, 0)) := Lib.hid (by rw [HV.out, if_neg (by simpa using hE)])
      obtain ⟨d0, d1⟩ := (hS4.blk 2 rfl).get2
      go_wp2_with (refine wpList_store_row rfl 24 (.tmp 2) (.tmp 23) rfl bsh [.string nm, .slice A P.length c].toArray rfl rfl 24 [.string nm, .slice A P.length c].toArray (hS4.blk 2 rfl) (by kernel_rfl) (by kernel_rfl) (by kernel_rfl) ?_
                   have hS5 := hS4.rowAt 2 rfl [.string nm, .slice A P.length c]
                   have c4 := (hS5.blk 3 rfl).cell 0
                   have f4 := (hS5.blk 3 rfl).frozen 0
                   have hS6 := hS5.set 3 rfl 0 (.int .i64 0)
                   have c5 := (hS6.blk 4 rfl).cell 0
                   have f5 := (hS6.blk 4 rfl).frozen 0
                   have hS7 := hS6.set 4 rfl 0 (.int .i64 0)
                   clear d0 d1
                   simp only [List.getElem?_cons_zero] at c4 c5)
      refine leaves_cons (f := 48) (args := #[ptr bp, ptr bsh, ptr ba, ptr be]) (by simp) (by simp [go_sem]) ?_
      refine (catch_idle bp bsh ba be _).mono ?_
      rintro e u' w'' ⟨rfl, rfl, rfl⟩
      obtain ⟨d0, d1⟩ := (hS7.blk 2 rfl).get2
      have d2 := (hS7.blk 3 rfl).cell 0
      have d3 := (hS7.blk 4 rfl).cell 0
      have HT := Lib.hid hS7.below0
      have HFl := Lib.hid (hFl hS7)
      clear hS4 hS5 hS6 c4 c5 f4 f5 hS7
      simp at d0 d1 d2 d3
      simp [Leaves, settle, results, Tryd.results26, go_sem, d0, d1, d2, d3]
      refine ⟨⟨A, c, ?_, ?_⟩, HT.out⟩
      · rw [HV2.out, hfl]; rfl
      · rw [HV2.out]; exact HFl.out
end Go.Proofs.YtmdjhakamapngaaDoor
