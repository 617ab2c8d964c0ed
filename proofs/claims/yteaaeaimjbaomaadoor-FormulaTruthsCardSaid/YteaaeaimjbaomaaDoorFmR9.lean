/-
  formula.Parse.
-/
import Derived.Test.YteaaeaimjbaomaaDoorFmR8
import Derived.Test.YteaaeaimjbaomaaDoorFm4
namespace Go.Proofs.YteaaeaimjbaomaaDoor
open Go.RowKit
set_option linter.unusedVariables false

def parseP (l : List UInt8) : List Gt × Nat × Int :=
  if l = [] then ([], 0, 0)
  else if (gateP (l.length + 1) l []).1 = false ∨ (gateP (l.length + 1) l []).2.1 ≠ [] then ([], l.length - (gateP (l.length + 1) l []).2.1.length, 4)
  else if (leavesP (gateP (l.length + 1) l []).2.2).2 = false ∨ 512 < (gateP (l.length + 1) l []).2.2.length then ([], 0, 3)
  else ((gateP (l.length + 1) l []).2.2, 0, 0)
/-- gates that have been built lie in memory -/
theorem gates_of {o : List Nat} {w W : World} {x : It} {A : Option Addr} {n c : Nat} {P : List GV} {r : List It} (h : Hp o w (x :: irow 40 3 (.slice A n c) P.length (gcells P) :: (kidIts P ++ r)) W) : Gates W W.heap.size A (gts P) := by
  refine ⟨fun hne => ?_⟩
  have hr := h.row 1 rfl
  have hpos : 0 < P.length := by
    rcases Nat.eq_zero_or_pos P.length with h9 | h9
    · exact absurd (by rw [List.eq_nil_of_length_eq_zero h9]; rfl) hne
    · exact h9
  obtain ⟨g, cap, hv, -⟩ := row_form hr hpos
  injection hv with hA hn hc
  subst hA
  subst hn
  subst hc
  refine ⟨_, rfl, (hr.lt g rfl).2, fun i y hy => ?_⟩
  rw [List.getElem?_map] at hy
  obtain ⟨z, hz, rfl⟩ := Option.map_eq_some_iff.1 hy
  obtain ⟨a1, a2, a3⟩ := gcells_at hz
  have e0 : ∀ j, (⟨g, 0, none⟩ : Addr).add j = ⟨g, j, none⟩ := fun j => by unfold Addr.add; split <;> simp_all
  have hk : W.ownsRow 0 3 1 z.2 z.1.kids.length (ivals z.1.kids) := h.row (i + 2) (by
    show (kidIts P ++ r)[i]? = _
    have hl : i < (kidIts P).length := by rw [kidIts, List.length_map]; exact (List.getElem?_eq_some_iff.1 hz).1
    rw [List.getElem?_append_left hl, kidIts, List.getElem?_map, hz]; rfl)
  obtain ⟨KA, kc, hzz⟩ := row_forms hk
  rw [e0]
  refine ⟨row_cell hr a1, ⟨KA, kc, ?_, ⟨fun hl => ?_⟩⟩, row_cell hr a3⟩
  · rw [← hzz]; exact row_cell hr a2
  · have hkp : 0 < z.1.kids.length := by
      rcases Nat.eq_zero_or_pos z.1.kids.length with h9 | h9
      · exact absurd (List.eq_nil_of_length_eq_zero h9) hl
      · exact h9
    obtain ⟨gk, ck, hv, -⟩ := row_form hk hkp
    rw [hzz] at hv
    injection hv with hA _ _
    rw [hzz] at hk
    subst hA
    refine ⟨_, rfl, (hk.lt gk rfl).2, fun j v hv => ?_⟩
    exact hk.cells rfl j v hv
/-- no gate has more kids than the text has bytes -/
theorem kids_kids {g : List UInt8 → List Gt → GR} {b : Nat} (hg : ∀ l G, l.length ≤ b → (g l G).1 = true → ∀ x ∈ (g l G).2.2, x ∈ G ∨ x.kids.length ≤ b) (hgo : ∀ l G, GOut l G (g l G)) :
    ∀ (m : Nat) (l : List UInt8) (G : List Gt) (ks : List Int), l.length ≤ b → (kidsR g m l G ks).1.1 = true → ∀ x ∈ (kidsR g m l G ks).1.2.2, x ∈ G ∨ x.kids.length ≤ b
  | 0, l, G, ks, hb, h => by cases h
  | m + 1, l, G, ks, hb, h => by
    have hd : (l.drop 1).length ≤ b := by rw [List.length_drop]; omega
    rw [kidsR] at h ⊢
    by_cases c1 : (g (l.drop 1) G).1 = false
    · rw [if_pos c1] at h; rw [c1] at h; cases h
    · have c1' : (g (l.drop 1) G).1 = true := by simpa using c1
      rw [if_neg c1] at h ⊢
      have h1 := hg _ G hd c1'
      by_cases c2 : (g (l.drop 1) G).2.1.headD 0 = 44
      · rw [if_pos c2] at h ⊢
        intro x hx
        rcases kids_kids hg hgo m _ _ _ (Nat.le_trans (hgo (l.drop 1) G).rest hd) h x hx with h2 | h2
        · exact h1 x h2
        · exact .inr h2
      · rw [if_neg c2] at h ⊢
        by_cases c3 : (g (l.drop 1) G).2.1.headD 0 = 41
        · rw [if_pos c3]; exact h1
        · rw [if_neg c3] at h; cases h
theorem gate_kids : ∀ (f : Nat) (b : Nat) (l : List UInt8) (G : List Gt), l.length ≤ b → (gateP f l G).1 = true → ∀ x ∈ (gateP f l G).2.2, x ∈ G ∨ x.kids.length ≤ b
  | 0, b, l, G, hb, h => by cases h
  | f + 1, b, l, G, hb, h => by
    rw [gateP] at h ⊢
    by_cases c1 : nOk l = false
    · rw [if_pos c1] at h; cases h
    · rw [if_neg c1] at h ⊢
      have hr := nOk_rest (l := l) (by simpa using c1)
      by_cases c2 : (l.drop (numLen l)).headD 0 ≠ 40
      · rw [if_pos c2]
        intro x hx
        rcases List.mem_append.1 hx with hx | hx
        · exact .inl hx
        · rw [List.mem_singleton.1 hx]; exact .inr (Nat.zero_le _)
      · rw [if_neg c2] at h ⊢
        have c2' : (l.drop (numLen l)).headD 0 = 40 := Classical.byContradiction c2
        have hne : l.drop (numLen l) ≠ [] := by
          intro h9
          rw [h9] at c2'; cases c2'
        have ho := kids_out (gate_out f) f (l.drop (numLen l)) (G ++ [⟨0, [], 0⟩]) [] hne
        have hk := kids_kids (g := gateP f) (b := b) (fun l G hl => gate_kids f b l G hl) (gate_out f) f (l.drop (numLen l)) (G ++ [⟨0, [], 0⟩]) [] (by omega)
        generalize kidsR (gateP f) f (l.drop (numLen l)) (G ++ [⟨0, [], 0⟩]) [] = q at *
        by_cases c3 : q.1.1 = false
        · rw [if_pos c3] at h; rw [c3] at h; cases h
        · rw [if_neg c3]
          have c3' : q.1.1 = true := by simpa using c3
          have k1 := (ho.kn c3').1
          have k2 := ho.cnt c3'
          simp only [List.length_nil, List.length_append, List.length_cons] at k1 k2
          intro x hx
          rcases List.mem_or_eq_of_mem_set hx with hx | rfl
          · rcases hk c3' x hx with h1 | h1
            · rcases List.mem_append.1 h1 with h1 | h1
              · exact .inl h1
              · rw [List.mem_singleton.1 h1]; exact .inr (Nat.zero_le _)
            · exact .inr h1
          · right
            show q.2.length ≤ b
            omega
theorem parse_kids {l : List UInt8} {b : Nat} (hb : l.length ≤ b) : ∀ x ∈ (parseP l).1, x.kids.length ≤ b := by
  intro x hx
  unfold parseP at hx
  split at hx
  · cases hx
  · split at hx
    · cases hx
    · split at hx
      · cases hx
      · rename_i h1 h2
        rcases gate_kids (l.length + 1) b l [] hb (by simpa using fun h9 => h1 (.inl h9)) x hx with h3 | h3
        · cases h3
        · exact h3
def ParseOut (r : List Gt × Nat × Int) (e : Ending) (w' : World) : Prop := ∃ A c, e = .returned (.tuple #[.agg #[.slice A r.1.length c], .int .i64 (r.2.1 : Int), .int .i64 r.2.2]) ∧ Gates w' w'.heap.size A r.1
set_option maxRecDepth 20000 in
set_option maxHeartbeats 4000000 in
theorem Parse_any (s : ByteArray) (hs : s.size ≤ 2000) (w : World) : Calls Tryd.prog 24 #[.string s] w fun e w' => ParseOut (parseP (tl s)) e w' ∧ Below w.heap.size w w' := by
  have hmf : ∀ (fn : Fn) (first cap : Array Value) (w : World), (Instr.makeFunc fn first cap).run Tryd.prog w = .ok (.func fn first cap) w := fun _ _ _ _ => rfl
  have hlt : ¬ (65536 : Int) < (s.size : Int) := by omega
  have hk : Kp w [(w.heap.size + 1 + 1, 27, [.int .i64 0]), (w.heap.size + 1, 3, [.int .i64 0]), (w.heap.size, 24, [.slice none 0 0])] (((w.alloc (.cells #[.slice none 0 0] 24)).alloc (.cells #[.int .i64 0] 3)).alloc (.cells #[.int .i64 0] 27)) := by
    have := (((Kp.start w).new 24 [.slice none 0 0]).new 3 [.int .i64 0]).new 27 [.int .i64 0]
    simpa using this
  by_cases hz : s.size = 0
  · have HV : Hid (parseP (tl s) = ([], 0, 0)) := by refine Lib.hid ?_; rw [parseP, if_pos (tl_empty hz)]
    obtain ⟨e1, e2⟩ := str_empty hz
    go_enter_defers Tryd.func24, Tryd.ntmps24
    go_wp2_with fail
    obtain ⟨b0, b1, b2⟩ := And.intro ((hk.at_ 2 rfl).cell 0) (And.intro ((hk.at_ 1 rfl).cell 0) ((hk.at_ 0 rfl).cell 0))
    simp only [List.getElem?_cons_zero] at b0 b1 b2
    simp [bodyPostD, Leaves, results, Tryd.results24, go_sem, b0, b1, b2]
    refine ⟨⟨none, 0, ?_, ?_⟩, hk.below⟩
    · rw [HV.out]; rfl
    · rw [HV.out]; exact ⟨fun h9 => absurd rfl h9⟩
  · obtain ⟨e1, e2⟩ := str_full (s := s) (by omega)
    go_enter_defers Tryd.func24, Tryd.ntmps24
    have hlen : (tl s).length = s.size := length_tl s
    have hPne : tl s ≠ [] := by intro h9; rw [h9] at hlen; simp at hlen; omega
    have hh : Hp [] w [iblk (w.heap.size + 1 + 1 + 1 + 1) 86 [ptr (w.heap.size + 1 + 1 + 1)], irdr (w.heap.size + 1 + 1 + 1) s 0 (.slice none 0 0), iblk (w.heap.size + 1 + 1) 27 [.int .i64 0], iblk (w.heap.size + 1) 3 [.int .i64 0], iblk w.heap.size 24 [.slice none 0 0]]
        (((((w.alloc (.cells #[.slice none 0 0] 24)).alloc (.cells #[.int .i64 0] 3)).alloc (.cells #[.int .i64 0] 27)).alloc (.cells #[.string s, .int .i64 0, .slice none 0 0] 88)).alloc (.cells #[.pointer (some ⟨w.heap.size + 1 + 1 + 1, 0, none⟩)] 86)) := by
      have := (((((Hp.start w).new 24 [.slice none 0 0]).new 3 [.int .i64 0]).new 27 [.int .i64 0]).new 88 [.string s, .int .i64 0, .slice none 0 0]).new 86 [ptr (w.heap.size + 1 + 1 + 1)]
      have hsz : ∀ (w : World) (o : Obj), (w.alloc o).heap.size = w.heap.size + 1 := fun w o => by simp
      simp only [hsz] at this
      exact this
    go_wp2_with fail
    generalize ((((w.alloc (.cells #[.slice none 0 0] 24)).alloc (.cells #[.int .i64 0] 3)).alloc (.cells #[.int .i64 0] 27)).alloc (.cells #[.string s, .int .i64 0, .slice none 0 0] 88)).alloc (.cells #[.pointer (some ⟨w.heap.size + 1 + 1 + 1, 0, none⟩)] 86) = W5 at *
    have hD : w.heap.size < w.heap.size + 1 ∧ w.heap.size + 1 < w.heap.size + 1 + 1 ∧ w.heap.size + 1 + 1 < w.heap.size + 1 + 1 + 1 ∧ w.heap.size + 1 + 1 + 1 < w.heap.size + 1 + 1 + 1 + 1 := by omega
    clear hk
    generalize w.heap.size + 1 + 1 + 1 + 1 = bp at *
    generalize w.heap.size + 1 + 1 + 1 = gr at *
    generalize w.heap.size + 1 + 1 = be at *
    generalize w.heap.size + 1 = ba at *
    generalize hbf : w.heap.size = bf at *
    have hh2 : Hp [] w (rits gr s 0 (.slice none 0 0) [] ++ [iblk bp 86 [ptr gr], iblk be 27 [.int .i64 0], iblk ba 3 [.int .i64 0], iblk bf 24 [.slice none 0 0]]) W5 := by
      have h1 := hh.nilrow 40 3
      refine h1.perm ?_
      refine (List.Perm.swap _ _ _).trans ?_
      refine List.Perm.trans (List.Perm.cons _ (List.Perm.swap _ _ _)) ?_
      refine List.Perm.trans (List.Perm.swap _ _ _) ?_
      exact List.Perm.cons _ (List.Perm.swap _ _ _)
    clear hh
    refine (gate_any gr s hs (s.size + 1) 0 (.slice none 0 0) [] W5 (Nat.zero_le _) (by omega) (by simpa using hs) hh2.sub.sep).mono ?_
    rintro e w6 ⟨p', vg', its, hp', hrest, hH, hbad, hgood⟩
    have hS := (Hp.call hh2 hH).perm List.perm_append_comm
    clear hh2 hH
    rw [List.drop_zero] at hrest hbad hgood
    have HV0 : Hid (parseP (tl s) = if (gateP (s.size + 1) (tl s) []).1 = false ∨ (gateP (s.size + 1) (tl s) []).2.1 ≠ [] then ([], s.size - (gateP (s.size + 1) (tl s) []).2.1.length, 4)
        else if (leavesP (gateP (s.size + 1) (tl s) []).2.2).2 = false ∨ 512 < (gateP (s.size + 1) (tl s) []).2.2.length then ([], 0, 3)
        else ((gateP (s.size + 1) (tl s) []).2.2, 0, 0)) := by
      refine Lib.hid ?_
      rw [parseP, if_neg hPne, hlen]
    have hkids := gate_kids (s.size + 1) 2000 (tl s) [] (by omega)
    have hout := gate_out (s.size + 1) (tl s) []
    have hgts : gts [] = [] := rfl
    rw [hgts] at hrest hbad hgood
    generalize gateP (s.size + 1) (tl s) [] = r at *
    have hrl := size_drop hp' hrest
    by_cases hb : r.1 = true
    · obtain ⟨rfl, Pn, rfl, hg9⟩ := hgood hb
      rw [List.nil_append] at hS hg9
      have hcn := hout.cnt hb
      rw [List.length_nil, Nat.zero_add, hlen] at hcn
      have hgl : (gts Pn).length = Pn.length := by simp
      have hrg : r.2.2.length = Pn.length := by rw [← hg9, hgl]
      obtain ⟨A, c, rfl⟩ := row_forms (hS.row 5 rfl)
      have hkk := hkids hb
      clear hbad hgood hkids hout
      by_cases hps : p' < s.size
      · have HV : Hid (parseP (tl s) = ([], p', 4)) := by
          refine Lib.hid ?_
          rw [HV0.out, if_pos (.inr (by intro h9; rw [h9] at hrl; simp at hrl; omega)), hrl, show s.size - (s.size - p') = p' by omega]
        have hpi : (p' : Int) < (s.size : Int) := by omega
        have c0 := (hS.blk 0 rfl).cell 0
        have c1 := (hS.blk 4 rfl).cell 1
        have c4 := (hS.blk 1 rfl).cell 0
        have c3 := (hS.blk 2 rfl).cell 0
        have c2 := (hS.blk 3 rfl).cell 0
        have f4 := (hS.blk 1 rfl).frozen 0
        have f3 := (hS.blk 2 rfl).frozen 0
        have f2 := (hS.blk 3 rfl).frozen 0
        have hS2 := ((hS.set 3 rfl 0 (.slice none 0 0)).set 2 rfl 0 (.int .i64 (p' : Int))).set 1 rfl 0 (.int .i64 4)
        have d0 := (hS2.blk 3 rfl).cell 0
        have d1 := (hS2.blk 2 rfl).cell 0
        have d2 := (hS2.blk 1 rfl).cell 0
        simp only [List.getElem?_cons_zero, List.getElem?_cons_succ, List.set_cons_zero] at c0 c1 c2 c3 c4 d0 d1 d2
        have HS2 := Lib.hid hS2.below0
        clear hS hS2 hb HV0 hkk hg9 hrg hcn
        go_wp2_with fail
        refine leaves_cons (f := 45) (args := #[ptr bp, ptr bf, ptr ba, ptr be]) (by simp) (by simp [go_sem]) ?_
        refine (catch_pan bp bf ba be gr p' _ _ _ [] _ c0 c1 c2 c3 c4 f2 f3 f4 (by omega)).mono ?_
        rintro e u' w'' ⟨rfl, rfl, rfl⟩
        simp [Leaves, settle, results, Tryd.results24, go_sem, d0, d1, d2]
        refine ⟨⟨none, 0, ?_, ?_⟩, HS2.out⟩
        · rw [HV.out]; rfl
        · rw [HV.out]; exact ⟨fun h9 => absurd rfl h9⟩
      · have hpe : p' = s.size := by omega
        have hpi : ¬ (p' : Int) < (s.size : Int) := by omega
        have hnil : r.2.1 = [] := by rw [hrest, List.drop_eq_nil_of_le (by rw [length_tl]; omega)]
        have HV1 : Hid (parseP (tl s) = if (leavesP (gts Pn)).2 = false ∨ 512 < Pn.length then ([], 0, 3) else (gts Pn, 0, 0)) := by
          refine Lib.hid ?_
          rw [HV0.out, if_neg (by rw [hb, hnil]; simp), hg9, hrg]
        have hF : (gts Pn).length ≤ 1000000 := by omega
        have hK : ∀ x ∈ gts Pn, x.kids.length ≤ 1000000 := fun x hx => by
          rw [hg9] at hx
          rcases hkk x hx with h9 | h9
          · cases h9
          · omega
        have c0 := (hS.blk 0 rfl).cell 0
        have c1 := (hS.blk 4 rfl).cell 1
        have c2 := (hS.blk 4 rfl).cell 2
        have c3 := (hS.blk 3 rfl).cell 0
        have f3 := (hS.blk 3 rfl).frozen 0
        simp only [List.getElem?_cons_zero, List.getElem?_cons_succ] at c0 c1 c2 c3
        have hS3 := hS.set 3 rfl 0 (.slice A Pn.length c)
        clear hS HV0 hkk hg9 hrg hrest hnil
        go_upto_region 11 with fail
        clear c0 c1 c2 c3 f3
        have hS4 : Hp [] w (iblk bp 86 [ptr gr] :: iblk be 27 [.int .i64 0] :: iblk ba 3 [.int .i64 0] :: iblk bf 24 [.slice A Pn.length c] :: rits gr s p' (.slice A Pn.length c) Pn) (w6.setCell ⟨bf, 0, none⟩ (.slice A Pn.length c)) := hS3
        clear hS3
        generalize w6.setCell ⟨bf, 0, none⟩ (.slice A Pn.length c) = w7 at *
        have hS5 : Hp [] w (rits gr s p' (.slice A Pn.length c) Pn ++ [iblk bp 86 [ptr gr], iblk be 27 [.int .i64 0], iblk ba 3 [.int .i64 0], iblk bf 24 [.slice A Pn.length c]]) w7 := hS4.perm (List.perm_append_comm (l₁ := [iblk bp 86 [ptr gr], iblk be 27 [.int .i64 0], iblk ba 3 [.int .i64 0], iblk bf 24 [.slice A Pn.length c]]))
        have hG7 := gates_of hS5
        have HC := Lib.hid (leaves_any A c (gts Pn) hF hK w7 hG7)
        rw [hgl] at HC
        have HGL := Lib.hid hgl
        clear hgl hS5
        have c3 := (hS4.blk 3 rfl).cell 0
        simp only [List.getElem?_cons_zero] at c3
        go_wp2_with fail
        refine HC.out.mono ?_
        rintro e w8 ⟨rfl, hb8⟩
        have hS8 := hS4.next hb8
        have hG8 := hG7.keep' hb8
        clear HC hS4 hG7 hb8 c3
        have c3 := (hS8.blk 3 rfl).cell 0
        have c2 := (hS8.blk 2 rfl).cell 0
        have c1 := (hS8.blk 1 rfl).cell 0
        have f3 := (hS8.blk 3 rfl).frozen 0
        have f2 := (hS8.blk 2 rfl).frozen 0
        have f1 := (hS8.blk 1 rfl).frozen 0
        simp only [List.getElem?_cons_zero] at c3 c2 c1
        by_cases hlv : (leavesP (gts Pn)).2 = true
        · rw [hlv]
          by_cases h512 : 512 < Pn.length
          · have HV : Hid (parseP (tl s) = ([], 0, 3)) := by refine Lib.hid ?_; rw [HV1.out, if_pos (.inr h512)]
            have h5i : (512 : Int) < (Pn.length : Int) := by omega
            clear HV1
            have hS9 := ((hS8.set 3 rfl 0 (.slice none 0 0)).set 2 rfl 0 (.int .i64 0)).set 1 rfl 0 (.int .i64 3)
            have d0 := (hS9.blk 3 rfl).cell 0
            have d1 := (hS9.blk 2 rfl).cell 0
            have d2 := (hS9.blk 1 rfl).cell 0
            simp only [List.getElem?_cons_zero, List.set_cons_zero] at d0 d1 d2
            have HS9 := Lib.hid hS9.below0
            clear hS8 hS9
            go_wp2_with fail
            refine leaves_cons (f := 45) (args := #[ptr bp, ptr bf, ptr ba, ptr be]) (by simp) (by simp [go_sem]) ?_
            refine (catch_idle bp bf ba be _).mono ?_
            rintro e u' w'' ⟨rfl, rfl, rfl⟩
            simp [Leaves, settle, results, Tryd.results24, go_sem, d0, d1, d2]
            refine ⟨⟨none, 0, ?_, ?_⟩, HS9.out⟩
            · rw [HV.out]; rfl
            · rw [HV.out]; exact ⟨fun h9 => absurd rfl h9⟩
          · have HV : Hid (parseP (tl s) = (gts Pn, 0, 0)) := by
              refine Lib.hid ?_
              rw [HV1.out, if_neg (by rw [hlv]; simp; omega)]
            have h5i : ¬ (512 : Int) < (Pn.length : Int) := by omega
            clear HV1
            have hS9 := ((hS8.set 3 rfl 0 (.slice A Pn.length c)).set 2 rfl 0 (.int .i64 0)).set 1 rfl 0 (.int .i64 0)
            have d0 := (hS9.blk 3 rfl).cell 0
            have d1 := (hS9.blk 2 rfl).cell 0
            have d2 := (hS9.blk 1 rfl).cell 0
            simp only [List.getElem?_cons_zero, List.set_cons_zero] at d0 d1 d2
            have HS9 := Lib.hid hS9
            clear hS8 hS9
            go_wp2_with fail
            refine leaves_cons (f := 45) (args := #[ptr bp, ptr bf, ptr ba, ptr be]) (by simp) (by simp [go_sem]) ?_
            refine (catch_idle bp bf ba be _).mono ?_
            rintro e u' w'' ⟨rfl, rfl, rfl⟩
            simp [Leaves, settle, results, Tryd.results24, go_sem, d0, d1, d2]
            refine ⟨⟨A, c, ?_, ?_⟩, HS9.out.below0⟩
            · rw [HV.out, HGL.out]; rfl
            · rw [HV.out]
              have h9 := HS9.out.perm (List.perm_append_comm (l₁ := [iblk bp 86 [ptr gr], iblk be 27 [.int .i64 0], iblk ba 3 [.int .i64 0], iblk bf 24 [.slice A Pn.length c]]))
              exact gates_of h9
        · have hlv0 : (leavesP (gts Pn)).2 = false := by simpa using hlv
          have HV : Hid (parseP (tl s) = ([], 0, 3)) := by refine Lib.hid ?_; rw [HV1.out, if_pos (.inl hlv0)]
          rw [hlv0]
          clear HV1
          have hS9 := ((hS8.set 3 rfl 0 (.slice none 0 0)).set 2 rfl 0 (.int .i64 0)).set 1 rfl 0 (.int .i64 3)
          have d0 := (hS9.blk 3 rfl).cell 0
          have d1 := (hS9.blk 2 rfl).cell 0
          have d2 := (hS9.blk 1 rfl).cell 0
          simp only [List.getElem?_cons_zero, List.set_cons_zero] at d0 d1 d2
          have HS9 := Lib.hid hS9.below0
          clear hS8 hS9
          go_wp2_with fail
          refine leaves_cons (f := 45) (args := #[ptr bp, ptr bf, ptr ba, ptr be]) (by simp) (by simp [go_sem]) ?_
          refine (catch_idle bp bf ba be _).mono ?_
          rintro e u' w'' ⟨rfl, rfl, rfl⟩
          simp [Leaves, settle, results, Tryd.results24, go_sem, d0, d1, d2]
          refine ⟨⟨none, 0, ?_, ?_⟩, HS9.out⟩
          · rw [HV.out]; rfl
          · rw [HV.out]; exact ⟨fun h9 => absurd rfl h9⟩
    · have hb0 : r.1 = false := by simpa using hb
      obtain rfl := hbad hb0
      have HV : Hid (parseP (tl s) = ([], p', 4)) := by
        refine Lib.hid ?_
        rw [HV0.out, if_pos (.inl hb0), hrl, show s.size - (s.size - p') = p' by omega]
      have c0 := (hS.blk 0 rfl).cell 0
      have c1 := (hS.blk 4 rfl).cell 1
      have c4 := (hS.blk 1 rfl).cell 0
      have c3 := (hS.blk 2 rfl).cell 0
      have c2 := (hS.blk 3 rfl).cell 0
      have f4 := (hS.blk 1 rfl).frozen 0
      have f3 := (hS.blk 2 rfl).frozen 0
      have f2 := (hS.blk 3 rfl).frozen 0
      have hS2 := ((hS.set 3 rfl 0 (.slice none 0 0)).set 2 rfl 0 (.int .i64 (p' : Int))).set 1 rfl 0 (.int .i64 4)
      have d0 := (hS2.blk 3 rfl).cell 0
      have d1 := (hS2.blk 2 rfl).cell 0
      have d2 := (hS2.blk 1 rfl).cell 0
      simp only [List.getElem?_cons_zero, List.getElem?_cons_succ, List.set_cons_zero] at c0 c1 c2 c3 c4 d0 d1 d2
      have HS2 := Lib.hid hS2.below0
      clear hS hS2 hbad hgood hb hb0 HV0 hout hkids
      unfold pan
      go_wp2_with fail
      refine leaves_cons (f := 45) (args := #[ptr bp, ptr bf, ptr ba, ptr be]) (by simp) (by simp [go_sem]) ?_
      refine (catch_pan bp bf ba be gr p' _ _ _ [] _ c0 c1 c2 c3 c4 f2 f3 f4 (by omega)).mono ?_
      rintro e u' w'' ⟨rfl, rfl, rfl⟩
      simp [Leaves, settle, results, Tryd.results24, go_sem, d0, d1, d2]
      refine ⟨⟨none, 0, ?_, ?_⟩, HS2.out⟩
      · rw [HV.out]; rfl
      · rw [HV.out]; exact ⟨fun h9 => absurd rfl h9⟩
end Go.Proofs.YteaaeaimjbaomaaDoor
