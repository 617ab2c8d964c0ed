/-
  formula.Minimal: what it hands back, and how that hands on the minimal sets.
-/
import Derived.Test.YteaaeaimjbaomaaDoorFmN7
namespace Go.Proofs.YteaaeaimjbaomaaDoor
open Go.RowKit
set_option linter.unusedVariables false

theorem check_bounds {F : List Gt} {n : Int} (h : checkP F n = 0) : 0 ≤ n ∧ n ≤ 256 ∧ F.length ≤ 512 := by
  unfold checkP at h
  split at h
  · cases h
  · omega
theorem perm11 {α : Type} (a b c d e f g h i j k : α) : [a, b, c, d, e, f, g, h, i, j, k].Perm [f, e, g, i, j, k, d, c, h, b, a] :=
  (show ([0, 1, 2, 3, 4, 5, 6, 7, 8, 9, 10] : List Nat).Perm [5, 4, 6, 8, 9, 10, 3, 2, 7, 1, 0] by decide).map (fun n => [a, b, c, d, e, f, g, h, i, j, k].getD n a)
/-- the minimal sets of a formula -/
def minsP (F : List Gt) (n : Int) : List (List Int) := if checkP F n = 0 then (srchM (holdsP F) n.toNat n.toNat (List.replicate n.toNat false)).map idxM else []
abbrev fitZ (gf gn : Nat) (A : Option Addr) (cc : Nat) (F : List Gt) (n : Int) (x : It) (Q : List GV) : List It := [iblk gf 24 [.slice A F.length cc], iblk gn 3 [.int .i64 n], ibox (x :: irow 40 3 (.slice A F.length cc) F.length (gcells Q) :: kidIts Q)]
theorem fitZ_gates {A : Option Addr} {cc : Nat} {F : List Gt} {x : It} {Q : List GV} (hq : gts Q = F) (hl : Q.length = F.length) {W : World} (hp : (ibox (x :: irow 40 3 (.slice A F.length cc) F.length (gcells Q) :: kidIts Q)).P W) : Gates W W.heap.size A F := by
  have h1 := Hp.self (show Sep W (x :: irow 40 3 (.slice A F.length cc) F.length (gcells Q) :: kidIts Q) from hp)
  have h2 := gates_of (r := []) (P := Q) (n := F.length) (by rw [List.append_nil, hl]; exact h1)
  rw [hq] at h2
  exact h2
set_option maxRecDepth 20000 in
set_option maxHeartbeats 8000000 in
theorem minimal_seq {F : List Gt} {n : Int} {gf gn : Nat} {A : Option Addr} {cc : Nat} {x : It} {Q : List GV} (hF : F.length ≤ 1000000) (hK : ∀ g ∈ F, g.kids.length ≤ 1000000) (hq : gts Q = F) (hl : Q.length = F.length) :
    SeqOwn Tryd.prog 53 #[.pointer (some ⟨gf, 0, none⟩), .pointer (some ⟨gn, 0, none⟩)] (fitZ gf gn A cc F n x Q) encI (fun xs => xs = minsP F n) (fun q => q <+: minsP F n) (minsP F n).length := by
  intro l J Jx W hsE hJ hJx hY h0
  refine callsIn_wide.2 ?_
  have hJ0 : Sst J (fitZ gf gn A cc F n x Q) [] W := ⟨hsE, h0⟩
  obtain ⟨o, ho⟩ : ∃ o, ow (fitZ gf gn A cc F n x Q) = o := ⟨_, rfl⟩
  have hk := (Hp.self hsE).new 98 [.func (.yield l) #[] #[]]
  rw [ho] at hk
  go_enter Tryd.func53, Tryd.ntmps53
  go_upto_region 1 with fail
  generalize W.alloc (.cells #[.func (.yield l) #[] #[]] 98) = W1 at *
  obtain ⟨gy, hgy⟩ : ∃ gy, W.heap.size = gy := ⟨_, rfl⟩
  simp only [hgy] at hk ⊢
  have HC := Lib.hid (check_any A cc F n hF hK W1 (fitZ_gates hq hl (hk.sep.ok _ (List.mem_of_getElem? (i := 3) rfl))))
  have ef : W1.cell? ⟨gf, 0, none⟩ = some (.slice A F.length cc) := (hk.blk 1 rfl).cell 0
  have en : W1.cell? ⟨gn, 0, none⟩ = some (.int .i64 n) := (hk.blk 2 rfl).cell 0
  by_cases hck : checkP F n = 0
  · have hn := check_bounds hck
    obtain ⟨m, rfl⟩ : ∃ m : Nat, n = m := ⟨n.toNat, by omega⟩
    rw [hck] at HC
    have HV : Hid (minsP F (m : Int) = (srchM (holdsP F) m m (List.replicate m false)).map idxM) := by
      refine Lib.hid ?_
      rw [minsP, if_pos hck, Int.toNat_natCast]
    go_wp2_with fail
    refine HC.out.mono ?_
    rintro e w1 ⟨rfl, hb2⟩
    have hS1 := hk.next hb2
    clear hk HC hb2
    have hmk := make_bools m (by omega)
    have hst : ∀ (w : World) (t : TypeId) (f : Fn) (x y : Array Value) (v : Value), (store ⟨w.heap.size, 0, none⟩ (.func f x y)).run Tryd.prog (w.alloc (.cells #[v] t)) = .ok () ((w.alloc (.cells #[v] t)).setCell ⟨w.heap.size, 0, none⟩ (.func f x y)) := fun w t f x y v =>
      run_store_func Tryd.prog _ _ .plain f x y v ((show Blk (w.alloc (.cells #[v] t)) w.heap.size t [v] from Blk.new w t [v]).cell 0) ((show Blk (w.alloc (.cells #[v] t)) w.heap.size t [v] from Blk.new w t [v]).frozen 0)
    clear ef en
    have en1 : w1.cell? ⟨gn, 0, none⟩ = some (.int .i64 (m : Int)) := (hS1.blk 2 rfl).cell 0
    go_upto_region 3 with fail
    have hS2 := hS1.new 99 [.func (Fn.func 54) #[] #[.pointer (some ⟨gf, 0, none⟩)]]
    clear hS1
    generalize w1.alloc (.cells #[.func (Fn.func 54) #[] #[.pointer (some ⟨gf, 0, none⟩)]] 99) = w2 at *
    generalize w1.heap.size = gh at *
    have en : w2.cell? ⟨gn, 0, none⟩ = some (.int .i64 (m : Int)) := (hS2.blk 3 rfl).cell 0
    clear en1
    go_upto_region 4 with fail
    have hsz2 : ∀ (w : World) (o : Obj), (w.alloc o).heap.size = w.heap.size + 1 := fun w o => by simp
    have hS4 := (hS2.new 4 (List.replicate m (.bool false))).new 31 [.slice (some ⟨w2.heap.size, 0, none⟩) m m]
    simp only [List.toArray_replicate, hsz2] at hS4
    clear hS2 en
    generalize (w2.alloc (.cells (Array.replicate m (.bool false)) 4)).alloc (.cells #[.slice (some ⟨w2.heap.size, 0, none⟩) m m] 31) = w4 at *
    generalize w2.heap.size + 1 = gcv at *
    generalize w2.heap.size = gch at *
    go_upto_region 5 with fail
    have hS5 := hS4.new 26 [.func (Fn.func 55) #[] #[.pointer (some ⟨gcv, 0, none⟩), .pointer (some ⟨gh, 0, none⟩)]]
    clear hS4
    generalize w4.alloc (.cells #[.func (Fn.func 55) #[] #[.pointer (some ⟨gcv, 0, none⟩), .pointer (some ⟨gh, 0, none⟩)]] 26) = w5 at *
    generalize w4.heap.size = gm at *
    go_upto_region 6 with fail
    have hS6 := hS5.new 94 [.func (Fn.func 56) #[] #[.pointer (some ⟨gcv, 0, none⟩), .pointer (some ⟨gn, 0, none⟩), .pointer (some ⟨gh, 0, none⟩)]]
    clear hS5
    generalize w5.alloc (.cells #[.func (Fn.func 56) #[] #[.pointer (some ⟨gcv, 0, none⟩), .pointer (some ⟨gn, 0, none⟩), .pointer (some ⟨gh, 0, none⟩)]] 94) = w6 at *
    generalize w5.heap.size = gp at *
    go_upto_region 7 with fail
    have hS7 := hS6.new 101 [.nilFunc]
    clear hS6
    generalize w6.alloc (.cells #[.nilFunc] 101) = w7 at *
    generalize w6.heap.size = gs at *
    have hst7 := fun x y => run_store_func Tryd.prog w7 ⟨gs, 0, none⟩ .plain (Fn.func 58) x y _ ((hS7.blk 0 rfl).cell 0) ((hS7.blk 0 rfl).frozen 0)
    go_upto_region 8 with fail
    have hS8 := hS7.set 0 rfl 0 (.func (Fn.func 58) #[] #[.pointer (some ⟨gh, 0, none⟩), .pointer (some ⟨gcv, 0, none⟩), .pointer (some ⟨gm, 0, none⟩), .pointer (some ⟨gy, 0, none⟩), .pointer (some ⟨gn, 0, none⟩), .pointer (some ⟨gp, 0, none⟩), .pointer (some ⟨gs, 0, none⟩)])
    simp only [List.set_cons_zero] at hS8
    clear hst7 hst hS7
    generalize w7.setCell ⟨gs, 0, none⟩ (.func (Fn.func 58) #[] #[.pointer (some ⟨gh, 0, none⟩), .pointer (some ⟨gcv, 0, none⟩), .pointer (some ⟨gm, 0, none⟩), .pointer (some ⟨gy, 0, none⟩), .pointer (some ⟨gn, 0, none⟩), .pointer (some ⟨gp, 0, none⟩), .pointer (some ⟨gs, 0, none⟩)]) = w8 at *
    have hS9 := (hS8.nilrow 3 1).perm (perm11 _ _ _ _ _ _ _ _ _ _ _)
    obtain ⟨c, hc⟩ : ∃ c, List.replicate m false = c := ⟨_, rfl⟩
    have hcl : c.length = m := by rw [← hc, List.length_replicate]
    have hcb : blv c = List.replicate m (.bool false) := by rw [← hc]; simp [blv]
    have hci : idxM c = [] := by rw [← hc]; exact idx_zero m
    have hcz : ∀ j, m - m ≤ j → gb c j = false := fun j _ => by
      rw [← hc]; unfold gb
      rw [List.getD_eq_getElem?_getD, List.getElem?_replicate]
      split <;> simp
    obtain ⟨E, hE⟩ : ∃ E : En, (⟨gf, gn, A, cc, F, m, x, Q⟩ : En) = E := ⟨_, rfl⟩
    have hS10 : Hp o W (sits E gh gcv gch gm gp gy gs l c (irow 3 1 (.slice none 0 0) (idxM c).length (ivals (idxM c)) :: [])) w8 := by
      rw [hci, ← hE]
      show Hp o W [iblk gch 4 (blv c), iblk gcv 31 [.slice (some ⟨gch, 0, none⟩) c.length c.length], _, _, _, _, _, _, _, _, _] w8
      rw [hcl, hcb]
      exact hS9
    have c8 := (hS8.blk 0 rfl).cell 0
    simp only [List.getElem?_cons_zero] at c8
    have hEV : SEnv E l (minsP F (m : Int)).length J Jx := by
      rw [← hE]
      exact ⟨⟨hn.2.2, hK, (by show m ≤ 256; omega), hck, hq, hl⟩, hJ, hJx, hY⟩
    have HC := Lib.hid (search_any (gh := gh) (gcv := gcv) (gch := gch) (gm := gm) (gp := gp) (gy := gy) (gs := gs) hEV m (by rw [← hE]) m (Nat.le_refl _) c (.slice none 0 0) [] [] w8 hcl hcz (hJ0.hp hJ (hpo ho hS10)) (by
      rw [HV.out, List.length_map, hc, ← hE]; simp))
    rw [hc] at HV
    rw [Nat.sub_self, ← hE] at HC
    clear hS8 hS9 hS10 hcz hcb hJ0 hEV hE
    go_wp2_with fail
    refine HC.out.mono ?_
    rintro e w9 ⟨-, b, rfl, ht, hf⟩
    clear HC
    go_wp2_with fail
    go_end0
    refine ⟨⟨_, rfl⟩, ?_⟩
    cases b with
    | true =>
      have h9 := (ht rfl).j
      rw [List.nil_append] at h9
      exact ⟨_, .inl ⟨_, HV.out.symm, h9⟩⟩
    | false =>
      obtain ⟨q, hq, hj⟩ := hf rfl
      have h9 := hj.j
      rw [List.nil_append] at h9
      exact ⟨_, .inr ⟨q, by rw [HV.out]; exact hq, h9⟩⟩
  · have HV : Hid (minsP F n = []) := by
      refine Lib.hid ?_
      rw [minsP, if_neg hck]
    go_wp2_with fail
    refine HC.out.mono ?_
    rintro e w1 ⟨rfl, hb2⟩
    have hS1 := hk.next hb2
    clear hk HC hb2
    go_wp2_with fail
    refine bodyPost_ret (results_none rfl _ _ _) rfl ?_
    exact ⟨⟨_, rfl⟩, _, .inl ⟨[], HV.out.symm, (hJ0.hp hJ (hpo ho hS1)).j⟩⟩
theorem Hp.boxed {o : List Nat} {w W : World} {a b : It} {r : List It} (h : Hp o w (a :: b :: r) W) : Hp o w [a, b, ibox r] W := by
  have hn := h.sep.ap
  have e : ow [a, b, ibox r] = ow (a :: b :: r) := by simp [ow, ibox]
  refine ⟨⟨fun x hx => ?_, by rw [e]; exact hn⟩, by rw [e]; exact h.stp⟩
  simp only [List.mem_cons, List.not_mem_nil, or_false] at hx
  rcases hx with rfl | rfl | rfl
  · exact h.sep.ok _ (by simp)
  · exact h.sep.ok _ (by simp)
  · exact h.tail.tail.sep
set_option maxHeartbeats 4000000 in
theorem Minimal_any (A : Option Addr) (c : Nat) (F : List Gt) (n : Int) (hF : F.length ≤ 1000000) (hK : ∀ g ∈ F, g.kids.length ≤ 1000000) (w : World) (hG : Gates w w.heap.size A F) :
    Calls Tryd.prog 37 #[.agg #[.slice A F.length c], .int .i64 n] w fun e w' => ∃ gf gn A' cc x Q, e = .returned (.func (.func 53) #[] #[.pointer (some ⟨gf, 0, none⟩), .pointer (some ⟨gn, 0, none⟩)]) ∧ gts Q = F ∧ Q.length = F.length ∧ Hp [] w (fitZ gf gn A' cc F n x Q) w' := by
  have hk : Hp [] w [iblk (w.heap.size + 1) 3 [.int .i64 n], iblk w.heap.size 24 [.slice A F.length c]] ((w.alloc (.cells #[.slice A F.length c] 24)).alloc (.cells #[.int .i64 n] 3)) := by
    have := ((Hp.start w).new 24 [.slice A F.length c]).new 3 [.int .i64 n]
    have hsz : ∀ (w : World) (o : Obj), (w.alloc o).heap.size = w.heap.size + 1 := fun w o => by simp
    rw [hsz] at this
    exact this
  have hGW := hG.keep' hk.below0
  go_enter Tryd.func37, Tryd.ntmps37
  go_upto_region 1 with fail
  generalize (w.alloc (.cells #[.slice A F.length c] 24)).alloc (.cells #[.int .i64 n] 3) = W at *
  generalize w.heap.size + 1 = gn at *
  have c0 := (hk.blk 1 rfl).cell 0
  have f0 := (hk.blk 1 rfl).frozen 0
  simp only [List.getElem?_cons_zero] at c0
  have HC := Lib.hid (copied_any A c F hF hK W hGW)
  go_wp2_with fail
  refine HC.out.mono ?_
  rintro e w1 ⟨x, A2, c2, Q, rfl, hQ, hQl, hv⟩
  have hS1 : Hp [] w (iblk w.heap.size 24 [.slice A F.length c] :: iblk gn 3 [.int .i64 n] :: x :: irow 40 3 (.slice A2 F.length c2) F.length (gcells Q) :: kidIts Q) w1 :=
    ((Hp.call (a := []) hk hv).perm List.perm_append_comm).perm (List.Perm.swap _ _ _)
  clear HC hk c0 f0 hv
  have c0 := (hS1.blk 0 rfl).cell 0
  have f0 := (hS1.blk 0 rfl).frozen 0
  simp only [List.getElem?_cons_zero] at c0
  have hS2 := hS1.set 0 rfl 0 (.slice A2 F.length c2)
  simp only [List.set_cons_zero] at hS2
  have HS := Lib.hid hS2
  clear hS1 hS2
  have HQ := Lib.hid hQ
  have HQl := Lib.hid hQl
  clear hQ hQl
  go_wp2_with fail
  go_ret
  exact ⟨_, _, _, _, _, _, rfl, HQ.out, HQl.out, HS.out.boxed⟩
end Go.Proofs.YteaaeaimjbaomaaDoor
