/-
  dominolaw20.collect.
-/
import Derived.Test.YteaaeaimjbaomaaDoorFmN8
namespace Go.Proofs.YteaaeaimjbaomaaDoor
open Go.RowKit Go.Shelf
set_option linter.unusedVariables false
attribute [local go_sem] Oper.semAt_some

theorem eql_func_nil {P : Program} (t : TypeId) {ps rs v} (h : P.underlying t = some (.func ps rs v)) (f : Fn) (x y : Array Value) (w : World) : (binOp .eql t (.func f x y) .nilFunc).run P w = .ok (.bool false) w := by
  have he : (Op.equalIn (9999 + 1) t (.func f x y) .nilFunc).run P w = .ok false w := by
    rw [Op.equalIn]
    simp [run_underlying h]
  simp only [binOp]
  simp [Op.equal, Op.maxDepth, he]
theorem eql_seq_nil (f : Fn) (x y : Array Value) (w : World) : (binOp .eql 70 (.func f x y) .nilFunc).run Tryd.prog w = .ok (.bool false) w := eql_func_nil _ Tryd.underlying70 f x y w
theorem list_info : (Tryd.prog.info? 38).map (fun i => (i.zero, i.size, i.bytes)) = some (some (.slice none 0 0), 1, 24) := by kernel_rfl
/-- a list with the slice that holds it -/
abbrev LV := List Int × Value
abbrev lvIt (x : LV) : It := irow 3 1 x.2 x.1.length (ivals x.1)
abbrev lits (v : Value) (L : List LV) : List It := irow 38 1 v L.length (L.map Prod.snd) :: L.map lvIt
theorem perm9 {α : Type} (a b c d e f g h i : α) : [a, b, c, d, e, f, g, h, i].Perm [b, f, g, h, i, a, c, d, e] :=
  (show ([0, 1, 2, 3, 4, 5, 6, 7, 8] : List Nat).Perm [1, 5, 6, 7, 8, 0, 2, 3, 4] by decide).map (fun n => [a, b, c, d, e, f, g, h, i].getD n a)
theorem step_append2_in {F : Fence} {nF : Nat} {P : Program} {w : World} {ops : Array Oper} {o : Oper} {a : Act} {K : Act → World → Prop} {Q : Exit → Act → World → Prop} {E : Prop} (hgd : o.guard = none) (s x : Operand) (t : TypeId)
    (ho : o.op = .call { callee := .builtin .append, args := #[s, x], argTypes := #[t, t] })
    (base : Nat) (e : TypeId) (i : TypeInfo) (z : Value) (size bytes : Nat) (ht : P.underlying t = some (.slice e)) (hi : P.info? e = some i) (hz : i.zero = some z)
    (hsize : i.size = size) (hby : i.bytes = bytes) (hzs : z.cells.size = size) (hsz : 0 < size)
    (v : Value) (n : Nat) (xs : List Value) (hs : a.eval s = v) (hown : w.ownsRow base e size v n xs)
    (ad : Addr) (m c : Nat) (news : List Value) (hx : a.eval x = .slice (some ad) m c) (hl : news.length = m * size) (hnews : ∀ j u, news[j]? = some u → w.cell? (ad.add j) = some u) (h1 : ∀ u ∈ news, u.oneCell' = true)
    (hm : 0 < m) (h63 : n + m ≤ maxLen) (hbytes : (n + m) * bytes ≤ 140737488355328) (hbase : base ≤ w.heap.size)
    (h : ∀ v' w', w'.ownsRow base e size v' (n + m) (xs ++ news) → w.grownBy w' v.ownBlock → (v'.ownBlock = v.ownBlock ∨ ∀ g, v'.ownBlock = some g → w.heap.size ≤ g) → K (a.put o.dst v') w') :
    if Region.wanted o (yielded ops a.tmps) = true then Oper.wpIn F nF P o a w K Q else E := by
  have hw : Region.wanted o (yielded ops a.tmps) = true := by simp [Region.wanted, hgd]
  rw [if_pos hw]
  obtain ⟨v', w', hr, h2, h3, h4⟩ := run_append_own2 (P := P) (w := w) base t o.type e i z size bytes ht hi hz hsize hby hzs hsz v n xs hown ad m c news hl hnews h1 hm h63 hbytes hbase
  unfold Oper.wpIn
  refine ⟨by simp [Oper.about, ho, resolve, Target.leads, Sem.run_pure], ?_⟩
  rw [Oper.semAt_plain F _ _ (by rw [ho]; intro c hc'; cases hc')]
  simp [execOp, ho, resolve, invoke, builtin, hs, hx, hr, Result.andThen]
  exact h v' w' h2 h3 h4
theorem Hp.putNew {o : List Nat} {w W : World} {it : List It} {l : Nat} (h : Hp o w it W) (ob : Obj) (hl : l < W.heap.size) (hw : w.heap.size ≤ l) (hn : l ∉ ow it) : Hp o w it (W.putObj l ob) := ⟨h.sep.put _ hn, h.stp.putNew _ hl hw⟩
/-- the pieces of collect -/
abbrev kits (g9 g7 g6 g5 gw most : Nat) (fv v6 v : Value) (L : List LV) : List It := iblk g9 42 [v] :: iblk g7 4 [.bool false] :: iblk g6 42 [v6] :: iblk g5 3 [.int .i64 (most : Int)] :: iblk gw 24 [fv] :: lits v L
def colI (g9 g7 g6 g5 gw most : Nat) (fv : Value) (pre : List (List Int)) (it : List It) : Prop := ∃ v L, L.map Prod.fst = pre ∧ pre.length ≤ most ∧ it = kits g9 g7 g6 g5 gw most fv (.slice none 0 0) v L
def colX (g9 g7 g6 g5 gw most : Nat) (fv : Value) (c : Code) (pre : List (List Int)) (it : List It) : Prop := c = .ret ∧ ∃ v L x, pre = L.map Prod.fst ++ [x] ∧ L.length = most ∧ it = kits g9 g7 g6 g5 gw most fv v v L
theorem kits_push {g9 g7 g6 g5 gw most : Nat} {fv v6 v4 v3 : Value} {L : List LV} {x : List Int} {n : Nat} {vs : List Value} {o : List Nat} {w W : World} (hn : n = L.length + 1) (hvs : vs = L.map Prod.snd ++ [v3])
    (h : Hp o w (irow 3 1 v3 x.length (ivals x) :: iblk g9 42 [v4] :: iblk g7 4 [.bool false] :: iblk g6 42 [v6] :: iblk g5 3 [.int .i64 (most : Int)] :: iblk gw 24 [fv] :: irow 38 1 v4 n vs :: L.map lvIt) W) :
    Hp o w (kits g9 g7 g6 g5 gw most fv v6 v4 (L ++ [(x, v3)])) W := by
  subst hn
  subst hvs
  have h2 := h.perm (List.perm_append_singleton _ _).symm
  have e : kits g9 g7 g6 g5 gw most fv v6 v4 (L ++ [(x, v3)]) = (iblk g9 42 [v4] :: iblk g7 4 [.bool false] :: iblk g6 42 [v6] :: iblk g5 3 [.int .i64 (most : Int)] :: iblk gw 24 [fv] :: irow 38 1 v4 (L.length + 1) (L.map Prod.snd ++ [v3]) :: L.map lvIt) ++ [irow 3 1 v3 x.length (ivals x)] := by
    simp [kits, lits, lvIt]
  rw [e]
  exact h2
set_option maxRecDepth 20000 in
set_option maxHeartbeats 8000000 in
theorem collect_any (A : Option Addr) (c : Nat) (F : List Gt) (n : Int) (most : Nat) (hF : F.length ≤ 1000000) (hK : ∀ g ∈ F, g.kids.length ≤ 1000000) (hm : most ≤ 1000000) (w : World) (hG : Gates w w.heap.size A F) :
    Calls Tryd.prog 21 #[.agg #[.slice A F.length c], .int .i64 n, .int .i64 (most : Int)] w fun e w' => ∃ v L, e = .returned (.tuple #[v, .bool (decide ((minsP F n).length ≤ most))]) ∧ L.map Prod.fst = (minsP F n).take most ∧ Hp [] w (lits v L) w' := by
  have hk : Hp [] w [iblk (w.heap.size + 1 + 1 + 1) 4 [.bool false], iblk (w.heap.size + 1 + 1) 42 [.slice none 0 0], iblk (w.heap.size + 1) 3 [.int .i64 (most : Int)], iblk w.heap.size 24 [.slice A F.length c]] ((((w.alloc (.cells #[.slice A F.length c] 24)).alloc (.cells #[.int .i64 (most : Int)] 3)).alloc (.cells #[.slice none 0 0] 42)).alloc (.cells #[.bool false] 4)) := by
    have := ((((Hp.start w).new 24 [.slice A F.length c]).new 3 [.int .i64 (most : Int)]).new 42 [.slice none 0 0]).new 4 [.bool false]
    have hsz : ∀ (w : World) (o : Obj), (w.alloc o).heap.size = w.heap.size + 1 := fun w o => by simp
    simp only [hsz] at this
    exact this
  have hGW := hG.keep' hk.below0
  refine (callsIn_wide (n := 0)).1 ?_
  refine callsIn_of_wp_marks Tryd.func21 rfl trivial ?_ rfl
  simp only [Tryd.ntmps21, List.size_toArray, List.length_cons, List.length_nil, Nat.reduceAdd, Nat.reduceSub, Array.replicate_succ, Array.replicate_zero, List.push_toArray, List.append_toArray, List.nil_append, List.cons_append]
  gi_wp2
  refine ⟨trivial, rfl, ?_⟩
  generalize (((w.alloc (.cells #[.slice A F.length c] 24)).alloc (.cells #[.int .i64 (most : Int)] 3)).alloc (.cells #[.slice none 0 0] 42)).alloc (.cells #[.bool false] 4) = W at *
  generalize w.heap.size + 1 + 1 + 1 = g7 at *
  generalize w.heap.size + 1 + 1 = g6 at *
  generalize w.heap.size + 1 = g5 at *
  refine (callsIn_wide.2 (Minimal_any A c F n hF hK W hGW)).mono ?_
  rintro e w1 ⟨gf, gn, A', cc, x, Q, rfl, hQ, hQl, hv⟩
  have hS1 := Hp.call (a := []) hk hv
  clear hk hv hGW
  have heq := eql_seq_nil
  gi_wp2
  have hS2 := (hS1.new 42 [.slice none 0 0]).nilrow 38 1
  clear hS1
  generalize w1.alloc (.cells #[.slice none 0 0] 42) = w2 at *
  generalize w1.heap.size = g9 at *
  have hS3 : Hp [] w (kits g9 g7 g6 g5 w.heap.size most (.slice A F.length c) (.slice none 0 0) (.slice none 0 0) [] ++ fitZ gf gn A' cc F n x Q) w2 := hS2.perm (perm9 _ _ _ _ _ _ _ _ _)
  clear hS2
  refine wpIn_range_own rfl (enters_of Tryd.func53 (by kernel_rfl) rfl) (minimal_seq (gf := gf) (gn := gn) (A := A') (cc := cc) (x := x) (Q := Q) (n := n) hF hK hQ hQl)
    (colI g9 g7 g6 g5 w.heap.size most (.slice A F.length c)) (colX g9 g7 g6 g5 w.heap.size most (.slice A F.length c)) ⟨_, [], rfl, Nat.zero_le _, rfl⟩ hS3.sep ?a1 ?assign ?body ?enc ?done ?stop
  case assign =>
    intro l v W K hK
    gi_wp2
    exact hK
  case enc =>
    intro x v o B C h k
    refine ⟨(irow 3 1 v x.length (ivals x)).st B C (fun b hb => ?_) h.1, h.2⟩
    have hb' : v.ownBlock = some b := by simpa [irow, Option.mem_toList] using hb
    exact k.own b (h.2.1 b hb') (h.1.lt b hb').2
  case body =>
    rintro l pre x v it o W3 ⟨vo, L, hL, hlm, rfl⟩ hsep hN hE hdis
    have hS := Hp.self hsep
    generalize hoo : ow (kits g9 g7 g6 g5 w.heap.size most (.slice A F.length c) (.slice none 0 0) vo L) = oo at *
    obtain ⟨A2, k2, rfl⟩ := row_forms (hS.row 5 rfl)
    have c9 := (hS.blk 0 rfl).cell 0
    have f9 := (hS.blk 0 rfl).frozen 0
    have c5 := (hS.blk 3 rfl).cell 0
    simp only [List.getElem?_cons_zero] at c9 c5
    have hmix : Tryd.prog.follows .mixedOrders = true := by kernel_rfl
    by_cases hlen : L.length = most
    · have hii : ((L.length : Int) == (most : Int)) = true := by rw [hlen]; simp
      have HLn := Lib.hid hlen
      clear hlen
      have c6 := (hS.blk 2 rfl).cell 0
      have f6 := (hS.blk 2 rfl).frozen 0
      have hS4 := hS.set 2 rfl 0 (.slice A2 L.length k2)
      have c7 := (hS4.blk 1 rfl).cell 0
      have f7 := (hS4.blk 1 rfl).frozen 0
      have hS5 := hS4.set 1 rfl 0 (.bool false)
      simp only [List.getElem?_cons_zero] at c7 c6
      have HS := Lib.hid hS5
      clear hS hS4 hS5 hsep
      gi_wp2
      have h9 := HS.out
      rw [← hoo] at h9
      exact ⟨_, ⟨rfl, _, L, x, by rw [hL], HLn.out, rfl⟩, h9⟩
    · have hii : ((L.length : Int) == (most : Int)) = false := by rw [beq_eq_false_iff_ne]; omega
      have HLn := Lib.hid hlen
      have hSd := hS.drew
      have hEd : W3.drew.ownsRow 0 3 1 v x.length (ivals x) := hE.1
      have hE2 := hE.2.2
      have hll : L.length < most := by
        rw [← hL, List.length_map] at hlm
        omega
      clear hlen hsep hS hE
      obtain ⟨i0, hi0, hz0, hz1, hz2⟩ := info_parts list_info
      gi_wp2
      refine wpIn_region_any hmix ?_
      try (change wpAnyIn _ _ _ _ _ _ _ _ _ (World.drew _))
--BEGIN
      refine wpAnyIn_ready (rs := [0, 1]) (by kernel_rfl) (by simp) ?_
      refine AllReadyIn.cons rfl (fun K hK => ?_) ?_
      · go_simp
        refine hK _ _ ?_
        clear hK K
        refine wpAnyIn_ready (rs := [1]) (by kernel_rfl) (by simp) ?_
        refine AllReadyIn.cons rfl (fun K hK => ?_) ?_
        · go_simp
          refine hK _ _ ?_
          clear hK K
          refine wpAnyIn_ready (rs := [2]) (by kernel_rfl) (by simp) ?_
          refine AllReadyIn.cons rfl (fun K hK => ?_) ?_
          · go_simp
            refine ⟨trivial, rfl, ?_⟩
            refine (CallsIn.inRound l (callsIn_wide.2 (clone_row hEd (by omega)))).mono ?_
            rintro e w3 ⟨v3, rfl, hv3⟩
            obtain ⟨A3, k3, rfl⟩ := row_forms (hv3.row 0 rfl)
            have hS3 := Hp.call (a := []) hSd hv3
            have c9b := (hS3.blk 1 rfl).cell 0
            have c9d := ((hS3.alloc (.cells #[.slice A3 x.length k3] 38)).blk 1 rfl).cell 0
            simp only [List.getElem?_cons_zero] at c9b c9d
            simp only []
            refine hK _ _ ?_
            clear hK K
            refine wpAnyIn_ready (rs := [3]) (by kernel_rfl) (by simp) ?_
            refine AllReadyIn.cons rfl (fun K hK => ?_) ?_
            · go_simp
              refine hK _ _ ?_
              clear hK K
              refine wpAnyIn_ready (rs := [4]) (by kernel_rfl) (by simp) ?_
              refine AllReadyIn.cons rfl (fun K hK => ?_) ?_
              · refine step_append2_in (by rfl) (.tmp 23) (.tmp 26) 42 (by rfl) 0 38 i0 _ 1 24 Tryd.underlying42 hi0 hz0 hz1 hz2 rfl (by decide) _ L.length (L.map Prod.snd) (by rfl) ?o1 ⟨w3.heap.size, 0, none⟩ 1 1 [.slice A3 x.length k3] (by rfl) (by rfl) (new1' _ _ _) (by intro u hu; simp at hu; rw [hu]; rfl) (by decide) (by unfold maxLen; omega) (by omega) (Nat.zero_le _) ?_
                case o1 => exact (hS3.alloc _).row 6 rfl
                intro v4 w4 hown4 hgr4 hat4
                obtain ⟨A4, k4, rfl⟩ := row_forms hown4
                have hS4 := (hS3.alloc (.cells #[.slice A3 x.length k3] 38)).grown 6 rfl hown4 hgr4 hat4
                have c10 := (hS4.blk 1 rfl).cell 0
                have f10 := (hS4.blk 1 rfl).frozen 0
                simp only [List.getElem?_cons_zero] at c10
                have HS5 := Lib.hid (kits_push rfl rfl (hS4.set 1 rfl 0 (.slice A4 (L.length + 1) k4)))
                refine hK _ _ ?_
                clear hK K
                refine wpAnyIn_ready (rs := [5]) (by kernel_rfl) (by simp) ?_
                refine AllReadyIn.cons rfl (fun K hK => ?_) ?_
                · go_simp
                  refine hK _ _ ?_
                  clear hK K
                  refine wpAnyIn_done (by kernel_rfl) ?_ _
                  gi_wp2
                  refine ⟨_, ⟨.slice A4 (L.length + 1) k4, L ++ [(x, .slice A3 x.length k3)], by rw [List.map_append, hL]; rfl, by rw [List.length_append, ← hL, List.length_map]; exact hll, rfl⟩, ?_⟩
                  have h9 := HS5.out
                  rw [← hoo] at h9
                  exact h9
                exact AllReadyIn.nil
              exact AllReadyIn.nil
            exact AllReadyIn.nil
          exact AllReadyIn.nil
        exact AllReadyIn.nil
      refine AllReadyIn.cons rfl (fun K hK => ?_) ?_
      · go_simp
        refine hK _ _ ?_
        clear hK K
        refine wpAnyIn_ready (rs := [0, 2]) (by kernel_rfl) (by simp) ?_
        refine AllReadyIn.cons rfl (fun K hK => ?_) ?_
        · go_simp
          refine hK _ _ ?_
          clear hK K
          refine wpAnyIn_ready (rs := [2]) (by kernel_rfl) (by simp) ?_
          refine AllReadyIn.cons rfl (fun K hK => ?_) ?_
          · go_simp
            refine ⟨trivial, rfl, ?_⟩
            refine (CallsIn.inRound l (callsIn_wide.2 (clone_row hEd (by omega)))).mono ?_
            rintro e w3 ⟨v3, rfl, hv3⟩
            obtain ⟨A3, k3, rfl⟩ := row_forms (hv3.row 0 rfl)
            have hS3 := Hp.call (a := []) hSd hv3
            have c9b := (hS3.blk 1 rfl).cell 0
            have c9d := ((hS3.alloc (.cells #[.slice A3 x.length k3] 38)).blk 1 rfl).cell 0
            simp only [List.getElem?_cons_zero] at c9b c9d
            simp only []
            refine hK _ _ ?_
            clear hK K
            refine wpAnyIn_ready (rs := [3]) (by kernel_rfl) (by simp) ?_
            refine AllReadyIn.cons rfl (fun K hK => ?_) ?_
            · go_simp
              refine hK _ _ ?_
              clear hK K
              refine wpAnyIn_ready (rs := [4]) (by kernel_rfl) (by simp) ?_
              refine AllReadyIn.cons rfl (fun K hK => ?_) ?_
              · refine step_append2_in (by rfl) (.tmp 23) (.tmp 26) 42 (by rfl) 0 38 i0 _ 1 24 Tryd.underlying42 hi0 hz0 hz1 hz2 rfl (by decide) _ L.length (L.map Prod.snd) (by rfl) ?o1 ⟨w3.heap.size, 0, none⟩ 1 1 [.slice A3 x.length k3] (by rfl) (by rfl) (new1' _ _ _) (by intro u hu; simp at hu; rw [hu]; rfl) (by decide) (by unfold maxLen; omega) (by omega) (Nat.zero_le _) ?_
                case o1 => exact (hS3.alloc _).row 6 rfl
                intro v4 w4 hown4 hgr4 hat4
                obtain ⟨A4, k4, rfl⟩ := row_forms hown4
                have hS4 := (hS3.alloc (.cells #[.slice A3 x.length k3] 38)).grown 6 rfl hown4 hgr4 hat4
                have c10 := (hS4.blk 1 rfl).cell 0
                have f10 := (hS4.blk 1 rfl).frozen 0
                simp only [List.getElem?_cons_zero] at c10
                have HS5 := Lib.hid (kits_push rfl rfl (hS4.set 1 rfl 0 (.slice A4 (L.length + 1) k4)))
                refine hK _ _ ?_
                clear hK K
                refine wpAnyIn_ready (rs := [5]) (by kernel_rfl) (by simp) ?_
                refine AllReadyIn.cons rfl (fun K hK => ?_) ?_
                · go_simp
                  refine hK _ _ ?_
                  clear hK K
                  refine wpAnyIn_done (by kernel_rfl) ?_ _
                  gi_wp2
                  refine ⟨_, ⟨.slice A4 (L.length + 1) k4, L ++ [(x, .slice A3 x.length k3)], by rw [List.map_append, hL]; rfl, by rw [List.length_append, ← hL, List.length_map]; exact hll, rfl⟩, ?_⟩
                  have h9 := HS5.out
                  rw [← hoo] at h9
                  exact h9
                exact AllReadyIn.nil
              exact AllReadyIn.nil
            exact AllReadyIn.nil
          exact AllReadyIn.nil
        refine AllReadyIn.cons rfl (fun K hK => ?_) ?_
        · go_simp
          refine ⟨trivial, rfl, ?_⟩
          refine (CallsIn.inRound l (callsIn_wide.2 (clone_row hEd (by omega)))).mono ?_
          rintro e w3 ⟨v3, rfl, hv3⟩
          obtain ⟨A3, k3, rfl⟩ := row_forms (hv3.row 0 rfl)
          have hS3 := Hp.call (a := []) hSd hv3
          have c9b := (hS3.blk 1 rfl).cell 0
          have c9d := ((hS3.alloc (.cells #[.slice A3 x.length k3] 38)).blk 1 rfl).cell 0
          simp only [List.getElem?_cons_zero] at c9b c9d
          simp only []
          refine hK _ _ ?_
          clear hK K
          refine wpAnyIn_ready (rs := [0, 3]) (by kernel_rfl) (by simp) ?_
          refine AllReadyIn.cons rfl (fun K hK => ?_) ?_
          · go_simp
            refine hK _ _ ?_
            clear hK K
            refine wpAnyIn_ready (rs := [3]) (by kernel_rfl) (by simp) ?_
            refine AllReadyIn.cons rfl (fun K hK => ?_) ?_
            · go_simp
              refine hK _ _ ?_
              clear hK K
              refine wpAnyIn_ready (rs := [4]) (by kernel_rfl) (by simp) ?_
              refine AllReadyIn.cons rfl (fun K hK => ?_) ?_
              · refine step_append2_in (by rfl) (.tmp 23) (.tmp 26) 42 (by rfl) 0 38 i0 _ 1 24 Tryd.underlying42 hi0 hz0 hz1 hz2 rfl (by decide) _ L.length (L.map Prod.snd) (by rfl) ?o1 ⟨w3.heap.size, 0, none⟩ 1 1 [.slice A3 x.length k3] (by rfl) (by rfl) (new1' _ _ _) (by intro u hu; simp at hu; rw [hu]; rfl) (by decide) (by unfold maxLen; omega) (by omega) (Nat.zero_le _) ?_
                case o1 => exact (hS3.alloc _).row 6 rfl
                intro v4 w4 hown4 hgr4 hat4
                obtain ⟨A4, k4, rfl⟩ := row_forms hown4
                have hS4 := (hS3.alloc (.cells #[.slice A3 x.length k3] 38)).grown 6 rfl hown4 hgr4 hat4
                have c10 := (hS4.blk 1 rfl).cell 0
                have f10 := (hS4.blk 1 rfl).frozen 0
                simp only [List.getElem?_cons_zero] at c10
                have HS5 := Lib.hid (kits_push rfl rfl (hS4.set 1 rfl 0 (.slice A4 (L.length + 1) k4)))
                refine hK _ _ ?_
                clear hK K
                refine wpAnyIn_ready (rs := [5]) (by kernel_rfl) (by simp) ?_
                refine AllReadyIn.cons rfl (fun K hK => ?_) ?_
                · go_simp
                  refine hK _ _ ?_
                  clear hK K
                  refine wpAnyIn_done (by kernel_rfl) ?_ _
                  gi_wp2
                  refine ⟨_, ⟨.slice A4 (L.length + 1) k4, L ++ [(x, .slice A3 x.length k3)], by rw [List.map_append, hL]; rfl, by rw [List.length_append, ← hL, List.length_map]; exact hll, rfl⟩, ?_⟩
                  have h9 := HS5.out
                  rw [← hoo] at h9
                  exact h9
                exact AllReadyIn.nil
              exact AllReadyIn.nil
            exact AllReadyIn.nil
          refine AllReadyIn.cons rfl (fun K hK => ?_) ?_
          · go_simp
            refine hK _ _ ?_
            clear hK K
            refine wpAnyIn_ready (rs := [0]) (by kernel_rfl) (by simp) ?_
            refine AllReadyIn.cons rfl (fun K hK => ?_) ?_
            · go_simp
              refine hK _ _ ?_
              clear hK K
              refine wpAnyIn_ready (rs := [4]) (by kernel_rfl) (by simp) ?_
              refine AllReadyIn.cons rfl (fun K hK => ?_) ?_
              · refine step_append2_in (by rfl) (.tmp 23) (.tmp 26) 42 (by rfl) 0 38 i0 _ 1 24 Tryd.underlying42 hi0 hz0 hz1 hz2 rfl (by decide) _ L.length (L.map Prod.snd) (by rfl) ?o1 ⟨w3.heap.size, 0, none⟩ 1 1 [.slice A3 x.length k3] (by rfl) (by rfl) (new1' _ _ _) (by intro u hu; simp at hu; rw [hu]; rfl) (by decide) (by unfold maxLen; omega) (by omega) (Nat.zero_le _) ?_
                case o1 => exact (hS3.alloc _).row 6 rfl
                intro v4 w4 hown4 hgr4 hat4
                obtain ⟨A4, k4, rfl⟩ := row_forms hown4
                have hS4 := (hS3.alloc (.cells #[.slice A3 x.length k3] 38)).grown 6 rfl hown4 hgr4 hat4
                have c10 := (hS4.blk 1 rfl).cell 0
                have f10 := (hS4.blk 1 rfl).frozen 0
                simp only [List.getElem?_cons_zero] at c10
                have HS5 := Lib.hid (kits_push rfl rfl (hS4.set 1 rfl 0 (.slice A4 (L.length + 1) k4)))
                refine hK _ _ ?_
                clear hK K
                refine wpAnyIn_ready (rs := [5]) (by kernel_rfl) (by simp) ?_
                refine AllReadyIn.cons rfl (fun K hK => ?_) ?_
                · go_simp
                  refine hK _ _ ?_
                  clear hK K
                  refine wpAnyIn_done (by kernel_rfl) ?_ _
                  gi_wp2
                  refine ⟨_, ⟨.slice A4 (L.length + 1) k4, L ++ [(x, .slice A3 x.length k3)], by rw [List.map_append, hL]; rfl, by rw [List.length_append, ← hL, List.length_map]; exact hll, rfl⟩, ?_⟩
                  have h9 := HS5.out
                  rw [← hoo] at h9
                  exact h9
                exact AllReadyIn.nil
              exact AllReadyIn.nil
            exact AllReadyIn.nil
          exact AllReadyIn.nil
        exact AllReadyIn.nil
      exact AllReadyIn.nil
--END
  case done =>
    rintro D xs it W4 rfl ⟨vo, L, hL, hlm, rfl⟩ hh hD hDw hdef
    have hS4 : Hp [] w (kits g9 g7 g6 g5 w.heap.size most (.slice A F.length c) (.slice none 0 0) vo L ++ []) W4 := Hp.call (r := []) (by rw [List.append_nil]; exact hS3) hh
    rw [List.append_nil] at hS4
    have hDw' : w.heap.size ≤ D := Nat.le_trans hS3.size hDw
    have hDl : D < W4.heap.size := (Array.getElem?_eq_some_iff.1 hdef).1
    have HDn := Lib.hid hD
    obtain ⟨A2, k2, rfl⟩ := row_forms (hS4.row 5 rfl)
    have c9 := (hS4.blk 0 rfl).cell 0
    have c6 := (hS4.blk 2 rfl).cell 0
    have f6 := (hS4.blk 2 rfl).frozen 0
    have hS5 := hS4.set 2 rfl 0 (.slice A2 L.length k2)
    have c7 := (hS5.blk 1 rfl).cell 0
    have f7 := (hS5.blk 1 rfl).frozen 0
    have hS6 := hS5.set 1 rfl 0 (.bool true)
    simp only [List.getElem?_cons_zero] at c9 c6 c7
    have HS := Lib.hid hS6
    clear hS4 hS5 hS6 hh hD
    gi_wp2
    have hn7 : D ≠ g7 := fun e => HDn.out (by rw [e]; simp [iblk])
    have hn6 : D ≠ g6 := fun e => HDn.out (by rw [e]; simp [iblk])
    have hdef2 : ((W4.setCell ⟨g6, 0, none⟩ (.slice A2 L.length k2)).setCell ⟨g7, 0, none⟩ (.bool true)).heap[D]? = some (.deferred (some [])) := by
      rw [Below.heap_setCell _ _ _ _ hn7, Below.heap_setCell _ _ _ _ hn6]; exact hdef
    refine ⟨by simp, .inl ⟨_, _, rfl, run_takeDeferred hdef2, ?_⟩⟩
    have hS7 := HS.out.putNew (l := D) (.deferred none) (by simpa using hDl) hDw' HDn.out
    have e7 := (hS7.blk 1 rfl).cell 0
    have e6 := (hS7.blk 2 rfl).cell 0
    simp only [List.getElem?_cons_zero, List.set_cons_zero] at e6 e7
    refine ⟨.tuple #[.slice A2 L.length k2, .bool true], by simp [results, Tryd.results21, go_sem, e6, e7], ?_⟩
    have hl : (minsP F n).length ≤ most := hlm
    exact ⟨_, L, by rw [decide_eq_true hl], by rw [hL, List.take_of_length_le hl], hS7.tail.tail.tail.tail.tail⟩
  case stop =>
    rintro D cd q it W4 hq ⟨rfl, vo, L, xx, rfl, hLl, rfl⟩ hh hD hDw hdef
    have hS4 : Hp [] w (kits g9 g7 g6 g5 w.heap.size most (.slice A F.length c) vo vo L ++ []) W4 := Hp.call (r := []) (by rw [List.append_nil]; exact hS3) hh
    rw [List.append_nil] at hS4
    have hDw' : w.heap.size ≤ D := Nat.le_trans hS3.size hDw
    have hDl : D < W4.heap.size := (Array.getElem?_eq_some_iff.1 hdef).1
    obtain ⟨A2, k2, rfl⟩ := row_forms (hS4.row 5 rfl)
    gi_wp2
    refine ⟨by simp, .inl ⟨_, _, rfl, run_takeDeferred hdef, ?_⟩⟩
    have hS7 := hS4.putNew (l := D) (.deferred none) hDl hDw' hD
    have e7 := (hS7.blk 1 rfl).cell 0
    have e6 := (hS7.blk 2 rfl).cell 0
    simp only [List.getElem?_cons_zero] at e6 e7
    refine ⟨.tuple #[.slice A2 L.length k2, .bool false], by simp [results, Tryd.results21, go_sem, e6, e7], ?_⟩
    obtain ⟨rest, hr⟩ := hq
    have hl : ¬ (minsP F n).length ≤ most := by
      rw [← hr]; simp; omega
    refine ⟨_, L, by rw [decide_eq_false hl], ?_, hS7.tail.tail.tail.tail.tail⟩
    rw [← hr, List.append_assoc, List.take_left' (by rw [List.length_map]; exact hLl)]
end Go.Proofs.YteaaeaimjbaomaaDoor
