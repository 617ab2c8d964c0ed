/-
  lexer.Join.
-/
import Derived.Test.YtbepmakohjpioaaLxJ
namespace Go.Proofs.Ytbepmakohjpioaa
open Go.RowKit
set_option linter.unusedVariables false

def kindL (l : List Lx.Tok) : List Value := l.map fun t => .int .i64 (t.kind : Int)
def sumL (l : List Lx.Tok) : Nat := (l.map fun t => t.text.length + 1).sum
theorem sumL_snoc (l : List Lx.Tok) (k : Nat) (h : k < l.length) : sumL (l.take (k + 1)) = sumL (l.take k) + (l[k].text.length + 1) := by
  rw [List.take_succ_eq_append_getElem h, sumL, List.map_append, List.sum_append]; simp [sumL]
theorem kindL_snoc (l : List Lx.Tok) (k : Nat) (h : k < l.length) : kindL (l.take (k + 1)) = kindL (l.take k) ++ [.int .i64 (l[k].kind : Int)] := by
  rw [List.take_succ_eq_append_getElem h, kindL, List.map_append]; rfl
def JRel (us : List Lx.Tok) (w : World) (vt vk sz i : Value) (W : World) : Prop := ∃ k : Nat, k ≤ us.length + 1 ∧ i = .int .i64 (k : Int) ∧ sz = .int .i64 ((sumL (us.take k) : Int) - 1) ∧ W.ownsRow w.heap.size 9 1 vt (us.take k).length (strL (us.take k)) ∧ W.ownsRow w.heap.size 3 1 vk (us.take k).length (kindL (us.take k)) ∧ (vt.ownBlock = none ∨ vk.ownBlock = none ∨ vt.ownBlock ≠ vk.ownBlock) ∧ Below w.heap.size w W
theorem sumL_le (l : List Lx.Tok) (k : Nat) : sumL (l.take k) ≤ sumL l := by
  have h : sumL l = sumL (l.take k) + sumL (l.drop k) := by
    have e : l = l.take k ++ l.drop k := (List.take_append_drop k l).symm
    rw [e, sumL, List.map_append, List.sum_append, ← e]; rfl
  omega
theorem news_one {W : World} {b : Nat} {x : Value} (h : W.cell? ⟨b, 0, none⟩ = some x) : ∀ j u, [x][j]? = some u → W.cell? ((⟨b, 0, none⟩ : Addr).add j) = some u := by
  intro j u hu
  cases j with
  | zero => simp at hu; rw [addr_add, ← hu]; exact h
  | succ j => simp at hu
theorem cell_new {W : World} {t : TypeId} {x : Value} {n : Nat} (hn : n = W.heap.size) : (W.alloc (.cells #[x] t)).cell? ⟨n, 0, none⟩ = some x := by subst hn; exact (Blk.new W t [x]).cell 0
theorem cell_new_al {W : World} {t : TypeId} {x : Value} {n : Nat} {o : Obj} (hn : n = W.heap.size) : ((W.alloc (.cells #[x] t)).alloc o).cell? ⟨n, 0, none⟩ = some x := by subst hn; exact ((Blk.new W t [x]).alloc o).cell 0
theorem blk_new_at {W : World} {t : TypeId} {x : Value} {n : Nat} (hn : n = W.heap.size) : Blk (W.alloc (.cells #[x] t)) n t [x] := by subst hn; exact Blk.new W t [x]
theorem jn_len (us : List Lx.Tok) : (Lx.jn us).length ≤ sumL us := by
  induction us with
  | nil => exact Nat.le_refl 0
  | cons t us ih =>
    cases us with
    | nil => simp [Lx.jn, sumL]
    | cons u us => simp only [Lx.jn, sumL, List.map_cons, List.sum_cons, List.length_append, List.length_cons] at ih ⊢; omega
theorem join_jn (us : List Lx.Tok) : Lib.join (us.map fun t => t.text) [32] = Lx.jn us := by
  induction us with
  | nil => rfl
  | cons t us ih =>
    cases us with
    | nil => simp [Lx.jn, Lib.join, List.intercalate]
    | cons u us =>
      rw [Lx.jn, ← ih]
      simp [Lib.join, List.intercalate]
theorem join_at (us : List Lx.Tok) (g c : Nat) (w : World) {base : Nat} (ho : w.ownsRow base 9 1 (.slice (some ⟨g, 0, none⟩) us.length c) us.length (strL us)) (h0 : 0 < us.length) (hl : us.length ≤ 2000) (hsum : sumL us ≤ 4000) :
    Calls Try.prog 33 #[.slice (some ⟨g, 0, none⟩) us.length c, .string ⟨#[32]⟩] w fun e w' => e = .returned (.string (bs (Lx.jn us))) ∧ Below w.heap.size w w' := by
  have hlt := ho.lt g rfl
  have hcap : us.length ≤ c := by
    rcases ho.2 with ⟨h, _⟩ | ⟨g', cap, cur, hv, _, _, hc, _⟩
    · cases h
    · simp only [Value.slice.injEq] at hv; omega
  have hj : Lib.join ((us.map fun t => bs t.text).map (·.data.toList)) [32] = Lx.jn us := by
    rw [← join_jn, List.map_map]
    exact congrArg (fun x => Lib.join x [32]) (List.map_congr_left fun t _ => tl_bs t.text)
  have h := Try.strings_Join g 0 c (us.map fun t => bs t.text) ⟨#[32]⟩ w (fun j x hx => by
    rw [Nat.zero_add, ho.cellAt j (by have := (List.getElem?_eq_some_iff.1 hx).1; simp at this; omega), strL]
    rw [List.getElem?_map] at hx ⊢
    cases h5 : us[j]? with
    | none => rw [h5] at hx; simp at hx
    | some t => rw [h5] at hx; simp at hx; simp [hx]) hlt.2 (by simp; omega) (by simpa using hcap) (by show (Lib.join _ [32]).length ≤ _; rw [hj]; have := jn_len us; omega)
  rw [List.length_map] at h
  refine h.mono fun e w' ⟨he, hw⟩ => ⟨by rw [he]; show Ending.returned (.string ⟨(Lib.join _ [32]).toArray⟩) = _; rw [hj]; rfl, hw⟩
theorem keepB {W W' : World} {r : Option Nat} {b : Nat} {t : TypeId} {cs : List Value} (hg : W.grownBy W' r) (h : Blk W b t cs) (hn : r ≠ some b) : Blk W' b t cs := (hg.block b h.lt (fun e => hn e.symm)).trans h
set_option maxRecDepth 100000 in
set_option maxHeartbeats 4000000 in
theorem join_any (us : List Lx.Tok) (e : Lx.Tok) (he : e.kind = 3) (hk : Hid (∀ t ∈ us, t.kind ≤ 2 ∧ t.text ≠ [])) (hsum : sumL us ≤ 4000) (hlen : us.length ≤ 2000) (g cap : Nat) (w : World) (ht : TokIn w g (us ++ [e])) (hc : us.length + 1 ≤ cap) (vs : List Lx.Tok) (hvs : Hid (Lx.sc (Lx.jn us) = .ok vs)) (hkt : Hid (vs.map Lx.kt = (us ++ [e]).map Lx.kt)) :
    Calls Try.prog 16 #[.slice (some ⟨g, 0, none⟩) (us.length + 1) cap] w fun e w' => e = .returned (.tuple #[.string (bs (Lx.jn us)), .int .i64 0]) ∧ Below w.heap.size w w' := by
  have hlen1 : (us ++ [e]).length = us.length + 1 := by simp
  have HL := Lib.hid hlen1
  clear hlen1
  go_enter Try.func16, Try.ntmps16
  go_wp2_with fail
  go_loopw [4, 5, 6, 16] (JRel us w) (fun _ _ _ i _ => us.length + 1 - (intOf i).toNat)
  case atStart => exact ⟨0, Nat.zero_le _, rfl, rfl, World.ownsRow_nil _ _ _ _, World.ownsRow_nil _ _ _ _, .inl rfl, Below.refl _ _⟩
  case round =>
    obtain ⟨k, hk1, rfl, rfl, hot, hok, hne, hb⟩ := hrel
    by_cases hlt : k < us.length
    · have hki : k < (us ++ [e]).length := by rw [HL.out]; omega
      obtain ⟨c0, c1, c2⟩ := (ht.below hb (Nat.le_refl _)).at k hki
      have hget : (us ++ [e])[k] = us[k] := List.getElem_append_left hlt
      rw [hget] at c0 c1 c2
      have hkd := (hk.out us[k] (List.getElem_mem hlt)).1
      have hS := sumL_snoc us k hlt
      have hSle : sumL (us.take (k + 1)) ≤ sumL us := sumL_le us (k + 1)
      have HS := Lib.hid hS
      have HT := Lib.hid (strL_snoc us k hlt)
      have HK := Lib.hid (kindL_snoc us k hlt)
      have hl1 : (us.take k).length = k := by rw [List.length_take]; omega
      rw [hl1] at hot hok
      have hkn3 : ((us[k].kind : Int) == 3) = false := by simp; omega
      have hszT : (bs us[k].text).size = us[k].text.length := size_bs _
      have hszle : (bs us[k].text).size ≤ 4000 := by omega
      have hsk : sumL (us.take k) ≤ 4000 := by omega
      have HZ := Lib.hid hszT
      clear hget hS hl1 hszT
      generalize us[k].kind = kd at *
      generalize us[k].at_ = pp at *
      generalize bs us[k].text = T at *
      go_wp2_with fail
      obtain ⟨i0, hi0, hz0, hz1, hz2⟩ := info_parts str_info
      obtain ⟨i1, hj0, hj1, hj2, hj3⟩ := info_parts int_info
      have hJ : JW w wr.heap.size kd T pp u4 u5 k k (strL (us.take k)) (kindL (us.take k)) (wr.alloc (.cells #[.int .i64 (kd : Int), .string T, .int .i64 (pp : Int)] 31)) :=
        ⟨Blk.new _ _ _, hot.alloc _, hok.alloc _, hne, fun h => absurd (hot.lt _ h).2 (Nat.lt_irrefl _), fun h => absurd (hok.lt _ h).2 (Nat.lt_irrefl _), hb.alloc hb.size _⟩
      clear hot hok hne c0 c1 c2
      have hbs := hb.size
      have hgt : wr.heap.size < (wr.alloc (.cells #[.int .i64 (kd : Int), .string T, .int .i64 (pp : Int)] 31)).heap.size := by simp
      generalize wr.alloc (.cells #[.int .i64 (kd : Int), .string T, .int .i64 (pp : Int)] 31) = W2 at *
      generalize wr.heap.size = gt at *
      have e0 : W2.cell? ⟨gt, 0, none⟩ = some (.int .i64 (kd : Int)) := hJ.tok.cell 0
      have e1 : W2.cell? ⟨gt, 1, none⟩ = some (.string T) := hJ.tok.cell 1
      have hJ := hJ.drew
      have f0 : W2.drew.cell? ⟨gt, 0, none⟩ = some (.int .i64 (kd : Int)) := e0
      have f1 : W2.drew.cell? ⟨gt, 1, none⟩ = some (.string T) := e1
      go_region_held_law (fun w' => w'.cell? ⟨gt, 0, none⟩ = some (.int .i64 (kd : Int)) ∧ w'.cell? ⟨gt, 1, none⟩ = some (.string T)) (first | exact ⟨hJ1.tok.cell 0, hJ1.tok.cell 1⟩ | exact ⟨(hJ1.alloc _).tok.cell 0, (hJ1.alloc _).tok.cell 1⟩ | exact ⟨hJ.tok.cell 0, hJ.tok.cell 1⟩ | exact ⟨(hJ.alloc _).tok.cell 0, (hJ.alloc _).tok.cell 1⟩ | exact ⟨((hJ.alloc _).alloc _).tok.cell 0, ((hJ.alloc _).alloc _).tok.cell 1⟩) ((first | (refine step_append_lies _ (by rfl) (.tmp 23) (.tmp 26) 34 (by rfl) w.heap.size 9 i0 _ 1 16 Try.underlying34 hi0 hz0 hz1 hz2 rfl (by decide) _ k (strL (us.take k)) (by rfl) ?o1 _ 1 1 [.string T] (by rfl) (by rfl) ?nw ?oc (by decide) ?l1 ?l2 ?l3 _ (by rfl) ?_; (case o1 => (first | exact hJ.ot | exact (hJ.alloc _).ot | exact ((hJ.alloc _).alloc _).ot | exact hJ1.ot | exact (hJ1.alloc _).ot)); (case nw => (refine news_one ?_; first | exact cell_new (by simp) | exact cell_new_al (by simp) | exact hpend.cell 0)); (case oc => (intro u hu; simp at hu; rw [hu]; rfl)); (case l1 => (unfold maxLen; omega)); (case l2 => omega); (case l3 => (first | exact hJ1.below.size | exact (hJ1.alloc _).below.size | exact (hJ.alloc _).below.size | exact ((hJ.alloc _).alloc _).below.size)); intro gn capn w1 hownn hgrow hat hltn; (first | (have hpend : Blk w1 (W2.heap.size + 1) 3 [.int .i64 (kd : Int)] := keepB hgrow (blk_new_at (by simp)) (fun h => by have h9 := (hJ.ot.lt _ h).2; rw [show W2.drew.heap.size = W2.heap.size from rfl] at h9; omega)) | (have hpend : Blk w1 W2.heap.size 3 [.int .i64 (kd : Int)] := keepB hgrow (Blk.alloc (blk_new_at (by simp)) _) (fun h => by have h9 := (hJ.ot.lt _ h).2; rw [show W2.drew.heap.size = W2.heap.size from rfl] at h9; omega)) | skip); have hJ1 := JW.text (by first | exact hJ1 | exact hJ1.alloc _ | exact hJ.alloc _ | exact (hJ.alloc _).alloc _) hownn hgrow hat) | (refine step_append_lies _ (by rfl) (.tmp 28) (.tmp 31) 56 (by rfl) w.heap.size 3 i1 _ 1 8 Try.underlying56 hj0 hj1 hj2 hj3 rfl (by decide) _ k (kindL (us.take k)) (by rfl) ?o1 _ 1 1 [.int .i64 (kd : Int)] (by rfl) (by rfl) ?nw ?oc (by decide) ?l1 ?l2 ?l3 _ (by rfl) ?_; (case o1 => (first | exact hJ.ok | exact (hJ.alloc _).ok | exact ((hJ.alloc _).alloc _).ok | exact hJ1.ok | exact (hJ1.alloc _).ok)); (case nw => (refine news_one ?_; first | exact cell_new (by simp) | exact cell_new_al (by simp) | exact hpend.cell 0)); (case oc => (intro u hu; simp at hu; rw [hu]; rfl)); (case l1 => (unfold maxLen; omega)); (case l2 => omega); (case l3 => (first | exact hJ1.below.size | exact (hJ1.alloc _).below.size | exact (hJ.alloc _).below.size | exact ((hJ.alloc _).alloc _).below.size)); intro gn capn w1 hownn hgrow hat hltn; (first | (have hpend : Blk w1 (W2.heap.size + 1) 9 [.string T] := keepB hgrow (blk_new_at (by simp)) (fun h => by have h9 := (hJ.ok.lt _ h).2; rw [show W2.drew.heap.size = W2.heap.size from rfl] at h9; omega)) | (have hpend : Blk w1 W2.heap.size 9 [.string T] := keepB hgrow (Blk.alloc (blk_new_at (by simp)) _) (fun h => by have h9 := (hJ.ok.lt _ h).2; rw [show W2.drew.heap.size = W2.heap.size from rfl] at h9; omega)) | skip); have hJ1 := JW.kind (by first | exact hJ1 | exact hJ1.alloc _ | exact hJ.alloc _ | exact (hJ.alloc _).alloc _) hownn hgrow hat)))
      all_goals
        have y0 := hJ1.tok.cell 0
        have y1 : w1.cell? ⟨gt, 1, none⟩ = some (.string T) := hJ1.tok.cell 1
        go_wp2_with fail
        go_roundw
        case rel =>
          have hl2 : (us.take (k + 1)).length = k + 1 := by rw [List.length_take]; omega
          exact ⟨k + 1, by omega, by simp, val_int (by have h5 := HS.out; have h6 := HZ.out; omega), by rw [hl2, HT.out]; exact hJ1.ot, by rw [hl2, HK.out]; exact hJ1.ok, hJ1.ne, hJ1.below⟩
        case measure => simp [intOf]; omega
    · by_cases hke : k = us.length
      · have hki : k < (us ++ [e]).length := by rw [HL.out]; omega
        obtain ⟨c0, c1, c2⟩ := (ht.below hb (Nat.le_refl _)).at k hki
        have hget : (us ++ [e])[k] = e := by subst hke; simp
        rw [hget, he] at c0
        rw [hget] at c1 c2
        have hsu : Hid (us.take (k + 1) = us.take k) := Lib.hid (by rw [List.take_of_length_le (by omega), List.take_of_length_le (by omega)])
        clear hget
        have hkl : k ≤ us.length := by omega
        clear hke
        rw [show ((3 : Nat) : Int) = 3 from rfl] at c0
        go_wp2_with fail
        go_roundw
        case rel => exact ⟨k + 1, by omega, by simp, by rw [hsu.out], by rw [hsu.out]; exact hot.alloc _, by rw [hsu.out]; exact hok.alloc _, hne, hb.alloc hb.size _⟩
        case measure => simp [intOf]; omega
      · have hall : us.take k = us := List.take_of_length_le (by omega)
        rw [hall] at hot hok
        have HA := Lib.hid hall
        clear hall
        have hku : us.length + 1 ≤ k := by omega
        have hlv : Hid (vs.length = us.length + 1) := Lib.hid (by have h5 := congrArg List.length hkt.out; simpa using h5)
        have q0 : decide ((k : Int) < (us.length : Int) + 1) = false := by simp; omega
        by_cases hz : us.length = 0
        · have hus : us = [] := List.length_eq_zero_iff.1 hz
          subst hus
          have hform : ∃ a c, u4 = .slice a 0 c := by
            rcases Joins.ownsRow_forms hot with ⟨h5, _⟩ | ⟨g5, c5, h5⟩
            · exact ⟨none, 0, h5⟩
            · exact ⟨_, c5, h5⟩
          obtain ⟨ax, cx, hvx⟩ := hform
          subst hvx
          have hform2 : ∃ a c, u5 = .slice a 0 c := by
            rcases Joins.ownsRow_forms hok with ⟨h5, _⟩ | ⟨g5, c5, h5⟩
            · exact ⟨none, 0, h5⟩
            · exact ⟨_, c5, h5⟩
          obtain ⟨ay, cy, hvy⟩ := hform2
          subst hvy
          clear hot hok hne
          go_wp2_with fail
          refine (Try.strings_Join_none ax cx ⟨#[32]⟩ _).mono ?_
          rintro e' w2 ⟨rfl, rfl⟩
          go_wp2_with fail
          refine (scan_ok ⟨#[]⟩ vs _ (by decide) hvs.out (by rw [hlv.out]; exact Nat.zero_lt_succ _)).mono ?_
          rintro e' w3 ⟨g3, c3, rfl, ht3, hc3, hb3⟩
          rw [hlv.out]
          go_wp2_with fail
          refine wp_loop_rounds 1 ?_
          rw [rounds_succ]
          go_wp2_with fail
          go_ret2
          exact ⟨rfl, hb.trans (hb3.mono hb.size)⟩
        · obtain ⟨gx, cx, hvx⟩ := Joins.ownsRow_form hot (by omega)
          subst hvx
          obtain ⟨gy, cy, hvy⟩ := Joins.ownsRow_form hok (by omega)
          subst hvy
          go_wp2_with fail
          refine (join_at us gx cx _ hot (by omega) (by omega) hsum).mono ?_
          rintro e' w2 ⟨rfl, hb2⟩
          have hot2 := hot.kept (gb_below (r := none) hb2) (.inr (by simp [Value.ownBlock]))
          have hok2 := hok.kept (gb_below (r := none) hb2) (.inr (by simp [Value.ownBlock]))
          go_wp2_with fail
          refine (scan_ok (bs (Lx.jn us)) vs _ (by rw [size_bs]; have := jn_len us; omega) (by rw [tl_bs]; exact hvs.out) (by rw [hlv.out]; omega)).mono ?_
          rintro e' w3 ⟨g3, c3, rfl, ht3, hc3, hb3⟩
          have hot3 := hot2.kept (gb_below (r := none) hb3) (.inr (by simp [Value.ownBlock]))
          have hok3 := hok2.kept (gb_below (r := none) hb3) (.inr (by simp [Value.ownBlock]))
          rw [hlv.out]
          have hB3 := (hb.trans (hb2.mono hb.size)).trans (hb3.mono (Nat.le_trans hb.size hb2.size))
          clear hot hok hot2 hok2 hb2 hb3
          have q1 : (((us.length : Int) + 1) != ((us.length : Int) + 1)) = false := by simp
          go_wp2_with fail
          go_loopw [62] (AkRel us.length w3) (fun i _ => us.length - (intOf i).toNat)
          case atStart => exact ⟨0, Nat.zero_le _, rfl, Below.refl _ _⟩
          case round =>
            obtain ⟨j, hj, rfl, hbj⟩ := hrel
            by_cases hjl : j < us.length
            · have hjv : j < vs.length := by rw [hlv.out]; omega
              obtain ⟨d0, d1, d2⟩ := (ht3.below hbj (Nat.le_refl _)).at j hjv
              have hju : j < (us ++ [e]).length := by rw [HL.out]; omega
              obtain ⟨k1, k2⟩ := kt_at hkt.out.symm hju hjv
              rw [List.getElem_append_left hjl] at k1 k2
              rw [k1] at d0
              rw [k2] at d1
              clear k1 k2
              have x0 : wr.cell? ⟨gx, j, none⟩ = some (.string (bs us[j].text)) := by
                rw [hbj.cell (p := ⟨gx, j, none⟩) (hot3.lt gx rfl).2, hot3.cellAt j (by omega), strL, List.getElem?_map, List.getElem?_eq_getElem hjl]; rfl
              have x1 : wr.cell? ⟨gy, j, none⟩ = some (.int .i64 (us[j].kind : Int)) := by
                rw [hbj.cell (p := ⟨gy, j, none⟩) (hok3.lt gy rfl).2, hok3.cellAt j (by omega), kindL, List.getElem?_map, List.getElem?_eq_getElem hjl]; rfl
              generalize us[j].kind = kd at *
              generalize bs us[j].text = T at *
              generalize vs[j].at_ = pp at *
              have i1 : (j : Int) < (us.length : Int) := by omega
              have i2 : (j : Int) < (us.length : Int) + 1 := by omega
              have i3 : (T.toList != T.toList) = false := by simp
              have i4 : ((kd : Int) != (kd : Int)) = false := by simp
              go_wp2_with fail
              go_quiet (fail)
              go_wp2_with fail
              go_roundw
              case rel => exact ⟨j + 1, by omega, by simp, bl_drewN hbj _⟩
              case measure => simp [intOf]; omega
            · go_wp2_with fail
              go_ret2
              exact ⟨rfl, hB3.trans (hbj.mono (Nat.le_trans (Nat.le_refl _) hB3.size))⟩
end Go.Proofs.Ytbepmakohjpioaa
