/- The parser's reader: expr. Printed by mkpbi.py. -/
import Derived.Test.YtekkapgknohadaaGreatDoorM3
import Derived.Test.YtekkapgknohadaaGreatDoorM13
set_option linter.unusedVariables false
set_option maxRecDepth 20000
set_option maxHeartbeats 16000000
namespace Go.Proofs.YtekkapgknohadaaGreatDoor
open Go.RowKit Go.Shelf
open Lib (hid)
attribute [local go_sem] tf0 tf1 tf2
theorem enters_expr : ∀ args w, (callFunc 76 args).run Tryz.prog w = .ok (.enter 76 args) w := enters_of Tryz.func76 (by kernel_rfl) rfl
theorem enters_several : ∀ args w, (callFunc 142 args).run Tryz.prog w = .ok (.enter 142 args) w := enters_of Tryz.func142 (by kernel_rfl) rfl
theorem TOut.of {R : PR} {w W W' : World} {go : Nat} {r : Pa.Rd Pa.F} {e : Ending} {a : List It} (hk : Hp [R.gp, R.gt] W a w) (h : SOut R (ow a) w go r e W') : TOut R W r e W' := by
 unfold SOut at h
 unfold TOut
 obtain ⟨oo, q⟩ := r
 cases oo with
 | none => exact ⟨h.1, by have := Hp.call (a := a) (r := []) (by rw [List.append_nil]; exact hk) h.2; rwa [List.append_nil] at this⟩
 | some f =>
  obtain ⟨n, kv, x, hf, he, hH⟩ := h
  have h1 := Hp.call (a := a) (r := []) (by rw [List.append_nil]; exact hk) hH
  rw [List.append_nil] at h1
  exact TOut.node (r := (some f, q)) (by rw [hf]) x rfl h1 |> fun h2 => he ▸ h2
theorem TOut.lift {R : PR} {w W W' : World} {ts : List Lx.Tok} {r : Pa.Rd Pa.F} {e : Ending} {a : List It} (hk : Hp [R.gp, R.gt] W (ipr R ts :: a) w) (h : TOut R w r e W') : TOut R W r e W' := by
 unfold TOut at h ⊢
 obtain ⟨oo, q⟩ := r
 cases oo with
 | none => exact ⟨h.1, (hk.rd1 h.2).sub (r := a)⟩
 | some f =>
  obtain ⟨x, g, h1, h2, h3, h4⟩ := h
  exact ⟨x, g, h1, h2, h3, Hp.sub (r := a) (hk.rd h4)⟩
theorem perm_in4 {α : Type} (r a b c d : α) (l : List α) : (r :: a :: b :: c :: d :: l).Perm (a :: b :: c :: d :: r :: l) := by
 exact (List.perm_middle (l₁ := [a, b, c, d])).symm
theorem expr_any (R : PR) : ∀ (k : Nat) (ts : List Lx.Tok) (W : World), ts.length ≤ k → PRok R ts W → Shorts ts → Calls Tryz.prog 76 #[ptr R.gp] W (TOut R W (Pa.exprR k ts)) := by
 intro k
 induction k with
 | zero =>
  intro ts W hk h hl
  have := List.length_pos_iff.2 h.good.ne
  omega
 | succ k ih =>
 intro ts W hk h hl
 have hen := enters_several
 have hmf : ∀ (fn : Fn) (first cap : Array Value) (w : World), (Instr.makeFunc fn first cap).run Tryz.prog w = .ok (.func fn first cap) w := fun _ _ _ _ => rfl
 have HR : Hid (∀ ts' : List Lx.Tok, ts'.length ≤ k → Reads R 76 (Pa.exprR k) ts'.length) := hid fun ts' h' => ⟨enters_expr, Pa.expr_keeps k, fun ts2 W2 h2 h3 h4 => ih ts2 W2 (Nat.le_trans h2 h') h3 h4⟩
 have HI := hid ih
 clear ih
 obtain ⟨t, q, rfl⟩ := h.cons
 have hS := h.self
 have hg := h.good
 clear h
 have hqk : q.length ≤ k := by simpa using hk
 have hlq : Shorts q := hl.suf (List.suffix_cons _ _)
 clear hk
 have HV : Hid (Pa.exprR (k + 1) (t :: q) =
  if Pa.isT Pa.kAll (t :: q) then Pa.kidsR (Pa.exprR k) ⟨3, 0, [], [], t.at_⟩ q
  else if Pa.isT Pa.kAny (t :: q) then Pa.kidsR (Pa.exprR k) ⟨4, 0, [], [], t.at_⟩ q
  else if Pa.isT Pa.kAtleast (t :: q) then (Pa.numR q).then fun m q => Pa.kidsR (Pa.exprR k) ⟨5, m, [], [], t.at_⟩ q
  else if Pa.isT Pa.kNot (t :: q) then (Pa.exprR k q).then fun f q => (some (.cons ⟨2, 0, [], [], t.at_⟩ f .nil), q)
  else if Pa.isT Pa.kTrue (t :: q) then (some (Pa.leaf ⟨0, 0, [], [], t.at_⟩), q)
  else if Pa.isT Pa.kFalse (t :: q) then (some (Pa.leaf ⟨1, 0, [], [], t.at_⟩), q)
  else if Pa.isT Pa.sOpen (t :: q) then (Pa.exprR k q).then fun f q => (Pa.needR Pa.sClose q).then fun _ q => (some f, q)
  else Pa.condR (t :: q)) := hid rfl
 obtain ⟨gpp, hgpp⟩ : ∃ g, W.heap.size = g := ⟨_, rfl⟩
 have hk0 : Hp [R.gp, R.gt] W [ipr R (t :: q), ibox gpp R.gp] (W.alloc (.cells #[ptr R.gp] 76)) := by
  rw [← hgpp]
  exact (hS.new 76 [ptr R.gp]).perm (List.Perm.swap _ _ _)
 have d1 := (hk0.blk 1 rfl).cell 0
 simp only [List.getElem?_cons_zero] at d1
 clear hS
 go_enter Tryz.func76, Tryz.ntmps76
 go_wp2_with fail
 generalize W.alloc (.cells #[ptr R.gp] 76) = w0 at *
 refine (za1 R t q _ hk0.pr).mono ?_
 rintro e w1 ⟨rfl, hb⟩
 have hk1 := hk0.next hb
 clear hk0 hb d1
 unfold tokV
 obtain ⟨go, hgo⟩ : ∃ g, w1.heap.size = g := ⟨_, rfl⟩
 obtain ⟨gv, hgv⟩ : ∃ g, go + 1 = g := ⟨_, rfl⟩
 have hk2 : Hp [R.gp, R.gt] W [ipr R (t :: q), ibox gpp R.gp, ivar gv go, itree ⟨0, 0, [], [], t.at_⟩ go (.slice none 0 0)] ((w1.alloc (.cells #[.int .i64 0, .int .i64 0, .string ⟨#[]⟩, .string ⟨#[]⟩, .slice none 0 0, .int .i64 (t.at_ : Int), .slice none 0 0] 163)).alloc (.cells #[ptr go] 159)) := by
  have h1 := (hk1.new 163 (tcs ⟨0, 0, [], [], t.at_⟩ (.slice none 0 0))).new 159 [ptr go]
  have hsz : ∀ (w : World) (o : Obj), (w.alloc o).heap.size = w.heap.size + 1 := fun w o => by simp
  rw [hsz, hgo, hgv] at h1
  refine h1.perm ?_
  exact List.perm_append_comm (l₁ := [ivar gv go, itree ⟨0, 0, [], [], t.at_⟩ go (.slice none 0 0)]) (l₂ := [ipr R (t :: q), ibox gpp R.gp])
 clear hk1
 go_upto_region 2 with fail
 clear hgo hgv
 generalize (w1.alloc (.cells #[.int .i64 0, .int .i64 0, .string ⟨#[]⟩, .string ⟨#[]⟩, .slice none 0 0, .int .i64 (t.at_ : Int), .slice none 0 0] 163)).alloc (.cells #[ptr go] 159) = w2 at *
 have d0 := (hk2.blk 2 rfl).cell 0
 have d1 := (hk2.blk 1 rfl).cell 0
 simp only [List.getElem?_cons_zero] at d0 d1
 go_wp2_with fail
 refine (zay Pa.kAll R _ _ hk2.pr).mono ?_
 rintro e w3 ⟨rfl, hH⟩
 have hk := hk2.rd1 hH
 clear hH d0 d1 hk2
 cases h0 : Pa.isT Pa.kAll (t :: q) with
 | true =>
  rw [takeT, if_pos h0] at hk
  have hk : Hp [R.gp, R.gt] W [ipr R q, ibox gpp R.gp, ivar gv go, itree ⟨0, 0, [], [], t.at_⟩ go (.slice none 0 0)] w3 := hk
  have HVE := hid (HV.out.trans (by rw [if_pos h0]))
  clear HV
  have d0 := (hk.blk 2 rfl).cell 0
  have d1 := (hk.blk 1 rfl).cell 0
  simp only [List.getElem?_cons_zero] at d0 d1
  go_wp2_with fail
  refine (several_any R (Pa.exprR k) _ rfl k HR.out 3 0 t.at_ 0 gpp gv go q hqk hlq _ hk.sep).mono ?_
  intro e w4 hSO
  have hTO := TOut.of hk hSO
  rw [← HVE.out] at hTO
  have hT2 := hTO
  unfold TOut at hTO
  generalize Pa.exprR (k + 1) (t :: q) = xr at *
  obtain ⟨xo, xq⟩ := xr
  cases xo with
  | none =>
   obtain ⟨rfl, -⟩ := hTO
   unfold panP at hT2 ⊢
   go_wp2_with fail
   exact ⟨rfl, hT2⟩
  | some xf =>
   obtain ⟨x, g, -, -, rfl, -⟩ := hTO
   go_wp2_with fail
   go_ret
   exact hT2
 | false =>
  rw [takeT, if_neg (by rw [h0]; simp)] at hk
  have d0 := (hk.blk 2 rfl).cell 0
  have d1 := (hk.blk 1 rfl).cell 0
  simp only [List.getElem?_cons_zero] at d0 d1
  go_wp2_with fail
  refine (zay Pa.kAny R _ _ hk.pr).mono ?_
  rintro e w3 ⟨rfl, hH⟩
  have hk := hk.rd1 hH
  clear hH d0 d1
  cases h1 : Pa.isT Pa.kAny (t :: q) with
  | true =>
   rw [takeT, if_pos h1] at hk
   have hk : Hp [R.gp, R.gt] W [ipr R q, ibox gpp R.gp, ivar gv go, itree ⟨0, 0, [], [], t.at_⟩ go (.slice none 0 0)] w3 := hk
   have HVE := hid (HV.out.trans (by rw [if_neg (by rw [h0]; simp), if_pos h1]))
   clear HV
   have d0 := (hk.blk 2 rfl).cell 0
   have d1 := (hk.blk 1 rfl).cell 0
   simp only [List.getElem?_cons_zero] at d0 d1
   go_wp2_with fail
   refine (several_any R (Pa.exprR k) _ rfl k HR.out 4 0 t.at_ 0 gpp gv go q hqk hlq _ hk.sep).mono ?_
   intro e w4 hSO
   have hTO := TOut.of hk hSO
   rw [← HVE.out] at hTO
   have hT2 := hTO
   unfold TOut at hTO
   generalize Pa.exprR (k + 1) (t :: q) = xr at *
   obtain ⟨xo, xq⟩ := xr
   cases xo with
   | none =>
    obtain ⟨rfl, -⟩ := hTO
    unfold panP at hT2 ⊢
    go_wp2_with fail
    exact ⟨rfl, hT2⟩
   | some xf =>
    obtain ⟨x, g, -, -, rfl, -⟩ := hTO
    go_wp2_with fail
    go_ret
    exact hT2
  | false =>
   rw [takeT, if_neg (by rw [h1]; simp)] at hk
   have d0 := (hk.blk 2 rfl).cell 0
   have d1 := (hk.blk 1 rfl).cell 0
   simp only [List.getElem?_cons_zero] at d0 d1
   go_wp2_with fail
   refine (zay Pa.kAtleast R _ _ hk.pr).mono ?_
   rintro e w3 ⟨rfl, hH⟩
   have hk := hk.rd1 hH
   clear hH d0 d1
   cases h2 : Pa.isT Pa.kAtleast (t :: q) with
   | true =>
    rw [takeT, if_pos h2] at hk
    have hk : Hp [R.gp, R.gt] W [ipr R q, ibox gpp R.gp, ivar gv go, itree ⟨0, 0, [], [], t.at_⟩ go (.slice none 0 0)] w3 := hk
    have HVE := hid (HV.out.trans (by rw [if_neg (by rw [h0]; simp), if_neg (by rw [h1]; simp), if_pos h2]))
    clear HV
    have hkd := hk.drew
    have HN := hid (zbq R q _ hkd.pr hlq)
    have hkp := Pa.num_keeps q hkd.pr.good
    generalize Pa.numR q = x1 at *
    obtain ⟨o1, q2⟩ := x1
    simp only at hkp
    have hql := hkp.1.length_le
    have d0 := (hkd.blk 2 rfl).cell 0
    have d1 := (hkd.blk 1 rfl).cell 0
    simp only [List.getElem?_cons_zero] at d0 d1
    cases o1 with
    | none =>
     rw [zan] at HN
     rw [Pa.then_none] at HVE
     go_upto_region 8 with fail
     refine wp_region_held_drew (S := (fun w' => w'.cell? ⟨gv, 0, none⟩ = some (ptr go) ∧ w'.cell? ⟨gpp, 0, none⟩ = some (ptr R.gp))) (by kernel_rfl) ?_ (fun hHeld => ?_)
     ·exact ⟨d0, d1⟩
     refine tk2 0 rfl ?_
     try simp only [Act.put, tS1, tS2, tS4, tS5, tS6]
     refine tk2 1 rfl ?_
     try simp only [Act.put, tS1, tS2, tS3, tS4, tS5, tS6]
     refine tkO 2 rfl fun K hK => ?_
     go_simp
     refine HN.out.mono ?_
     rintro e w4 ⟨rfl, hH⟩
     unfold panP
     go_wp2_with fail
     exact ⟨rfl, TOut.bad HVE.out ((hkd.rd1 hH).sub (r := [_, _, _]))⟩
    | some m =>
     rw [zam] at HN
     rw [Pa.then_some] at HVE
     clear hk
     go_upto_region 8 with fail
     refine wp_region_held_drew (S := (fun w' => w'.cell? ⟨gv, 0, none⟩ = some (ptr go) ∧ w'.cell? ⟨gpp, 0, none⟩ = some (ptr R.gp))) (by kernel_rfl) ?_ (fun hHeld => ?_)
     ·exact ⟨d0, d1⟩
     refine tk2 0 rfl ?_
     try simp only [Act.put, tS1, tS2, tS4, tS5, tS6]
     refine tk2 1 rfl ?_
     try simp only [Act.put, tS1, tS2, tS3, tS4, tS5, tS6]
     refine tkO 2 rfl fun K hK => ?_
     go_simp
     refine HN.out.mono ?_
     rintro e w4 ⟨rfl, hH⟩
     have hk4 := hkd.rd1 hH
     clear hH hkd HN
     have e0 := (hk4.blk 2 rfl).cell 0
     have e1 := (hk4.blk 1 rfl).cell 0
     simp only [List.getElem?_cons_zero] at e0 e1
     obtain ⟨n0, n1, n2, n3, n4, n5, n6⟩ := (hk4.blk 3 rfl).get7
     have f1 := (hk4.blk 3 rfl).frozen 1
     have hne : go ≠ gv ∧ go ≠ gpp := by
      have := hk4.ne
      simp [iblk, ipr] at this
      exact ⟨fun h => this.2.2.2 h.symm, fun h => this.2.2.1.2 h.symm⟩
     refine hK.out _ _ ⟨e0, e1⟩ fun hHeld => ?_
     clear hK K
     refine tk2 3 rfl ?_
     try simp only [Act.put, tS1, tS2, tS3, tS4, tS5, tS6]
     refine tk2 4 rfl ?_
     try simp only [Act.put, tS1, tS2, tS3, tS4, tS5, tS6]
     refine tk2 5 rfl ?_
     try simp only [Act.put, tS1, tS2, tS3, tS4, tS5, tS6]
     refine tkO 6 rfl fun K hK => ?_
     go_simp
     refine hK.out _ _ ⟨zb2 e0 hne.1 _, zb2 e1 hne.2 _⟩ fun hHeld => ?_
     clear hK K
     refine wpAnyH_done (by kernel_rfl) ?_ _
     have hk5 : Hp [R.gp, R.gt] W [ipr R q2, ibox gpp R.gp, ivar gv go, itree ⟨0, m, [], [], t.at_⟩ go (.slice none 0 0)] (w4.setCell ⟨go, 1, none⟩ (.int .i64 m)) := hk4.set 3 rfl 1 (.int .i64 m)
     clear hk4 n0 n1 n2 n3 n4 n5 n6 f1 e0 e1 d0 d1 hHeld hne
     generalize w4.setCell ⟨go, 1, none⟩ (.int .i64 m) = w5 at *
     have d0 := (hk5.blk 2 rfl).cell 0
     have d1 := (hk5.blk 1 rfl).cell 0
     simp only [List.getElem?_cons_zero] at d0 d1
     go_wp2_with fail
     refine (several_any R (Pa.exprR k) _ rfl k HR.out 5 m t.at_ 0 gpp gv go q2 (by omega) (hlq.suf hkp.1) _ hk5.sep).mono ?_
     intro e w6 hSO
     have hTO := TOut.of hk5 hSO
     rw [← HVE.out] at hTO
     have hT2 := hTO
     unfold TOut at hTO
     generalize Pa.exprR (k + 1) (t :: q) = xr at *
     obtain ⟨xo, xq⟩ := xr
     cases xo with
     | none =>
      obtain ⟨rfl, -⟩ := hTO
      unfold panP at hT2 ⊢
      go_wp2_with fail
      exact ⟨rfl, hT2⟩
     | some xf =>
      obtain ⟨x, g, -, -, rfl, -⟩ := hTO
      go_wp2_with fail
      go_ret
      exact hT2
   | false =>
    rw [takeT, if_neg (by rw [h2]; simp)] at hk
    have d0 := (hk.blk 2 rfl).cell 0
    have d1 := (hk.blk 1 rfl).cell 0
    simp only [List.getElem?_cons_zero] at d0 d1
    go_wp2_with fail
    refine (zay Pa.kNot R _ _ hk.pr).mono ?_
    rintro e w3 ⟨rfl, hH⟩
    have hk := hk.rd1 hH
    clear hH d0 d1
    cases h3 : Pa.isT Pa.kNot (t :: q) with
    | true =>
     rw [takeT, if_pos h3] at hk
     have hk : Hp [R.gp, R.gt] W [ipr R q, ibox gpp R.gp, ivar gv go, itree ⟨0, 0, [], [], t.at_⟩ go (.slice none 0 0)] w3 := hk
     have HVE := hid (HV.out.trans (by rw [if_neg (by rw [h0]; simp), if_neg (by rw [h1]; simp), if_neg (by rw [h2]; simp), if_pos h3]))
     clear HV
     have d0 := (hk.blk 2 rfl).cell 0
     have d1 := (hk.blk 1 rfl).cell 0
     simp only [List.getElem?_cons_zero] at d0 d1
     obtain ⟨n0, n1, n2, n3, n4, n5, n6⟩ := (hk.blk 3 rfl).get7
     have f0 := (hk.blk 3 rfl).frozen 0
     have hk4 : Hp [R.gp, R.gt] W [ipr R q, ibox gpp R.gp, ivar gv go, itree ⟨2, 0, [], [], t.at_⟩ go (.slice none 0 0)] (w3.setCell ⟨go, 0, none⟩ (.int .i64 2)) := hk.set 3 rfl 0 (.int .i64 2)
     go_upto_region 12 with fail
     clear n0 n1 n2 n3 n4 n5 n6 f0 d0 d1 hk
     generalize w3.setCell ⟨go, 0, none⟩ (.int .i64 2) = w4 at *
     have hkd := hk4.drew
     clear hk4
     have d0 := (hkd.blk 2 rfl).cell 0
     have d1 := (hkd.blk 1 rfl).cell 0
     simp only [List.getElem?_cons_zero] at d0 d1
     have HX := hid (HI.out q _ hqk hkd.pr hlq)
     generalize Pa.exprR k q = x1 at *
     obtain ⟨o1, q2⟩ := x1
     cases o1 with
     | none =>
      rw [Pa.then_none] at HVE
      refine wp_region_held_drew (S := (fun w' => w'.cell? ⟨gv, 0, none⟩ = some (ptr go) ∧ w'.cell? ⟨gpp, 0, none⟩ = some (ptr R.gp))) (by kernel_rfl) ?_ (fun hHeld => ?_)
      ·exact ⟨d0, d1⟩
      refine tk2 0 rfl ?_
      try simp only [Act.put, tS1, tS2, tS4, tS5, tS6]
      refine tk2 1 rfl ?_
      try simp only [Act.put, tS1, tS2, tS3, tS4, tS5, tS6]
      refine tkO 2 rfl fun K hK => ?_
      go_simp
      refine HX.out.mono ?_
      rintro e w5 ⟨rfl, hH⟩
      unfold panP
      go_wp2_with fail
      exact ⟨rfl, TOut.bad HVE.out ((hkd.rd1 hH).sub (r := [_, _, _]))⟩
     | some f =>
      rw [Pa.then_some] at HVE
      refine wp_region_held_drew (S := (fun w' => w'.cell? ⟨gv, 0, none⟩ = some (ptr go) ∧ w'.cell? ⟨gpp, 0, none⟩ = some (ptr R.gp))) (by kernel_rfl) ?_ (fun hHeld => ?_)
      ·exact ⟨d0, d1⟩
      refine tk2 0 rfl ?_
      try simp only [Act.put, tS1, tS2, tS4, tS5, tS6]
      refine tk2 1 rfl ?_
      try simp only [Act.put, tS1, tS2, tS3, tS4, tS5, tS6]
      refine tkO 2 rfl fun K hK => ?_
      go_simp
      refine HX.out.mono ?_
      rintro e w5 ⟨x, gx, hxo, hxr, rfl, hH⟩
      have hk5 : Hp [R.gp, R.gt] W (ipr R q2 :: ibox gpp R.gp :: ivar gv go :: itree ⟨2, 0, [], [], t.at_⟩ go (.slice none 0 0) :: x.its) w5 := (hkd.rd hH).perm (List.Perm.cons _ List.perm_append_comm)
      clear hH hkd HX
      have e0 := (hk5.blk 2 rfl).cell 0
      have e1 := (hk5.blk 1 rfl).cell 0
      simp only [List.getElem?_cons_zero] at e0 e1
      refine hK.out _ _ ⟨e0, e1⟩ fun hHeld => ?_
      clear hK K
      refine tkO 3 rfl fun K hK => ?_
      go_simp
      have hk6 : Hp [R.gp, R.gt] W (ipr R q2 :: ibox gpp R.gp :: ivar gv go :: itree ⟨2, 0, [], [], t.at_⟩ go (.slice none 0 0) :: iptrs (.slice (some ⟨w5.heap.size, 0, none⟩) 1 1) x.roots :: x.its) (w5.alloc (.cells #[ptr gx] 159)) := by
       rw [hxr]
       exact (hk5.newrow 159 [ptr gx] (by unfold maxLen; simp)).perm (perm_in4 _ _ _ _ _ _)
      clear hk5 e0 e1
      have e0 := (hk6.blk 2 rfl).cell 0
      have e1 := (hk6.blk 1 rfl).cell 0
      simp only [List.getElem?_cons_zero] at e0 e1
      obtain ⟨n0, n1, n2, n3, n4, n5, n6⟩ := (hk6.blk 3 rfl).get7
      have f6 := (hk6.blk 3 rfl).frozen 6
      have hne : go ≠ gv ∧ go ≠ gpp := by
       have := hk6.ne
       simp [iblk, ipr] at this
       exact ⟨fun h => this.2.2.2.1.1 h.symm, fun h => this.2.2.1.2.1 h.symm⟩
      refine hK.out _ _ ⟨e0, e1⟩ fun hHeld => ?_
      clear hK K
      refine tk2 4 rfl ?_
      try simp only [Act.put, tS1, tS2, tS3, tS4, tS5, tS6]
      refine tk2 5 rfl ?_
      try simp only [Act.put, tS1, tS2, tS3, tS4, tS5, tS6]
      refine tkO 6 rfl fun K hK => ?_
      go_simp
      refine hK.out _ _ ⟨zb2 e0 hne.1 _, zb2 e1 hne.2 _⟩ fun hHeld => ?_
      clear hK K
      refine wpAnyH_done (by kernel_rfl) ?_ _
      have hk7 : Hp [R.gp, R.gt] W (ipr R q2 :: ibox gpp R.gp :: ivar gv go :: itree ⟨2, 0, [], [], t.at_⟩ go (.slice (some ⟨w5.heap.size, 0, none⟩) 1 1) :: iptrs (.slice (some ⟨w5.heap.size, 0, none⟩) 1 1) x.roots :: x.its) ((w5.alloc (.cells #[ptr gx] 159)).setCell ⟨go, 6, none⟩ (.slice (some ⟨w5.heap.size, 0, none⟩) 1 1)) := hk6.set 3 rfl 6 (.slice (some ⟨w5.heap.size, 0, none⟩) 1 1)
      clear hk6 n0 n1 n2 n3 n4 n5 n6 f6 e0 e1 d0 d1 hHeld hne
      generalize (w5.alloc (.cells #[ptr gx] 159)).setCell ⟨go, 6, none⟩ (.slice (some ⟨w5.heap.size, 0, none⟩) 1 1) = w7 at *
      have d0 := (hk7.blk 2 rfl).cell 0
      simp only [List.getElem?_cons_zero] at d0
      go_wp2_with fail
      go_ret
      refine TOut.node HVE.out x hxo (kv := .slice (some ⟨w5.heap.size, 0, none⟩) 1 1) ?_
      exact (hk7.perm (List.Perm.cons _ (perm2b _ _ _))).sub (r := [ibox gpp R.gp, ivar gv go])
    | false =>
     rw [takeT, if_neg (by rw [h3]; simp)] at hk
     have d0 := (hk.blk 2 rfl).cell 0
     have d1 := (hk.blk 1 rfl).cell 0
     simp only [List.getElem?_cons_zero] at d0 d1
     go_wp2_with fail
     refine (zay Pa.kTrue R _ _ hk.pr).mono ?_
     rintro e w3 ⟨rfl, hH⟩
     have hk := hk.rd1 hH
     clear hH d0 d1
     cases h4 : Pa.isT Pa.kTrue (t :: q) with
     | true =>
      rw [takeT, if_pos h4] at hk
      have hk : Hp [R.gp, R.gt] W [ipr R q, ibox gpp R.gp, ivar gv go, itree ⟨0, 0, [], [], t.at_⟩ go (.slice none 0 0)] w3 := hk
      have HVE := hid (HV.out.trans (by rw [if_neg (by rw [h0]; simp), if_neg (by rw [h1]; simp), if_neg (by rw [h2]; simp), if_neg (by rw [h3]; simp), if_pos h4]))
      clear HV
      have d0 := (hk.blk 2 rfl).cell 0
      have d1 := (hk.blk 1 rfl).cell 0
      simp only [List.getElem?_cons_zero] at d0 d1
      obtain ⟨n0, n1, n2, n3, n4, n5, n6⟩ := (hk.blk 3 rfl).get7
      have f0 := (hk.blk 3 rfl).frozen 0
      have hk4 : Hp [R.gp, R.gt] W [ipr R q, ibox gpp R.gp, ivar gv go, itree ⟨0, 0, [], [], t.at_⟩ go (.slice none 0 0)] (w3.setCell ⟨go, 0, none⟩ (.int .i64 0)) := hk.set 3 rfl 0 (.int .i64 0)
      go_upto_region 16 with fail
      clear n0 n1 n2 n3 n4 n5 n6 f0 d0 d1 hk
      generalize w3.setCell ⟨go, 0, none⟩ (.int .i64 0) = w4 at *
      have d0 := (hk4.blk 2 rfl).cell 0
      simp only [List.getElem?_cons_zero] at d0
      go_wp2_with fail
      go_ret
      refine TOut.leaf HVE.out ?_
      exact (hk4.perm (List.Perm.cons _ (perm2b _ _ _))).sub (r := [ibox gpp R.gp, ivar gv go])
     | false =>
      rw [takeT, if_neg (by rw [h4]; simp)] at hk
      have d0 := (hk.blk 2 rfl).cell 0
      have d1 := (hk.blk 1 rfl).cell 0
      simp only [List.getElem?_cons_zero] at d0 d1
      go_wp2_with fail
      refine (zay Pa.kFalse R _ _ hk.pr).mono ?_
      rintro e w3 ⟨rfl, hH⟩
      have hk := hk.rd1 hH
      clear hH d0 d1
      cases h5 : Pa.isT Pa.kFalse (t :: q) with
      | true =>
       rw [takeT, if_pos h5] at hk
       have hk : Hp [R.gp, R.gt] W [ipr R q, ibox gpp R.gp, ivar gv go, itree ⟨0, 0, [], [], t.at_⟩ go (.slice none 0 0)] w3 := hk
       have HVE := hid (HV.out.trans (by rw [if_neg (by rw [h0]; simp), if_neg (by rw [h1]; simp), if_neg (by rw [h2]; simp), if_neg (by rw [h3]; simp), if_neg (by rw [h4]; simp), if_pos h5]))
       clear HV
       have d0 := (hk.blk 2 rfl).cell 0
       have d1 := (hk.blk 1 rfl).cell 0
       simp only [List.getElem?_cons_zero] at d0 d1
       obtain ⟨n0, n1, n2, n3, n4, n5, n6⟩ := (hk.blk 3 rfl).get7
       have f0 := (hk.blk 3 rfl).frozen 0
       have hk4 : Hp [R.gp, R.gt] W [ipr R q, ibox gpp R.gp, ivar gv go, itree ⟨1, 0, [], [], t.at_⟩ go (.slice none 0 0)] (w3.setCell ⟨go, 0, none⟩ (.int .i64 1)) := hk.set 3 rfl 0 (.int .i64 1)
       go_upto_region 19 with fail
       clear n0 n1 n2 n3 n4 n5 n6 f0 d0 d1 hk
       generalize w3.setCell ⟨go, 0, none⟩ (.int .i64 1) = w4 at *
       have d0 := (hk4.blk 2 rfl).cell 0
       simp only [List.getElem?_cons_zero] at d0
       go_wp2_with fail
       go_ret
       refine TOut.leaf HVE.out ?_
       exact (hk4.perm (List.Perm.cons _ (perm2b _ _ _))).sub (r := [ibox gpp R.gp, ivar gv go])
      | false =>
       rw [takeT, if_neg (by rw [h5]; simp)] at hk
       have d0 := (hk.blk 2 rfl).cell 0
       have d1 := (hk.blk 1 rfl).cell 0
       simp only [List.getElem?_cons_zero] at d0 d1
       go_wp2_with fail
       refine (zay Pa.sOpen R _ _ hk.pr).mono ?_
       rintro e w3 ⟨rfl, hH⟩
       have hk := hk.rd1 hH
       clear hH d0 d1
       cases h6 : Pa.isT Pa.sOpen (t :: q) with
       | true =>
        rw [takeT, if_pos h6] at hk
        have hk : Hp [R.gp, R.gt] W [ipr R q, ibox gpp R.gp, ivar gv go, itree ⟨0, 0, [], [], t.at_⟩ go (.slice none 0 0)] w3 := hk
        have HVE := hid (HV.out.trans (by rw [if_neg (by rw [h0]; simp), if_neg (by rw [h1]; simp), if_neg (by rw [h2]; simp), if_neg (by rw [h3]; simp), if_neg (by rw [h4]; simp), if_neg (by rw [h5]; simp), if_pos h6]))
        clear HV
        have d0 := (hk.blk 2 rfl).cell 0
        have d1 := (hk.blk 1 rfl).cell 0
        simp only [List.getElem?_cons_zero] at d0 d1
        have HX := hid (HI.out q _ hqk hk.pr hlq)
        generalize Pa.exprR k q = x1 at *
        obtain ⟨o1, q2⟩ := x1
        cases o1 with
        | none =>
         rw [Pa.then_none] at HVE
         go_wp2_with fail
         refine HX.out.mono ?_
         rintro e w4 ⟨rfl, hH⟩
         unfold panP
         go_wp2_with fail
         exact ⟨rfl, TOut.bad HVE.out ((hk.rd1 hH).sub (r := [_, _, _]))⟩
        | some f =>
         rw [Pa.then_some] at HVE
         go_wp2_with fail
         refine HX.out.mono ?_
         rintro e w4 ⟨x, gx, hxo, hxr, rfl, hH⟩
         have hk4 : Hp [R.gp, R.gt] W (ipr R q2 :: ibox gpp R.gp :: ivar gv go :: itree ⟨0, 0, [], [], t.at_⟩ go (.slice none 0 0) :: x.its) w4 := (hk.rd hH).perm (List.Perm.cons _ List.perm_append_comm)
         clear hk hH HX d0 d1
         have d0 := (hk4.blk 2 rfl).cell 0
         have d1 := (hk4.blk 1 rfl).cell 0
         simp only [List.getElem?_cons_zero] at d0 d1
         have HN := hid (zbk Pa.sClose R q2 _ hk4.pr)
         generalize Pa.needR Pa.sClose q2 = x3 at *
         obtain ⟨o3, q3⟩ := x3
         cases o3 with
         | none =>
          rw [zan] at HN
          rw [Pa.then_none] at HVE
          go_wp2_with fail
          refine HN.out.mono ?_
          rintro e w5 ⟨rfl, hH⟩
          unfold panP
          go_wp2_with fail
          exact ⟨rfl, TOut.bad HVE.out ((hk4.rd1 hH).sub (r := _))⟩
         | some u =>
          rw [zam] at HN
          rw [Pa.then_some] at HVE
          go_wp2_with fail
          refine HN.out.mono ?_
          rintro e w5 ⟨rfl, hH⟩
          have hk5 := hk4.rd1 hH
          go_wp2_with fail
          go_ret
          unfold TOut
          rw [HVE.out]
          refine ⟨x, gx, hxo, hxr, rfl, ?_⟩
          refine (hk5.perm (List.Perm.cons _ ?_)).sub (r := [ibox gpp R.gp, ivar gv go, itree ⟨0, 0, [], [], t.at_⟩ go (.slice none 0 0)])
          exact List.perm_append_comm (l₁ := [ibox gpp R.gp, ivar gv go, itree ⟨0, 0, [], [], t.at_⟩ go (.slice none 0 0)])
       | false =>
        rw [takeT, if_neg (by rw [h6]; simp)] at hk
        have HVE := hid (HV.out.trans (by rw [if_neg (by rw [h0]; simp), if_neg (by rw [h1]; simp), if_neg (by rw [h2]; simp), if_neg (by rw [h3]; simp), if_neg (by rw [h4]; simp), if_neg (by rw [h5]; simp), if_neg (by rw [h6]; simp)]))
        clear HV
        have d0 := (hk.blk 2 rfl).cell 0
        have d1 := (hk.blk 1 rfl).cell 0
        simp only [List.getElem?_cons_zero] at d0 d1
        go_wp2_with fail
        refine (condition_any R _ _ hk.pr hl).mono ?_
        intro e w4 hTO
        rw [← HVE.out] at hTO
        have hT2 : TOut R W (Pa.exprR (k + 1) (t :: q)) e w4 := TOut.lift hk hTO
        clear hTO
        have hTO := hT2
        clear hT2
        have hT2 := hTO
        unfold TOut at hTO
        generalize Pa.exprR (k + 1) (t :: q) = xr at *
        obtain ⟨xo, xq⟩ := xr
        cases xo with
        | none =>
         obtain ⟨rfl, -⟩ := hTO
         unfold panP at hT2 ⊢
         go_wp2_with fail
         exact ⟨rfl, hT2⟩
        | some xf =>
         obtain ⟨x, g, -, -, rfl, -⟩ := hTO
         go_wp2_with fail
         go_ret
         exact hT2
end Go.Proofs.YtekkapgknohadaaGreatDoor
