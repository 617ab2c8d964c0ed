/- The parser's reader: the kids of all, any, atleast. Printed by mkpbh.py. -/
import Derived.Test.YtekkapgknohadaaGreatDoorM3
import Derived.Test.YtekkapgknohadaaGreatDoorM12
import Derived.Deep.RegionHeldLaw
set_option linter.unusedVariables false
set_option maxRecDepth 20000
set_option maxHeartbeats 8000000
namespace Go.Proofs.YtekkapgknohadaaGreatDoor
open Go.RowKit Go.Shelf
attribute [local go_sem] tf0 tf1 tf2
abbrev ibox (g gp : Nat) : It := iblk g 76 [ptr gp]
abbrev ivar (g go : Nat) : It := iblk g 159 [ptr go]
def SOut (R : PR) (o : List Nat) (W : World) (go : Nat) (r : Pa.Rd Pa.F) (e : Ending) (w' : World) : Prop :=
 match r.1 with
 | none => e = panP (Pa.atT r.2) ∧ Hp o W [ipr R r.2] w'
 | some f => ∃ n kv x, f = .cons n (LF.out x) .nil ∧ e = .returned (ptr go) ∧ Hp o W (ipr R r.2 :: itree n go kv :: iptrs kv x.roots :: x.its) w'
theorem SOut.bad {R : PR} {o : List Nat} {W : World} {go : Nat} {r : Pa.Rd Pa.F} {q : List Lx.Tok} {w' : World} (h : r = (none, q)) (hH : Hp o W [ipr R q] w') : SOut R o W go r (panP (Pa.atT q)) w' := by subst h; exact ⟨rfl, hH⟩
theorem perm2b {α : Type} (a b : α) (l : List α) : (a :: b :: l).Perm (l ++ [a, b]) := List.perm_append_comm (l₁ := [a, b])
theorem several_any (R : PR) (rd : List Lx.Tok → Pa.Rd Pa.F) (f : FuncId) (hfe : f = 76) (m : Nat) (hf : ∀ ts : List Lx.Tok, ts.length ≤ m → Reads R f rd ts.length) (kind : Nat) (num : Int) (at_ : Nat) (kind0 : Nat) (gpp gv go : Nat) (ts : List Lx.Tok) (hts : ts.length ≤ m) (hl : Shorts ts) (W : World) (hS : Sep W [ipr R ts, ibox gpp R.gp, ivar gv go, itree ⟨kind0, num, [], [], at_⟩ go (.slice none 0 0)]) :
 Calls Tryz.prog 142 #[.int .i64 (kind : Int), ptr gv, ptr gpp] W (SOut R (ow [ipr R ts, ibox gpp R.gp, ivar gv go, itree ⟨kind0, num, [], [], at_⟩ go (.slice none 0 0)]) W go (Pa.kidsR rd ⟨kind, num, [], [], at_⟩ ts)) := by
 have hmf : ∀ (fn : Fn) (first cap : Array Value) (w : World), (Instr.makeFunc fn first cap).run Tryz.prog w = .ok (.func fn first cap) w := fun _ _ _ _ => rfl
 have hk0 := Hp.self hS
 generalize ow [ipr R ts, ibox gpp R.gp, ivar gv go, itree ⟨kind0, num, [], [], at_⟩ go (.slice none 0 0)] = o at *
 clear hS
 have HV : Hid (Pa.kidsR rd ⟨kind, num, [], [], at_⟩ ts = (Pa.needR Pa.sOpen ts).then fun _ q => (Pa.listR rd q.length q).then fun l q => (Pa.needR Pa.sClose q).then fun _ q => (some (.cons ⟨kind, num, [], [], at_⟩ (Pa.F.cat l) .nil), q)) := Lib.hid rfl
 have HF := Lib.hid hf
 clear hf
 have d0 := (hk0.blk 2 rfl).cell 0
 simp only [List.getElem?_cons_zero] at d0
 obtain ⟨n0, n1, n2, n3, n4, n5, n6⟩ := (hk0.blk 3 rfl).get7
 have f0 := (hk0.blk 3 rfl).frozen 0
 have hk1 : Hp o W [ipr R ts, ibox gpp R.gp, ivar gv go, itree ⟨kind, num, [], [], at_⟩ go (.slice none 0 0)] (W.setCell ⟨go, 0, none⟩ (.int .i64 (kind : Int))) := hk0.set 3 rfl 0 (.int .i64 (kind : Int))
 clear hk0
 go_enter Tryz.func142, Tryz.ntmps142
 go_upto_region 2 with fail
 clear d0 n0 n1 n2 n3 n4 n5 n6 f0
 generalize W.setCell ⟨go, 0, none⟩ (.int .i64 (kind : Int)) = w1 at *
 have d0 := (hk1.blk 2 rfl).cell 0
 have d1 := (hk1.blk 1 rfl).cell 0
 simp only [List.getElem?_cons_zero] at d0 d1
 have HN := Lib.hid (zbk Pa.sOpen R ts _ hk1.pr)
 have hkp := Pa.need_keeps Pa.sOpen ts hk1.pr.good
 generalize Pa.needR Pa.sOpen ts = x1 at *
 obtain ⟨o1, q1⟩ := x1
 simp only at hkp
 cases o1 with
 | none =>
  rw [zan] at HN
  rw [Pa.then_none] at HV
  go_wp2_with fail
  refine HN.out.mono ?_
  rintro e w2 ⟨rfl, hH⟩
  unfold panP
  go_wp2_with fail
  exact ⟨rfl, SOut.bad HV.out ((hk1.rd1 hH).sub (r := [_, _, _]))⟩
 | some u =>
  rw [zam] at HN
  rw [Pa.then_some] at HV
  go_wp2_with fail
  refine HN.out.mono ?_
  rintro e w2 ⟨rfl, hH⟩
  have hk2 := (hk1.rd1 hH).drew
  clear hk1 hH HN d0 d1
  have d0 := (hk2.blk 2 rfl).cell 0
  have d1 := (hk2.blk 1 rfl).cell 0
  simp only [List.getElem?_cons_zero] at d0 d1
  have hql := hkp.1.length_le
  have HL := Lib.hid (list_any R f rd q1 (HF.out q1 (by omega)) _ hk2.pr (hl.suf hkp.1))
  subst hfe
  have hkp2 := Pa.list_keeps (HF.out q1 (by omega)).keeps q1.length q1 hkp.2
  generalize Pa.listR rd q1.length q1 = x2 at *
  obtain ⟨o2, q2⟩ := x2
  simp only at hkp2
  cases o2 with
  | none =>
   rw [Pa.then_none] at HV
   go_upto_region 3 with fail
   refine wp_region_held_drew (S := (fun w' => w'.cell? ⟨gv, 0, none⟩ = some (ptr go) ∧ w'.cell? ⟨gpp, 0, none⟩ = some (ptr R.gp))) (by kernel_rfl) ?_ (fun hHeld => ?_)
   ·exact ⟨d0, d1⟩
   refine tk2 0 rfl ?_
   try simp only [Act.put, tS1, tS2, tS4, tS5, tS6]
   refine tk2 1 rfl ?_
   try simp only [Act.put, tS1, tS2, tS3, tS4, tS5, tS6]
   refine tk2 2 rfl ?_
   try simp only [Act.put, tS1, tS2, tS3, tS4, tS5, tS6]
   refine tk2 3 rfl ?_
   try simp only [Act.put, tS1, tS2, tS3, tS4, tS5, tS6]
   refine tkO 4 rfl fun K hK => ?_
   go_simp
   refine HL.out.mono ?_
   rintro e w3 ⟨rfl, hH⟩
   unfold panP
   go_wp2_with fail
   exact ⟨rfl, SOut.bad HV.out ((hk2.rd1 hH).sub (r := [_, _, _]))⟩
  | some l =>
   rw [Pa.then_some] at HV
   go_upto_region 3 with fail
   refine wp_region_held_drew (S := (fun w' => w'.cell? ⟨gv, 0, none⟩ = some (ptr go) ∧ w'.cell? ⟨gpp, 0, none⟩ = some (ptr R.gp))) (by kernel_rfl) ?_ (fun hHeld => ?_)
   ·exact ⟨d0, d1⟩
   refine tk2 0 rfl ?_
   try simp only [Act.put, tS1, tS2, tS4, tS5, tS6]
   refine tk2 1 rfl ?_
   try simp only [Act.put, tS1, tS2, tS3, tS4, tS5, tS6]
   refine tk2 2 rfl ?_
   try simp only [Act.put, tS1, tS2, tS3, tS4, tS5, tS6]
   refine tk2 3 rfl ?_
   try simp only [Act.put, tS1, tS2, tS3, tS4, tS5, tS6]
   refine tkO 4 rfl fun K hK => ?_
   go_simp
   refine HL.out.mono ?_
   rintro e w3 ⟨x, A, c, hxo, hxn, hxl, rfl, hH⟩
   have hk3 : Hp o W (ipr R q2 :: ibox gpp R.gp :: ivar gv go :: itree ⟨kind, num, [], [], at_⟩ go (.slice none 0 0) :: iptrs (.slice A x.roots.length c) x.roots :: x.its) w3 := (hk2.rd hH).perm (List.Perm.cons _ List.perm_append_comm)
   clear hk2 hH HL
   have e0 := (hk3.blk 2 rfl).cell 0
   have e1 := (hk3.blk 1 rfl).cell 0
   simp only [List.getElem?_cons_zero] at e0 e1
   obtain ⟨n0, n1, n2, n3, n4, n5, n6⟩ := (hk3.blk 3 rfl).get7
   have f6 := (hk3.blk 3 rfl).frozen 6
   have hne : go ≠ gv ∧ go ≠ gpp := by
    have := hk3.ne
    simp [iblk, ipr] at this
    exact ⟨fun h => this.2.2.2.1.1 h.symm, fun h => this.2.2.1.2.1 h.symm⟩
   refine hK.out _ _ ⟨e0, e1⟩ fun hHeld => ?_
   clear hK K
   refine tk2 5 rfl ?_
   try simp only [Act.put, tS1, tS2, tS3, tS4, tS5, tS6]
   refine tk2 6 rfl ?_
   try simp only [Act.put, tS1, tS2, tS3, tS4, tS5, tS6]
   refine tkO 7 rfl fun K hK => ?_
   go_simp
   refine hK.out _ _ ⟨zb2 e0 hne.1 _, zb2 e1 hne.2 _⟩ fun hHeld => ?_
   clear hK K
   refine wpAnyH_done (by kernel_rfl) ?_ _
   have hk4 : Hp o W (ipr R q2 :: ibox gpp R.gp :: ivar gv go :: itree ⟨kind, num, [], [], at_⟩ go (.slice A x.roots.length c) :: iptrs (.slice A x.roots.length c) x.roots :: x.its) (w3.setCell ⟨go, 6, none⟩ (.slice A x.roots.length c)) := hk3.set 3 rfl 6 (.slice A x.roots.length c)
   clear hk3 n0 n1 n2 n3 n4 n5 n6 f6 e0 e1 d0 d1 hHeld hne
   generalize w3.setCell ⟨go, 6, none⟩ (.slice A x.roots.length c) = w4 at *
   have e0 := (hk4.blk 2 rfl).cell 0
   have e1 := (hk4.blk 1 rfl).cell 0
   simp only [List.getElem?_cons_zero] at e0 e1
   have HN := Lib.hid (zbk Pa.sClose R q2 _ hk4.pr)
   generalize Pa.needR Pa.sClose q2 = x3 at *
   obtain ⟨o3, q3⟩ := x3
   cases o3 with
   | none =>
    rw [zan] at HN
    rw [Pa.then_none] at HV
    go_wp2_with fail
    refine HN.out.mono ?_
    rintro e w5 ⟨rfl, hH⟩
    unfold panP
    go_wp2_with fail
    exact ⟨rfl, SOut.bad HV.out ((hk4.rd1 hH).sub (r := _))⟩
   | some u3 =>
    rw [zam] at HN
    rw [Pa.then_some] at HV
    go_wp2_with fail
    refine HN.out.mono ?_
    rintro e w5 ⟨rfl, hH⟩
    have hk5 := hk4.rd1 hH
    clear hk4 hH HN e0 e1
    have e0 := (hk5.blk 2 rfl).cell 0
    simp only [List.getElem?_cons_zero] at e0
    go_wp2_with fail
    go_ret
    unfold SOut
    rw [HV.out]
    refine ⟨⟨kind, num, [], [], at_⟩, .slice A x.roots.length c, x, by rw [hxo], rfl, ?_⟩
    exact (hk5.perm (List.Perm.cons _ (perm2b _ _ _))).sub (r := [ibox gpp R.gp, ivar gv go])
end Go.Proofs.YtekkapgknohadaaGreatDoor
