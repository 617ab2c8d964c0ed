/- The parser's reader: policy, the walk. Printed by mkpbm.py. Under way. -/
import Derived.Test.YtekkapgknohadaaGreatDoorM3
import Derived.Test.YtekkapgknohadaaGreatDoorM16
import Derived.Deep.AppendLies
import Derived.Deep.RegionLaw
set_option linter.unusedVariables false
set_option maxRecDepth 20000
set_option maxHeartbeats 16000000
namespace Go.Proofs.YtekkapgknohadaaGreatDoor
open Go.RowKit Go.Shelf
open Lib (hid)
attribute [local go_sem] tf0 tf1 tf2
abbrev zPl : List Value := [.string ⟨#[]⟩, .slice none 0 0, .slice none 0 0, .slice none 0 0, .int .i64 0, .string ⟨#[]⟩, .int .i64 0, .string ⟨#[]⟩]
def POut (R : PR) (W : World) (r : Pa.Rd Pa.Pl) (e : Ending) (w' : World) : Prop :=
 match r.1 with
 | none => e = panP (Pa.atT r.2) ∧ Hp [R.gp, R.gt] W [ipr R r.2] w'
 | some p => ∃ vu vr vn P, P.map Prod.fst = p.root.num 0 ∧ e = .returned (.agg (plc p.name vu vr vn p.scope p.limit p.escrow).toArray) ∧ Hp [R.gp, R.gt] W (ipr R r.2 :: iuses vu p.uses :: irefs vr p.reveal :: inodes vn P :: krows P) w'
theorem POut.bad {R : PR} {W : World} {r : Pa.Rd Pa.Pl} {q : List Lx.Tok} {w' : World} (h : r = (none, q)) (hH : Hp [R.gp, R.gt] W [ipr R q] w') : POut R W r (panP (Pa.atT q)) w' := by subst h; exact ⟨rfl, hH⟩
def tailR (nm : Pa.Tx) (us : List (Pa.Tx × Pa.Tx)) (q : List Lx.Tok) : Pa.Rd Pa.Pl :=
 (Pa.revealR q).then fun rv q => (Pa.proveR q).then fun f q => (Pa.scopeR q).then fun s q => (Pa.escrowR q).then fun x q => (Pa.needR Pa.kEnd q).then fun _ q =>
 if Pa.isE q then (some ⟨nm, us, rv, s.1, s.2, x, f⟩, q) else (none, q)
def tl5 (nm : Pa.Tx) (us rv : List (Pa.Tx × Pa.Tx)) (f : Pa.F) (s : Pa.Tx × Int) (x : Pa.Tx) (q : List Lx.Tok) : Pa.Rd Pa.Pl := (Pa.needR Pa.kEnd q).then fun _ q => if Pa.isE q then (some ⟨nm, us, rv, s.1, s.2, x, f⟩, q) else (none, q)
def tl4 (nm : Pa.Tx) (us rv : List (Pa.Tx × Pa.Tx)) (f : Pa.F) (s : Pa.Tx × Int) (q : List Lx.Tok) : Pa.Rd Pa.Pl := (Pa.escrowR q).then fun x q => tl5 nm us rv f s x q
def tl3 (nm : Pa.Tx) (us rv : List (Pa.Tx × Pa.Tx)) (f : Pa.F) (q : List Lx.Tok) : Pa.Rd Pa.Pl := (Pa.scopeR q).then fun s q => tl4 nm us rv f s q
def tl2 (nm : Pa.Tx) (us rv : List (Pa.Tx × Pa.Tx)) (q : List Lx.Tok) : Pa.Rd Pa.Pl := (Pa.proveR q).then fun f q => tl3 nm us rv f q
theorem tailR_eq (nm : Pa.Tx) (us : List (Pa.Tx × Pa.Tx)) (q : List Lx.Tok) : tailR nm us q = (Pa.revealR q).then fun rv q => tl2 nm us rv q := rfl
theorem perm_fin {α : Type} (a b c d e f : α) (T K : List α) : ([a, b, c, d, e] ++ (f :: (T ++ K))).Perm ((a :: d :: e :: f :: K) ++ ([b, c] ++ T)) := by
 refine List.Perm.cons a ?_
 refine (List.perm_append_comm (l₁ := [b, c]) (l₂ := d :: e :: f :: (T ++ K))).trans ?_
 refine List.Perm.cons d (List.Perm.cons e (List.Perm.cons f ?_))
 refine (List.perm_append_comm (l₁ := T) (l₂ := K)).append_right [b, c] |>.trans ?_
 rw [List.append_assoc]
 exact (List.perm_append_comm (l₁ := T) (l₂ := [b, c])).append_left K
theorem lies_at2 {w : World} {v : Value} {n c g H : Nat} (h : v.ownBlock = some g ∨ g = H) (hH : w.heap.size = H) : (Value.slice (some ⟨g, 0, none⟩) n c).ownBlock = v.ownBlock ∨ ∀ k, (Value.slice (some ⟨g, 0, none⟩) n c).ownBlock = some k → w.heap.size ≤ k := by
 rcases h with h | h
 ·exact .inl h.symm
 ·right
  intro k hk
  simp [Value.ownBlock] at hk
  omega
abbrev plb (bO : Nat) (nm : Pa.Tx) (uv rv : Value) (sc : Pa.Tx) (lim : Int) (esc : Pa.Tx) : It := iblk bO 29 (plc nm uv rv (.slice none 0 0) sc lim esc)
theorem new2p (w : World) (t : TypeId) (a b : Value) : ∀ (j : Nat) u, [a, b][j]? = some u → (w.alloc (.cells #[a, b] t)).cell? ((⟨w.heap.size, 0, none⟩ : Addr).add j) = some u := by
 intro j u hu
 have e : (⟨w.heap.size, 0, none⟩ : Addr).add j = ⟨w.heap.size, j, none⟩ := by unfold Addr.add; split <;> simp_all
 rw [e, (show Blk (w.alloc (.cells #[a, b] t)) w.heap.size t [a, b] from Blk.new w t [a, b]).cell j]
 exact hu
theorem perm_in3 {α : Type} (r a b c : α) (l : List α) : (r :: a :: b :: c :: l).Perm (a :: b :: c :: r :: l) := (List.perm_middle (l₁ := [a, b, c])).symm
theorem rdpolicy_any (R : PR) (ts : List Lx.Tok) (W : World) (h : PRok R ts W) (hl : Shorts ts) : Calls Tryz.prog 25 #[ptr R.gp] W (POut R W (Pa.policyR ts)) := by
 have hS := h.self
 have hg := h.good
 have hlen : ts.length ≤ 65537 := Nat.le_trans h.suf.length_le h.len
 obtain ⟨bR, hbR⟩ : ∃ g, W.heap.size = g := ⟨_, rfl⟩
 obtain ⟨bO, hbO⟩ : ∃ g, bR + 1 = g := ⟨_, rfl⟩
 have hk0 : Hp [R.gp, R.gt] W [ipr R ts, iblk bO 29 zPl, iblk bR 29 zPl] ((W.alloc (.cells #[.string ⟨#[]⟩, .slice none 0 0, .slice none 0 0, .slice none 0 0, .int .i64 0, .string ⟨#[]⟩, .int .i64 0, .string ⟨#[]⟩] 29)).alloc (.cells #[.string ⟨#[]⟩, .slice none 0 0, .slice none 0 0, .slice none 0 0, .int .i64 0, .string ⟨#[]⟩, .int .i64 0, .string ⟨#[]⟩] 29)) := by
  have h1 := (hS.new 29 zPl).new 29 zPl
  have hsz : ∀ (w : World) (o : Obj), (w.alloc o).heap.size = w.heap.size + 1 := fun w o => by simp
  rw [hsz, hbR, hbO] at h1
  exact h1.perm (List.perm_append_comm (l₁ := [_, _]) (l₂ := [_]))
 clear hS h
 have HV : Hid (Pa.policyR ts = (Pa.needR Pa.kPolicy ts).then fun _ q => (Pa.nameR q).then fun nm q => (Pa.needR Pa.kUses q).then fun _ q => (Pa.listR (Pa.pairR Pa.sColon) q.length q).then fun us q => tailR nm us q) := hid rfl
 go_enter Tryz.func25, Tryz.ntmps25
 go_upto_region 2 with fail
 clear hbR hbO
 generalize (W.alloc (.cells #[.string ⟨#[]⟩, .slice none 0 0, .slice none 0 0, .slice none 0 0, .int .i64 0, .string ⟨#[]⟩, .int .i64 0, .string ⟨#[]⟩] 29)).alloc (.cells #[.string ⟨#[]⟩, .slice none 0 0, .slice none 0 0, .slice none 0 0, .int .i64 0, .string ⟨#[]⟩, .int .i64 0, .string ⟨#[]⟩] 29) = w0 at *
 have HN := hid (zbk Pa.kPolicy R ts _ hk0.pr)
 have hkp1 := Pa.need_keeps Pa.kPolicy ts hg
 generalize Pa.needR Pa.kPolicy ts = x1 at *
 obtain ⟨o1, q1⟩ := x1
 simp only at hkp1
 cases o1 with
 | none =>
  rw [zan] at HN
  rw [Pa.then_none] at HV
  go_wp2_with fail
  refine HN.out.mono ?_
  rintro e w1 ⟨rfl, hH⟩
  unfold panP
  go_wp2_with fail
  exact ⟨rfl, POut.bad HV.out ((hk0.rd1 hH).sub (r := _))⟩
 | some u1 =>
  rw [zam] at HN
  rw [Pa.then_some] at HV
  go_wp2_with fail
  refine HN.out.mono ?_
  rintro e w1 ⟨rfl, hH⟩
  have hk1 := hk0.rd1 hH
  clear hk0 hH HN
  have HN := hid (zb1 R q1 _ hk1.pr)
  have hkp2 := Pa.name_keeps q1 hkp1.2
  generalize Pa.nameR q1 = x2 at *
  obtain ⟨o2, q2⟩ := x2
  simp only at hkp2
  cases o2 with
  | none =>
   rw [zan] at HN
   rw [Pa.then_none] at HV
   go_wp2_with fail
   refine HN.out.mono ?_
   rintro e w2 ⟨rfl, hH⟩
   unfold panP
   go_wp2_with fail
   exact ⟨rfl, POut.bad HV.out ((hk1.rd1 hH).sub (r := _))⟩
  | some nm =>
   rw [zam] at HN
   rw [Pa.then_some] at HV
   go_wp2_with fail
   refine HN.out.mono ?_
   rintro e w2 ⟨rfl, hH⟩
   have hk2 := hk1.rd1 hH
   clear hk1 hH HN
   obtain ⟨c0, c1, c2, c3, c4, c5, c6, c7⟩ := (hk2.blk 1 rfl).get8
   have f0 := (hk2.blk 1 rfl).frozen 0
   have hk3 : Hp [R.gp, R.gt] W [ipr R q2, iblk bO 29 (plc nm (.slice none 0 0) (.slice none 0 0) (.slice none 0 0) [] 0 []), iblk bR 29 zPl] (w2.setCell ⟨bO, 0, none⟩ (Sv nm)) := hk2.set 1 rfl 0 (Sv nm)
   go_upto_region 4 with fail
   clear hk2 c0 c1 c2 c3 c4 c5 c6 c7 f0
   generalize w2.setCell ⟨bO, 0, none⟩ (Sv nm) = w3 at *
   have HN := hid (zbk Pa.kUses R q2 _ hk3.pr)
   have hkp3 := Pa.need_keeps Pa.kUses q2 hkp2.2
   generalize Pa.needR Pa.kUses q2 = x3 at *
   obtain ⟨o3, q3⟩ := x3
   simp only at hkp3
   cases o3 with
   | none =>
    rw [zan] at HN
    rw [Pa.then_none] at HV
    go_wp2_with fail
    refine HN.out.mono ?_
    rintro e w4 ⟨rfl, hH⟩
    unfold panP
    go_wp2_with fail
    exact ⟨rfl, POut.bad HV.out ((hk3.rd1 hH).sub (r := _))⟩
   | some u3 =>
    rw [zam] at HN
    rw [Pa.then_some] at HV
    go_wp2_with fail
    refine HN.out.mono ?_
    rintro e w4 ⟨rfl, hH⟩
    have hk4 := hk3.rd1 hH
    clear hk3 hH HN
    have hs3 : q3 <:+ ts := hkp3.1.trans (hkp2.1.trans hkp1.1)
    have hl3 := hs3.length_le
    have HG := hid (And.intro hs3 hkp3.2)
    have hk5 : Hp [R.gp, R.gt] W [ipr R q3, iblk bO 29 (plc nm (.slice none 0 0) (.slice none 0 0) (.slice none 0 0) [] 0 []), iblk bR 29 zPl, iuses (.slice none 0 0) []] w4 := (hk4.nilrow 50 2).perm (perm_in3 _ _ _ _ _)
    obtain ⟨i0, hi0, hz0, hz1, hz2⟩ := info_parts use_info
    clear hk4 hkp1 hkp2 hkp3 hs3
    go_wp2_with fail
    go_loopg [4] (q3.length + 1) (fun m s4 wx => ∃ (k : Nat) (q : List Lx.Tok) (us : List (Pa.Tx × Pa.Tx)) (more : Bool) (A : Option Addr) (c : Nat), m = q.length + (if more then 1 else 0) ∧ s4 = .bool more ∧ Hp [R.gp, R.gt] W [ipr R q, iblk bO 29 (plc nm (.slice A us.length c) (.slice none 0 0) (.slice none 0 0) [] 0 []), iblk bR 29 zPl, iuses (.slice A us.length c) us] wx ∧ (more = true → q.length ≤ k) ∧ us.length + q.length ≤ q3.length ∧ Hid (q <:+ ts ∧ Pa.Good q ∧ Pa.listR (Pa.pairR Pa.sColon) q3.length q3 = moreR (Pa.pairR Pa.sColon) more us k q))
    case atStart => exact ⟨q3.length, q3, [], true, none, 0, rfl, rfl, hk5, fun _ => Nat.le_refl _, by simp, hid ⟨HG.out.1, HG.out.2, (moreR_start _ _ _).symm⟩⟩
    case round =>
     obtain ⟨k, q, us, more, A, c, rfl, rfl, hM, hqk, hul, HE⟩ := hrel
     clear hk5
     cases more with
     | false =>
      go_wp2_with fail
      have HT : Hid (Pa.policyR ts = (Pa.revealR q).then fun rv q => tl2 nm us rv q) := hid (by
       rw [HV.out, HE.out.2.2]
       exact tailR_eq nm us q)
      have HQ := hid (And.intro HE.out.1 HE.out.2.1)
      have hql : q.length ≤ q3.length := by omega
      clear HV HE HG
      generalize hUV : (.slice A us.length c : Value) = UV at *
      clear hUV
      refine (zay Pa.kReveal R q wr hM.pr).mono ?_
      rintro e w5 ⟨rfl, hH⟩
      have hM1 := hM.rd1 hH
      clear hM hH hqk
      go_upto_if 34 with fail
      go_cut [] (fun wx => ∃ (rv : List (Pa.Tx × Pa.Tx)) (qx : List Lx.Tok) (VR : Value), Hp [R.gp, R.gt] W [ipr R qx, plb bO nm UV VR [] 0 [], iblk bR 29 zPl, iuses UV us, irefs VR rv] wx ∧ Hid (qx <:+ ts ∧ Pa.Good qx ∧ Pa.policyR ts = tl2 nm us rv qx))
      case first => as_aux_lemma =>
       cases hr : Pa.isT Pa.kReveal q with
       | false =>
        rw [takeT, if_neg (by rw [hr]; simp)] at hM1
        have HR : Hid (Pa.policyR ts = tl2 nm us [] q) := hid (by rw [HT.out, Pa.revealR, if_neg (by rw [hr]; simp)]; rfl)
        clear hr
        go_wp2_with fail
        go_meet
        exact ⟨[], q, .slice none 0 0, (hM1.nilrow 89 2).perm (List.perm_append_comm (l₁ := [_]) (l₂ := [_, _, _, _])), hid ⟨HQ.out.1, HQ.out.2, HR.out⟩⟩
       | true =>
        rw [takeT, if_pos hr] at hM1
        have HR : Hid (Pa.policyR ts = (Pa.listR Pa.refR q.length q.tail).then fun rv q => tl2 nm us rv q) := hid (by rw [HT.out, Pa.revealR, if_pos hr])
        have HG2 : Hid (q.tail <:+ ts ∧ Pa.Good q.tail) := hid ⟨(List.tail_suffix _).trans HQ.out.1, HQ.out.2.isT hr⟩
        have htl : q.tail.length ≤ q.length := (List.tail_suffix q).length_le
        have hk5 : Hp [R.gp, R.gt] W [ipr R q.tail, plb bO nm UV (.slice none 0 0) [] 0 [], iblk bR 29 zPl, iuses UV us, irefs (.slice none 0 0) []] w5 := (hM1.nilrow 89 2).perm (List.perm_append_comm (l₁ := [_]) (l₂ := [_, _, _, _]))
        obtain ⟨i1, hi1, hy0, hy1, hy2⟩ := info_parts ref_info
        clear hM1 hr HT HQ
        generalize q.tail = q6 at *
        go_wp2_with fail
        go_loopg [6] (q6.length + 1) (fun m s6 wx => ∃ (k : Nat) (qx : List Lx.Tok) (rv : List (Pa.Tx × Pa.Tx)) (more : Bool) (RA : Option Addr) (rc : Nat), m = qx.length + (if more then 1 else 0) ∧ s6 = .bool more ∧ Hp [R.gp, R.gt] W [ipr R qx, plb bO nm UV (.slice RA rv.length rc) [] 0 [], iblk bR 29 zPl, iuses UV us, irefs (.slice RA rv.length rc) rv] wx ∧ (more = true → qx.length ≤ k) ∧ rv.length + qx.length ≤ q6.length ∧ Hid (qx <:+ ts ∧ Pa.Good qx ∧ Pa.listR Pa.refR q.length q6 = moreR Pa.refR more rv k qx))
        case atStart => exact ⟨q.length, q6, [], true, none, 0, rfl, rfl, hk5, fun _ => htl, by simp, hid ⟨HG2.out.1, HG2.out.2, (moreR_start _ _ _).symm⟩⟩
        case round =>
         obtain ⟨k, qx, rv, more, RA, rc, rfl, rfl, hL, hqk, hrl, HE⟩ := hrel
         clear hk5
         cases more with
         | false =>
          have HR2 : Hid (Pa.policyR ts = tl2 nm us rv qx) := hid (by rw [HR.out, HE.out.2.2]; rfl)
          go_wp2_with fail
          go_meet
          exact ⟨rv, qx, _, hL, hid ⟨HE.out.1, HE.out.2.1, HR2.out⟩⟩
         | true =>
          have hgq := HE.out.2.1
          have hqk := hqk rfl
          obtain ⟨k, rfl⟩ : ∃ j, k = j + 1 := ⟨k - 1, by have := List.length_pos_iff.2 hgq.ne; omega⟩
          have HP : Hid (Pa.refR qx = Pa.refR qx) := hid rfl
          have HBad : Hid (∀ p, Pa.refR qx = (none, p) → Pa.policyR ts = (none, p)) := hid fun p h => by
           rw [HR.out, HE.out.2.2, moreR_bad _ _ _ _ _ h]; rfl
          have HStep : Hid (∀ p x, Pa.refR qx = (some x, p) → Pa.listR Pa.refR q.length q6 = moreR Pa.refR (Pa.isT Pa.sComma p) (rv ++ [x]) k (takeT Pa.sComma p)) := hid fun p x h => HE.out.2.2.trans (moreR_step _ _ _ _ _ _ h)
          have HPe : Hid (∀ p x, Pa.refR qx = (some x, p) → p.length + 1 ≤ qx.length) := hid fun p x h => Pa.pair_eats h
          have HSf : Hid ((Pa.refR qx).2 <:+ ts ∧ Pa.Good (Pa.refR qx).2) := hid ⟨(Pa.pair_keeps Pa.sDot qx hgq).1.trans HE.out.1, (Pa.pair_keeps Pa.sDot qx hgq).2⟩
          go_upto_region 16 with fail
          have hLd := hL.drew
          clear hL HE
          have HN := hid (ref_any R qx _ hLd.pr)
          generalize Pa.refR qx = y1 at *
          obtain ⟨b1, p1⟩ := y1
          obtain ⟨c0, c1, c2, c3, c4, c5, c6, c7⟩ := (hLd.blk 1 rfl).get8
          cases b1 with
          | none =>
           rw [zan] at HN
           have HB2 := hid (HBad.out _ rfl)
           refine wp_region_held_drew (S := (fun w' => w'.cell? ⟨bO, 2, none⟩ = some (.slice RA rv.length rc))) (by kernel_rfl) ?_ (fun hHeld => ?_)
           ·exact c2
           refine tk2 0 rfl ?_
           try simp only [Act.put, tS1, tS2, tS4, tS5, tS6]
           refine tk2 1 rfl ?_
           try simp only [Act.put, tS1, tS2, tS3, tS4, tS5, tS6]
           refine tk2 2 rfl ?_
           try simp only [Act.put, tS1, tS2, tS3, tS4, tS5, tS6]
           refine tkO 3 rfl fun K hK => ?_
           go_simp
           refine HN.out.mono ?_
           rintro e w6 ⟨rfl, hH⟩
           unfold panP
           go_wp2_with fail
           exact ⟨rfl, POut.bad HB2.out ((hLd.rd1 hH).sub (r := _))⟩
          | some x =>
           rw [zam] at HN
           obtain ⟨ra, rb⟩ := x
           have HS2 := hid (And.intro (HStep.out _ _ rfl) (And.intro (HPe.out _ _ rfl) HSf.out))
           clear HBad HStep HPe HSf hgq
           have hsz := hLd.size
           have hrl2 : rv.length ≤ 65537 := by omega
           go_region_law (first
            | (refine step_append_lies _ rfl (.tmp 39) (.tmp 42) 26 rfl 0 89 i1 _ 2 32 Tryz.underlying26 hi1 hy0 hy1 hy2 rfl (by decide) (.slice RA rv.length rc) rv.length (pcells rv) rfl ((hL1.alloc _).row 4 rfl) _ 1 1 [Sv ra, Sv rb] rfl rfl (new2p _ _ _ _) (by intro u hu; simp at hu; rcases hu with rfl | rfl <;> rfl) (by decide) (by unfold maxLen; omega) (by omega) (Nat.zero_le _) _ rfl ?_; intro gn cn w7 hown hgrow hat hlt; have hL3 := (hL1.alloc (.cells #[Sv ra, Sv rb] 89)).grown 4 rfl hown hgrow (lies_at2 hat rfl); obtain ⟨d0, d1, d2, d3, d4, d5, d6, d7⟩ := (hL3.blk 1 rfl).get8; have fO := (hL3.blk 1 rfl).frozen 2)
            | (go_simp; go_at_call 74; refine HN.out.mono ?_; rintro e w6 ⟨rfl, hH⟩; have hL1 := hLd.rd1 hH; obtain ⟨e0, e1, e2, e3, e4, e5, e6, e7⟩ := (hL1.blk 1 rfl).get8; obtain ⟨g0, g1, g2, g3, g4, g5, g6, g7⟩ := ((hL1.alloc (.cells #[Sv ra, Sv rb] 89)).blk 1 rfl).get8))
           all_goals
            have hL4 : Hp [R.gp, R.gt] W [ipr R p1, plb bO nm UV (.slice (some ⟨gn, 0, none⟩) (rv ++ [(ra, rb)]).length cn) [] 0 [], iblk bR 29 zPl, iuses UV us, irefs (.slice (some ⟨gn, 0, none⟩) (rv ++ [(ra, rb)]).length cn) (rv ++ [(ra, rb)])] (w7.setCell ⟨bO, 2, none⟩ (.slice (some ⟨gn, 0, none⟩) (rv.length + 1) cn)) := by
             have h9 := hL3.set 1 rfl 2 (.slice (some ⟨gn, 0, none⟩) (rv.length + 1) cn)
             have e9 : (rv ++ [(ra, rb)]).length = rv.length + 1 := by simp
             unfold irefs
             rw [pcells_snoc, e9]
             exact h9
            clear hL3 hL1 hLd hown hgrow hat hlt fO c0 c1 c2 c3 c4 c5 c6 c7 d0 d1 d2 d3 d4 d5 d6 d7 e0 e1 e2 e3 e4 e5 e6 e7 g0 g1 g2 g3 g4 g5 g6 g7 HN hH
            generalize w7.setCell ⟨bO, 2, none⟩ (.slice (some ⟨gn, 0, none⟩) (rv.length + 1) cn) = w8 at *
            go_wp2_with fail
            refine (zay Pa.sComma R p1 w8 hL4.pr).mono ?_
            rintro e w9 ⟨rfl, hH⟩
            have hL5 := hL4.rd1 hH
            clear hL4 hH
            go_wp2_with fail
            go_roundg ((takeT Pa.sComma p1).length + (if Pa.isT Pa.sComma p1 then 1 else 0))
            case measure =>
             have h1 := takeT_len Pa.sComma p1
             have h2 := HS2.out.2.1
             omega
            case rel =>
             have h1 := takeT_len Pa.sComma p1
             have h2 := HS2.out.2.1
             refine ⟨k, takeT Pa.sComma p1, rv ++ [(ra, rb)], Pa.isT Pa.sComma p1, _, cn, rfl, rfl, hL5, fun _ => by omega, ?_, hid ⟨(takeT_suf _ _).trans HS2.out.2.2.1, takeT_good HS2.out.2.2.2, HS2.out.1⟩⟩
             rw [List.length_append, List.length_singleton]
             omega
      case rest => as_aux_lemma =>
       obtain ⟨rv, qx, VR, hN, HX⟩ := hcut
       clear hM1 HT HQ hul hql
       obtain ⟨t, q', rfl⟩ := hN.pr.cons
       go_wp2_with fail
       refine (za1 R t q' _ hN.pr).mono ?_
       rintro e w6 ⟨rfl, hb⟩
       have hN1 := hN.next hb
       clear hN hb
       unfold tokV
       obtain ⟨gt, hgt⟩ : ∃ y, w6.heap.size = y := ⟨_, rfl⟩
       have hN2 := (hN1.new 163 (tcs ⟨0, 0, [], [], t.at_⟩ (.slice none 0 0))).perm (List.perm_append_comm (l₁ := [_]) (l₂ := [_, _, _, _, _]))
       rw [hgt] at hN2
       go_upto_region 18 with fail
       try simp only [hgt]
       have hN2 : Hp [R.gp, R.gt] W [ipr R (t :: q'), plb bO nm UV VR [] 0 [], iblk bR 29 zPl, iuses UV us, irefs VR rv, itree ⟨0, 0, [], [], t.at_⟩ gt (.slice none 0 0)] (w6.alloc (.cells #[.int .i64 0, .int .i64 0, .string ⟨#[]⟩, .string ⟨#[]⟩, .slice none 0 0, .int .i64 (t.at_ : Int), .slice none 0 0] 163)) := hN2
       clear hN1
       generalize w6.alloc (.cells #[.int .i64 0, .int .i64 0, .string ⟨#[]⟩, .string ⟨#[]⟩, .slice none 0 0, .int .i64 (t.at_ : Int), .slice none 0 0] 163) = w7 at *
       clear hgt
       go_wp2_with fail
       refine (zay Pa.kProve R _ _ hN2.pr).mono ?_
       rintro e w8 ⟨rfl, hH⟩
       have hM1 := hN2.rd1 hH
       clear hH hN2
       go_upto_if 52 with fail
       go_cut [7] (fun s7 wx => ∃ (x : LF) (gx : Nat) (qy : List Lx.Tok), s7 = ptr gx ∧ x.roots = [gx] ∧ Hp [R.gp, R.gt] W (ipr R qy :: plb bO nm UV VR [] 0 [] :: iblk bR 29 zPl :: iuses UV us :: irefs VR rv :: x.its) wx ∧ Hid (qy <:+ ts ∧ Pa.Good qy ∧ x.out.size + qy.length ≤ 65538 ∧ Pa.policyR ts = tl3 nm us rv x.out qy))
       case first => as_aux_lemma =>
        have hlx := HX.out.1.length_le
        have HSZ : Hid (Pa.proveR (t :: q') = if Pa.isT Pa.kProve (t :: q') then Pa.exprR (t :: q').length q' else (some (Pa.leaf ⟨0, 0, [], [], t.at_⟩), t :: q')) := hid rfl
        have HT5 : Hid (Pa.policyR ts = (Pa.proveR (t :: q')).then fun f q => tl3 nm us rv f q) := hid HX.out.2.2
        cases hr : Pa.isT Pa.kProve (t :: q') with
        | false =>
         rw [takeT, if_neg (by rw [hr]; simp)] at hM1
         have HR : Hid (Pa.policyR ts = tl3 nm us rv (Pa.leaf ⟨0, 0, [], [], t.at_⟩) (t :: q')) := hid (by rw [HT5.out, HSZ.out, if_neg (by rw [hr]; simp)]; rfl)
         have HP := hid hr
         have hTE : Hid (t.kind = 3 ∨ True) := hid (.inr trivial)
         clear hr
         go_wp2_with fail
         go_meet
         refine ⟨.cons ⟨0, 0, [], [], t.at_⟩ gt (.slice none 0 0) .nil .nil, gt, t :: q', rfl, rfl, ?_, hid ⟨HX.out.1, HX.out.2.1, ?_, HR.out⟩⟩
         ·exact (hM1.nilrow 159 1).perm (List.perm_append_comm (l₁ := [_]) (l₂ := [_, _, _, _, _, _]))
         ·show 0 + 0 + 1 + (t :: q').length ≤ 65538
          omega
        | true =>
         rw [takeT, if_pos hr] at hM1
         have hM1 : Hp [R.gp, R.gt] W [ipr R q', plb bO nm UV VR [] 0 [], iblk bR 29 zPl, iuses UV us, irefs VR rv, itree ⟨0, 0, [], [], t.at_⟩ gt (.slice none 0 0)] w8 := hM1
         have HT6 : Hid (Pa.policyR ts = (Pa.exprR (t :: q').length q').then fun f q => tl3 nm us rv f q) := hid (by rw [HT5.out, HSZ.out, if_pos hr])
         have hg6 : Pa.Good q' := HX.out.2.1.isT hr
         have HS6 : Hid (q' <:+ ts) := hid ((List.suffix_cons t q').trans HX.out.1)
         have HK := hid (Pa.expr_keeps (t :: q').length q' hg6)
         have HE := hid (expr_any R (t :: q').length q' _ (by simp) hM1.pr (hl.suf HS6.out))
         have HZ := hid (fun q f h => Pa.expr_size (t :: q').length q' q f h)
         have hq'l : q'.length + 1 ≤ ts.length := by
          have h9 := HX.out.1.length_le
          simpa using h9
         clear hr hg6 HT5 HSZ
         unfold TOut at HE
         generalize Pa.exprR (t :: q').length q' = x8 at *
         obtain ⟨o8, q7⟩ := x8
         cases o8 with
         | none =>
          rw [Pa.then_none] at HT6
          go_wp2_with fail
          refine HE.out.mono ?_
          rintro e w2 ⟨rfl, hH⟩
          unfold panP
          go_wp2_with fail
          exact ⟨rfl, POut.bad HT6.out ((hM1.rd1 hH).sub (r := _))⟩
         | some f =>
          rw [Pa.then_some] at HT6
          have hsz := HZ.out _ _ rfl
          go_wp2_with fail
          refine HE.out.mono ?_
          rintro e w2 ⟨x, gx, hxo, hxr, rfl, hH⟩
          have hM2 := hM1.rd hH
          go_wp2_with fail
          go_meet
          refine ⟨x, gx, q7, rfl, hxr, ?_, hid ⟨HK.out.1.trans HS6.out, HK.out.2, ?_, ?_⟩⟩
          ·refine Hp.sub (r := [itree ⟨0, 0, [], [], t.at_⟩ gt (.slice none 0 0)]) (hM2.perm (List.Perm.cons _ ?_))
           exact (List.perm_append_comm (l₁ := x.its) (l₂ := [_, _, _, _])).append_right [_] |> (fun h => by simpa using h)
          ·rw [hxo]; omega
          ·rw [hxo]; exact HT6.out
       case rest => as_aux_lemma =>
        obtain ⟨x, gx, qy, rfl, hxr, hN, HX2⟩ := hcut
        clear hM1 HX
        have HX := HX2
        clear HX2
        go_wp2_with fail
        refine (zay Pa.kScope R qy _ hN.pr).mono ?_
        rintro e w1 ⟨rfl, hH⟩
        have hM1 := hN.rd1 hH
        clear hH hN
        go_upto_if 56 with fail
        go_cut [] (fun wx => ∃ (sc : Pa.Tx) (lim : Int) (qz : List Lx.Tok), Hp [R.gp, R.gt] W (ipr R qz :: plb bO nm UV VR sc lim [] :: iblk bR 29 zPl :: iuses UV us :: irefs VR rv :: x.its) wx ∧ Hid (qz <:+ ts ∧ Pa.Good qz ∧ x.out.size + qz.length ≤ 65538 ∧ Pa.policyR ts = tl4 nm us rv x.out (sc, lim) qz))
        case first => as_aux_lemma =>
         cases hr : Pa.isT Pa.kScope qy with
         | false =>
          rw [takeT, if_neg (by rw [hr]; simp)] at hM1
          have HR : Hid (Pa.policyR ts = tl4 nm us rv x.out ([], 0) qy) := hid (by rw [HX.out.2.2.2, tl3, Pa.scopeR, if_neg (by rw [hr]; simp)]; rfl)
          clear hr
          go_wp2_with fail
          go_meet
          exact ⟨[], 0, qy, hM1, hid ⟨HX.out.1, HX.out.2.1, HX.out.2.2.1, HR.out⟩⟩
         | true =>
          rw [takeT, if_pos hr] at hM1
          have HT5 : Hid (Pa.policyR ts = ((Pa.wordR qy.tail).then fun s q => (if Pa.isT Pa.kLimit q then (Pa.numR q.tail).then fun n q => (some (s, n), q) else (some (s, 0), q) : Pa.Rd (Pa.Tx × Int))).then fun s q => tl4 nm us rv x.out s q) := hid (by rw [HX.out.2.2.2, tl3, Pa.scopeR, if_pos hr])
          have hg6 := HX.out.2.1.isT hr
          have htl := (List.tail_suffix qy).length_le
          have HK := hid (Pa.word_keeps qy.tail hg6)
          have HN := hid (word_any R qy.tail _ hM1.pr)
          have HS6 : Hid (qy.tail <:+ ts) := hid ((List.tail_suffix _).trans HX.out.1)
          have hln := HX.out.2.2.1
          clear hr hg6
          generalize qy.tail = q6 at *
          generalize Pa.wordR q6 = x8 at *
          obtain ⟨o8, q7⟩ := x8
          cases o8 with
          | none =>
           rw [zan] at HN
           rw [Pa.then_none, Pa.then_none] at HT5
           go_wp2_with fail
           refine HN.out.mono ?_
           rintro e w2 ⟨rfl, hH⟩
           unfold panP
           go_wp2_with fail
           exact ⟨rfl, POut.bad HT5.out ((hM1.rd1 hH).sub (r := _))⟩
          | some sc =>
           rw [zam] at HN
           rw [Pa.then_some] at HT5
           have hlk := HK.out.1.length_le
           simp only at hlk
           have HG7 : Hid (q7 <:+ ts ∧ Pa.Good q7) := hid ⟨HK.out.1.trans HS6.out, HK.out.2⟩
           go_wp2_with fail
           refine HN.out.mono ?_
           rintro e w2 ⟨rfl, hH⟩
           have hM2 := hM1.rd1 hH
           clear hM1 hH HN HK
           obtain ⟨c0, c1, c2, c3, c4, c5, c6, c7⟩ := (hM2.blk 1 rfl).get8
           have f5 := (hM2.blk 1 rfl).frozen 5
           have hM3 : Hp [R.gp, R.gt] W (ipr R q7 :: plb bO nm UV VR sc 0 [] :: iblk bR 29 zPl :: iuses UV us :: irefs VR rv :: x.its) (w2.setCell ⟨bO, 5, none⟩ (Sv sc)) := hM2.set 1 rfl 5 (Sv sc)
           go_upto_region 22 with fail
           clear c0 c1 c2 c3 c4 c5 c6 c7 f5 hM2
           generalize w2.setCell ⟨bO, 5, none⟩ (Sv sc) = w3 at *
           go_wp2_with fail
           refine (zay Pa.kLimit R q7 _ hM3.pr).mono ?_
           rintro e w4 ⟨rfl, hH⟩
           have hM4 := hM3.rd1 hH
           clear hM3 hH
           cases hr : Pa.isT Pa.kLimit q7 with
           | false =>
            rw [takeT, if_neg (by rw [hr]; simp)] at hM4
            have HR : Hid (Pa.policyR ts = tl4 nm us rv x.out (sc, 0) q7) := hid (by rw [HT5.out, if_neg (by rw [hr]; simp)]; rfl)
            clear hr
            go_wp2_with fail
            go_meet
            exact ⟨sc, 0, q7, hM4, hid ⟨HG7.out.1, HG7.out.2, by omega, HR.out⟩⟩
           | true =>
            rw [takeT, if_pos hr] at hM4
            have HT6 : Hid (Pa.policyR ts = ((Pa.numR q7.tail).then fun n q => (some (sc, n), q) : Pa.Rd (Pa.Tx × Int)).then fun s q => tl4 nm us rv x.out s q) := hid (by rw [HT5.out, if_pos hr])
            have hg8 := HG7.out.2.isT hr
            have htl8 := (List.tail_suffix q7).length_le
            have HK := hid (Pa.num_keeps q7.tail hg8)
            have HS8 : Hid (q7.tail <:+ ts) := hid ((List.tail_suffix _).trans HG7.out.1)
            have HN := hid (zbq R q7.tail _ hM4.pr (hl.suf HS8.out))
            clear hr hg8
            generalize q7.tail = q8 at *
            generalize Pa.numR q8 = x9 at *
            obtain ⟨o9, q9⟩ := x9
            cases o9 with
            | none =>
             rw [zan] at HN
             rw [Pa.then_none, Pa.then_none] at HT6
             go_wp2_with fail
             refine HN.out.mono ?_
             rintro e w5 ⟨rfl, hH⟩
             unfold panP
             go_wp2_with fail
             exact ⟨rfl, POut.bad HT6.out ((hM4.rd1 hH).sub (r := _))⟩
            | some lim =>
             rw [zam] at HN
             rw [Pa.then_some, Pa.then_some] at HT6
             go_wp2_with fail
             refine HN.out.mono ?_
             rintro e w5 ⟨rfl, hH⟩
             have hM5 := hM4.rd1 hH
             clear hM4 hH HN
             obtain ⟨c0, c1, c2, c3, c4, c5, c6, c7⟩ := (hM5.blk 1 rfl).get8
             have f6 := (hM5.blk 1 rfl).frozen 6
             have HM6 := hid (hM5.set 1 rfl 6 (.int .i64 lim))
             go_wp2_with fail
             go_meet
             have hlk2 := HK.out.1.length_le
             exact ⟨sc, lim, q9, HM6.out, hid ⟨HK.out.1.trans HS8.out, HK.out.2, by omega, HT6.out⟩⟩
        case rest => as_aux_lemma =>
         obtain ⟨sc, lim, qz, hN, HX2⟩ := hcut
         clear hM1 HX
         have HX := HX2
         clear HX2
         generalize qz = qy at *
         go_wp2_with fail
         refine (zay Pa.kEscrow R qy _ hN.pr).mono ?_
         rintro e w1 ⟨rfl, hH⟩
         have hM1 := hN.rd1 hH
         clear hH hN
         go_upto_if 66 with fail
         go_cut [] (fun wx => ∃ (esc : Pa.Tx) (qz : List Lx.Tok), Hp [R.gp, R.gt] W (ipr R qz :: plb bO nm UV VR sc lim esc :: iblk bR 29 zPl :: iuses UV us :: irefs VR rv :: x.its) wx ∧ Hid (qz <:+ ts ∧ Pa.Good qz ∧ x.out.size + qz.length ≤ 65538 ∧ Pa.policyR ts = tl5 nm us rv x.out (sc, lim) esc qz))
         case first => as_aux_lemma =>
          cases hr : Pa.isT Pa.kEscrow qy with
          | false =>
           rw [takeT, if_neg (by rw [hr]; simp)] at hM1
           have HR : Hid (Pa.policyR ts = tl5 nm us rv x.out (sc, lim) [] qy) := hid (by rw [HX.out.2.2.2, tl4, Pa.escrowR, if_neg (by rw [hr]; simp)]; rfl)
           clear hr
           go_wp2_with fail
           go_meet
           exact ⟨[], qy, hM1, hid ⟨HX.out.1, HX.out.2.1, HX.out.2.2.1, HR.out⟩⟩
          | true =>
           rw [takeT, if_pos hr] at hM1
           have HT5 : Hid (Pa.policyR ts = (Pa.nameR qy.tail).then fun e q => tl5 nm us rv x.out (sc, lim) e q) := hid (by rw [HX.out.2.2.2, tl4, Pa.escrowR, if_pos hr])
           have hg6 := HX.out.2.1.isT hr
           have htl := (List.tail_suffix qy).length_le
           have HK := hid (Pa.name_keeps qy.tail hg6)
           have HN := hid (zb1 R qy.tail _ hM1.pr)
           have HS6 : Hid (qy.tail <:+ ts) := hid ((List.tail_suffix _).trans HX.out.1)
           have hln := HX.out.2.2.1
           clear hr hg6
           generalize qy.tail = q6 at *
           generalize Pa.nameR q6 = x8 at *
           obtain ⟨o8, q7⟩ := x8
           cases o8 with
           | none =>
            rw [zan] at HN
            rw [Pa.then_none] at HT5
            go_wp2_with fail
            refine HN.out.mono ?_
            rintro e w2 ⟨rfl, hH⟩
            unfold panP
            go_wp2_with fail
            exact ⟨rfl, POut.bad HT5.out ((hM1.rd1 hH).sub (r := _))⟩
           | some ec =>
            rw [zam] at HN
            rw [Pa.then_some] at HT5
            go_wp2_with fail
            refine HN.out.mono ?_
            rintro e w2 ⟨rfl, hH⟩
            have hM2 := hM1.rd1 hH
            clear hM1 hH HN
            obtain ⟨c0, c1, c2, c3, c4, c5, c6, c7⟩ := (hM2.blk 1 rfl).get8
            have f7 := (hM2.blk 1 rfl).frozen 7
            have HM3 := hid (hM2.set 1 rfl 7 (Sv ec))
            go_wp2_with fail
            go_meet
            have hlk := HK.out.1.length_le
            exact ⟨ec, q7, HM3.out, hid ⟨HK.out.1.trans HS6.out, HK.out.2, by omega, HT5.out⟩⟩
         case rest => as_aux_lemma =>
          obtain ⟨esc, qz, hN, HX2⟩ := hcut
          clear hM1 HX
          have HX := HX2
          clear HX2
          generalize qz = qy at *
          go_wp2_with fail
          have hqq := HX.out.2.1
          have HN := hid (zbk Pa.kEnd R qy _ hN.pr)
          have HK := hid (Pa.need_keeps Pa.kEnd qy hqq)
          have HT5 : Hid (Pa.policyR ts = (Pa.needR Pa.kEnd qy).then fun _ q => if Pa.isE q then (some ⟨nm, us, rv, sc, lim, esc, x.out⟩, q) else (none, q)) := hid (by rw [HX.out.2.2.2]; rfl)
          clear hqq
          generalize Pa.needR Pa.kEnd qy = x9 at *
          obtain ⟨o9, qe⟩ := x9
          cases o9 with
          | none =>
           rw [zan] at HN
           rw [Pa.then_none] at HT5
           refine HN.out.mono ?_
           rintro e w1 ⟨rfl, hH⟩
           unfold panP
           go_wp2_with fail
           exact ⟨rfl, POut.bad HT5.out ((hN.rd1 hH).sub (r := _))⟩
          | some u9 =>
           rw [zam] at HN
           rw [Pa.then_some] at HT5
           refine HN.out.mono ?_
           rintro e w1 ⟨rfl, hH⟩
           have hN1 := hN.rd1 hH
           clear hN hH HN
           obtain ⟨t, q', rfl⟩ := hN1.pr.cons
           go_wp2_with fail
           refine (za1 R t q' _ hN1.pr).mono ?_
           rintro e w2 ⟨rfl, hb⟩
           have hN2 := hN1.next hb
           clear hN1 hb
           unfold tokV
           cases hk : (t.kind == 3) with
           | false =>
            have hd : ((t.kind : Int) == 3) = false := (kindI (n := 3)).trans hk
            have hd2 : ((t.kind : Int) != 3) = true := by rw [bne, hd]; rfl
            have HT6 : Hid (Pa.policyR ts = (none, t :: q')) := hid (by rw [HT5.out, Pa.isE, hk]; rfl)
            clear hk
            go_wp2_with fail
            refine (zc6 R t q' _ hN2.pr).mono ?_
            rintro e w3 ⟨rfl, hH⟩
            unfold panP
            go_wp2_with fail
            exact ⟨rfl, POut.bad HT6.out ((hN2.rd1 hH).sub (r := _))⟩
           | true =>
            have hd : ((t.kind : Int) == 3) = true := (kindI (n := 3)).trans hk
            have hd2 : ((t.kind : Int) != 3) = false := by rw [bne, hd]; rfl
            have HT6 : Hid (Pa.policyR ts = (some ⟨nm, us, rv, sc, lim, esc, x.out⟩, t :: q')) := hid (by rw [HT5.out, Pa.isE, hk]; rfl)
            clear hk HT5
            obtain ⟨n, kv, k, rfl⟩ : ∃ n kv k, x = .cons n gx kv k .nil := by
             cases x with
             | nil => simp [LF.roots] at hxr
             | cons n g kv k r =>
              simp only [LF.roots, List.cons.injEq] at hxr
              obtain ⟨rfl, hr⟩ := hxr
              cases r with
              | nil => exact ⟨n, kv, k, rfl⟩
              | cons _ _ _ _ _ => simp [LF.roots] at hr
            have hN3 : Hp [R.gp, R.gt] W ((inodes (.slice none 0 0) [] :: tits n gx kv k) ++ [ipr R (t :: q'), plb bO nm UV VR sc lim esc, iblk bR 29 zPl, iuses UV us, irefs VR rv]) w2 := by
             have h9 := hN2.nilrow 68 6
             refine h9.perm (List.Perm.cons _ ?_)
             have e9 : (LF.cons n gx kv k .nil).its = tits n gx kv k := by
              show itree n gx kv :: iptrs kv k.roots :: (k.its ++ []) = _
              rw [List.append_nil]
             rw [e9]
             exact List.perm_append_comm (l₁ := [_, _, _, _, _])
            clear hN2
            have HNU := hid ((all_num (.cons n gx kv k .nil)).1 [] (.slice none 0 0) w2 (by
             have h8 := HX.out.2.2.1
             have e8 : (LF.cons n gx kv k .nil).out = Pa.F.cons n k.out .nil := rfl
             rw [e8] at h8
             simp only [List.length_nil]
             omega) ⟨fun y hy => hN3.sep.ok y (List.mem_append_left _ hy), (List.nodup_append.1 (by have := hN3.sep.ap; rw [zbv] at this; exact this)).1⟩)
            go_wp2_with fail
            refine HNU.out.mono ?_
            rintro e w3 ⟨Q, v', hQ, rfl, hH⟩
            have hN4 := Hp.call hN3 hH
            clear hN3 hH HNU
            have hN5 : Hp [R.gp, R.gt] W ([ipr R (t :: q'), plb bO nm UV VR sc lim esc, iblk bR 29 zPl, iuses UV us, irefs VR rv] ++ (inodes v' Q :: (tits n gx kv k ++ krows Q))) w3 := hN4.perm List.perm_append_comm
            clear hN4
            obtain ⟨c0, c1, c2, c3, c4, c5, c6, c7⟩ := (hN5.blk 1 rfl).get8
            have f3 := (hN5.blk 1 rfl).frozen 3
            have hN6 : Hp [R.gp, R.gt] W ([ipr R (t :: q'), iblk bO 29 (plc nm UV VR v' sc lim esc), iblk bR 29 zPl, iuses UV us, irefs VR rv] ++ (inodes v' Q :: (tits n gx kv k ++ krows Q))) (w3.setCell ⟨bO, 3, none⟩ v') := hN5.set 1 rfl 3 v'
            obtain ⟨vA, vc, rfl⟩ := zag (hN6.row 5 rfl)
            obtain ⟨uA, uvc, rfl⟩ := zag (hN6.row 3 rfl)
            obtain ⟨rA, rvc, rfl⟩ := zag (hN6.row 4 rfl)
            go_upto_region 30 with fail
            clear hN5 c0 c1 c2 c3 c4 c5 c6 c7 f3
            generalize w3.setCell ⟨bO, 3, none⟩ (.slice vA Q.length vc) = w4 at *
            obtain ⟨c0, c1, c2, c3, c4, c5, c6, c7⟩ := (hN6.blk 1 rfl).get8
            go_wp2_with (refine wpList_store_row rfl 29 (.tmp 2) (.tmp 81) rfl bR (plc nm (.slice uA us.length uvc) (.slice rA rv.length rvc) (.slice vA Q.length vc) sc lim esc).toArray rfl rfl 29 zPl.toArray (hN6.blk 2 rfl) (by kernel_rfl) (by kernel_rfl) (by kernel_rfl) ?_)
            have hN7 := hN6.rowAt 2 rfl (plc nm (.slice uA us.length uvc) (.slice rA rv.length rvc) (.slice vA Q.length vc) sc lim esc)
            obtain ⟨e0, e1, e2, e3, e4, e5, e6, e7⟩ := (hN7.blk 2 rfl).get8
            refine bodyPost_ret (v := .agg (plc nm (.slice uA us.length uvc) (.slice rA rv.length rvc) (.slice vA Q.length vc) sc lim esc).toArray) (by simp [results, Tryz.results25, go_sem, e0, e1, e2, e3, e4, e5, e6, e7]) rfl ?_
            unfold POut
            rw [HT6.out]
            refine ⟨(.slice uA us.length uvc), (.slice rA rv.length rvc), .slice vA Q.length vc, Q, hQ, rfl, ?_⟩
            refine Hp.sub (r := [iblk bO 29 (plc nm (.slice uA us.length uvc) (.slice rA rv.length rvc) (.slice vA Q.length vc) sc lim esc), iblk bR 29 (plc nm (.slice uA us.length uvc) (.slice rA rv.length rvc) (.slice vA Q.length vc) sc lim esc)] ++ tits n gx kv k) (hN7.perm ?_)
            exact perm_fin _ _ _ _ _ _ _ _
     | true =>
      have hgq := HE.out.2.1
      have hqk := hqk rfl
      obtain ⟨k, rfl⟩ : ∃ j, k = j + 1 := ⟨k - 1, by have := List.length_pos_iff.2 hgq.ne; omega⟩
      have HP : Hid (Pa.pairR Pa.sColon q = (Pa.nameR q).then fun a q => (Pa.needR Pa.sColon q).then fun _ q => (Pa.nameR q).then fun b q => (some (a, b), q)) := hid rfl
      have hbad : ∀ p, Pa.pairR Pa.sColon q = (none, p) → Pa.policyR ts = (none, p) := fun p h => by
       rw [HV.out, HE.out.2.2, moreR_bad _ _ _ _ _ h]; rfl
      have HBad := hid hbad
      clear hbad
      have HN := hid (zb1 R q _ hM.pr)
      have hp1 := Pa.name_keeps q hgq
      generalize Pa.nameR q = y1 at *
      obtain ⟨b1, p1⟩ := y1
      simp only at hp1
      cases b1 with
      | none =>
       rw [zan] at HN
       rw [Pa.then_none] at HP
       go_wp2_with fail
       refine HN.out.mono ?_
       rintro e w5 ⟨rfl, hH⟩
       unfold panP
       go_wp2_with fail
       exact ⟨rfl, POut.bad (HBad.out _ HP.out) ((hM.rd1 hH).sub (r := _))⟩
      | some ua =>
       rw [zam] at HN
       rw [Pa.then_some] at HP
       go_wp2_with fail
       refine HN.out.mono ?_
       rintro e w5 ⟨rfl, hH⟩
       have hM1 := hM.rd1 hH
       clear hM hH HN
       obtain ⟨bU, hbU⟩ : ∃ g, w5.heap.size = g := ⟨_, rfl⟩
       have hM2 : Hp [R.gp, R.gt] W [ipr R p1, iblk bO 29 (plc nm (.slice A us.length c) (.slice none 0 0) (.slice none 0 0) [] 0 []), iblk bR 29 zPl, iuses (.slice A us.length c) us, iblk bU 50 [Sv ua, Sv []]] (w5.alloc (.cells #[Sv ua, .string ⟨#[]⟩] 50)) := by
        rw [← hbU]
        exact (hM1.new 50 [Sv ua, Sv []]).perm (List.perm_append_comm (l₁ := [_]) (l₂ := [_, _, _, _]))
       clear hM1
       go_upto_region 9 with fail
       clear hbU
       generalize w5.alloc (.cells #[.string (bs ua), .string ⟨#[]⟩] 50) = w6 at *
       have HN := hid (zbk Pa.sColon R p1 _ hM2.pr)
       have hp2 := Pa.need_keeps Pa.sColon p1 hp1.2
       generalize Pa.needR Pa.sColon p1 = y2 at *
       obtain ⟨b2, p2⟩ := y2
       simp only at hp2
       cases b2 with
       | none =>
        rw [zan] at HN
        rw [Pa.then_none] at HP
        go_wp2_with fail
        refine HN.out.mono ?_
        rintro e w7 ⟨rfl, hH⟩
        unfold panP
        go_wp2_with fail
        exact ⟨rfl, POut.bad (HBad.out _ HP.out) ((hM2.rd1 hH).sub (r := _))⟩
       | some uc =>
        rw [zam] at HN
        rw [Pa.then_some] at HP
        go_wp2_with fail
        refine HN.out.mono ?_
        rintro e w7 ⟨rfl, hH⟩
        have hM3 := hM2.rd1 hH
        clear hM2 hH HN
        have HN := hid (zb1 R p2 _ hM3.pr)
        have hp3 := Pa.name_keeps p2 hp2.2
        generalize Pa.nameR p2 = y3 at *
        obtain ⟨b3, p3⟩ := y3
        simp only at hp3
        cases b3 with
        | none =>
         rw [zan] at HN
         rw [Pa.then_none] at HP
         go_wp2_with fail
         refine HN.out.mono ?_
         rintro e w8 ⟨rfl, hH⟩
         unfold panP
         go_wp2_with fail
         exact ⟨rfl, POut.bad (HBad.out _ HP.out) ((hM3.rd1 hH).sub (r := _))⟩
        | some ub =>
         rw [zam] at HN
         rw [Pa.then_some] at HP
         go_wp2_with fail
         refine HN.out.mono ?_
         rintro e w8 ⟨rfl, hH⟩
         have hM4 := hM3.rd1 hH
         clear hM3 hH HN HBad
         obtain ⟨n0, n1⟩ := (hM4.blk 4 rfl).get2
         have f1 := (hM4.blk 4 rfl).frozen 1
         have hM5 : Hp [R.gp, R.gt] W [ipr R p3, iblk bO 29 (plc nm (.slice A us.length c) (.slice none 0 0) (.slice none 0 0) [] 0 []), iblk bR 29 zPl, iuses (.slice A us.length c) us, iblk bU 50 [Sv ua, Sv ub]] (w8.setCell ⟨bU, 1, none⟩ (Sv ub)) := hM4.set 4 rfl 1 (Sv ub)
         go_upto_region 11 with fail
         clear n0 n1 f1 hM4
         generalize w8.setCell ⟨bU, 1, none⟩ (Sv ub) = w9 at *
         obtain ⟨n0, n1⟩ := (hM5.blk 4 rfl).get2
         obtain ⟨c0, c1, c2, c3, c4, c5, c6, c7⟩ := (hM5.blk 1 rfl).get8
         have hul2 : us.length ≤ 65537 := by omega
         have hp3l := hp3.1.length_le
         have hp2l := hp2.1.length_le
         have hp1l := hp1.1.length_le
         have hsuf : p3 <:+ ts := hp3.1.trans (hp2.1.trans (hp1.1.trans HE.out.1))
         have HRd := hid (And.intro hsuf (And.intro hp3.2 (HE.out.2.2.trans (moreR_step _ us k q p3 (ua, ub) HP.out))))
         clear HE hsuf
         have hsz := hM5.size
         go_wp2_with (at_builtin; refine zac rfl _ _ 25 rfl 0 50 i0 _ 2 32 Tryz.underlying25 hi0 hz0 hz1 hz2 rfl (by decide) _ us.length (pcells us) rfl ((hM5.alloc _).row 3 rfl) ⟨w9.heap.size, 0, none⟩ 1 1 [Sv ua, Sv ub] rfl rfl (new2p _ _ _ _) (by intro u hu; simp at hu; rcases hu with rfl | rfl <;> rfl) (by decide) (by unfold maxLen; omega) (by omega) (Nat.zero_le _) ?_; intro v' w10 hown hgrow hat; obtain ⟨A2, ca2, rfl⟩ := zag hown; have hM6 := (hM5.alloc (.cells #[Sv ua, Sv ub] 50)).grown 3 rfl hown hgrow hat; obtain ⟨c0, c1, c2, c3, c4, c5, c6, c7⟩ := (hM6.blk 1 rfl).get8; have fO := (hM6.blk 1 rfl).frozen 1; clear hown hgrow hat)
         have hus : (us ++ [(ua, ub)]).length = us.length + 1 := by simp
         have hM7 : Hp [R.gp, R.gt] W [ipr R p3, iblk bO 29 (plc nm (.slice A2 (us ++ [(ua, ub)]).length ca2) (.slice none 0 0) (.slice none 0 0) [] 0 []), iblk bR 29 zPl, iuses (.slice A2 (us ++ [(ua, ub)]).length ca2) (us ++ [(ua, ub)])] (w10.setCell ⟨bO, 1, none⟩ (.slice A2 (us.length + 1) ca2)) := by
          have h1 := hM6.set 1 rfl 1 (.slice A2 (us.length + 1) ca2)
          unfold iuses
          rw [pcells_snoc, hus]
          exact h1.sub (r := [iblk bU 50 [Sv ua, Sv ub]]) (it := [_, _, _, _])
         clear hM5 hM6 c0 c1 c2 c3 c4 c5 c6 c7 fO n0 n1 hus
         generalize w10.setCell ⟨bO, 1, none⟩ (.slice A2 (us.length + 1) ca2) = w11 at *
         refine (zay Pa.sComma R p3 w11 hM7.pr).mono ?_
         rintro e w12 ⟨rfl, hH⟩
         have hM8 := hM7.rd1 hH
         clear hM7 hH
         go_wp2_with fail
         go_roundg ((takeT Pa.sComma p3).length + (if Pa.isT Pa.sComma p3 then 1 else 0))
         case measure =>
          have h1 := takeT_len Pa.sComma p3
          have h2 := Pa.pair_eats HP.out
          omega
         case rel =>
          have h1 := takeT_len Pa.sComma p3
          have h2 := Pa.pair_eats HP.out
          refine ⟨k, takeT Pa.sComma p3, us ++ [(ua, ub)], Pa.isT Pa.sComma p3, A2, ca2, rfl, rfl, hM8, fun _ => by omega, ?_, hid ⟨(takeT_suf _ _).trans HRd.out.1, takeT_good HRd.out.2.1, HRd.out.2.2⟩⟩
          rw [List.length_append, List.length_singleton]
          omega
end Go.Proofs.YtekkapgknohadaaGreatDoor
