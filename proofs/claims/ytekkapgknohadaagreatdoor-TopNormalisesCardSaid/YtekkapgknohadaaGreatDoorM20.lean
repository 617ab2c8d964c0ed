/- What Parse returns, in plain words; a policy that was read, in memory. -/
import Derived.Test.YtekkapgknohadaaGreatDoorM3
import Derived.Test.YtekkapgknohadaaGreatDoorM2
import Derived.Test.YtekkapgknohadaaGreatDoorM19
import Derived.Test.YtekkapgknohadaaGreatDoorM18
set_option linter.unusedVariables false
set_option maxRecDepth 20000
set_option maxHeartbeats 8000000
namespace Go.Proofs.YtekkapgknohadaaGreatDoor
open Go.RowKit Go.Shelf
open Lib (hid)
def nkOf (x : Pa.Nd × List Nat) : Nk := ⟨(x.1.kind : Int), x.1.num, bs x.1.name, bs x.1.attr, x.2.map fun (n : Nat) => (n : Int), (x.1.at_ : Int)⟩
def bpOf (x : Pa.Tx × Pa.Tx) : Bp := (bs x.1, bs x.2)
def poOf (p : Pa.Pl) : Po := ⟨bs p.name, p.uses.map bpOf, p.reveal.map bpOf, (p.root.num 0).map nkOf, 0, bs p.scope, p.limit, bs p.escrow⟩
def zPo : Po := ⟨⟨#[]⟩, [], [], [], 0, ⟨#[]⟩, 0, ⟨#[]⟩⟩
def parseT (ts : List Lx.Tok) : Po × Nat × Int :=
 match Pa.policyR ts with
 | (none, q) => (zPo, Pa.atT q, 4)
 | (some p, _) => if checkP (poOf p) ≠ 0 then (zPo, 0, checkP (poOf p)) else (poOf p, 0, 0)
def zav (l : List UInt8) : Po × Nat × Int :=
 match Lx.sc l with
 | .err a e => (zPo, a, (e : Int))
 | .ok ts => parseT ts
theorem pbd_of {p : Pa.Pl} {n : Nat} (h : Pa.PlB n p) (hn : n ≤ 100000) : PBd (poOf p) := by
 refine ⟨?_, ?_, ?_, ?_, ?_, ?_, ?_, ?_, ?_⟩
 ·show (bs p.name).size ≤ _
  rw [zbc]; have := h.name; omega
 ·show (bs p.scope).size ≤ _
  rw [zbc]; have := h.scope; omega
 ·show (bs p.escrow).size ≤ _
  rw [zbc]; have := h.escrow; omega
 ·show (p.uses.map bpOf).length ≤ _
  rw [List.length_map]; have := h.ul; omega
 ·show (p.reveal.map bpOf).length ≤ _
  rw [List.length_map]; have := h.rl; omega
 ·show ((p.root.num 0).map nkOf).length ≤ _
  rw [List.length_map, Pa.F.num_len]; have := h.sz; omega
 ·intro x hx
  obtain ⟨y, hy, rfl⟩ := List.mem_map.1 hx
  have := h.us y hy
  show (bs y.1).size ≤ _ ∧ (bs y.2).size ≤ _
  rw [zbc, zbc]; omega
 ·intro x hx
  obtain ⟨y, hy, rfl⟩ := List.mem_map.1 hx
  have := h.rv y hy
  show (bs y.1).size ≤ _ ∧ (bs y.2).size ≤ _
  rw [zbc, zbc]; omega
 ·intro x hx
  obtain ⟨y, hy, rfl⟩ := List.mem_map.1 hx
  have h1 := Pa.F.ev_num p.root 0 h.ev y hy
  have h2 := Pa.F.num_kids p.root 0 y hy
  have h3 := h.sz
  refine ⟨?_, ?_, ?_⟩
  ·show (bs y.1.name).size ≤ _
   rw [zbc]; have := h1.1; omega
  ·show (bs y.1.attr).size ≤ _
   rw [zbc]; have := h1.2; omega
  ·show (y.2.map _).length ≤ _
   rw [List.length_map]; omega
theorem pcells_at {l : List (Pa.Tx × Pa.Tx)} {i : Nat} {x : Pa.Tx × Pa.Tx} (h : l[i]? = some x) : (pcells l)[i * 2]? = some (Sv x.1) ∧ (pcells l)[i * 2 + 1]? = some (Sv x.2) := by
 induction l generalizing i with
 | nil => simp at h
 | cons y l ih =>
   have e : pcells (y :: l) = Sv y.1 :: Sv y.2 :: pcells l := rfl
   cases i with
   | zero =>
     have : y = x := by simpa using h
     subst this
     exact ⟨rfl, rfl⟩
   | succ i =>
     have h1 := ih (by simpa using h)
     rw [e, show (i + 1) * 2 = i * 2 + 1 + 1 by omega]
     simpa using h1
theorem ncells_at {P : List NV} {i : Nat} {x : NV} (h : P[i]? = some x) (j : Nat) (hj : j < 6) : (zai P)[i * 6 + j]? = (nvc x)[j]? := by
 induction P generalizing i with
 | nil => simp at h
 | cons y P ih =>
   have e : zai (y :: P) = nvc y ++ zai P := rfl
   cases i with
   | zero =>
     have : y = x := by simpa using h
     subst this
     rw [e, List.getElem?_append_left (by simp; omega), Nat.zero_mul, Nat.zero_add]
   | succ i =>
     have h2 : P[i]? = some x := by simpa using h
     rw [e, List.getElem?_append_right (by simp; omega)]
     have := ih h2
     rw [← this]
     congr 1
     simp; omega
theorem ints_row {e : TypeId} {W : World} {A : Option Addr} {n c : Nat} {l : List Nat} (h : W.ownsRow 0 e 1 (.slice A n c) l.length (nats l)) : Ints W A (l.map fun (n : Nat) => (n : Int)) := by
 refine ⟨fun i s hs => ?_⟩
 have hi := (List.getElem?_eq_some_iff.1 hs).1
 rw [List.length_map] at hi
 obtain ⟨g, cap, hv, -⟩ := za5 h (by omega)
 injection hv with hA hn hc
 subst hA
 refine ⟨_, rfl, ?_⟩
 rw [zcn]
 rw [hn] at h
 refine zaz h (j := i) ?_
 rw [List.getElem?_map] at hs ⊢
 obtain ⟨y, hy, rfl⟩ := Option.map_eq_some_iff.1 hs
 rw [hy]; rfl
theorem prs_row {e : TypeId} {W : World} {A : Option Addr} {n c : Nat} {l : List (Pa.Tx × Pa.Tx)} (h : W.ownsRow 0 e 2 (.slice A n c) l.length (pcells l)) : Prs W A (l.map bpOf) := by
 refine ⟨fun i s hs => ?_⟩
 rw [List.getElem?_map] at hs
 obtain ⟨y, hy, rfl⟩ := Option.map_eq_some_iff.1 hs
 have hi := (List.getElem?_eq_some_iff.1 hy).1
 obtain ⟨g, cap, hv, -⟩ := za5 h (by omega)
 injection hv with hA hn hc
 subst hA
 rw [hn] at h
 refine ⟨_, rfl, ?_⟩
 rw [zcn]
 exact ⟨zaz h (pcells_at hy).1, zaz h (pcells_at hy).2⟩
theorem nks_row {W : World} {A : Option Addr} {n c : Nat} {P : List NV} (h : W.ownsRow 0 68 6 (.slice A n c) P.length (zai P)) (hw : ∀ x ∈ P, W.ownsRow 0 3 1 (.slice x.2.1 x.1.2.length x.2.2) x.1.2.length (nats x.1.2)) : Nks W A (P.map fun x => nkOf x.1) := by
 refine ⟨fun i f hf => ?_⟩
 rw [List.getElem?_map] at hf
 obtain ⟨x, hx, rfl⟩ := Option.map_eq_some_iff.1 hf
 have hi := (List.getElem?_eq_some_iff.1 hx).1
 obtain ⟨g, cap, hv, -⟩ := za5 h (by omega)
 injection hv with hA hn hc
 subst hA
 rw [hn] at h
 have hc : ∀ j, j < 6 → W.cell? ⟨g, i * 6 + j, none⟩ = (nvc x)[j]? := fun j hj => by
  have h1 := ncells_at hx j hj
  cases hu : (nvc x)[j]? with
  | none => rw [List.getElem?_eq_none_iff] at hu; simp at hu; omega
  | some u => exact zaz h (by rw [h1, hu])
 refine ⟨_, x.2.1, x.2.2, rfl, ?_⟩
 rw [zcn]
 have hkl : (nkOf x.1).kids.length = x.1.2.length := List.length_map _
 refine ⟨hc 0 (by omega), hc 1 (by omega), hc 2 (by omega), hc 3 (by omega), ?_, hc 5 (by omega), ints_row (hw x (List.mem_of_getElem? hx)), by rw [hkl]; exact row_cap (hw x (List.mem_of_getElem? hx))⟩
 rw [hkl]
 exact hc 4 (by omega)
theorem krows_row {o : List Nat} {w W : World} {a : List It} {P : List NV} (h : Hp o w (a ++ krows P) W) : ∀ x ∈ P, W.ownsRow 0 3 1 (.slice x.2.1 x.1.2.length x.2.2) x.1.2.length (nats x.1.2) := fun x hx =>
 h.sep.ok (inats (.slice x.2.1 x.1.2.length x.2.2) x.1.2) (List.mem_append_right _ (List.mem_map.2 ⟨x, hx, rfl⟩))
def PaOut (r : Po × Nat × Int) (e : Ending) (w' : World) : Prop := ∃ L, e = .returned (.tuple #[polV r.1 L, .int .i64 (r.2.1 : Int), .int .i64 r.2.2]) ∧ PolM w' r.1 L
theorem polm_zero (W : World) : PolM W zPo ⟨none, 0, none, 0, none, 0⟩ := ⟨⟨fun i x h => by simp [zPo] at h⟩, ⟨fun i x h => by simp [zPo] at h⟩, ⟨fun i x h => by simp [zPo] at h⟩⟩
abbrev zPlV : Value := .agg #[.string ⟨#[]⟩, .slice none 0 0, .slice none 0 0, .slice none 0 0, .int .i64 0, .string ⟨#[]⟩, .int .i64 0, .string ⟨#[]⟩]
theorem PaOut.bad {r : Po × Nat × Int} {n : Nat} {E : Int} {w' : World} (h : r = (zPo, n, E)) : PaOut r (.returned (.tuple #[zPlV, .int .i64 (n : Int), .int .i64 E])) w' := by
 subst h
 exact ⟨⟨none, 0, none, 0, none, 0⟩, rfl, polm_zero _⟩
open Go.RowKit Go.Shelf
open Lib (hid)
theorem tk_err_ne {m : List UInt8} {e : Nat} (h : Lx.tk m = .inl e) : e ≠ 0 := by
 rintro rfl
 have hN : ∀ m : List UInt8, Lx.tkName m ≠ .inl 0 := fun m h => by unfold Lx.tkName at h; split at h <;> simp at h
 have hW : ∀ m : List UInt8, Lx.tkWord m ≠ .inl 0 := fun m h => by unfold Lx.tkWord at h; split at h; simp at h; split at h <;> simp at h
 have hS : ∀ m : List UInt8, Lx.tkSign m ≠ .inl 0 := fun m h => by unfold Lx.tkSign at h; split at h <;> simp at h
 cases m with
 | nil => simp [Lx.tk] at h
 | cons c m =>
   rw [Lx.tk] at h
   split at h
   ·exact hN _ h
   ·split at h
    ·exact hW _ h
    ·split at h
     ·split at h
      ·exact hS _ h
      ·split at h <;> simp at h
     ·split at h
      ·exact hS _ h
      ·split at h <;> simp at h
theorem scF_err_ne : ∀ (f a : Nat) (l : List UInt8) (b e : Nat), Lx.scF f a l = .err b e → e ≠ 0 := by
 intro f
 induction f with
 | zero => intro a l b e h; simp [Lx.scF] at h
 | succ f ih =>
   intro a l b e h
   rw [Lx.scF] at h
   by_cases hm : l.drop (Lx.sk false l) = []
   ·rw [hm] at h; simp [Lx.st] at h
   ·cases ht : Lx.tk (l.drop (Lx.sk false l)) with
    | inl e' =>
      rw [Lx.st_inl ht hm] at h
      simp only [Lx.Res.err.injEq] at h
      rw [← h.2]
      exact tk_err_ne ht
    | inr kn =>
      obtain ⟨k, n⟩ := kn
      rw [Lx.st_inr ht] at h
      split at h
      ·simp only [Lx.Res.err.injEq] at h
       omega
      ·cases hr : Lx.scF f (a + Lx.sk false l + n) ((l.drop (Lx.sk false l)).drop n) with
       | ok ts => rw [hr] at h; simp [Lx.Res.pre] at h
       | err b' e' =>
         rw [hr] at h
         simp only [Lx.Res.pre, Lx.Res.err.injEq] at h
         rw [← h.2]
         exact ih _ _ _ _ hr
theorem sc_err_ne {l : List UInt8} {b e : Nat} (h : Lx.sc l = .err b e) : e ≠ 0 := scF_err_ne _ _ _ _ _ h
theorem scan_new (s : ByteArray) (ts : List Lx.Tok) (w : World) (hs : s.size ≤ 65536) (h : Lx.sc (tl s) = .ok ts) (h0 : 0 < ts.length) :
 Calls Tryz.prog 23 #[.string s] w fun e w' => ∃ g cap, e = .returned (.tuple #[.slice (some ⟨g, 0, none⟩) ts.length cap, .int .i64 0, .int .i64 0]) ∧ TokIn w' g ts ∧ ts.length ≤ cap ∧ w.heap.size ≤ g ∧ Below w.heap.size w w' :=
 (scan_any s w hs).mono fun e w' hp => by
  unfold ScanPost at hp
  rw [h] at hp
  obtain ⟨v, he, hown, hb⟩ := hp
  obtain ⟨g, cap, rfl, hg, ht, hc, _⟩ := own_tok hown h0
  exact ⟨g, cap, he, ht, hc, hg, hb⟩
abbrev pits (bo ba be : Nat) (oc : List Value) (av ev : Value) : List It := [iblk bo 29 oc, iblk ba 3 [av], iblk be 30 [ev]]
theorem catch_pan {o : List Nat} {w0 : World} {L : List It} (bo ba be n : Nat) (av ev : Value) (older : List PanicEntry) (w : World) (hH : Hp o w0 (pits bo ba be zPl av ev ++ L) w) :
 CallsD Tryz.prog 24 #[ptr bo, ptr ba, ptr be] (.panicking ({ v := .iface 80 (.agg #[.int .i64 (n : Int)]), recovered := false } :: older)) w fun e u' w' =>
  e = .returned (.tuple #[]) ∧ u' = .panicking ({ v := .iface 80 (.agg #[.int .i64 (n : Int)]), recovered := true } :: older) ∧ Hp o w0 (pits bo ba be zPl (.int .i64 (n : Int)) (.int .i64 4) ++ L) w' := by
 have hta : ∀ w : World, (Instr.typeAssert (.iface 80 (.agg #[.int .i64 (n : Int)])) 20 80 true).run Tryz.prog w = .ok (.tuple #[.agg #[.int .i64 (n : Int)], .bool true]) w := fun w => by kernel_rfl
 have hnt : ∀ (x : Bool) (w : World), (Op.unary .not (.bool x)).run Tryz.prog w = .ok (.bool (!x)) w := fun _ _ => rfl
 refine callsD_of_wpS Tryz.func24 rfl fun c₀ cs hu => ?_
 apply wpS_seq
 apply wpS_region
 simp [wpOpsS, go_sem, recoverD, hu, Tryz.ntmps24, Exit.thenS]
 refine wpS_of_wp ?_
 have e : (#[ptr bo, ptr ba, ptr be] ++ ((Array.replicate 17 undef).setIfInBounds 3 (Value.iface 80 (.agg #[.int .i64 (n : Int)]))).setIfInBounds 0 (Value.iface 80 (.agg #[.int .i64 (n : Int)])) : Array Value) =
  #[ptr bo, ptr ba, ptr be, .iface 80 (.agg #[.int .i64 (n : Int)]), undef, undef, .iface 80 (.agg #[.int .i64 (n : Int)]), undef, undef, undef, undef, undef, undef, undef, undef, undef, undef, undef, undef, undef] := by kernel_rfl
 rw [e]
 generalize hQ : (fun (e : Exit) (a' : Act) (w' : World) => bodyPostS _ _ _ _ _ e a' _ w') = Q
 obtain ⟨bx, hbx⟩ : ∃ g, w.heap.size = g := ⟨_, rfl⟩
 have hH := hH.new 80 [.int .i64 0]
 rw [hbx] at hH
 go_upto_region 5 with (refine wpList_store_row rfl 80 (.tmp 4) (.tmp 12) rfl bx ([.int .i64 (n : Int)] : List Value).toArray rfl rfl 80 [.int .i64 0].toArray (hH.blk 0 rfl) (by kernel_rfl) (by kernel_rfl) (by kernel_rfl) ?_)
 have hH1 := hH.rowAt 0 rfl [.int .i64 (n : Int)]
 clear hH
 generalize (w.alloc (.cells #[.int .i64 0] 80)).setRow bx ([.int .i64 (n : Int)] : List Value).toArray = w1 at *
 have hD := hH1.drew
 have c1 := (hD.blk 0 rfl).cell 0
 simp only [List.getElem?_cons_zero] at c1
 subst hQ
 refine wp_region_held_drew (S := (fun w' => w'.cell? ⟨bx, 0, none⟩ = some (.int .i64 (n : Int)))) (by kernel_rfl) ?_ (fun hHeld => ?_)
 ·exact c1
 refine tkW 0 (v := ?_) rfl (Or.inl ⟨by rfl, ?_⟩) ?_
 rotate_left
 ·(intro w hSw; (try dsimp only at hSw); skip; go_simp; (try with_reducible rfl))
 try simp only [Act.put, tS1, tS2, tS4, tS5, tS6]
 refine tkW 1 (v := ?_) rfl (Or.inl ⟨by rfl, ?_⟩) ?_
 rotate_left
 ·(intro w hSw; (try dsimp only at hSw); skip; go_simp; (try with_reducible rfl))
 try simp only [Act.put, tS1, tS2, tS3, tS4, tS5, tS6]
 refine tkW 2 (v := ?_) rfl (Or.inl ⟨by rfl, ?_⟩) ?_
 rotate_left
 ·(intro w hSw; (try dsimp only at hSw); skip; go_simp; (try with_reducible rfl))
 try simp only [Act.put, tS1, tS2, tS3, tS4, tS5, tS6]
 refine tkO 3 rfl fun K hK => ?_
 rw [if_pos (by rfl)]
 refine wp_store_row 29 (.tmp 0) (.tmp 17) (by rfl) bo zPl.toArray (by rfl) (by rfl) 29 zPl.toArray (hD.blk 1 rfl) (by kernel_rfl) (by kernel_rfl) (by kernel_rfl) ?_
 have hD2 := hD.rowAt 1 rfl zPl
 have c2 := (hD2.blk 2 rfl).cell 0
 have f2 := (hD2.blk 2 rfl).frozen 0
 simp only [List.getElem?_cons_zero] at c2
 refine hK.out _ _ ?_ (fun hHeld => ?_)
 ·exact (hD2.blk 0 rfl).cell 0
 clear hK K
 refine tkO 4 rfl fun K hK => ?_
 go_simp
 have hD3 := hD2.set 2 rfl 0 (.int .i64 (n : Int))
 have c3 := (hD3.blk 3 rfl).cell 0
 have f3 := (hD3.blk 3 rfl).frozen 0
 simp only [List.getElem?_cons_zero] at c3
 refine hK.out _ _ ?_ (fun hHeld => ?_)
 ·exact (hD3.blk 0 rfl).cell 0
 clear hK K
 refine tkO 5 rfl fun K hK => ?_
 go_simp
 have hD4 := hD3.set 3 rfl 0 (.int .i64 4)
 refine hK.out _ _ ?_ (fun hHeld => ?_)
 ·exact (hD4.blk 0 rfl).cell 0
 clear hK K
 refine wpAnyH_done (by kernel_rfl) ?_ _
 go_wp2_with fail
 simp [bodyPostS, results, Tryz.results24]
 exact hD4.tail
theorem catch_idle (bo ba be : Nat) (w : World) :
 CallsD Tryz.prog 24 #[ptr bo, ptr ba, ptr be] .returning w fun e u' w' => e = .returned (.tuple #[]) ∧ u' = .returning ∧ w' = w := by
 refine callsD_of_wpS Tryz.func24 rfl fun c₀ cs hu => ?_
 apply wpS_seq
 apply wpS_region
 simp [wpOpsS, go_sem, recoverD, hu, Tryz.ntmps24, Exit.thenS]
 refine wpS_of_wp ?_
 have e : (#[ptr bo, ptr ba, ptr be] ++ ((Array.replicate 17 undef).setIfInBounds 3 Value.nilIface).setIfInBounds 0 Value.nilIface : Array Value) =
  #[ptr bo, ptr ba, ptr be, .nilIface, undef, undef, .nilIface, undef, undef, undef, undef, undef, undef, undef, undef, undef, undef, undef, undef, undef] := by kernel_rfl
 rw [e]
 generalize hQ : (fun (e : Exit) (a' : Act) (w' : World) => bodyPostS _ _ _ _ _ e a' _ w') = Q
 go_wp2_with fail
 subst hQ
 cases c₀
 simp_all [bodyPostS, results, Tryz.results24]
open Go.RowKit Go.Shelf
open Lib (hid)
def itoks (g : Nat) (ts : List Lx.Tok) : It := ⟨[g], fun W => TokIn W g ts, fun W W' h hp => tokin_same hp (h g (by simp)), fun W hp b hb => by rw [List.mem_singleton.1 hb]; exact hp.1⟩
section
variable {o : List Nat} {w W W' : World} {it : List It}
theorem Hp.toks {g : Nat} {ts : List Lx.Tok} (h : Hp o w it W) (ht : TokIn W' g ts) (hg : W.heap.size ≤ g) (hb : Below W.heap.size W W') : Hp o w (itoks g ts :: it) W' := by
 have h1 : Hp (ow []) W [itoks g ts] W' := ⟨⟨fun x hx => by rw [List.mem_singleton.1 hx]; exact ht, by simp [itoks]⟩, ⟨hb.mono (Nat.zero_le _), fun k hk _ => hb.block k hk, fun b hb' => .inr (by
  have : b = g := by simpa [itoks] using hb'
  omega)⟩⟩
 exact Hp.call (a := []) (r := it) h h1
theorem Hp.reader {gp gt cap : Nat} {ts : List Lx.Tok} {L : List It} (h : Hp o w (iblk gp 78 [.slice (some ⟨gt, 0, none⟩) ts.length cap, .int .i64 0] :: itoks gt ts :: L) W) (hg : Pa.Good ts) (hn : ts.length ≤ 65537) (hc : ts.length ≤ cap) : Hp o w (ipr ⟨gp, gt, cap, ts⟩ ts :: L) W := by
 have hne : gp ≠ gt := by
  have := h.sep.ap
  rw [ow, List.flatMap_cons, List.flatMap_cons] at this
  have h2 := (List.nodup_cons.1 this).1
  intro e
  exact h2 (List.mem_append_right _ (List.mem_append_left _ (by rw [e]; exact List.mem_singleton.2 rfl)))
 have h0 : PRok ⟨gp, gt, cap, ts⟩ ts W := ⟨by
  have := h.blk 0 rfl
  rw [Nat.sub_self]; exact this, h.sep.ok (itoks gt ts) (by simp), List.suffix_refl _, hg, hn, hc, hne⟩
 refine ⟨⟨fun x hx => ?_, ?_⟩, h.stp.sub (fun b hb => ?_)⟩
 ·rcases List.mem_cons.1 hx with rfl | hx
  ·exact h0
  ·exact h.sep.ok x (List.mem_cons_of_mem _ (List.mem_cons_of_mem _ hx))
 ·exact h.sep.ap
 ·exact hb
end
theorem Shorts.of {ts : List Lx.Tok} {a : Nat} {l : List UInt8} (h : Lx.Sc a l ts) (hl : l.length ≤ 65536) : Shorts ts := fun t ht => by
 have := (h.within t ht).2
 have := (h.within t ht).1
 omega
theorem toks_len {ts : List Lx.Tok} {l : List UInt8} (h : Lx.Sc 0 l ts) : ts.length ≤ l.length + 1 := by
 obtain ⟨us, e, rfl, -, h8, -, h9, h10, -⟩ := h.join
 have h11 : us.length ≤ (us.map fun t => t.text.length).sum := by
  clear h10 h
  induction us with
  | nil => exact Nat.zero_le _
  | cons t r ih =>
    have := ih fun t ht => h9 t (List.mem_cons_of_mem _ ht)
    have h1 := (h9 t (List.mem_cons_self ..)).2
    have := List.length_pos_iff.2 h1
    rw [List.length_cons, List.map_cons, List.sum_cons]
    omega
 rw [List.length_append, List.length_singleton]
 omega
theorem polV_of (p : Pa.Pl) (P : List NV) (hP : P.map Prod.fst = p.root.num 0) (UA RA NA : Option Addr) (uc rc nc : Nat) : polV (poOf p) ⟨UA, uc, RA, rc, NA, nc⟩ = .agg (plc p.name (.slice UA p.uses.length uc) (.slice RA p.reveal.length rc) (.slice NA P.length nc) p.scope p.limit p.escrow).toArray := by
 have e1 : (poOf p).uses.length = p.uses.length := List.length_map _
 have e2 : (poOf p).reveal.length = p.reveal.length := List.length_map _
 have e3 : (poOf p).nodes.length = P.length := by
  show ((p.root.num 0).map nkOf).length = _
  rw [List.length_map, ← hP, List.length_map]
 show Value.agg #[_, .slice UA (poOf p).uses.length uc, .slice RA (poOf p).reveal.length rc, .slice NA (poOf p).nodes.length nc, _, _, _, _] = _
 rw [e1, e2, e3]; rfl
theorem polm_of {o : List Nat} {w W : World} {p : Pa.Pl} {P : List NV} {UA RA NA : Option Addr} {uc rc nc : Nat} {a : List It} (hP : P.map Prod.fst = p.root.num 0) (h : Hp o w (a ++ (iuses (.slice UA p.uses.length uc) p.uses :: irefs (.slice RA p.reveal.length rc) p.reveal :: inodes (.slice NA P.length nc) P :: krows P)) W) : PolM W (poOf p) ⟨UA, uc, RA, rc, NA, nc⟩ := by
 have h1 := h.sep.ok (iuses (.slice UA p.uses.length uc) p.uses) (by simp)
 have h2 := h.sep.ok (irefs (.slice RA p.reveal.length rc) p.reveal) (by simp)
 have h3 := h.sep.ok (inodes (.slice NA P.length nc) P) (by simp)
 have h4 := krows_row (a := a ++ [iuses (.slice UA p.uses.length uc) p.uses, irefs (.slice RA p.reveal.length rc) p.reveal, inodes (.slice NA P.length nc) P]) (by simpa using h)
 refine ⟨prs_row h1, prs_row h2, ?_⟩
 have e : (poOf p).nodes = P.map fun x => nkOf x.1 := by
  show (p.root.num 0).map nkOf = _
  rw [← hP, List.map_map]; rfl
 rw [e]
 exact nks_row h3 h4
theorem Parse_any (s : ByteArray) (hs : s.size ≤ 65536) (w : World) : Calls Tryz.prog 7 #[.string s] w fun e w' => PaOut (zav (tl s)) e w' ∧ Below w.heap.size w w' := by
 have hmf : ∀ (fn : Fn) (first cap : Array Value) (w : World), (Instr.makeFunc fn first cap).run Tryz.prog w = .ok (.func fn first cap) w := fun _ _ _ _ => rfl
 have hlen : (tl s).length = s.size := zab s
 obtain ⟨bo, hbo⟩ : ∃ g, w.heap.size = g := ⟨_, rfl⟩
 obtain ⟨ba, hba⟩ : ∃ g, bo + 1 = g := ⟨_, rfl⟩
 obtain ⟨be, hbe⟩ : ∃ g, ba + 1 = g := ⟨_, rfl⟩
 have hh : Hp [] w (pits bo ba be zPl (.int .i64 0) (.int .i64 0)) (((w.alloc (.cells zPl.toArray 29)).alloc (.cells #[.int .i64 0] 3)).alloc (.cells #[.int .i64 0] 30)) := by
  have := (((Hp.start w).new 29 zPl).new 3 [.int .i64 0]).new 30 [.int .i64 0]
  have hsz : ∀ (w : World) (o : Obj), (w.alloc o).heap.size = w.heap.size + 1 := fun w o => by simp
  simp only [hsz, hbo, hba, hbe] at this
  exact this.perm ((List.Perm.swap _ _ _).trans ((List.Perm.cons _ (List.Perm.swap _ _ _)).trans (List.Perm.swap _ _ _)))
 cases hsc : Lx.sc (tl s) with
 | err a n =>
   have hn : ((n : Int) == 0) = false := by
    have := sc_err_ne hsc
    simp; omega
   go_enter_defers Tryz.func7, Tryz.ntmps7
   go_wp2_with fail
   refine (scan_err s a n _ hs hsc).mono ?_
   rintro e w4 ⟨rfl, hb4⟩
   have hk := hh.next hb4
   clear hh hb4
   have c1 := (hk.blk 1 rfl).cell 0
   have f1 := (hk.blk 1 rfl).frozen 0
   have hk1 := hk.set 1 rfl 0 (.int .i64 (a : Int))
   have c2 := (hk1.blk 2 rfl).cell 0
   have f2 := (hk1.blk 2 rfl).frozen 0
   have hk2 := hk1.set 2 rfl 0 (.int .i64 (n : Int))
   have hk2 : Hp [] w (pits bo ba be zPl (.int .i64 (a : Int)) (.int .i64 (n : Int))) ((w4.setCell ⟨ba, 0, none⟩ (.int .i64 (a : Int))).setCell ⟨be, 0, none⟩ (.int .i64 (n : Int))) := hk2
   simp only [List.getElem?_cons_zero] at c1 c2
   go_upto_region 2 with fail
   clear hk hk1 c1 f1 c2 f2
   generalize (w4.setCell ⟨ba, 0, none⟩ (.int .i64 (a : Int))).setCell ⟨be, 0, none⟩ (.int .i64 (n : Int)) = w5 at *
   have c2 := (hk2.blk 2 rfl).cell 0
   simp only [List.getElem?_cons_zero] at c2
   go_upto_region 3 with fail
   have hD := hk2.drew
   have c1 := (hD.blk 1 rfl).cell 0
   have c2 := (hD.blk 2 rfl).cell 0
   simp only [List.getElem?_cons_zero] at c1 c2
   refine wp_region_held_drew (S := (fun _ => True)) (by kernel_rfl) ?_ (fun hHeld => ?_)
   ·trivial
   refine tkR [0, 1, 2] ?_
   refine AllReadyH.cons rfl (fun K hK => ?_) ?_
   ·go_simp
    refine hK.out _ _ ?_ (fun hHeld => ?_)
    ·trivial
    clear hK K
    refine tkR [1, 2, 3] ?_
    refine AllReadyH.cons rfl (fun K hK => ?_) ?_
    ·go_simp
     refine hK.out _ _ ?_ (fun hHeld => ?_)
     ·trivial
     clear hK K
     refine tkR [2, 3] ?_
     refine AllReadyH.cons rfl (fun K hK => ?_) ?_
     ·go_simp
      refine hK.out _ _ ?_ (fun hHeld => ?_)
      ·trivial
      clear hK K
      refine tkO 3 rfl fun K hK => ?_
      rw [if_pos (by rfl)]
      refine wp_store_row 29 (.tmp 2) (.tmp 16) (by rfl) bo zPl.toArray (by rfl) (by rfl) 29 zPl.toArray (hD.blk 0 rfl) (by kernel_rfl) (by kernel_rfl) (by kernel_rfl) ?_
      have hD2 := hD.rowAt 0 rfl zPl
      have x1 := (hD2.blk 1 rfl).cell 0
      have x2 := (hD2.blk 2 rfl).cell 0
      have g1 := (hD2.blk 1 rfl).frozen 0
      simp only [List.getElem?_cons_zero] at x1 x2
      refine hK.out _ _ ?_ (fun hHeld => ?_)
      ·trivial
      clear hK K
      refine tkO 4 rfl fun K hK => ?_
      go_simp
      have hD3 := hD2.set 1 rfl 0 (.int .i64 (a : Int))
      have y2 := (hD3.blk 2 rfl).cell 0
      have g2 := (hD3.blk 2 rfl).frozen 0
      simp only [List.getElem?_cons_zero] at y2
      refine hK.out _ _ ?_ (fun hHeld => ?_)
      ·trivial
      clear hK K
      refine tkO 5 rfl fun K hK => ?_
      go_simp
      have hD4 := hD3.set 2 rfl 0 (.int .i64 (n : Int))
      refine hK.out _ _ ?_ (fun hHeld => ?_)
      ·trivial
      clear hK K
      refine wpAnyH_done (by kernel_rfl) ?_ _
      go_wp2_with fail
      have HT := hid hD4.below0
      have d0 := (hD4.blk 1 rfl).cell 0
      have d1 := (hD4.blk 2 rfl).cell 0
      obtain ⟨r0, r1, r2, r3, r4, r5, r6, r7⟩ := (hD4.blk 0 rfl).get8
      clear hD hD2 hD3 hD4 hk2 x1 g1 x2 y2 g2 hHeld
      simp at d0 d1
      simp [bodyPostD, Leaves, results, Tryz.results7, go_sem, d0, d1, r0, r1, r2, r3, r4, r5, r6, r7]
      exact ⟨PaOut.bad (by unfold zav; rw [hsc]), HT.out⟩
     refine AllReadyH.cons rfl (fun K hK => ?_) ?_
     ·rw [if_pos (by rfl)]
      refine wp_store_row 29 (.tmp 2) (.tmp 16) (by rfl) bo zPl.toArray (by rfl) (by rfl) 29 zPl.toArray (hD.blk 0 rfl) (by kernel_rfl) (by kernel_rfl) (by kernel_rfl) ?_
      have hD2 := hD.rowAt 0 rfl zPl
      have x1 := (hD2.blk 1 rfl).cell 0
      have x2 := (hD2.blk 2 rfl).cell 0
      have g1 := (hD2.blk 1 rfl).frozen 0
      simp only [List.getElem?_cons_zero] at x1 x2
      refine hK.out _ _ ?_ (fun hHeld => ?_)
      ·trivial
      clear hK K
      refine tkR [2, 4] ?_
      refine AllReadyH.cons rfl (fun K hK => ?_) ?_
      ·go_simp
       refine hK.out _ _ ?_ (fun hHeld => ?_)
       ·trivial
       clear hK K
       refine tkO 4 rfl fun K hK => ?_
       go_simp
       have hD3 := hD2.set 1 rfl 0 (.int .i64 (a : Int))
       have y2 := (hD3.blk 2 rfl).cell 0
       have g2 := (hD3.blk 2 rfl).frozen 0
       simp only [List.getElem?_cons_zero] at y2
       refine hK.out _ _ ?_ (fun hHeld => ?_)
       ·trivial
       clear hK K
       refine tkO 5 rfl fun K hK => ?_
       go_simp
       have hD4 := hD3.set 2 rfl 0 (.int .i64 (n : Int))
       refine hK.out _ _ ?_ (fun hHeld => ?_)
       ·trivial
       clear hK K
       refine wpAnyH_done (by kernel_rfl) ?_ _
       go_wp2_with fail
       have HT := hid hD4.below0
       have d0 := (hD4.blk 1 rfl).cell 0
       have d1 := (hD4.blk 2 rfl).cell 0
       obtain ⟨r0, r1, r2, r3, r4, r5, r6, r7⟩ := (hD4.blk 0 rfl).get8
       clear hD hD2 hD3 hD4 hk2 x1 g1 x2 y2 g2 hHeld
       simp at d0 d1
       simp [bodyPostD, Leaves, results, Tryz.results7, go_sem, d0, d1, r0, r1, r2, r3, r4, r5, r6, r7]
       exact ⟨PaOut.bad (by unfold zav; rw [hsc]), HT.out⟩
      refine AllReadyH.cons rfl (fun K hK => ?_) ?_
      ·go_simp
       have hD3 := hD2.set 1 rfl 0 (.int .i64 (a : Int))
       have y2 := (hD3.blk 2 rfl).cell 0
       have g2 := (hD3.blk 2 rfl).frozen 0
       simp only [List.getElem?_cons_zero] at y2
       refine hK.out _ _ ?_ (fun hHeld => ?_)
       ·trivial
       clear hK K
       refine tkO 2 rfl fun K hK => ?_
       go_simp
       refine hK.out _ _ ?_ (fun hHeld => ?_)
       ·trivial
       clear hK K
       refine tkO 5 rfl fun K hK => ?_
       go_simp
       have hD4 := hD3.set 2 rfl 0 (.int .i64 (n : Int))
       refine hK.out _ _ ?_ (fun hHeld => ?_)
       ·trivial
       clear hK K
       refine wpAnyH_done (by kernel_rfl) ?_ _
       go_wp2_with fail
       have HT := hid hD4.below0
       have d0 := (hD4.blk 1 rfl).cell 0
       have d1 := (hD4.blk 2 rfl).cell 0
       obtain ⟨r0, r1, r2, r3, r4, r5, r6, r7⟩ := (hD4.blk 0 rfl).get8
       clear hD hD2 hD3 hD4 hk2 x1 g1 x2 y2 g2 hHeld
       simp at d0 d1
       simp [bodyPostD, Leaves, results, Tryz.results7, go_sem, d0, d1, r0, r1, r2, r3, r4, r5, r6, r7]
       exact ⟨PaOut.bad (by unfold zav; rw [hsc]), HT.out⟩
      exact AllReadyH.nil
     exact AllReadyH.nil
    refine AllReadyH.cons rfl (fun K hK => ?_) ?_
    ·go_simp
     refine hK.out _ _ ?_ (fun hHeld => ?_)
     ·trivial
     clear hK K
     refine tkR [1, 3] ?_
     refine AllReadyH.cons rfl (fun K hK => ?_) ?_
     ·go_simp
      refine hK.out _ _ ?_ (fun hHeld => ?_)
      ·trivial
      clear hK K
      refine tkO 3 rfl fun K hK => ?_
      rw [if_pos (by rfl)]
      refine wp_store_row 29 (.tmp 2) (.tmp 16) (by rfl) bo zPl.toArray (by rfl) (by rfl) 29 zPl.toArray (hD.blk 0 rfl) (by kernel_rfl) (by kernel_rfl) (by kernel_rfl) ?_
      have hD2 := hD.rowAt 0 rfl zPl
      have x1 := (hD2.blk 1 rfl).cell 0
      have x2 := (hD2.blk 2 rfl).cell 0
      have g1 := (hD2.blk 1 rfl).frozen 0
      simp only [List.getElem?_cons_zero] at x1 x2
      refine hK.out _ _ ?_ (fun hHeld => ?_)
      ·trivial
      clear hK K
      refine tkO 4 rfl fun K hK => ?_
      go_simp
      have hD3 := hD2.set 1 rfl 0 (.int .i64 (a : Int))
      have y2 := (hD3.blk 2 rfl).cell 0
      have g2 := (hD3.blk 2 rfl).frozen 0
      simp only [List.getElem?_cons_zero] at y2
      refine hK.out _ _ ?_ (fun hHeld => ?_)
      ·trivial
      clear hK K
      refine tkO 5 rfl fun K hK => ?_
      go_simp
      have hD4 := hD3.set 2 rfl 0 (.int .i64 (n : Int))
      refine hK.out _ _ ?_ (fun hHeld => ?_)
      ·trivial
      clear hK K
      refine wpAnyH_done (by kernel_rfl) ?_ _
      go_wp2_with fail
      have HT := hid hD4.below0
      have d0 := (hD4.blk 1 rfl).cell 0
      have d1 := (hD4.blk 2 rfl).cell 0
      obtain ⟨r0, r1, r2, r3, r4, r5, r6, r7⟩ := (hD4.blk 0 rfl).get8
      clear hD hD2 hD3 hD4 hk2 x1 g1 x2 y2 g2 hHeld
      simp at d0 d1
      simp [bodyPostD, Leaves, results, Tryz.results7, go_sem, d0, d1, r0, r1, r2, r3, r4, r5, r6, r7]
      exact ⟨PaOut.bad (by unfold zav; rw [hsc]), HT.out⟩
     refine AllReadyH.cons rfl (fun K hK => ?_) ?_
     ·rw [if_pos (by rfl)]
      refine wp_store_row 29 (.tmp 2) (.tmp 16) (by rfl) bo zPl.toArray (by rfl) (by rfl) 29 zPl.toArray (hD.blk 0 rfl) (by kernel_rfl) (by kernel_rfl) (by kernel_rfl) ?_
      have hD2 := hD.rowAt 0 rfl zPl
      have x1 := (hD2.blk 1 rfl).cell 0
      have x2 := (hD2.blk 2 rfl).cell 0
      have g1 := (hD2.blk 1 rfl).frozen 0
      simp only [List.getElem?_cons_zero] at x1 x2
      refine hK.out _ _ ?_ (fun hHeld => ?_)
      ·trivial
      clear hK K
      refine tkO 1 rfl fun K hK => ?_
      go_simp
      refine hK.out _ _ ?_ (fun hHeld => ?_)
      ·trivial
      clear hK K
      refine tkO 4 rfl fun K hK => ?_
      go_simp
      have hD3 := hD2.set 1 rfl 0 (.int .i64 (a : Int))
      have y2 := (hD3.blk 2 rfl).cell 0
      have g2 := (hD3.blk 2 rfl).frozen 0
      simp only [List.getElem?_cons_zero] at y2
      refine hK.out _ _ ?_ (fun hHeld => ?_)
      ·trivial
      clear hK K
      refine tkO 5 rfl fun K hK => ?_
      go_simp
      have hD4 := hD3.set 2 rfl 0 (.int .i64 (n : Int))
      refine hK.out _ _ ?_ (fun hHeld => ?_)
      ·trivial
      clear hK K
      refine wpAnyH_done (by kernel_rfl) ?_ _
      go_wp2_with fail
      have HT := hid hD4.below0
      have d0 := (hD4.blk 1 rfl).cell 0
      have d1 := (hD4.blk 2 rfl).cell 0
      obtain ⟨r0, r1, r2, r3, r4, r5, r6, r7⟩ := (hD4.blk 0 rfl).get8
      clear hD hD2 hD3 hD4 hk2 x1 g1 x2 y2 g2 hHeld
      simp at d0 d1
      simp [bodyPostD, Leaves, results, Tryz.results7, go_sem, d0, d1, r0, r1, r2, r3, r4, r5, r6, r7]
      exact ⟨PaOut.bad (by unfold zav; rw [hsc]), HT.out⟩
     exact AllReadyH.nil
    refine AllReadyH.cons rfl (fun K hK => ?_) ?_
    ·rw [if_pos (by rfl)]
     refine wp_store_row 29 (.tmp 2) (.tmp 16) (by rfl) bo zPl.toArray (by rfl) (by rfl) 29 zPl.toArray (hD.blk 0 rfl) (by kernel_rfl) (by kernel_rfl) (by kernel_rfl) ?_
     have hD2 := hD.rowAt 0 rfl zPl
     have x1 := (hD2.blk 1 rfl).cell 0
     have x2 := (hD2.blk 2 rfl).cell 0
     have g1 := (hD2.blk 1 rfl).frozen 0
     simp only [List.getElem?_cons_zero] at x1 x2
     refine hK.out _ _ ?_ (fun hHeld => ?_)
     ·trivial
     clear hK K
     refine tkR [1, 2] ?_
     refine AllReadyH.cons rfl (fun K hK => ?_) ?_
     ·go_simp
      refine hK.out _ _ ?_ (fun hHeld => ?_)
      ·trivial
      clear hK K
      refine tkR [2, 4] ?_
      refine AllReadyH.cons rfl (fun K hK => ?_) ?_
      ·go_simp
       refine hK.out _ _ ?_ (fun hHeld => ?_)
       ·trivial
       clear hK K
       refine tkO 4 rfl fun K hK => ?_
       go_simp
       have hD3 := hD2.set 1 rfl 0 (.int .i64 (a : Int))
       have y2 := (hD3.blk 2 rfl).cell 0
       have g2 := (hD3.blk 2 rfl).frozen 0
       simp only [List.getElem?_cons_zero] at y2
       refine hK.out _ _ ?_ (fun hHeld => ?_)
       ·trivial
       clear hK K
       refine tkO 5 rfl fun K hK => ?_
       go_simp
       have hD4 := hD3.set 2 rfl 0 (.int .i64 (n : Int))
       refine hK.out _ _ ?_ (fun hHeld => ?_)
       ·trivial
       clear hK K
       refine wpAnyH_done (by kernel_rfl) ?_ _
       go_wp2_with fail
       have HT := hid hD4.below0
       have d0 := (hD4.blk 1 rfl).cell 0
       have d1 := (hD4.blk 2 rfl).cell 0
       obtain ⟨r0, r1, r2, r3, r4, r5, r6, r7⟩ := (hD4.blk 0 rfl).get8
       clear hD hD2 hD3 hD4 hk2 x1 g1 x2 y2 g2 hHeld
       simp at d0 d1
       simp [bodyPostD, Leaves, results, Tryz.results7, go_sem, d0, d1, r0, r1, r2, r3, r4, r5, r6, r7]
       exact ⟨PaOut.bad (by unfold zav; rw [hsc]), HT.out⟩
      refine AllReadyH.cons rfl (fun K hK => ?_) ?_
      ·go_simp
       have hD3 := hD2.set 1 rfl 0 (.int .i64 (a : Int))
       have y2 := (hD3.blk 2 rfl).cell 0
       have g2 := (hD3.blk 2 rfl).frozen 0
       simp only [List.getElem?_cons_zero] at y2
       refine hK.out _ _ ?_ (fun hHeld => ?_)
       ·trivial
       clear hK K
       refine tkO 2 rfl fun K hK => ?_
       go_simp
       refine hK.out _ _ ?_ (fun hHeld => ?_)
       ·trivial
       clear hK K
       refine tkO 5 rfl fun K hK => ?_
       go_simp
       have hD4 := hD3.set 2 rfl 0 (.int .i64 (n : Int))
       refine hK.out _ _ ?_ (fun hHeld => ?_)
       ·trivial
       clear hK K
       refine wpAnyH_done (by kernel_rfl) ?_ _
       go_wp2_with fail
       have HT := hid hD4.below0
       have d0 := (hD4.blk 1 rfl).cell 0
       have d1 := (hD4.blk 2 rfl).cell 0
       obtain ⟨r0, r1, r2, r3, r4, r5, r6, r7⟩ := (hD4.blk 0 rfl).get8
       clear hD hD2 hD3 hD4 hk2 x1 g1 x2 y2 g2 hHeld
       simp at d0 d1
       simp [bodyPostD, Leaves, results, Tryz.results7, go_sem, d0, d1, r0, r1, r2, r3, r4, r5, r6, r7]
       exact ⟨PaOut.bad (by unfold zav; rw [hsc]), HT.out⟩
      exact AllReadyH.nil
     refine AllReadyH.cons rfl (fun K hK => ?_) ?_
     ·go_simp
      refine hK.out _ _ ?_ (fun hHeld => ?_)
      ·trivial
      clear hK K
      refine tkO 1 rfl fun K hK => ?_
      go_simp
      refine hK.out _ _ ?_ (fun hHeld => ?_)
      ·trivial
      clear hK K
      refine tkO 4 rfl fun K hK => ?_
      go_simp
      have hD3 := hD2.set 1 rfl 0 (.int .i64 (a : Int))
      have y2 := (hD3.blk 2 rfl).cell 0
      have g2 := (hD3.blk 2 rfl).frozen 0
      simp only [List.getElem?_cons_zero] at y2
      refine hK.out _ _ ?_ (fun hHeld => ?_)
      ·trivial
      clear hK K
      refine tkO 5 rfl fun K hK => ?_
      go_simp
      have hD4 := hD3.set 2 rfl 0 (.int .i64 (n : Int))
      refine hK.out _ _ ?_ (fun hHeld => ?_)
      ·trivial
      clear hK K
      refine wpAnyH_done (by kernel_rfl) ?_ _
      go_wp2_with fail
      have HT := hid hD4.below0
      have d0 := (hD4.blk 1 rfl).cell 0
      have d1 := (hD4.blk 2 rfl).cell 0
      obtain ⟨r0, r1, r2, r3, r4, r5, r6, r7⟩ := (hD4.blk 0 rfl).get8
      clear hD hD2 hD3 hD4 hk2 x1 g1 x2 y2 g2 hHeld
      simp at d0 d1
      simp [bodyPostD, Leaves, results, Tryz.results7, go_sem, d0, d1, r0, r1, r2, r3, r4, r5, r6, r7]
      exact ⟨PaOut.bad (by unfold zav; rw [hsc]), HT.out⟩
     exact AllReadyH.nil
    exact AllReadyH.nil
   refine AllReadyH.cons rfl (fun K hK => ?_) ?_
   ·go_simp
    refine hK.out _ _ ?_ (fun hHeld => ?_)
    ·trivial
    clear hK K
    refine tkR [0, 2] ?_
    refine AllReadyH.cons rfl (fun K hK => ?_) ?_
    ·go_simp
     refine hK.out _ _ ?_ (fun hHeld => ?_)
     ·trivial
     clear hK K
     refine tkR [2, 3] ?_
     refine AllReadyH.cons rfl (fun K hK => ?_) ?_
     ·go_simp
      refine hK.out _ _ ?_ (fun hHeld => ?_)
      ·trivial
      clear hK K
      refine tkO 3 rfl fun K hK => ?_
      rw [if_pos (by rfl)]
      refine wp_store_row 29 (.tmp 2) (.tmp 16) (by rfl) bo zPl.toArray (by rfl) (by rfl) 29 zPl.toArray (hD.blk 0 rfl) (by kernel_rfl) (by kernel_rfl) (by kernel_rfl) ?_
      have hD2 := hD.rowAt 0 rfl zPl
      have x1 := (hD2.blk 1 rfl).cell 0
      have x2 := (hD2.blk 2 rfl).cell 0
      have g1 := (hD2.blk 1 rfl).frozen 0
      simp only [List.getElem?_cons_zero] at x1 x2
      refine hK.out _ _ ?_ (fun hHeld => ?_)
      ·trivial
      clear hK K
      refine tkO 4 rfl fun K hK => ?_
      go_simp
      have hD3 := hD2.set 1 rfl 0 (.int .i64 (a : Int))
      have y2 := (hD3.blk 2 rfl).cell 0
      have g2 := (hD3.blk 2 rfl).frozen 0
      simp only [List.getElem?_cons_zero] at y2
      refine hK.out _ _ ?_ (fun hHeld => ?_)
      ·trivial
      clear hK K
      refine tkO 5 rfl fun K hK => ?_
      go_simp
      have hD4 := hD3.set 2 rfl 0 (.int .i64 (n : Int))
      refine hK.out _ _ ?_ (fun hHeld => ?_)
      ·trivial
      clear hK K
      refine wpAnyH_done (by kernel_rfl) ?_ _
      go_wp2_with fail
      have HT := hid hD4.below0
      have d0 := (hD4.blk 1 rfl).cell 0
      have d1 := (hD4.blk 2 rfl).cell 0
      obtain ⟨r0, r1, r2, r3, r4, r5, r6, r7⟩ := (hD4.blk 0 rfl).get8
      clear hD hD2 hD3 hD4 hk2 x1 g1 x2 y2 g2 hHeld
      simp at d0 d1
      simp [bodyPostD, Leaves, results, Tryz.results7, go_sem, d0, d1, r0, r1, r2, r3, r4, r5, r6, r7]
      exact ⟨PaOut.bad (by unfold zav; rw [hsc]), HT.out⟩
     refine AllReadyH.cons rfl (fun K hK => ?_) ?_
     ·rw [if_pos (by rfl)]
      refine wp_store_row 29 (.tmp 2) (.tmp 16) (by rfl) bo zPl.toArray (by rfl) (by rfl) 29 zPl.toArray (hD.blk 0 rfl) (by kernel_rfl) (by kernel_rfl) (by kernel_rfl) ?_
      have hD2 := hD.rowAt 0 rfl zPl
      have x1 := (hD2.blk 1 rfl).cell 0
      have x2 := (hD2.blk 2 rfl).cell 0
      have g1 := (hD2.blk 1 rfl).frozen 0
      simp only [List.getElem?_cons_zero] at x1 x2
      refine hK.out _ _ ?_ (fun hHeld => ?_)
      ·trivial
      clear hK K
      refine tkR [2, 4] ?_
      refine AllReadyH.cons rfl (fun K hK => ?_) ?_
      ·go_simp
       refine hK.out _ _ ?_ (fun hHeld => ?_)
       ·trivial
       clear hK K
       refine tkO 4 rfl fun K hK => ?_
       go_simp
       have hD3 := hD2.set 1 rfl 0 (.int .i64 (a : Int))
       have y2 := (hD3.blk 2 rfl).cell 0
       have g2 := (hD3.blk 2 rfl).frozen 0
       simp only [List.getElem?_cons_zero] at y2
       refine hK.out _ _ ?_ (fun hHeld => ?_)
       ·trivial
       clear hK K
       refine tkO 5 rfl fun K hK => ?_
       go_simp
       have hD4 := hD3.set 2 rfl 0 (.int .i64 (n : Int))
       refine hK.out _ _ ?_ (fun hHeld => ?_)
       ·trivial
       clear hK K
       refine wpAnyH_done (by kernel_rfl) ?_ _
       go_wp2_with fail
       have HT := hid hD4.below0
       have d0 := (hD4.blk 1 rfl).cell 0
       have d1 := (hD4.blk 2 rfl).cell 0
       obtain ⟨r0, r1, r2, r3, r4, r5, r6, r7⟩ := (hD4.blk 0 rfl).get8
       clear hD hD2 hD3 hD4 hk2 x1 g1 x2 y2 g2 hHeld
       simp at d0 d1
       simp [bodyPostD, Leaves, results, Tryz.results7, go_sem, d0, d1, r0, r1, r2, r3, r4, r5, r6, r7]
       exact ⟨PaOut.bad (by unfold zav; rw [hsc]), HT.out⟩
      refine AllReadyH.cons rfl (fun K hK => ?_) ?_
      ·go_simp
       have hD3 := hD2.set 1 rfl 0 (.int .i64 (a : Int))
       have y2 := (hD3.blk 2 rfl).cell 0
       have g2 := (hD3.blk 2 rfl).frozen 0
       simp only [List.getElem?_cons_zero] at y2
       refine hK.out _ _ ?_ (fun hHeld => ?_)
       ·trivial
       clear hK K
       refine tkO 2 rfl fun K hK => ?_
       go_simp
       refine hK.out _ _ ?_ (fun hHeld => ?_)
       ·trivial
       clear hK K
       refine tkO 5 rfl fun K hK => ?_
       go_simp
       have hD4 := hD3.set 2 rfl 0 (.int .i64 (n : Int))
       refine hK.out _ _ ?_ (fun hHeld => ?_)
       ·trivial
       clear hK K
       refine wpAnyH_done (by kernel_rfl) ?_ _
       go_wp2_with fail
       have HT := hid hD4.below0
       have d0 := (hD4.blk 1 rfl).cell 0
       have d1 := (hD4.blk 2 rfl).cell 0
       obtain ⟨r0, r1, r2, r3, r4, r5, r6, r7⟩ := (hD4.blk 0 rfl).get8
       clear hD hD2 hD3 hD4 hk2 x1 g1 x2 y2 g2 hHeld
       simp at d0 d1
       simp [bodyPostD, Leaves, results, Tryz.results7, go_sem, d0, d1, r0, r1, r2, r3, r4, r5, r6, r7]
       exact ⟨PaOut.bad (by unfold zav; rw [hsc]), HT.out⟩
      exact AllReadyH.nil
     exact AllReadyH.nil
    refine AllReadyH.cons rfl (fun K hK => ?_) ?_
    ·go_simp
     refine hK.out _ _ ?_ (fun hHeld => ?_)
     ·trivial
     clear hK K
     refine tkO 0 rfl fun K hK => ?_
     go_simp
     refine hK.out _ _ ?_ (fun hHeld => ?_)
     ·trivial
     clear hK K
     refine tkO 3 rfl fun K hK => ?_
     rw [if_pos (by rfl)]
     refine wp_store_row 29 (.tmp 2) (.tmp 16) (by rfl) bo zPl.toArray (by rfl) (by rfl) 29 zPl.toArray (hD.blk 0 rfl) (by kernel_rfl) (by kernel_rfl) (by kernel_rfl) ?_
     have hD2 := hD.rowAt 0 rfl zPl
     have x1 := (hD2.blk 1 rfl).cell 0
     have x2 := (hD2.blk 2 rfl).cell 0
     have g1 := (hD2.blk 1 rfl).frozen 0
     simp only [List.getElem?_cons_zero] at x1 x2
     refine hK.out _ _ ?_ (fun hHeld => ?_)
     ·trivial
     clear hK K
     refine tkO 4 rfl fun K hK => ?_
     go_simp
     have hD3 := hD2.set 1 rfl 0 (.int .i64 (a : Int))
     have y2 := (hD3.blk 2 rfl).cell 0
     have g2 := (hD3.blk 2 rfl).frozen 0
     simp only [List.getElem?_cons_zero] at y2
     refine hK.out _ _ ?_ (fun hHeld => ?_)
     ·trivial
     clear hK K
     refine tkO 5 rfl fun K hK => ?_
     go_simp
     have hD4 := hD3.set 2 rfl 0 (.int .i64 (n : Int))
     refine hK.out _ _ ?_ (fun hHeld => ?_)
     ·trivial
     clear hK K
     refine wpAnyH_done (by kernel_rfl) ?_ _
     go_wp2_with fail
     have HT := hid hD4.below0
     have d0 := (hD4.blk 1 rfl).cell 0
     have d1 := (hD4.blk 2 rfl).cell 0
     obtain ⟨r0, r1, r2, r3, r4, r5, r6, r7⟩ := (hD4.blk 0 rfl).get8
     clear hD hD2 hD3 hD4 hk2 x1 g1 x2 y2 g2 hHeld
     simp at d0 d1
     simp [bodyPostD, Leaves, results, Tryz.results7, go_sem, d0, d1, r0, r1, r2, r3, r4, r5, r6, r7]
     exact ⟨PaOut.bad (by unfold zav; rw [hsc]), HT.out⟩
    exact AllReadyH.nil
   refine AllReadyH.cons rfl (fun K hK => ?_) ?_
   ·go_simp
    refine hK.out _ _ ?_ (fun hHeld => ?_)
    ·trivial
    clear hK K
    refine tkR [0, 1] ?_
    refine AllReadyH.cons rfl (fun K hK => ?_) ?_
    ·go_simp
     refine hK.out _ _ ?_ (fun hHeld => ?_)
     ·trivial
     clear hK K
     refine tkR [1, 3] ?_
     refine AllReadyH.cons rfl (fun K hK => ?_) ?_
     ·go_simp
      refine hK.out _ _ ?_ (fun hHeld => ?_)
      ·trivial
      clear hK K
      refine tkO 3 rfl fun K hK => ?_
      rw [if_pos (by rfl)]
      refine wp_store_row 29 (.tmp 2) (.tmp 16) (by rfl) bo zPl.toArray (by rfl) (by rfl) 29 zPl.toArray (hD.blk 0 rfl) (by kernel_rfl) (by kernel_rfl) (by kernel_rfl) ?_
      have hD2 := hD.rowAt 0 rfl zPl
      have x1 := (hD2.blk 1 rfl).cell 0
      have x2 := (hD2.blk 2 rfl).cell 0
      have g1 := (hD2.blk 1 rfl).frozen 0
      simp only [List.getElem?_cons_zero] at x1 x2
      refine hK.out _ _ ?_ (fun hHeld => ?_)
      ·trivial
      clear hK K
      refine tkO 4 rfl fun K hK => ?_
      go_simp
      have hD3 := hD2.set 1 rfl 0 (.int .i64 (a : Int))
      have y2 := (hD3.blk 2 rfl).cell 0
      have g2 := (hD3.blk 2 rfl).frozen 0
      simp only [List.getElem?_cons_zero] at y2
      refine hK.out _ _ ?_ (fun hHeld => ?_)
      ·trivial
      clear hK K
      refine tkO 5 rfl fun K hK => ?_
      go_simp
      have hD4 := hD3.set 2 rfl 0 (.int .i64 (n : Int))
      refine hK.out _ _ ?_ (fun hHeld => ?_)
      ·trivial
      clear hK K
      refine wpAnyH_done (by kernel_rfl) ?_ _
      go_wp2_with fail
      have HT := hid hD4.below0
      have d0 := (hD4.blk 1 rfl).cell 0
      have d1 := (hD4.blk 2 rfl).cell 0
      obtain ⟨r0, r1, r2, r3, r4, r5, r6, r7⟩ := (hD4.blk 0 rfl).get8
      clear hD hD2 hD3 hD4 hk2 x1 g1 x2 y2 g2 hHeld
      simp at d0 d1
      simp [bodyPostD, Leaves, results, Tryz.results7, go_sem, d0, d1, r0, r1, r2, r3, r4, r5, r6, r7]
      exact ⟨PaOut.bad (by unfold zav; rw [hsc]), HT.out⟩
     refine AllReadyH.cons rfl (fun K hK => ?_) ?_
     ·rw [if_pos (by rfl)]
      refine wp_store_row 29 (.tmp 2) (.tmp 16) (by rfl) bo zPl.toArray (by rfl) (by rfl) 29 zPl.toArray (hD.blk 0 rfl) (by kernel_rfl) (by kernel_rfl) (by kernel_rfl) ?_
      have hD2 := hD.rowAt 0 rfl zPl
      have x1 := (hD2.blk 1 rfl).cell 0
      have x2 := (hD2.blk 2 rfl).cell 0
      have g1 := (hD2.blk 1 rfl).frozen 0
      simp only [List.getElem?_cons_zero] at x1 x2
      refine hK.out _ _ ?_ (fun hHeld => ?_)
      ·trivial
      clear hK K
      refine tkO 1 rfl fun K hK => ?_
      go_simp
      refine hK.out _ _ ?_ (fun hHeld => ?_)
      ·trivial
      clear hK K
      refine tkO 4 rfl fun K hK => ?_
      go_simp
      have hD3 := hD2.set 1 rfl 0 (.int .i64 (a : Int))
      have y2 := (hD3.blk 2 rfl).cell 0
      have g2 := (hD3.blk 2 rfl).frozen 0
      simp only [List.getElem?_cons_zero] at y2
      refine hK.out _ _ ?_ (fun hHeld => ?_)
      ·trivial
      clear hK K
      refine tkO 5 rfl fun K hK => ?_
      go_simp
      have hD4 := hD3.set 2 rfl 0 (.int .i64 (n : Int))
      refine hK.out _ _ ?_ (fun hHeld => ?_)
      ·trivial
      clear hK K
      refine wpAnyH_done (by kernel_rfl) ?_ _
      go_wp2_with fail
      have HT := hid hD4.below0
      have d0 := (hD4.blk 1 rfl).cell 0
      have d1 := (hD4.blk 2 rfl).cell 0
      obtain ⟨r0, r1, r2, r3, r4, r5, r6, r7⟩ := (hD4.blk 0 rfl).get8
      clear hD hD2 hD3 hD4 hk2 x1 g1 x2 y2 g2 hHeld
      simp at d0 d1
      simp [bodyPostD, Leaves, results, Tryz.results7, go_sem, d0, d1, r0, r1, r2, r3, r4, r5, r6, r7]
      exact ⟨PaOut.bad (by unfold zav; rw [hsc]), HT.out⟩
     exact AllReadyH.nil
    refine AllReadyH.cons rfl (fun K hK => ?_) ?_
    ·go_simp
     refine hK.out _ _ ?_ (fun hHeld => ?_)
     ·trivial
     clear hK K
     refine tkO 0 rfl fun K hK => ?_
     go_simp
     refine hK.out _ _ ?_ (fun hHeld => ?_)
     ·trivial
     clear hK K
     refine tkO 3 rfl fun K hK => ?_
     rw [if_pos (by rfl)]
     refine wp_store_row 29 (.tmp 2) (.tmp 16) (by rfl) bo zPl.toArray (by rfl) (by rfl) 29 zPl.toArray (hD.blk 0 rfl) (by kernel_rfl) (by kernel_rfl) (by kernel_rfl) ?_
     have hD2 := hD.rowAt 0 rfl zPl
     have x1 := (hD2.blk 1 rfl).cell 0
     have x2 := (hD2.blk 2 rfl).cell 0
     have g1 := (hD2.blk 1 rfl).frozen 0
     simp only [List.getElem?_cons_zero] at x1 x2
     refine hK.out _ _ ?_ (fun hHeld => ?_)
     ·trivial
     clear hK K
     refine tkO 4 rfl fun K hK => ?_
     go_simp
     have hD3 := hD2.set 1 rfl 0 (.int .i64 (a : Int))
     have y2 := (hD3.blk 2 rfl).cell 0
     have g2 := (hD3.blk 2 rfl).frozen 0
     simp only [List.getElem?_cons_zero] at y2
     refine hK.out _ _ ?_ (fun hHeld => ?_)
     ·trivial
     clear hK K
     refine tkO 5 rfl fun K hK => ?_
     go_simp
     have hD4 := hD3.set 2 rfl 0 (.int .i64 (n : Int))
     refine hK.out _ _ ?_ (fun hHeld => ?_)
     ·trivial
     clear hK K
     refine wpAnyH_done (by kernel_rfl) ?_ _
     go_wp2_with fail
     have HT := hid hD4.below0
     have d0 := (hD4.blk 1 rfl).cell 0
     have d1 := (hD4.blk 2 rfl).cell 0
     obtain ⟨r0, r1, r2, r3, r4, r5, r6, r7⟩ := (hD4.blk 0 rfl).get8
     clear hD hD2 hD3 hD4 hk2 x1 g1 x2 y2 g2 hHeld
     simp at d0 d1
     simp [bodyPostD, Leaves, results, Tryz.results7, go_sem, d0, d1, r0, r1, r2, r3, r4, r5, r6, r7]
     exact ⟨PaOut.bad (by unfold zav; rw [hsc]), HT.out⟩
    exact AllReadyH.nil
   exact AllReadyH.nil
 | ok ts =>
   have hS := Lx.sc_iff.1 hsc
   have hg := Pa.sc_good hS
   have h0 : 0 < ts.length := List.length_pos_iff.2 hg.ne
   have hsh : Shorts ts := Shorts.of hS (by omega)
   have htl : ts.length ≤ 65537 := by have := toks_len hS; omega
   have HPV : Hid (zav (tl s) = parseT ts) := hid (by unfold zav; rw [hsc])
   have HGD := hid (fun (p : Pa.Pl) (q : List Lx.Tok) (h : Pa.policyR ts = (some p, q)) => Pa.policy_gd hg h)
   clear hS
   go_enter_defers Tryz.func7, Tryz.ntmps7
   go_wp2_with fail
   refine (scan_new s ts _ hs hsc h0).mono ?_
   rintro e w4 ⟨gt, cap, rfl, hT, hc, hgt, hb4⟩
   have hk := hh.toks hT hgt hb4
   clear hh hb4 hT hgt
   have c1 := (hk.blk 2 rfl).cell 0
   have f1 := (hk.blk 2 rfl).frozen 0
   have hk1 := hk.set 2 rfl 0 (.int .i64 0)
   have c2 := (hk1.blk 3 rfl).cell 0
   have f2 := (hk1.blk 3 rfl).frozen 0
   have hk2 : Hp [] w (itoks gt ts :: pits bo ba be zPl (.int .i64 0) (.int .i64 0)) ((w4.setCell ⟨ba, 0, none⟩ (.int .i64 0)).setCell ⟨be, 0, none⟩ (.int .i64 0)) := hk1.set 3 rfl 0 (.int .i64 0)
   simp only [List.getElem?_cons_zero] at c1 c2
   go_upto_region 2 with fail
   clear hk hk1 c1 f1 c2 f2
   generalize (w4.setCell ⟨ba, 0, none⟩ (.int .i64 0)).setCell ⟨be, 0, none⟩ (.int .i64 0) = w5 at *
   have c2 := (hk2.blk 3 rfl).cell 0
   simp only [List.getElem?_cons_zero] at c2
   obtain ⟨gp, hgp⟩ : ∃ g, w5.heap.size = g := ⟨_, rfl⟩
   have hk3 := hk2.new 78 [.slice (some ⟨gt, 0, none⟩) ts.length cap, .int .i64 0]
   rw [hgp] at hk3
   have hk4 := hk3.reader hg htl hc
   clear hk2 hk3
   go_wp2_with fail
   clear c2
   generalize w5.alloc (.cells #[.slice (some ⟨gt, 0, none⟩) ts.length cap, .int .i64 0] 78) = w6 at *
   have HC := rdpolicy_any ⟨gp, gt, cap, ts⟩ ts w6 hk4.pr hsh
   refine HC.mono ?_
   clear HC
   unfold POut
   generalize hr : Pa.policyR ts = r at *
   obtain ⟨so, q⟩ := r
   cases so with
   | none =>
     rintro e w7 ⟨rfl, hH⟩
     have hS : Hp [] w (pits bo ba be zPl (.int .i64 0) (.int .i64 0) ++ [ipr ⟨gp, gt, cap, ts⟩ q]) w7 := (hk4.rd1 hH).perm (List.perm_append_comm (l₁ := [_]) (l₂ := [_, _, _]))
     have HV : Hid (zav (tl s) = (zPo, Pa.atT q, 4)) := hid (by rw [HPV.out]; unfold parseT; rw [hr])
     clear hk4 hH HPV HGD hr
     unfold panP
     go_wp2_with fail
     refine leaves_cons (f := 24) (args := #[ptr bo, ptr ba, ptr be]) (by simp) (by simp [go_sem]) ?_
     refine (catch_pan bo ba be (Pa.atT q) _ _ [] w7 hS).mono ?_
     rintro e u' w'' ⟨rfl, rfl, hT⟩
     obtain ⟨r0, r1, r2, r3, r4, r5, r6, r7⟩ := (hT.blk 0 rfl).get8
     have d2 := (hT.blk 1 rfl).cell 0
     have d3 := (hT.blk 2 rfl).cell 0
     simp only [List.getElem?_cons_zero] at d2 d3
     have HT := hid hT.below0
     clear hT hS
     simp [Leaves, settle, results, Tryz.results7, go_sem, d2, d3, r0, r1, r2, r3, r4, r5, r6, r7]
     exact ⟨PaOut.bad HV.out, HT.out⟩
   | some p =>
     rintro e w7 ⟨vu, vr, vn, P, hP, rfl, hH⟩
     have hB := (HGD.out p q rfl).1
     have hPB : PBd (poOf p) := pbd_of hB (by omega)
     have hS : Hp [] w (pits bo ba be zPl (.int .i64 0) (.int .i64 0) ++ (ipr ⟨gp, gt, cap, ts⟩ q :: iuses vu p.uses :: irefs vr p.reveal :: inodes vn P :: krows P)) w7 := (hk4.rd hH).perm (List.perm_append_comm (l₁ := ipr ⟨gp, gt, cap, ts⟩ q :: iuses vu p.uses :: irefs vr p.reveal :: inodes vn P :: krows P) (l₂ := pits bo ba be zPl (.int .i64 0) (.int .i64 0)))
     have HV : Hid (zav (tl s) = if checkP (poOf p) ≠ 0 then (zPo, 0, checkP (poOf p)) else (poOf p, 0, 0)) := hid (by rw [HPV.out]; unfold parseT; rw [hr])
     clear hk4 hH HPV HGD hr hB
     obtain ⟨UA, uc, rfl⟩ := zag (hS.row 4 rfl)
     obtain ⟨RA, rc, rfl⟩ := zag (hS.row 5 rfl)
     obtain ⟨NA, nc, rfl⟩ := zag (hS.row 6 rfl)
     have HPM := hid (fun (W : World) (oc : List Value) (a b : Value) (h : Hp [] w (pits bo ba be oc a b ++ (ipr ⟨gp, gt, cap, ts⟩ q :: iuses (.slice UA p.uses.length uc) p.uses :: irefs (.slice RA p.reveal.length rc) p.reveal :: inodes (.slice NA P.length nc) P :: krows P)) W) => polm_of (a := pits bo ba be oc a b ++ [ipr ⟨gp, gt, cap, ts⟩ q]) hP (by simpa using h))
     have hV := polV_of p P hP UA RA NA uc rc nc
     have hCk := fun (W : World) (h : PolM W (poOf p) ⟨UA, uc, RA, rc, NA, nc⟩) => zb5 (poOf p) ⟨UA, uc, RA, rc, NA, nc⟩ hPB W h
     rw [hV] at hCk
     have HCk := hid hCk
     have HVV := hid hV
     clear hCk hV hP hPB
     generalize poOf p = d at *
     generalize hL : (ipr ⟨gp, gt, cap, ts⟩ q :: iuses (.slice UA p.uses.length uc) p.uses :: irefs (.slice RA p.reveal.length rc) p.reveal :: inodes (.slice NA P.length nc) P :: krows P) = L at *
     clear hL hc hg h0 hsh htl
     generalize p.uses.length = un at *
     generalize p.reveal.length = rn at *
     generalize P.length = nn at *
     go_wp2_with (refine wpList_store_row rfl 29 (.tmp 2) (.tmp 24) rfl bo (plc p.name (.slice UA un uc) (.slice RA rn rc) (.slice NA nn nc) p.scope p.limit p.escrow).toArray rfl rfl 29 zPl.toArray (hS.blk 0 rfl) (by kernel_rfl) (by kernel_rfl) (by kernel_rfl) ?_
                  have hS2 := hS.rowAt 0 rfl (plc p.name (.slice UA un uc) (.slice RA rn rc) (.slice NA nn nc) p.scope p.limit p.escrow)
                  obtain ⟨c0, c1, c2, c3, c4, c5, c6, c7⟩ := (hS2.blk 0 rfl).get8)
     have hS3 : Hp [] w (pits bo ba be (plc p.name (.slice UA un uc) (.slice RA rn rc) (.slice NA nn nc) p.scope p.limit p.escrow) (.int .i64 0) (.int .i64 0) ++ L) (w7.setRow bo (plc p.name (.slice UA un uc) (.slice RA rn rc) (.slice NA nn nc) p.scope p.limit p.escrow).toArray) := hS2
     clear hS hS2 c0 c1 c2 c3 c4 c5 c6 c7
     generalize w7.setRow bo (plc p.name (.slice UA un uc) (.slice RA rn rc) (.slice NA nn nc) p.scope p.limit p.escrow).toArray = w8 at *
     have HC := HCk.out w8 (HPM.out _ _ _ _ hS3)
     generalize checkP d = E at *
     refine HC.mono ?_
     rintro e w9 ⟨rfl, hb9⟩
     have hS4 := hS3.next hb9
     clear hS3 hb9 HC HCk
     cases hE : (E != 0) with
     | true =>
       have HV2 : Hid (zav (tl s) = (zPo, 0, E)) := hid (by rw [HV.out, if_pos (by simpa using hE)])
       clear HV
       go_wp2_with (refine wpList_store_row rfl 29 (.tmp 2) (.tmp 29) rfl bo zPl.toArray rfl rfl 29 (plc p.name (.slice UA un uc) (.slice RA rn rc) (.slice NA nn nc) p.scope p.limit p.escrow).toArray (hS4.blk 0 rfl) (by kernel_rfl) (by kernel_rfl) (by kernel_rfl) ?_
                    have hS5 := hS4.rowAt 0 rfl zPl
                    have c4 := (hS5.blk 1 rfl).cell 0
                    have f4 := (hS5.blk 1 rfl).frozen 0
                    have hS6 := hS5.set 1 rfl 0 (.int .i64 0)
                    have c5 := (hS6.blk 2 rfl).cell 0
                    have f5 := (hS6.blk 2 rfl).frozen 0
                    have hS7 := hS6.set 2 rfl 0 (.int .i64 E)
                    simp only [List.getElem?_cons_zero] at c4 c5)
       refine leaves_cons (f := 24) (args := #[ptr bo, ptr ba, ptr be]) (by simp) (by simp [go_sem]) ?_
       refine (catch_idle bo ba be _).mono ?_
       rintro e u' w'' ⟨rfl, rfl, rfl⟩
       obtain ⟨r0, r1, r2, r3, r4, r5, r6, r7⟩ := (hS7.blk 0 rfl).get8
       have d2 := (hS7.blk 1 rfl).cell 0
       have d3 := (hS7.blk 2 rfl).cell 0
       have HT := hid hS7.below0
       clear hS4 hS5 hS6 c4 c5 f4 f5 hS7
       simp at d2 d3
       simp [Leaves, settle, results, Tryz.results7, go_sem, d2, d3, r0, r1, r2, r3, r4, r5, r6, r7]
       exact ⟨PaOut.bad HV2.out, HT.out⟩
     | false =>
       have HV2 : Hid (zav (tl s) = (d, 0, 0)) := hid (by rw [HV.out, if_neg (by simpa using hE)])
       clear HV
       obtain ⟨c0, c1, c2, c3, c6, c7, c8, c9⟩ := (hS4.blk 0 rfl).get8
       go_wp2_with (refine wpList_store_row rfl 29 (.tmp 2) (.tmp 31) rfl bo (plc p.name (.slice UA un uc) (.slice RA rn rc) (.slice NA nn nc) p.scope p.limit p.escrow).toArray rfl rfl 29 (plc p.name (.slice UA un uc) (.slice RA rn rc) (.slice NA nn nc) p.scope p.limit p.escrow).toArray (hS4.blk 0 rfl) (by kernel_rfl) (by kernel_rfl) (by kernel_rfl) ?_
                    have hS5 := hS4.rowAt 0 rfl (plc p.name (.slice UA un uc) (.slice RA rn rc) (.slice NA nn nc) p.scope p.limit p.escrow)
                    have c4 := (hS5.blk 1 rfl).cell 0
                    have f4 := (hS5.blk 1 rfl).frozen 0
                    have hS6 := hS5.set 1 rfl 0 (.int .i64 0)
                    have c5 := (hS6.blk 2 rfl).cell 0
                    have f5 := (hS6.blk 2 rfl).frozen 0
                    have hS7 := hS6.set 2 rfl 0 (.int .i64 0)
                    clear c0 c1 c2 c3 c6 c7 c8 c9
                    simp only [List.getElem?_cons_zero] at c4 c5)
       refine leaves_cons (f := 24) (args := #[ptr bo, ptr ba, ptr be]) (by simp) (by simp [go_sem]) ?_
       refine (catch_idle bo ba be _).mono ?_
       rintro e u' w'' ⟨rfl, rfl, rfl⟩
       obtain ⟨r0, r1, r2, r3, r4, r5, r6, r7⟩ := (hS7.blk 0 rfl).get8
       have d2 := (hS7.blk 1 rfl).cell 0
       have d3 := (hS7.blk 2 rfl).cell 0
       have HT := hid hS7.below0
       have HPP := hid (HPM.out _ _ _ _ hS7)
       clear hS4 hS5 hS6 c4 c5 f4 f5 hS7
       simp at d2 d3
       simp [Leaves, settle, results, Tryz.results7, go_sem, d2, d3, r0, r1, r2, r3, r4, r5, r6, r7]
       refine ⟨⟨⟨UA, uc, RA, rc, NA, nc⟩, ?_, ?_⟩, HT.out⟩
       ·rw [HV2.out, HVV.out]; rfl
       ·rw [HV2.out]; exact HPP.out
end Go.Proofs.YtekkapgknohadaaGreatDoor
