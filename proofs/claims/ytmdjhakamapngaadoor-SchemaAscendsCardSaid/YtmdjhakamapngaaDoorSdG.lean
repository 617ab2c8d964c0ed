/-
  dominolaw39.SchemaAscends.
-/
import Derived.Test.YtmdjhakamapngaaDoorSdD
import Derived.Test.YtmdjhakamapngaaDoorScP
namespace Go.Proofs.YtmdjhakamapngaaDoor
open Go.RowKit Go.Shelf
set_option linter.unusedVariables false

def sN : ByteArray := ⟨#[115]⟩
def nF (lo hi : Int) : Fd := ⟨⟨#[110]⟩, 0, lo, hi, []⟩
theorem asc_ok {lo hi : Int} (h1 : -2147483648 ≤ lo) (h2 : hi ≤ 2147483647) (h3 : lo ≤ hi) : schemaE sN [nF lo hi] = 0 := by
  have hn1 : nameP sN = true := by decide +kernel
  have hn2 : nameP ⟨#[110]⟩ = true := by decide +kernel
  have hf : fieldE (nF lo hi) = 0 := by
    unfold fieldE nF numE
    rw [if_pos rfl, if_neg (by simp), if_neg (by simp only; omega)]
  unfold schemaE
  rw [hn1, if_neg (by simp), if_neg (by simp), fieldsE, if_neg (by show ¬ nameP ⟨#[110]⟩ = false; rw [hn2]; simp), if_neg (by simp [memS]), if_neg (by rw [hf]; simp)]
  rfl
theorem asc_name {lo hi : Int} (h1 : -2147483648 ≤ lo) (h2 : hi ≤ 2147483647) (h3 : lo ≤ hi) (v : Int) (hv : lo ≤ v) : nameV sN [nF lo hi] 0 v = if hi < v then (ByteArray.empty, 2) else (bs (Lib.itoa v), 0) := by
  unfold nameV
  rw [if_neg (by rw [asc_ok h1 h2 h3]; simp), if_pos (by simp)]
  show fnameV (nF lo hi) v = _
  unfold fnameV nF
  simp only
  rw [if_neg (by decide)]
  by_cases h : hi < v
  · rw [if_pos (.inr h), if_pos h]
  · rw [if_neg (by omega), if_neg h]
theorem dec_i32 {v : Int} (h1 : -2147483648 ≤ v) (h2 : v ≤ 2147483647) : decOk (Lib.itoa v) = true ∧ decV (Lib.itoa v) = v := by
  refine dec_itoa v ?_
  rw [trim_neg]
  rcases itoa_form v with ⟨u, rfl, hu, e⟩ | ⟨u, rfl, e⟩
  · rw [e]
    have hm : magD (45 :: Lib.decDigits u) = Lib.decDigits u := by unfold magD; rw [if_pos (by simp [isNeg])]; rfl
    rw [hm]
    exact dec_lenk 9 u (by omega)
  · have : (magD (Lib.itoa (u : Int))).length ≤ (Lib.itoa (u : Int)).length := by
      unfold magD; split
      · rw [List.length_tail]; omega
      · exact Nat.le_refl _
    rw [e] at this
    have h9 := dec_lenk 9 u (by omega)
    rw [e]; omega
theorem asc_enc {lo hi : Int} (h1 : -2147483648 ≤ lo) (h2 : hi ≤ 2147483647) (h3 : lo ≤ hi) (a : Nat) (ha : lo + (a : Int) ≤ hi) : encP sN [nF lo hi] [bs (Lib.itoa (lo + (a : Int)))] = ([bs (Dm.str a)], 0) := by
  obtain ⟨k1, k2⟩ := dec_i32 (v := lo + (a : Int)) (by omega) (by omega)
  have hf : fvalV (nF lo hi) (bs (Lib.itoa (lo + (a : Int)))) = (lo + (a : Int), 0) := by
    unfold fvalV nF decN
    simp only
    rw [if_neg (by decide), tl_bs, k1, if_neg (by simp), if_pos rfl, k2, if_neg (by omega)]
  unfold encP
  rw [if_neg (by rw [asc_ok h1 h2 h3]; simp), if_neg (by simp), encL, hf]
  simp only
  rw [if_neg (by simp), show lo + (a : Int) - (nF lo hi).min = (a : Int) by show lo + (a : Int) - lo = _; omega]
  rfl
theorem asc_bd (lo hi : Int) : SBd sN [nF lo hi] := ⟨by decide, by show 1 ≤ 1000000; decide, fun f hf => by
  rw [List.mem_singleton.1 hf]
  exact ⟨by show (⟨#[110]⟩ : ByteArray).size ≤ _; decide, by show ([] : List ByteArray).length ≤ _; decide, fun s hs => by cases hs⟩⟩
set_option maxRecDepth 20000 in
set_option maxHeartbeats 16000000 in
theorem sascends_walk (lo hi a b : Int) (w : World) (h1 : -2147483648 ≤ lo ∧ lo ≤ 2147483647) (h2 : -2147483648 ≤ hi ∧ hi ≤ 2147483647) (ha : 0 ≤ a ∧ a ≤ 65535) (hb : 0 ≤ b ∧ b ≤ 65535) (hG : Glob w) :
    Calls Tryd.prog 5 #[.agg #[.int .i32 lo, .int .i32 hi], .int .u16 a, .int .u16 b] w fun e w' => e = .returned (.bool true) ∧ Below w.heap.size w w' := by
  obtain ⟨a, rfl⟩ : ∃ n : Nat, a = (n : Int) := ⟨a.toNat, by omega⟩
  obtain ⟨b, rfl⟩ : ∃ n : Nat, b = (n : Int) := ⟨b.toNat, by omega⟩
  have HG := Lib.hid hG
  clear hG
  have hk := (Hp.start w).new 45 [.int .i32 lo, .int .i32 hi]
  obtain ⟨g1, hg1⟩ : ∃ g, w.heap.size = g := ⟨_, rfl⟩
  rw [hg1] at hk
  have wl : IntKind.i64.wrap lo = lo := IntWalk.i64_in _ (by omega)
  have wh : IntKind.i64.wrap hi = hi := IntWalk.i64_in _ (by omega)
  have wa : IntKind.i64.wrap (a : Int) = (a : Int) := IntWalk.i64_in _ (by omega)
  have wb : IntKind.i64.wrap (b : Int) = (b : Int) := IntWalk.i64_in _ (by omega)
  have ua : IntKind.u64.wrap (a : Int) = (a : Int) := IntWalk.u64_in _ (by omega)
  have ub : IntKind.u64.wrap (b : Int) = (b : Int) := IntWalk.u64_in _ (by omega)
  have wla : IntKind.i64.wrap (lo + (a : Int)) = lo + (a : Int) := IntWalk.i64_in _ (by omega)
  have wlb : IntKind.i64.wrap (lo + (b : Int)) = lo + (b : Int) := IntWalk.i64_in _ (by omega)
  go_enter Tryd.func5, Tryd.ntmps5
  go_upto_region 1 with fail
  try simp only [hg1]
  have hk : Hp [] w [iblk g1 45 [.int .i32 lo, .int .i32 hi]] (w.alloc (.cells #[.int .i32 lo, .int .i32 hi] 45)) := hk
  generalize w.alloc (.cells #[.int .i32 lo, .int .i32 hi] 45) = W at *
  obtain ⟨c0, c1⟩ := (hk.blk 0 rfl).get2
  go_quiet (fail)
  have hk := hk.drewN nq
  clear c0 c1
  generalize W.drewN nq = W1 at *
  by_cases hlh : hi < lo
  · go_wp2_with fail
    refine (awake_any W1 (HG.out.up hk.below0)).mono ?_
    rintro e w2 ⟨rfl, hb2⟩
    go_wp2_with fail
    go_ret
    exact ⟨rfl, (hk.next hb2).below0⟩
  · have hle : lo ≤ hi := by omega
    have HBd := Lib.hid (asc_bd lo hi)
    have HNA := asc_name h1.1 h2.2 hle (lo + (a : Int)) (by omega)
    have HNB := asc_name h1.1 h2.2 hle (lo + (b : Int)) (by omega)
    have HEA : Hid (lo + (a : Int) ≤ hi → encP sN [nF lo hi] [bs (Lib.itoa (lo + (a : Int)))] = ([bs (Dm.str a)], 0)) := Lib.hid (asc_enc h1.1 h2.2 hle a)
    have HEB : Hid (lo + (b : Int) ≤ hi → encP sN [nF lo hi] [bs (Lib.itoa (lo + (b : Int)))] = ([bs (Dm.str b)], 0)) := Lib.hid (asc_enc h1.1 h2.2 hle b)
    have HNA := Lib.hid HNA
    have HNB := Lib.hid HNB
    clear hle
    have hk2 := (hk.new 49 [.string ⟨#[110]⟩, .int .i64 0, .int .i64 lo, .int .i64 hi, .slice none 0 0]).new 24 zS
    have hsz : (W1.alloc (.cells [.string ⟨#[110]⟩, .int .i64 0, .int .i64 lo, .int .i64 hi, .slice none 0 0].toArray 49)).heap.size = W1.heap.size + 1 := by simp
    rw [hsz] at hk2
    obtain ⟨g2, hg2⟩ : ∃ g, W1.heap.size = g := ⟨_, rfl⟩
    rw [hg2] at hk2 hsz
    go_upto_region 4 with fail
    go_wp2_with (refine wpList_store_row rfl 24 (.tmp 9) (.tmp 32) rfl (g2 + 1) ([.string ⟨#[115]⟩, .slice (some ⟨g2, 0, none⟩) 1 1] : List Value).toArray (by first | rfl | (subst hg2; rfl)) (by first | rfl | (subst hg2; simp)) 24 zS.toArray (by first | exact hk2.blk 0 rfl | (subst hg2; exact hk2.blk 0 rfl)) (by kernel_rfl) (by kernel_rfl) (by kernel_rfl) ?_
                 generalize hWW : World.setRow _ _ _ = WW
                 have hk3 : Hp [] w [iblk (g2 + 1) 24 [.string sN, .slice (some ⟨g2, 0, none⟩) 1 1], iblk g2 49 [.string ⟨#[110]⟩, .int .i64 0, .int .i64 lo, .int .i64 hi, .slice none 0 0], iblk g1 45 [.int .i32 lo, .int .i32 hi]] WW := by rw [← hWW]; exact hk2.rowAt 0 rfl _
                 clear hWW hk2
                 obtain ⟨c0, c1⟩ := (hk3.blk 0 rfl).get2)
    have hF : Flds WW (some ⟨g2, 0, none⟩) [nF lo hi] := flds_row (P := [(nF lo hi, (none, 0))]) (n := 1) (c := 1) (blk_row (hk3.blk 1 rfl) 5 1 rfl (by decide)) (fun x hx => by
      rw [List.mem_singleton.1 hx]; exact World.ownsRow_nil _ _ _ _)
    have HF := Lib.hid hF
    clear hF
    have HNm := Lib.hid (fun v W' hG hS => name_any' sN (some ⟨g2, 0, none⟩) 1 [nF lo hi] HBd.out 0 v W' hG hS)
    have HEn := Lib.hid (fun (u : ByteArray) (hu : u.size ≤ 1000000) (gg : Nat) W' hG hS hV => encode_any sN (some ⟨g2, 0, none⟩) 1 [nF lo hi] HBd.out (some ⟨gg, 0, none⟩) 1 [u] (by show 1 ≤ 1000000; decide) (fun t ht => by rw [List.mem_singleton.1 ht]; exact hu) W' hG hS hV)
    refine (HNm.out (lo + (a : Int)) WW (HG.out.up hk3.below0) HF.out).mono ?_
    rintro e w4 ⟨rfl, hb4⟩
    have hk4 := hk3.next hb4
    have HF4 := Lib.hid (HF.out.up hb4)
    clear hk3 hb4 c0 c1 HF
    obtain ⟨c0, c1⟩ := (hk4.blk 0 rfl).get2
    generalize nameV sN [nF lo hi] 0 (lo + (a : Int)) = na at *
    obtain ⟨u, ea⟩ := na
    go_upto_region 6 with fail
    go_wp2_with fail
    refine (HNm.out (lo + (b : Int)) w4 (HG.out.up hk4.below0) HF4.out).mono ?_
    rintro e w5 ⟨rfl, hb5⟩
    have hk5 := hk4.next hb5
    have HF5 := Lib.hid (HF4.out.up hb5)
    clear hk4 hb5 c0 c1 HF4
    obtain ⟨c0, c1⟩ := (hk5.blk 0 rfl).get2
    generalize nameV sN [nF lo hi] 0 (lo + (b : Int)) = nb at *
    obtain ⟨v, eb⟩ := nb
    have hda : (hi < lo + (a : Int) ∧ ea = 2) ∨ (¬ hi < lo + (a : Int) ∧ ea = 0 ∧ u = bs (Lib.itoa (lo + (a : Int)))) := by
      by_cases h : hi < lo + (a : Int)
      · have h2 := HNA.out
        rw [if_pos h] at h2
        injection h2 with h3 h4
        exact .inl ⟨h, h4⟩
      · have h2 := HNA.out
        rw [if_neg h] at h2
        injection h2 with h3 h4
        exact .inr ⟨h, h4, h3⟩
    have hdb : (hi < lo + (b : Int) ∧ eb = 2) ∨ (¬ hi < lo + (b : Int) ∧ eb = 0 ∧ v = bs (Lib.itoa (lo + (b : Int)))) := by
      by_cases h : hi < lo + (b : Int)
      · have h2 := HNB.out
        rw [if_pos h] at h2
        injection h2 with h3 h4
        exact .inl ⟨h, h4⟩
      · have h2 := HNB.out
        rw [if_neg h] at h2
        injection h2 with h3 h4
        exact .inr ⟨h, h4, h3⟩
    clear HNA HNB HNm
    go_upto_region 7 with fail
    rcases hda with ⟨ha2, rfl⟩ | ⟨ha2, rfl, hu⟩
    · go_wp2_with fail
      refine (awake_any w5 (HG.out.up hk5.below0)).mono ?_
      rintro e w6 ⟨rfl, hb6⟩
      go_wp2_with fail
      go_ret
      exact ⟨rfl, (hk5.next hb6).below0⟩
    · rcases hdb with ⟨hb2, rfl⟩ | ⟨hb2, rfl, hv⟩
      · go_wp2_with fail
        refine (awake_any w5 (HG.out.up hk5.below0)).mono ?_
        rintro e w6 ⟨rfl, hb6⟩
        go_wp2_with fail
        go_ret
        exact ⟨rfl, (hk5.next hb6).below0⟩
      · have HEA2 := Lib.hid (HEA.out (by omega))
        have HEB2 := Lib.hid (HEB.out (by omega))
        rw [← hu] at HEA2
        rw [← hv] at HEB2
        have hus : u.size ≤ 1000000 := by
          rw [hu, size_bs]
          rcases itoa_form (lo + (a : Int)) with ⟨x, hx, hx1, e⟩ | ⟨x, hx, e⟩
          · rw [e, List.length_cons]; have := dec_lenk 9 x (by omega); omega
          · rw [e]; have := dec_lenk 9 x (by omega); omega
        have hvs : v.size ≤ 1000000 := by
          rw [hv, size_bs]
          rcases itoa_form (lo + (b : Int)) with ⟨x, hx, hx1, e⟩ | ⟨x, hx, e⟩
          · rw [e, List.length_cons]; have := dec_lenk 9 x (by omega); omega
          · rw [e]; have := dec_lenk 9 x (by omega); omega
        have HUS := Lib.hid hus
        have HVS := Lib.hid hvs
        clear hus hvs hu hv HEA HEB
        have hk6 := hk5.new 9 [.string u]
        have hbs6 := (Below.refl w5.heap.size w5).alloc (Nat.le_refl _) (.cells [.string u].toArray 9)
        have hV := natS_row (l := [u]) (c := 1) (n := 1) (blk_row (hk6.blk 0 rfl) 1 1 rfl (by decide))
        have hE := HEn.out u HUS.out w5.heap.size _ (HG.out.up hk6.below0) (HF5.out.up hbs6) hV
        rw [HEA2.out] at hE
        have HE := Lib.hid hE
        have HF6 := Lib.hid (HF5.out.up hbs6)
        clear hE hV hk5 hbs6 HF5 HEA2
        go_upto_region 9 with fail
        go_wp2_with fail
        refine HE.out.mono ?_
        rintro e w7 ⟨⟨NA, nca, rfl, hNa⟩, hb7⟩
        have hk7 := hk6.next hb7
        have HF7 := Lib.hid (HF6.out.up hb7)
        have HNa := Lib.hid hNa
        clear hk6 hb7 HF6 HE hNa c0 c1
        obtain ⟨c0, c1⟩ := (hk7.blk 1 rfl).get2
        have hk8 := hk7.new 9 [.string v]
        have hbs8 := (Below.refl w7.heap.size w7).alloc (Nat.le_refl _) (.cells [.string v].toArray 9)
        have hV := natS_row (l := [v]) (c := 1) (n := 1) (blk_row (hk8.blk 0 rfl) 1 1 rfl (by decide))
        have hE := HEn.out v HVS.out w7.heap.size _ (HG.out.up hk8.below0) (HF7.out.up hbs8) hV
        rw [HEB2.out] at hE
        have HE := Lib.hid hE
        have HNa8 := Lib.hid (HNa.out.up hbs8)
        clear hE hV hk7 hbs8 HF7 HNa HEB2 HEn
        go_upto_region 10 with fail
        go_wp2_with fail
        refine HE.out.mono ?_
        rintro e w9 ⟨⟨NB, ncb, rfl, hNb⟩, hb9⟩
        have hk9 := hk8.next hb9
        have HNa9 := Lib.hid (HNa8.out.up hb9)
        have HNb := Lib.hid hNb
        clear hk8 hb9 HNa8 HE hNb c0 c1
        go_upto_region 11 with fail
        go_wp2_with fail
        refine (awake_any w9 (HG.out.up hk9.below0)).mono ?_
        rintro e w10 ⟨rfl, hb10⟩
        have hk10 := hk9.next hb10
        have HNa10 := Lib.hid (HNa9.out.up hb10)
        have HNb10 := Lib.hid (HNb.out.up hb10)
        clear hk9 hb10 HNa9 HNb
        go_wp2_with fail
        refine (ref_of_at (a : Int) a w10 rfl (by omega)).mono ?_
        rintro e w11 ⟨rfl, hb11⟩
        have hk11 := (hk10.next hb11).new 54 [Sv (Dm.str a)]
        have hbs11 := (Below.refl w11.heap.size w11).alloc (Nat.le_refl _) (.cells [Sv (Dm.str a)].toArray 54)
        have hS1 := sameNats_true NA (some ⟨w11.heap.size, 0, none⟩) nca 1 [bs (Dm.str a)] (by show 1 ≤ 1000000; decide) _ ((HNa10.out.up hb11).up hbs11) (natS_row (n := 1) (c := 1) (blk_row (Blk.new w11 54 [Sv (Dm.str a)]) 1 1 rfl (by decide)))
        have HS1 := Lib.hid hS1
        have HNb11 := Lib.hid ((HNb10.out.up hb11).up hbs11)
        clear hk10 hb11 hbs11 hS1 HNa10 HNb10
        go_wp2_with fail
        refine HS1.out.mono ?_
        rintro e w12 ⟨rfl, hb12⟩
        have hk12 := hk11.next hb12
        have HNb12 := Lib.hid (HNb11.out.up hb12)
        clear hk11 hb12 HS1 HNb11
        go_wp2_with fail
        refine (ref_of_at (b : Int) b w12 rfl (by omega)).mono ?_
        rintro e w13 ⟨rfl, hb13⟩
        have hk13 := (hk12.next hb13).new 54 [Sv (Dm.str b)]
        have hbs13 := (Below.refl w13.heap.size w13).alloc (Nat.le_refl _) (.cells [Sv (Dm.str b)].toArray 54)
        have hS2 := sameNats_true NB (some ⟨w13.heap.size, 0, none⟩) ncb 1 [bs (Dm.str b)] (by show 1 ≤ 1000000; decide) _ ((HNb12.out.up hb13).up hbs13) (natS_row (n := 1) (c := 1) (blk_row (Blk.new w13 54 [Sv (Dm.str b)]) 1 1 rfl (by decide)))
        have HS2 := Lib.hid hS2
        clear hk12 hb13 hbs13 hS2 HNb12
        go_wp2_with fail
        refine HS2.out.mono ?_
        rintro e w14 ⟨rfl, hb14⟩
        have hk14 := hk13.next hb14
        clear hk13 hb14 HS2
        go_wp2_with fail
        go_ret
        exact ⟨rfl, hk14.below0⟩
end Go.Proofs.YtmdjhakamapngaaDoor
