/- Contract: DrrAbsent. -/
import Derived.Test.YthkfdfkjenhjmaaW0
import Derived.Test.YthkfdfkjenhjmaaW3
import Derived.Test.YthkfdfkjenhjmaaA2
import Derived.StillTactics
namespace Go.Proofs.Ythkfdfkjenhjmaa
open Go.RowKit
set_option linter.unusedVariables false
set_option linter.unusedSimpArgs false

theorem Mod_still (a n : Int) (w : World) (hn : 1 ≤ n) (hn2 : n ≤ 9223372036854775807) {r : Int} (hr : a % n = r) :
    Calls Try.prog 33 #[.int .i64 a, .int .i64 n] w fun e w' => e = .returned (.int .i64 r) ∧ w' = w := by
  subst hr
  exact (Mod_any a n w hn hn2).mono fun _ _ h => ⟨h.1, h.2.symm⟩
/-- the wants of the other priorities -/
def oth (r : Nat) (L : List Wt) : List Wt := L.filter fun x => decide (x.p ≠ r)
theorem oth_snoc (r : Nat) (L : List Wt) (x : Wt) : oth r (L ++ [x]) = if x.p = r then oth r L else oth r L ++ [x] := by
  unfold oth
  rw [List.filter_append]
  by_cases h : x.p = r
  · rw [if_pos h]; simp [h]
  · rw [if_neg h]; simp [h]
theorem oth_bad {r : Nat} {L : List Wt} (h : L.any wtBad = false) : (oth r L).any wtBad = false := by
  rw [Bool.eq_false_iff]
  intro hb
  obtain ⟨x, hx, hxb⟩ := List.any_eq_true.1 hb
  have := List.any_eq_true.2 ⟨x, (List.mem_filter.1 hx).1, hxb⟩
  rw [h] at this
  cases this
theorem oth_ne {r : Nat} {L : List Wt} : ∀ w ∈ oth r L, w.p ≠ r := fun w hw => by have := (List.mem_filter.1 hw).2; simpa using this
theorem oth_len (r : Nat) (L : List Wt) : (oth r L).length ≤ L.length := List.length_filter_le _ _
/-- the changed state -/
theorem sim_set {d : Dr} (h : Ok d) {r : Nat} (hr : r < 3) (a b : Int) (ha : 1 ≤ a ∧ a ≤ 100) (hb : 0 ≤ b ∧ b ≤ 5000) : Sim r d ⟨d.W.set r a, d.q, d.D.set r b, d.t⟩ ∧ Ok ⟨d.W.set r a, d.q, d.D.set r b, d.t⟩ := by
  refine ⟨⟨⟨h.w3, by rw [List.length_set]; exact h.w3, fun p hp hne => ?_⟩, rfl, rfl, ⟨h.d3, by rw [List.length_set]; exact h.d3, fun p hp hne => ?_⟩⟩, ?_⟩
  · show _ = at0 (List.set _ _ _) p
    rw [at0_set (by rw [h.w3]; exact hr), if_neg (fun e => hne e.symm)]
  · show _ = at0 (List.set _ _ _) p
    rw [at0_set (by rw [h.d3]; exact hr), if_neg (fun e => hne e.symm)]
  · exact ⟨by show (List.set _ _ _).length = 3; rw [List.length_set]; exact h.w3, by show (List.set _ _ _).length = 3; rw [List.length_set]; exact h.d3, all_set h.w _ ha, h.q0, h.q1, all_set h.dd _ (by omega), h.t0, h.t1⟩

set_option maxRecDepth 100000 in
set_option maxHeartbeats 16000000 in
theorem DrrAbsent_t (a b c q : Int) (xs : List Int) (pr we : Int) (v : Value) (w : World) (hV : IntAt w v xs) :
    Calls Try.prog 10 #[.int .i64 a, .int .i64 b, .int .i64 c, .int .i64 q, v, .int .i64 pr, .int .i64 we] w (RetB true w) := by
  have HV := Lib.hid hV
  obtain ⟨Ax, cx, rfl, _, hcx, hRx⟩ := hV
  clear hRx
  go_enter Try.func10, Try.ntmps10
  go_wp2_with fail
  refine (DrrKnown_t _).mono ?_
  rintro e w1 ⟨rfl, hb1⟩
  go_wp2_with fail
  refine (made_any a b c q _).mono ?_
  rintro e w2 ⟨v2, d0, rfl, hok, hq3, hD0, ht0, hv2, hb2⟩
  have hB2 : Below w.heap.size w w2 := bnext hb1 hb2
  obtain ⟨A2, c2, B2, e2, rfl⟩ := hv2.form3' hok.w3 hok.d3
  have V2 := Lib.hid (hv2.alloc (.cells #[.slice A2 3 c2, .int .i64 d0.q, .slice B2 3 e2, .int .i64 d0.t] 24))
  have K2 := Lib.hid (Blk.new w2 24 #[.slice A2 3 c2, .int .i64 d0.q, .slice B2 3 e2, .int .i64 d0.t])
  have hB3 : Below w.heap.size w (w2.alloc (.cells #[.slice A2 3 c2, .int .i64 d0.q, .slice B2 3 e2, .int .i64 d0.t] 24)) := bal hB2 _
  have HOK := Lib.hid hok
  obtain ⟨g16, hg16⟩ : ∃ g, g = w2.heap.size := ⟨_, rfl⟩
  obtain ⟨pm, hpm⟩ : ∃ y, pr % 3 = y := ⟨_, rfl⟩
  obtain ⟨r, hr⟩ : ∃ r : Nat, pm = r := ⟨pm.toNat, by omega⟩
  have hr3 : r < 3 := by omega
  subst hr
  have HPM := Lib.hid hpm
  clear hv2 hok hD0 hb1 hb2 ht0 hq3 hpm
  go_wp2_with fail
  refine (Mod_any _ 3 _ (by decide) (by decide)).mono ?_
  rintro e w3' ⟨rfl, rfl⟩
  rw [HPM.out]
  rw [← hg16] at K2 ⊢
  have HG16 := Lib.hid hg16
  clear hg16
  go_wp2_with fail
  refine (wants_any xs _ _ (SlAt.below HV.out hB3)).mono ?_
  rintro e w3 ⟨vl, rfl, hl3, hb3⟩
  obtain ⟨L, hL⟩ : ∃ l, l = (xs.take 30).map mkW := ⟨_, rfl⟩
  rw [← hL] at hl3
  have hl30 : L.length ≤ 30 := by rw [hL, List.length_map, List.length_take]; omega
  have HLB : Hid (L.any wtBad = false) := Lib.hid (by rw [hL]; exact wants_ok xs)
  obtain ⟨Al, cl, rfl, _, hcl, hRl⟩ := id hl3
  have HRL := Lib.hid hRl
  have V3 := Lib.hid (V2.out.below hb3)
  have K3 := Lib.hid (K2.out.below hb3)
  have hBw3 := bnext hB3 hb3
  clear hL hl3 hRl hb3 V2 K2
  go_wp2_with fail
  go_loopw [18, 20] (fun s18 s20 wr => ∃ k : Nat, k ≤ L.length ∧ s20 = .int .i64 k ∧ wr.ownsRow w3.heap.size 46 2 s18 (oth r (L.take k)).length (fl Wt.cells (oth r (L.take k))) ∧ Below w3.heap.size w3 wr) (fun _ s20 _ => L.length - (intOf s20).toNat)
  case atStart => exact ⟨0, by omega, rfl, World.ownsRow_nil _ _ _ _, Below.refl _ _⟩
  case round =>
    obtain ⟨k, hk, rfl, hO, hB⟩ := hrel
    obtain ⟨wy, rfl⟩ : ∃ wy : World, wy = wr := ⟨_, rfl⟩
    obtain ⟨M, hM⟩ : ∃ M, M = oth r (L.take k) := ⟨_, rfl⟩
    rw [← hM] at hO
    have lM : M.length ≤ 30 := by rw [hM]; have := oth_len r (L.take k); rw [List.length_take] at this; omega
    have HM := Lib.hid hM
    have HO := Lib.hid hO
    have hBwy := bnext hBw3 hB
    obtain ⟨A1, c1, rfl, _⟩ := SlAt.own hO
    clear hM hO
    have hsz := hB.size
    by_cases hlt : k < L.length
    · have hki : (k : Int) < L.length := by omega
      have hki0 : (0 : Int) ≤ k := by omega
      obtain ⟨x, hx⟩ : ∃ x, L[k]? = some x := ⟨_, List.getElem?_eq_getElem hlt⟩
      obtain ⟨bl, ol, e2, hbl, dp0, ds0⟩ := reads_fl2 wt2 HRL.out rfl hx rfl
      cases e2
      have dp := (hB.cell (p := ⟨bl, ol + k * 2, none⟩) hbl).trans dp0
      have ds := (hB.cell (p := ⟨bl, ol + k * 2 + 1, none⟩) hbl).trans ds0
      have HSN := Lib.hid (oth_snoc r (L.take k) x)
      have HTS := Lib.hid (take_snoc hx)
      clear hx dp0 ds0
      by_cases hxp : x.p = r
      · have hne : (x.p != (r : Int)) = false := by simpa using hxp
        have HE : Hid (oth r (L.take (k + 1)) = M) := Lib.hid (by rw [HTS.out, HSN.out, if_pos hxp, HM.out])
        clear hxp
        go_wp2_with fail
        go_roundw
        case rel => exact ⟨k + 1, by omega, by go_num, by rw [HE.out]; exact HO.out, hB⟩
        case measure => simp [intOf]; omega
      · have hne : (x.p != (r : Int)) = true := by simpa using hxp
        have HE : Hid (oth r (L.take (k + 1)) = M ++ [x]) := Lib.hid (by rw [HTS.out, HSN.out, if_neg hxp, HM.out])
        have e0 := (Blk.new wy 46 #[.int .i64 x.p, .int .i64 x.s]).cell 0
        have e1 := (Blk.new wy 46 #[.int .i64 x.p, .int .i64 x.s]).cell 1
        clear hxp
        go_wp2_with (first
          | (at_builtin; refine wpList_app1 (f := Wt.cells) rfl _ _ 42 rfl w3.heap.size 46 2 16 infoWt rfl (by decide) Try.underlying42 wt2 wt_one wy w3 w3.heap.size x M _ (by rfl) (by rfl) HO.out hB (Nat.le_refl _) hsz (by omega) (by unfold maxLen; omega) ?_; intro A2 c2 w2 hown hB2 _; have HO2 := Lib.hid hown; clear hown))
        go_roundw
        case rel => exact ⟨k + 1, by omega, by go_num, by rw [HE.out]; exact HO2.out, hB2⟩
        case measure => simp [intOf]; omega
    · obtain rfl : k = L.length := by omega
      have hMa : M = oth r L := by rw [HM.out, List.take_of_length_le (Nat.le_refl _)]
      have HMA := Lib.hid hMa
      clear hMa
      have Ky := Lib.hid (K3.out.below hB)
      have Vy := Lib.hid (V3.out.below hB)
      have Ly : Hid (WtAt wy (.slice A1 M.length c1) M) := Lib.hid (SlAt.own HO.out)
      have HMB : Hid (M.any wtBad = false) := Lib.hid (by rw [HMA.out]; exact oth_bad HLB.out)
      have HMN : Hid (∀ w ∈ M, w.p ≠ r) := Lib.hid (by rw [HMA.out]; exact oth_ne)
      have HL6 : Hid (lt20 d0) := Lib.hid ⟨by rw [HOK.out.w3]; decide, by rw [HOK.out.d3]; decide⟩
      obtain ⟨x0, x1, x2, x3⟩ := Ky.out.c4
      clear K3 V3 HM HMA HLB HO
      go_wp2_with fail
      refine (own_any d0 _ _ Vy.out HL6.out).mono ?_
      rintro e w6 ⟨C1, m1, C2, m2, rfl, oW, oD, ap, hb6⟩
      obtain ⟨gw, rfl, rW⟩ := row3_of oW HOK.out.w3
      obtain ⟨gd, rfl, rD⟩ := row3_of oD HOK.out.d3
      have hn1 : gw ≠ gd := fun e => ap gw rfl (by rw [e]; rfl)
      rw [HOK.out.w3, HOK.out.d3]
      have hl16 := Ky.out.lt
      obtain ⟨W, q0, D, t0⟩ := d0
      dsimp only at rW rD ⊢
      obtain ⟨ma, hma⟩ : ∃ m, we % 100 = m := ⟨_, rfl⟩
      obtain ⟨mb, hmb⟩ : ∃ m, we % 5000 = m := ⟨_, rfl⟩
      have hma0 : 0 ≤ ma ∧ ma < 100 := by omega
      have hmb0 : 0 ≤ mb ∧ mb < 5000 := by omega
      have HMa := Lib.hid hma
      have HMb := Lib.hid hmb
      have hgw := rW.lt
      have hgd := rD.lt
      have W6 := Lib.hid (rW.alloc (.cells #[.slice (some ⟨gw, 0, none⟩) 3 m1, .int .i64 q0, .slice (some ⟨gd, 0, none⟩) 3 m2, .int .i64 t0] 24))
      have D6 := Lib.hid (rD.alloc (.cells #[.slice (some ⟨gw, 0, none⟩) 3 m1, .int .i64 q0, .slice (some ⟨gd, 0, none⟩) 3 m2, .int .i64 t0] 24))
      have hb6' := bal hb6 (.cells #[.slice (some ⟨gw, 0, none⟩) 3 m1, .int .i64 q0, .slice (some ⟨gd, 0, none⟩) 3 m2, .int .i64 t0] 24)
      have B6 := Lib.hid (Blk.new w6 24 #[.slice (some ⟨gw, 0, none⟩) 3 m1, .int .i64 q0, .slice (some ⟨gd, 0, none⟩) 3 m2, .int .i64 t0])
      have hz6 := hb6.size
      obtain ⟨g21, hg21⟩ : ∃ g, g = w6.heap.size := ⟨_, rfl⟩
      have hg21a : wy.heap.size ≤ g21 := by omega
      have hg21w : g21 ≠ gw := by omega
      have hg21d : g21 ≠ gd := by omega
      go_upto_region 14 with fail
      rw [← hg21] at B6 ⊢
      generalize w6.alloc (.cells #[.slice (some ⟨gw, 0, none⟩) 3 m1, .int .i64 q0, .slice (some ⟨gd, 0, none⟩) 3 m2, .int .i64 t0] 24) = w7 at W6 D6 hb6' B6 ⊢
      have HB7 := Lib.hid hb6'
      clear hma hmb rW rD oW oD ap hb6 x0 x1 x2 x3 hg21 hb6'
      have WM : IntKind.i64.wrap (1 + ma) = 1 + ma := IntWalk.i64_in _ (by omega)
      obtain ⟨y0, y1, y2, y3⟩ := B6.out.c4
      have hri : (r : Int) < 3 := by omega
      have hri0 : (0 : Int) ≤ r := by omega
      have eW := W6.out.cell r hr3
      have fW := W6.out.frozen r
      go_still_tail 7, (by kernel_rfl)
      still_call (Mod_still _ _ _ (by decide) (by decide) HMa.out)
      repeat still_step
      refine wpStill_nil ?_
      change wpList _ _ _ _ _ w7.drew
      have W8 := Lib.hid (W6.out.set r hr3 (1 + ma)).drew
      have D8 := Lib.hid (D6.out.far (p := ⟨gw, r, none⟩) (fun e => hn1 e.symm) (.int .i64 (1 + ma))).drew
      have B8 := Lib.hid (B6.out.far (p := ⟨gw, r, none⟩) hg21w (.int .i64 (1 + ma))).drew
      have hb8 : Below wy.heap.size wy (w7.setCell ⟨gw, r, none⟩ (.int .i64 (1 + ma))).drew := bdr (bset HB7.out hgw.1 _)
      clear eW fW
      have fW := W6.out.drew.frozen r
      have eW := W6.out.drew.cell r hr3
      go_upto_region 15 with fail
      generalize (w7.setCell ⟨gw, r, none⟩ (.int .i64 (1 + ma))).drew = w8 at W8 D8 B8 hb8 ⊢
      clear W6 D6 B6 HB7 eW fW y0 y1 y2 y3 WM
      obtain ⟨y0, y1, y2, y3⟩ := B8.out.c4
      have eD := D8.out.cell r hr3
      have fD := D8.out.frozen r
      have HB8 := Lib.hid hb8
      clear hb8
      go_still_tail 6, (by kernel_rfl)
      still_call (Mod_still _ _ _ (by decide) (by decide) HMb.out)
      repeat still_step
      refine wpStill_nil ?_
      change wpList _ _ _ _ _ w8.drew
      have W9 := Lib.hid (W8.out.far (p := ⟨gd, r, none⟩) hn1 (.int .i64 mb)).drew
      have D9 := Lib.hid (D8.out.set r hr3 mb).drew
      have B9 := Lib.hid (B8.out.far (p := ⟨gd, r, none⟩) hg21d (.int .i64 mb)).drew
      have hb9 : Below wy.heap.size wy (w8.setCell ⟨gd, r, none⟩ (.int .i64 mb)).drew := bdr (bset HB8.out hgd.1 _)
      clear eD fD
      have fD := D8.out.drew.frozen r
      have eD := D8.out.drew.cell r hr3
      go_upto_region 16 with fail
      generalize (w8.setCell ⟨gd, r, none⟩ (.int .i64 mb)).drew = w9 at W9 D9 B9 hb9 ⊢
      clear W8 D8 B8 HB8 eD fD y0 y1 y2 y3
      obtain ⟨hsim, hokx⟩ := sim_set HOK.out hr3 (1 + ma) mb (by omega) (by omega)
      dsimp only at hsim hokx
      obtain ⟨A, yd, zd, ho1, ho2, hyz⟩ := absent hr3 hsim HOK.out hokx HMB.out HMN.out
      have HY := Lib.hid hyz
      have HO1 := Lib.hid ho1
      have HO2 := Lib.hid ho2
      have V9 := Lib.hid (Vy.out.below hb9)
      have L9 := Lib.hid (SlAt.below Ly.out hb9)
      have K9 := Lib.hid (Ky.out.below hb9)
      have X9 : Hid (DrV w9 (.agg #[.slice (some ⟨gw, 0, none⟩) 3 m1, .int .i64 q0, .slice (some ⟨gd, 0, none⟩) 3 m2, .int .i64 t0]) ⟨W.set r (1 + ma), q0, D.set r mb, t0⟩) := Lib.hid ⟨_, _, rfl, W9.out.at, D9.out.at⟩
      have hBw9 := bnext hBwy hb9
      obtain ⟨x0, x1, x2, x3⟩ := K9.out.c4
      have HTT := Lib.hid hyz.t
      clear hsim hokx ho1 ho2 hyz hb9 Vy Ly Ky W9 D9
      go_wp2_with fail
      refine (Order_to HO1.out (by decide) (by decide) (by omega) _ _ _ V9.out L9.out).mono ?_
      rintro e wa ⟨va, ya, rfl, hva, hya, hba⟩
      obtain ⟨A5, c5, B5, o5, rfl⟩ := hya.form3 HY.out.w.1 HY.out.dd.1
      have hba' := bal hba (.cells #[.slice A5 3 c5, .int .i64 yd.q, .slice B5 3 o5, .int .i64 yd.t] 24)
      have Xa := Lib.hid (X9.out.below hba')
      have La := Lib.hid (SlAt.below L9.out hba')
      have Ba := Lib.hid (B9.out.below hba')
      have Ca := Lib.hid (Blk.new wa 24 #[.slice A5 3 c5, .int .i64 yd.q, .slice B5 3 o5, .int .i64 yd.t])
      have Na := Lib.hid (SlAt.alloc hva (.cells #[.slice A5 3 c5, .int .i64 yd.q, .slice B5 3 o5, .int .i64 yd.t] 24))
      have Ya := Lib.hid (hya.alloc (.cells #[.slice A5 3 c5, .int .i64 yd.q, .slice B5 3 o5, .int .i64 yd.t] 24))
      have hBwa := bnext hBw9 hba'
      have l21 := B9.out.lt
      have hza := hba.size
      obtain ⟨q1, q2, q3, q4⟩ := (B9.out.below hba).c4
      have hl21 : g21 < wa.heap.size := by omega
      clear x0 x1 x2 x3 hva hya hba hba' V9 L9 K9 X9 B9
      obtain ⟨y0, y1, y2, y3⟩ := Ba.out.c4
      obtain ⟨g23, hg23⟩ : ∃ g, g = wa.heap.size := ⟨_, rfl⟩
      have HG23 := Lib.hid hg23
      have n21 : ¬ g21 = wa.heap.size := by omega
      clear hg23
      go_wp2_with fail
      refine (Order_to HO2.out (by decide) (by decide) (by omega) _ _ _ Xa.out La.out).mono ?_
      rintro e wb ⟨vb, zb, rfl, hvb, hzb, hbb⟩
      obtain ⟨A6, c6, B6', o6, rfl⟩ := hzb.form3 HY.out.w.2.1 HY.out.dd.2.1
      have hbb' := bal hbb (.cells #[.slice A6 3 c6, .int .i64 zd.q, .slice B6' 3 o6, .int .i64 zd.t] 24)
      have Cb := Lib.hid (Ca.out.below hbb')
      have Db := Lib.hid (Blk.new wb 24 #[.slice A6 3 c6, .int .i64 zd.q, .slice B6' 3 o6, .int .i64 zd.t])
      have Nb := Lib.hid (SlAt.below Na.out hbb')
      have Mb := Lib.hid (SlAt.alloc hvb (.cells #[.slice A6 3 c6, .int .i64 zd.q, .slice B6' 3 o6, .int .i64 zd.t] 24))
      have Yb := Lib.hid (Ya.out.below hbb')
      have Zb := Lib.hid (hzb.alloc (.cells #[.slice A6 3 c6, .int .i64 zd.q, .slice B6' 3 o6, .int .i64 zd.t] 24))
      have hBwb := bnext hBwa hbb'
      rw [← HG23.out] at Cb
      clear y0 y1 y2 y3 q1 q2 q3 q4 hvb hzb hbb hbb' Xa La Ba Ca Na Ya
      obtain ⟨P5, p5, rfl, _⟩ := id Nb.out
      obtain ⟨P6, p6, rfl, _⟩ := id Mb.out
      obtain ⟨g26, hg26⟩ : ∃ g, g = wb.heap.size := ⟨_, rfl⟩
      rw [← hg26] at Db
      have HG26 := Lib.hid hg26
      clear hg26
      go_wp2_with fail
      refine (SameInts_eq (nums A) _ _ _ Nb.out Mb.out).mono ?_
      rintro e wc ⟨rfl, hbc⟩
      rw [← HG23.out, ← HG26.out]
      have Cc := Lib.hid (Cb.out.below hbc)
      have Dc := Lib.hid (Db.out.below hbc)
      have Yc := Lib.hid (Yb.out.below hbc)
      have Zc := Lib.hid (Zb.out.below hbc)
      have hBwc := bnext hBwb hbc
      obtain ⟨y0, y1, y2, y3⟩ := Cc.out.c4
      obtain ⟨z0, z1, z2, z3⟩ := Dc.out.c4
      clear Cb Db Nb Mb Yb Zb hbc
      go_wp2_with fail
      clear y0 y1 y2 y3 z0 z1 z2 z3
      go_loopw [28] (fun s wr => ∃ j : Nat, j ≤ 3 ∧ s = .int .i64 j ∧ Below wc.heap.size wc wr) (fun s _ => 3 - (intOf s).toNat)
      case atStart => exact ⟨0, by omega, rfl, Below.refl _ _⟩
      case round =>
        obtain ⟨j, hj, rfl, hBj⟩ := hrel
        obtain ⟨wj, rfl⟩ : ∃ wj : World, wj = wr := ⟨_, rfl⟩
        obtain ⟨y0, y1, y2, y3⟩ := (Cc.out.below hBj).c4
        obtain ⟨z0, z1, z2, z3⟩ := (Dc.out.below hBj).c4
        have HBJ := Lib.hid hBj
        by_cases hj3 : j < 3
        · have hji : (j : Int) < 3 := by omega
          have hji0 : (0 : Int) ≤ j := by omega
          by_cases hjr : j = r
          · have hne : ((j : Int) != (r : Int)) = false := by simp; omega
            go_upto_region 23 with fail
            go_quiet (fail)
            go_wp2_with fail
            go_roundw
            case rel => exact ⟨j + 1, by omega, by go_num, below_drewN HBJ.out _⟩
            case measure => simp [intOf]; omega
          · have hne : ((j : Int) != (r : Int)) = true := by simp; omega
            have hyD : IntAt wj (.slice B5 3 o5) yd.D := by
              obtain ⟨vW, vD, e, _, h2⟩ := Yc.out.below hBj
              cases e; exact h2
            have hzD : IntAt wj (.slice B6' 3 o6) zd.D := by
              obtain ⟨vW, vD, e, _, h2⟩ := Zc.out.below hBj
              cases e; exact h2
            have hat := HY.out.dd.2.2 j hj3 hjr
            have h1 := HY.out.dd.1
            have h2 := HY.out.dd.2.1
            obtain ⟨b1, o1, e1, hb1, d1⟩ := reads_at (by obtain ⟨_, _, e, _, _, h⟩ := hyD; simp only [Value.slice.injEq] at e; obtain ⟨rfl, _, _⟩ := e; exact h) (ints_get (at0_get (l := yd.D) (i := j) (by omega)))
            cases e1
            obtain ⟨b2, o2, e2, hb2, d2⟩ := reads_at (by obtain ⟨_, _, e, _, _, h⟩ := hzD; simp only [Value.slice.injEq] at e; obtain ⟨rfl, _, _⟩ := e; exact h) (ints_get (at0_get (l := zd.D) (i := j) (by omega)))
            cases e2
            rw [hat] at d1
            have hxx : (at0 zd.D j != at0 zd.D j) = false := by simp
            clear hat h1 h2 hyD hzD
            go_upto_region 23 with fail
            go_quiet (fail)
            go_wp2_with fail
            go_roundw
            case rel => exact ⟨j + 1, by omega, by go_num, below_drewN HBJ.out _⟩
            case measure => simp [intOf]; omega
        · obtain rfl : j = 3 := by omega
          have hBwj := bnext hBwc hBj
          have htt' : (yd.t == zd.t) = true := by simpa using HTT.out
          go_wp2_with fail
          go_ret
          exact ⟨rfl, hBwj⟩
end Go.Proofs.Ythkfdfkjenhjmaa
