/- Contract: DrrGives. -/
import Derived.Test.YthkfdfkjenhjmaaW0
namespace Go.Proofs.Ythkfdfkjenhjmaa
open Go.RowKit
set_option linter.unusedVariables false
set_option linter.unusedSimpArgs false

set_option maxRecDepth 100000 in
set_option maxHeartbeats 16000000 in
theorem DrrGives_t (a b c q : Int) (xs : List Int) (v : Value) (w : World) (hV : IntAt w v xs) :
    Calls Try.prog 7 #[.int .i64 a, .int .i64 b, .int .i64 c, .int .i64 q, v] w (RetB true w) := by
  obtain ⟨A, cx, rfl, _, hcx, hRx⟩ := hV
  unfold maxLen at hcx
  have HRX := Lib.hid hRx
  clear hRx
  go_enter Try.func7, Try.ntmps7
  go_wp2_with fail
  refine (DrrKnown_t _).mono ?_
  rintro e w1 ⟨rfl, hb1⟩
  go_wp2_with fail
  refine (made_any a b c q _).mono ?_
  rintro e w2 ⟨v2, d0, rfl, hok, hq3, hD0, ht0, hv2, hb2⟩
  have hB2 : Below w.heap.size w w2 := bnext hb1 hb2
  obtain ⟨A2, c2, B2, e2, rfl⟩ := hv2.form3' hok.w3 hok.d3
  have hD3 : d0.D.length = 3 := hok.d3
  have k2 := Blk.new w2 24 #[.slice A2 3 c2, .int .i64 d0.q, .slice B2 3 e2, .int .i64 d0.t]
  have hI2 : IntAt w2 (.slice B2 3 e2) d0.D := by
    obtain ⟨vW, vD, e, h1, h2⟩ := hv2
    cases e
    exact h2
  have V2 := Lib.hid hv2
  have K2 := Lib.hid k2
  have I2 := Lib.hid hI2
  have HOK := Lib.hid hok
  have HD0 := Lib.hid hD0
  have HD3 := Lib.hid hD3
  obtain ⟨x0, x1, x2, x3⟩ := k2.c4
  clear hv2 k2 hI2 hok hD0 hD3 hb1 hb2 ht0
  go_wp2_with fail
  refine (OwnInts_any d0.D _ _ (SlAt.alloc I2.out _) (by rw [HD3.out]; decide)).mono ?_
  rintro e w3 ⟨A3, c3, rfl, o3, hb3⟩
  rw [HD3.out] at o3 ⊢
  have o3' : OwnI w3 (w2.heap.size + 1) (.slice A3 d0.D.length c3) d0.D := by rw [HD3.out]; simpa using o3
  obtain ⟨gG, rfl, rG⟩ := row3_of o3' HD3.out
  have hs2 := rG.lt
  have RS := Lib.hid (row3_lit w3 (base := w2.heap.size + 1) (by omega) 0 0 0)
  have K3 := Lib.hid ((K2.out.below hb3).alloc (.cells #[.int .i64 0, .int .i64 0, .int .i64 0] 3))
  have hB3 : Below w2.heap.size w2 (w3.alloc (.cells #[.int .i64 0, .int .i64 0, .int .i64 0] 3)) := bal (bnext (bal (Below.refl _ _) _) hb3) _
  have hBw3 : Below w.heap.size w (w3.alloc (.cells #[.int .i64 0, .int .i64 0, .int .i64 0] 3)) := bnext hB2 hB3
  obtain ⟨bA, oA, cA, bB, oB, cB, e1, f3⟩ := DF.of (S := fun k => k = gG ∨ k = w3.heap.size ∨ k = w2.heap.size) V2.out HOK.out.w3 HOK.out.d3 (by rintro k (h | h | h) <;> omega)
  cases e1
  have kk : GK w (w3.alloc (.cells #[.int .i64 0, .int .i64 0, .int .i64 0] 3)) w2.heap.size gG c3 w3.heap.size 3 (w2.heap.size + 1) bA oA c2 bB oB e2 d0 d0.D [0, 0, 0] :=
    ⟨K3.out, f3.below hB3, rG.alloc _, RS.out, by omega, by omega, hB2.size, hBw3⟩
  have K := Lib.hid kk
  go_upto_region 6 with fail
  have HI := Lib.hid (GInv.start HOK.out hq3 HD0.out)
  obtain ⟨g12, hg12⟩ : ∃ g, g = w2.heap.size := ⟨_, rfl⟩
  obtain ⟨gS, hgS⟩ : ∃ g, g = w3.heap.size := ⟨_, rfl⟩
  rw [← hg12, ← hgS] at K
  rw [← hg12, ← hgS]
  clear kk f3 rG o3 o3' RS K2 K3 V2 I2 HD3 HD0 x0 x1 x2 x3 hb3 hB3 hg12 hgS hs2
  generalize w3.alloc (.cells #[.int .i64 0, .int .i64 0, .int .i64 0] 3) = w4 at K hBw3 ⊢
  go_wp2_with fail
  go_loopw [16] (fun s16 wy => ∃ (i : Nat) (bA oA cA bB oB cB : Nat) (d : Dr) (G S : List Int), i ≤ 40 ∧ i ≤ xs.length ∧ s16 = .int .i64 i ∧ GInv i d G S ∧ GK w wy g12 gG c3 gS 3 (g12 + 1) bA oA cA bB oB cB d G S) (fun s16 _ => 40 - (intOf s16).toNat)
  case atStart => exact ⟨0, _, _, _, _, _, _, _, _, _, by omega, by omega, rfl, HI.out, K.out⟩
  case round =>
    obtain ⟨i, bA, oA, cA, bB, oB, cB, d, G, S, hi40, hix, rfl, hI, kk⟩ := hrel
    obtain ⟨wy, rfl⟩ : ∃ wy : World, wy = wr := ⟨_, rfl⟩
    have hBy := kk.hB
    have K' := Lib.hid kk
    have HI' := Lib.hid hI
    clear kk hI K HI HOK hq3
    by_cases hx : i < xs.length
    · by_cases h40 : i < 40
      · have hi : (i : Int) < xs.length := by omega
        have hi' : (i : Int) < 40 := by omega
        have hi0 : (0 : Int) ≤ i := by omega
        obtain ⟨xv, hxv⟩ : ∃ y, xs[i]? = some y := ⟨_, List.getElem?_eq_getElem hx⟩
        obtain ⟨b', o', rfl, hb', d0'⟩ := reads_at (HRX.out.keep hBy.size fun b o h => hBy.cell (p := ⟨b, o, none⟩) h) (ints_get hxv)
        clear hxv
        go_wp2_with fail
        refine (sizes_any xv _).mono ?_
        rintro e w5 ⟨h0, h1, h2, rfl, b0, b1, b2, hH, hb5⟩
        obtain ⟨bh, hbh⟩ : ∃ g, g = wy.heap.size := ⟨_, rfl⟩
        rw [← hbh] at hH ⊢
        have hbh' : wy.heap.size ≤ bh := by omega
        have hlGy := K'.out.rG.lt
        have hlSy := K'.out.rS.lt
        clear d0'
        have hh : HOk [h0, h1, h2] := ⟨rfl, by intro x hx; simp only [List.mem_cons, List.not_mem_nil, or_false] at hx; rcases hx with rfl | rfl | rfl <;> omega, 2, by decide, by show h2 ≠ 0; omega⟩
        obtain ⟨bh2, oh, e2, hd3⟩ := Hd3.of (H := [h0, h1, h2]) hH rfl
        cases e2
        obtain ⟨H, hHe⟩ : ∃ H, H = [h0, h1, h2] := ⟨_, rfl⟩
        rw [← hHe] at hh hd3 hH
        have hH3 : H.length = 3 := by rw [hHe]; rfl
        obtain ⟨W, q', D, t⟩ := d
        obtain ⟨tn, rfl⟩ : ∃ tn : Nat, t = tn := ⟨t.toNat, by have := HI'.out.ok.t0; dsimp only at this; omega⟩
        obtain ⟨E1, pn, hE⟩ : ∃ E1 pn, ends ⟨W, q', D, (tn : Int)⟩ H = (E1, pn) := ⟨_, _, rfl⟩
        obtain ⟨N, hN⟩ : ∃ N, turns ⟨W, q', D, (tn : Int)⟩ H = N := ⟨_, rfl⟩
        obtain ⟨DD, hDD⟩ : ∃ DD, DD = E1.set pn (at0 E1 pn - at0 H pn) := ⟨_, rfl⟩
        have hs : srv ⟨W, q', D, (tn : Int)⟩ H = ⟨W, q', DD, (pn : Int)⟩ := by rw [srv_is hE, hDD]
        have hnx : nxt ⟨W, q', D, (tn : Int)⟩ H = ((pn : Int), ⟨W, q', DD, (pn : Int)⟩, 0) := by rw [nxt_is HI'.out.ok hh hE, hs]
        have htr : trn ⟨W, q', D, (tn : Int)⟩ H = ((N : Int), 0) := by rw [trn_is HI'.out.ok hh, hN]
        have hln : lnE ⟨W, q', D, (tn : Int)⟩ H = 0 := by unfold lnE; rw [chk_ok HI'.out.ok, if_neg (by decide), hdE_ok hh]
        have hnext := HI'.out.next hh hE h40
        rw [hs, hN] at hnext
        obtain ⟨hle, hI2⟩ := hnext
        have hN4 : N ≤ 3602 := by rw [← hN]; exact (turns_serve HI'.out.ok hh).1
        have htu : (tn + 2 * N) % 3 = pn := by have := ends_turn HI'.out.ok hE; rw [hN] at this; exact this
        obtain ⟨_, st⟩ := ends_ok HI'.out.ok hh
        rw [hE] at st
        have hck : chk ⟨W, q', DD, (pn : Int)⟩ = 0 := chk_ok hI2.ok
        have hp3 : pn < 3 := by have := hI2.ok.t1; dsimp only at this; omega
        have hpi : (pn : Int) < 3 := by omega
        have hpi2 : ¬ (pn : Int) > 2 := by omega
        have hpi0 : ¬ (pn : Int) < 0 := by omega
        have hpi1 : (0 : Int) ≤ pn := by omega
        have hNi : ¬ (N : Int) < 0 := by omega
        have hNi4 : ¬ (N : Int) > 4000 := by omega
        have hNi3 : (N : Int) ≤ 3602 := by omega
        have htn3 : tn < 3 := by have := HI'.out.ok.t1; dsimp only at this; omega
        have hnz : (at0 H pn == 0) = false := by simpa using st.1
        have hpp : ((pn : Int) != pn) = false := by simp
        have HHOK := Lib.hid hh
        have HH5 := Lib.hid hH
        have HD5 := Lib.hid hd3
        have HNX := Lib.hid hnx
        have HTR := Lib.hid htr
        have HLN := Lib.hid hln
        have HLE := Lib.hid hle
        have HI2 := Lib.hid hI2
        have HCK := Lib.hid hck
        have HTU := Lib.hid htu
        have HH3 := Lib.hid hH3
        have K5 := Lib.hid (K'.out.below hb5)
        obtain ⟨x0, x1, x2, x3⟩ := K5.out.b12.c4
        dsimp only at x0 x1 x2 x3
        clear hbh hh hH hd3 hnx htr hln hle hI2 hck htu hH3 hs hE hN hDD st hb5 hHe K'
        go_wp2_with fail
        refine (Turns_to HTR.out _ _ _ K5.out.f.v HH5.out).mono ?_
        rintro e w6 ⟨rfl, hb6⟩
        have K6 := Lib.hid (K5.out.below hb6)
        have HH6 := Lib.hid (SlAt.below HH5.out hb6)
        have HD6 := Lib.hid (HD5.out.below hb6)
        clear x0 x1 x2 x3 hb6 K5 HH5 HD5
        obtain ⟨x0, x1, x2, x3⟩ := K6.out.b12.c4
        dsimp only at x0 x1 x2 x3
        go_wp2_with fail
        refine (Next_own_to HNX.out HLN.out _ _ _ K6.out.f.v HH6.out).mono ?_
        rintro e w7 ⟨gw, cw, gd, cd, rfl, rw7, rd7, hb7⟩
        dsimp only at rw7 rd7 ⊢
        obtain ⟨g21, hg21⟩ : ∃ g, g = w7.heap.size := ⟨_, rfl⟩
        have hs67 := hb7.size
        have hl6 := K6.out.b12.lt
        have hlG := K6.out.rG.lt
        have hlS := K6.out.rS.lt
        have hl12 := K6.out.l12
        have hbh6 := HD6.out.1
        have X7 := Lib.hid (DF.own (S := fun k => k = gG ∨ k = gS ∨ k = g12) (d := ⟨W, q', DD, (pn : Int)⟩) rw7 rd7 (by rintro k (h | h | h) <;> omega))
        have K7 := Lib.hid ((K6.out.below hb7).alloc (.cells #[.slice (some ⟨gw, 0, none⟩) 3 cw, .int .i64 q', .slice (some ⟨gd, 0, none⟩) 3 cd, .int .i64 (pn : Int)] 24))
        have HD7 := Lib.hid ((HD6.out.below hb7).alloc (.cells #[.slice (some ⟨gw, 0, none⟩) 3 cw, .int .i64 q', .slice (some ⟨gd, 0, none⟩) 3 cd, .int .i64 (pn : Int)] 24))
        have XX7 := Lib.hid (X7.out.below (bal (Below.refl _ _) (.cells #[.slice (some ⟨gw, 0, none⟩) 3 cw, .int .i64 q', .slice (some ⟨gd, 0, none⟩) 3 cd, .int .i64 (pn : Int)] 24)))
        have B7 := Lib.hid (Blk.new w7 24 #[.slice (some ⟨gw, 0, none⟩) 3 cw, .int .i64 q', .slice (some ⟨gd, 0, none⟩) 3 cd, .int .i64 (pn : Int)])
        clear x0 x1 x2 x3 rw7 rd7 hb7 HH6 K6 HD6 X7
        go_wp2_with fail
        refine (Check_to HCK.out _ _ XX7.out.v).mono ?_
        rintro e w8 ⟨rfl, hb8⟩
        rw [← hg21] at B7 ⊢
        have HG21 := Lib.hid hg21
        have hg21' : w6.heap.size ≤ g21 := by omega
        clear hg21
        have K8 := Lib.hid (K7.out.below hb8)
        have HD8 := Lib.hid (HD7.out.below hb8)
        have X8 := Lib.hid (XX7.out.below hb8)
        have B8 := Lib.hid (B7.out.below hb8)
        clear K7 HD7 XX7 B7 hb8
        obtain ⟨x0, x1, x2, x3⟩ := K8.out.b12.c4
        dsimp only at x0 x1 x2 x3
        obtain ⟨y0, y1, y2, y3⟩ := B8.out.c4
        have eH := HD8.out.2.2 pn hp3
        rw [Nat.zero_add] at eH
        have hsub : IntKind.i64.wrap ((tn : Int) - N) = (tn : Int) - N := IntWalk.i64_in _ (by omega)
        go_wp2_with fail
        refine (Mod_any _ 3 _ (by decide) (by decide)).mono ?_
        rintro e w9 ⟨rfl, rfl⟩
        rw [show ((tn : Int) - N) % 3 = pn by have := HTU.out; omega]
        clear hsub
        go_wp2_with fail
        have hGw := (gvn_b (t := tn) (G := G) HI'.out.ok.w HI'.out.ok.w3 HI'.out.ok.q0 HI'.out.q3 HI'.out.g3 (B := 30000 + (i : Int) * 120000000) (fun p hp => ⟨by have a := HI'.out.b p hp; have c := HI'.out.ok.dd _ (at0_mem (l := D) (i := p) (by have := HI'.out.ok.d3; dsimp only at this; omega)); dsimp only at a; omega, (HI'.out.b p hp).2.2⟩))
        have hwq := fun p hp => wq_b (p := p) HI'.out.ok.w HI'.out.ok.w3 HI'.out.ok.q0 HI'.out.q3 hp
        dsimp only at hGw hwq
        have HGW := Lib.hid hGw
        have HWQ := Lib.hid hwq
        have hlG8 := K8.out.rG.lt
        have hbg : bh ≠ gG := by omega
        have hlS8 := K8.out.rS.lt
        have hbg : bh ≠ gG := by omega
        have hng21 : g21 ≠ gG := by omega
        clear hGw hwq eH x0 x1 x2 x3 y0 y1 y2 y3
        go_loopw [23] (fun s wr => ∃ k : Nat, k ≤ N ∧ s = .int .i64 ((k : Int) + 1) ∧ Row3 wr (g12 + 1) gG c3 (gvn W q' tn G k) ∧ Only (fun k => k = gG) w8 wr) (fun s _ => N + 1 - (intOf s).toNat)
        case atStart => exact ⟨0, by omega, rfl, K8.out.rG, Only.refl _ _⟩
        case round =>
          obtain ⟨k, hk, rfl, hr, ho⟩ := hrel
          obtain ⟨wz, rfl⟩ : ∃ wz : World, wz = wr := ⟨_, rfl⟩
          have K9 := Lib.hid (K8.out.onlyG ho hr)
          have HO := Lib.hid ho
          clear hr ho
          by_cases hlt : k < N
          · have hk1 : (k : Int) + 1 ≤ N := by omega
            obtain ⟨u, hu⟩ : ∃ u, (tn + 2 * (k + 1)) % 3 = u := ⟨_, rfl⟩
            have hu3 : u < 3 := by omega
            have hui : (u : Int) < 3 := by omega
            have hui0 : (0 : Int) ≤ u := by omega
            have HU : Hid (((tn : Int) - (k + 1)) % 3 = u) := Lib.hid (by omega)
            have HGS : Hid (gvn W q' tn G (k + 1) = (gvn W q' tn G k).set u (at0 (gvn W q' tn G k) u + at0 W u * q')) := Lib.hid (by rw [gvn, hu])
            have b1 := HWQ.out u hu3
            have b2 := HGW.out k u hu3
            have b3 := HI'.out.b u hu3
            have b4 := HI'.out.ok.dd _ (at0_mem (l := D) (i := u) (by have := HI'.out.ok.d3; dsimp only at this; omega))
            dsimp only at b3
            have WM : IntKind.i64.wrap (at0 W u * q') = at0 W u * q' := IntWalk.i64_in _ (by omega)
            have WA : IntKind.i64.wrap (at0 (gvn W q' tn G k) u + at0 W u * q') = at0 (gvn W q' tn G k) u + at0 W u * q' := IntWalk.i64_in _ (by omega)
            have hsub : IntKind.i64.wrap ((tn : Int) - ((k : Int) + 1)) = (tn : Int) - ((k : Int) + 1) := IntWalk.i64_in _ (by omega)
            obtain ⟨x0, x1, x2, x3⟩ := K9.out.b12.c4
            dsimp only at x0 x1 x2 x3
            have eG := K9.out.rG.cell u hu3
            have fG := K9.out.rG.frozen u
            have eW := K9.out.f.hA.2.2 u hu3
            dsimp only at eW
            clear hu b1 b2 b3 b4
            go_wp2_with fail
            refine (Mod_any _ 3 _ (by decide) (by decide)).mono ?_
            rintro e w10 ⟨rfl, rfl⟩
            rw [HU.out]
            clear hsub
            go_upto_region 18 with fail
            go_still_tail 16, (by kernel_rfl)
            change wpList _ _ _ _ _ wz.drew
            have k10 := (K9.out.drew).rG.set u hu3 (at0 (gvn W q' tn G k) u + at0 W u * q')
            rw [← HGS.out] at k10
            have o10 := (HO.out.drew).set (p := ⟨gG, u, none⟩) (.inl rfl) (.int .i64 (at0 (gvn W q' tn G k) u + at0 W u * q'))
            have K10 := Lib.hid k10
            have O10 := Lib.hid o10
            clear eG fG eW x0 x1 x2 x3 WM k10 o10
            have fG := K9.out.drew.rG.frozen u
            have eG := K9.out.drew.rG.cell u hu3
            go_wp2_with fail
            go_roundw
            case rel => exact ⟨k + 1, by omega, by go_num, K10.out, O10.out⟩
            case measure => simp [intOf]; omega
          · obtain rfl : k = N := by omega
            have hk1 : ¬ (k : Int) + 1 ≤ k := by omega
            have HD9 := Lib.hid (HD8.out.only HO.out (by show ¬ bh = gG; omega))
            have X9 := Lib.hid (X8.out.only HO.out (fun k e => .inl e))
            have B9 := Lib.hid (B8.out.only HO.out (by show ¬ g21 = gG; omega))
            have hpH := HHOK.out.b _ (at0_mem (l := H) (i := pn) (by rw [HHOK.out.l3]; exact hp3))
            have b3 := HI'.out.b pn hp3
            have b4 := HI'.out.ok.dd _ (at0_mem (l := D) (i := pn) (by have := HI'.out.ok.d3; dsimp only at this; omega))
            dsimp only at b3
            have WA : IntKind.i64.wrap (at0 S pn + at0 H pn) = at0 S pn + at0 H pn := IntWalk.i64_in _ (by omega)
            have eS := K9.out.rS.cell pn hp3
            have fS := K9.out.rS.frozen pn
            have eH := HD9.out.2.2 pn hp3
            rw [Nat.zero_add] at eH
            have hgs21 : g21 ≠ gS := by omega
            clear b3 b4 hpH K8 HD8 X8 B8 HO
            go_upto_region 19 with fail
            go_still_tail 12, (by kernel_rfl)
            change wpList _ _ _ _ _ wz.drew
            have K10 := Lib.hid (K9.out.setS pn hp3 (at0 S pn + at0 H pn)).drew
            have X10 := Lib.hid ((X9.out.far (p := ⟨gS, pn, none⟩) (.inr (.inl rfl)) (.int .i64 (at0 S pn + at0 H pn))).below (Below.refl _ _).drew)
            have B10 := Lib.hid (B9.out.far (p := ⟨gS, pn, none⟩) hgs21 (.int .i64 (at0 S pn + at0 H pn))).drew
            clear eS fS eH
            have eS := K9.out.drew.rS.cell pn hp3
            have fS := K9.out.drew.rS.frozen pn
            go_upto_region 20 with fail
            clear eS fS WA K9 X9 B9
            generalize (wz.setCell ⟨gS, pn, none⟩ (.int .i64 (at0 S pn + at0 H pn))).drew = wq at K10 X10 B10 ⊢
            go_wp2_with fail
            go_loopw [25] (fun s wr => ∃ j : Nat, j ≤ 3 ∧ s = .int .i64 j ∧ Below wq.heap.size wq wr) (fun s _ => 3 - (intOf s).toNat)
            case atStart => exact ⟨0, by omega, rfl, Below.refl _ _⟩
            case round =>
              obtain ⟨j, hj, rfl, hBq⟩ := hrel
              obtain ⟨wt, rfl⟩ : ∃ wt : World, wt = wr := ⟨_, rfl⟩
              have K11 := Lib.hid (K10.out.below hBq)
              have X11 := Lib.hid (X10.out.below hBq)
              have B11 := Lib.hid (B10.out.below hBq)
              have hBQ := Lib.hid hBq
              by_cases hj3 : j < 3
              · have hji : (j : Int) < 3 := by omega
                have hji0 : (0 : Int) ≤ j := by omega
                have eS := K11.out.rS.cell j hj3
                have eG := K11.out.rG.cell j hj3
                have eD := X11.out.hD.2.2 j hj3
                dsimp only at eD
                rw [Nat.zero_add] at eD
                obtain ⟨y0, y1, y2, y3⟩ := B11.out.c4
                have hle := HLE.out j hj3
                have hng : ¬ at0 (S.set pn (at0 S pn + at0 H pn)) j + at0 DD j > at0 (gvn W q' tn G k) j := by
                  have e : ((tn : Int)).toNat = tn := by omega
                  rw [e] at hle
                  omega
                have b5 := HI2.out.b j hj3
                have b6 := HI2.out.ok.dd _ (at0_mem (l := DD) (i := j) (by have := HI2.out.ok.d3; dsimp only at this; omega))
                dsimp only at b5
                have WA : IntKind.i64.wrap (at0 (S.set pn (at0 S pn + at0 H pn)) j + at0 DD j) = at0 (S.set pn (at0 S pn + at0 H pn)) j + at0 DD j := IntWalk.i64_in _ (by omega)
                clear b5 b6 hle
                go_upto_region 23 with fail
                go_quiet (fail)
                go_wp2_with fail
                go_roundw
                case rel => exact ⟨j + 1, by omega, by go_num, below_drewN hBQ.out _⟩
                case measure => simp [intOf]; omega
              · obtain rfl : j = 3 := by omega
                obtain ⟨x0, x1, x2, x3⟩ := K11.out.b12.c4
                obtain ⟨f0, f1, f2, f3⟩ := K11.out.b12.f4
                obtain ⟨y0, y1, y2, y3⟩ := B11.out.c4
                have K12 := Lib.hid (K11.out.state X11.out)
                clear K10 X10 B10 K11 X11 B11
                go_wp2_with fail
                go_roundw
                case rel => exact ⟨i + 1, _, _, _, _, _, _, _, _, _, by omega, by omega, by go_num, HI2.out, K12.out⟩
                case measure => simp [intOf]; omega
      · obtain rfl : i = 40 := by omega
        go_wp2_with fail
        go_ret
        exact ⟨rfl, hBy⟩
    · obtain rfl : i = xs.length := by omega
      go_wp2_with fail
      go_ret
      exact ⟨rfl, hBy⟩
end Go.Proofs.Ythkfdfkjenhjmaa
