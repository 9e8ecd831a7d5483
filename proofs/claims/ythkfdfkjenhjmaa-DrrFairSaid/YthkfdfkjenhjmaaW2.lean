/- Contract: DrrFair. -/
import Derived.Test.YthkfdfkjenhjmaaW0
import Derived.Test.YthkfdfkjenhjmaaF2
namespace Go.Proofs.Ythkfdfkjenhjmaa
open Go.RowKit
set_option linter.unusedVariables false
set_option linter.unusedSimpArgs false

theorem fair_b {q a b m Sa Sb : Int} (hq : 1 ≤ q ∧ q ≤ 300) (ha : 1 ≤ a ∧ a ≤ 100) (hb : 1 ≤ b ∧ b ≤ 100) (hm : 1 ≤ m ∧ m ≤ 100) (hSa : 0 ≤ Sa ∧ Sa ≤ 72000) (hSb : 0 ≤ Sb ∧ Sb ≤ 72000) :
    (0 ≤ 2 * q * a ∧ 2 * q * a ≤ 60000) ∧ (0 ≤ 2 * q * a * b ∧ 2 * q * a * b ≤ 6000000) ∧ (0 ≤ Sa * b ∧ Sa * b ≤ 7200000) ∧ (0 ≤ Sb * a ∧ Sb * a ≤ 7200000) := by
  have h1 : 0 ≤ 2 * q * a ∧ 2 * q * a ≤ 60000 := by
    have := Int.mul_nonneg (show 0 ≤ 2 * q by omega) (show 0 ≤ a by omega)
    have := Int.mul_le_mul (show 2 * q ≤ 600 by omega) ha.2 (by omega) (by omega)
    omega
  refine ⟨h1, ?_, ?_, ?_⟩
  · have := Int.mul_nonneg h1.1 (show 0 ≤ b by omega)
    have := Int.mul_le_mul h1.2 hb.2 (by omega) (by omega)
    omega
  · have := Int.mul_nonneg hSa.1 (show 0 ≤ b by omega)
    have := Int.mul_le_mul hSa.2 hb.2 (by omega) (by omega)
    omega
  · have := Int.mul_nonneg hSb.1 (show 0 ≤ a by omega)
    have := Int.mul_le_mul hSb.2 ha.2 (by omega) (by omega)
    omega

set_option maxRecDepth 100000 in
set_option maxHeartbeats 16000000 in
theorem DrrFair_t (a b c q : Int) (xs : List Int) (v : Value) (w : World) (hV : IntAt w v xs) :
    Calls Try.prog 8 #[.int .i64 a, .int .i64 b, .int .i64 c, .int .i64 q, v] w (RetB true w) := by
  obtain ⟨A, cx, rfl, _, hcx, hRx⟩ := hV
  unfold maxLen at hcx
  have HRX := Lib.hid hRx
  clear hRx
  go_enter Try.func8, Try.ntmps8
  go_wp2_with fail
  refine (DrrKnown_t _).mono ?_
  rintro e w1 ⟨rfl, hb1⟩
  go_wp2_with fail
  refine (made_any a b c q _).mono ?_
  rintro e w2 ⟨v2, d0, rfl, hok, hq3, hD0, ht0, hv2, hb2⟩
  have hB2 : Below w.heap.size w w2 := bnext hb1 hb2
  obtain ⟨A2, c2, B2, e2, rfl⟩ := hv2.form3' hok.w3 hok.d3
  have V2 := Lib.hid hv2
  have HOK := Lib.hid hok
  have HI := Lib.hid (FInv.start hok hq3 hD0 ht0)
  clear hv2 hok hD0 hb1 hb2 ht0
  go_upto_region 7 with fail
  have RS := Lib.hid ((row3_lit (w2.alloc (.cells #[.slice A2 3 c2, .int .i64 d0.q, .slice B2 3 e2, .int .i64 d0.t] 24)) (base := w2.heap.size + 1) (by simp) 0 0 0).alloc (.cells #[.int .i64 100, .int .i64 100, .int .i64 100] 3))
  have RG := Lib.hid (row3_lit ((w2.alloc (.cells #[.slice A2 3 c2, .int .i64 d0.q, .slice B2 3 e2, .int .i64 d0.t] 24)).alloc (.cells #[.int .i64 0, .int .i64 0, .int .i64 0] 3)) (base := w2.heap.size + 1) (by simp) 100 100 100)
  have K2 := Lib.hid (((Blk.new w2 24 #[.slice A2 3 c2, .int .i64 d0.q, .slice B2 3 e2, .int .i64 d0.t]).alloc (.cells #[.int .i64 0, .int .i64 0, .int .i64 0] 3)).alloc (.cells #[.int .i64 100, .int .i64 100, .int .i64 100] 3))
  have hB3 : Below w2.heap.size w2 (((w2.alloc (.cells #[.slice A2 3 c2, .int .i64 d0.q, .slice B2 3 e2, .int .i64 d0.t] 24)).alloc (.cells #[.int .i64 0, .int .i64 0, .int .i64 0] 3)).alloc (.cells #[.int .i64 100, .int .i64 100, .int .i64 100] 3)) := bal (bal (bal (Below.refl _ _) _) _) _
  have hBw3 := bnext hB2 hB3
  obtain ⟨bA, oA, cA, bB, oB, cB, e1, f3⟩ := DF.of (S := fun k => k = w2.heap.size + 1 + 1 ∨ k = w2.heap.size + 1 ∨ k = w2.heap.size) V2.out HOK.out.w3 HOK.out.d3 (by rintro k (h | h | h) <;> omega)
  cases e1
  have hsz1 : (w2.alloc (.cells #[.slice (some ⟨bA, oA, none⟩) 3 c2, .int .i64 d0.q, .slice (some ⟨bB, oB, none⟩) 3 e2, .int .i64 d0.t] 24)).heap.size = w2.heap.size + 1 := by simp
  have hsz2 : ((w2.alloc (.cells #[.slice (some ⟨bA, oA, none⟩) 3 c2, .int .i64 d0.q, .slice (some ⟨bB, oB, none⟩) 3 e2, .int .i64 d0.t] 24)).alloc (.cells #[.int .i64 0, .int .i64 0, .int .i64 0] 3)).heap.size = w2.heap.size + 1 + 1 := by simp
  have rs := RS.out
  have rg := RG.out
  rw [hsz1] at rs
  rw [hsz2] at rg
  have kk : GK w (((w2.alloc (.cells #[.slice (some ⟨bA, oA, none⟩) 3 c2, .int .i64 d0.q, .slice (some ⟨bB, oB, none⟩) 3 e2, .int .i64 d0.t] 24)).alloc (.cells #[.int .i64 0, .int .i64 0, .int .i64 0] 3)).alloc (.cells #[.int .i64 100, .int .i64 100, .int .i64 100] 3)) w2.heap.size (w2.heap.size + 1 + 1) 3 (w2.heap.size + 1) 3 (w2.heap.size + 1) bA oA c2 bB oB e2 d0 [100, 100, 100] [0, 0, 0] :=
    ⟨K2.out, f3.below hB3, rg, rs, by omega, by omega, hB2.size, hBw3⟩
  have K := Lib.hid kk
  obtain ⟨g12, hg12⟩ : ∃ g, g = w2.heap.size := ⟨_, rfl⟩
  obtain ⟨gS, hgS⟩ : ∃ g, g = g12 + 1 := ⟨_, rfl⟩
  obtain ⟨gG, hgG⟩ : ∃ g, g = g12 + 1 + 1 := ⟨_, rfl⟩
  rw [← hg12, ← hgG, ← hgS] at K
  rw [← hg12, ← hgG, ← hgS]
  clear kk f3 rs rg RS RG K2 V2 hB3 hg12 hsz1 hsz2
  generalize ((w2.alloc (.cells #[.slice (some ⟨bA, oA, none⟩) 3 c2, .int .i64 d0.q, .slice (some ⟨bB, oB, none⟩) 3 e2, .int .i64 d0.t] 24)).alloc (.cells #[.int .i64 0, .int .i64 0, .int .i64 0] 3)).alloc (.cells #[.int .i64 100, .int .i64 100, .int .i64 100] 3) = w4 at K hBw3 ⊢
  have HGS := Lib.hid hgS
  have HGG := Lib.hid hgG
  clear hgS hgG
  go_wp2_with fail
  go_loopw [16] (fun s16 wy => ∃ (i : Nat) (bA oA cA bB oB cB : Nat) (d : Dr) (G S : List Int), i ≤ 60 ∧ i ≤ xs.length ∧ s16 = .int .i64 i ∧ FInv i d G S ∧ GK w wy g12 gG 3 gS 3 gS bA oA cA bB oB cB d G S) (fun s16 _ => 60 - (intOf s16).toNat)
  case atStart => exact ⟨0, _, _, _, _, _, _, _, _, _, by omega, by omega, rfl, HI.out, K.out⟩
  case round =>
    obtain ⟨i, bA, oA, cA, bB, oB, cB, d, H, S, hi60, hix, rfl, hI, kk⟩ := hrel
    obtain ⟨wy, rfl⟩ : ∃ wy : World, wy = wr := ⟨_, rfl⟩
    have hBy := kk.hB
    have K' := Lib.hid kk
    have HI' := Lib.hid hI
    clear kk hI K HI HOK hq3
    by_cases hx : i < xs.length
    · by_cases h40 : i < 60
      · have hi : (i : Int) < xs.length := by omega
        have hi' : (i : Int) < 60 := by omega
        have hi0 : (0 : Int) ≤ i := by omega
        obtain ⟨xv, hxv⟩ : ∃ y, xs[i]? = some y := ⟨_, List.getElem?_eq_getElem hx⟩
        obtain ⟨b', o', rfl, hb', d0'⟩ := reads_at HRX.out (ints_get hxv)
        have D0 := Lib.hid d0'
        clear hxv d0'
        have hh := HI'.out.hok
        obtain ⟨W, q', D, t⟩ := d
        obtain ⟨tn, rfl⟩ : ∃ tn : Nat, t = tn := ⟨t.toNat, by have := HI'.out.ok.t0; dsimp only at this; omega⟩
        obtain ⟨E1, pn, hE⟩ : ∃ E1 pn, ends ⟨W, q', D, (tn : Int)⟩ H = (E1, pn) := ⟨_, _, rfl⟩
        obtain ⟨DD, hDD⟩ : ∃ DD, DD = E1.set pn (at0 E1 pn - at0 H pn) := ⟨_, rfl⟩
        have hs : srv ⟨W, q', D, (tn : Int)⟩ H = ⟨W, q', DD, (pn : Int)⟩ := by rw [srv_is hE, hDD]
        have hnx : nxt ⟨W, q', D, (tn : Int)⟩ H = ((pn : Int), ⟨W, q', DD, (pn : Int)⟩, 0) := by rw [nxt_is HI'.out.ok hh hE, hs]
        have hln : lnE ⟨W, q', D, (tn : Int)⟩ H = 0 := by unfold lnE; rw [chk_ok HI'.out.ok, if_neg (by decide), hdE_ok hh]
        obtain ⟨mv, hmv⟩ : ∃ m, xv % 1200 = m := ⟨_, rfl⟩
        have hm0 : 0 ≤ mv ∧ mv < 1200 := by omega
        have HMV := Lib.hid hmv
        have hI2 := HI'.out.next hE (1 + mv) (by omega)
        rw [hs] at hI2
        have hck : chk ⟨W, q', DD, (pn : Int)⟩ = 0 := chk_ok hI2.ok
        have hp3 : pn < 3 := by have := hI2.ok.t1; dsimp only at this; omega
        have hpi : (pn : Int) < 3 := by omega
        have hpi2 : ¬ (pn : Int) > 2 := by omega
        have hpi0 : ¬ (pn : Int) < 0 := by omega
        have hpi1 : (0 : Int) ≤ pn := by omega
        have HNX := Lib.hid hnx
        have HLN := Lib.hid hln
        have HI2 := Lib.hid hI2
        have HCK := Lib.hid hck
        obtain ⟨x0, x1, x2, x3⟩ := K'.out.b12.c4
        dsimp only at x0 x1 x2 x3
        clear hh hnx hln hI2 hck hs hE hDD hmv
        go_wp2_with fail
        refine (Next_own_to HNX.out HLN.out _ _ _ K'.out.f.v K'.out.rG.at).mono ?_
        rintro e w7 ⟨gw, cw, gd, cd, rfl, rw7, rd7, hb7⟩
        dsimp only at rw7 rd7 ⊢
        obtain ⟨g21, hg21⟩ : ∃ g, g = w7.heap.size := ⟨_, rfl⟩
        have hs67 := hb7.size
        have hl6 := K'.out.b12.lt
        have hlG := K'.out.rG.lt
        have hlS := K'.out.rS.lt
        have hl12 := K'.out.l12
        have X7 := Lib.hid (DF.own (S := fun k => k = gG ∨ k = gS ∨ k = g12) (d := ⟨W, q', DD, (pn : Int)⟩) rw7 rd7 (by rintro k (h | h | h) <;> omega))
        have K7 := Lib.hid ((K'.out.below hb7).alloc (.cells #[.slice (some ⟨gw, 0, none⟩) 3 cw, .int .i64 q', .slice (some ⟨gd, 0, none⟩) 3 cd, .int .i64 (pn : Int)] 24))
        have XX7 := Lib.hid (X7.out.below (bal (Below.refl _ _) (.cells #[.slice (some ⟨gw, 0, none⟩) 3 cw, .int .i64 q', .slice (some ⟨gd, 0, none⟩) 3 cd, .int .i64 (pn : Int)] 24)))
        have B7 := Lib.hid (Blk.new w7 24 #[.slice (some ⟨gw, 0, none⟩) 3 cw, .int .i64 q', .slice (some ⟨gd, 0, none⟩) 3 cd, .int .i64 (pn : Int)])
        clear x0 x1 x2 x3 rw7 rd7 hb7 X7
        go_wp2_with fail
        refine (Check_to HCK.out _ _ XX7.out.v).mono ?_
        rintro e w8 ⟨rfl, hb8⟩
        rw [← hg21] at B7 ⊢
        have HG21 := Lib.hid hg21
        have hg21' : wy.heap.size ≤ g21 := by omega
        clear hg21
        have K8 := Lib.hid (K7.out.below hb8)
        have X8 := Lib.hid (XX7.out.below hb8)
        have B8 := Lib.hid (B7.out.below hb8)
        clear K7 XX7 B7 hb8
        have hpH := HI'.out.hb pn hp3
        have hpS := HI'.out.sb pn hp3
        have WA : IntKind.i64.wrap (at0 S pn + at0 H pn) = at0 S pn + at0 H pn := IntWalk.i64_in _ (by omega)
        have WM : IntKind.i64.wrap (1 + mv) = 1 + mv := IntWalk.i64_in _ (by omega)
        have eS := K8.out.rS.cell pn hp3
        have fS := K8.out.rS.frozen pn
        have eH := K8.out.rG.cell pn hp3
        have hgs21 : g21 ≠ gS := by omega
        have hgg21 : g21 ≠ gG := by omega
        clear hpH hpS
        go_upto_region 13 with fail
        go_still_tail 12, (by kernel_rfl)
        change wpList _ _ _ _ _ w8.drew
        have K10 := Lib.hid (K8.out.setS pn hp3 (at0 S pn + at0 H pn)).drew
        have X10 := Lib.hid ((X8.out.far (p := ⟨gS, pn, none⟩) (.inr (.inl rfl)) (.int .i64 (at0 S pn + at0 H pn))).below (Below.refl _ _).drew)
        have B10 := Lib.hid (B8.out.far (p := ⟨gS, pn, none⟩) hgs21 (.int .i64 (at0 S pn + at0 H pn))).drew
        clear eS fS eH
        have eS := K8.out.drew.rS.cell pn hp3
        have fS := K8.out.drew.rS.frozen pn
        go_upto_region 14 with fail
        clear eS fS WA K8 X8 B8
        generalize (w8.setCell ⟨gS, pn, none⟩ (.int .i64 (at0 S pn + at0 H pn))).drew = wq at K10 X10 B10 ⊢
        have d1 := (K10.out.hB.cell (p := ⟨b', o' + i, none⟩) hb').trans D0.out
        have eG := K10.out.rG.cell pn hp3
        have fG := K10.out.rG.frozen pn
        go_wp2_with fail
        refine (Mod_any _ 1200 _ (by decide) (by decide)).mono ?_
        rintro e w9 ⟨rfl, rfl⟩
        rw [HMV.out]
        go_upto_region 15 with fail
        have K11 := Lib.hid (K10.out.setG pn hp3 (1 + mv))
        have X11 := Lib.hid (X10.out.far (p := ⟨gG, pn, none⟩) (.inl rfl) (.int .i64 (1 + mv)))
        have B11 := Lib.hid (B10.out.far (p := ⟨gG, pn, none⟩) hgg21 (.int .i64 (1 + mv)))
        clear K10 X10 B10 eG fG d1 WM
        generalize wq.setCell ⟨gG, pn, none⟩ (.int .i64 (1 + mv)) = wp at K11 X11 B11 ⊢
        obtain ⟨f0, f1, f2, f3⟩ := K11.out.b12.f4
        obtain ⟨x0, x1, x2, x3⟩ := K11.out.b12.c4
        obtain ⟨y0, y1, y2, y3⟩ := B11.out.c4
        go_upto_region 16 with fail
        have K12 := Lib.hid (K11.out.state X11.out)
        clear K11 X11 B11 f0 f1 f2 f3 x0 x1 x2 x3 y0 y1 y2 y3
        dsimp only at K12
        generalize ((((wp.setCell ⟨g12, 0, none⟩ (.slice (some ⟨gw, 0, none⟩) 3 cw)).setCell ⟨g12, 1, none⟩ (.int .i64 q')).setCell ⟨g12, 2, none⟩ (.slice (some ⟨gd, 0, none⟩) 3 cd)).setCell ⟨g12, 3, none⟩ (.int .i64 (pn : Int))) = wn at K12 ⊢
        go_wp2_with fail
        go_loopw [20] (fun s wr => ∃ j : Nat, j ≤ 3 ∧ s = .int .i64 j ∧ Below wn.heap.size wn wr) (fun s _ => 3 - (intOf s).toNat)
        case atStart => exact ⟨0, by omega, rfl, Below.refl _ _⟩
        case round =>
          obtain ⟨j, hj, rfl, hBj⟩ := hrel
          obtain ⟨wj, rfl⟩ : ∃ wj : World, wj = wr := ⟨_, rfl⟩
          by_cases hj3 : j < 3
          · have hji : (j : Int) < 3 := by omega
            have hji0 : (0 : Int) ≤ j := by omega
            go_wp2_with fail
            go_loopw [21] (fun s wr => ∃ k : Nat, k ≤ 3 ∧ s = .int .i64 k ∧ Below wn.heap.size wn wr) (fun s _ => 3 - (intOf s).toNat)
            case atStart => exact ⟨0, by omega, rfl, hBj⟩
            case round =>
              obtain ⟨k, hk, rfl, hBk⟩ := hrel
              obtain ⟨wk, rfl⟩ : ∃ wk : World, wk = wr := ⟨_, rfl⟩
              by_cases hk3 : k < 3
              · have hki : (k : Int) < 3 := by omega
                have hki0 : (0 : Int) ≤ k := by omega
                have K13 := Lib.hid (K12.out.below hBk)
                obtain ⟨x0, x1, x2, x3⟩ := K13.out.b12.c4
                have hA := K13.out.f.hA
                dsimp only at hA
                have ea := hA.2.2 j hj3
                have eb := hA.2.2 k hk3
                rw [Nat.zero_add] at ea eb
                have sa := K13.out.rS.cell j hj3
                have sb := K13.out.rS.cell k hk3
                have ba := HI2.out.ok.w _ (at0_mem (l := W) (i := j) (by have := HI2.out.ok.w3; dsimp only at this; omega))
                have bb := HI2.out.ok.w _ (at0_mem (l := W) (i := k) (by have := HI2.out.ok.w3; dsimp only at this; omega))
                have bsa := HI2.out.sb j hj3
                have bsb := HI2.out.sb k hk3
                obtain ⟨wa, hwa⟩ : ∃ x, at0 W j = x := ⟨_, rfl⟩
                obtain ⟨wb, hwb⟩ : ∃ x, at0 W k = x := ⟨_, rfl⟩
                obtain ⟨Sa, hSa⟩ : ∃ x, at0 (S.set pn (at0 S pn + at0 H pn)) j = x := ⟨_, rfl⟩
                obtain ⟨Sb, hSb⟩ : ∃ x, at0 (S.set pn (at0 S pn + at0 H pn)) k = x := ⟨_, rfl⟩
                have hfair := HI2.out.fair (a := j) (b := k) hj3 hk3 (m := if wa ≤ wb then wb else wa) (by show at0 W j ≤ _; rw [hwa]; split <;> omega)
                dsimp only at hfair
                rw [hwa, hwb, hSa, hSb] at hfair
                rw [hwa] at ea ba
                rw [hwb] at eb bb
                rw [hSa] at sa bsa
                rw [hSb] at sb bsb
                have hq0 := HI2.out.ok.q0
                have hq3 := HI2.out.q3
                dsimp only at hq0 hq3
                obtain ⟨m, hm⟩ : ∃ m, (if wa ≤ wb then wb else wa) = m := ⟨_, rfl⟩
                rw [hm] at hfair
                have hm1 : 1 ≤ m ∧ m ≤ 100 := by rw [← hm]; split <;> omega
                obtain ⟨c1, c2, c3, c4⟩ := fair_b ⟨hq0, hq3⟩ ba bb hm1 (Sa := Sa) (Sb := Sb) (by omega) (by omega)
                have W1 : IntKind.i64.wrap (2 * q') = 2 * q' := IntWalk.i64_in _ (by omega)
                have W2 : IntKind.i64.wrap (2 * q' * wa) = 2 * q' * wa := IntWalk.i64_in _ (by omega)
                have W3 : IntKind.i64.wrap (2 * q' * wa * wb) = 2 * q' * wa * wb := IntWalk.i64_in _ (by omega)
                have W4 : IntKind.i64.wrap (1200 * m) = 1200 * m := IntWalk.i64_in _ (by omega)
                have W5 : IntKind.i64.wrap (2 * q' * wa * wb + 1200 * m) = 2 * q' * wa * wb + 1200 * m := IntWalk.i64_in _ (by omega)
                have W6 : IntKind.i64.wrap (Sa * wb) = Sa * wb := IntWalk.i64_in _ (by omega)
                have W7 : IntKind.i64.wrap (Sb * wa) = Sb * wa := IntWalk.i64_in _ (by omega)
                have W8 : IntKind.i64.wrap (Sa * wb - Sb * wa) = Sa * wb - Sb * wa := IntWalk.i64_in _ (by omega)
                have hng : ¬ Sa * wb - Sb * wa > 2 * q' * wa * wb + 1200 * m := by omega
                have HBK := Lib.hid hBk
                clear hwa hwb hSa hSb c1 c2 c3 c4 hfair hA hBk
                rcases Int.lt_trichotomy wa wb with hab | hab | hab
                · obtain rfl : wb = m := by rw [← hm, if_pos (by omega)]
                  have hab2 : wa ≤ wb := by omega
                  clear hm
                  go_upto_region 22 with fail
                  go_quiet (fail)
                  go_upto_region 23 with fail
                  go_quiet (fail)
                  go_wp2_with fail
                  go_roundw
                  case rel => exact ⟨k + 1, by omega, by go_num, below_drewN HBK.out _⟩
                  case measure => simp [intOf]; omega
                · subst hab
                  obtain rfl : wa = m := by rw [← hm, if_pos (by omega)]
                  clear hm
                  go_upto_region 22 with fail
                  go_quiet (fail)
                  go_upto_region 23 with fail
                  go_quiet (fail)
                  go_wp2_with fail
                  go_roundw
                  case rel => exact ⟨k + 1, by omega, by go_num, below_drewN HBK.out _⟩
                  case measure => simp [intOf]; omega
                · obtain rfl : wa = m := by rw [← hm, if_neg (by omega)]
                  have hab2 : wb ≤ wa := by omega
                  have hab3 : ¬ wa ≤ wb := by omega
                  clear hm
                  go_upto_region 22 with fail
                  go_quiet (fail)
                  go_upto_region 23 with fail
                  go_quiet (fail)
                  go_wp2_with fail
                  go_roundw
                  case rel => exact ⟨k + 1, by omega, by go_num, below_drewN HBK.out _⟩
                  case measure => simp [intOf]; omega
              · obtain rfl : k = 3 := by omega
                go_wp2_with fail
                go_roundw
                case rel => exact ⟨j + 1, by omega, by go_num, hBk⟩
                case measure => simp [intOf]; omega
          · obtain rfl : j = 3 := by omega
            go_wp2_with fail
            go_roundw
            case rel => exact ⟨i + 1, _, _, _, _, _, _, _, _, _, by omega, by omega, by go_num, HI2.out, K12.out.below hBj⟩
            case measure => simp [intOf]; omega
      · obtain rfl : i = 60 := by omega
        go_wp2_with fail
        go_ret
        exact ⟨rfl, hBy⟩
    · obtain rfl : i = xs.length := by omega
      go_wp2_with fail
      go_ret
      exact ⟨rfl, hBy⟩
end Go.Proofs.Ythkfdfkjenhjmaa
