/- Contract: the order of wants (the reference). -/
import Derived.Test.YthkfdfkjenhjmaaZ2
namespace Go.Proofs.Ythkfdfkjenhjmaa
open Go.RowKit
set_option linter.unusedVariables false
set_option linter.unusedSimpArgs false

/-- the state at the head of a round of the last loop -/
def RMid (w : World) (l : List Wt) (g3 g7 gT base : Nat) (RES : List Nat × Dr) (g : Nat) (b : Int) (vo : Value) (wy : World) : Prop :=
  ∃ (T : List Bool) (Q : Nat → List Nat) (d : Dr) (out : List Nat) (gw cw gd cd : Nat), qlen Q = g ∧ Tk l T Q ∧ QOk l Q ∧ Ok d ∧ 0 ≤ b ∧ b ≤ 9223372036854775807 ∧ (out ++ (ordL l g d Q b).1, (ordL l g d Q b).2) = RES ∧ out.length + g = l.length ∧ RK w wy g3 g7 gT base T vo out d gw cw gd cd
theorem RMid.end {w wy : World} {l : List Wt} {g3 g7 gT base : Nat} {RES : List Nat × Dr} {b : Int} {vo : Value} (h : RMid w l g3 g7 gT base RES 0 b vo wy) : ∃ T d out gw cw gd cd, RES = (out, d) ∧ RK w wy g3 g7 gT base T vo out d gw cw gd cd := by
  obtain ⟨T, Q, d, out, gw, cw, gd, cd, h1, h2, h3, h4, h5, h6, h7, h8, h9⟩ := h
  exact ⟨T, d, out, gw, cw, gd, cd, by rw [← h7, ordL_zero (qlen_zero h1), List.append_nil], h9⟩

set_option maxRecDepth 100000 in
set_option maxHeartbeats 16000000 in
theorem rOrder_any (d : Dr) (l : List Wt) (b : Int) (hb1 : -9223372036854775808 ≤ b) (hb2 : b ≤ 9223372036854775807) (hl : l.length ≤ 1000) (v u : Value) (w : World) (hD : DrV w v d) (hL : WtAt w u l) :
    Calls Try.prog 28 #[v, u, .int .i64 b] w (RetO (ord d l b).1 (ord d l b).2.1 (ord d l b).2.2 w) := by
  obtain ⟨W, q, D, t⟩ := d
  obtain ⟨vW, vD, rfl, hW, hDD⟩ := id hD
  obtain ⟨A, c, rfl, _⟩ := id hW
  obtain ⟨A', c', rfl, _⟩ := id hDD
  obtain ⟨Al, cl, rfl, hcl1, hcl2, hRl⟩ := id hL
  unfold maxLen at hcl2
  have HD := Lib.hid hD
  have HWT := Lib.hid hL
  have HRL := Lib.hid hRl
  clear hW hDD hD hL hRl
  dsimp only at HD
  by_cases hk : chk ⟨W, q, D, t⟩ = 0
  · have t1 : (chk ⟨W, q, D, t⟩ != 0) = false := by rw [hk]; rfl
    have HK := Lib.hid hk
    have HO := Lib.hid (ok_of hk)
    have HL : Hid (lt20 ⟨W, q, D, t⟩) := Lib.hid (by have ho := ok_of hk; exact ⟨by rw [ho.w3]; decide, by rw [ho.d3]; decide⟩)
    have hmk := fun w => mkBool w l.length (by omega)
    clear hk
    go_enter Try.func28, Try.ntmps28
    go_wp2_with fail
    refine (rCheck_any ⟨W, q, D, t⟩ _ _ ((HD.out.alloc _).alloc _)).mono ?_
    rintro e w1 ⟨rfl, hb1⟩
    have kd := ((Blk.new w 24 #[.slice A W.length c, .int .i64 q, .slice A' D.length c', .int .i64 t]).alloc (.cells #[.slice none 0 0, .int .i64 0, .slice none 0 0, .int .i64 0] 24)).below hb1
    have kz := (Blk.new1 w (.cells #[.slice A W.length c, .int .i64 q, .slice A' D.length c', .int .i64 t] 24) 24 #[.slice none 0 0, .int .i64 0, .slice none 0 0, .int .i64 0]).below hb1
    have hB1 : Below w.heap.size w w1 := bnext (bal (bal (Below.refl w.heap.size w) _) _) hb1
    have hs1 : w.heap.size + 1 < w1.heap.size := kz.lt
    have hlz := kz.lt
    have KD := Lib.hid kd
    have KZ := Lib.hid kz
    obtain ⟨x0, x1, x2, x3⟩ := kd.c4
    obtain ⟨f0, f1, f2, f3⟩ := kd.f4
    obtain ⟨y0, y1, y2, y3⟩ := kz.c4
    obtain ⟨g0, g1, g2, g3⟩ := kz.f4
    clear kd kz hb1
    go_wp2_with fail
    go_loop [10] (fun a => ∃ k : Nat, k ≤ l.length ∧ a = .int .i64 k ∧ WtMid l k) (fun a => l.length - (intOf a).toNat)
    case atStart => exact ⟨0, by omega, rfl, fun i hi => by omega⟩
    case round =>
      obtain ⟨k, hk, rfl, hM⟩ := hrel
      have HM := Lib.hid hM
      clear hM
      by_cases hlt : k < l.length
      · have hi : (k : Int) < l.length := by omega
        obtain ⟨x, hx⟩ : ∃ x, l[k]? = some x := ⟨_, List.getElem?_eq_getElem hlt⟩
        obtain ⟨A2, c2', e2, _, _, hR⟩ := HWT.out.below hB1
        cases e2
        obtain ⟨bb, oo, rfl, hbb, d0, d1⟩ := reads_fl2 wt2 hR rfl hx rfl
        have HX := Lib.hid hx
        clear hx hR
        by_cases c1 : x.p < 0
        · have HE := Lib.hid (ord_err (ordE_bad (b := b) HK.out (WtMid.hit hlt (by rw [wtAt_of HX.out]; simp [wtBad, c1]))) (by decide))
          go_wp2_with fail
          refine bodyPost_ret (v := .tuple #[.slice none 0 0, .agg #[.slice none 0 0, .int .i64 0, .slice none 0 0, .int .i64 0], .int .i64 2]) (by simp [results, Try.results28, go_sem, y0, y1, y2, y3, hlz]) rfl ?_
          rw [HE.out]
          exact ⟨_, _, rfl, SlAt.nil _ 1, zDr_v _, (by repeat (first | with_reducible exact Below.refl _ _ | with_reducible refine Below.drew ?_ | with_reducible refine below_drewN ?_ _ | with_reducible refine bal ?_ _ | with_reducible refine bset ?_ (by first | (simp; done) | (simp; omega)) _ | with_reducible refine bnext ?_ (by assumption) | with_reducible assumption))⟩
        by_cases c2 : 2 < x.p
        · have HE := Lib.hid (ord_err (ordE_bad (b := b) HK.out (WtMid.hit hlt (by rw [wtAt_of HX.out]; simp [wtBad]; omega))) (by decide))
          go_wp2_with fail
          refine bodyPost_ret (v := .tuple #[.slice none 0 0, .agg #[.slice none 0 0, .int .i64 0, .slice none 0 0, .int .i64 0], .int .i64 2]) (by simp [results, Try.results28, go_sem, y0, y1, y2, y3, hlz]) rfl ?_
          rw [HE.out]
          exact ⟨_, _, rfl, SlAt.nil _ 1, zDr_v _, (by repeat (first | with_reducible exact Below.refl _ _ | with_reducible refine Below.drew ?_ | with_reducible refine below_drewN ?_ _ | with_reducible refine bal ?_ _ | with_reducible refine bset ?_ (by first | (simp; done) | (simp; omega)) _ | with_reducible refine bnext ?_ (by assumption) | with_reducible assumption))⟩
        by_cases c3 : x.s < 1
        · have HE := Lib.hid (ord_err (ordE_bad (b := b) HK.out (WtMid.hit hlt (by rw [wtAt_of HX.out]; simp [wtBad, c3]))) (by decide))
          go_wp2_with fail
          refine bodyPost_ret (v := .tuple #[.slice none 0 0, .agg #[.slice none 0 0, .int .i64 0, .slice none 0 0, .int .i64 0], .int .i64 2]) (by simp [results, Try.results28, go_sem, y0, y1, y2, y3, hlz]) rfl ?_
          rw [HE.out]
          exact ⟨_, _, rfl, SlAt.nil _ 1, zDr_v _, (by repeat (first | with_reducible exact Below.refl _ _ | with_reducible refine Below.drew ?_ | with_reducible refine below_drewN ?_ _ | with_reducible refine bal ?_ _ | with_reducible refine bset ?_ (by first | (simp; done) | (simp; omega)) _ | with_reducible refine bnext ?_ (by assumption) | with_reducible assumption))⟩
        by_cases c4 : 1200 < x.s
        · have HE := Lib.hid (ord_err (ordE_bad (b := b) HK.out (WtMid.hit hlt (by rw [wtAt_of HX.out]; simp [wtBad, c4]))) (by decide))
          go_wp2_with fail
          refine bodyPost_ret (v := .tuple #[.slice none 0 0, .agg #[.slice none 0 0, .int .i64 0, .slice none 0 0, .int .i64 0], .int .i64 2]) (by simp [results, Try.results28, go_sem, y0, y1, y2, y3, hlz]) rfl ?_
          rw [HE.out]
          exact ⟨_, _, rfl, SlAt.nil _ 1, zDr_v _, (by repeat (first | with_reducible exact Below.refl _ _ | with_reducible refine Below.drew ?_ | with_reducible refine below_drewN ?_ _ | with_reducible refine bal ?_ _ | with_reducible refine bset ?_ (by first | (simp; done) | (simp; omega)) _ | with_reducible refine bnext ?_ (by assumption) | with_reducible assumption))⟩
        have HGOOD : Hid (wtBad (wtAt l k) = false) := Lib.hid (by rw [wtAt_of HX.out]; simp [wtBad]; omega)
        go_wp2_with fail
        go_round
        case rel => exact ⟨k + 1, by omega, by go_num, HM.out.next HGOOD.out⟩
        case measure => simp [intOf]; omega
      · obtain rfl : k = l.length := by omega
        have HANY := Lib.hid (WtMid.all HM.out)
        by_cases hbn : b < 0
        · have HE := Lib.hid (ord_err (ordE_neg (l := l) HK.out HANY.out hbn) (by decide))
          go_wp2_with fail
          refine bodyPost_ret (v := .tuple #[.slice none 0 0, .agg #[.slice none 0 0, .int .i64 0, .slice none 0 0, .int .i64 0], .int .i64 2]) (by simp [results, Try.results28, go_sem, y0, y1, y2, y3, hlz]) rfl ?_
          rw [HE.out]
          exact ⟨_, _, rfl, SlAt.nil _ 1, zDr_v _, (by repeat (first | with_reducible exact Below.refl _ _ | with_reducible refine Below.drew ?_ | with_reducible refine below_drewN ?_ _ | with_reducible refine bal ?_ _ | with_reducible refine bset ?_ (by first | (simp; done) | (simp; omega)) _ | with_reducible refine bnext ?_ (by assumption) | with_reducible assumption))⟩
        have HOE : Hid (ordE ⟨W, q, D, t⟩ l b = 0) := Lib.hid (ordE_ok HK.out HANY.out hbn)
        obtain ⟨RES, hRES⟩ : ∃ RES, RES = ordL l l.length ⟨W, q, D, t⟩ (que l l.length) b := ⟨_, rfl⟩
        have HRES := Lib.hid hRES
        have HORD : Hid (ord ⟨W, q, D, t⟩ l b = (RES.1, RES.2, 0)) := Lib.hid (by unfold ord; rw [if_neg (by rw [HOE.out]; decide), HRES.out])
        clear hRES HM
        go_wp2_with fail
        refine (rcopied_any ⟨W, q, D, t⟩ _ _ (HD.out.below hB1) HL.out).mono ?_
        rintro e w2 ⟨B1, k1, B2, k2, rfl, oW, oD, ap, hb2'⟩
        dsimp only at oW oD ap ⊢
        have hW3 : W.length = 3 := HO.out.w3
        have hD3 : D.length = 3 := HO.out.d3
        obtain ⟨gw, rfl, rW⟩ := row3_of oW hW3
        obtain ⟨gd, rfl, rD⟩ := row3_of oD hD3
        rw [hW3, hD3]
        have hz2 := hb2'.size
        have hgw := rW.lt
        have hgd := rD.lt
        have kd2 := KD.out.below hb2'
        have kz2 := KZ.out.below hb2'
        have hB2 := bnext hB1 hb2'
        clear x0 x1 x2 x3 f0 f1 f2 f3 y0 y1 y2 y3 g0 g1 g2 g3
        obtain ⟨x0, x1, x2, x3⟩ := kd2.c4
        obtain ⟨f0, f1, f2, f3⟩ := kd2.f4
        have KD2 := Lib.hid kd2
        have KZ2 := Lib.hid kz2
        have RW := Lib.hid rW
        have RD := Lib.hid rD
        have hlx := kd2.lt
        clear kd2 kz2 rW rD oW oD ap hb2' KD KZ hW3 hD3
        go_upto_region 13 with fail
        have kk : RK w (((((w2.setCell ⟨w.heap.size, 0, none⟩ (.slice (some ⟨gw, 0, none⟩) 3 k1)).setCell ⟨w.heap.size, 1, none⟩ (.int .i64 q)).setCell ⟨w.heap.size, 2, none⟩ (.slice (some ⟨gd, 0, none⟩) 3 k2)).setCell ⟨w.heap.size, 3, none⟩ (.int .i64 t)).alloc (.cells (madeCells #[.bool false] l.length) 4)) w.heap.size (w.heap.size + 1) w2.heap.size w1.heap.size (List.replicate l.length false) (.slice none 0 0) [] ⟨W, q, D, t⟩ gw k1 gd k2 := by
          refine ⟨((((KD2.out.set 0 _).set 1 _).set 2 _).set 3 _).alloc _, ?_, ?_, ?_, ?_, World.ownsRow_nil _ _ _ _, (by repeat (first | with_reducible exact Below.refl _ _ | with_reducible refine Below.drew ?_ | with_reducible refine below_drewN ?_ _ | with_reducible refine bal ?_ _ | with_reducible refine bset ?_ (by first | (simp; done) | (simp; omega)) _ | with_reducible refine bnext ?_ (by assumption) | with_reducible assumption)), by omega, by omega, fun k e => by simp [Value.ownBlock] at e, by omega, by omega, by omega, by omega, by omega⟩
          · refine Row3.alloc ?_ _
            repeat (first | exact RW.out | with_reducible refine Row3.far ?_ (by show gw ≠ w.heap.size; omega) _)
          · refine Row3.alloc ?_ _
            repeat (first | exact RD.out | with_reducible refine Row3.far ?_ (by show gd ≠ w.heap.size; omega) _)
          · refine Blk.alloc ?_ _
            repeat (first | exact KZ2.out | with_reducible refine Blk.far ?_ (by show w.heap.size + 1 ≠ w.heap.size; omega) _)
          · have := mkOwnB ((((w2.setCell ⟨w.heap.size, 0, none⟩ (.slice (some ⟨gw, 0, none⟩) 3 k1)).setCell ⟨w.heap.size, 1, none⟩ (.int .i64 q)).setCell ⟨w.heap.size, 2, none⟩ (.slice (some ⟨gd, 0, none⟩) 3 k2)).setCell ⟨w.heap.size, 3, none⟩ (.int .i64 t)) l.length w1.heap.size (by omega) (by simp; omega)
            simpa using this
        generalize ((((w2.setCell ⟨w.heap.size, 0, none⟩ (.slice (some ⟨gw, 0, none⟩) 3 k1)).setCell ⟨w.heap.size, 1, none⟩ (.int .i64 q)).setCell ⟨w.heap.size, 2, none⟩ (.slice (some ⟨gd, 0, none⟩) 3 k2)).setCell ⟨w.heap.size, 3, none⟩ (.int .i64 t)).alloc (.cells (madeCells #[.bool false] l.length) 4) = w3 at kk ⊢
        obtain ⟨gT, hgT⟩ : ∃ g, g = w2.heap.size := ⟨_, rfl⟩
        obtain ⟨base, hbase⟩ : ∃ g, g = w1.heap.size := ⟨_, rfl⟩
        rw [← hgT, ← hbase] at kk
        rw [← hgT]
        have K := Lib.hid kk
        have HBS := Lib.hid hbase
        have hg7 : w.heap.size + 1 < base := by omega
        clear kk x0 x1 x2 x3 f0 f1 f2 f3 KD2 KZ2 RW RD hgT hbase hmk
        go_wp2_with fail
        go_loopg [2, 12] l.length (fun g s2 s12 wy => ∃ b' : Int, s2 = .int .i64 b' ∧ RMid w l w.heap.size (w.heap.size + 1) gT base RES g b' s12 wy)
        case atStart =>
          exact ⟨b, rfl, _, _, _, [], _, _, _, _, que_all HANY.out, Tk.start l, que_ok HANY.out, HO.out, by omega, hb2, by rw [HRES.out]; rfl, by simp, K.out⟩
        case round =>
          obtain ⟨b', rfl, hR⟩ := hrel
          obtain ⟨wy, rfl⟩ : ∃ wy : World, wy = wr := ⟨_, rfl⟩
          obtain ⟨T, Q', ⟨W', q', D', t'⟩, out, gw', cw, gd', cd, hql, htk, hqo, hdo, hb0, hbm, hres, hol, kk⟩ := hR
          obtain ⟨Ao, co, rfl⟩ := kk.bo.form
          have hnl : (nums out).length = out.length := by simp [nums]
          have hgw' := kk.rW.lt
          have hgd' := kk.rD.lt
          have hlT := kk.bt.lt
          have hBy := kk.hB
          have KK := Lib.hid kk
          have HQL' := Lib.hid hql
          have HTK := Lib.hid htk
          have HQO' := Lib.hid hqo
          have HDO := Lib.hid hdo
          have HRS := Lib.hid hres
          have NL := Lib.hid hnl
          clear kk hql htk hqo hdo hres K
          by_cases hz : gk = 0
          · subst hz
            have HFIN : Hid (RES = (out, ⟨W', q', D', t'⟩)) := Lib.hid (by rw [← HRS.out, ordL_zero (qlen_zero HQL'.out), List.append_nil])
            have hn1 : ¬ (nums out).length < l.length := by omega
            have hn2 : ¬ ((nums out).length : Int) < l.length := by omega
            have hl7 : w.heap.size + 1 < wy.heap.size := KK.out.b7.lt
            clear hnl hol
            obtain ⟨x0, x1, x2, x3⟩ := KK.out.b3.c4
            obtain ⟨y0, y1, y2, y3⟩ := KK.out.b7.c4
            obtain ⟨g0, g1, g2, g3⟩ := KK.out.b7.f4
            dsimp only at x0 x1 x2 x3
            go_upto_region 30 with fail
            have hne1 : ¬ w.heap.size = w.heap.size + 1 := by omega
            go_region
            all_goals
              go_wp2_with fail
              refine bodyPost_ret (v := .tuple #[.slice Ao (nums out).length co, .agg #[.slice (some ⟨gw', 0, none⟩) 3 cw, .int .i64 q', .slice (some ⟨gd', 0, none⟩) 3 cd, .int .i64 t'], .int .i64 0]) (by simp [results, Try.results28, go_sem, y0, y1, y2, y3]) rfl ?_
              rw [HORD.out, HFIN.out]
              refine ⟨_, _, rfl, ?_, ⟨_, _, rfl, ?_, ?_⟩, (by repeat (first | with_reducible exact Below.refl _ _ | with_reducible refine Below.drew ?_ | with_reducible refine below_drewN ?_ _ | with_reducible refine bal ?_ _ | with_reducible refine bset ?_ (by first | (simp; done) | (simp; omega)) _ | with_reducible refine bnext ?_ (by assumption) | with_reducible assumption))⟩
              · refine OwnI.at (base := base) ?_
                repeat (first | with_reducible exact KK.out.bo | with_reducible refine OwnI.drew ?_ | with_reducible refine OwnI.low ?_ (by show w.heap.size + 1 < base; omega) _)
              · refine Row3.at (B := base) (c := cw) ?_
                dsimp only
                repeat (first | with_reducible exact KK.out.rW | with_reducible refine Row3.drew ?_ | with_reducible refine Row3.far ?_ (by show gw' ≠ w.heap.size + 1; omega) _)
              · refine Row3.at (B := base) (c := cd) ?_
                dsimp only
                repeat (first | with_reducible exact KK.out.rD | with_reducible refine Row3.drew ?_ | with_reducible refine Row3.far ?_ (by show gd' ≠ w.heap.size + 1; omega) _)
          have hn1 : (nums out).length < l.length := by omega
          have hn2 : ((nums out).length : Int) < l.length := by omega
          have HZ := Lib.hid (qlen_pos HQO'.out (by rw [HQL'.out]; omega))
          have HTL := Lib.hid HTK.out.len
          have HBT : Hid (∀ wz : World, Below wy.heap.size wy wz → BoolAt wz (.slice (some ⟨gT, 0, none⟩) l.length l.length) T) := Lib.hid (fun wz hb => by
            have := (KK.out.bt.below hb).at
            rwa [HTL.out] at this)
          clear hnl
          go_wp2_with fail
          go_loopw [14] (fun a wr => ∃ k : Nat, k ≤ 3 ∧ a = .int .i64 k ∧ Blk wr wy.heap.size 3 (ints (hkk l Q' k)).toArray ∧ Below wy.heap.size wy wr) (fun a _ => 3 - (intOf a).toNat)
          case atStart => exact ⟨0, by omega, rfl, Blk.new _ _ _, bal (Below.refl _ _) _⟩
          case round =>
            obtain ⟨k, hk, rfl, kH, hBk⟩ := hrel
            obtain ⟨wx, rfl⟩ : ∃ wx : World, wx = wr := ⟨_, rfl⟩
            have hBx : Below w.heap.size w wx := bnext hBy hBk
            have KH := Lib.hid kH
            have HBK := Lib.hid hBk
            clear kH
            by_cases hlt : k < 3
            · have hi : (k : Int) < 3 := by omega
              have hk0 : (0 : Int) ≤ k := by omega
              go_wp2_with fail
              refine (first_any l T k _ _ wx (HWT.out.below hBx) (HBT.out _ HBK.out) HTL.out (by omega)).mono ?_
              rintro e wz ⟨rfl, hbz⟩
              rw [HTK.out.first hlt]
              have kz := KH.out.below hbz
              have hBz : Below wy.heap.size wy wz := hBk.trans (hbz.mono hBk.size)
              have hBwz : Below w.heap.size w wz := bnext hBx hbz
              cases hq : Q' k with
              | nil =>
                have HS : Hid (hkk l Q' (k + 1) = hkk l Q' k) := Lib.hid (hkk_same hlt (by rw [hq]; rfl))
                have KZ := Lib.hid kz
                have HBZ := Lib.hid hBz
                clear hq kz hBz hbz
                rw [show fst1 [] = -1 from rfl]
                go_wp2_with fail
                go_roundw
                case rel => exact ⟨k + 1, by omega, by go_num, by rw [HS.out]; exact KZ.out, HBZ.out⟩
                case measure => simp [intOf]; omega
              | cons i r =>
                have hil := (HQO'.out.i k hlt i (by rw [hq]; exact List.mem_cons_self)).1
                have hi1 : (i : Int) < l.length := by omega
                have hi0 : (0 : Int) ≤ i := by omega
                have HS : Hid ((hkk l Q' k).set k (wtAt l i).s = hkk l Q' (k + 1)) := Lib.hid (by
                  have := hkk_set l Q' k hlt
                  rw [hq] at this
                  exact this)
                obtain ⟨x, hx⟩ : ∃ x, l[i]? = some x := ⟨_, List.getElem?_eq_getElem hil⟩
                have HX := Lib.hid (wtAt_of hx)
                obtain ⟨A2, c2', e2, _, _, hR⟩ := HWT.out.below hBwz
                cases e2
                obtain ⟨bb, oo, rfl, hbb, d0, d1⟩ := reads_fl2 wt2 hR rfl hx rfl
                have eH := arr3 kz rfl k hlt
                have fH := kz.frozen k
                have KZ := Lib.hid kz
                have HBZ := Lib.hid hBz
                clear hq kz hBz hbz hx hR
                rw [show fst1 (i :: r) = (i : Int) from rfl]
                go_wp2_with fail
                go_roundw
                case rel =>
                  refine ⟨k + 1, by omega, by go_num, ?_, HBZ.out.setCell (Nat.le_refl _) _⟩
                  rw [← HS.out, HX.out]
                  exact arr3_set KZ.out rfl k hlt _
                case measure => simp [intOf]; omega
            · obtain rfl : k = 3 := by omega
              rw [show (((3 : Nat)) : Int) = 3 from rfl] at *
              obtain ⟨tn, rfl⟩ : ∃ tn : Nat, t' = tn := ⟨t'.toNat, by have := HDO.out.t0; dsimp only at this; omega⟩
              obtain ⟨hp3, i, r, hQp⟩ := served_some HDO.out HQO'.out HZ.out
              have HHO := hds_hok HQO'.out HZ.out
              obtain ⟨hnn, hsv⟩ := turns_serve HDO.out HHO
              obtain ⟨E1, pn, hE⟩ : ∃ E1 pn, ends ⟨W', q', D', (tn : Int)⟩ (hds l Q') = (E1, pn) := ⟨_, _, rfl⟩
              rw [hE] at hp3 hQp
              dsimp only at hp3 hQp
              obtain ⟨N, hN⟩ : ∃ N, N = turns ⟨W', q', D', (tn : Int)⟩ (hds l Q') := ⟨_, rfl⟩
              have hE2 : pas W' q' (hds l Q') (D', tn) N = (E1, pn) := by rw [hN]; exact hE
              rw [← hN] at hnn hsv
              have hpb := HHO.b _ (at0_mem (l := hds l Q') (i := pn) (by show pn < 3; exact hp3))
              have hpi : (pn : Int) < 3 := by omega
              have hpi0 : (0 : Int) ≤ pn := by omega
              have kH : Blk wx wy.heap.size 3 (ints (hds l Q')).toArray := KH.out
              have K4 := Lib.hid (KK.out.below HBK.out)
              obtain ⟨x0, x1, x2, x3⟩ := K4.out.b3.c4
              dsimp only at x0 x1 x2 x3
              have HE2 := Lib.hid hE2
              have HEE := Lib.hid hE
              have HNN := Lib.hid hnn
              have HSV := Lib.hid hsv
              have HQP := Lib.hid hQp
              have HHOK := Lib.hid HHO
              have HH := Lib.hid kH
              have HL6 : Hid (lt20 ⟨W', q', D', (tn : Int)⟩) := Lib.hid ⟨by have := HDO.out.w3; dsimp only at this; show W'.length ≤ 100000; omega, by have := HDO.out.d3; dsimp only at this; show D'.length ≤ 100000; omega⟩
              clear hE hN hE2 hnn hsv hQp HHO kH KH
              go_wp2_with fail
              refine (rcopied_any ⟨W', q', D', (tn : Int)⟩ _ _ K4.out.v HL6.out).mono ?_
              rintro e w6 ⟨C1, m1, C2, m2, rfl, oW, oD, ap, hb6⟩
              dsimp only at oW oD ap ⊢
              have hW3 : W'.length = 3 := HDO.out.w3
              have hD3 : D'.length = 3 := HDO.out.d3
              obtain ⟨gw2, rfl, rW⟩ := row3_of oW hW3
              obtain ⟨gd2, rfl, rD⟩ := row3_of oD hD3
              have hn1' : gw2 ≠ gd2 := fun e => ap gw2 rfl (by rw [e]; rfl)
              rw [hW3, hD3]
              have hgw2 := rW.lt
              have hgd2 := rD.lt
              have hz6 := hb6.size
              have hwx : wy.heap.size + 1 ≤ wx.heap.size := by have := HH.out.lt; omega
              have hh6 : Hd3 w6 wy.heap.size 0 (hds l Q') := ⟨by omega, rfl, fun p hp => by rw [Nat.zero_add]; exact arr3 (HH.out.below hb6) rfl p hp⟩
              have H6 := Lib.hid hh6
              have RW6 := Lib.hid rW
              have RD6 := Lib.hid rD
              have HB6 := Lib.hid hb6
              clear hh6 rW rD hb6 oW oD ap hW3 hD3 x0 x1 x2 x3
              go_wp2_with fail
              refine (rserve_any W' q' (hds l Q') D' tn N HDO.out.w HDO.out.q0 HDO.out.q1 (ok_sok HDO.out) HHOK.out.b HNN.out HSV.out wx.heap.size gw2 m1 gd2 m2 wy.heap.size 0 3 w6 hz6 (by unfold maxLen; omega) RW6.out RD6.out hn1' (by omega) H6.out).mono ?_
              rintro e w8 ⟨rfl, hD8, hb8⟩
              rw [HE2.out] at hD8 ⊢
              dsimp only at hD8 ⊢
              have hbx8 : Below wx.heap.size wx w8 := HB6.out.trans (hb8.to_below (fun k e => by have : k = gd2 := e; omega) (by omega))
              have hby8 : Below wy.heap.size wy w8 := HBK.out.trans (hbx8.mono HBK.out.size)
              have rw8 : Row3 w8 wx.heap.size gw2 m1 W' := own_only RW6.out hb8 (fun g e => by simp [Value.ownBlock] at e; omega)
              have k8 := K4.out.below hbx8
              have h8 := HH.out.below hbx8
              have hB8 : Below w.heap.size w w8 := bnext hBx hbx8
              have hs8 := hbx8.size
              have RW8 := Lib.hid rw8
              have RD8 := Lib.hid hD8
              have K8 := Lib.hid k8
              have H8 := Lib.hid h8
              have eH : (w8.alloc (.cells #[.slice (some ⟨gw2, 0, none⟩) 3 m1, .int .i64 q', .slice (some ⟨gd2, 0, none⟩) 3 m2, .int .i64 (pn : Int)] 24)).cell? ⟨wy.heap.size, pn, none⟩ = some (.int .i64 (at0 (hds l Q') pn)) := arr3 (h8.alloc _) rfl pn hp3
              have hlh8 := h8.lt
              have hgl8 := rw8.lt
              have hgm8 := hD8.lt
              clear hD8 hb8 rw8 k8 h8 RW6 RD6 H6 HB6 hbx8
              by_cases hgt : b' < at0 (hds l Q') pn
              · have hgg : at0 (hds l Q') pn > b' := hgt
                have HFIN : Hid (RES = (out, ⟨W', q', D', (tn : Int)⟩)) := Lib.hid (by rw [← HRS.out, ordL_stop (by rw [HEE.out]; exact hgt), List.append_nil])
                have K9 := Lib.hid (K8.out.alloc (.cells #[.slice (some ⟨gw2, 0, none⟩) 3 m1, .int .i64 q', .slice (some ⟨gd2, 0, none⟩) 3 m2, .int .i64 (pn : Int)] 24))
                have hl7 : w.heap.size + 1 < w8.heap.size := K8.out.b7.lt
                go_upto_region 24 with fail
                generalize w8.alloc (.cells #[.slice (some ⟨gw2, 0, none⟩) 3 m1, .int .i64 q', .slice (some ⟨gd2, 0, none⟩) 3 m2, .int .i64 (pn : Int)] 24) = w9 at K9 ⊢
                clear eH
                obtain ⟨x0, x1, x2, x3⟩ := K9.out.b3.c4
                obtain ⟨y0, y1, y2, y3⟩ := K9.out.b7.c4
                obtain ⟨g0, g1, g2, g3⟩ := K9.out.b7.f4
                dsimp only at x0 x1 x2 x3
                have hne1 : ¬ w.heap.size = w.heap.size + 1 := by omega
                have hB9 := K9.out.hB
                go_region
                all_goals
                  go_wp2_with fail
                  refine bodyPost_ret (v := .tuple #[.slice Ao (nums out).length co, .agg #[.slice (some ⟨gw', 0, none⟩) 3 cw, .int .i64 q', .slice (some ⟨gd', 0, none⟩) 3 cd, .int .i64 (tn : Int)], .int .i64 0]) (by simp [results, Try.results28, go_sem, y0, y1, y2, y3]) rfl ?_
                  rw [HORD.out, HFIN.out]
                  refine ⟨_, _, rfl, ?_, ⟨_, _, rfl, ?_, ?_⟩, (by repeat (first | with_reducible exact Below.refl _ _ | with_reducible refine Below.drew ?_ | with_reducible refine below_drewN ?_ _ | with_reducible refine bal ?_ _ | with_reducible refine bset ?_ (by first | (simp; done) | (simp; omega)) _ | with_reducible refine bnext ?_ (by assumption) | with_reducible assumption))⟩
                  · refine OwnI.at (base := base) ?_
                    repeat (first | with_reducible exact K9.out.bo | with_reducible refine OwnI.drew ?_ | with_reducible refine OwnI.low ?_ (by show w.heap.size + 1 < base; omega) _)
                  · refine Row3.at (B := base) (c := cw) ?_
                    dsimp only
                    repeat (first | with_reducible exact K9.out.rW | with_reducible refine Row3.drew ?_ | with_reducible refine Row3.far ?_ (by show gw' ≠ w.heap.size + 1; omega) _)
                  · refine Row3.at (B := base) (c := cd) ?_
                    dsimp only
                    repeat (first | with_reducible exact K9.out.rD | with_reducible refine Row3.drew ?_ | with_reducible refine Row3.far ?_ (by show gd' ≠ w.heap.size + 1; omega) _)
              have hng : ¬ at0 (hds l Q') pn > b' := hgt
              have hqp := HQO'.out.i pn hp3 i (by rw [HQP.out]; exact List.mem_cons_self)
              have hil : i < l.length := hqp.1
              have hi1 : (i : Int) < l.length := by omega
              have hi0 : (0 : Int) ≤ i := by omega
              obtain ⟨x, hx⟩ : ∃ x, l[i]? = some x := ⟨_, List.getElem?_eq_getElem hil⟩
              have HX := Lib.hid hx
              have HXS : Hid (at0 (hds l Q') pn = x.s) := Lib.hid (by rw [hds_at hp3, HQP.out]; show (wtAt l i).s = _; rw [wtAt_of hx])
              have hxs : 1 ≤ x.s ∧ x.s ≤ 1200 ∧ x.s ≤ b' := by
                have h1 := wtAt_of hx
                have h2 := hqp.2.2
                rw [h1] at h2
                have h3 := HXS.out
                omega
              have WS : IntKind.i64.wrap (b' - x.s) = b' - x.s := IntWalk.i64_in _ (by omega)
              have K9 := Lib.hid (K8.out.alloc (.cells #[.slice (some ⟨gw2, 0, none⟩) 3 m1, .int .i64 q', .slice (some ⟨gd2, 0, none⟩) 3 m2, .int .i64 (pn : Int)] 24))
              have B9 := Lib.hid (Blk.new w8 24 #[.slice (some ⟨gw2, 0, none⟩) 3 m1, .int .i64 q', .slice (some ⟨gd2, 0, none⟩) 3 m2, .int .i64 (pn : Int)])
              have RW9 := Lib.hid (RW8.out.alloc (.cells #[.slice (some ⟨gw2, 0, none⟩) 3 m1, .int .i64 q', .slice (some ⟨gd2, 0, none⟩) 3 m2, .int .i64 (pn : Int)] 24))
              have RD9 := Lib.hid (RD8.out.alloc (.cells #[.slice (some ⟨gw2, 0, none⟩) 3 m1, .int .i64 q', .slice (some ⟨gd2, 0, none⟩) 3 m2, .int .i64 (pn : Int)] 24))
              have hBw9 : Below w.heap.size w (w8.alloc (.cells #[.slice (some ⟨gw2, 0, none⟩) 3 m1, .int .i64 q', .slice (some ⟨gd2, 0, none⟩) 3 m2, .int .i64 (pn : Int)] 24)) := bal hB8 _
              have hb89 : Below wy.heap.size wy (w8.alloc (.cells #[.slice (some ⟨gw2, 0, none⟩) 3 m1, .int .i64 q', .slice (some ⟨gd2, 0, none⟩) 3 m2, .int .i64 (pn : Int)] 24)) := bal hby8 _
              obtain ⟨bb, oo, rfl, hbb, d0, d1⟩ := reads_fl2 wt2 HRL.out rfl hx rfl
              have hTi : i < T.length := by have := HTL.out; omega
              have hz8 : wx.heap.size ≤ w8.heap.size := hs8
              clear hx hqp d0
              go_wp2_with fail
              refine (first_any l T pn _ _ _ (HWT.out.below hBw9) (HBT.out _ hb89) HTL.out (by omega)).mono ?_
              rintro e wa ⟨rfl, hba⟩
              rw [HTK.out.first hp3, HQP.out, show fst1 (i :: r) = (i : Int) from rfl]
              obtain ⟨g16, hg16⟩ : ∃ g, g = w8.heap.size := ⟨_, rfl⟩
              rw [← hg16]
              have k10 := K9.out.below hba
              have b10 := B9.out.below hba
              rw [← hg16] at b10
              have rw10 := RW9.out.below hba
              have rd10 := RD9.out.below hba
              have hlg16 := b10.lt
              have fT := k10.bt.frozen i
              have eT := k10.bt.cell i hTi
              have K10 := Lib.hid k10
              have B10 := Lib.hid b10
              have RW10 := Lib.hid rw10
              have RD10 := Lib.hid rd10
              have HG16 := Lib.hid hg16
              have hg16' : wx.heap.size ≤ g16 := by omega
              have hg16w : gw2 ≠ g16 := by omega
              have hg16d : gd2 ≠ g16 := by omega
              clear k10 b10 rw10 rd10 hba hg16 eH K9 B9 RW9 RD9
              go_upto_region 27 with fail
              have k11 := K10.out.setT i hTi true
              have b11 := B10.out.far (p := ⟨gT, i, none⟩) (by show g16 ≠ gT; omega) (.bool true)
              have rw11 := RW10.out.far (p := ⟨gT, i, none⟩) (by show gw2 ≠ gT; omega) (.bool true)
              have rd11 := RD10.out.far (p := ⟨gT, i, none⟩) (by show gd2 ≠ gT; omega) (.bool true)
              have hsz11 : wa.heap.size = (wa.setCell ⟨gT, i, none⟩ (.bool true)).heap.size := by simp
              generalize wa.setCell ⟨gT, i, none⟩ (.bool true) = w11 at k11 b11 rw11 rd11 hsz11 ⊢
              have hlob : ∀ k, (Value.slice Ao (nums out).length co).ownBlock = some k → base ≤ k ∧ k < wy.heap.size := World.ownsRow.lt KK.out.bo
              have hbase : base ≤ w11.heap.size := by have := k11.bt.lt; omega
              have hz11 := hsz11
              have K11 := Lib.hid k11
              have B11 := Lib.hid b11
              have RW11 := Lib.hid rw11
              have RD11 := Lib.hid rd11
              have HLOB := Lib.hid hlob
              clear fT eT k11 b11 rw11 rd11 K10 B10 RW10 RD10 hlob hsz11
              have hn16 : ∀ k, (Value.slice Ao (nums out).length co).ownBlock = some k → k ≠ g16 := fun k e => by have := HLOB.out k e; omega
              have hnw : ∀ g n c, wx.heap.size ≤ g → (Value.slice (some ⟨g, 0, none⟩) n c).ownBlock ≠ (Value.slice Ao (nums out).length co).ownBlock := fun g n c hg e => by have := HLOB.out g e.symm; omega
              have hw2 : (Value.slice (some ⟨gw2, 0, none⟩) 3 m1).ownBlock ≠ (Value.slice Ao (nums out).length co).ownBlock := hnw _ _ _ (by omega)
              have hd2 : (Value.slice (some ⟨gd2, 0, none⟩) 3 m2).ownBlock ≠ (Value.slice Ao (nums out).length co).ownBlock := hnw _ _ _ (by omega)
              have HL3 := Lib.hid (show (nums out).length + 1 ≤ 1001 by rw [NL.out]; omega)
              have HN16 := Lib.hid hn16
              have HW2 := Lib.hid hw2
              have HD2 := Lib.hid hd2
              clear hn16 hnw hw2 hd2
              go_wp2_with (first | (at_builtin; refine wpList_app1n (f := one) rfl _ _ 22 rfl base 3 1 8 infoI rfl (by decide) Try.underlying22 one1 one_one w11 w w.heap.size (i : Int) (nums out) _ (by rfl) (by rfl) K11.out.bo K11.out.hB (by omega) hbase (by have := HL3.out; omega) (by have := HL3.out; unfold maxLen; omega) ?_; intro A9 c9 w12 hown9 hB9 hg9 hnew9; have k12 := K11.out.app1 hg9 hnew9 hown9; have b12 := blk_grown (B11.out.alloc (.cells (one (i : Int)).toArray 3)) hg9 HN16.out; have rw12 := World.ownsRow.kept (RW11.out.alloc (.cells (one (i : Int)).toArray 3)) hg9 (.inr HW2.out); have rd12 := World.ownsRow.kept (RD11.out.alloc (.cells (one (i : Int)).toArray 3)) hg9 (.inr HD2.out); have HNEW := Lib.hid hnew9; have e1 := (hB9.cell (p := ⟨bb, oo + i * 2 + 1, none⟩) hbb).trans d1; obtain ⟨x0, x1, x2, x3⟩ := b12.c4; obtain ⟨z0, z1, z2, z3⟩ := k12.b3.c4; obtain ⟨f0, f1, f2, f3⟩ := k12.b3.f4; have K12 := Lib.hid k12; have RW12 := Lib.hid rw12; have RD12 := Lib.hid rd12; have hs12 := hg9.size; clear hown9 hB9 hg9 hnew9 k12 b12 rw12 rd12))
              go_roundg (gk - 1)
              case measure => omega
              case rel =>
                have hss : srv ⟨W', q', D', (tn : Int)⟩ (hds l Q') = ⟨W', q', paid (hds l Q') (E1, pn), (pn : Int)⟩ := by
                  unfold srv
                  rw [HEE.out]
                have hok := srv_ok HDO.out HHOK.out
                rw [hss] at hok
                have hql : qlen (pop Q' pn) = gk - 1 := by
                  have := qlen_pop hp3 HQP.out
                  have := HQL'.out
                  omega
                have hlb := HBT.out
                refine ⟨b' - x.s, rfl, T.set i true, pop Q' pn, ⟨W', q', paid (hds l Q') (E1, pn), (pn : Int)⟩, out ++ [i], gw2, m1, gd2, m2, hql, HTK.out.pop hp3 HQP.out, HQO'.out.pop pn, hok, by omega, by omega, ?_, by rw [List.length_append, List.length_singleton]; omega, ?_⟩
                · have hR1 := HRS.out
                  rw [show gk = (gk - 1) + 1 by omega, ordL_go HZ.out (by rw [HEE.out]; dsimp only; omega) (gk - 1) (i := i) (r := r) (by rw [HEE.out]; exact HQP.out)] at hR1
                  rw [HEE.out, hss] at hR1
                  dsimp only at hR1
                  rw [HXS.out] at hR1
                  rw [← hR1, List.append_assoc]
                  rfl
                · refine K12.out.state (d' := ⟨W', q', paid (hds l Q') (E1, pn), (pn : Int)⟩) (Row3.mono RW12.out (by omega)) (Row3.mono RD12.out (by omega)) (by omega) (by omega) (fun k e => ?_)
                  have hgg := HG16.out
                  rcases HNEW.out k e with a | a
                  · have := HLOB.out k a
                    exact ⟨by omega, by omega⟩
                  · exact ⟨by omega, by omega⟩
  · have t1 : (chk ⟨W, q, D, t⟩ != 0) = true := by simpa using hk
    have HE := Lib.hid (ord_err (d := ⟨W, q, D, t⟩) (l := l) (b := b) (ordE_chk hk) hk)
    clear hk
    go_enter Try.func28, Try.ntmps28
    go_wp2_with fail
    refine (rCheck_any ⟨W, q, D, t⟩ _ _ ((HD.out.alloc _).alloc _)).mono ?_
    rintro e w1 ⟨rfl, hb1⟩
    have kz := (Blk.new1 w (.cells #[.slice A W.length c, .int .i64 q, .slice A' D.length c', .int .i64 t] 24) 24 #[.slice none 0 0, .int .i64 0, .slice none 0 0, .int .i64 0]).below hb1
    have hB1 : Below w.heap.size w w1 := bnext (bal (bal (Below.refl w.heap.size w) _) _) hb1
    have hlz := kz.lt
    obtain ⟨y0, y1, y2, y3⟩ := kz.c4
    obtain ⟨g0, g1, g2, g3⟩ := kz.f4
    clear kz hb1
    go_wp2_with fail
    refine bodyPost_ret (v := .tuple #[.slice none 0 0, .agg #[.slice none 0 0, .int .i64 0, .slice none 0 0, .int .i64 0], .int .i64 (chk ⟨W, q, D, t⟩)]) (by simp [results, Try.results28, go_sem, y0, y1, y2, y3, hlz]) rfl ?_
    rw [HE.out]
    exact ⟨_, _, rfl, SlAt.nil _ 1, zDr_v _, (by repeat (first | with_reducible exact Below.refl _ _ | with_reducible refine Below.drew ?_ | with_reducible refine below_drewN ?_ _ | with_reducible refine bal ?_ _ | with_reducible refine bset ?_ (by first | (simp; done) | (simp; omega)) _ | with_reducible refine bnext ?_ (by assumption) | with_reducible assumption))⟩
end Go.Proofs.Ythkfdfkjenhjmaa
