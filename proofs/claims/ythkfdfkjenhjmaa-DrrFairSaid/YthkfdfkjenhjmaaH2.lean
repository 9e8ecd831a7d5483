/- Contracts: who is served next (the reference). -/
import Derived.Test.YthkfdfkjenhjmaaH
namespace Go.Proofs.Ythkfdfkjenhjmaa
open Go.RowKit
set_option linter.unusedVariables false
set_option linter.unusedSimpArgs false

set_option maxRecDepth 100000 in
set_option maxHeartbeats 8000000 in
theorem rNext_any (d : Dr) (H : List Int) (v u : Value) (w : World) (hD : DrV w v d) (hH : IntAt w u H) :
    Calls Try.prog 18 #[v, u] w (RetND (nxt d H).1 (nxt d H).2.1 (nxt d H).2.2 w) := by
  obtain ⟨W, q, D, t⟩ := d
  obtain ⟨vW, vD, rfl, hW, hDD⟩ := id hD
  obtain ⟨A, c, rfl, _⟩ := id hW
  obtain ⟨A', c', rfl, _⟩ := id hDD
  have HD := Lib.hid hD
  have HH := Lib.hid hH
  clear hW hDD hD hH
  dsimp only at HD
  by_cases hk : chk ⟨W, q, D, t⟩ = 0
  · have t1 : (chk ⟨W, q, D, t⟩ == 0) = true := by simpa using hk
    have HC := Lib.hid hk
    by_cases hh : hdE H = 0
    · have t2 : (hdE H != 0) = false := by rw [hh]; rfl
      have hln : lnE ⟨W, q, D, t⟩ H = 0 := (lnE_hd hk).trans hh
      have HLN := Lib.hid hln
      obtain ⟨ho, hho⟩ := lnE_ok hln
      obtain ⟨hn, hsv⟩ := turns_serve ho hho
      obtain ⟨h0, h1, h2, rfl⟩ := three hho.l3
      obtain ⟨Ah, ch, rfl, hch1, hch2, _⟩ := id HH.out
      obtain ⟨bh, oh, rfl, hd3⟩ := Hd3.of HH.out rfl
      have HCH : Hid (3 ≤ ch ∧ ch ≤ maxLen) := Lib.hid ⟨hch1, hch2⟩
      unfold maxLen at hch2
      have H3 := Lib.hid hd3
      have hlW : W.length = 3 := ho.w3
      have hlD : D.length = 3 := ho.d3
      obtain ⟨t0, rfl⟩ : ∃ t0 : Nat, t = t0 := ⟨t.toNat, by have := ho.t0; dsimp only at this; omega⟩
      have HL : Hid (lt20 ⟨W, q, D, (t0 : Int)⟩) := Lib.hid ⟨by show W.length ≤ 100000; omega, by show D.length ≤ 100000; omega⟩
      have HO := Lib.hid ho
      have HHO := Lib.hid hho
      have HSV := Lib.hid hsv
      have HN := Lib.hid hn
      have HLW := Lib.hid hlW
      have HLD := Lib.hid hlD
      clear hk hh hln ho hho hsv hn hlW hlD hd3
      go_enter Try.func18, Try.ntmps18
      go_wp2_with fail
      refine (rCheck_any ⟨W, q, D, (t0 : Int)⟩ _ _ ((HD.out.alloc _).alloc _)).mono ?_
      rintro e w1 ⟨rfl, hb1⟩
      have b1 := Lib.hid (((Blk.new w 24 #[.slice A W.length c, .int .i64 q, .slice A' D.length c', .int .i64 (t0 : Int)]).alloc (.cells #[.slice none 0 0, .int .i64 0, .slice none 0 0, .int .i64 0] 24)).below hb1)
      have r1 := Lib.hid ((Blk.new1 w (.cells #[.slice A W.length c, .int .i64 q, .slice A' D.length c', .int .i64 (t0 : Int)] 24) 24 #[.slice none 0 0, .int .i64 0, .slice none 0 0, .int .i64 0]).below hb1)
      have hB1 : Below w.heap.size w w1 := bnext (bal (bal (Below.refl w.heap.size w) _) _) hb1
      have hlx1 := b1.out.lt
      have hlr1 := r1.out.lt
      clear hb1
      go_wp2_with fail
      refine (headed_any [h0, h1, h2] _ _ (HH.out.below hB1)).mono ?_
      rintro e w2 ⟨rfl, hb2⟩
      have b2 := Lib.hid (b1.out.below hb2)
      have r2 := Lib.hid (r1.out.below hb2)
      have hB2 := bnext hB1 hb2
      have hz12 := hb2.size
      clear hb2
      obtain ⟨x0, x1, x2, x3⟩ := b2.out.c4
      obtain ⟨f0, f1, f2, f3⟩ := b2.out.f4
      go_wp2_with fail
      refine (rcopied_any ⟨W, q, D, (t0 : Int)⟩ _ _ (HD.out.below hB2) HL.out).mono ?_
      rintro e w3 ⟨B1, k1, B2, k2, rfl, oW, oD, ap, hb3⟩
      dsimp only at oW oD ap ⊢
      obtain ⟨gw, rfl, rW⟩ := row3_of oW HLW.out
      obtain ⟨gd, rfl, rD⟩ := row3_of oD HLD.out
      have hn1 : gw ≠ gd := fun e => ap gw rfl (by rw [e]; rfl)
      have b3 := Lib.hid (b2.out.below hb3)
      have r3 := Lib.hid (r2.out.below hb3)
      have hB3 := bnext hB2 hb3
      have H33 := Lib.hid (H3.out.below hB3)
      have hz3 := hb3.size
      have hz0 := hB2.size
      have hgw := rW.lt
      have hgd := rD.lt
      have hbh := H3.out.1
      have hbd : bh ≠ gd := by omega
      have RW := Lib.hid rW
      have RD := Lib.hid rD
      clear oW oD ap hb3 rW rD x0 x1 x2 x3 f0 f1 f2 f3
      obtain ⟨x0, x1, x2, x3⟩ := b3.out.c4
      obtain ⟨f0, f1, f2, f3⟩ := b3.out.f4
      rw [show W.length = 3 from HLW.out, show D.length = 3 from HLD.out]
      obtain ⟨N, hN⟩ : ∃ N, N = turns ⟨W, q, D, (t0 : Int)⟩ [h0, h1, h2] := ⟨_, rfl⟩
      obtain ⟨E1, E2, hE⟩ : ∃ E1 E2, pas W q [h0, h1, h2] (D, t0) N = (E1, E2) := ⟨_, _, rfl⟩
      have HE : Hid (nxt ⟨W, q, D, (t0 : Int)⟩ [h0, h1, h2] = ((E2 : Int), ⟨W, q, paid [h0, h1, h2] (E1, E2), (E2 : Int)⟩, 0)) := Lib.hid (by
        have e1 : ends ⟨W, q, D, (t0 : Int)⟩ [h0, h1, h2] = (E1, E2) := by rw [← hE, hN]; rfl
        unfold nxt
        rw [if_neg (fun h => h HLN.out), e1])
      have HEE := Lib.hid hE
      have HNN := Lib.hid hN
      clear hE hN
      go_wp2_with fail
      refine (rserve_any W q [h0, h1, h2] D t0 N HO.out.w HO.out.q0 HO.out.q1 (ok_sok HO.out) HHO.out.b (by rw [HNN.out]; exact HN.out) (by rw [HNN.out]; exact HSV.out) w2.heap.size gw k1 gd k2 bh oh ch w3 hz3 HCH.out RW.out RD.out hn1 hbd H33.out).mono ?_
      rintro e w4 ⟨rfl, hD4, hb4⟩
      rw [HEE.out] at hD4 ⊢
      dsimp only at hD4 ⊢
      have hB4 : Below w.heap.size w w4 := hB3.trans (hb4.to_below (fun k e => by have : k = gd := e; omega) (by omega))
      have b4 := Lib.hid (b3.out.only hb4 (by show ¬ w.heap.size = gd; omega))
      have r4 := Lib.hid (r3.out.only hb4 (by show ¬ w.heap.size + 1 = gd; omega))
      have rw4 : Row3 w4 w2.heap.size gw k1 W := own_only RW.out hb4 (fun g e => by simp [Value.ownBlock] at e; omega)
      have RW4 := Lib.hid rw4
      have RD4 := Lib.hid hD4
      have hlx4 := b4.out.lt
      have hlr4 := r4.out.lt
      have hgw4 := rw4.lt
      have hgd4 := hD4.lt
      clear hD4 hb4 rw4 x0 x1 x2 x3 f0 f1 f2 f3
      obtain ⟨x0, x1, x2, x3⟩ := b4.out.c4
      obtain ⟨f0, f1, f2, f3⟩ := b4.out.f4
      go_upto_region 7 with fail
      have b5 : Blk ((((w4.setCell ⟨w.heap.size, 0, none⟩ (.slice (some ⟨gw, 0, none⟩) 3 k1)).setCell ⟨w.heap.size, 1, none⟩ (.int .i64 q)).setCell ⟨w.heap.size, 2, none⟩ (.slice (some ⟨gd, 0, none⟩) 3 k2)).setCell ⟨w.heap.size, 3, none⟩ (.int .i64 (E2 : Int))) w.heap.size 24 #[.slice (some ⟨gw, 0, none⟩) 3 k1, .int .i64 q, .slice (some ⟨gd, 0, none⟩) 3 k2, .int .i64 (E2 : Int)] := (((b4.out.set 0 _).set 1 _).set 2 _).set 3 _
      have r5 : Blk ((((w4.setCell ⟨w.heap.size, 0, none⟩ (.slice (some ⟨gw, 0, none⟩) 3 k1)).setCell ⟨w.heap.size, 1, none⟩ (.int .i64 q)).setCell ⟨w.heap.size, 2, none⟩ (.slice (some ⟨gd, 0, none⟩) 3 k2)).setCell ⟨w.heap.size, 3, none⟩ (.int .i64 (E2 : Int))) (w.heap.size + 1) 24 #[.slice none 0 0, .int .i64 0, .slice none 0 0, .int .i64 0] := by
        repeat (first | exact r4.out | with_reducible refine Blk.far ?_ (by show w.heap.size + 1 ≠ w.heap.size; omega) _)
      have rW5 : Row3 ((((w4.setCell ⟨w.heap.size, 0, none⟩ (.slice (some ⟨gw, 0, none⟩) 3 k1)).setCell ⟨w.heap.size, 1, none⟩ (.int .i64 q)).setCell ⟨w.heap.size, 2, none⟩ (.slice (some ⟨gd, 0, none⟩) 3 k2)).setCell ⟨w.heap.size, 3, none⟩ (.int .i64 (E2 : Int))) w2.heap.size gw k1 W := by
        repeat (first | exact RW4.out | with_reducible refine Row3.far ?_ (by show gw ≠ w.heap.size; omega) _)
      have rD5 : Row3 ((((w4.setCell ⟨w.heap.size, 0, none⟩ (.slice (some ⟨gw, 0, none⟩) 3 k1)).setCell ⟨w.heap.size, 1, none⟩ (.int .i64 q)).setCell ⟨w.heap.size, 2, none⟩ (.slice (some ⟨gd, 0, none⟩) 3 k2)).setCell ⟨w.heap.size, 3, none⟩ (.int .i64 (E2 : Int))) w2.heap.size gd k2 (paid [h0, h1, h2] (E1, E2)) := by
        repeat (first | exact RD4.out | with_reducible refine Row3.far ?_ (by show gd ≠ w.heap.size; omega) _)
      have hB5 : Below w.heap.size w ((((w4.setCell ⟨w.heap.size, 0, none⟩ (.slice (some ⟨gw, 0, none⟩) 3 k1)).setCell ⟨w.heap.size, 1, none⟩ (.int .i64 q)).setCell ⟨w.heap.size, 2, none⟩ (.slice (some ⟨gd, 0, none⟩) 3 k2)).setCell ⟨w.heap.size, 3, none⟩ (.int .i64 (E2 : Int))) := (by repeat (first | with_reducible exact Below.refl _ _ | with_reducible refine Below.drew ?_ | with_reducible refine below_drewN ?_ _ | with_reducible refine bal ?_ _ | with_reducible refine bset ?_ (by first | (simp; done) | (simp; omega)) _ | with_reducible refine bnext ?_ (by assumption) | with_reducible assumption))
      generalize (((w4.setCell ⟨w.heap.size, 0, none⟩ (.slice (some ⟨gw, 0, none⟩) 3 k1)).setCell ⟨w.heap.size, 1, none⟩ (.int .i64 q)).setCell ⟨w.heap.size, 2, none⟩ (.slice (some ⟨gd, 0, none⟩) 3 k2)).setCell ⟨w.heap.size, 3, none⟩ (.int .i64 (E2 : Int)) = w5 at b5 r5 rW5 rD5 hB5 ⊢
      clear x0 x1 x2 x3 f0 f1 f2 f3
      obtain ⟨x0, x1, x2, x3⟩ := b5.c4
      obtain ⟨y0, y1, y2, y3⟩ := r5.c4
      obtain ⟨g0, g1, g2, g3⟩ := r5.f4
      have RW5 := Lib.hid rW5
      have RD5 := Lib.hid rD5
      clear b5 r5 rW5 rD5
      go_region
      all_goals
        go_wp2_with fail
        refine bodyPost_ret (v := .tuple #[.int .i64 (E2 : Int), .agg #[.slice (some ⟨gw, 0, none⟩) 3 k1, .int .i64 q, .slice (some ⟨gd, 0, none⟩) 3 k2, .int .i64 (E2 : Int)], .int .i64 0]) (by simp [results, Try.results18, go_sem, y0, y1, y2, y3]) rfl ?_
        rw [HE.out]
        refine ⟨_, rfl, ⟨_, _, rfl, ?_, ?_⟩, (by repeat (first | with_reducible exact Below.refl _ _ | with_reducible refine Below.drew ?_ | with_reducible refine below_drewN ?_ _ | with_reducible refine bal ?_ _ | with_reducible refine bset ?_ (by first | (simp; done) | (simp; omega)) _ | with_reducible refine bnext ?_ (by assumption) | with_reducible assumption))⟩
        · refine Row3.at (B := w2.heap.size) (c := k1) ?_
          dsimp only
          repeat (first | with_reducible exact RW5.out | with_reducible refine Row3.drew ?_ | with_reducible refine Row3.far ?_ (by show gw ≠ w.heap.size + 1; omega) _)
        · refine Row3.at (B := w2.heap.size) (c := k2) ?_
          dsimp only
          repeat (first | with_reducible exact RD5.out | with_reducible refine Row3.drew ?_ | with_reducible refine Row3.far ?_ (by show gd ≠ w.heap.size + 1; omega) _)
    · have t2 : (hdE H != 0) = true := by simpa using hh
      have HX : Hid (lnE ⟨W, q, D, t⟩ H = hdE H) := Lib.hid (lnE_hd hk)
      have HE : Hid (nxt ⟨W, q, D, t⟩ H = (0, zDr, lnE ⟨W, q, D, t⟩ H)) := Lib.hid (if_pos (by rw [HX.out]; exact hh))
      obtain ⟨Ah, ch, rfl, _⟩ := id HH.out
      clear hk hh
      go_enter Try.func18, Try.ntmps18
      go_wp2_with fail
      refine (rCheck_any ⟨W, q, D, t⟩ _ _ ((HD.out.alloc _).alloc _)).mono ?_
      rintro e w1 ⟨rfl, hb1⟩
      have b1 := Lib.hid (((Blk.new w 24 #[.slice A W.length c, .int .i64 q, .slice A' D.length c', .int .i64 t]).alloc (.cells #[.slice none 0 0, .int .i64 0, .slice none 0 0, .int .i64 0] 24)).below hb1)
      have r1 := Lib.hid ((Blk.new1 w (.cells #[.slice A W.length c, .int .i64 q, .slice A' D.length c', .int .i64 t] 24) 24 #[.slice none 0 0, .int .i64 0, .slice none 0 0, .int .i64 0]).below hb1)
      have hB1 : Below w.heap.size w w1 := bnext (bal (bal (Below.refl w.heap.size w) _) _) hb1
      clear hb1
      go_wp2_with fail
      refine (headed_any H _ _ (HH.out.below hB1)).mono ?_
      rintro e w2 ⟨rfl, hb2⟩
      have r2 := Lib.hid (r1.out.below hb2)
      have hlr2 := r2.out.lt
      have hB2 := bnext hB1 hb2
      obtain ⟨y0, y1, y2, y3⟩ := r2.out.c4
      obtain ⟨g0, g1, g2, g3⟩ := r2.out.f4
      clear hb2
      go_wp2_with fail
      refine bodyPost_ret (v := .tuple #[.int .i64 0, .agg #[.slice none 0 0, .int .i64 0, .slice none 0 0, .int .i64 0], .int .i64 (lnE ⟨W, q, D, t⟩ H)]) (by simp [results, Try.results18, go_sem, y0, y1, y2, y3, HX.out]) rfl ?_
      rw [HE.out]
      exact ⟨_, rfl, zDr_v _, (by repeat (first | with_reducible exact Below.refl _ _ | with_reducible refine Below.drew ?_ | with_reducible refine below_drewN ?_ _ | with_reducible refine bal ?_ _ | with_reducible refine bset ?_ (by first | (simp; done) | (simp; omega)) _ | with_reducible refine bnext ?_ (by assumption) | with_reducible assumption))⟩
  · have t1 : (chk ⟨W, q, D, t⟩ == 0) = false := by simpa using hk
    have t2 : (chk ⟨W, q, D, t⟩ != 0) = true := by simpa using hk
    have HX : Hid (lnE ⟨W, q, D, t⟩ H = chk ⟨W, q, D, t⟩) := Lib.hid (lnE_chk hk)
    have HE : Hid (nxt ⟨W, q, D, t⟩ H = (0, zDr, lnE ⟨W, q, D, t⟩ H)) := Lib.hid (if_pos (by rw [HX.out]; exact hk))
    obtain ⟨Ah, ch, rfl, _⟩ := id HH.out
    clear hk
    go_enter Try.func18, Try.ntmps18
    go_wp2_with fail
    refine (rCheck_any ⟨W, q, D, t⟩ _ _ ((HD.out.alloc _).alloc _)).mono ?_
    rintro e w1 ⟨rfl, hb1⟩
    have b1 := Lib.hid (((Blk.new w 24 #[.slice A W.length c, .int .i64 q, .slice A' D.length c', .int .i64 t]).alloc (.cells #[.slice none 0 0, .int .i64 0, .slice none 0 0, .int .i64 0] 24)).below hb1)
    have r1 := Lib.hid ((Blk.new1 w (.cells #[.slice A W.length c, .int .i64 q, .slice A' D.length c', .int .i64 t] 24) 24 #[.slice none 0 0, .int .i64 0, .slice none 0 0, .int .i64 0]).below hb1)
    have hB1 : Below w.heap.size w w1 := bnext (bal (bal (Below.refl w.heap.size w) _) _) hb1
    have hlr1 := r1.out.lt
    obtain ⟨y0, y1, y2, y3⟩ := r1.out.c4
    obtain ⟨g0, g1, g2, g3⟩ := r1.out.f4
    clear hb1
    go_wp2_with fail
    refine bodyPost_ret (v := .tuple #[.int .i64 0, .agg #[.slice none 0 0, .int .i64 0, .slice none 0 0, .int .i64 0], .int .i64 (lnE ⟨W, q, D, t⟩ H)]) (by simp [results, Try.results18, go_sem, y0, y1, y2, y3, HX.out]) rfl ?_
    rw [HE.out]
    exact ⟨_, rfl, zDr_v _, (by repeat (first | with_reducible exact Below.refl _ _ | with_reducible refine Below.drew ?_ | with_reducible refine below_drewN ?_ _ | with_reducible refine bal ?_ _ | with_reducible refine bset ?_ (by first | (simp; done) | (simp; omega)) _ | with_reducible refine bnext ?_ (by assumption) | with_reducible assumption))⟩

set_option maxRecDepth 100000 in
set_option maxHeartbeats 8000000 in
theorem rTurns_any (d : Dr) (H : List Int) (v u : Value) (w : World) (hD : DrV w v d) (hH : IntAt w u H) :
    Calls Try.prog 21 #[v, u] w (RetII (trn d H).1 (trn d H).2 w) := by
  obtain ⟨W, q, D, t⟩ := d
  obtain ⟨vW, vD, rfl, hW, hDD⟩ := id hD
  obtain ⟨A, c, rfl, _⟩ := id hW
  obtain ⟨A', c', rfl, _⟩ := id hDD
  have HD := Lib.hid hD
  have HH := Lib.hid hH
  clear hW hDD hD hH
  dsimp only at HD
  by_cases hk : chk ⟨W, q, D, t⟩ = 0
  · have t1 : (chk ⟨W, q, D, t⟩ == 0) = true := by simpa using hk
    have HC := Lib.hid hk
    by_cases hh : hdE H = 0
    · have t2 : (hdE H != 0) = false := by rw [hh]; rfl
      have hln : lnE ⟨W, q, D, t⟩ H = 0 := (lnE_hd hk).trans hh
      have HLN := Lib.hid hln
      obtain ⟨ho, hho⟩ := lnE_ok hln
      obtain ⟨hn, hsv⟩ := turns_serve ho hho
      obtain ⟨h0, h1, h2, rfl⟩ := three hho.l3
      obtain ⟨Ah, ch, rfl, hch1, hch2, _⟩ := id HH.out
      obtain ⟨bh, oh, rfl, hd3⟩ := Hd3.of HH.out rfl
      have HCH : Hid (3 ≤ ch ∧ ch ≤ maxLen) := Lib.hid ⟨hch1, hch2⟩
      unfold maxLen at hch2
      have H3 := Lib.hid hd3
      have hlW : W.length = 3 := ho.w3
      have hlD : D.length = 3 := ho.d3
      obtain ⟨t0, rfl⟩ : ∃ t0 : Nat, t = t0 := ⟨t.toNat, by have := ho.t0; dsimp only at this; omega⟩
      have HL : Hid (lt20 ⟨W, q, D, (t0 : Int)⟩) := Lib.hid ⟨by show W.length ≤ 100000; omega, by show D.length ≤ 100000; omega⟩
      have HO := Lib.hid ho
      have HHO := Lib.hid hho
      have HSV := Lib.hid hsv
      have HN := Lib.hid hn
      have HLW := Lib.hid hlW
      have HLD := Lib.hid hlD
      clear hk hh hln ho hho hsv hn hlW hlD hd3
      go_enter Try.func21, Try.ntmps21
      go_wp2_with fail
      refine (rCheck_any ⟨W, q, D, (t0 : Int)⟩ _ _ (HD.out.alloc _)).mono ?_
      rintro e w1 ⟨rfl, hb1⟩
      have b1 := Lib.hid (((Blk.new w 24 #[.slice A W.length c, .int .i64 q, .slice A' D.length c', .int .i64 (t0 : Int)])).below hb1)
      have hB1 : Below w.heap.size w w1 := bnext (bal (Below.refl w.heap.size w) _) hb1
      have hlx1 := b1.out.lt

      clear hb1
      go_wp2_with fail
      refine (headed_any [h0, h1, h2] _ _ (HH.out.below hB1)).mono ?_
      rintro e w2 ⟨rfl, hb2⟩
      have b2 := Lib.hid (b1.out.below hb2)

      have hB2 := bnext hB1 hb2
      have hz12 := hb2.size
      clear hb2
      obtain ⟨x0, x1, x2, x3⟩ := b2.out.c4
      obtain ⟨f0, f1, f2, f3⟩ := b2.out.f4
      go_wp2_with fail
      refine (rcopied_any ⟨W, q, D, (t0 : Int)⟩ _ _ (HD.out.below hB2) HL.out).mono ?_
      rintro e w3 ⟨B1, k1, B2, k2, rfl, oW, oD, ap, hb3⟩
      dsimp only at oW oD ap ⊢
      obtain ⟨gw, rfl, rW⟩ := row3_of oW HLW.out
      obtain ⟨gd, rfl, rD⟩ := row3_of oD HLD.out
      have hn1 : gw ≠ gd := fun e => ap gw rfl (by rw [e]; rfl)
      have b3 := Lib.hid (b2.out.below hb3)

      have hB3 := bnext hB2 hb3
      have H33 := Lib.hid (H3.out.below hB3)
      have hz3 := hb3.size
      have hz0 := hB2.size
      have hgw := rW.lt
      have hgd := rD.lt
      have hbh := H3.out.1
      have hbd : bh ≠ gd := by omega
      have RW := Lib.hid rW
      have RD := Lib.hid rD
      clear oW oD ap hb3 rW rD x0 x1 x2 x3 f0 f1 f2 f3
      obtain ⟨x0, x1, x2, x3⟩ := b3.out.c4
      obtain ⟨f0, f1, f2, f3⟩ := b3.out.f4
      rw [show W.length = 3 from HLW.out, show D.length = 3 from HLD.out]
      obtain ⟨N, hN⟩ : ∃ N, N = turns ⟨W, q, D, (t0 : Int)⟩ [h0, h1, h2] := ⟨_, rfl⟩
      obtain ⟨E1, E2, hE⟩ : ∃ E1 E2, pas W q [h0, h1, h2] (D, t0) N = (E1, E2) := ⟨_, _, rfl⟩
      have HE : Hid (trn ⟨W, q, D, (t0 : Int)⟩ [h0, h1, h2] = ((N : Int), 0)) := Lib.hid (by
        have e1 : ends ⟨W, q, D, (t0 : Int)⟩ [h0, h1, h2] = (E1, E2) := by rw [← hE, hN]; rfl
        unfold trn
        rw [if_neg (fun h => h HLN.out), hN])
      have HEE := Lib.hid hE
      have HNN := Lib.hid hN
      clear hE hN
      go_wp2_with fail
      refine (rserve_any W q [h0, h1, h2] D t0 N HO.out.w HO.out.q0 HO.out.q1 (ok_sok HO.out) HHO.out.b (by rw [HNN.out]; exact HN.out) (by rw [HNN.out]; exact HSV.out) w2.heap.size gw k1 gd k2 bh oh ch w3 hz3 HCH.out RW.out RD.out hn1 hbd H33.out).mono ?_
      rintro e w4 ⟨rfl, hD4, hb4⟩
      rw [HEE.out] at hD4 ⊢
      dsimp only at hD4 ⊢
      have hB4 : Below w.heap.size w w4 := hB3.trans (hb4.to_below (fun k e => by have : k = gd := e; omega) (by omega))
      have b4 := Lib.hid (b3.out.only hb4 (by show ¬ w.heap.size = gd; omega))

      have rw4 : Row3 w4 w2.heap.size gw k1 W := own_only RW.out hb4 (fun g e => by simp [Value.ownBlock] at e; omega)
      have RW4 := Lib.hid rw4
      have RD4 := Lib.hid hD4
      have hlx4 := b4.out.lt

      have hgw4 := rw4.lt
      have hgd4 := hD4.lt
      clear hD4 hb4 rw4 x0 x1 x2 x3 f0 f1 f2 f3
      go_wp2_with fail
      go_ret2
      rw [HE.out]
      exact ⟨rfl, (by repeat (first | with_reducible exact Below.refl _ _ | with_reducible refine Below.drew ?_ | with_reducible refine below_drewN ?_ _ | with_reducible refine bal ?_ _ | with_reducible refine bset ?_ (by first | (simp; done) | (simp; omega)) _ | with_reducible refine bnext ?_ (by assumption) | with_reducible assumption))⟩
    · have t2 : (hdE H != 0) = true := by simpa using hh
      have HX : Hid (lnE ⟨W, q, D, t⟩ H = hdE H) := Lib.hid (lnE_hd hk)
      have HE : Hid (trn ⟨W, q, D, t⟩ H = (0, lnE ⟨W, q, D, t⟩ H)) := Lib.hid (if_pos (by rw [HX.out]; exact hh))
      obtain ⟨Ah, ch, rfl, _⟩ := id HH.out
      clear hk hh
      go_enter Try.func21, Try.ntmps21
      go_wp2_with fail
      refine (rCheck_any ⟨W, q, D, t⟩ _ _ (HD.out.alloc _)).mono ?_
      rintro e w1 ⟨rfl, hb1⟩
      have b1 := Lib.hid (((Blk.new w 24 #[.slice A W.length c, .int .i64 q, .slice A' D.length c', .int .i64 t])).below hb1)
      have hB1 : Below w.heap.size w w1 := bnext (bal (Below.refl w.heap.size w) _) hb1
      clear hb1
      go_wp2_with fail
      refine (headed_any H _ _ (HH.out.below hB1)).mono ?_
      rintro e w2 ⟨rfl, hb2⟩


      have hB2 := bnext hB1 hb2
      clear hb2
      go_wp2_with fail
      go_ret2
      rw [HE.out, HX.out]
      exact ⟨rfl, (by repeat (first | with_reducible exact Below.refl _ _ | with_reducible refine Below.drew ?_ | with_reducible refine below_drewN ?_ _ | with_reducible refine bal ?_ _ | with_reducible refine bset ?_ (by first | (simp; done) | (simp; omega)) _ | with_reducible refine bnext ?_ (by assumption) | with_reducible assumption))⟩
  · have t1 : (chk ⟨W, q, D, t⟩ == 0) = false := by simpa using hk
    have t2 : (chk ⟨W, q, D, t⟩ != 0) = true := by simpa using hk
    have HX : Hid (lnE ⟨W, q, D, t⟩ H = chk ⟨W, q, D, t⟩) := Lib.hid (lnE_chk hk)
    have HE : Hid (trn ⟨W, q, D, t⟩ H = (0, lnE ⟨W, q, D, t⟩ H)) := Lib.hid (if_pos (by rw [HX.out]; exact hk))
    obtain ⟨Ah, ch, rfl, _⟩ := id HH.out
    clear hk
    go_enter Try.func21, Try.ntmps21
    go_wp2_with fail
    refine (rCheck_any ⟨W, q, D, t⟩ _ _ (HD.out.alloc _)).mono ?_
    rintro e w1 ⟨rfl, hb1⟩
    have b1 := Lib.hid (((Blk.new w 24 #[.slice A W.length c, .int .i64 q, .slice A' D.length c', .int .i64 t])).below hb1)
    have hB1 : Below w.heap.size w w1 := bnext (bal (Below.refl w.heap.size w) _) hb1

    clear hb1
    go_wp2_with fail
    go_ret2
    rw [HE.out, HX.out]
    exact ⟨rfl, (by repeat (first | with_reducible exact Below.refl _ _ | with_reducible refine Below.drew ?_ | with_reducible refine below_drewN ?_ _ | with_reducible refine bal ?_ _ | with_reducible refine bset ?_ (by first | (simp; done) | (simp; omega)) _ | with_reducible refine bnext ?_ (by assumption) | with_reducible assumption))⟩
end Go.Proofs.Ythkfdfkjenhjmaa
