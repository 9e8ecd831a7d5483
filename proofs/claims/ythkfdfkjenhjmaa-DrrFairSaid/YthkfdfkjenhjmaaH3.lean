/- Contract: who is served next, in memory of its own. -/
import Derived.Test.YthkfdfkjenhjmaaH
namespace Go.Proofs.Ythkfdfkjenhjmaa
open Go.RowKit
set_option linter.unusedVariables false
set_option linter.unusedSimpArgs false

def RetNO (p : Int) (d : Dr) (w : World) (e : Ending) (w' : World) : Prop := ∃ gw cw gd cd, e = .returned (.tuple #[.int .i64 p, .agg #[.slice (some ⟨gw, 0, none⟩) 3 cw, .int .i64 d.q, .slice (some ⟨gd, 0, none⟩) 3 cd, .int .i64 d.t], .int .i64 0]) ∧ Row3 w' w.heap.size gw cw d.W ∧ Row3 w' w.heap.size gd cd d.D ∧ Below w.heap.size w w'

set_option maxRecDepth 100000 in
set_option maxHeartbeats 8000000 in
theorem Next_own (d : Dr) (H : List Int) (v u : Value) (w : World) (hD : DrV w v d) (hH : IntAt w u H) (hk : lnE d H = 0) :
    Calls Try.prog 17 #[v, u] w (RetNO (nxt d H).1 (nxt d H).2.1 w) := by
  obtain ⟨W, q, D, t⟩ := d
  obtain ⟨vW, vD, rfl, hW, hDD⟩ := id hD
  obtain ⟨A, c, rfl, _⟩ := id hW
  obtain ⟨A', c', rfl, _⟩ := id hDD
  have HD := Lib.hid hD
  have HH := Lib.hid hH
  clear hW hDD hD hH
  dsimp only at HD
  have t1 : (lnE ⟨W, q, D, t⟩ H != 0) = false := by rw [hk]; rfl
  have hok := lnE_ok hk
  obtain ⟨ho, hh⟩ := hok
  obtain ⟨hn, hsv⟩ := turns_serve ho hh
  obtain ⟨h0, h1, h2, rfl⟩ := three hh.l3
  obtain ⟨Ah, ch, rfl, hch1, hch2, _⟩ := id HH.out
  obtain ⟨bh, oh, rfl, hd3⟩ := Hd3.of HH.out rfl
  unfold maxLen at hch2
  have H3 := Lib.hid hd3
  clear hd3
  have hlW : W.length = 3 := ho.w3
  have hlD : D.length = 3 := ho.d3
  obtain ⟨t0, rfl⟩ : ∃ t0 : Nat, t = t0 := ⟨t.toNat, by have := ho.t0; dsimp only at this; omega⟩
  have HL : Hid (lt20 ⟨W, q, D, (t0 : Int)⟩) := Lib.hid ⟨by show W.length ≤ 100000; omega, by show D.length ≤ 100000; omega⟩
  skip
  have HK := Lib.hid hk
  have HO := Lib.hid ho
  have HHO := Lib.hid hh
  have HSV := Lib.hid hsv
  have HN := Lib.hid hn
  have HLW := Lib.hid hlW
  have HLD := Lib.hid hlD
  clear hk ho hh hsv hn hlW hlD
  have har := run_arr
  go_enter Try.func17, Try.ntmps17
  go_wp2_with fail
  refine (lined_any ⟨W, q, D, (t0 : Int)⟩ [h0, h1, h2] _ _ _ ((HD.out.alloc _).alloc _) ((HH.out.alloc _).alloc _)).mono ?_
  rintro e w1 ⟨rfl, hb1⟩
  have b1 := Lib.hid (((Blk.new w 24 #[.slice A W.length c, .int .i64 q, .slice A' D.length c', .int .i64 (t0 : Int)]).alloc (.cells #[.slice none 0 0, .int .i64 0, .slice none 0 0, .int .i64 0] 24)).below hb1)
  have r1 := Lib.hid ((Blk.new1 w (.cells #[.slice A W.length c, .int .i64 q, .slice A' D.length c', .int .i64 (t0 : Int)] 24) 24 #[.slice none 0 0, .int .i64 0, .slice none 0 0, .int .i64 0]).below hb1)
  have hB1 : Below w.heap.size w w1 := bnext (bal (bal (Below.refl w.heap.size w) _) _) hb1
  have HD1 := Lib.hid (((HD.out.alloc _).alloc _).below hb1)
  have HH1 := Lib.hid (((HH.out.alloc _).alloc _).below hb1)
  have hlx1 := b1.out.lt
  have hlr1 := r1.out.lt
  clear hb1
  obtain ⟨x0, x1, x2, x3⟩ := b1.out.c4
  obtain ⟨f0, f1, f2, f3⟩ := b1.out.f4
  go_wp2_with fail
  refine (clone_any ⟨W, q, D, (t0 : Int)⟩ _ _ HD1.out HL.out).mono ?_
  rintro e w2 ⟨B1, k1, B2, k2, rfl, oW, oD, ap, hb2⟩
  dsimp only at oW oD ap ⊢
  obtain ⟨gw, rfl, rW⟩ := row3_of oW HLW.out
  obtain ⟨gd, rfl, rD⟩ := row3_of oD HLD.out
  have hn1 : gw ≠ gd := fun e => ap gw rfl (by rw [e]; rfl)
  have b2 := Lib.hid (b1.out.below hb2)
  have r2 := Lib.hid (r1.out.below hb2)
  have hB2 := bnext hB1 hb2
  have HH2 := Lib.hid (HH1.out.below hb2)
  have hz2 := hb2.size
  have hlx2 := b2.out.lt
  have hgw := rW.lt
  have hgd := rD.lt
  have RW := Lib.hid rW
  have RD := Lib.hid rD
  clear oW oD ap hb2 rW rD x0 x1 x2 x3 f0 f1 f2 f3
  rw [show W.length = 3 from HLW.out, show D.length = 3 from HLD.out]
  have HD3 : Hid (Hd3 (w2.alloc (.cells #[.slice (some ⟨gw, 0, none⟩) 3 k1, .int .i64 q, .slice (some ⟨gd, 0, none⟩) 3 k2, .int .i64 (t0 : Int)] 24)) bh oh [h0, h1, h2]) := Lib.hid (H3.out.below (by have q := bal hB2 (.cells #[.slice (some ⟨gw, 0, none⟩) 3 k1, .int .i64 q, .slice (some ⟨gd, 0, none⟩) 3 k2, .int .i64 (t0 : Int)] 24); exact q))
  have c0 := HD3.out.2.2 0 (by decide)
  have c1 := HD3.out.2.2 1 (by decide)
  have c2 := HD3.out.2.2 2 (by decide)
  have hbh := H3.out.1
  simp only [at0, List.getD_cons_zero, List.getD_cons_succ, Nat.add_zero] at c0 c1 c2
  have DA : Hid (DrAt (w2.alloc (.cells #[.slice (some ⟨gw, 0, none⟩) 3 k1, .int .i64 q, .slice (some ⟨gd, 0, none⟩) 3 k2, .int .i64 (t0 : Int)] 24)) w1.heap.size w2.heap.size gw k1 gd k2 W q D t0) := Lib.hid ⟨Blk.new _ _ _, RW.out.alloc _, RD.out.alloc _, hn1, by omega, by omega, hz2⟩
  obtain ⟨x0, x1, x2, x3⟩ := b2.out.c4
  obtain ⟨f0, f1, f2, f3⟩ := b2.out.f4
  go_wp2_with fail
  obtain ⟨N, hN⟩ : ∃ N, N = turns ⟨W, q, D, (t0 : Int)⟩ [h0, h1, h2] := ⟨_, rfl⟩
  obtain ⟨E1, E2, hE⟩ : ∃ E1 E2, pas W q [h0, h1, h2] (D, t0) N = (E1, E2) := ⟨_, _, rfl⟩
  refine (serve_any W q D t0 h0 h1 h2 N HO.out.w HO.out.q0 HO.out.q1 (ok_sok HO.out) HHO.out.b (by rw [hN]; exact HN.out) (by rw [hN]; exact HSV.out) w1.heap.size w2.heap.size gw k1 gd k2 _ (by simp; omega) DA.out).mono ?_
  rintro e w3 ⟨rfl, hD3, hb3⟩
  rw [hE] at hD3 ⊢
  dsimp only at hD3 ⊢
  have hB3 : Below w.heap.size w w3 := (bal hB2 _).trans (hb3.mono hB1.size)
  have r3 := Lib.hid (show Blk w3 (w.heap.size + 1) 24 #[.slice none 0 0, .int .i64 0, .slice none 0 0, .int .i64 0] from (hb3.block _ (by omega)).trans (r2.out.alloc _))
  have HE : Hid (nxt ⟨W, q, D, (t0 : Int)⟩ [h0, h1, h2] = ((E2 : Int), ⟨W, q, paid [h0, h1, h2] (E1, E2), (E2 : Int)⟩, 0)) := Lib.hid (by
    have e1 : ends ⟨W, q, D, (t0 : Int)⟩ [h0, h1, h2] = (E1, E2) := by rw [← hE, hN]; rfl
    unfold nxt
    rw [if_neg (fun h => h HK.out), e1])
  have D3 := Lib.hid hD3
  have hgd3 := hD3.rD.lt
  have hgw3 := hD3.rW.lt
  have hlr3 := r3.out.lt
  clear hD3 hb3 hE hN c0 c1 c2 x0 x1 x2 x3 f0 f1 f2 f3 har
  obtain ⟨a0, a1, a2, a3⟩ := D3.out.blk.c4
  obtain ⟨y0, y1, y2, y3⟩ := r3.out.c4
  obtain ⟨g0, g1, g2, g3⟩ := r3.out.f4
  have hne1 : ¬ w2.heap.size = w.heap.size + 1 := by omega
  have hne2 : ¬ w.heap.size + 1 = w2.heap.size := by omega
  go_upto_region 6 with fail
  go_region
  all_goals
    go_wp2_with fail
    refine bodyPost_ret (v := .tuple #[.int .i64 (E2 : Int), .agg #[.slice (some ⟨gw, 0, none⟩) 3 k1, .int .i64 q, .slice (some ⟨gd, 0, none⟩) 3 k2, .int .i64 (E2 : Int)], .int .i64 0]) (by simp [results, Try.results17, go_sem, y0, y1, y2, y3]) rfl ?_
    rw [HE.out]
    refine ⟨gw, k1, gd, k2, rfl, ?_, ?_, (by repeat (first | with_reducible exact Below.refl _ _ | with_reducible refine Below.drew ?_ | with_reducible refine below_drewN ?_ _ | with_reducible refine bal ?_ _ | with_reducible refine bset ?_ (by first | (simp; done) | (simp; omega)) _ | with_reducible refine bnext ?_ (by assumption) | with_reducible assumption))⟩
    · refine Row3.mono (B := w1.heap.size) ?_ hB1.size
      dsimp only
      repeat (first | with_reducible exact D3.out.rW | with_reducible refine Row3.drew ?_ | with_reducible refine Row3.far ?_ (by show gw ≠ w.heap.size + 1; omega) _)
    · refine Row3.mono (B := w1.heap.size) ?_ hB1.size
      dsimp only
      repeat (first | with_reducible exact D3.out.rD | with_reducible refine Row3.drew ?_ | with_reducible refine Row3.far ?_ (by show gd ≠ w.heap.size + 1; omega) _)
end Go.Proofs.Ythkfdfkjenhjmaa
