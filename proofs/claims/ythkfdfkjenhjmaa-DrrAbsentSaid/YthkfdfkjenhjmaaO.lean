/- Contract: the first examples. -/
import Derived.Test.YthkfdfkjenhjmaaN
namespace Go.Proofs.Ythkfdfkjenhjmaa
open Go.RowKit Go.Conc
set_option linter.unusedVariables false
set_option linter.unusedSimpArgs false

theorem wt_lit {w : World} {g : Nat} {t : TypeId} {L : List Wt} (h : Blk w g t (fl Wt.cells L).toArray) (n : Nat) (hn : n = L.length) (hm : n ≤ 100000) : WtAt w (.slice (some ⟨g, 0, none⟩) n n) L := by
  subst hn
  refine ⟨_, _, rfl, Nat.le_refl _, by unfold maxLen; omega, fl_len wt2 L, fun _ => ⟨g, 0, rfl, h.lt, fun j u hj => ?_⟩⟩
  rw [Nat.zero_add, h.cell, List.getElem?_toArray, hj]
theorem DrV.form3 {w : World} {v : Value} {d : Dr} (h : DrV w v d) (hW : d.W.length = 3) (hD : d.D.length = 3) : ∃ A c A' c', v = .agg #[.slice A 3 c, .int .i64 d.q, .slice A' 3 c', .int .i64 d.t] := by
  obtain ⟨vW, vD, rfl, h1, h2⟩ := h
  obtain ⟨A, c, rfl, _⟩ := h1
  obtain ⟨A', c', rfl, _⟩ := h2
  rw [hW, hD]
  exact ⟨_, _, _, _, rfl⟩
def d400 : Dr := ⟨[1, 2, 4], 100, [0, 0, 400], 2⟩
theorem Next_to {d d' : Dr} {H : List Int} {p e : Int} (h : nxt d H = (p, d', e)) (v u : Value) (w : World) (hD : DrV w v d) (hH : IntAt w u H) : Calls Try.prog 17 #[v, u] w (RetND p d' e w) := by
  have := Next_any d H v u w hD hH
  rwa [h] at this
theorem Turns_to {d : Dr} {H : List Int} {n e : Int} (h : trn d H = (n, e)) (v u : Value) (w : World) (hD : DrV w v d) (hH : IntAt w u H) : Calls Try.prog 20 #[v, u] w (RetII n e w) := by
  have := Turns_any d H v u w hD hH
  rwa [h] at this

set_option maxRecDepth 100000 in
set_option maxHeartbeats 4000000 in
theorem serves_t (H : List Int) (p n : Int) (d' : Dr) (h1 : nxt d400 H = (p, d', 0)) (h2 : trn d400 H = (n, 0)) (hw3 : d'.W.length = 3) (hd3 : d'.D.length = 3) (v u : Value) (w : World) (hV : IntAt w v H) (hU : DrV w u d') :
    Calls Try.prog 30 #[v, .int .i64 p, u, .int .i64 n] w (RetB true w) := by
  obtain ⟨W, q, D, t⟩ := d'
  obtain ⟨uW, uD, rfl, hW, hD⟩ := id hU
  have t1 : (p == p) = true := by simp
  have t2 : (n == n) = true := by simp
  have HV := Lib.hid hV
  have HU := Lib.hid hU
  have H1 := Lib.hid h1
  have H2 := Lib.hid h2
  dsimp only at *
  clear hV hU h1 h2 hW hD
  go_enter Try.func30, Try.ntmps30
  go_wp2_with fail
  refine (state_any 2 [0, 0, 400] _ _ (lit_at (t := 3) (L := [0, 0, 400]) (Blk.new1 _ _ _ _) 3 rfl (by decide))).mono ?_
  rintro e w1 ⟨v1, rfl, hv1, hb1⟩
  have hB1 : Below w.heap.size w w1 := bnext (bal (bal (Below.refl _ _) _) _) hb1
  have k1 := Lib.hid (((Blk.new w 24 #[uW, .int .i64 q, uD, .int .i64 t]).alloc (.cells #[.int .i64 0, .int .i64 0, .int .i64 400] 3)).below hb1)
  have V1 := Lib.hid hv1
  clear hb1 hv1
  go_wp2_with fail
  refine (Next_to H1.out _ _ _ V1.out (HV.out.below hB1)).mono ?_
  rintro e w2 ⟨v2, rfl, hv2, hb2⟩
  have hB2 := bnext hB1 hb2
  obtain ⟨Ax, cx, Bx, ex, rfl⟩ := hv2.form3 hw3 hd3
  dsimp only at *
  have X2 := Lib.hid hv2
  have k2 := Lib.hid (k1.out.below hb2)
  clear hb2 hv2 V1
  go_wp2_with fail
  refine (state_any 2 [0, 0, 400] _ _ (lit_at (t := 3) (L := [0, 0, 400]) (Blk.new1 _ _ _ _) 3 rfl (by decide))).mono ?_
  rintro e w3 ⟨v3, rfl, hv3, hb3⟩
  have hB3 : Below w.heap.size w w3 := bnext (bal (bal hB2 _) _) hb3
  have k3 := Lib.hid (((k2.out.alloc (.cells #[.slice Ax 3 cx, .int .i64 q, .slice Bx 3 ex, .int .i64 t] 24)).alloc (.cells #[.int .i64 0, .int .i64 0, .int .i64 400] 3)).below hb3)
  have x3 := Lib.hid (((Blk.new w2 24 #[.slice Ax 3 cx, .int .i64 q, .slice Bx 3 ex, .int .i64 t]).alloc (.cells #[.int .i64 0, .int .i64 0, .int .i64 400] 3)).below hb3)
  have X3 := Lib.hid (((X2.out.alloc (.cells #[.slice Ax 3 cx, .int .i64 q, .slice Bx 3 ex, .int .i64 t] 24)).alloc (.cells #[.int .i64 0, .int .i64 0, .int .i64 400] 3)).below hb3)
  have V3 := Lib.hid hv3
  clear hb3 hv3 k1 k2 X2
  go_wp2_with fail
  refine (Turns_to H2.out _ _ _ V3.out (HV.out.below hB3)).mono ?_
  rintro e w4 ⟨rfl, hb4⟩
  have hB4 := bnext hB3 hb4
  have X4 := Lib.hid (X3.out.below hb4)
  obtain ⟨c0, c1, c2, c3⟩ := (k3.out.below hb4).c4
  obtain ⟨y0, y1, y2, y3⟩ := (x3.out.below hb4).c4
  clear hb4 k3 x3 X3 V3
  go_wp2_with fail
  refine (same_eq ⟨W, q, D, t⟩ _ _ _ X4.out (HU.out.below hB4)).mono ?_
  rintro e w5 ⟨rfl, hb5⟩
  have hB5 := bnext hB4 hb5
  clear hb5
  go_wp2_with fail
  go_ret
  exact ⟨rfl, hB5⟩
end Go.Proofs.Ythkfdfkjenhjmaa
