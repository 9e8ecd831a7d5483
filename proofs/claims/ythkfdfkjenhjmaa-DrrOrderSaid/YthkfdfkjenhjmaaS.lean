/- Contract: DrrOrder. -/
import Derived.Test.YthkfdfkjenhjmaaP
import Derived.Test.YthkfdfkjenhjmaaQ
import Derived.Test.YthkfdfkjenhjmaaZ3
import Derived.Test.YthkfdfkjenhjmaaY
namespace Go.Proofs.Ythkfdfkjenhjmaa
open Go.RowKit
set_option linter.unusedVariables false
set_option linter.unusedSimpArgs false

theorem rOrder_to {d d' : Dr} {l : List Wt} {b e : Int} {o : List Nat} (h : ord d l b = (o, d', e)) (hb1 : -9223372036854775808 ≤ b) (hb2 : b ≤ 9223372036854775807) (hl : l.length ≤ 1000) (v u : Value) (w : World) (hD : DrV w v d) (hL : WtAt w u l) :
    Calls Try.prog 28 #[v, u, .int .i64 b] w (RetO o d' e w) := by
  have := rOrder_any d l b hb1 hb2 hl v u w hD hL
  rwa [h] at this
/-- what the law knows of the states and lists that it holds -/
structure OrK (w : World) (g3 g7 : Nat) (a0 d0 a7 d7 v1 v8 : Value) (d : Dr) (l : List Wt) (wx : World) : Prop where
  b3 : Blk wx g3 24 #[a0, .int .i64 d.q, d0, .int .i64 d.t]
  b7 : Blk wx g7 24 #[a7, .int .i64 d.q, d7, .int .i64 d.t]
  v3 : DrV wx (.agg #[a0, .int .i64 d.q, d0, .int .i64 d.t]) d
  v7 : DrV wx (.agg #[a7, .int .i64 d.q, d7, .int .i64 d.t]) d
  s1 : WtAt wx v1 l
  s8 : WtAt wx v8 l
  hB : Below w.heap.size w wx
section
variable {w wx wy : World} {g3 g7 : Nat} {a0 d0 a7 d7 v1 v8 : Value} {d : Dr} {l : List Wt}
theorem OrK.below (h : OrK w g3 g7 a0 d0 a7 d7 v1 v8 d l wx) (hb : Below wx.heap.size wx wy) : OrK w g3 g7 a0 d0 a7 d7 v1 v8 d l wy := ⟨h.b3.below hb, h.b7.below hb, h.v3.below hb, h.v7.below hb, SlAt.below h.s1 hb, SlAt.below h.s8 hb, bnext h.hB hb⟩
theorem OrK.alloc (h : OrK w g3 g7 a0 d0 a7 d7 v1 v8 d l wx) (o : Obj) : OrK w g3 g7 a0 d0 a7 d7 v1 v8 d l (wx.alloc o) := h.below ((Below.refl _ _).alloc (Nat.le_refl _) o)
end

set_option maxRecDepth 100000 in
set_option maxHeartbeats 8000000 in
theorem DrrOrder_t (d : Dr) (l : List Wt) (b : Int) (hb1 : -9223372036854775808 ≤ b) (hb2 : b ≤ 9223372036854775807) (v u : Value) (w : World) (hV : DrV w v d) (hU : WtAt w u l) :
    Calls Try.prog 5 #[v, u, .int .i64 b] w (RetB true w) := by
  obtain ⟨A0, m0, k0, D0, r0, j0, rfl⟩ := hV.form
  have HV := Lib.hid hV
  have HU := Lib.hid hU
  obtain ⟨Au, cu, rfl, hle, hmax, hrow⟩ := hU
  clear hrow hV
  by_cases hg : (decide (d.W.length ≤ 10) && decide (d.D.length ≤ 10)) = true ∧ ¬ 60 < l.length
  case neg =>
    obtain ⟨lb, hlb⟩ : ∃ b, (decide (d.W.length ≤ 10) && decide (d.D.length ≤ 10)) = b := ⟨_, rfl⟩
    have HL : Hid (∀ (v : Value) (w : World) (hV : DrV w v d), Calls Try.prog 11 #[v] w (RetB lb w)) := Lib.hid (by rw [← hlb]; exact light_any d)
    rw [hlb] at hg
    cases lb
    case false =>
      clear hg hlb
      go_enter Try.func5, Try.ntmps5
      go_wp2_with fail
      refine (HL.out _ _ (HV.out.alloc _)).mono ?_
      rintro e w1 ⟨rfl, hb1⟩
      go_wp2_with fail
      refine (awake_t _).mono ?_
      rintro e w2 ⟨rfl, hb2⟩
      go_wp2_with fail
      go_ret
      exact ⟨rfl, bnext (bnext (bal (Below.refl _ _) _) hb1) hb2⟩
    case true =>
      have t1 : (60 < (l.length : Int)) := by simp at hg; omega
      clear hg hlb
      go_enter Try.func5, Try.ntmps5
      go_wp2_with fail
      refine (HL.out _ _ (HV.out.alloc _)).mono ?_
      rintro e w1 ⟨rfl, hb1⟩
      go_wp2_with fail
      refine (awake_t _).mono ?_
      rintro e w2 ⟨rfl, hb2⟩
      go_wp2_with fail
      go_ret
      exact ⟨rfl, bnext (bnext (bal (Below.refl _ _) _) hb1) hb2⟩
  obtain ⟨hlg, hl⟩ := hg
  have t1 : ¬ (60 < (l.length : Int)) := by omega
  have HL : Hid (∀ (v : Value) (w : World) (hV : DrV w v d), Calls Try.prog 11 #[v] w (RetB true w)) := Lib.hid (by rw [← hlg]; exact light_any d)
  have h20 : lt20 d := by simp at hlg; unfold lt20; omega
  have H20 := Lib.hid h20
  obtain ⟨o6, d6, e6, h6⟩ : ∃ o d' e, ord d l b = (o, d', e) := ⟨_, _, _, rfl⟩
  have H6 := Lib.hid h6
  have te : (e6 != e6) = false := by simp
  clear hlg h20 h6
  go_enter Try.func5, Try.ntmps5
  go_wp2_with fail
  refine (HL.out _ _ (HV.out.alloc _)).mono ?_
  rintro e w1 ⟨rfl, hb1⟩
  have hB1 : Below w.heap.size w w1 := bnext (bal (Below.refl _ _) _) hb1
  have x1 := Lib.hid ((Blk.new w 24 #[(Value.slice A0 m0 k0), .int .i64 d.q, (Value.slice D0 r0 j0), .int .i64 d.t]).below hb1)
  obtain ⟨z0, z1, z2, z3⟩ := x1.out.c4
  have l1 := x1.out.lt
  clear hb1
  go_wp2_with fail
  refine (own_any d _ _ (HV.out.below hB1) H20.out).mono ?_
  rintro e w2 ⟨A9, c9, B9, e9, rfl, o1, o2, ap, hb2⟩
  have hB2 : Below w.heap.size w w2 := bnext hB1 hb2
  have x2 := Lib.hid (x1.out.below hb2)
  have V9 : Hid (DrV w2 (.agg #[.slice A9 d.W.length c9, .int .i64 d.q, .slice B9 d.D.length e9, .int .i64 d.t]) d) := Lib.hid ⟨_, _, rfl, o1.at, o2.at⟩
  have HO : Hid ((w2.alloc (.cells #[] 46)).ownsRow w2.heap.size 46 2 (.slice (some ⟨w2.heap.size, 0, none⟩) 0 0) 0 (fl Wt.cells [])) := Lib.hid (World.ownsRow_made (base := w2.heap.size) (e := 46) (size := 2) w2 #[] 0 (Nat.le_refl _) (by unfold maxLen; omega) rfl)
  clear z0 z1 z2 z3 l1 o1 o2 ap hb2
  have hs2 := hB2.size
  go_wp2_with (first
    | (at_builtin; refine wpList_app_all (f := Wt.cells) rfl _ _ 42 rfl w2.heap.size 46 2 16 infoWt rfl (by decide) Try.underlying42 wt2 wt_one _ w2 w2.heap.size [] l _ _ (by rfl) (by rfl) ((SlAt.below HU.out hB2).alloc _) HO.out (by repeat (first | with_reducible exact Below.refl _ _ | with_reducible refine Below.drew ?_ | with_reducible refine below_drewN ?_ _ | with_reducible refine bal ?_ _ | with_reducible refine bset ?_ (by first | (simp; done) | (simp; omega)) _ | with_reducible refine bnext ?_ (by assumption) | with_reducible assumption)) (Nat.le_refl _) (by simp) (by simp; omega) (by unfold maxLen; simp; omega) ?_; intro A3 c3 w3 hown hB3 _; have HO3 := Lib.hid hown; have hBw3 := bnext hB2 hB3; have x3 := x2.out.below hB3; have V3 := Lib.hid (V9.out.below hB3); clear hown))
  have kk : OrK w w.heap.size w3.heap.size (.slice A0 m0 k0) (.slice D0 r0 j0) (.slice A9 d.W.length c9) (.slice B9 d.D.length e9) (.slice Au l.length cu) (.slice A3 l.length c3) d l (w3.alloc (.cells #[.slice A9 d.W.length c9, .int .i64 d.q, .slice B9 d.D.length e9, .int .i64 d.t] 24)) :=
    ⟨x3.alloc _, Blk.new _ _ _, (HV.out.below hBw3).alloc _, V3.out.alloc _, SlAt.alloc (SlAt.below HU.out hBw3) _, by have := SlAt.own HO3.out; simpa [WtAt] using SlAt.alloc this _, bal hBw3 _⟩
  have K := Lib.hid kk
  obtain ⟨g3, hg3⟩ : ∃ g, g = w.heap.size := ⟨_, rfl⟩
  obtain ⟨g7, hg7⟩ : ∃ g, g = w3.heap.size := ⟨_, rfl⟩
  rw [← hg3, ← hg7] at K
  rw [← hg7]
  generalize w3.alloc (.cells #[.slice A9 d.W.length c9, .int .i64 d.q, .slice B9 d.D.length e9, .int .i64 d.t] 24) = wo at K ⊢
  clear kk x3 V3 HO HO3 hB3 hBw3 x2 V9 hs2 hB1 hB2 hg7 x1
  refine (Order_to H6.out hb1 hb2 (by omega) _ _ _ K.out.v7 K.out.s8).mono ?_
  rintro e w4 ⟨v4, x4, rfl, hv4, hx4, hb4⟩
  obtain ⟨A4, n4, c4, B4, m4, o4, rfl⟩ := hx4.form
  obtain ⟨P4, p4, rfl, _⟩ := id hv4
  have K4 := Lib.hid ((K.out.below hb4).alloc (.cells #[.slice A4 n4 c4, .int .i64 d6.q, .slice B4 m4 o4, .int .i64 d6.t] 24))
  have X4 := Lib.hid (hx4.alloc (.cells #[.slice A4 n4 c4, .int .i64 d6.q, .slice B4 m4 o4, .int .i64 d6.t] 24))
  have N4 := Lib.hid (SlAt.alloc hv4 (.cells #[.slice A4 n4 c4, .int .i64 d6.q, .slice B4 m4 o4, .int .i64 d6.t] 24))
  have C4 := Lib.hid (Blk.new w4 24 #[.slice A4 n4 c4, .int .i64 d6.q, .slice B4 m4 o4, .int .i64 d6.t])
  obtain ⟨z0, z1, z2, z3⟩ := K4.out.b3.c4
  rw [hg3] at z0 z1 z2 z3
  clear hx4 hv4 hb4
  go_wp2_with fail
  refine (rOrder_to H6.out hb1 hb2 (by omega) _ _ _ K4.out.v3 K4.out.s1).mono ?_
  rintro e w5 ⟨v5, x5, rfl, hv5, hx5, hb5⟩
  obtain ⟨A5, n5, c5, B5, m5, o5, rfl⟩ := hx5.form
  obtain ⟨P5, p5, rfl, _⟩ := id hv5
  have K5 := Lib.hid ((K4.out.below hb5).alloc (.cells #[.slice A5 n5 c5, .int .i64 d6.q, .slice B5 m5 o5, .int .i64 d6.t] 24))
  have X5 := Lib.hid ((X4.out.below hb5).alloc (.cells #[.slice A5 n5 c5, .int .i64 d6.q, .slice B5 m5 o5, .int .i64 d6.t] 24))
  have Y5 := Lib.hid (hx5.alloc (.cells #[.slice A5 n5 c5, .int .i64 d6.q, .slice B5 m5 o5, .int .i64 d6.t] 24))
  have N5 := Lib.hid (SlAt.alloc (SlAt.below N4.out hb5) (.cells #[.slice A5 n5 c5, .int .i64 d6.q, .slice B5 m5 o5, .int .i64 d6.t] 24))
  have M5 := Lib.hid (SlAt.alloc hv5 (.cells #[.slice A5 n5 c5, .int .i64 d6.q, .slice B5 m5 o5, .int .i64 d6.t] 24))
  have C5 := Lib.hid ((C4.out.below hb5).alloc (.cells #[.slice A5 n5 c5, .int .i64 d6.q, .slice B5 m5 o5, .int .i64 d6.t] 24))
  have D5 := Lib.hid (Blk.new w5 24 #[.slice A5 n5 c5, .int .i64 d6.q, .slice B5 m5 o5, .int .i64 d6.t])
  clear z0 z1 z2 z3 hv5 hx5 hb5 K4 X4 N4 C4
  go_wp2_with fail
  refine (SameInts_eq (nums o6) _ _ _ N5.out M5.out).mono ?_
  rintro e w6 ⟨rfl, hb6⟩
  have K6 := Lib.hid (K5.out.below hb6)
  have X6 := Lib.hid (X5.out.below hb6)
  have Y6 := Lib.hid (Y5.out.below hb6)
  have C6 := Lib.hid (C5.out.below hb6)
  have D6 := Lib.hid (D5.out.below hb6)
  obtain ⟨y0, y1, y2, y3⟩ := C6.out.c4
  obtain ⟨x0, x1, x2, x3⟩ := D6.out.c4
  obtain ⟨z0, z1, z2, z3⟩ := K6.out.b3.c4
  obtain ⟨q0, q1, q2, q3⟩ := K6.out.b7.c4
  rw [hg3] at z0 z1 z2 z3
  clear hb6 K5 X5 Y5 C5 D5 N5 M5
  go_wp2_with fail
  refine (same_eq d6 _ _ _ X6.out Y6.out).mono ?_
  rintro e w7 ⟨rfl, hb7⟩
  have K7 := Lib.hid (K6.out.below hb7)
  clear y0 y1 y2 y3 x0 x1 x2 x3 z0 z1 z2 z3 q0 q1 q2 q3 hb7 K6 X6 Y6 C6 D6
  obtain ⟨z0, z1, z2, z3⟩ := K7.out.b3.c4
  obtain ⟨q0, q1, q2, q3⟩ := K7.out.b7.c4
  rw [hg3] at z0 z1 z2 z3
  go_wp2_with fail
  refine (same_eq d _ _ _ K7.out.v7 K7.out.v3).mono ?_
  rintro e w8 ⟨rfl, hb8⟩
  have K8 := Lib.hid (K7.out.below hb8)
  clear z0 z1 z2 z3 q0 q1 q2 q3 hb8 K7
  go_wp2_with fail
  go_loopw [15] (fun a wr => ∃ k : Nat, k ≤ l.length ∧ a = .int .i64 k ∧ Below w8.heap.size w8 wr) (fun a _ => l.length - (intOf a).toNat)
  case atStart => exact ⟨0, by omega, rfl, Below.refl _ _⟩
  case round =>
    obtain ⟨k, hk, rfl, hB⟩ := hrel
    have hBw : Below w.heap.size w wr := bnext K8.out.hB hB
    by_cases hlt : k < l.length
    · have hi : (k : Int) < l.length := by omega
      have hi0 : (0 : Int) ≤ k := by omega
      obtain ⟨x, hx⟩ : ∃ x, l[k]? = some x := ⟨_, List.getElem?_eq_getElem hlt⟩
      obtain ⟨Ba, ca, e1, _, _, hRa⟩ := SlAt.below K8.out.s1 hB
      cases e1
      obtain ⟨bb, oo, rfl, hbb, d0, d1⟩ := reads_fl2 wt2 hRa rfl hx rfl
      obtain ⟨Bc, cc, e1, _, _, hRc⟩ := SlAt.below K8.out.s8 hB
      cases e1
      obtain ⟨bc, oc, rfl, hbc, d2, d3⟩ := reads_fl2 wt2 hRc rfl hx rfl
      have t2 : (x.p == x.p) = true := by simp
      have t3 : (x.s == x.s) = true := by simp
      clear hx hRa hRc
      go_wp2_with fail
      go_quiet (fail)
      go_wp2_with fail
      go_roundw
      case rel => exact ⟨k + 1, by omega, by go_num, below_drewN hB _⟩
      case measure => simp [intOf]; omega
    · obtain rfl : k = l.length := by omega
      go_wp2_with fail
      refine (awake_t _).mono ?_
      rintro e w9 ⟨rfl, hb9⟩
      go_wp2_with fail
      go_ret
      exact ⟨rfl, bnext hBw hb9⟩
end Go.Proofs.Ythkfdfkjenhjmaa
