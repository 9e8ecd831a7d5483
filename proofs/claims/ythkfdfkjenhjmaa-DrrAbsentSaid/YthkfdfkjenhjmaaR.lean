/- Contract: DrrNext. -/
import Derived.Test.YthkfdfkjenhjmaaQ
import Derived.Test.YthkfdfkjenhjmaaPut
namespace Go.Proofs.Ythkfdfkjenhjmaa
open Go.RowKit
set_option linter.unusedVariables false
set_option linter.unusedSimpArgs false

theorem rCheck_to {d : Dr} {e : Int} (h : chk d = e) (v : Value) (w : World) (hD : DrV w v d) : Calls Try.prog 16 #[v] w (RetI e w) := by
  have := rCheck_any d v w hD
  rwa [h] at this
theorem rTurns_to {d : Dr} {H : List Int} {n e : Int} (h : trn d H = (n, e)) (v u : Value) (w : World) (hD : DrV w v d) (hH : IntAt w u H) : Calls Try.prog 21 #[v, u] w (RetII n e w) := by
  have := rTurns_any d H v u w hD hH
  rwa [h] at this
theorem rNext_to {d d' : Dr} {H : List Int} {p e : Int} (h : nxt d H = (p, d', e)) (v u : Value) (w : World) (hD : DrV w v d) (hH : IntAt w u H) : Calls Try.prog 18 #[v, u] w (RetND p d' e w) := by
  have := rNext_any d H v u w hD hH
  rwa [h] at this
theorem rBack_to {d d' : Dr} {p s e : Int} (h : bck d p s = (d', e)) (v : Value) (w : World) (hD : DrV w v d) : Calls Try.prog 23 #[v, .int .i64 p, .int .i64 s] w (RetDE d' e w) := by
  have := rBack_any d p s v w hD
  rwa [h] at this
/-- what the law knows of the two states that it holds -/
structure NxK (w : World) (g0 g9 : Nat) (a0 d0 a9 d9 v1 v10 : Value) (d : Dr) (H : List Int) (wx : World) : Prop where
  b0 : Blk wx g0 24 #[a0, .int .i64 d.q, d0, .int .i64 d.t]
  b9 : Blk wx g9 24 #[a9, .int .i64 d.q, d9, .int .i64 d.t]
  v0 : DrV wx (.agg #[a0, .int .i64 d.q, d0, .int .i64 d.t]) d
  v9 : DrV wx (.agg #[a9, .int .i64 d.q, d9, .int .i64 d.t]) d
  s1 : IntAt wx v1 H
  s10 : IntAt wx v10 H
  hB : Below w.heap.size w wx
section
variable {w wx wy : World} {g0 g9 : Nat} {a0 d0 a9 d9 v1 v10 : Value} {d : Dr} {H : List Int}
theorem NxK.below (h : NxK w g0 g9 a0 d0 a9 d9 v1 v10 d H wx) (hb : Below wx.heap.size wx wy) : NxK w g0 g9 a0 d0 a9 d9 v1 v10 d H wy := ⟨h.b0.below hb, h.b9.below hb, h.v0.below hb, h.v9.below hb, SlAt.below h.s1 hb, SlAt.below h.s10 hb, bnext h.hB hb⟩
theorem NxK.alloc (h : NxK w g0 g9 a0 d0 a9 d9 v1 v10 d H wx) (o : Obj) : NxK w g0 g9 a0 d0 a9 d9 v1 v10 d H (wx.alloc o) := h.below ((Below.refl _ _).alloc (Nat.le_refl _) o)
theorem NxK.drew (h : NxK w g0 g9 a0 d0 a9 d9 v1 v10 d H wx) : NxK w g0 g9 a0 d0 a9 d9 v1 v10 d H wx.drew := ⟨h.b0.drew, h.b9.drew, h.v0.drew, h.v9.drew, h.s1, h.s10, h.hB.drew⟩
end

set_option maxRecDepth 100000 in
set_option maxHeartbeats 8000000 in
theorem DrrNext_t (d : Dr) (H : List Int) (p s : Int) (v u : Value) (w : World) (hV : DrV w v d) (hU : IntAt w u H) :
    Calls Try.prog 3 #[v, u, .int .i64 p, .int .i64 s] w (RetB true w) := by
  obtain ⟨c, hC⟩ : ∃ c, chk d = c := ⟨_, rfl⟩
  have HC := Lib.hid hC
  obtain ⟨A0, m0, k0, D0, r0, j0, rfl⟩ := hV.form
  have HV := Lib.hid hV
  have HU := Lib.hid hU
  obtain ⟨Au, cu, rfl, hle, hmax, hrow⟩ := hU
  clear hrow hC hV
  by_cases hg : (decide (d.W.length ≤ 10) && decide (d.D.length ≤ 10)) = true ∧ ¬ 10 < H.length
  case neg =>
    obtain ⟨lb, hlb⟩ : ∃ b, (decide (d.W.length ≤ 10) && decide (d.D.length ≤ 10)) = b := ⟨_, rfl⟩
    have HL : Hid (∀ (v : Value) (w : World) (hV : DrV w v d), Calls Try.prog 11 #[v] w (RetB lb w)) := Lib.hid (by rw [← hlb]; exact light_any d)
    rw [hlb] at hg
    cases lb
    case false =>
      clear hg hlb
      go_enter Try.func3, Try.ntmps3
      go_wp2_with fail
      refine (HL.out _ _ (HV.out.alloc _)).mono ?_
      rintro e w1 ⟨rfl, hb1⟩
      go_wp2_with fail
      refine (awake_t _).mono ?_
      rintro e w2 ⟨rfl, hb2⟩
      go_wp2_with fail
      go_ret
      exact ⟨rfl, bnext (bnext (bal (Below.refl _ _) _) hb1) hb2⟩
    case true =>
      have t1 : (10 < (H.length : Int)) := by simp at hg; omega
      clear hg hlb
      go_enter Try.func3, Try.ntmps3
      go_wp2_with fail
      refine (HL.out _ _ (HV.out.alloc _)).mono ?_
      rintro e w1 ⟨rfl, hb1⟩
      go_wp2_with fail
      refine (awake_t _).mono ?_
      rintro e w2 ⟨rfl, hb2⟩
      go_wp2_with fail
      go_ret
      exact ⟨rfl, bnext (bnext (bal (Below.refl _ _) _) hb1) hb2⟩
  obtain ⟨hlg, hl⟩ := hg
  have t1 : ¬ (10 < (H.length : Int)) := by omega
  have HL : Hid (∀ (v : Value) (w : World) (hV : DrV w v d), Calls Try.prog 11 #[v] w (RetB true w)) := Lib.hid (by rw [← hlg]; exact light_any d)
  have h20 : lt20 d := by simp at hlg; unfold lt20; omega
  have H20 := Lib.hid h20
  clear hlg h20
  go_enter Try.func3, Try.ntmps3
  go_wp2_with fail
  refine (HL.out _ _ (HV.out.alloc _)).mono ?_
  rintro e w1 ⟨rfl, hb1⟩
  have hB1 : Below w.heap.size w w1 := bnext (bal (Below.refl _ _) _) hb1
  have x1 := Lib.hid ((Blk.new w 24 #[(Value.slice A0 m0 k0), .int .i64 d.q, (Value.slice D0 r0 j0), .int .i64 d.t]).below hb1)
  obtain ⟨z0, z1, z2, z3⟩ := x1.out.c4
  have l1 := x1.out.lt
  clear hb1
  go_wp2_with fail
  refine (own_any d _ _ (HV.out.below hB1) H20.out).mono ?_
  rintro e w2 ⟨A9, c9, B9, e9, rfl, o1, o2, ap, hb2⟩
  have hB2 : Below w.heap.size w w2 := bnext hB1 hb2
  have x2 := Lib.hid (x1.out.below hb2)
  have V9 : Hid (DrV w2 (.agg #[.slice A9 d.W.length c9, .int .i64 d.q, .slice B9 d.D.length e9, .int .i64 d.t]) d) := Lib.hid ⟨_, _, rfl, o1.at, o2.at⟩
  clear z0 z1 z2 z3 l1 o1 o2 ap hb2
  go_wp2_with fail
  refine (OwnInts_any H _ _ (SlAt.below HU.out hB2) (by omega)).mono ?_
  rintro e w3 ⟨A10, c10, rfl, o10, hb3⟩
  have hB3 : Below w.heap.size w w3 := bnext hB2 hb3
  have x3 := x2.out.below hb3
  have kk : NxK w w.heap.size w3.heap.size (Value.slice A0 m0 k0) (Value.slice D0 r0 j0) (Value.slice A9 d.W.length c9) (Value.slice B9 d.D.length e9) (.slice Au H.length cu) (Value.slice A10 H.length c10) d H (w3.alloc (.cells #[(Value.slice A9 d.W.length c9), .int .i64 d.q, (Value.slice B9 d.D.length e9), .int .i64 d.t] 24)) :=
    ⟨x3.alloc _, Blk.new _ _ _, (HV.out.below hB3).alloc _, (V9.out.below hb3).alloc _, SlAt.alloc (SlAt.below HU.out hB3) _, SlAt.alloc (OwnI.at o10) _, bal hB3 _⟩
  have K := Lib.hid kk
  obtain ⟨z0, z1, z2, z3⟩ := x3.c4
  clear kk x3 x2 V9 o10 hb3
  go_upto_region 4 with fail
  obtain ⟨g0, hg0⟩ : ∃ g, g = w.heap.size := ⟨_, rfl⟩
  obtain ⟨g9, hg9⟩ : ∃ g, g = w3.heap.size := ⟨_, rfl⟩
  rw [← hg0, ← hg9] at K ⊢
  generalize w3.alloc (.cells #[(Value.slice A9 d.W.length c9), .int .i64 d.q, (Value.slice B9 d.D.length e9), .int .i64 d.t] 24) = wo at K ⊢
  clear hg0 hg9 hB1 hB2 hB3 z0 z1 z2 z3
  obtain ⟨z0, z1, z2, z3⟩ := K.out.b0.c4
  obtain ⟨z4, z5, z6, z7⟩ := K.out.b9.c4
  have tC : (c != c) = false := by simp
  go_cut [38] (fun s5 wx => s5 = .bool false ∧ NxK w g0 g9 (Value.slice A0 m0 k0) (Value.slice D0 r0 j0) (Value.slice A9 d.W.length c9) (Value.slice B9 d.D.length e9) (Value.slice Au H.length cu) (Value.slice A10 H.length c10) d H wx)
  case first =>
    go_region_held3 (fun w' => w'.cell? ⟨g0, 0, none⟩ = some (Value.slice A0 m0 k0) ∧ w'.cell? ⟨g0, 1, none⟩ = some (.int .i64 d.q) ∧ w'.cell? ⟨g0, 2, none⟩ = some (Value.slice D0 r0 j0) ∧ w'.cell? ⟨g0, 3, none⟩ = some (.int .i64 d.t) ∧ w'.cell? ⟨g9, 0, none⟩ = some (Value.slice A9 d.W.length c9) ∧ w'.cell? ⟨g9, 1, none⟩ = some (.int .i64 d.q) ∧ w'.cell? ⟨g9, 2, none⟩ = some (Value.slice B9 d.D.length e9) ∧ w'.cell? ⟨g9, 3, none⟩ = some (.int .i64 d.t)) (go_keep)
      (first
        | (go_at_call 15; refine (Check_to HC.out _ _ ?_).mono ?_; (focus (refine NxK.v9 (w := w) (g0 := g0) (g9 := g9) (a0 := (Value.slice A0 m0 k0)) (d0 := (Value.slice D0 r0 j0)) (a9 := (Value.slice A9 d.W.length c9)) (d9 := (Value.slice B9 d.D.length e9)) (v1 := (Value.slice Au H.length cu)) (v10 := (Value.slice A10 H.length c10)) (d := d) (H := H) ?_; (repeat (first | with_reducible exact K.out | with_reducible refine NxK.alloc ?_ _ | with_reducible refine NxK.drew ?_)))); rintro e wn ⟨rfl, hbn⟩; have K' : NxK w g0 g9 (Value.slice A0 m0 k0) (Value.slice D0 r0 j0) (Value.slice A9 d.W.length c9) (Value.slice B9 d.D.length e9) (Value.slice Au H.length cu) (Value.slice A10 H.length c10) d H wn := (by refine NxK.below ?_ hbn; (repeat (first | with_reducible exact K.out | with_reducible refine NxK.alloc ?_ _ | with_reducible refine NxK.drew ?_))); clear K z0 z1 z2 z3 z4 z5 z6 z7; have K := Lib.hid K'; obtain ⟨z0, z1, z2, z3⟩ := K'.b0.c4; obtain ⟨z4, z5, z6, z7⟩ := K'.b9.c4; clear K')
        | (go_at_call 16; refine (rCheck_to HC.out _ _ ?_).mono ?_; (focus (refine NxK.v0 (w := w) (g0 := g0) (g9 := g9) (a0 := (Value.slice A0 m0 k0)) (d0 := (Value.slice D0 r0 j0)) (a9 := (Value.slice A9 d.W.length c9)) (d9 := (Value.slice B9 d.D.length e9)) (v1 := (Value.slice Au H.length cu)) (v10 := (Value.slice A10 H.length c10)) (d := d) (H := H) ?_; (repeat (first | with_reducible exact K.out | with_reducible refine NxK.alloc ?_ _ | with_reducible refine NxK.drew ?_)))); rintro e wn ⟨rfl, hbn⟩; have K' : NxK w g0 g9 (Value.slice A0 m0 k0) (Value.slice D0 r0 j0) (Value.slice A9 d.W.length c9) (Value.slice B9 d.D.length e9) (Value.slice Au H.length cu) (Value.slice A10 H.length c10) d H wn := (by refine NxK.below ?_ hbn; (repeat (first | with_reducible exact K.out | with_reducible refine NxK.alloc ?_ _ | with_reducible refine NxK.drew ?_))); clear K z0 z1 z2 z3 z4 z5 z6 z7; have K := Lib.hid K'; obtain ⟨z0, z1, z2, z3⟩ := K'.b0.c4; obtain ⟨z4, z5, z6, z7⟩ := K'.b9.c4; clear K'))
    all_goals
      go_wp2_with fail
      go_meet
      exact ⟨rfl, K.out⟩
  case rest =>
    obtain ⟨rfl, kx⟩ := hcut
    clear K z0 z1 z2 z3 z4 z5 z6 z7 tC
    have K := Lib.hid kx
    obtain ⟨z0, z1, z2, z3⟩ := kx.b0.c4
    obtain ⟨z4, z5, z6, z7⟩ := kx.b9.c4
    clear kx
    obtain ⟨p6, d6, e6, h6⟩ : ∃ p d' e, nxt d H = (p, d', e) := ⟨_, _, _, rfl⟩
    obtain ⟨nt, et, ht⟩ : ∃ n e, trn d H = (n, e) := ⟨_, _, rfl⟩
    obtain ⟨db, eb, hk⟩ : ∃ d' e, bck d p s = (d', e) := ⟨_, _, rfl⟩
    have H6 := Lib.hid h6
    have HT := Lib.hid ht
    have HK := Lib.hid hk
    have H03 : Hid (dr03 db) := Lib.hid (by have := bck03 d p s; rwa [hk] at this)
    clear h6 ht hk
    have tp : (p6 != p6) = false := by simp
    have te : (e6 != e6) = false := by simp
    have tn : (nt == nt) = true := by simp
    have tt : (et == et) = true := by simp
    have tb : (eb == eb) = true := by simp
    go_wp2_with fail
    refine (Next_to H6.out _ _ _ K.out.v9 K.out.s10).mono ?_
    rintro e w6 ⟨v6, rfl, hv6, hb6⟩
    obtain ⟨A6, n6, c6, B6, m6, o6, rfl⟩ := hv6.form
    have K6 := Lib.hid (K.out.below hb6)
    have V6 := Lib.hid hv6
    clear z0 z1 z2 z3 z4 z5 z6 z7 hv6
    obtain ⟨z0, z1, z2, z3⟩ := K6.out.b0.c4
    obtain ⟨z4, z5, z6, z7⟩ := K6.out.b9.c4
    have l0 := K6.out.b0.lt
    have l9 := K6.out.b9.lt
    go_wp2_with fail
    refine (rNext_to H6.out _ _ _ (K6.out.v0.alloc _) (SlAt.alloc K6.out.s1 _)).mono ?_
    rintro e w7 ⟨v7, rfl, hv7, hb7⟩
    obtain ⟨A7, n7, c7, B7, m7, o7, rfl⟩ := hv7.form
    have K7 := Lib.hid ((K6.out.alloc _).below hb7)
    have V7 := Lib.hid hv7
    have b7 := (Blk.new w6 24 #[.slice A6 n6 c6, .int .i64 d6.q, .slice B6 m6 o6, .int .i64 d6.t]).below hb7
    have X7 := Lib.hid ((V6.out.alloc (.cells #[.slice A6 n6 c6, .int .i64 d6.q, .slice B6 m6 o6, .int .i64 d6.t] 24)).below hb7)
    have hA7 := bnext (bal hb6 (.cells #[.slice A6 n6 c6, .int .i64 d6.q, .slice B6 m6 o6, .int .i64 d6.t] 24)) hb7
    have n0 : ¬ g0 = w6.heap.size := by omega
    have n9 : ¬ g9 = w6.heap.size := by omega
    have l12 := b7.lt
    have B7' := Lib.hid b7
    clear z0 z1 z2 z3 z4 z5 z6 z7 hv7 K6 V6 hb7
    obtain ⟨z0, z1, z2, z3⟩ := K7.out.b0.c4
    obtain ⟨z4, z5, z6, z7⟩ := K7.out.b9.c4
    obtain ⟨y0, y1, y2, y3⟩ := b7.c4
    clear b7
    go_wp2_with fail
    refine (same_eq d6 _ _ _ (X7.out.alloc _) (V7.out.alloc _)).mono ?_
    rintro e w8 ⟨rfl, hb8⟩
    have K8 := Lib.hid ((K7.out.alloc _).below hb8)
    have b8 := ((B7'.out.alloc (.cells #[.slice A7 n7 c7, .int .i64 d6.q, .slice B7 m7 o7, .int .i64 d6.t] 24)).below hb8)
    have x8 := (Blk.new w7 24 #[.slice A7 n7 c7, .int .i64 d6.q, .slice B7 m7 o7, .int .i64 d6.t]).below hb8
    have hA8 := bnext (bal hA7 (.cells #[.slice A7 n7 c7, .int .i64 d6.q, .slice B7 m7 o7, .int .i64 d6.t] 24)) hb8
    have m0 : ¬ g0 = w7.heap.size := by have := K7.out.b0.lt; omega
    have m9 : ¬ g9 = w7.heap.size := by have := K7.out.b9.lt; omega
    have m12 : ¬ w6.heap.size = w7.heap.size := by omega
    have m21 : ¬ w7.heap.size = w6.heap.size := by omega
    have s6 := hb6.size
    have s7 := hA7.size
    have B8 := Lib.hid b8
    have X8 := Lib.hid x8
    clear z0 z1 z2 z3 z4 z5 z6 z7 y0 y1 y2 y3 X7 V7 B7' hb8 b8 x8
    obtain ⟨z0, z1, z2, z3⟩ := K8.out.b0.c4
    obtain ⟨z4, z5, z6, z7⟩ := K8.out.b9.c4
    go_wp2_with fail
    refine (Turns_to HT.out _ _ _ K8.out.v9 K8.out.s10).mono ?_
    rintro e w9 ⟨rfl, hb9⟩
    have K9 := Lib.hid (K8.out.below hb9)
    have hA9 := bnext hA8 hb9
    have B9 := Lib.hid (B8.out.below hb9)
    have X9 := Lib.hid (X8.out.below hb9)
    clear z0 z1 z2 z3 z4 z5 z6 z7 B8 X8 K8 hA8 hb9
    obtain ⟨z0, z1, z2, z3⟩ := K9.out.b0.c4
    obtain ⟨z4, z5, z6, z7⟩ := K9.out.b9.c4
    go_wp2_with fail
    refine (rTurns_to HT.out _ _ _ K9.out.v0 K9.out.s1).mono ?_
    rintro e wa ⟨rfl, hba⟩
    have Ka := Lib.hid (K9.out.below hba)
    have hAa := bnext hA9 hba
    have Ba := Lib.hid (B9.out.below hba)
    have Xa := Lib.hid (X9.out.below hba)
    clear z0 z1 z2 z3 z4 z5 z6 z7 B9 X9 K9 hA9 hba
    obtain ⟨z0, z1, z2, z3⟩ := Ka.out.b0.c4
    obtain ⟨z4, z5, z6, z7⟩ := Ka.out.b9.c4
    go_wp2_with fail
    refine (Back_to HK.out _ _ Ka.out.v9).mono ?_
    rintro e wb ⟨vb, rfl, hvb, hbb⟩
    obtain ⟨Ab, nb, cb, Bb', mb, ob, rfl⟩ := hvb.form
    have Kb := Lib.hid (Ka.out.below hbb)
    have hAb := bnext hAa hbb
    have Bb := Lib.hid (Ba.out.below hbb)
    have Xb := Lib.hid (Xa.out.below hbb)
    have Vb := Lib.hid hvb
    clear z0 z1 z2 z3 z4 z5 z6 z7 Ba Xa Ka hAa hbb hvb
    obtain ⟨z0, z1, z2, z3⟩ := Kb.out.b0.c4
    obtain ⟨z4, z5, z6, z7⟩ := Kb.out.b9.c4
    obtain ⟨y0, y1, y2, y3⟩ := Bb.out.c4
    obtain ⟨f0, f1, f2, f3⟩ := Bb.out.f4
    go_wp2_with fail
    have PO := put4_only wb w6.heap.size (.slice Ab nb cb) (.int .i64 db.q) (.slice Bb' mb ob) (.int .i64 db.t)
    have hAp := put4_below (a := .slice Ab nb cb) (b := .int .i64 db.q) (c := .slice Bb' mb ob) (d := .int .i64 db.t) hAb s6
    have Kp := Lib.hid (K.out.below hAp)
    have Bp := Lib.hid (put4_blk (a := .slice Ab nb cb) (b := .int .i64 db.q) (c := .slice Bb' mb ob) (d := .int .i64 db.t) Bb.out)
    have Vp := Lib.hid (Vb.out.far H03.out Bb.out PO)
    have Xp := Lib.hid (Xb.out.only PO m21)
    clear PO z0 z1 z2 z3 z4 z5 z6 z7 y0 y1 y2 y3 f0 f1 f2 f3 Kb Bb Xb Vb hAb
    change Calls _ _ _ (put4 wb w6.heap.size (.slice Ab nb cb) (.int .i64 db.q) (.slice Bb' mb ob) (.int .i64 db.t)) _
    generalize put4 wb w6.heap.size (.slice Ab nb cb) (.int .i64 db.q) (.slice Bb' mb ob) (.int .i64 db.t) = wp at Kp Bp Vp Xp hAp ⊢
    refine (rBack_to HK.out _ _ Kp.out.v0).mono ?_
    rintro e wq ⟨vq, rfl, hvq, hbq⟩
    obtain ⟨Aq, nq, cq, Bq', mq, oq, rfl⟩ := hvq.form
    have hAq := bnext hAp hbq
    have Kq := Lib.hid (Kp.out.below hbq)
    have Bq := Lib.hid (Bp.out.below hbq)
    have Xq := Lib.hid (Xp.out.below hbq)
    have Wq := Lib.hid (Vp.out.below hbq)
    have Vq := Lib.hid hvq
    clear Kp Bp Xp Vp hAp hbq hvq
    obtain ⟨z0, z1, z2, z3⟩ := Kq.out.b0.c4
    obtain ⟨z4, z5, z6, z7⟩ := Kq.out.b9.c4
    obtain ⟨y0, y1, y2, y3⟩ := Bq.out.c4
    obtain ⟨x0, x1, x2, x3⟩ := Xq.out.c4
    obtain ⟨f0, f1, f2, f3⟩ := Xq.out.f4
    go_wp2_with fail
    have PO := put4_only wq w7.heap.size (.slice Aq nq cq) (.int .i64 db.q) (.slice Bq' mq oq) (.int .i64 db.t)
    have hAr := put4_below (a := .slice Aq nq cq) (b := .int .i64 db.q) (c := .slice Bq' mq oq) (d := .int .i64 db.t) hAq s7
    have Kr := Lib.hid (K.out.below hAr)
    have Wr := Lib.hid (Wq.out.far H03.out Xq.out PO)
    have Vr := Lib.hid (Vq.out.far H03.out Xq.out PO)
    clear PO z0 z1 z2 z3 z4 z5 z6 z7 y0 y1 y2 y3 x0 x1 x2 x3 f0 f1 f2 f3 Kq Bq Xq Wq Vq hAq
    change Calls _ _ _ (put4 wq w7.heap.size (.slice Aq nq cq) (.int .i64 db.q) (.slice Bq' mq oq) (.int .i64 db.t)) _
    generalize put4 wq w7.heap.size (.slice Aq nq cq) (.int .i64 db.q) (.slice Bq' mq oq) (.int .i64 db.t) = wr at Kr Wr Vr hAr ⊢
    refine (same_eq db _ _ _ Wr.out Vr.out).mono ?_
    rintro e ws ⟨rfl, hbs⟩
    have Ks := Lib.hid (Kr.out.below hbs)
    clear Kr Wr Vr hAr hbs
    obtain ⟨z0, z1, z2, z3⟩ := Ks.out.b0.c4
    obtain ⟨z4, z5, z6, z7⟩ := Ks.out.b9.c4
    go_wp2_with fail
    refine (same_eq d _ _ _ Ks.out.v9 Ks.out.v0).mono ?_
    rintro e wt ⟨rfl, hbt⟩
    have Kt := Lib.hid (Ks.out.below hbt)
    clear z0 z1 z2 z3 z4 z5 z6 z7 Ks hbt
    go_wp2_with fail
    refine (SameInts_eq H _ _ _ Kt.out.s10 Kt.out.s1).mono ?_
    rintro e wu ⟨rfl, hbu⟩
    go_wp2_with fail
    refine (awake_t _).mono ?_
    rintro e wv ⟨rfl, hbv⟩
    go_wp2_with fail
    go_ret
    exact ⟨rfl, bnext (bnext Kt.out.hB hbu) hbv⟩
end Go.Proofs.Ythkfdfkjenhjmaa
