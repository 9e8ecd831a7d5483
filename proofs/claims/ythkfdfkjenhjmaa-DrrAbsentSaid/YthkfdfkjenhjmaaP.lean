/- Contract: the chapter's first examples are well. -/
import Derived.Test.YthkfdfkjenhjmaaO
namespace Go.Proofs.Ythkfdfkjenhjmaa
open Go.RowKit Go.Conc
set_option linter.unusedVariables false
set_option linter.unusedSimpArgs false

def dEnd : Dr := ⟨[1, 2, 4], 100, [50, 0, 100], 0⟩
def dSrv : Dr := ⟨[1, 2, 4], 100, [0, 100, 0], 1⟩
theorem sv1 : nxt d400 [100, 100, 0] = (1, dSrv, 0) := by decide +kernel
theorem sv2 : trn d400 [100, 100, 0] = (1, 0) := by decide +kernel
def exL : List Wt := [⟨2, 300⟩, ⟨2, 300⟩, ⟨1, 150⟩, ⟨0, 50⟩]
theorem exO : ord d400 exL 600 = ([0, 2, 3], dEnd, 0) := by decide +kernel
theorem exN : newD [1, 2, 4] 100 = (d400, 0) := by decide +kernel
theorem exB : bck ⟨[1, 2, 4], 100, [0, 0, 300], 2⟩ 2 100 = (d400, 0) := by decide +kernel
theorem Check_to {d : Dr} {e : Int} (h : chk d = e) (v : Value) (w : World) (hD : DrV w v d) : Calls Try.prog 15 #[v] w (RetI e w) := by
  have := Check_any d v w hD
  rwa [h] at this
theorem New_to {W : List Int} {q e : Int} {d : Dr} (h : newD W q = (d, e)) (v : Value) (w : World) (hW : IntAt w v W) : Calls Try.prog 25 #[v, .int .i64 q] w (RetDE d e w) := by
  have := New_any W q v w hW
  rwa [h] at this
theorem Back_to {d d' : Dr} {p s e : Int} (h : bck d p s = (d', e)) (v : Value) (w : World) (hD : DrV w v d) : Calls Try.prog 22 #[v, .int .i64 p, .int .i64 s] w (RetDE d' e w) := by
  have := Back_any d p s v w hD
  rwa [h] at this
theorem Order_to {d d' : Dr} {l : List Wt} {b e : Int} {o : List Nat} (h : ord d l b = (o, d', e)) (hb1 : -9223372036854775808 ≤ b) (hb2 : b ≤ 9223372036854775807) (hl : l.length ≤ 1000) (v u : Value) (w : World) (hD : DrV w v d) (hL : WtAt w u l) :
    Calls Try.prog 27 #[v, u, .int .i64 b] w (RetO o d' e w) := by
  have := Order_any d l b hb1 hb2 hl v u w hD hL
  rwa [h] at this
theorem lit45a {Y w' : World} {o : Obj} (hb : Below ((Y.alloc (.cells #[.int .i64 100, .int .i64 100, .int .i64 0] 3)).alloc o).heap.size ((Y.alloc (.cells #[.int .i64 100, .int .i64 100, .int .i64 0] 3)).alloc o) w') : IntAt w' (.slice (some ⟨Y.heap.size, 0, none⟩) 3 3) [100, 100, 0] :=
  SlAt.below (lit_at (t := 3) (L := [100, 100, 0]) ((Blk.new _ _ _).alloc _) 3 rfl (by decide)) hb
theorem lit45b {Y w' : World} {o : Obj} (hb : Below ((Y.alloc o).alloc (.cells #[.int .i64 100, .int .i64 100, .int .i64 0] 3)).heap.size ((Y.alloc o).alloc (.cells #[.int .i64 100, .int .i64 100, .int .i64 0] 3)) w') : IntAt w' (.slice (some ⟨Y.heap.size + 1, 0, none⟩) 3 3) [100, 100, 0] :=
  SlAt.below (lit_at (t := 3) (L := [100, 100, 0]) (Blk.new1 _ _ _ _) 3 rfl (by decide)) hb
/-- what awake knows before its last statement -/
structure AwK (w : World) (g1 g4 g6 : Nat) (a1 d1 a4 d4 a6 d6 v3 : Value) (wx : World) : Prop where
  b1 : Blk wx g1 24 #[a1, .int .i64 100, d1, .int .i64 2]
  b4 : Blk wx g4 24 #[a4, .int .i64 100, d4, .int .i64 0]
  b6 : Blk wx g6 24 #[a6, .int .i64 100, d6, .int .i64 2]
  v1 : DrV wx (.agg #[a1, .int .i64 100, d1, .int .i64 2]) d400
  v4 : DrV wx (.agg #[a4, .int .i64 100, d4, .int .i64 0]) dEnd
  v6 : DrV wx (.agg #[a6, .int .i64 100, d6, .int .i64 2]) d400
  v3 : IntAt wx v3 [0, 2, 3]
  hB : Below w.heap.size w wx
section
variable {w wx wy : World} {g1 g4 g6 : Nat} {a1 d1 a4 d4 a6 d6 v3 : Value}
theorem AwK.below (h : AwK w g1 g4 g6 a1 d1 a4 d4 a6 d6 v3 wx) (hb : Below wx.heap.size wx wy) : AwK w g1 g4 g6 a1 d1 a4 d4 a6 d6 v3 wy := ⟨h.b1.below hb, h.b4.below hb, h.b6.below hb, h.v1.below hb, h.v4.below hb, h.v6.below hb, SlAt.below h.v3 hb, bnext h.hB hb⟩
theorem AwK.alloc (h : AwK w g1 g4 g6 a1 d1 a4 d4 a6 d6 v3 wx) (o : Obj) : AwK w g1 g4 g6 a1 d1 a4 d4 a6 d6 v3 (wx.alloc o) := h.below ((Below.refl _ _).alloc (Nat.le_refl _) o)
theorem AwK.drew (h : AwK w g1 g4 g6 a1 d1 a4 d4 a6 d6 v3 wx) : AwK w g1 g4 g6 a1 d1 a4 d4 a6 d6 v3 wx.drew := ⟨h.b1.drew, h.b4.drew, h.b6.drew, h.v1.drew, h.v4.drew, h.v6.drew, h.v3, h.hB.drew⟩
end

set_option maxRecDepth 100000 in
set_option maxHeartbeats 16000000 in
theorem awake_t (w : World) : Calls Try.prog 12 #[] w (RetB true w) := by
  go_enter Try.func12, Try.ntmps12
  go_wp2_with fail
  refine (New_to exN _ _ (lit_at (t := 3) (L := [1, 2, 4]) (Blk.new _ _ _) 3 rfl (by decide))).mono ?_
  rintro e w1 ⟨x1, rfl, hx1, hb1⟩
  obtain ⟨A1, c1, B1, e1, rfl⟩ := hx1.form3 rfl rfl
  have hB1 : Below w.heap.size w w1 := bnext (bal (Below.refl _ _) _) hb1
  have X1 := Lib.hid hx1
  clear hb1 hx1
  dsimp only [d400] at *
  go_wp2_with fail
  refine (state_any 2 [0, 0, 400] _ _ (lit_at (t := 3) (L := [0, 0, 400]) (Blk.new1 _ _ _ _) 3 rfl (by decide))).mono ?_
  rintro e w2 ⟨v2, rfl, hv2, hb2⟩
  obtain ⟨P2, p2, Q2, q2, rfl⟩ := hv2.form3 rfl rfl
  have hB2 : Below w.heap.size w w2 := bnext (bal (bal hB1 _) _) hb2
  have k2 := Lib.hid (((Blk.new w1 24 #[(Value.slice A1 3 c1), .int .i64 100, (Value.slice B1 3 e1), .int .i64 2]).alloc (.cells #[.int .i64 0, .int .i64 0, .int .i64 400] 3)).below hb2)
  have X2 := Lib.hid (((X1.out.alloc (.cells #[(Value.slice A1 3 c1), .int .i64 100, (Value.slice B1 3 e1), .int .i64 2] 24)).alloc (.cells #[.int .i64 0, .int .i64 0, .int .i64 400] 3)).below hb2)
  have V2 := Lib.hid hv2
  clear hb2 hv2 X1
  go_wp2_with fail
  refine (Order_to exO (by decide) (by decide) (by decide) _ _ _ (V2.out.alloc _) ?_).mono ?_
  · exact wt_lit (t := 46) (L := exL) (Blk.new _ _ _) 4 rfl (by decide)
  rintro e w3 ⟨v3, x3, rfl, hv3, hx3, hb3⟩
  obtain ⟨A4, c4, B4, e4, rfl⟩ := hx3.form3 rfl rfl
  have hB3 : Below w.heap.size w w3 := bnext (bal hB2 _) hb3
  have k3 := Lib.hid ((k2.out.alloc _).below hb3)
  have X3 := Lib.hid ((X2.out.alloc _).below hb3)
  have Y3 := Lib.hid hx3
  have L3 : Hid (IntAt w3 v3 [0, 2, 3]) := Lib.hid hv3
  clear hb3 hv3 hx3 X2 k2 V2
  dsimp only [dEnd] at *
  go_wp2_with fail
  refine (state_any 2 [0, 0, 300] _ _ (lit_at (t := 3) (L := [0, 0, 300]) (Blk.new1 _ _ _ _) 3 rfl (by decide))).mono ?_
  rintro e w4 ⟨v5, rfl, hv5, hb4⟩
  obtain ⟨P5, p5, Q5, q5', rfl⟩ := hv5.form3 rfl rfl
  have hB4 : Below w.heap.size w w4 := bnext (bal (bal hB3 _) _) hb4
  have q4 := Lib.hid (((Blk.new w3 24 #[(Value.slice A4 3 c4), .int .i64 100, (Value.slice B4 3 e4), .int .i64 0]).alloc (.cells #[.int .i64 0, .int .i64 0, .int .i64 300] 3)).below hb4)
  have k4 := Lib.hid (((k3.out.alloc (.cells #[(Value.slice A4 3 c4), .int .i64 100, (Value.slice B4 3 e4), .int .i64 0] 24)).alloc (.cells #[.int .i64 0, .int .i64 0, .int .i64 300] 3)).below hb4)
  have X4 := Lib.hid (((X3.out.alloc (.cells #[(Value.slice A4 3 c4), .int .i64 100, (Value.slice B4 3 e4), .int .i64 0] 24)).alloc (.cells #[.int .i64 0, .int .i64 0, .int .i64 300] 3)).below hb4)
  have Y4 := Lib.hid (((Y3.out.alloc (.cells #[(Value.slice A4 3 c4), .int .i64 100, (Value.slice B4 3 e4), .int .i64 0] 24)).alloc (.cells #[.int .i64 0, .int .i64 0, .int .i64 300] 3)).below hb4)
  have L4 : Hid (IntAt w4 v3 [0, 2, 3]) := Lib.hid (SlAt.below ((SlAt.alloc L3.out (.cells #[(Value.slice A4 3 c4), .int .i64 100, (Value.slice B4 3 e4), .int .i64 0] 24)).alloc (.cells #[.int .i64 0, .int .i64 0, .int .i64 300] 3)) hb4)
  have V5 := Lib.hid hv5
  clear hb4 hv5 k3 X3 Y3 L3
  go_wp2_with fail
  refine (Back_to exB _ _ V5.out).mono ?_
  rintro e w5 ⟨x6, rfl, hx6, hb5⟩
  obtain ⟨A6, c6, B6, e6, rfl⟩ := hx6.form3 rfl rfl
  have hB5 := bnext hB4 hb5
  have k5 := k4.out.below hb5
  have q5 := q4.out.below hb5
  have X5 := X4.out.below hb5
  have Y5 := Y4.out.below hb5
  have L5 : IntAt w5 v3 [0, 2, 3] := SlAt.below L4.out hb5
  have kk : AwK w w1.heap.size w3.heap.size w5.heap.size (Value.slice A1 3 c1) (Value.slice B1 3 e1) (Value.slice A4 3 c4) (Value.slice B4 3 e4) (Value.slice A6 3 c6) (Value.slice B6 3 e6) v3 (w5.alloc (.cells #[(Value.slice A6 3 c6), .int .i64 100, (Value.slice B6 3 e6), .int .i64 2] 24)) :=
    ⟨k5.alloc _, q5.alloc _, Blk.new _ _ _, X5.alloc _, Y5.alloc _, hx6.alloc _, SlAt.alloc L5 _, bal hB5 _⟩
  have K := Lib.hid kk
  clear hb5 hx6 k4 q4 X4 Y4 L4 k5 q5 X5 Y5 L5 V5 kk
  dsimp only [d400] at *
  go_upto_region 4 with fail
  obtain ⟨g1, hg1⟩ : ∃ g, g = w1.heap.size := ⟨_, rfl⟩
  obtain ⟨g4, hg4⟩ : ∃ g, g = w3.heap.size := ⟨_, rfl⟩
  obtain ⟨g6, hg6⟩ : ∃ g, g = w5.heap.size := ⟨_, rfl⟩
  rw [← hg1, ← hg4, ← hg6] at K ⊢
  generalize w5.alloc (.cells #[(Value.slice A6 3 c6), .int .i64 100, (Value.slice B6 3 e6), .int .i64 2] 24) = wo at K ⊢
  clear hg1 hg4 hg6 hB1 hB2 hB3 hB4 hB5
  obtain ⟨z0, z1, z2, z3⟩ := K.out.b1.c4
  obtain ⟨z4, z5, z6, z7⟩ := K.out.b4.c4
  obtain ⟨z8, z9, za, zb⟩ := K.out.b6.c4
  have l1 := K.out.b1.lt
  have l4 := K.out.b4.lt
  have l6 := K.out.b6.lt
  have n1 : ¬ g1 = wo.heap.size := by omega
  have n4 : ¬ g4 = wo.heap.size := by omega
  have n6 : ¬ g6 = wo.heap.size := by omega
  go_region_held3 (fun w' => w'.cell? ⟨g1, 0, none⟩ = some (Value.slice A1 3 c1) ∧ w'.cell? ⟨g1, 1, none⟩ = some (.int .i64 100) ∧ w'.cell? ⟨g1, 2, none⟩ = some (Value.slice B1 3 e1) ∧ w'.cell? ⟨g1, 3, none⟩ = some (.int .i64 2) ∧ w'.cell? ⟨g4, 0, none⟩ = some (Value.slice A4 3 c4) ∧ w'.cell? ⟨g4, 1, none⟩ = some (.int .i64 100) ∧ w'.cell? ⟨g4, 2, none⟩ = some (Value.slice B4 3 e4) ∧ w'.cell? ⟨g4, 3, none⟩ = some (.int .i64 0) ∧ w'.cell? ⟨g6, 0, none⟩ = some (Value.slice A6 3 c6) ∧ w'.cell? ⟨g6, 1, none⟩ = some (.int .i64 100) ∧ w'.cell? ⟨g6, 2, none⟩ = some (Value.slice B6 3 e6) ∧ w'.cell? ⟨g6, 3, none⟩ = some (.int .i64 2)) (go_keep)
    (first
      | (go_at_call_of 29 (Value.int IntKind.i64 2); refine (state_any 2 [0, 0, 400] _ _ ?_).mono ?_; (focus (refine lit_at (t := 3) (L := [0, 0, 400]) (show Blk _ _ _ #[.int .i64 0, .int .i64 0, .int .i64 400] from ?_) 3 rfl (by decide); (repeat (first | with_reducible exact Blk.new _ _ _ | with_reducible exact Blk.new1 _ _ _ _ | with_reducible refine Blk.alloc ?_ _ | with_reducible refine Blk.drew ?_)))); rintro e wn ⟨vs, rfl, hvs, hbn⟩; obtain ⟨vsW, vsD, rfl, _, _⟩ := id hvs; have HVS := Lib.hid (show DrV _ _ d400 from hvs); clear hvs; have K' : AwK w g1 g4 g6 (Value.slice A1 3 c1) (Value.slice B1 3 e1) (Value.slice A4 3 c4) (Value.slice B4 3 e4) (Value.slice A6 3 c6) (Value.slice B6 3 e6) v3 wn := (by refine AwK.below ?_ hbn; (repeat (first | with_reducible exact K.out | with_reducible refine AwK.alloc ?_ _ | with_reducible refine AwK.drew ?_))); clear K z0 z1 z2 z3 z4 z5 z6 z7 z8 z9 za zb; have K := Lib.hid K'; obtain ⟨z0, z1, z2, z3⟩ := K'.b1.c4; obtain ⟨z4, z5, z6, z7⟩ := K'.b4.c4; obtain ⟨z8, z9, za, zb⟩ := K'.b6.c4; have n1 : ¬ g1 = wn.heap.size := Nat.ne_of_lt K'.b1.lt; have n4 : ¬ g4 = wn.heap.size := Nat.ne_of_lt K'.b4.lt; have n6 : ¬ g6 = wn.heap.size := Nat.ne_of_lt K'.b6.lt; have l1 := K'.b1.lt; have l4 := K'.b4.lt; have l6 := K'.b6.lt; clear K')
      | (go_at_call_of 29 (Value.int IntKind.i64 1); refine (state_any 1 [0, 100, 0] _ _ ?_).mono ?_; (focus (refine lit_at (t := 3) (L := [0, 100, 0]) (show Blk _ _ _ #[.int .i64 0, .int .i64 100, .int .i64 0] from ?_) 3 rfl (by decide); (repeat (first | with_reducible exact Blk.new _ _ _ | with_reducible exact Blk.new1 _ _ _ _ | with_reducible refine Blk.alloc ?_ _ | with_reducible refine Blk.drew ?_)))); rintro e wn ⟨vs, rfl, hvs, hbn⟩; obtain ⟨vsW, vsD, rfl, _, _⟩ := id hvs; (try have hl45 := Lib.hid (lit45a hbn)); (try have hl45 := Lib.hid (lit45b hbn)); have HVS := Lib.hid (show DrV _ _ dSrv from hvs); clear hvs; have K' : AwK w g1 g4 g6 (Value.slice A1 3 c1) (Value.slice B1 3 e1) (Value.slice A4 3 c4) (Value.slice B4 3 e4) (Value.slice A6 3 c6) (Value.slice B6 3 e6) v3 wn := (by refine AwK.below ?_ hbn; (repeat (first | with_reducible exact K.out | with_reducible refine AwK.alloc ?_ _ | with_reducible refine AwK.drew ?_))); clear K z0 z1 z2 z3 z4 z5 z6 z7 z8 z9 za zb; have K := Lib.hid K'; obtain ⟨z0, z1, z2, z3⟩ := K'.b1.c4; obtain ⟨z4, z5, z6, z7⟩ := K'.b4.c4; obtain ⟨z8, z9, za, zb⟩ := K'.b6.c4; have n1 : ¬ g1 = wn.heap.size := Nat.ne_of_lt K'.b1.lt; have n4 : ¬ g4 = wn.heap.size := Nat.ne_of_lt K'.b4.lt; have n6 : ¬ g6 = wn.heap.size := Nat.ne_of_lt K'.b6.lt; have l1 := K'.b1.lt; have l4 := K'.b4.lt; have l6 := K'.b6.lt; clear K')
      | (go_at_call_of 29 (Value.int IntKind.i64 0); refine (state_any 0 [50, 0, 100] _ _ ?_).mono ?_; (focus (refine lit_at (t := 3) (L := [50, 0, 100]) (show Blk _ _ _ #[.int .i64 50, .int .i64 0, .int .i64 100] from ?_) 3 rfl (by decide); (repeat (first | with_reducible exact Blk.new _ _ _ | with_reducible exact Blk.new1 _ _ _ _ | with_reducible refine Blk.alloc ?_ _ | with_reducible refine Blk.drew ?_)))); rintro e wn ⟨vs, rfl, hvs, hbn⟩; obtain ⟨vsW, vsD, rfl, _, _⟩ := id hvs; have HVS := Lib.hid (show DrV _ _ dEnd from hvs); clear hvs; have K' : AwK w g1 g4 g6 (Value.slice A1 3 c1) (Value.slice B1 3 e1) (Value.slice A4 3 c4) (Value.slice B4 3 e4) (Value.slice A6 3 c6) (Value.slice B6 3 e6) v3 wn := (by refine AwK.below ?_ hbn; (repeat (first | with_reducible exact K.out | with_reducible refine AwK.alloc ?_ _ | with_reducible refine AwK.drew ?_))); clear K z0 z1 z2 z3 z4 z5 z6 z7 z8 z9 za zb; have K := Lib.hid K'; obtain ⟨z0, z1, z2, z3⟩ := K'.b1.c4; obtain ⟨z4, z5, z6, z7⟩ := K'.b4.c4; obtain ⟨z8, z9, za, zb⟩ := K'.b6.c4; have n1 : ¬ g1 = wn.heap.size := Nat.ne_of_lt K'.b1.lt; have n4 : ¬ g4 = wn.heap.size := Nat.ne_of_lt K'.b4.lt; have n6 : ¬ g6 = wn.heap.size := Nat.ne_of_lt K'.b6.lt; have l1 := K'.b1.lt; have l4 := K'.b4.lt; have l6 := K'.b6.lt; clear K')
      | (go_at_call 19; refine (same_eq d400 _ _ _ ?_ ?_).mono ?_; (focus (refine AwK.v1 (w := w) (g1 := g1) (g4 := g4) (g6 := g6) (a1 := (Value.slice A1 3 c1)) (d1 := (Value.slice B1 3 e1)) (a4 := (Value.slice A4 3 c4)) (d4 := (Value.slice B4 3 e4)) (a6 := (Value.slice A6 3 c6)) (d6 := (Value.slice B6 3 e6)) (v3 := v3) ?_; (repeat (first | with_reducible exact K.out | with_reducible refine AwK.alloc ?_ _ | with_reducible refine AwK.drew ?_)))); (focus (repeat (first | with_reducible exact HVS.out | with_reducible refine DrV.alloc ?_ _ | with_reducible refine DrV.drew ?_))); rintro e wn ⟨rfl, hbn⟩; have K' : AwK w g1 g4 g6 (Value.slice A1 3 c1) (Value.slice B1 3 e1) (Value.slice A4 3 c4) (Value.slice B4 3 e4) (Value.slice A6 3 c6) (Value.slice B6 3 e6) v3 wn := (by refine AwK.below ?_ hbn; (repeat (first | with_reducible exact K.out | with_reducible refine AwK.alloc ?_ _ | with_reducible refine AwK.drew ?_))); clear K z0 z1 z2 z3 z4 z5 z6 z7 z8 z9 za zb; have K := Lib.hid K'; obtain ⟨z0, z1, z2, z3⟩ := K'.b1.c4; obtain ⟨z4, z5, z6, z7⟩ := K'.b4.c4; obtain ⟨z8, z9, za, zb⟩ := K'.b6.c4; have n1 : ¬ g1 = wn.heap.size := Nat.ne_of_lt K'.b1.lt; have n4 : ¬ g4 = wn.heap.size := Nat.ne_of_lt K'.b4.lt; have n6 : ¬ g6 = wn.heap.size := Nat.ne_of_lt K'.b6.lt; have l1 := K'.b1.lt; have l4 := K'.b4.lt; have l6 := K'.b6.lt; clear K')
      | (go_at_call 19; refine (same_eq dEnd _ _ _ ?_ ?_).mono ?_; (focus (refine AwK.v4 (w := w) (g1 := g1) (g4 := g4) (g6 := g6) (a1 := (Value.slice A1 3 c1)) (d1 := (Value.slice B1 3 e1)) (a4 := (Value.slice A4 3 c4)) (d4 := (Value.slice B4 3 e4)) (a6 := (Value.slice A6 3 c6)) (d6 := (Value.slice B6 3 e6)) (v3 := v3) ?_; (repeat (first | with_reducible exact K.out | with_reducible refine AwK.alloc ?_ _ | with_reducible refine AwK.drew ?_)))); (focus (repeat (first | with_reducible exact HVS.out | with_reducible refine DrV.alloc ?_ _ | with_reducible refine DrV.drew ?_))); rintro e wn ⟨rfl, hbn⟩; have K' : AwK w g1 g4 g6 (Value.slice A1 3 c1) (Value.slice B1 3 e1) (Value.slice A4 3 c4) (Value.slice B4 3 e4) (Value.slice A6 3 c6) (Value.slice B6 3 e6) v3 wn := (by refine AwK.below ?_ hbn; (repeat (first | with_reducible exact K.out | with_reducible refine AwK.alloc ?_ _ | with_reducible refine AwK.drew ?_))); clear K z0 z1 z2 z3 z4 z5 z6 z7 z8 z9 za zb; have K := Lib.hid K'; obtain ⟨z0, z1, z2, z3⟩ := K'.b1.c4; obtain ⟨z4, z5, z6, z7⟩ := K'.b4.c4; obtain ⟨z8, z9, za, zb⟩ := K'.b6.c4; have n1 : ¬ g1 = wn.heap.size := Nat.ne_of_lt K'.b1.lt; have n4 : ¬ g4 = wn.heap.size := Nat.ne_of_lt K'.b4.lt; have n6 : ¬ g6 = wn.heap.size := Nat.ne_of_lt K'.b6.lt; have l1 := K'.b1.lt; have l4 := K'.b4.lt; have l6 := K'.b6.lt; clear K')
      | (go_at_call 19; refine (same_eq d400 _ _ _ ?_ ?_).mono ?_; (focus (refine AwK.v6 (w := w) (g1 := g1) (g4 := g4) (g6 := g6) (a1 := (Value.slice A1 3 c1)) (d1 := (Value.slice B1 3 e1)) (a4 := (Value.slice A4 3 c4)) (d4 := (Value.slice B4 3 e4)) (a6 := (Value.slice A6 3 c6)) (d6 := (Value.slice B6 3 e6)) (v3 := v3) ?_; (repeat (first | with_reducible exact K.out | with_reducible refine AwK.alloc ?_ _ | with_reducible refine AwK.drew ?_)))); (focus (repeat (first | with_reducible exact HVS.out | with_reducible refine DrV.alloc ?_ _ | with_reducible refine DrV.drew ?_))); rintro e wn ⟨rfl, hbn⟩; have K' : AwK w g1 g4 g6 (Value.slice A1 3 c1) (Value.slice B1 3 e1) (Value.slice A4 3 c4) (Value.slice B4 3 e4) (Value.slice A6 3 c6) (Value.slice B6 3 e6) v3 wn := (by refine AwK.below ?_ hbn; (repeat (first | with_reducible exact K.out | with_reducible refine AwK.alloc ?_ _ | with_reducible refine AwK.drew ?_))); clear K z0 z1 z2 z3 z4 z5 z6 z7 z8 z9 za zb; have K := Lib.hid K'; obtain ⟨z0, z1, z2, z3⟩ := K'.b1.c4; obtain ⟨z4, z5, z6, z7⟩ := K'.b4.c4; obtain ⟨z8, z9, za, zb⟩ := K'.b6.c4; have n1 : ¬ g1 = wn.heap.size := Nat.ne_of_lt K'.b1.lt; have n4 : ¬ g4 = wn.heap.size := Nat.ne_of_lt K'.b4.lt; have n6 : ¬ g6 = wn.heap.size := Nat.ne_of_lt K'.b6.lt; have l1 := K'.b1.lt; have l4 := K'.b4.lt; have l6 := K'.b6.lt; clear K')
      | (go_at_call 15; refine (Check_to (d := d400) (e := 0) (by decide) _ _ ?_).mono ?_; (focus (refine AwK.v1 (w := w) (g1 := g1) (g4 := g4) (g6 := g6) (a1 := (Value.slice A1 3 c1)) (d1 := (Value.slice B1 3 e1)) (a4 := (Value.slice A4 3 c4)) (d4 := (Value.slice B4 3 e4)) (a6 := (Value.slice A6 3 c6)) (d6 := (Value.slice B6 3 e6)) (v3 := v3) ?_; (repeat (first | with_reducible exact K.out | with_reducible refine AwK.alloc ?_ _ | with_reducible refine AwK.drew ?_)))); rintro e wn ⟨rfl, hbn⟩; have K' : AwK w g1 g4 g6 (Value.slice A1 3 c1) (Value.slice B1 3 e1) (Value.slice A4 3 c4) (Value.slice B4 3 e4) (Value.slice A6 3 c6) (Value.slice B6 3 e6) v3 wn := (by refine AwK.below ?_ hbn; (repeat (first | with_reducible exact K.out | with_reducible refine AwK.alloc ?_ _ | with_reducible refine AwK.drew ?_))); clear K z0 z1 z2 z3 z4 z5 z6 z7 z8 z9 za zb; have K := Lib.hid K'; obtain ⟨z0, z1, z2, z3⟩ := K'.b1.c4; obtain ⟨z4, z5, z6, z7⟩ := K'.b4.c4; obtain ⟨z8, z9, za, zb⟩ := K'.b6.c4; have n1 : ¬ g1 = wn.heap.size := Nat.ne_of_lt K'.b1.lt; have n4 : ¬ g4 = wn.heap.size := Nat.ne_of_lt K'.b4.lt; have n6 : ¬ g6 = wn.heap.size := Nat.ne_of_lt K'.b6.lt; have l1 := K'.b1.lt; have l4 := K'.b4.lt; have l6 := K'.b6.lt; clear K')
      | (go_at_call 30; refine (serves_t [100, 100, 0] 1 1 dSrv sv1 sv2 rfl rfl _ _ _ ?_ ?_).mono ?_; (focus (first | ((repeat (first | with_reducible exact hl45.out | with_reducible refine SlAt.alloc ?_ _ | with_reducible refine SlAt.drew ?_)); done) | (refine lit_at (t := 3) (L := [100, 100, 0]) (show Blk _ _ _ #[.int .i64 100, .int .i64 100, .int .i64 0] from ?_) 3 rfl (by decide); (repeat (first | with_reducible exact Blk.new _ _ _ | with_reducible exact Blk.new1 _ _ _ _ | with_reducible refine Blk.alloc ?_ _ | with_reducible refine Blk.drew ?_))))); (focus (repeat (first | with_reducible exact HVS.out | with_reducible refine DrV.alloc ?_ _ | with_reducible refine DrV.drew ?_))); rintro e wn ⟨rfl, hbn⟩; have K' : AwK w g1 g4 g6 (Value.slice A1 3 c1) (Value.slice B1 3 e1) (Value.slice A4 3 c4) (Value.slice B4 3 e4) (Value.slice A6 3 c6) (Value.slice B6 3 e6) v3 wn := (by refine AwK.below ?_ hbn; (repeat (first | with_reducible exact K.out | with_reducible refine AwK.alloc ?_ _ | with_reducible refine AwK.drew ?_))); clear K z0 z1 z2 z3 z4 z5 z6 z7 z8 z9 za zb; have K := Lib.hid K'; obtain ⟨z0, z1, z2, z3⟩ := K'.b1.c4; obtain ⟨z4, z5, z6, z7⟩ := K'.b4.c4; obtain ⟨z8, z9, za, zb⟩ := K'.b6.c4; have n1 : ¬ g1 = wn.heap.size := Nat.ne_of_lt K'.b1.lt; have n4 : ¬ g4 = wn.heap.size := Nat.ne_of_lt K'.b4.lt; have n6 : ¬ g6 = wn.heap.size := Nat.ne_of_lt K'.b6.lt; have l1 := K'.b1.lt; have l4 := K'.b4.lt; have l6 := K'.b6.lt; clear K')
      | (go_at_call 24; refine (SameInts_eq [0, 2, 3] _ _ _ ?_ ?_).mono ?_; (focus (refine AwK.v3 (w := w) (g1 := g1) (g4 := g4) (g6 := g6) (a1 := (Value.slice A1 3 c1)) (d1 := (Value.slice B1 3 e1)) (a4 := (Value.slice A4 3 c4)) (d4 := (Value.slice B4 3 e4)) (a6 := (Value.slice A6 3 c6)) (d6 := (Value.slice B6 3 e6)) (v3 := v3) ?_; (repeat (first | with_reducible exact K.out | with_reducible refine AwK.alloc ?_ _ | with_reducible refine AwK.drew ?_)))); (focus (refine lit_at (t := 3) (L := [0, 2, 3]) (show Blk _ _ _ #[.int .i64 0, .int .i64 2, .int .i64 3] from ?_) 3 rfl (by decide); (repeat (first | with_reducible exact Blk.new _ _ _ | with_reducible exact Blk.new1 _ _ _ _ | with_reducible refine Blk.alloc ?_ _ | with_reducible refine Blk.drew ?_)))); rintro e wn ⟨rfl, hbn⟩; have K' : AwK w g1 g4 g6 (Value.slice A1 3 c1) (Value.slice B1 3 e1) (Value.slice A4 3 c4) (Value.slice B4 3 e4) (Value.slice A6 3 c6) (Value.slice B6 3 e6) v3 wn := (by refine AwK.below ?_ hbn; (repeat (first | with_reducible exact K.out | with_reducible refine AwK.alloc ?_ _ | with_reducible refine AwK.drew ?_))); clear K z0 z1 z2 z3 z4 z5 z6 z7 z8 z9 za zb; have K := Lib.hid K'; obtain ⟨z0, z1, z2, z3⟩ := K'.b1.c4; obtain ⟨z4, z5, z6, z7⟩ := K'.b4.c4; obtain ⟨z8, z9, za, zb⟩ := K'.b6.c4; have n1 : ¬ g1 = wn.heap.size := Nat.ne_of_lt K'.b1.lt; have n4 : ¬ g4 = wn.heap.size := Nat.ne_of_lt K'.b4.lt; have n6 : ¬ g6 = wn.heap.size := Nat.ne_of_lt K'.b6.lt; have l1 := K'.b1.lt; have l4 := K'.b4.lt; have l6 := K'.b6.lt; clear K'))
  all_goals
    go_wp2_with fail
    go_ret
    exact ⟨rfl, K.out.hB⟩
end Go.Proofs.Ythkfdfkjenhjmaa
