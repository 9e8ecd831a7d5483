/- SendGrants: the walk. -/
import Derived.Test.YtdfppaafoecgmaaN3
import Derived.Test.YtdfppaafoecgmaaM
namespace Go.Proofs.Ytdfppaafoecgmaa
open Go.RowKit
set_option linter.unusedVariables false
set_option linter.unusedSimpArgs false

theorem Grant_to {s a : Led} {k e t : Int} (h : grant s t = (a, k, e)) (hw : Wf s) (v : Value) (w : World) (hS : SlAt w 5 v s.sl.length (flat s.sl)) :
    Calls Try.prog 10 #[.agg #[.int .u64 s.g, .int .u64 s.n, .int .u64 s.r, v], .int .u64 t] w (LedRes a k e w) :=
  (Grant_any s hw t v w hS).mono fun _ _ hp => ledRes_of h hp
theorem rGrant_to {s a : Led} {k e t : Int} (h : grant s t = (a, k, e)) (hw : Wf s) (v : Value) (w : World) (hS : SlAt w 5 v s.sl.length (flat s.sl)) :
    Calls Try.prog 20 #[.agg #[.int .u64 s.g, .int .u64 s.n, .int .u64 s.r, v], .int .u64 t] w (LedRes a k e w) :=
  (rGrant_any s hw t v w hS).mono fun _ _ hp => ledRes_of h hp
theorem Give_to {s a : Led} {k e t : Int} (h : give s t = (a, k, e)) (hw : Wf s) (h0 : 0 ≤ t) (v : Value) (w : World) (hS : SlAt w 5 v s.sl.length (flat s.sl)) :
    Calls Try.prog 21 #[.agg #[.int .u64 s.g, .int .u64 s.n, .int .u64 s.r, v], .int .u64 t] w (LedRes a k e w) :=
  (Give_any s hw t h0 v w hS).mono fun _ _ hp => ledRes_of h hp
theorem rGive_to {s a : Led} {k e t : Int} (h : give s t = (a, k, e)) (hw : Wf s) (v : Value) (w : World) (hS : SlAt w 5 v s.sl.length (flat s.sl)) :
    Calls Try.prog 22 #[.agg #[.int .u64 s.g, .int .u64 s.n, .int .u64 s.r, v], .int .u64 t] w (LedRes a k e w) :=
  (rGive_any s hw t v w hS).mono fun _ _ hp => ledRes_of h hp

set_option maxRecDepth 100000 in
set_option maxHeartbeats 8000000 in
theorem SendGrants_t (s : Led) (hw : Wf s) (t u : Int) (ht0 : 0 ≤ u) (v : Value) (w : World) (hS : SlAt w 5 v s.sl.length (flat s.sl)) :
    Calls Try.prog 4 #[.agg #[.int .u64 s.g, .int .u64 s.n, .int .u64 s.r, v], .int .u64 t, .int .u64 u] w (RetB true w) := by
  obtain ⟨⟨⟨ag, an, ar, al⟩, ak, ae⟩, hG⟩ : ∃ x, grant s t = x := ⟨_, rfl⟩
  obtain ⟨⟨⟨bg, bn, br, bl⟩, bk, be⟩, hE⟩ : ∃ x, give s u = x := ⟨_, rfl⟩
  obtain ⟨g, n, r, l⟩ := s
  obtain ⟨A, c, rfl, hc1, hc2, _⟩ := id hS
  have HS := Lib.hid hS
  have HG := Lib.hid hG
  have HE := Lib.hid hE
  clear hS hG hE
  unfold maxLen at hc2
  dsimp only at *
  by_cases h110 : l.length ≤ 110
  · have hi : (l.length : Int) ≤ 110 := by omega
    go_enter Try.func4, Try.ntmps4
    go_wp2_with fail
    refine (OwnSend_any g n r l _ _ (HS.out.below (bal (Below.refl w.heap.size w) _)) (by omega)).mono ?_
    rintro e w1 ⟨A1, c1, rfl, hown, hb1⟩
    have s_n1 := Lib.hid ((Blk.new _ 26 #[.int .u64 g, .int .u64 n, .int .u64 r, .slice A l.length c]).below hb1)
    have hB_n1 := bnext (bal (Below.refl w.heap.size w) _) hb1
    have lt_s_1 := s_n1.out.lt
    have X_n1 := Lib.hid hown
    clear hown
    clear hb1
    obtain ⟨s_0, s_1, s_2, s_3⟩ := s_n1.out.c4
    go_wp2_with fail
    refine (Check_any ⟨g, n, r, l⟩ hw _ _ (SlAt.own (X_n1.out.alloc _))).mono ?_
    rintro e w2 ⟨rfl, hb2⟩
    clear s_0 s_1 s_2 s_3
    have s_n2 := Lib.hid ((s_n1.out.alloc _).below hb2)
    have x_n2 := Lib.hid ((Blk.new _ 26 #[.int .u64 g, .int .u64 n, .int .u64 r, .slice A1 l.length c1]).below hb2)
    have X_n2 := Lib.hid (own_below hb2 (X_n1.out.alloc _))
    have hB_n2 := bnext (bal hB_n1 _) hb2
    clear s_n1
    clear X_n1
    have lt_s_2 := s_n2.out.lt
    have lt_x_2 := x_n2.out.lt
    clear hB_n1
    clear hb2
    obtain ⟨s_0, s_1, s_2, s_3⟩ := s_n2.out.c4
    obtain ⟨x_0, x_1, x_2, x_3⟩ := x_n2.out.c4
    go_wp2_with fail
    refine (rCheck_any ⟨g, n, r, l⟩ hw _ _ (HS.out.below hB_n2)).mono ?_
    rintro e w3 ⟨rfl, hb3⟩
    clear s_0 s_1 s_2 s_3 x_0 x_1 x_2 x_3
    have s_n3 := Lib.hid (s_n2.out.below hb3)
    have x_n3 := Lib.hid (x_n2.out.below hb3)
    have X_n3 := Lib.hid (own_below hb3 X_n2.out)
    have hB_n3 := bnext hB_n2 hb3
    clear s_n2
    clear x_n2
    clear X_n2
    have lt_s_3 := s_n3.out.lt
    have lt_x_3 := x_n3.out.lt
    clear hB_n2
    clear hb3
    obtain ⟨s_0, s_1, s_2, s_3⟩ := s_n3.out.c4
    obtain ⟨x_0, x_1, x_2, x_3⟩ := x_n3.out.c4
    go_wp2_with fail
    refine (Usable_any ⟨g, n, r, l⟩ hw _ _ (SlAt.own X_n3.out)).mono ?_
    rintro e w4 ⟨rfl, hb4⟩
    clear s_0 s_1 s_2 s_3 x_0 x_1 x_2 x_3
    have s_n4 := Lib.hid (s_n3.out.below hb4)
    have x_n4 := Lib.hid (x_n3.out.below hb4)
    have X_n4 := Lib.hid (own_below hb4 X_n3.out)
    have hB_n4 := bnext hB_n3 hb4
    clear s_n3
    clear x_n3
    clear X_n3
    have lt_s_4 := s_n4.out.lt
    have lt_x_4 := x_n4.out.lt
    clear hB_n3
    clear hb4
    obtain ⟨s_0, s_1, s_2, s_3⟩ := s_n4.out.c4
    obtain ⟨x_0, x_1, x_2, x_3⟩ := x_n4.out.c4
    go_wp2_with fail
    refine (rUsable_any ⟨g, n, r, l⟩ hw _ _ (HS.out.below hB_n4)).mono ?_
    rintro e w5 ⟨rfl, hb5⟩
    clear s_0 s_1 s_2 s_3 x_0 x_1 x_2 x_3
    have s_n5 := Lib.hid (s_n4.out.below hb5)
    have x_n5 := Lib.hid (x_n4.out.below hb5)
    have X_n5 := Lib.hid (own_below hb5 X_n4.out)
    have hB_n5 := bnext hB_n4 hb5
    clear s_n4
    clear x_n4
    clear X_n4
    have lt_s_5 := s_n5.out.lt
    have lt_x_5 := x_n5.out.lt
    clear hB_n4
    clear hb5
    obtain ⟨s_0, s_1, s_2, s_3⟩ := s_n5.out.c4
    obtain ⟨x_0, x_1, x_2, x_3⟩ := x_n5.out.c4
    go_wp2_with fail
    refine (Floor_any ⟨g, n, r, l⟩ hw _ _ (SlAt.own X_n5.out)).mono ?_
    rintro e w6 ⟨rfl, hb6⟩
    clear s_0 s_1 s_2 s_3 x_0 x_1 x_2 x_3
    have s_n6 := Lib.hid (s_n5.out.below hb6)
    have x_n6 := Lib.hid (x_n5.out.below hb6)
    have X_n6 := Lib.hid (own_below hb6 X_n5.out)
    have hB_n6 := bnext hB_n5 hb6
    clear s_n5
    clear x_n5
    clear X_n5
    have lt_s_6 := s_n6.out.lt
    have lt_x_6 := x_n6.out.lt
    clear hB_n5
    clear hb6
    obtain ⟨s_0, s_1, s_2, s_3⟩ := s_n6.out.c4
    obtain ⟨x_0, x_1, x_2, x_3⟩ := x_n6.out.c4
    go_wp2_with fail
    refine (rFloor_any ⟨g, n, r, l⟩ hw _ _ (HS.out.below hB_n6)).mono ?_
    rintro e w7 ⟨rfl, hb7⟩
    clear s_0 s_1 s_2 s_3 x_0 x_1 x_2 x_3
    have s_n7 := Lib.hid (s_n6.out.below hb7)
    have x_n7 := Lib.hid (x_n6.out.below hb7)
    have X_n7 := Lib.hid (own_below hb7 X_n6.out)
    have hB_n7 := bnext hB_n6 hb7
    clear s_n6
    clear x_n6
    clear X_n6
    have lt_s_7 := s_n7.out.lt
    have lt_x_7 := x_n7.out.lt
    clear hB_n6
    clear hb7
    obtain ⟨s_0, s_1, s_2, s_3⟩ := s_n7.out.c4
    obtain ⟨x_0, x_1, x_2, x_3⟩ := x_n7.out.c4
    go_wp2_with fail
    refine (Grant_to HG.out hw _ _ (SlAt.own X_n7.out)).mono ?_
    rintro e w8 ⟨A8, c8, rfl, hown, hb8⟩
    clear s_0 s_1 s_2 s_3 x_0 x_1 x_2 x_3
    have s_n8 := Lib.hid (s_n7.out.below hb8)
    have x_n8 := Lib.hid (x_n7.out.below hb8)
    have X_n8 := Lib.hid (own_below hb8 X_n7.out)
    have hB_n8 := bnext hB_n7 hb8
    clear s_n7
    clear x_n7
    clear X_n7
    have lt_s_8 := s_n8.out.lt
    have lt_x_8 := x_n8.out.lt
    clear hB_n7
    have Y_n8 := Lib.hid hown
    clear hown
    clear hb8
    obtain ⟨s_0, s_1, s_2, s_3⟩ := s_n8.out.c4
    obtain ⟨x_0, x_1, x_2, x_3⟩ := x_n8.out.c4
    go_wp2_with fail
    refine (rGrant_to HG.out hw _ _ (HS.out.below (bal hB_n8 _))).mono ?_
    rintro e w9 ⟨A9, c9, rfl, hown, hb9⟩
    clear s_0 s_1 s_2 s_3 x_0 x_1 x_2 x_3
    have s_n9 := Lib.hid ((s_n8.out.alloc _).below hb9)
    have x_n9 := Lib.hid ((x_n8.out.alloc _).below hb9)
    have y_n9 := Lib.hid ((Blk.new _ 26 #[.int .u64 ag, .int .u64 an, .int .u64 ar, .slice A8 al.length c8]).below hb9)
    have X_n9 := Lib.hid (own_below hb9 (X_n8.out.alloc _))
    have Y_n9 := Lib.hid (own_below hb9 (Y_n8.out.alloc _))
    have hB_n9 := bnext (bal hB_n8 _) hb9
    clear s_n8
    clear x_n8
    clear X_n8
    clear Y_n8
    have lt_s_9 := s_n9.out.lt
    have lt_x_9 := x_n9.out.lt
    have lt_y_9 := y_n9.out.lt
    clear hB_n8
    have Z_n9 := Lib.hid hown
    clear hown
    clear hb9
    obtain ⟨s_0, s_1, s_2, s_3⟩ := s_n9.out.c4
    obtain ⟨x_0, x_1, x_2, x_3⟩ := x_n9.out.c4
    obtain ⟨y_0, y_1, y_2, y_3⟩ := y_n9.out.c4
    go_wp2_with fail
    refine (same_t ⟨ag, an, ar, al⟩ _ _ _ (SlAt.own (Y_n9.out.alloc _)) (SlAt.own (Z_n9.out.alloc _))).mono ?_
    rintro e w10 ⟨rfl, hb10⟩
    clear s_0 s_1 s_2 s_3 x_0 x_1 x_2 x_3 y_0 y_1 y_2 y_3
    have s_n10 := Lib.hid ((s_n9.out.alloc _).below hb10)
    have x_n10 := Lib.hid ((x_n9.out.alloc _).below hb10)
    have y_n10 := Lib.hid ((y_n9.out.alloc _).below hb10)
    have z_n10 := Lib.hid ((Blk.new _ 26 #[.int .u64 ag, .int .u64 an, .int .u64 ar, .slice A9 al.length c9]).below hb10)
    have X_n10 := Lib.hid (own_below hb10 (X_n9.out.alloc _))
    have hB_n10 := bnext (bal hB_n9 _) hb10
    clear s_n9
    clear x_n9
    clear y_n9
    clear X_n9
    have lt_s_10 := s_n10.out.lt
    have lt_x_10 := x_n10.out.lt
    have lt_y_10 := y_n10.out.lt
    have lt_z_10 := z_n10.out.lt
    clear hB_n9
    clear hb10
    obtain ⟨s_0, s_1, s_2, s_3⟩ := s_n10.out.c4
    obtain ⟨x_0, x_1, x_2, x_3⟩ := x_n10.out.c4
    obtain ⟨y_0, y_1, y_2, y_3⟩ := y_n10.out.c4
    obtain ⟨z_0, z_1, z_2, z_3⟩ := z_n10.out.c4
    go_wp2_with fail
    refine (Give_to HE.out hw ht0 _ _ (SlAt.own X_n10.out)).mono ?_
    rintro e w11 ⟨A11, c11, rfl, hown, hb11⟩
    clear s_0 s_1 s_2 s_3 x_0 x_1 x_2 x_3 y_0 y_1 y_2 y_3 z_0 z_1 z_2 z_3
    have s_n11 := Lib.hid (s_n10.out.below hb11)
    have x_n11 := Lib.hid (x_n10.out.below hb11)
    have y_n11 := Lib.hid (y_n10.out.below hb11)
    have z_n11 := Lib.hid (z_n10.out.below hb11)
    have X_n11 := Lib.hid (own_below hb11 X_n10.out)
    have hB_n11 := bnext hB_n10 hb11
    clear s_n10
    clear x_n10
    clear y_n10
    clear z_n10
    clear X_n10
    have lt_s_11 := s_n11.out.lt
    have lt_x_11 := x_n11.out.lt
    have lt_y_11 := y_n11.out.lt
    have lt_z_11 := z_n11.out.lt
    clear hB_n10
    have Y_n11 := Lib.hid hown
    clear hown
    clear hb11
    obtain ⟨s_0, s_1, s_2, s_3⟩ := s_n11.out.c4
    obtain ⟨x_0, x_1, x_2, x_3⟩ := x_n11.out.c4
    obtain ⟨y_0, y_1, y_2, y_3⟩ := y_n11.out.c4
    obtain ⟨y_f0, y_f1, y_f2, y_f3⟩ := y_n11.out.f4
    obtain ⟨z_0, z_1, z_2, z_3⟩ := z_n11.out.c4
    go_wp2_with fail
    refine (rGive_to HE.out hw _ _ (HS.out.below (bset (bset (bset (bset hB_n11 (by dsimp only; omega) _) (by dsimp only; omega) _) (by dsimp only; omega) _) (by dsimp only; omega) _))).mono ?_
    rintro e w12 ⟨A12, c12, rfl, hown, hb12⟩
    clear s_0 s_1 s_2 s_3 x_0 x_1 x_2 x_3 y_0 y_1 y_2 y_3 y_f0 y_f1 y_f2 y_f3 z_0 z_1 z_2 z_3
    have s_n12 := Lib.hid ((put4_far s_n11.out (by omega)).below hb12)
    have x_n12 := Lib.hid ((put4_far x_n11.out (by omega)).below hb12)
    have y_n12 := Lib.hid ((put4 y_n11.out).below hb12)
    have z_n12 := Lib.hid ((put4_far z_n11.out (by omega)).below hb12)
    have X_n12 := Lib.hid (own_below hb12 (put4_own y_n11.out X_n11.out))
    have Y_n12 := Lib.hid (own_below hb12 (put4_own y_n11.out Y_n11.out))
    have hB_n12 := bnext (bset (bset (bset (bset hB_n11 (by dsimp only; omega) _) (by dsimp only; omega) _) (by dsimp only; omega) _) (by dsimp only; omega) _) hb12
    clear s_n11
    clear x_n11
    clear y_n11
    clear z_n11
    clear X_n11
    clear Y_n11
    have lt_s_12 := s_n12.out.lt
    have lt_x_12 := x_n12.out.lt
    have lt_y_12 := y_n12.out.lt
    have lt_z_12 := z_n12.out.lt
    clear hB_n11
    have Z_n12 := Lib.hid hown
    clear hown
    clear hb12
    obtain ⟨s_0, s_1, s_2, s_3⟩ := s_n12.out.c4
    obtain ⟨x_0, x_1, x_2, x_3⟩ := x_n12.out.c4
    obtain ⟨y_0, y_1, y_2, y_3⟩ := y_n12.out.c4
    obtain ⟨z_0, z_1, z_2, z_3⟩ := z_n12.out.c4
    obtain ⟨z_f0, z_f1, z_f2, z_f3⟩ := z_n12.out.f4
    go_wp2_with fail
    refine (same_t ⟨bg, bn, br, bl⟩ _ _ _ (SlAt.own (put4_own z_n12.out Y_n12.out)) (SlAt.own (put4_own z_n12.out Z_n12.out))).mono ?_
    rintro e w13 ⟨rfl, hb13⟩
    clear s_0 s_1 s_2 s_3 x_0 x_1 x_2 x_3 y_0 y_1 y_2 y_3 z_0 z_1 z_2 z_3 z_f0 z_f1 z_f2 z_f3
    have s_n13 := Lib.hid ((put4_far s_n12.out (by omega)).below hb13)
    have x_n13 := Lib.hid ((put4_far x_n12.out (by omega)).below hb13)
    have y_n13 := Lib.hid ((put4_far y_n12.out (by omega)).below hb13)
    have z_n13 := Lib.hid ((put4 z_n12.out).below hb13)
    have X_n13 := Lib.hid (own_below hb13 (put4_own z_n12.out X_n12.out))
    have Y_n13 := Lib.hid (own_below hb13 (put4_own z_n12.out Y_n12.out))
    have Z_n13 := Lib.hid (own_below hb13 (put4_own z_n12.out Z_n12.out))
    have hB_n13 := bnext (bset (bset (bset (bset hB_n12 (by dsimp only; omega) _) (by dsimp only; omega) _) (by dsimp only; omega) _) (by dsimp only; omega) _) hb13
    clear s_n12
    clear x_n12
    clear y_n12
    clear z_n12
    clear X_n12
    clear Y_n12
    clear Z_n12
    have lt_s_13 := s_n13.out.lt
    have lt_x_13 := x_n13.out.lt
    have lt_y_13 := y_n13.out.lt
    have lt_z_13 := z_n13.out.lt
    clear hB_n12
    clear hb13
    obtain ⟨s_0, s_1, s_2, s_3⟩ := s_n13.out.c4
    obtain ⟨x_0, x_1, x_2, x_3⟩ := x_n13.out.c4
    obtain ⟨y_0, y_1, y_2, y_3⟩ := y_n13.out.c4
    obtain ⟨z_0, z_1, z_2, z_3⟩ := z_n13.out.c4
    go_wp2_with fail
    refine (same_t ⟨g, n, r, l⟩ _ _ _ (SlAt.own X_n13.out) (HS.out.below hB_n13)).mono ?_
    rintro e w14 ⟨rfl, hb14⟩
    clear s_0 s_1 s_2 s_3 x_0 x_1 x_2 x_3 y_0 y_1 y_2 y_3 z_0 z_1 z_2 z_3
    have s_n14 := Lib.hid (s_n13.out.below hb14)
    have x_n14 := Lib.hid (x_n13.out.below hb14)
    have y_n14 := Lib.hid (y_n13.out.below hb14)
    have z_n14 := Lib.hid (z_n13.out.below hb14)
    have X_n14 := Lib.hid (own_below hb14 X_n13.out)
    have Y_n14 := Lib.hid (own_below hb14 Y_n13.out)
    have Z_n14 := Lib.hid (own_below hb14 Z_n13.out)
    have hB_n14 := bnext hB_n13 hb14
    clear s_n13
    clear x_n13
    clear y_n13
    clear z_n13
    clear X_n13
    clear Y_n13
    clear Z_n13
    have lt_s_14 := s_n14.out.lt
    have lt_x_14 := x_n14.out.lt
    have lt_y_14 := y_n14.out.lt
    have lt_z_14 := z_n14.out.lt
    clear hB_n13
    clear hb14
    obtain ⟨s_0, s_1, s_2, s_3⟩ := s_n14.out.c4
    obtain ⟨x_0, x_1, x_2, x_3⟩ := x_n14.out.c4
    obtain ⟨y_0, y_1, y_2, y_3⟩ := y_n14.out.c4
    obtain ⟨z_0, z_1, z_2, z_3⟩ := z_n14.out.c4
    go_wp2_with fail
    refine (awake_t _).mono ?_
    rintro e w15 ⟨rfl, hb15⟩
    clear s_0 s_1 s_2 s_3 x_0 x_1 x_2 x_3 y_0 y_1 y_2 y_3 z_0 z_1 z_2 z_3
    have s_n15 := Lib.hid (s_n14.out.below hb15)
    have x_n15 := Lib.hid (x_n14.out.below hb15)
    have y_n15 := Lib.hid (y_n14.out.below hb15)
    have z_n15 := Lib.hid (z_n14.out.below hb15)
    have X_n15 := Lib.hid (own_below hb15 X_n14.out)
    have Y_n15 := Lib.hid (own_below hb15 Y_n14.out)
    have Z_n15 := Lib.hid (own_below hb15 Z_n14.out)
    have hB_n15 := bnext hB_n14 hb15
    clear s_n14
    clear x_n14
    clear y_n14
    clear z_n14
    clear X_n14
    clear Y_n14
    clear Z_n14
    have lt_s_15 := s_n15.out.lt
    have lt_x_15 := x_n15.out.lt
    have lt_y_15 := y_n15.out.lt
    have lt_z_15 := z_n15.out.lt
    clear hB_n14
    clear hb15
    go_wp2_with fail
    go_ret
    exact ⟨rfl, hB_n15⟩
  · have hi : (110 : Int) < l.length := by omega
    go_enter Try.func4, Try.ntmps4
    go_wp2_with fail
    refine (awake_t _).mono ?_
    rintro e w9 ⟨rfl, hb9⟩
    go_wp2_with fail
    go_ret
    exact ⟨rfl, (by repeat (first | with_reducible exact Below.refl _ _ | with_reducible refine Below.drew ?_ | with_reducible refine below_drewN ?_ _ | with_reducible refine bal ?_ _ | with_reducible refine bset ?_ (by first | (simp; done) | (simp; omega)) _ | with_reducible refine bnext ?_ (by assumption) | with_reducible assumption))⟩
end Go.Proofs.Ytdfppaafoecgmaa
