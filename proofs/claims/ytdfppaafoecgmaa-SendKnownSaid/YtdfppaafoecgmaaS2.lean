/- SendOffers: the walk. -/
import Derived.Test.YtdfppaafoecgmaaN9
import Derived.Test.YtdfppaafoecgmaaM
namespace Go.Proofs.Ytdfppaafoecgmaa
open Go.RowKit
set_option linter.unusedVariables false
set_option linter.unusedSimpArgs false

theorem put4_farT {W : World} {g k : Nat} {t : TypeId} {cs : Array Value} {a' b' c' d' : Value} (h : Blk W k t cs) (hne : k ≠ g) : Blk ((((W.setCell ⟨g, 0, none⟩ a').setCell ⟨g, 1, none⟩ b').setCell ⟨g, 2, none⟩ c').setCell ⟨g, 3, none⟩ d') k t cs :=
  (((h.far hne _).far hne _).far hne _).far hne _
theorem run_eql_slot (a b c d e : Int) (w : World) : (binOp .eql 44 (.agg #[.int .u64 a, .int .u64 b, .int .i64 c, .int .u64 d, .int .i64 e]) (.agg #[.int .u64 a, .int .u64 b, .int .i64 c, .int .u64 d, .int .i64 e])).run Try.prog w = .ok (.bool true) w := by
  go_simp
def SetRes (s : Led) (err : Int) (w : World) (e : Ending) (w' : World) : Prop :=
  ∃ A c, e = .returned (.tuple #[.agg #[.int .u64 s.g, .int .u64 s.n, .int .u64 s.r, .slice A s.sl.length c], .int .i64 err]) ∧ OwnL w w' (.slice A s.sl.length c) s.sl ∧ Below w.heap.size w w'
theorem setRes_of {r : Led × Int} {s : Led} {err : Int} (h : r = (s, err)) {w : World} {e : Ending} {w' : World} (hp : SetPost r w e w') : SetRes s err w e w' := by
  subst h
  obtain ⟨v', he, ho, hb⟩ := hp
  obtain ⟨A, c, rfl, _⟩ := id (SlAt.own ho)
  exact ⟨A, c, he, ho, hb⟩
theorem Offer_to {s a : Led} {k e size node seq io : Int} (h : offer s size node seq io = (a, k, e)) (hw : Wf s) (hz0 : 0 ≤ size) (hz1 : size ≤ 18446744073709551615) (v : Value) (w : World) (hS : SlAt w 5 v s.sl.length (flat s.sl)) :
    Calls Try.prog 23 #[.agg #[.int .u64 s.g, .int .u64 s.n, .int .u64 s.r, v], .int .u64 size, .agg #[.int .i64 node, .int .u64 seq, .int .i64 io]] w (LedRes a k e w) :=
  (Offer_any s hw size node seq io hz0 hz1 v w hS).mono fun _ _ hp => ledRes_of h hp
theorem rOffer_to {s a : Led} {k e size node seq io : Int} (h : offer s size node seq io = (a, k, e)) (hw : Wf s) (hz0 : 0 ≤ size) (hz1 : size ≤ 18446744073709551615) (v : Value) (w : World) (hS : SlAt w 5 v s.sl.length (flat s.sl)) :
    Calls Try.prog 24 #[.agg #[.int .u64 s.g, .int .u64 s.n, .int .u64 s.r, v], .int .u64 size, .agg #[.int .i64 node, .int .u64 seq, .int .i64 io]] w (LedRes a k e w) :=
  (rOffer_any s hw size node seq io hz0 hz1 v w hS).mono fun _ _ hp => ledRes_of h hp
theorem Find_to {s : Led} {x : Sl} {b : Bool} {e node seq io : Int} (h : find3 s node seq io = (x, b, e)) (hw : Wf s) (v : Value) (w : World) (hS : SlAt w 5 v s.sl.length (flat s.sl)) :
    Calls Try.prog 25 #[.agg #[.int .u64 s.g, .int .u64 s.n, .int .u64 s.r, v], .agg #[.int .i64 node, .int .u64 seq, .int .i64 io]] w (FindPost (x, b, e) w) := by
  rw [← h]; exact Find_any s hw node seq io v w hS
theorem rFind_to {s : Led} {x : Sl} {b : Bool} {e node seq io : Int} (h : find3 s node seq io = (x, b, e)) (hw : Wf s) (v : Value) (w : World) (hS : SlAt w 5 v s.sl.length (flat s.sl)) :
    Calls Try.prog 26 #[.agg #[.int .u64 s.g, .int .u64 s.n, .int .u64 s.r, v], .agg #[.int .i64 node, .int .u64 seq, .int .i64 io]] w (FindPost (x, b, e) w) := by
  rw [← h]; exact rFind_any s hw node seq io v w hS
theorem Settle_to {s a : Led} {e off node seq io : Int} (h : settle s off node seq io = (a, e)) (hw : Wf s) (v : Value) (w : World) (hS : SlAt w 5 v s.sl.length (flat s.sl)) :
    Calls Try.prog 27 #[.agg #[.int .u64 s.g, .int .u64 s.n, .int .u64 s.r, v], .int .u64 off, .agg #[.int .i64 node, .int .u64 seq, .int .i64 io]] w (SetRes a e w) :=
  (Settle_any s hw off node seq io v w hS).mono fun _ _ hp => setRes_of h hp
theorem rSettle_to {s a : Led} {e off node seq io : Int} (h : settle s off node seq io = (a, e)) (hw : Wf s) (v : Value) (w : World) (hS : SlAt w 5 v s.sl.length (flat s.sl)) :
    Calls Try.prog 28 #[.agg #[.int .u64 s.g, .int .u64 s.n, .int .u64 s.r, v], .int .u64 off, .agg #[.int .i64 node, .int .u64 seq, .int .i64 io]] w (SetRes a e w) :=
  (rSettle_any s hw off node seq io v w hS).mono fun _ _ hp => setRes_of h hp

set_option maxRecDepth 100000 in
set_option maxHeartbeats 8000000 in
theorem SendOffers_t (s : Led) (hw : Wf s) (size off node seq io : Int) (hz0 : 0 ≤ size) (hz1 : size ≤ 18446744073709551615) (v : Value) (w : World) (hS : SlAt w 5 v s.sl.length (flat s.sl)) :
    Calls Try.prog 5 #[.agg #[.int .u64 s.g, .int .u64 s.n, .int .u64 s.r, v], .int .u64 size, .int .u64 off, .agg #[.int .i64 node, .int .u64 seq, .int .i64 io]] w (RetB true w) := by
  obtain ⟨⟨⟨ag, an, ar, al⟩, ak, ae⟩, hG⟩ : ∃ x, offer s size node seq io = x := ⟨_, rfl⟩
  obtain ⟨⟨⟨bg, bn, br, bl⟩, be⟩, hE⟩ : ∃ x, settle s off node seq io = x := ⟨_, rfl⟩
  obtain ⟨⟨⟨po, pz, pn, pq, pi⟩, pb, pe⟩, hF⟩ : ∃ x, find3 s node seq io = x := ⟨_, rfl⟩
  obtain ⟨g, n, r, l⟩ := s
  obtain ⟨A, c, rfl, hc1, hc2, _⟩ := id hS
  have HS := Lib.hid hS
  have HG := Lib.hid hG
  have HE := Lib.hid hE
  have HF := Lib.hid hF
  have hes := run_eql_slot po pz pn pq pi
  clear hS hG hE hF
  unfold maxLen at hc2
  dsimp only at *
  by_cases h110 : l.length ≤ 110
  · have hi : (l.length : Int) ≤ 110 := by omega
    go_enter Try.func5, Try.ntmps5
    go_wp2_with fail
    refine (OwnSend_any g n r l _ _ (HS.out.below (bal (bal (Below.refl w.heap.size w) _) _)) (by omega)).mono ?_
    rintro e w1 ⟨A1, c1, rfl, hown, hb1⟩
    have s_n1 := Lib.hid (((Blk.new _ 26 #[.int .u64 g, .int .u64 n, .int .u64 r, .slice A l.length c]).alloc _).below hb1)
    have i_n1 := Lib.hid ((Blk.new1 _ _ 41 #[.int .i64 node, .int .u64 seq, .int .i64 io]).below hb1)
    have hB_n1 := bnext (bal (bal (Below.refl w.heap.size w) _) _) hb1
    have lt_s_1 := s_n1.out.lt
    have lt_i_1 := i_n1.out.lt
    have X_n1 := Lib.hid hown
    clear hown
    clear hb1
    obtain ⟨s_0, s_1, s_2, s_3⟩ := s_n1.out.c4
    obtain ⟨i_0, i_1, i_2⟩ := i_n1.out.c3
    go_wp2_with fail
    refine (Offer_to HG.out hw hz0 hz1 _ _ (SlAt.own (X_n1.out.alloc _))).mono ?_
    rintro e w2 ⟨A8, c8, rfl, hown, hb2⟩
    clear s_0 s_1 s_2 s_3 i_0 i_1 i_2
    have s_n2 := Lib.hid ((s_n1.out.alloc _).below hb2)
    have i_n2 := Lib.hid ((i_n1.out.alloc _).below hb2)
    have x_n2 := Lib.hid ((Blk.new _ 26 #[.int .u64 g, .int .u64 n, .int .u64 r, .slice A1 l.length c1]).below hb2)
    have X_n2 := Lib.hid (own_below hb2 (X_n1.out.alloc _))
    have hB_n2 := bnext (bal hB_n1 _) hb2
    clear s_n1
    clear i_n1
    clear X_n1
    have lt_s_2 := s_n2.out.lt
    have lt_i_2 := i_n2.out.lt
    have lt_x_2 := x_n2.out.lt
    clear hB_n1
    have Y_n2 := Lib.hid hown
    clear hown
    clear hb2
    obtain ⟨s_0, s_1, s_2, s_3⟩ := s_n2.out.c4
    obtain ⟨i_0, i_1, i_2⟩ := i_n2.out.c3
    obtain ⟨x_0, x_1, x_2, x_3⟩ := x_n2.out.c4
    go_wp2_with fail
    refine (rOffer_to HG.out hw hz0 hz1 _ _ (HS.out.below (bal hB_n2 _))).mono ?_
    rintro e w3 ⟨A9, c9, rfl, hown, hb3⟩
    clear s_0 s_1 s_2 s_3 i_0 i_1 i_2 x_0 x_1 x_2 x_3
    have s_n3 := Lib.hid ((s_n2.out.alloc _).below hb3)
    have i_n3 := Lib.hid ((i_n2.out.alloc _).below hb3)
    have x_n3 := Lib.hid ((x_n2.out.alloc _).below hb3)
    have y_n3 := Lib.hid ((Blk.new _ 26 #[.int .u64 ag, .int .u64 an, .int .u64 ar, .slice A8 al.length c8]).below hb3)
    have X_n3 := Lib.hid (own_below hb3 (X_n2.out.alloc _))
    have Y_n3 := Lib.hid (own_below hb3 (Y_n2.out.alloc _))
    have hB_n3 := bnext (bal hB_n2 _) hb3
    clear s_n2
    clear i_n2
    clear x_n2
    clear X_n2
    clear Y_n2
    have lt_s_3 := s_n3.out.lt
    have lt_i_3 := i_n3.out.lt
    have lt_x_3 := x_n3.out.lt
    have lt_y_3 := y_n3.out.lt
    clear hB_n2
    have Z_n3 := Lib.hid hown
    clear hown
    clear hb3
    obtain ⟨s_0, s_1, s_2, s_3⟩ := s_n3.out.c4
    obtain ⟨i_0, i_1, i_2⟩ := i_n3.out.c3
    obtain ⟨x_0, x_1, x_2, x_3⟩ := x_n3.out.c4
    obtain ⟨y_0, y_1, y_2, y_3⟩ := y_n3.out.c4
    go_wp2_with fail
    refine (same_t ⟨ag, an, ar, al⟩ _ _ _ (SlAt.own (Y_n3.out.alloc _)) (SlAt.own (Z_n3.out.alloc _))).mono ?_
    rintro e w4 ⟨rfl, hb4⟩
    clear s_0 s_1 s_2 s_3 i_0 i_1 i_2 x_0 x_1 x_2 x_3 y_0 y_1 y_2 y_3
    have s_n4 := Lib.hid ((s_n3.out.alloc _).below hb4)
    have i_n4 := Lib.hid ((i_n3.out.alloc _).below hb4)
    have x_n4 := Lib.hid ((x_n3.out.alloc _).below hb4)
    have y_n4 := Lib.hid ((y_n3.out.alloc _).below hb4)
    have z_n4 := Lib.hid ((Blk.new _ 26 #[.int .u64 ag, .int .u64 an, .int .u64 ar, .slice A9 al.length c9]).below hb4)
    have X_n4 := Lib.hid (own_below hb4 (X_n3.out.alloc _))
    have hB_n4 := bnext (bal hB_n3 _) hb4
    clear s_n3
    clear i_n3
    clear x_n3
    clear y_n3
    clear X_n3
    have lt_s_4 := s_n4.out.lt
    have lt_i_4 := i_n4.out.lt
    have lt_x_4 := x_n4.out.lt
    have lt_y_4 := y_n4.out.lt
    have lt_z_4 := z_n4.out.lt
    clear hB_n3
    clear hb4
    obtain ⟨s_0, s_1, s_2, s_3⟩ := s_n4.out.c4
    obtain ⟨i_0, i_1, i_2⟩ := i_n4.out.c3
    obtain ⟨x_0, x_1, x_2, x_3⟩ := x_n4.out.c4
    obtain ⟨y_0, y_1, y_2, y_3⟩ := y_n4.out.c4
    obtain ⟨z_0, z_1, z_2, z_3⟩ := z_n4.out.c4
    go_wp2_with fail
    refine (Find_to HF.out hw _ _ (SlAt.own X_n4.out)).mono ?_
    rintro e w5 ⟨rfl, hb5⟩
    clear s_0 s_1 s_2 s_3 i_0 i_1 i_2 x_0 x_1 x_2 x_3 y_0 y_1 y_2 y_3 z_0 z_1 z_2 z_3
    have s_n5 := Lib.hid (s_n4.out.below hb5)
    have i_n5 := Lib.hid (i_n4.out.below hb5)
    have x_n5 := Lib.hid (x_n4.out.below hb5)
    have y_n5 := Lib.hid (y_n4.out.below hb5)
    have z_n5 := Lib.hid (z_n4.out.below hb5)
    have X_n5 := Lib.hid (own_below hb5 X_n4.out)
    have hB_n5 := bnext hB_n4 hb5
    clear s_n4
    clear i_n4
    clear x_n4
    clear y_n4
    clear z_n4
    clear X_n4
    have lt_s_5 := s_n5.out.lt
    have lt_i_5 := i_n5.out.lt
    have lt_x_5 := x_n5.out.lt
    have lt_y_5 := y_n5.out.lt
    have lt_z_5 := z_n5.out.lt
    clear hB_n4
    clear hb5
    obtain ⟨s_0, s_1, s_2, s_3⟩ := s_n5.out.c4
    obtain ⟨i_0, i_1, i_2⟩ := i_n5.out.c3
    obtain ⟨x_0, x_1, x_2, x_3⟩ := x_n5.out.c4
    obtain ⟨y_0, y_1, y_2, y_3⟩ := y_n5.out.c4
    obtain ⟨z_0, z_1, z_2, z_3⟩ := z_n5.out.c4
    go_wp2_with fail
    refine (rFind_to HF.out hw _ _ (HS.out.below (bal hB_n5 _))).mono ?_
    rintro e w6 ⟨rfl, hb6⟩
    clear s_0 s_1 s_2 s_3 i_0 i_1 i_2 x_0 x_1 x_2 x_3 y_0 y_1 y_2 y_3 z_0 z_1 z_2 z_3
    have s_n6 := Lib.hid ((s_n5.out.alloc _).below hb6)
    have i_n6 := Lib.hid ((i_n5.out.alloc _).below hb6)
    have x_n6 := Lib.hid ((x_n5.out.alloc _).below hb6)
    have y_n6 := Lib.hid ((y_n5.out.alloc _).below hb6)
    have z_n6 := Lib.hid ((z_n5.out.alloc _).below hb6)
    have p_n6 := Lib.hid ((Blk.new _ 44 #[.int .u64 po, .int .u64 pz, .int .i64 pn, .int .u64 pq, .int .i64 pi]).below hb6)
    have X_n6 := Lib.hid (own_below hb6 (X_n5.out.alloc _))
    have hB_n6 := bnext (bal hB_n5 _) hb6
    clear s_n5
    clear i_n5
    clear x_n5
    clear y_n5
    clear z_n5
    clear X_n5
    have lt_s_6 := s_n6.out.lt
    have lt_i_6 := i_n6.out.lt
    have lt_x_6 := x_n6.out.lt
    have lt_y_6 := y_n6.out.lt
    have lt_z_6 := z_n6.out.lt
    have lt_p_6 := p_n6.out.lt
    clear hB_n5
    clear hb6
    obtain ⟨s_0, s_1, s_2, s_3⟩ := s_n6.out.c4
    obtain ⟨i_0, i_1, i_2⟩ := i_n6.out.c3
    obtain ⟨x_0, x_1, x_2, x_3⟩ := x_n6.out.c4
    obtain ⟨y_0, y_1, y_2, y_3⟩ := y_n6.out.c4
    obtain ⟨z_0, z_1, z_2, z_3⟩ := z_n6.out.c4
    obtain ⟨p_0, p_1, p_2, p_3, p_4⟩ := p_n6.out.c5
    go_wp2_with fail
    refine (Settle_to HE.out hw _ _ (SlAt.own (X_n6.out.alloc _))).mono ?_
    rintro e w7 ⟨A11, c11, rfl, hown, hb7⟩
    clear s_0 s_1 s_2 s_3 i_0 i_1 i_2 x_0 x_1 x_2 x_3 y_0 y_1 y_2 y_3 z_0 z_1 z_2 z_3 p_0 p_1 p_2 p_3 p_4
    have s_n7 := Lib.hid ((s_n6.out.alloc _).below hb7)
    have i_n7 := Lib.hid ((i_n6.out.alloc _).below hb7)
    have x_n7 := Lib.hid ((x_n6.out.alloc _).below hb7)
    have y_n7 := Lib.hid ((y_n6.out.alloc _).below hb7)
    have z_n7 := Lib.hid ((z_n6.out.alloc _).below hb7)
    have p_n7 := Lib.hid ((p_n6.out.alloc _).below hb7)
    have q_n7 := Lib.hid ((Blk.new _ 44 #[.int .u64 po, .int .u64 pz, .int .i64 pn, .int .u64 pq, .int .i64 pi]).below hb7)
    have X_n7 := Lib.hid (own_below hb7 (X_n6.out.alloc _))
    have hB_n7 := bnext (bal hB_n6 _) hb7
    clear s_n6
    clear i_n6
    clear x_n6
    clear y_n6
    clear z_n6
    clear p_n6
    clear X_n6
    have lt_s_7 := s_n7.out.lt
    have lt_i_7 := i_n7.out.lt
    have lt_x_7 := x_n7.out.lt
    have lt_y_7 := y_n7.out.lt
    have lt_z_7 := z_n7.out.lt
    have lt_p_7 := p_n7.out.lt
    have lt_q_7 := q_n7.out.lt
    clear hB_n6
    have Y_n7 := Lib.hid hown
    clear hown
    clear hb7
    obtain ⟨s_0, s_1, s_2, s_3⟩ := s_n7.out.c4
    obtain ⟨i_0, i_1, i_2⟩ := i_n7.out.c3
    obtain ⟨x_0, x_1, x_2, x_3⟩ := x_n7.out.c4
    obtain ⟨y_0, y_1, y_2, y_3⟩ := y_n7.out.c4
    obtain ⟨y_f0, y_f1, y_f2, y_f3⟩ := y_n7.out.f4
    obtain ⟨z_0, z_1, z_2, z_3⟩ := z_n7.out.c4
    obtain ⟨p_0, p_1, p_2, p_3, p_4⟩ := p_n7.out.c5
    obtain ⟨q_0, q_1, q_2, q_3, q_4⟩ := q_n7.out.c5
    go_wp2_with fail
    refine (rSettle_to HE.out hw _ _ (HS.out.below (bset (bset (bset (bset hB_n7 (by dsimp only; omega) _) (by dsimp only; omega) _) (by dsimp only; omega) _) (by dsimp only; omega) _))).mono ?_
    rintro e w8 ⟨A12, c12, rfl, hown, hb8⟩
    clear s_0 s_1 s_2 s_3 i_0 i_1 i_2 x_0 x_1 x_2 x_3 y_0 y_1 y_2 y_3 y_f0 y_f1 y_f2 y_f3 z_0 z_1 z_2 z_3 p_0 p_1 p_2 p_3 p_4 q_0 q_1 q_2 q_3 q_4
    have s_n8 := Lib.hid ((put4_far s_n7.out (by omega)).below hb8)
    have i_n8 := Lib.hid ((put4_farT i_n7.out (by omega)).below hb8)
    have x_n8 := Lib.hid ((put4_far x_n7.out (by omega)).below hb8)
    have y_n8 := Lib.hid ((put4 y_n7.out).below hb8)
    have z_n8 := Lib.hid ((put4_far z_n7.out (by omega)).below hb8)
    have p_n8 := Lib.hid ((put4_farT p_n7.out (by omega)).below hb8)
    have q_n8 := Lib.hid ((put4_farT q_n7.out (by omega)).below hb8)
    have X_n8 := Lib.hid (own_below hb8 (put4_own y_n7.out X_n7.out))
    have Y_n8 := Lib.hid (own_below hb8 (put4_own y_n7.out Y_n7.out))
    have hB_n8 := bnext (bset (bset (bset (bset hB_n7 (by dsimp only; omega) _) (by dsimp only; omega) _) (by dsimp only; omega) _) (by dsimp only; omega) _) hb8
    clear s_n7
    clear i_n7
    clear x_n7
    clear y_n7
    clear z_n7
    clear p_n7
    clear q_n7
    clear X_n7
    clear Y_n7
    have lt_s_8 := s_n8.out.lt
    have lt_i_8 := i_n8.out.lt
    have lt_x_8 := x_n8.out.lt
    have lt_y_8 := y_n8.out.lt
    have lt_z_8 := z_n8.out.lt
    have lt_p_8 := p_n8.out.lt
    have lt_q_8 := q_n8.out.lt
    clear hB_n7
    have Z_n8 := Lib.hid hown
    clear hown
    clear hb8
    obtain ⟨s_0, s_1, s_2, s_3⟩ := s_n8.out.c4
    obtain ⟨i_0, i_1, i_2⟩ := i_n8.out.c3
    obtain ⟨x_0, x_1, x_2, x_3⟩ := x_n8.out.c4
    obtain ⟨y_0, y_1, y_2, y_3⟩ := y_n8.out.c4
    obtain ⟨z_0, z_1, z_2, z_3⟩ := z_n8.out.c4
    obtain ⟨z_f0, z_f1, z_f2, z_f3⟩ := z_n8.out.f4
    obtain ⟨p_0, p_1, p_2, p_3, p_4⟩ := p_n8.out.c5
    obtain ⟨q_0, q_1, q_2, q_3, q_4⟩ := q_n8.out.c5
    go_wp2_with fail
    refine (same_t ⟨bg, bn, br, bl⟩ _ _ _ (SlAt.own (put4_own z_n8.out Y_n8.out)) (SlAt.own (put4_own z_n8.out Z_n8.out))).mono ?_
    rintro e w9 ⟨rfl, hb9⟩
    clear s_0 s_1 s_2 s_3 i_0 i_1 i_2 x_0 x_1 x_2 x_3 y_0 y_1 y_2 y_3 z_0 z_1 z_2 z_3 z_f0 z_f1 z_f2 z_f3 p_0 p_1 p_2 p_3 p_4 q_0 q_1 q_2 q_3 q_4
    have s_n9 := Lib.hid ((put4_far s_n8.out (by omega)).below hb9)
    have i_n9 := Lib.hid ((put4_farT i_n8.out (by omega)).below hb9)
    have x_n9 := Lib.hid ((put4_far x_n8.out (by omega)).below hb9)
    have y_n9 := Lib.hid ((put4_far y_n8.out (by omega)).below hb9)
    have z_n9 := Lib.hid ((put4 z_n8.out).below hb9)
    have p_n9 := Lib.hid ((put4_farT p_n8.out (by omega)).below hb9)
    have q_n9 := Lib.hid ((put4_farT q_n8.out (by omega)).below hb9)
    have X_n9 := Lib.hid (own_below hb9 (put4_own z_n8.out X_n8.out))
    have Y_n9 := Lib.hid (own_below hb9 (put4_own z_n8.out Y_n8.out))
    have Z_n9 := Lib.hid (own_below hb9 (put4_own z_n8.out Z_n8.out))
    have hB_n9 := bnext (bset (bset (bset (bset hB_n8 (by dsimp only; omega) _) (by dsimp only; omega) _) (by dsimp only; omega) _) (by dsimp only; omega) _) hb9
    clear s_n8
    clear i_n8
    clear x_n8
    clear y_n8
    clear z_n8
    clear p_n8
    clear q_n8
    clear X_n8
    clear Y_n8
    clear Z_n8
    have lt_s_9 := s_n9.out.lt
    have lt_i_9 := i_n9.out.lt
    have lt_x_9 := x_n9.out.lt
    have lt_y_9 := y_n9.out.lt
    have lt_z_9 := z_n9.out.lt
    have lt_p_9 := p_n9.out.lt
    have lt_q_9 := q_n9.out.lt
    clear hB_n8
    clear hb9
    obtain ⟨s_0, s_1, s_2, s_3⟩ := s_n9.out.c4
    obtain ⟨i_0, i_1, i_2⟩ := i_n9.out.c3
    obtain ⟨x_0, x_1, x_2, x_3⟩ := x_n9.out.c4
    obtain ⟨y_0, y_1, y_2, y_3⟩ := y_n9.out.c4
    obtain ⟨z_0, z_1, z_2, z_3⟩ := z_n9.out.c4
    obtain ⟨p_0, p_1, p_2, p_3, p_4⟩ := p_n9.out.c5
    obtain ⟨q_0, q_1, q_2, q_3, q_4⟩ := q_n9.out.c5
    go_wp2_with fail
    refine (same_t ⟨g, n, r, l⟩ _ _ _ (SlAt.own X_n9.out) (HS.out.below hB_n9)).mono ?_
    rintro e w10 ⟨rfl, hb10⟩
    clear s_0 s_1 s_2 s_3 i_0 i_1 i_2 x_0 x_1 x_2 x_3 y_0 y_1 y_2 y_3 z_0 z_1 z_2 z_3 p_0 p_1 p_2 p_3 p_4 q_0 q_1 q_2 q_3 q_4
    have s_n10 := Lib.hid (s_n9.out.below hb10)
    have i_n10 := Lib.hid (i_n9.out.below hb10)
    have x_n10 := Lib.hid (x_n9.out.below hb10)
    have y_n10 := Lib.hid (y_n9.out.below hb10)
    have z_n10 := Lib.hid (z_n9.out.below hb10)
    have p_n10 := Lib.hid (p_n9.out.below hb10)
    have q_n10 := Lib.hid (q_n9.out.below hb10)
    have X_n10 := Lib.hid (own_below hb10 X_n9.out)
    have Y_n10 := Lib.hid (own_below hb10 Y_n9.out)
    have Z_n10 := Lib.hid (own_below hb10 Z_n9.out)
    have hB_n10 := bnext hB_n9 hb10
    clear s_n9
    clear i_n9
    clear x_n9
    clear y_n9
    clear z_n9
    clear p_n9
    clear q_n9
    clear X_n9
    clear Y_n9
    clear Z_n9
    have lt_s_10 := s_n10.out.lt
    have lt_i_10 := i_n10.out.lt
    have lt_x_10 := x_n10.out.lt
    have lt_y_10 := y_n10.out.lt
    have lt_z_10 := z_n10.out.lt
    have lt_p_10 := p_n10.out.lt
    have lt_q_10 := q_n10.out.lt
    clear hB_n9
    clear hb10
    obtain ⟨s_0, s_1, s_2, s_3⟩ := s_n10.out.c4
    obtain ⟨i_0, i_1, i_2⟩ := i_n10.out.c3
    obtain ⟨x_0, x_1, x_2, x_3⟩ := x_n10.out.c4
    obtain ⟨y_0, y_1, y_2, y_3⟩ := y_n10.out.c4
    obtain ⟨z_0, z_1, z_2, z_3⟩ := z_n10.out.c4
    obtain ⟨p_0, p_1, p_2, p_3, p_4⟩ := p_n10.out.c5
    obtain ⟨q_0, q_1, q_2, q_3, q_4⟩ := q_n10.out.c5
    go_wp2_with fail
    refine (awake_t _).mono ?_
    rintro e w11 ⟨rfl, hb11⟩
    clear s_0 s_1 s_2 s_3 i_0 i_1 i_2 x_0 x_1 x_2 x_3 y_0 y_1 y_2 y_3 z_0 z_1 z_2 z_3 p_0 p_1 p_2 p_3 p_4 q_0 q_1 q_2 q_3 q_4
    have s_n11 := Lib.hid (s_n10.out.below hb11)
    have i_n11 := Lib.hid (i_n10.out.below hb11)
    have x_n11 := Lib.hid (x_n10.out.below hb11)
    have y_n11 := Lib.hid (y_n10.out.below hb11)
    have z_n11 := Lib.hid (z_n10.out.below hb11)
    have p_n11 := Lib.hid (p_n10.out.below hb11)
    have q_n11 := Lib.hid (q_n10.out.below hb11)
    have X_n11 := Lib.hid (own_below hb11 X_n10.out)
    have Y_n11 := Lib.hid (own_below hb11 Y_n10.out)
    have Z_n11 := Lib.hid (own_below hb11 Z_n10.out)
    have hB_n11 := bnext hB_n10 hb11
    clear s_n10
    clear i_n10
    clear x_n10
    clear y_n10
    clear z_n10
    clear p_n10
    clear q_n10
    clear X_n10
    clear Y_n10
    clear Z_n10
    have lt_s_11 := s_n11.out.lt
    have lt_i_11 := i_n11.out.lt
    have lt_x_11 := x_n11.out.lt
    have lt_y_11 := y_n11.out.lt
    have lt_z_11 := z_n11.out.lt
    have lt_p_11 := p_n11.out.lt
    have lt_q_11 := q_n11.out.lt
    clear hB_n10
    clear hb11
    go_wp2_with fail
    go_ret
    exact ⟨rfl, hB_n11⟩
  · have hi : (110 : Int) < l.length := by omega
    go_enter Try.func5, Try.ntmps5
    go_wp2_with fail
    refine (awake_t _).mono ?_
    rintro e w9 ⟨rfl, hb9⟩
    go_wp2_with fail
    go_ret
    exact ⟨rfl, (by repeat (first | with_reducible exact Below.refl _ _ | with_reducible refine Below.drew ?_ | with_reducible refine below_drewN ?_ _ | with_reducible refine bal ?_ _ | with_reducible refine bset ?_ (by first | (simp; done) | (simp; omega)) _ | with_reducible refine bnext ?_ (by assumption) | with_reducible assumption))⟩
end Go.Proofs.Ytdfppaafoecgmaa
