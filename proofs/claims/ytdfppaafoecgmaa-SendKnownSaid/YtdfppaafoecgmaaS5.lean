/- Contract: what is refused. -/
import Derived.Test.YtdfppaafoecgmaaS2
namespace Go.Proofs.Ytdfppaafoecgmaa
open Go.RowKit
set_option linter.unusedVariables false
set_option linter.unusedSimpArgs false

set_option maxRecDepth 100000 in
set_option maxHeartbeats 2000000 in
theorem refused_t {s a b : Led} {k err other size off node seq io : Int} (hG : offer s size node seq io = (a, k, err)) (hE : settle s off node seq io = (b, other)) (hw : Wf s) (hz0 : 0 ≤ size) (hz1 : size ≤ 18446744073709551615) (v : Value) (w : World) (hS : SlAt w 5 v s.sl.length (flat s.sl)) :
    Calls Try.prog 30 #[.agg #[.int .u64 s.g, .int .u64 s.n, .int .u64 s.r, v], .int .u64 size, .agg #[.int .i64 node, .int .u64 seq, .int .i64 io], .int .i64 err, .int .u64 off, .int .i64 other] w (RetB true w) := by
  obtain ⟨g, n, r, l⟩ := s
  obtain ⟨ag, an, ar, al⟩ := a
  obtain ⟨bg, bn, br, bl⟩ := b
  obtain ⟨A, c, rfl, hc1, hc2, _⟩ := id hS
  have HS := Lib.hid hS
  have HG := Lib.hid hG
  have HE := Lib.hid hE
  clear hS hG hE
  dsimp only at *
  go_enter Try.func30, Try.ntmps30
  go_wp2_with fail
  refine (Offer_to HG.out hw hz0 hz1 _ _ (HS.out.below (bal (bal (Below.refl w.heap.size w) _) _))).mono ?_
  rintro e w1 ⟨A8, c8, rfl, _, hb1⟩
  have s_n1 := Lib.hid (((Blk.new _ 26 #[.int .u64 g, .int .u64 n, .int .u64 r, .slice A l.length c]).alloc _).below hb1)
  have i_n1 := Lib.hid ((Blk.new1 _ _ 41 #[.int .i64 node, .int .u64 seq, .int .i64 io]).below hb1)
  have hB_n1 := bnext (bal (bal (Below.refl w.heap.size w) _) _) hb1
  have lt_s_1 := s_n1.out.lt
  have lt_i_1 := i_n1.out.lt
  clear hb1
  obtain ⟨s_0, s_1, s_2, s_3⟩ := s_n1.out.c4
  obtain ⟨i_0, i_1, i_2⟩ := i_n1.out.c3
  go_wp2_with fail
  refine (Settle_to HE.out hw _ _ (HS.out.below (bal hB_n1 _))).mono ?_
  rintro e w2 ⟨A9, c9, rfl, _, hb2⟩
  clear s_0 s_1 s_2 s_3 i_0 i_1 i_2
  have s_n2 := Lib.hid ((s_n1.out.alloc _).below hb2)
  have i_n2 := Lib.hid ((i_n1.out.alloc _).below hb2)
  have y_n2 := Lib.hid ((Blk.new _ 26 #[.int .u64 ag, .int .u64 an, .int .u64 ar, .slice A8 al.length c8]).below hb2)
  have hB_n2 := bnext (bal hB_n1 _) hb2
  clear s_n1
  clear i_n1
  have lt_s_2 := s_n2.out.lt
  have lt_i_2 := i_n2.out.lt
  have lt_y_2 := y_n2.out.lt
  clear hB_n1
  clear hb2
  go_wp2_with fail
  go_ret
  exact ⟨rfl, bal hB_n2 _⟩
end Go.Proofs.Ytdfppaafoecgmaa
