/- The law: what cutting and parts are. -/
import Derived.Test.YtcifngefclgefaaR
namespace Go.Proofs.Ytcifngefclgefaa
open Go.RowKit
set_option linter.unusedVariables false
set_option linter.unusedSimpArgs false

set_option maxRecDepth 100000 in
set_option maxHeartbeats 8000000 in
theorem cuts_main1 (b : Bn) (m : ByteArray) (z f t : Int) (hf : -9223372036854775808 ≤ f ∧ f ≤ 9223372036854775807) (ht : -9223372036854775808 ≤ t ∧ t ≤ 9223372036854775807) (c1 : ¬ (b.data.size : Int) > 1010) (c2 : (m.size : Int) > 1200) (c3 : ¬ (m.size : Int) ≤ 20000) (c4 : ¬ (m.size : Int) > 20010) (w : World) :
    Calls Try.prog 3 #[.agg #[.int .i64 b.node, .int .u64 b.seq, .int .i64 b.off, .int .i64 b.dest, .int .i64 b.prio, .int .i64 b.born, .int .i64 b.life, .int .i64 b.total, .string b.data], .string m, .int .i64 z, .int .i64 f, .int .i64 t] w (RetB true w) := by
  obtain ⟨L, er, hL⟩ : ∃ L er, cutOf b m z = (L, er) := ⟨_, _, rfl⟩
  obtain ⟨q, g, hq⟩ : ∃ q g, partOf b f t = (q, g) := ⟨_, _, rfl⟩
  have C1 : Hid (∀ w, Calls Try.prog 11 #[.agg #[.int .i64 b.node, .int .u64 b.seq, .int .i64 b.off, .int .i64 b.dest, .int .i64 b.prio, .int .i64 b.born, .int .i64 b.life, .int .i64 b.total, .string b.data], .string m, .int .i64 z] w (RetBs L er w)) := Lib.hid (fun w => by have := fCut_any b m z w; rw [hL] at this; exact this)
  have C2 : Hid (∀ w, Calls Try.prog 12 #[.agg #[.int .i64 b.node, .int .u64 b.seq, .int .i64 b.off, .int .i64 b.dest, .int .i64 b.prio, .int .i64 b.born, .int .i64 b.life, .int .i64 b.total, .string b.data], .string m, .int .i64 z] w (RetBs L er w)) := Lib.hid (fun w => by have := rCut_any b m z w; rw [hL] at this; exact this)
  have C3 : Hid (∀ w, Calls Try.prog 13 #[.agg #[.int .i64 b.node, .int .u64 b.seq, .int .i64 b.off, .int .i64 b.dest, .int .i64 b.prio, .int .i64 b.born, .int .i64 b.life, .int .i64 b.total, .string b.data], .int .i64 f, .int .i64 t] w (RetBE q g w)) := Lib.hid (fun w => by have := Part_any b f t hf ht w; rw [hq] at this; exact this)
  have C4 : Hid (∀ w, Calls Try.prog 14 #[.agg #[.int .i64 b.node, .int .u64 b.seq, .int .i64 b.off, .int .i64 b.dest, .int .i64 b.prio, .int .i64 b.born, .int .i64 b.life, .int .i64 b.total, .string b.data], .int .i64 f, .int .i64 t] w (RetBE q g w)) := Lib.hid (fun w => by have := rPart_any b f t hf ht w; rw [hq] at this; exact this)
  clear hL hq hf ht
  obtain ⟨n0, n1, n2, n3, n4, n5, n6, n7, n8⟩ := q
  have HEQ := Lib.hid run_eq_bn
  have t2 : Bn.eqB ⟨n0, n1, n2, n3, n4, n5, n6, n7, n8⟩ ⟨n0, n1, n2, n3, n4, n5, n6, n7, n8⟩ = true := Bn.eqB_self _
  go_enter Try.func3, Try.ntmps3
  go_wp2_with fail
  refine (C1.out _).mono ?_
  rintro e w1 ⟨v1, rfl, hv1, hb1⟩
  obtain ⟨A1, c1', rfl, _⟩ := id hv1
  have k1 := (Blk.new w 26 #[.int .i64 b.node, .int .u64 b.seq, .int .i64 b.off, .int .i64 b.dest, .int .i64 b.prio, .int .i64 b.born, .int .i64 b.life, .int .i64 b.total, .string b.data]).below hb1
  have hB1 := bnext (bal (Below.refl w.heap.size w) (.cells #[.int .i64 b.node, .int .u64 b.seq, .int .i64 b.off, .int .i64 b.dest, .int .i64 b.prio, .int .i64 b.born, .int .i64 b.life, .int .i64 b.total, .string b.data] 26)) hb1
  have V1 := Lib.hid hv1
  obtain ⟨x0, x1, x2, x3, x4, x5, x6, x7, x8⟩ := k1.c9
  clear hb1 hv1 C1
  go_wp2_with fail
  refine (C2.out _).mono ?_
  rintro e w2 ⟨v2, rfl, hv2, hb2⟩
  obtain ⟨A2, c2', rfl, _⟩ := id hv2
  have k2 := k1.below hb2
  have hB2 := bnext hB1 hb2
  have V2 := Lib.hid (SlAt.below V1.out hb2)
  have U2 := Lib.hid hv2
  clear hb2 hv2 C2 V1 x0 x1 x2 x3 x4 x5 x6 x7 x8 k1 hB1
  obtain ⟨x0, x1, x2, x3, x4, x5, x6, x7, x8⟩ := k2.c9
  go_wp2_with fail
  refine (C3.out _).mono ?_
  rintro e w3 ⟨rfl, hb3⟩
  rw [Bn.val_eq]
  dsimp only
  have k3 := (k2.below hb3).alloc (.cells #[.int .i64 n0, .int .u64 n1, .int .i64 n2, .int .i64 n3, .int .i64 n4, .int .i64 n5, .int .i64 n6, .int .i64 n7, .string n8] 26)
  have hB3 := bal (bnext hB2 hb3) (.cells #[.int .i64 n0, .int .u64 n1, .int .i64 n2, .int .i64 n3, .int .i64 n4, .int .i64 n5, .int .i64 n6, .int .i64 n7, .string n8] 26)
  have V3 := Lib.hid (SlAt.alloc (SlAt.below V2.out hb3) (.cells #[.int .i64 n0, .int .u64 n1, .int .i64 n2, .int .i64 n3, .int .i64 n4, .int .i64 n5, .int .i64 n6, .int .i64 n7, .string n8] 26))
  have U3 := Lib.hid (SlAt.alloc (SlAt.below U2.out hb3) (.cells #[.int .i64 n0, .int .u64 n1, .int .i64 n2, .int .i64 n3, .int .i64 n4, .int .i64 n5, .int .i64 n6, .int .i64 n7, .string n8] 26))
  have p3 := Blk.new w3 26 #[.int .i64 n0, .int .u64 n1, .int .i64 n2, .int .i64 n3, .int .i64 n4, .int .i64 n5, .int .i64 n6, .int .i64 n7, .string n8]
  obtain ⟨gp, hgp⟩ : ∃ gp, gp = w3.heap.size := ⟨_, rfl⟩
  have HGP := Lib.hid hgp
  clear hb3 C3 V2 U2 x0 x1 x2 x3 x4 x5 x6 x7 x8 k2 hB2
  obtain ⟨x0, x1, x2, x3, x4, x5, x6, x7, x8⟩ := k3.c9
  go_upto_region 6 with fail
  rw [← hgp] at p3 ⊢
  generalize w3.alloc (.cells #[.int .i64 n0, .int .u64 n1, .int .i64 n2, .int .i64 n3, .int .i64 n4, .int .i64 n5, .int .i64 n6, .int .i64 n7, .string n8] 26) = w3' at k3 hB3 V3 U3 p3 x0 x1 x2 x3 x4 x5 x6 x7 x8 ⊢
  clear hgp HGP
  go_wp2_with fail
  refine (C4.out _).mono ?_
  rintro e w4 ⟨rfl, hb4⟩
  rw [Bn.val_eq]
  dsimp only
  have hB4 := bal (bnext hB3 hb4) (.cells #[.int .i64 n0, .int .u64 n1, .int .i64 n2, .int .i64 n3, .int .i64 n4, .int .i64 n5, .int .i64 n6, .int .i64 n7, .string n8] 26)
  have V4 := Lib.hid (SlAt.alloc (SlAt.below V3.out hb4) (.cells #[.int .i64 n0, .int .u64 n1, .int .i64 n2, .int .i64 n3, .int .i64 n4, .int .i64 n5, .int .i64 n6, .int .i64 n7, .string n8] 26))
  have U4 := Lib.hid (SlAt.alloc (SlAt.below U3.out hb4) (.cells #[.int .i64 n0, .int .u64 n1, .int .i64 n2, .int .i64 n3, .int .i64 n4, .int .i64 n5, .int .i64 n6, .int .i64 n7, .string n8] 26))
  have p4 := (p3.below hb4).alloc (.cells #[.int .i64 n0, .int .u64 n1, .int .i64 n2, .int .i64 n3, .int .i64 n4, .int .i64 n5, .int .i64 n6, .int .i64 n7, .string n8] 26)
  have r4 := Blk.new w4 26 #[.int .i64 n0, .int .u64 n1, .int .i64 n2, .int .i64 n3, .int .i64 n4, .int .i64 n5, .int .i64 n6, .int .i64 n7, .string n8]
  obtain ⟨gr, hgr⟩ : ∃ gr, gr = w4.heap.size := ⟨_, rfl⟩
  clear hb4 C4 V3 U3 x0 x1 x2 x3 x4 x5 x6 x7 x8 k3 hB3 p3
  go_upto_region 7 with fail
  rw [← hgr] at r4 ⊢
  generalize w4.alloc (.cells #[.int .i64 n0, .int .u64 n1, .int .i64 n2, .int .i64 n3, .int .i64 n4, .int .i64 n5, .int .i64 n6, .int .i64 n7, .string n8] 26) = w4' at hB4 V4 U4 p4 r4 ⊢
  clear hgr
  go_wp2_with fail
  refine (same_eq L _ _ _ V4.out U4.out).mono ?_
  rintro e w5 ⟨rfl, hb5⟩
  have hB5 := bnext hB4 hb5
  obtain ⟨x0, x1, x2, x3, x4, x5, x6, x7, x8⟩ := (p4.below hb5).c9
  obtain ⟨y0, y1, y2, y3, y4, y5, y6, y7, y8⟩ := (r4.below hb5).c9
  clear hb5 hB4 V4 U4 p4 r4
  have heq := HEQ.out
  go_wp2_with fail
  refine (awake_any _).mono ?_
  rintro e w6 ⟨rfl, hb6⟩
  have hB6 := bnext hB5 hb6
  clear hb6 hB5
  go_wp2_with fail
  go_ret
  exact ⟨rfl, hB6⟩

set_option maxRecDepth 100000 in
set_option maxHeartbeats 8000000 in
theorem cuts_main2 (b : Bn) (m : ByteArray) (z f t : Int) (hf : -9223372036854775808 ≤ f ∧ f ≤ 9223372036854775807) (ht : -9223372036854775808 ≤ t ∧ t ≤ 9223372036854775807) (c1 : ¬ (b.data.size : Int) > 1010) (c2 : ¬ (m.size : Int) > 1200) (c4 : ¬ (m.size : Int) > 20010) (w : World) :
    Calls Try.prog 3 #[.agg #[.int .i64 b.node, .int .u64 b.seq, .int .i64 b.off, .int .i64 b.dest, .int .i64 b.prio, .int .i64 b.born, .int .i64 b.life, .int .i64 b.total, .string b.data], .string m, .int .i64 z, .int .i64 f, .int .i64 t] w (RetB true w) := by
  obtain ⟨L, er, hL⟩ : ∃ L er, cutOf b m z = (L, er) := ⟨_, _, rfl⟩
  obtain ⟨q, g, hq⟩ : ∃ q g, partOf b f t = (q, g) := ⟨_, _, rfl⟩
  have C1 : Hid (∀ w, Calls Try.prog 11 #[.agg #[.int .i64 b.node, .int .u64 b.seq, .int .i64 b.off, .int .i64 b.dest, .int .i64 b.prio, .int .i64 b.born, .int .i64 b.life, .int .i64 b.total, .string b.data], .string m, .int .i64 z] w (RetBs L er w)) := Lib.hid (fun w => by have := fCut_any b m z w; rw [hL] at this; exact this)
  have C2 : Hid (∀ w, Calls Try.prog 12 #[.agg #[.int .i64 b.node, .int .u64 b.seq, .int .i64 b.off, .int .i64 b.dest, .int .i64 b.prio, .int .i64 b.born, .int .i64 b.life, .int .i64 b.total, .string b.data], .string m, .int .i64 z] w (RetBs L er w)) := Lib.hid (fun w => by have := rCut_any b m z w; rw [hL] at this; exact this)
  have C3 : Hid (∀ w, Calls Try.prog 13 #[.agg #[.int .i64 b.node, .int .u64 b.seq, .int .i64 b.off, .int .i64 b.dest, .int .i64 b.prio, .int .i64 b.born, .int .i64 b.life, .int .i64 b.total, .string b.data], .int .i64 f, .int .i64 t] w (RetBE q g w)) := Lib.hid (fun w => by have := Part_any b f t hf ht w; rw [hq] at this; exact this)
  have C4 : Hid (∀ w, Calls Try.prog 14 #[.agg #[.int .i64 b.node, .int .u64 b.seq, .int .i64 b.off, .int .i64 b.dest, .int .i64 b.prio, .int .i64 b.born, .int .i64 b.life, .int .i64 b.total, .string b.data], .int .i64 f, .int .i64 t] w (RetBE q g w)) := Lib.hid (fun w => by have := rPart_any b f t hf ht w; rw [hq] at this; exact this)
  clear hL hq hf ht
  obtain ⟨n0, n1, n2, n3, n4, n5, n6, n7, n8⟩ := q
  have HEQ := Lib.hid run_eq_bn
  have t2 : Bn.eqB ⟨n0, n1, n2, n3, n4, n5, n6, n7, n8⟩ ⟨n0, n1, n2, n3, n4, n5, n6, n7, n8⟩ = true := Bn.eqB_self _
  go_enter Try.func3, Try.ntmps3
  go_wp2_with fail
  refine (C1.out _).mono ?_
  rintro e w1 ⟨v1, rfl, hv1, hb1⟩
  obtain ⟨A1, c1', rfl, _⟩ := id hv1
  have k1 := (Blk.new w 26 #[.int .i64 b.node, .int .u64 b.seq, .int .i64 b.off, .int .i64 b.dest, .int .i64 b.prio, .int .i64 b.born, .int .i64 b.life, .int .i64 b.total, .string b.data]).below hb1
  have hB1 := bnext (bal (Below.refl w.heap.size w) (.cells #[.int .i64 b.node, .int .u64 b.seq, .int .i64 b.off, .int .i64 b.dest, .int .i64 b.prio, .int .i64 b.born, .int .i64 b.life, .int .i64 b.total, .string b.data] 26)) hb1
  have V1 := Lib.hid hv1
  obtain ⟨x0, x1, x2, x3, x4, x5, x6, x7, x8⟩ := k1.c9
  clear hb1 hv1 C1
  go_wp2_with fail
  refine (C2.out _).mono ?_
  rintro e w2 ⟨v2, rfl, hv2, hb2⟩
  obtain ⟨A2, c2', rfl, _⟩ := id hv2
  have k2 := k1.below hb2
  have hB2 := bnext hB1 hb2
  have V2 := Lib.hid (SlAt.below V1.out hb2)
  have U2 := Lib.hid hv2
  clear hb2 hv2 C2 V1 x0 x1 x2 x3 x4 x5 x6 x7 x8 k1 hB1
  obtain ⟨x0, x1, x2, x3, x4, x5, x6, x7, x8⟩ := k2.c9
  go_wp2_with fail
  refine (C3.out _).mono ?_
  rintro e w3 ⟨rfl, hb3⟩
  rw [Bn.val_eq]
  dsimp only
  have k3 := (k2.below hb3).alloc (.cells #[.int .i64 n0, .int .u64 n1, .int .i64 n2, .int .i64 n3, .int .i64 n4, .int .i64 n5, .int .i64 n6, .int .i64 n7, .string n8] 26)
  have hB3 := bal (bnext hB2 hb3) (.cells #[.int .i64 n0, .int .u64 n1, .int .i64 n2, .int .i64 n3, .int .i64 n4, .int .i64 n5, .int .i64 n6, .int .i64 n7, .string n8] 26)
  have V3 := Lib.hid (SlAt.alloc (SlAt.below V2.out hb3) (.cells #[.int .i64 n0, .int .u64 n1, .int .i64 n2, .int .i64 n3, .int .i64 n4, .int .i64 n5, .int .i64 n6, .int .i64 n7, .string n8] 26))
  have U3 := Lib.hid (SlAt.alloc (SlAt.below U2.out hb3) (.cells #[.int .i64 n0, .int .u64 n1, .int .i64 n2, .int .i64 n3, .int .i64 n4, .int .i64 n5, .int .i64 n6, .int .i64 n7, .string n8] 26))
  have p3 := Blk.new w3 26 #[.int .i64 n0, .int .u64 n1, .int .i64 n2, .int .i64 n3, .int .i64 n4, .int .i64 n5, .int .i64 n6, .int .i64 n7, .string n8]
  obtain ⟨gp, hgp⟩ : ∃ gp, gp = w3.heap.size := ⟨_, rfl⟩
  have HGP := Lib.hid hgp
  clear hb3 C3 V2 U2 x0 x1 x2 x3 x4 x5 x6 x7 x8 k2 hB2
  obtain ⟨x0, x1, x2, x3, x4, x5, x6, x7, x8⟩ := k3.c9
  go_upto_region 6 with fail
  rw [← hgp] at p3 ⊢
  generalize w3.alloc (.cells #[.int .i64 n0, .int .u64 n1, .int .i64 n2, .int .i64 n3, .int .i64 n4, .int .i64 n5, .int .i64 n6, .int .i64 n7, .string n8] 26) = w3' at k3 hB3 V3 U3 p3 x0 x1 x2 x3 x4 x5 x6 x7 x8 ⊢
  clear hgp HGP
  go_wp2_with fail
  refine (C4.out _).mono ?_
  rintro e w4 ⟨rfl, hb4⟩
  rw [Bn.val_eq]
  dsimp only
  have hB4 := bal (bnext hB3 hb4) (.cells #[.int .i64 n0, .int .u64 n1, .int .i64 n2, .int .i64 n3, .int .i64 n4, .int .i64 n5, .int .i64 n6, .int .i64 n7, .string n8] 26)
  have V4 := Lib.hid (SlAt.alloc (SlAt.below V3.out hb4) (.cells #[.int .i64 n0, .int .u64 n1, .int .i64 n2, .int .i64 n3, .int .i64 n4, .int .i64 n5, .int .i64 n6, .int .i64 n7, .string n8] 26))
  have U4 := Lib.hid (SlAt.alloc (SlAt.below U3.out hb4) (.cells #[.int .i64 n0, .int .u64 n1, .int .i64 n2, .int .i64 n3, .int .i64 n4, .int .i64 n5, .int .i64 n6, .int .i64 n7, .string n8] 26))
  have p4 := (p3.below hb4).alloc (.cells #[.int .i64 n0, .int .u64 n1, .int .i64 n2, .int .i64 n3, .int .i64 n4, .int .i64 n5, .int .i64 n6, .int .i64 n7, .string n8] 26)
  have r4 := Blk.new w4 26 #[.int .i64 n0, .int .u64 n1, .int .i64 n2, .int .i64 n3, .int .i64 n4, .int .i64 n5, .int .i64 n6, .int .i64 n7, .string n8]
  obtain ⟨gr, hgr⟩ : ∃ gr, gr = w4.heap.size := ⟨_, rfl⟩
  clear hb4 C4 V3 U3 x0 x1 x2 x3 x4 x5 x6 x7 x8 k3 hB3 p3
  go_upto_region 7 with fail
  rw [← hgr] at r4 ⊢
  generalize w4.alloc (.cells #[.int .i64 n0, .int .u64 n1, .int .i64 n2, .int .i64 n3, .int .i64 n4, .int .i64 n5, .int .i64 n6, .int .i64 n7, .string n8] 26) = w4' at hB4 V4 U4 p4 r4 ⊢
  clear hgr
  go_wp2_with fail
  refine (same_eq L _ _ _ V4.out U4.out).mono ?_
  rintro e w5 ⟨rfl, hb5⟩
  have hB5 := bnext hB4 hb5
  obtain ⟨x0, x1, x2, x3, x4, x5, x6, x7, x8⟩ := (p4.below hb5).c9
  obtain ⟨y0, y1, y2, y3, y4, y5, y6, y7, y8⟩ := (r4.below hb5).c9
  clear hb5 hB4 V4 U4 p4 r4
  have heq := HEQ.out
  go_wp2_with fail
  refine (awake_any _).mono ?_
  rintro e w6 ⟨rfl, hb6⟩
  have hB6 := bnext hB5 hb6
  clear hb6 hB5
  go_wp2_with fail
  go_ret
  exact ⟨rfl, hB6⟩

set_option maxRecDepth 100000 in
set_option maxHeartbeats 8000000 in
theorem FragCuts_t (b : Bn) (m : ByteArray) (z f t : Int) (hf : -9223372036854775808 ≤ f ∧ f ≤ 9223372036854775807) (ht : -9223372036854775808 ≤ t ∧ t ≤ 9223372036854775807) (w : World) :
    Calls Try.prog 3 #[b.val, .string m, .int .i64 z, .int .i64 f, .int .i64 t] w (RetB true w) := by
  rw [Bn.val_eq]
  by_cases c1 : (b.data.size : Int) > 1010
  · clear hf ht
    go_enter Try.func3, Try.ntmps3
    go_wp2_with fail
    refine (awake_any _).mono ?_
    rintro e w1 ⟨rfl, hb1⟩
    have hB1 := bnext (bal (Below.refl w.heap.size w) (.cells #[.int .i64 b.node, .int .u64 b.seq, .int .i64 b.off, .int .i64 b.dest, .int .i64 b.prio, .int .i64 b.born, .int .i64 b.life, .int .i64 b.total, .string b.data] 26)) hb1
    go_wp2_with fail
    go_ret
    exact ⟨rfl, hB1⟩
  by_cases c2 : (m.size : Int) > 1200
  · by_cases c3 : (m.size : Int) ≤ 20000
    · clear hf ht
      go_enter Try.func3, Try.ntmps3
      go_wp2_with fail
      refine (awake_any _).mono ?_
      rintro e w1 ⟨rfl, hb1⟩
      have hB1 := bnext (bal (Below.refl w.heap.size w) (.cells #[.int .i64 b.node, .int .u64 b.seq, .int .i64 b.off, .int .i64 b.dest, .int .i64 b.prio, .int .i64 b.born, .int .i64 b.life, .int .i64 b.total, .string b.data] 26)) hb1
      go_wp2_with fail
      go_ret
      exact ⟨rfl, hB1⟩
    · by_cases c4 : (m.size : Int) > 20010
      · clear hf ht
        go_enter Try.func3, Try.ntmps3
        go_wp2_with fail
        refine (awake_any _).mono ?_
        rintro e w1 ⟨rfl, hb1⟩
        have hB1 := bnext (bal (Below.refl w.heap.size w) (.cells #[.int .i64 b.node, .int .u64 b.seq, .int .i64 b.off, .int .i64 b.dest, .int .i64 b.prio, .int .i64 b.born, .int .i64 b.life, .int .i64 b.total, .string b.data] 26)) hb1
        go_wp2_with fail
        go_ret
        exact ⟨rfl, hB1⟩
      · exact cuts_main1 b m z f t hf ht c1 c2 c3 c4 w
  · have c4 : ¬ (m.size : Int) > 20010 := by omega
    exact cuts_main2 b m z f t hf ht c1 c2 c4 w
end Go.Proofs.Ytcifngefclgefaa
