/- The law PeerFrames. -/
import Derived.Test.YtfgkkflbpfocjaaZ14
import Derived.Test.YtfgkkflbpfocjaaZ15
import Derived.Test.YtfgkkflbpfocjaaZ7
namespace Go.Proofs.Ytfgkkflbpfocjaa
open Go.RowKit
set_option linter.unusedVariables false
set_option linter.unusedSimpArgs false

theorem run_eq_fr0 (x0 x1 x2 x3 x4 x5 x6 x7 x8 x9 x10 x11 x12 x13 x14 x15 x16 x17 : Int) (s : ByteArray) (w : World) : (binOp .eql 51 (.agg #[.int .i64 x0, .int .i64 x1, .int .i64 x2, .int .u64 x3, .int .u64 x4, .int .u64 x5, .int .u64 x6, .int .i64 x7, .int .u64 x8, .int .i64 x9, .int .i64 x10, .int .u64 x11, .int .i64 x12, .int .i64 x13, .int .i64 x14, .int .i64 x15, .int .i64 x16, .int .i64 x17, .string s]) (.agg #[.int .i64 x0, .int .i64 x1, .int .i64 x2, .int .u64 x3, .int .u64 x4, .int .u64 x5, .int .u64 x6, .int .i64 x7, .int .u64 x8, .int .i64 x9, .int .i64 x10, .int .u64 x11, .int .i64 x12, .int .i64 x13, .int .i64 x14, .int .i64 x15, .int .i64 x16, .int .i64 x17, .string s])).run Try.prog w = .ok (.bool true) w := by
  go_simp

set_option maxRecDepth 100000 in
set_option maxHeartbeats 4000000 in
theorem pf_1 (p : Pr) (A0 : Option Addr) (a0 : Nat) (B0 : Option Addr) (b0 : Nat) (C0 : Option Addr) (c0 : Nat) (node boot : Int) (w : World) (LG : ∀ w', Below w.heap.size w w' → Calls Try.prog 11 #[.agg #[.int .i64 p.node, .int .u64 p.theirs, .bool p.sure, .int .u64 p.old, .int .u64 p.s.g, .int .u64 p.s.n, .int .u64 p.s.r, .slice A0 p.s.sl.length a0, .int .u64 p.r.g, .int .u64 p.r.r, .int .u64 p.r.fl, .slice B0 p.r.tk.length b0, .slice C0 p.r.kp.length c0]] w' (RetB true w')) :
    Calls Try.prog 10 #[.agg #[.int .i64 p.node, .int .u64 p.theirs, .bool p.sure, .int .u64 p.old, .int .u64 p.s.g, .int .u64 p.s.n, .int .u64 p.s.r, .slice A0 p.s.sl.length a0, .int .u64 p.r.g, .int .u64 p.r.r, .int .u64 p.r.fl, .slice B0 p.r.tk.length b0, .slice C0 p.r.kp.length c0], .int .i64 node, .int .u64 boot] w (RetB true w) := by
  have LG' := Lib.hid LG
  clear LG
  go_enter Try.func10, Try.ntmps10
  go_upto_region 1 with fail
  have k0 := Blk.new w 31 #[.int .i64 p.node, .int .u64 p.theirs, .bool p.sure, .int .u64 p.old, .int .u64 p.s.g, .int .u64 p.s.n, .int .u64 p.s.r, .slice A0 p.s.sl.length a0, .int .u64 p.r.g, .int .u64 p.r.r, .int .u64 p.r.fl, .slice B0 p.r.tk.length b0, .slice C0 p.r.kp.length c0]
  have hB := bal (Below.refl w.heap.size w) (.cells #[.int .i64 p.node, .int .u64 p.theirs, .bool p.sure, .int .u64 p.old, .int .u64 p.s.g, .int .u64 p.s.n, .int .u64 p.s.r, .slice A0 p.s.sl.length a0, .int .u64 p.r.g, .int .u64 p.r.r, .int .u64 p.r.fl, .slice B0 p.r.tk.length b0, .slice C0 p.r.kp.length c0] 31)
  obtain ⟨g0, hg0⟩ : ∃ g0, w.heap.size = g0 := ⟨_, rfl⟩
  rw [hg0] at k0 ⊢
  clear hg0
  generalize w.alloc (.cells #[.int .i64 p.node, .int .u64 p.theirs, .bool p.sure, .int .u64 p.old, .int .u64 p.s.g, .int .u64 p.s.n, .int .u64 p.s.r, .slice A0 p.s.sl.length a0, .int .u64 p.r.g, .int .u64 p.r.r, .int .u64 p.r.fl, .slice B0 p.r.tk.length b0, .slice C0 p.r.kp.length c0] 31) = w1 at k0 hB ⊢
  have hl0 := k0.lt
  go_wp2_with (first | (refine wpList_ldrow (by rfl) 31 _ (by rfl) g0 (by rfl) 31 #[.int .i64 p.node, .int .u64 p.theirs, .bool p.sure, .int .u64 p.old, .int .u64 p.s.g, .int .u64 p.s.n, .int .u64 p.s.r, .slice A0 p.s.sl.length a0, .int .u64 p.r.g, .int .u64 p.r.r, .int .u64 p.r.fl, .slice B0 p.r.tk.length b0, .slice C0 p.r.kp.length c0] (0, 0) _ k0 Try.underlying31 (by rfl) (by kernel_rfl) ?_))
  refine (LG'.out _ hB).mono ?_
  rintro e v1 ⟨rfl, hb⟩
  replace k0 := k0.below hb
  have hB2 := bnext hB hb
  clear hB hb hl0
  have hB := hB2
  clear hB2
  have hl0 := k0.lt
  go_wp2_with (first | (refine wpList_ldrow (by rfl) 31 _ (by rfl) g0 (by rfl) 31 #[.int .i64 p.node, .int .u64 p.theirs, .bool p.sure, .int .u64 p.old, .int .u64 p.s.g, .int .u64 p.s.n, .int .u64 p.s.r, .slice A0 p.s.sl.length a0, .int .u64 p.r.g, .int .u64 p.r.r, .int .u64 p.r.fl, .slice B0 p.r.tk.length b0, .slice C0 p.r.kp.length c0] (0, 0) _ k0 Try.underlying31 (by rfl) (by kernel_rfl) ?_))
  refine (awake_any _).mono ?_
  rintro e v2 ⟨rfl, hb⟩
  replace k0 := k0.below hb
  have hB2 := bnext hB hb
  clear hB hb hl0
  have hB := hB2
  clear hB2
  go_wp2_with fail
  go_ret
  exact ⟨rfl, hB⟩

set_option maxRecDepth 100000 in
set_option maxHeartbeats 4000000 in
theorem pf_2 (p : Pr) (A0 : Option Addr) (a0 : Nat) (B0 : Option Addr) (b0 : Nat) (C0 : Option Addr) (c0 : Nat) (node boot : Int) (w : World) (LG : ∀ w', Below w.heap.size w w' → Calls Try.prog 11 #[.agg #[.int .i64 p.node, .int .u64 p.theirs, .bool p.sure, .int .u64 p.old, .int .u64 p.s.g, .int .u64 p.s.n, .int .u64 p.s.r, .slice A0 p.s.sl.length a0, .int .u64 p.r.g, .int .u64 p.r.r, .int .u64 p.r.fl, .slice B0 p.r.tk.length b0, .slice C0 p.r.kp.length c0]] w' (RetB false w')) (OW : ∀ w', Below w.heap.size w w' → Calls Try.prog 17 #[.agg #[.int .i64 p.node, .int .u64 p.theirs, .bool p.sure, .int .u64 p.old, .int .u64 p.s.g, .int .u64 p.s.n, .int .u64 p.s.r, .slice A0 p.s.sl.length a0, .int .u64 p.r.g, .int .u64 p.r.r, .int .u64 p.r.fl, .slice B0 p.r.tk.length b0, .slice C0 p.r.kp.length c0]] w' (fun e w'' => ∃ V', e = .returned V' ∧ PrB w'.heap.size w'' V' p ∧ Below w'.heap.size w' w'')) (hl ce : Int) (CA : ∀ V w', PrAt w' V p → Calls Try.prog 26 #[V] w' (Ret2 .u64 .i64 hl ce w')) (CB : ∀ V w', PrAt w' V p → Calls Try.prog 33 #[V] w' (Ret2 .u64 .i64 hl ce w')) (q : Pr) (qe : Int) (CC : ∀ V w', PrAt w' V p → Calls Try.prog 27 #[V] w' (RetPE q qe w')) (CD : ∀ V w', PrAt w' V p → Calls Try.prog 34 #[V] w' (RetPE q qe w')) (f1 f2 f3 : Fr) (e1 e2 e3 : Int) (CE : ∀ V w', PrAt w' V p → Calls Try.prog 25 #[V, .int .i64 node, .int .u64 boot] w' (fun e w'' => e = .returned (.tuple #[.agg #[.int .i64 f1.kind, .int .i64 f1.frm, .int .i64 f1.to, .int .u64 f1.mine, .int .u64 f1.yours, .int .u64 f1.a, .int .u64 f1.b, .int .i64 f1.inode, .int .u64 f1.iseq, .int .i64 f1.ioff, .int .i64 f1.bn.node, .int .u64 f1.bn.seq, .int .i64 f1.bn.off, .int .i64 f1.bn.dest, .int .i64 f1.bn.prio, .int .i64 f1.bn.born, .int .i64 f1.bn.life, .int .i64 f1.bn.total, .string f1.bn.data], .int .i64 e1]) ∧ Below w'.heap.size w' w'')) (CF : ∀ V w', PrAt w' V p → Calls Try.prog 35 #[V, .int .i64 node, .int .u64 boot] w' (fun e w'' => e = .returned (.tuple #[.agg #[.int .i64 f1.kind, .int .i64 f1.frm, .int .i64 f1.to, .int .u64 f1.mine, .int .u64 f1.yours, .int .u64 f1.a, .int .u64 f1.b, .int .i64 f1.inode, .int .u64 f1.iseq, .int .i64 f1.ioff, .int .i64 f1.bn.node, .int .u64 f1.bn.seq, .int .i64 f1.bn.off, .int .i64 f1.bn.dest, .int .i64 f1.bn.prio, .int .i64 f1.bn.born, .int .i64 f1.bn.life, .int .i64 f1.bn.total, .string f1.bn.data], .int .i64 e1]) ∧ Below w'.heap.size w' w'')) (CG : ∀ V w', PrAt w' V p → Calls Try.prog 32 #[V, .int .i64 node, .int .u64 boot] w' (fun e w'' => e = .returned (.tuple #[.agg #[.int .i64 f2.kind, .int .i64 f2.frm, .int .i64 f2.to, .int .u64 f2.mine, .int .u64 f2.yours, .int .u64 f2.a, .int .u64 f2.b, .int .i64 f2.inode, .int .u64 f2.iseq, .int .i64 f2.ioff, .int .i64 f2.bn.node, .int .u64 f2.bn.seq, .int .i64 f2.bn.off, .int .i64 f2.bn.dest, .int .i64 f2.bn.prio, .int .i64 f2.bn.born, .int .i64 f2.bn.life, .int .i64 f2.bn.total, .string f2.bn.data], .int .i64 e2]) ∧ Below w'.heap.size w' w'')) (CH : ∀ V w', PrAt w' V p → Calls Try.prog 36 #[V, .int .i64 node, .int .u64 boot] w' (fun e w'' => e = .returned (.tuple #[.agg #[.int .i64 f2.kind, .int .i64 f2.frm, .int .i64 f2.to, .int .u64 f2.mine, .int .u64 f2.yours, .int .u64 f2.a, .int .u64 f2.b, .int .i64 f2.inode, .int .u64 f2.iseq, .int .i64 f2.ioff, .int .i64 f2.bn.node, .int .u64 f2.bn.seq, .int .i64 f2.bn.off, .int .i64 f2.bn.dest, .int .i64 f2.bn.prio, .int .i64 f2.bn.born, .int .i64 f2.bn.life, .int .i64 f2.bn.total, .string f2.bn.data], .int .i64 e2]) ∧ Below w'.heap.size w' w'')) (CI : ∀ V w', PrAt w' V p → Calls Try.prog 37 #[V, .int .i64 node, .int .u64 boot] w' (fun e w'' => e = .returned (.tuple #[.agg #[.int .i64 f3.kind, .int .i64 f3.frm, .int .i64 f3.to, .int .u64 f3.mine, .int .u64 f3.yours, .int .u64 f3.a, .int .u64 f3.b, .int .i64 f3.inode, .int .u64 f3.iseq, .int .i64 f3.ioff, .int .i64 f3.bn.node, .int .u64 f3.bn.seq, .int .i64 f3.bn.off, .int .i64 f3.bn.dest, .int .i64 f3.bn.prio, .int .i64 f3.bn.born, .int .i64 f3.bn.life, .int .i64 f3.bn.total, .string f3.bn.data], .int .i64 e3]) ∧ Below w'.heap.size w' w'')) (CK : ∀ V w', PrAt w' V p → Calls Try.prog 38 #[V, .int .i64 node, .int .u64 boot] w' (fun e w'' => e = .returned (.tuple #[.agg #[.int .i64 f3.kind, .int .i64 f3.frm, .int .i64 f3.to, .int .u64 f3.mine, .int .u64 f3.yours, .int .u64 f3.a, .int .u64 f3.b, .int .i64 f3.inode, .int .u64 f3.iseq, .int .i64 f3.ioff, .int .i64 f3.bn.node, .int .u64 f3.bn.seq, .int .i64 f3.bn.off, .int .i64 f3.bn.dest, .int .i64 f3.bn.prio, .int .i64 f3.bn.born, .int .i64 f3.bn.life, .int .i64 f3.bn.total, .string f3.bn.data], .int .i64 e3]) ∧ Below w'.heap.size w' w'')) (HV : PrAt w (.agg #[.int .i64 p.node, .int .u64 p.theirs, .bool p.sure, .int .u64 p.old, .int .u64 p.s.g, .int .u64 p.s.n, .int .u64 p.s.r, .slice A0 p.s.sl.length a0, .int .u64 p.r.g, .int .u64 p.r.r, .int .u64 p.r.fl, .slice B0 p.r.tk.length b0, .slice C0 p.r.kp.length c0]) p) :
    Calls Try.prog 10 #[.agg #[.int .i64 p.node, .int .u64 p.theirs, .bool p.sure, .int .u64 p.old, .int .u64 p.s.g, .int .u64 p.s.n, .int .u64 p.s.r, .slice A0 p.s.sl.length a0, .int .u64 p.r.g, .int .u64 p.r.r, .int .u64 p.r.fl, .slice B0 p.r.tk.length b0, .slice C0 p.r.kp.length c0], .int .i64 node, .int .u64 boot] w (RetB true w) := by
  have LG' := Lib.hid LG
  clear LG
  have OW' := Lib.hid OW
  clear OW
  have CA' := Lib.hid CA
  clear CA
  have CB' := Lib.hid CB
  clear CB
  have CC' := Lib.hid CC
  clear CC
  have CD' := Lib.hid CD
  clear CD
  have CE' := Lib.hid CE
  clear CE
  have CF' := Lib.hid CF
  clear CF
  have CG' := Lib.hid CG
  clear CG
  have CH' := Lib.hid CH
  clear CH
  have CI' := Lib.hid CI
  clear CI
  have CK' := Lib.hid CK
  clear CK
  have HV' := Lib.hid HV
  clear HV
  go_enter Try.func10, Try.ntmps10
  go_upto_region 1 with fail
  have k0 := Blk.new w 31 #[.int .i64 p.node, .int .u64 p.theirs, .bool p.sure, .int .u64 p.old, .int .u64 p.s.g, .int .u64 p.s.n, .int .u64 p.s.r, .slice A0 p.s.sl.length a0, .int .u64 p.r.g, .int .u64 p.r.r, .int .u64 p.r.fl, .slice B0 p.r.tk.length b0, .slice C0 p.r.kp.length c0]
  have hB := bal (Below.refl w.heap.size w) (.cells #[.int .i64 p.node, .int .u64 p.theirs, .bool p.sure, .int .u64 p.old, .int .u64 p.s.g, .int .u64 p.s.n, .int .u64 p.s.r, .slice A0 p.s.sl.length a0, .int .u64 p.r.g, .int .u64 p.r.r, .int .u64 p.r.fl, .slice B0 p.r.tk.length b0, .slice C0 p.r.kp.length c0] 31)
  obtain ⟨g0, hg0⟩ : ∃ g0, w.heap.size = g0 := ⟨_, rfl⟩
  rw [hg0] at k0 ⊢
  clear hg0
  generalize w.alloc (.cells #[.int .i64 p.node, .int .u64 p.theirs, .bool p.sure, .int .u64 p.old, .int .u64 p.s.g, .int .u64 p.s.n, .int .u64 p.s.r, .slice A0 p.s.sl.length a0, .int .u64 p.r.g, .int .u64 p.r.r, .int .u64 p.r.fl, .slice B0 p.r.tk.length b0, .slice C0 p.r.kp.length c0] 31) = w1 at k0 hB ⊢
  have hl0 := k0.lt
  go_wp2_with (first | (refine wpList_ldrow (by rfl) 31 _ (by rfl) g0 (by rfl) 31 #[.int .i64 p.node, .int .u64 p.theirs, .bool p.sure, .int .u64 p.old, .int .u64 p.s.g, .int .u64 p.s.n, .int .u64 p.s.r, .slice A0 p.s.sl.length a0, .int .u64 p.r.g, .int .u64 p.r.r, .int .u64 p.r.fl, .slice B0 p.r.tk.length b0, .slice C0 p.r.kp.length c0] (0, 0) _ k0 Try.underlying31 (by rfl) (by kernel_rfl) ?_))
  refine (LG'.out _ hB).mono ?_
  rintro e v1 ⟨rfl, hb⟩
  replace k0 := k0.below hb
  have hB2 := bnext hB hb
  clear hB hb hl0
  have hB := hB2
  clear hB2
  have hl0 := k0.lt
  go_wp2_with (first | (refine wpList_ldrow (by rfl) 31 _ (by rfl) g0 (by rfl) 31 #[.int .i64 p.node, .int .u64 p.theirs, .bool p.sure, .int .u64 p.old, .int .u64 p.s.g, .int .u64 p.s.n, .int .u64 p.s.r, .slice A0 p.s.sl.length a0, .int .u64 p.r.g, .int .u64 p.r.r, .int .u64 p.r.fl, .slice B0 p.r.tk.length b0, .slice C0 p.r.kp.length c0] (0, 0) _ k0 Try.underlying31 (by rfl) (by kernel_rfl) ?_))
  refine (OW'.out _ hB).mono ?_
  rintro e v2 ⟨V1, rfl, hV1, hb⟩
  replace k0 := k0.below hb
  have hB2 := bnext hB hb
  clear hB hb hl0
  have hB := hB2
  clear hB2
  obtain ⟨A1, a1, B1, b1, C1, c1, rfl⟩ := hV1.frm
  have RX : PrAt (v2.alloc (.cells #[.int .i64 p.node, .int .u64 p.theirs, .bool p.sure, .int .u64 p.old, .int .u64 p.s.g, .int .u64 p.s.n, .int .u64 p.s.r, .slice A1 p.s.sl.length a1, .int .u64 p.r.g, .int .u64 p.r.r, .int .u64 p.r.fl, .slice B1 p.r.tk.length b1, .slice C1 p.r.kp.length c1] 31)) (.agg #[.int .i64 p.node, .int .u64 p.theirs, .bool p.sure, .int .u64 p.old, .int .u64 p.s.g, .int .u64 p.s.n, .int .u64 p.s.r, .slice A1 p.s.sl.length a1, .int .u64 p.r.g, .int .u64 p.r.r, .int .u64 p.r.fl, .slice B1 p.r.tk.length b1, .slice C1 p.r.kp.length c1]) p := (hV1.at).below (bal (Below.refl _ _) _)
  replace k0 := k0.alloc (.cells #[.int .i64 p.node, .int .u64 p.theirs, .bool p.sure, .int .u64 p.old, .int .u64 p.s.g, .int .u64 p.s.n, .int .u64 p.s.r, .slice A1 p.s.sl.length a1, .int .u64 p.r.g, .int .u64 p.r.r, .int .u64 p.r.fl, .slice B1 p.r.tk.length b1, .slice C1 p.r.kp.length c1] 31)
  have hl0 := k0.lt
  go_upto_region 4 with (first | (refine wpList_alloc_z (by rfl) 31 (by rfl) _ rfl #[.int .i64 0, .int .u64 0, .bool false, .int .u64 0, .int .u64 0, .int .u64 0, .int .u64 0, .slice none 0 0, .int .u64 0, .int .u64 0, .int .u64 0, .slice none 0 0, .slice none 0 0] (fun w => by kernel_rfl) ?_) | (refine wpList_store_new (by rfl) 31 _ _ (by rfl) v2 #[.int .i64 0, .int .u64 0, .bool false, .int .u64 0, .int .u64 0, .int .u64 0, .int .u64 0, .slice none 0 0, .int .u64 0, .int .u64 0, .int .u64 0, .slice none 0 0, .slice none 0 0] #[.int .i64 p.node, .int .u64 p.theirs, .bool p.sure, .int .u64 p.old, .int .u64 p.s.g, .int .u64 p.s.n, .int .u64 p.s.r, .slice A1 p.s.sl.length a1, .int .u64 p.r.g, .int .u64 p.r.r, .int .u64 p.r.fl, .slice B1 p.r.tk.length b1, .slice C1 p.r.kp.length c1] rfl (by rfl) (by rfl) (by kernel_rfl) rfl (by kernel_rfl) ?_))
  clear hl0
  have k7 := Blk.new v2 31 #[.int .i64 p.node, .int .u64 p.theirs, .bool p.sure, .int .u64 p.old, .int .u64 p.s.g, .int .u64 p.s.n, .int .u64 p.s.r, .slice A1 p.s.sl.length a1, .int .u64 p.r.g, .int .u64 p.r.r, .int .u64 p.r.fl, .slice B1 p.r.tk.length b1, .slice C1 p.r.kp.length c1]
  replace hB := bal hB (.cells #[.int .i64 p.node, .int .u64 p.theirs, .bool p.sure, .int .u64 p.old, .int .u64 p.s.g, .int .u64 p.s.n, .int .u64 p.s.r, .slice A1 p.s.sl.length a1, .int .u64 p.r.g, .int .u64 p.r.r, .int .u64 p.r.fl, .slice B1 p.r.tk.length b1, .slice C1 p.r.kp.length c1] 31)
  obtain ⟨g7, hg⟩ : ∃ g7, v2.heap.size = g7 := ⟨_, rfl⟩
  rw [hg] at k7 ⊢
  clear hg
  generalize v2.alloc (.cells #[.int .i64 p.node, .int .u64 p.theirs, .bool p.sure, .int .u64 p.old, .int .u64 p.s.g, .int .u64 p.s.n, .int .u64 p.s.r, .slice A1 p.s.sl.length a1, .int .u64 p.r.g, .int .u64 p.r.r, .int .u64 p.r.fl, .slice B1 p.r.tk.length b1, .slice C1 p.r.kp.length c1] 31) = v3 at k0 k7 hB RX ⊢
  have hl0 := k0.lt
  have hl7 := k7.lt
  go_wp2_with (first | (refine wpList_ldrow (by rfl) 31 _ (by rfl) g0 (by rfl) 31 #[.int .i64 p.node, .int .u64 p.theirs, .bool p.sure, .int .u64 p.old, .int .u64 p.s.g, .int .u64 p.s.n, .int .u64 p.s.r, .slice A0 p.s.sl.length a0, .int .u64 p.r.g, .int .u64 p.r.r, .int .u64 p.r.fl, .slice B0 p.r.tk.length b0, .slice C0 p.r.kp.length c0] (0, 0) _ k0 Try.underlying31 (by rfl) (by kernel_rfl) ?_) | (refine wpList_ldrow (by rfl) 31 _ (by rfl) g7 (by rfl) 31 #[.int .i64 p.node, .int .u64 p.theirs, .bool p.sure, .int .u64 p.old, .int .u64 p.s.g, .int .u64 p.s.n, .int .u64 p.s.r, .slice A1 p.s.sl.length a1, .int .u64 p.r.g, .int .u64 p.r.r, .int .u64 p.r.fl, .slice B1 p.r.tk.length b1, .slice C1 p.r.kp.length c1] (0, 0) _ k7 Try.underlying31 (by rfl) (by kernel_rfl) ?_))
  refine (CA'.out _ _ RX).mono ?_
  rintro e v4 ⟨rfl, hb⟩
  replace k0 := k0.below hb
  replace k7 := k7.below hb
  replace RX := RX.below hb
  have hB2 := bnext hB hb
  clear hB hb hl0 hl7
  have hB := hB2
  clear hB2
  have hl0 := k0.lt
  have hl7 := k7.lt
  go_wp2_with (first | (refine wpList_ldrow (by rfl) 31 _ (by rfl) g0 (by rfl) 31 #[.int .i64 p.node, .int .u64 p.theirs, .bool p.sure, .int .u64 p.old, .int .u64 p.s.g, .int .u64 p.s.n, .int .u64 p.s.r, .slice A0 p.s.sl.length a0, .int .u64 p.r.g, .int .u64 p.r.r, .int .u64 p.r.fl, .slice B0 p.r.tk.length b0, .slice C0 p.r.kp.length c0] (0, 0) _ k0 Try.underlying31 (by rfl) (by kernel_rfl) ?_) | (refine wpList_ldrow (by rfl) 31 _ (by rfl) g7 (by rfl) 31 #[.int .i64 p.node, .int .u64 p.theirs, .bool p.sure, .int .u64 p.old, .int .u64 p.s.g, .int .u64 p.s.n, .int .u64 p.s.r, .slice A1 p.s.sl.length a1, .int .u64 p.r.g, .int .u64 p.r.r, .int .u64 p.r.fl, .slice B1 p.r.tk.length b1, .slice C1 p.r.kp.length c1] (0, 0) _ k7 Try.underlying31 (by rfl) (by kernel_rfl) ?_))
  refine (CB'.out _ _ (HV'.out.below hB)).mono ?_
  rintro e v5 ⟨rfl, hb⟩
  replace k0 := k0.below hb
  replace k7 := k7.below hb
  replace RX := RX.below hb
  have hB2 := bnext hB hb
  clear hB hb hl0 hl7
  have hB := hB2
  clear hB2
  have hl0 := k0.lt
  have hl7 := k7.lt
  go_wp2_with (first | (refine wpList_ldrow (by rfl) 31 _ (by rfl) g0 (by rfl) 31 #[.int .i64 p.node, .int .u64 p.theirs, .bool p.sure, .int .u64 p.old, .int .u64 p.s.g, .int .u64 p.s.n, .int .u64 p.s.r, .slice A0 p.s.sl.length a0, .int .u64 p.r.g, .int .u64 p.r.r, .int .u64 p.r.fl, .slice B0 p.r.tk.length b0, .slice C0 p.r.kp.length c0] (0, 0) _ k0 Try.underlying31 (by rfl) (by kernel_rfl) ?_) | (refine wpList_ldrow (by rfl) 31 _ (by rfl) g7 (by rfl) 31 #[.int .i64 p.node, .int .u64 p.theirs, .bool p.sure, .int .u64 p.old, .int .u64 p.s.g, .int .u64 p.s.n, .int .u64 p.s.r, .slice A1 p.s.sl.length a1, .int .u64 p.r.g, .int .u64 p.r.r, .int .u64 p.r.fl, .slice B1 p.r.tk.length b1, .slice C1 p.r.kp.length c1] (0, 0) _ k7 Try.underlying31 (by rfl) (by kernel_rfl) ?_))
  refine (CC'.out _ _ RX).mono ?_
  rintro e v6 ⟨V2, rfl, hV2, hb⟩
  replace k0 := k0.below hb
  replace k7 := k7.below hb
  replace RX := RX.below hb
  have hB2 := bnext hB hb
  clear hB hb hl0 hl7
  have hB := hB2
  clear hB2
  obtain ⟨A2, a2, B2, b2, C2, c2, rfl⟩ := hV2.frm
  have RA : PrAt (v6.alloc (.cells #[.int .i64 q.node, .int .u64 q.theirs, .bool q.sure, .int .u64 q.old, .int .u64 q.s.g, .int .u64 q.s.n, .int .u64 q.s.r, .slice A2 q.s.sl.length a2, .int .u64 q.r.g, .int .u64 q.r.r, .int .u64 q.r.fl, .slice B2 q.r.tk.length b2, .slice C2 q.r.kp.length c2] 31)) (.agg #[.int .i64 q.node, .int .u64 q.theirs, .bool q.sure, .int .u64 q.old, .int .u64 q.s.g, .int .u64 q.s.n, .int .u64 q.s.r, .slice A2 q.s.sl.length a2, .int .u64 q.r.g, .int .u64 q.r.r, .int .u64 q.r.fl, .slice B2 q.r.tk.length b2, .slice C2 q.r.kp.length c2]) q := (hV2.at).below (bal (Below.refl _ _) _)
  replace k0 := k0.alloc (.cells #[.int .i64 q.node, .int .u64 q.theirs, .bool q.sure, .int .u64 q.old, .int .u64 q.s.g, .int .u64 q.s.n, .int .u64 q.s.r, .slice A2 q.s.sl.length a2, .int .u64 q.r.g, .int .u64 q.r.r, .int .u64 q.r.fl, .slice B2 q.r.tk.length b2, .slice C2 q.r.kp.length c2] 31)
  replace k7 := k7.alloc (.cells #[.int .i64 q.node, .int .u64 q.theirs, .bool q.sure, .int .u64 q.old, .int .u64 q.s.g, .int .u64 q.s.n, .int .u64 q.s.r, .slice A2 q.s.sl.length a2, .int .u64 q.r.g, .int .u64 q.r.r, .int .u64 q.r.fl, .slice B2 q.r.tk.length b2, .slice C2 q.r.kp.length c2] 31)
  replace RX := RX.below (bal (Below.refl _ _) (.cells #[.int .i64 q.node, .int .u64 q.theirs, .bool q.sure, .int .u64 q.old, .int .u64 q.s.g, .int .u64 q.s.n, .int .u64 q.s.r, .slice A2 q.s.sl.length a2, .int .u64 q.r.g, .int .u64 q.r.r, .int .u64 q.r.fl, .slice B2 q.r.tk.length b2, .slice C2 q.r.kp.length c2] 31))
  have hl0 := k0.lt
  have hl7 := k7.lt
  go_upto_region 7 with (first | (refine wpList_alloc_z (by rfl) 31 (by rfl) _ rfl #[.int .i64 0, .int .u64 0, .bool false, .int .u64 0, .int .u64 0, .int .u64 0, .int .u64 0, .slice none 0 0, .int .u64 0, .int .u64 0, .int .u64 0, .slice none 0 0, .slice none 0 0] (fun w => by kernel_rfl) ?_) | (refine wpList_store_new (by rfl) 31 _ _ (by rfl) v6 #[.int .i64 0, .int .u64 0, .bool false, .int .u64 0, .int .u64 0, .int .u64 0, .int .u64 0, .slice none 0 0, .int .u64 0, .int .u64 0, .int .u64 0, .slice none 0 0, .slice none 0 0] #[.int .i64 q.node, .int .u64 q.theirs, .bool q.sure, .int .u64 q.old, .int .u64 q.s.g, .int .u64 q.s.n, .int .u64 q.s.r, .slice A2 q.s.sl.length a2, .int .u64 q.r.g, .int .u64 q.r.r, .int .u64 q.r.fl, .slice B2 q.r.tk.length b2, .slice C2 q.r.kp.length c2] rfl (by rfl) (by rfl) (by kernel_rfl) rfl (by kernel_rfl) ?_))
  clear hl0 hl7
  have k12 := Blk.new v6 31 #[.int .i64 q.node, .int .u64 q.theirs, .bool q.sure, .int .u64 q.old, .int .u64 q.s.g, .int .u64 q.s.n, .int .u64 q.s.r, .slice A2 q.s.sl.length a2, .int .u64 q.r.g, .int .u64 q.r.r, .int .u64 q.r.fl, .slice B2 q.r.tk.length b2, .slice C2 q.r.kp.length c2]
  replace hB := bal hB (.cells #[.int .i64 q.node, .int .u64 q.theirs, .bool q.sure, .int .u64 q.old, .int .u64 q.s.g, .int .u64 q.s.n, .int .u64 q.s.r, .slice A2 q.s.sl.length a2, .int .u64 q.r.g, .int .u64 q.r.r, .int .u64 q.r.fl, .slice B2 q.r.tk.length b2, .slice C2 q.r.kp.length c2] 31)
  obtain ⟨g12, hg⟩ : ∃ g12, v6.heap.size = g12 := ⟨_, rfl⟩
  rw [hg] at k12 ⊢
  clear hg
  generalize v6.alloc (.cells #[.int .i64 q.node, .int .u64 q.theirs, .bool q.sure, .int .u64 q.old, .int .u64 q.s.g, .int .u64 q.s.n, .int .u64 q.s.r, .slice A2 q.s.sl.length a2, .int .u64 q.r.g, .int .u64 q.r.r, .int .u64 q.r.fl, .slice B2 q.r.tk.length b2, .slice C2 q.r.kp.length c2] 31) = v7 at k0 k7 k12 hB RX RA ⊢
  have hl0 := k0.lt
  have hl7 := k7.lt
  have hl12 := k12.lt
  go_wp2_with (first | (refine wpList_ldrow (by rfl) 31 _ (by rfl) g0 (by rfl) 31 #[.int .i64 p.node, .int .u64 p.theirs, .bool p.sure, .int .u64 p.old, .int .u64 p.s.g, .int .u64 p.s.n, .int .u64 p.s.r, .slice A0 p.s.sl.length a0, .int .u64 p.r.g, .int .u64 p.r.r, .int .u64 p.r.fl, .slice B0 p.r.tk.length b0, .slice C0 p.r.kp.length c0] (0, 0) _ k0 Try.underlying31 (by rfl) (by kernel_rfl) ?_) | (refine wpList_ldrow (by rfl) 31 _ (by rfl) g7 (by rfl) 31 #[.int .i64 p.node, .int .u64 p.theirs, .bool p.sure, .int .u64 p.old, .int .u64 p.s.g, .int .u64 p.s.n, .int .u64 p.s.r, .slice A1 p.s.sl.length a1, .int .u64 p.r.g, .int .u64 p.r.r, .int .u64 p.r.fl, .slice B1 p.r.tk.length b1, .slice C1 p.r.kp.length c1] (0, 0) _ k7 Try.underlying31 (by rfl) (by kernel_rfl) ?_) | (refine wpList_ldrow (by rfl) 31 _ (by rfl) g12 (by rfl) 31 #[.int .i64 q.node, .int .u64 q.theirs, .bool q.sure, .int .u64 q.old, .int .u64 q.s.g, .int .u64 q.s.n, .int .u64 q.s.r, .slice A2 q.s.sl.length a2, .int .u64 q.r.g, .int .u64 q.r.r, .int .u64 q.r.fl, .slice B2 q.r.tk.length b2, .slice C2 q.r.kp.length c2] (0, 0) _ k12 Try.underlying31 (by rfl) (by kernel_rfl) ?_))
  refine (CD'.out _ _ (HV'.out.below hB)).mono ?_
  rintro e v8 ⟨V3, rfl, hV3, hb⟩
  replace k0 := k0.below hb
  replace k7 := k7.below hb
  replace k12 := k12.below hb
  replace RX := RX.below hb
  replace RA := RA.below hb
  have hB2 := bnext hB hb
  clear hB hb hl0 hl7 hl12
  have hB := hB2
  clear hB2
  obtain ⟨A3, a3, B3, b3, C3, c3, rfl⟩ := hV3.frm
  have RB : PrAt (v8.alloc (.cells #[.int .i64 q.node, .int .u64 q.theirs, .bool q.sure, .int .u64 q.old, .int .u64 q.s.g, .int .u64 q.s.n, .int .u64 q.s.r, .slice A3 q.s.sl.length a3, .int .u64 q.r.g, .int .u64 q.r.r, .int .u64 q.r.fl, .slice B3 q.r.tk.length b3, .slice C3 q.r.kp.length c3] 31)) (.agg #[.int .i64 q.node, .int .u64 q.theirs, .bool q.sure, .int .u64 q.old, .int .u64 q.s.g, .int .u64 q.s.n, .int .u64 q.s.r, .slice A3 q.s.sl.length a3, .int .u64 q.r.g, .int .u64 q.r.r, .int .u64 q.r.fl, .slice B3 q.r.tk.length b3, .slice C3 q.r.kp.length c3]) q := (hV3.at).below (bal (Below.refl _ _) _)
  replace k0 := k0.alloc (.cells #[.int .i64 q.node, .int .u64 q.theirs, .bool q.sure, .int .u64 q.old, .int .u64 q.s.g, .int .u64 q.s.n, .int .u64 q.s.r, .slice A3 q.s.sl.length a3, .int .u64 q.r.g, .int .u64 q.r.r, .int .u64 q.r.fl, .slice B3 q.r.tk.length b3, .slice C3 q.r.kp.length c3] 31)
  replace k7 := k7.alloc (.cells #[.int .i64 q.node, .int .u64 q.theirs, .bool q.sure, .int .u64 q.old, .int .u64 q.s.g, .int .u64 q.s.n, .int .u64 q.s.r, .slice A3 q.s.sl.length a3, .int .u64 q.r.g, .int .u64 q.r.r, .int .u64 q.r.fl, .slice B3 q.r.tk.length b3, .slice C3 q.r.kp.length c3] 31)
  replace k12 := k12.alloc (.cells #[.int .i64 q.node, .int .u64 q.theirs, .bool q.sure, .int .u64 q.old, .int .u64 q.s.g, .int .u64 q.s.n, .int .u64 q.s.r, .slice A3 q.s.sl.length a3, .int .u64 q.r.g, .int .u64 q.r.r, .int .u64 q.r.fl, .slice B3 q.r.tk.length b3, .slice C3 q.r.kp.length c3] 31)
  replace RX := RX.below (bal (Below.refl _ _) (.cells #[.int .i64 q.node, .int .u64 q.theirs, .bool q.sure, .int .u64 q.old, .int .u64 q.s.g, .int .u64 q.s.n, .int .u64 q.s.r, .slice A3 q.s.sl.length a3, .int .u64 q.r.g, .int .u64 q.r.r, .int .u64 q.r.fl, .slice B3 q.r.tk.length b3, .slice C3 q.r.kp.length c3] 31))
  replace RA := RA.below (bal (Below.refl _ _) (.cells #[.int .i64 q.node, .int .u64 q.theirs, .bool q.sure, .int .u64 q.old, .int .u64 q.s.g, .int .u64 q.s.n, .int .u64 q.s.r, .slice A3 q.s.sl.length a3, .int .u64 q.r.g, .int .u64 q.r.r, .int .u64 q.r.fl, .slice B3 q.r.tk.length b3, .slice C3 q.r.kp.length c3] 31))
  have hl0 := k0.lt
  have hl7 := k7.lt
  have hl12 := k12.lt
  go_upto_region 8 with (first | (refine wpList_alloc_z (by rfl) 31 (by rfl) _ rfl #[.int .i64 0, .int .u64 0, .bool false, .int .u64 0, .int .u64 0, .int .u64 0, .int .u64 0, .slice none 0 0, .int .u64 0, .int .u64 0, .int .u64 0, .slice none 0 0, .slice none 0 0] (fun w => by kernel_rfl) ?_) | (refine wpList_store_new (by rfl) 31 _ _ (by rfl) v8 #[.int .i64 0, .int .u64 0, .bool false, .int .u64 0, .int .u64 0, .int .u64 0, .int .u64 0, .slice none 0 0, .int .u64 0, .int .u64 0, .int .u64 0, .slice none 0 0, .slice none 0 0] #[.int .i64 q.node, .int .u64 q.theirs, .bool q.sure, .int .u64 q.old, .int .u64 q.s.g, .int .u64 q.s.n, .int .u64 q.s.r, .slice A3 q.s.sl.length a3, .int .u64 q.r.g, .int .u64 q.r.r, .int .u64 q.r.fl, .slice B3 q.r.tk.length b3, .slice C3 q.r.kp.length c3] rfl (by rfl) (by rfl) (by kernel_rfl) rfl (by kernel_rfl) ?_))
  clear hl0 hl7 hl12
  have k14 := Blk.new v8 31 #[.int .i64 q.node, .int .u64 q.theirs, .bool q.sure, .int .u64 q.old, .int .u64 q.s.g, .int .u64 q.s.n, .int .u64 q.s.r, .slice A3 q.s.sl.length a3, .int .u64 q.r.g, .int .u64 q.r.r, .int .u64 q.r.fl, .slice B3 q.r.tk.length b3, .slice C3 q.r.kp.length c3]
  replace hB := bal hB (.cells #[.int .i64 q.node, .int .u64 q.theirs, .bool q.sure, .int .u64 q.old, .int .u64 q.s.g, .int .u64 q.s.n, .int .u64 q.s.r, .slice A3 q.s.sl.length a3, .int .u64 q.r.g, .int .u64 q.r.r, .int .u64 q.r.fl, .slice B3 q.r.tk.length b3, .slice C3 q.r.kp.length c3] 31)
  obtain ⟨g14, hg⟩ : ∃ g14, v8.heap.size = g14 := ⟨_, rfl⟩
  rw [hg] at k14 ⊢
  clear hg
  generalize v8.alloc (.cells #[.int .i64 q.node, .int .u64 q.theirs, .bool q.sure, .int .u64 q.old, .int .u64 q.s.g, .int .u64 q.s.n, .int .u64 q.s.r, .slice A3 q.s.sl.length a3, .int .u64 q.r.g, .int .u64 q.r.r, .int .u64 q.r.fl, .slice B3 q.r.tk.length b3, .slice C3 q.r.kp.length c3] 31) = v9 at k0 k7 k12 k14 hB RX RA RB ⊢
  have hl0 := k0.lt
  have hl7 := k7.lt
  have hl12 := k12.lt
  have hl14 := k14.lt
  go_wp2_with (first | (refine wpList_ldrow (by rfl) 31 _ (by rfl) g0 (by rfl) 31 #[.int .i64 p.node, .int .u64 p.theirs, .bool p.sure, .int .u64 p.old, .int .u64 p.s.g, .int .u64 p.s.n, .int .u64 p.s.r, .slice A0 p.s.sl.length a0, .int .u64 p.r.g, .int .u64 p.r.r, .int .u64 p.r.fl, .slice B0 p.r.tk.length b0, .slice C0 p.r.kp.length c0] (0, 0) _ k0 Try.underlying31 (by rfl) (by kernel_rfl) ?_) | (refine wpList_ldrow (by rfl) 31 _ (by rfl) g7 (by rfl) 31 #[.int .i64 p.node, .int .u64 p.theirs, .bool p.sure, .int .u64 p.old, .int .u64 p.s.g, .int .u64 p.s.n, .int .u64 p.s.r, .slice A1 p.s.sl.length a1, .int .u64 p.r.g, .int .u64 p.r.r, .int .u64 p.r.fl, .slice B1 p.r.tk.length b1, .slice C1 p.r.kp.length c1] (0, 0) _ k7 Try.underlying31 (by rfl) (by kernel_rfl) ?_) | (refine wpList_ldrow (by rfl) 31 _ (by rfl) g12 (by rfl) 31 #[.int .i64 q.node, .int .u64 q.theirs, .bool q.sure, .int .u64 q.old, .int .u64 q.s.g, .int .u64 q.s.n, .int .u64 q.s.r, .slice A2 q.s.sl.length a2, .int .u64 q.r.g, .int .u64 q.r.r, .int .u64 q.r.fl, .slice B2 q.r.tk.length b2, .slice C2 q.r.kp.length c2] (0, 0) _ k12 Try.underlying31 (by rfl) (by kernel_rfl) ?_) | (refine wpList_ldrow (by rfl) 31 _ (by rfl) g14 (by rfl) 31 #[.int .i64 q.node, .int .u64 q.theirs, .bool q.sure, .int .u64 q.old, .int .u64 q.s.g, .int .u64 q.s.n, .int .u64 q.s.r, .slice A3 q.s.sl.length a3, .int .u64 q.r.g, .int .u64 q.r.r, .int .u64 q.r.fl, .slice B3 q.r.tk.length b3, .slice C3 q.r.kp.length c3] (0, 0) _ k14 Try.underlying31 (by rfl) (by kernel_rfl) ?_))
  refine (SamePeer_same q _ _ _ RA RB).mono ?_
  rintro e v10 ⟨rfl, hb⟩
  replace k0 := k0.below hb
  replace k7 := k7.below hb
  replace k12 := k12.below hb
  replace k14 := k14.below hb
  replace RX := RX.below hb
  replace RA := RA.below hb
  replace RB := RB.below hb
  have hB2 := bnext hB hb
  clear hB hb hl0 hl7 hl12 hl14
  have hB := hB2
  clear hB2
  have hl0 := k0.lt
  have hl7 := k7.lt
  have hl12 := k12.lt
  have hl14 := k14.lt
  go_wp2_with (first | (refine wpList_ldrow (by rfl) 31 _ (by rfl) g0 (by rfl) 31 #[.int .i64 p.node, .int .u64 p.theirs, .bool p.sure, .int .u64 p.old, .int .u64 p.s.g, .int .u64 p.s.n, .int .u64 p.s.r, .slice A0 p.s.sl.length a0, .int .u64 p.r.g, .int .u64 p.r.r, .int .u64 p.r.fl, .slice B0 p.r.tk.length b0, .slice C0 p.r.kp.length c0] (0, 0) _ k0 Try.underlying31 (by rfl) (by kernel_rfl) ?_) | (refine wpList_ldrow (by rfl) 31 _ (by rfl) g7 (by rfl) 31 #[.int .i64 p.node, .int .u64 p.theirs, .bool p.sure, .int .u64 p.old, .int .u64 p.s.g, .int .u64 p.s.n, .int .u64 p.s.r, .slice A1 p.s.sl.length a1, .int .u64 p.r.g, .int .u64 p.r.r, .int .u64 p.r.fl, .slice B1 p.r.tk.length b1, .slice C1 p.r.kp.length c1] (0, 0) _ k7 Try.underlying31 (by rfl) (by kernel_rfl) ?_) | (refine wpList_ldrow (by rfl) 31 _ (by rfl) g12 (by rfl) 31 #[.int .i64 q.node, .int .u64 q.theirs, .bool q.sure, .int .u64 q.old, .int .u64 q.s.g, .int .u64 q.s.n, .int .u64 q.s.r, .slice A2 q.s.sl.length a2, .int .u64 q.r.g, .int .u64 q.r.r, .int .u64 q.r.fl, .slice B2 q.r.tk.length b2, .slice C2 q.r.kp.length c2] (0, 0) _ k12 Try.underlying31 (by rfl) (by kernel_rfl) ?_) | (refine wpList_ldrow (by rfl) 31 _ (by rfl) g14 (by rfl) 31 #[.int .i64 q.node, .int .u64 q.theirs, .bool q.sure, .int .u64 q.old, .int .u64 q.s.g, .int .u64 q.s.n, .int .u64 q.s.r, .slice A3 q.s.sl.length a3, .int .u64 q.r.g, .int .u64 q.r.r, .int .u64 q.r.fl, .slice B3 q.r.tk.length b3, .slice C3 q.r.kp.length c3] (0, 0) _ k14 Try.underlying31 (by rfl) (by kernel_rfl) ?_))
  refine (CE'.out _ _ RX).mono ?_
  rintro e v11 ⟨rfl, hb⟩
  replace k0 := k0.below hb
  replace k7 := k7.below hb
  replace k12 := k12.below hb
  replace k14 := k14.below hb
  replace RX := RX.below hb
  replace RA := RA.below hb
  replace RB := RB.below hb
  have hB2 := bnext hB hb
  clear hB hb hl0 hl7 hl12 hl14
  have hB := hB2
  clear hB2
  replace k0 := k0.alloc (.cells #[.int .i64 f1.kind, .int .i64 f1.frm, .int .i64 f1.to, .int .u64 f1.mine, .int .u64 f1.yours, .int .u64 f1.a, .int .u64 f1.b, .int .i64 f1.inode, .int .u64 f1.iseq, .int .i64 f1.ioff, .int .i64 f1.bn.node, .int .u64 f1.bn.seq, .int .i64 f1.bn.off, .int .i64 f1.bn.dest, .int .i64 f1.bn.prio, .int .i64 f1.bn.born, .int .i64 f1.bn.life, .int .i64 f1.bn.total, .string f1.bn.data] 51)
  replace k7 := k7.alloc (.cells #[.int .i64 f1.kind, .int .i64 f1.frm, .int .i64 f1.to, .int .u64 f1.mine, .int .u64 f1.yours, .int .u64 f1.a, .int .u64 f1.b, .int .i64 f1.inode, .int .u64 f1.iseq, .int .i64 f1.ioff, .int .i64 f1.bn.node, .int .u64 f1.bn.seq, .int .i64 f1.bn.off, .int .i64 f1.bn.dest, .int .i64 f1.bn.prio, .int .i64 f1.bn.born, .int .i64 f1.bn.life, .int .i64 f1.bn.total, .string f1.bn.data] 51)
  replace k12 := k12.alloc (.cells #[.int .i64 f1.kind, .int .i64 f1.frm, .int .i64 f1.to, .int .u64 f1.mine, .int .u64 f1.yours, .int .u64 f1.a, .int .u64 f1.b, .int .i64 f1.inode, .int .u64 f1.iseq, .int .i64 f1.ioff, .int .i64 f1.bn.node, .int .u64 f1.bn.seq, .int .i64 f1.bn.off, .int .i64 f1.bn.dest, .int .i64 f1.bn.prio, .int .i64 f1.bn.born, .int .i64 f1.bn.life, .int .i64 f1.bn.total, .string f1.bn.data] 51)
  replace k14 := k14.alloc (.cells #[.int .i64 f1.kind, .int .i64 f1.frm, .int .i64 f1.to, .int .u64 f1.mine, .int .u64 f1.yours, .int .u64 f1.a, .int .u64 f1.b, .int .i64 f1.inode, .int .u64 f1.iseq, .int .i64 f1.ioff, .int .i64 f1.bn.node, .int .u64 f1.bn.seq, .int .i64 f1.bn.off, .int .i64 f1.bn.dest, .int .i64 f1.bn.prio, .int .i64 f1.bn.born, .int .i64 f1.bn.life, .int .i64 f1.bn.total, .string f1.bn.data] 51)
  replace RX := RX.below (bal (Below.refl _ _) (.cells #[.int .i64 f1.kind, .int .i64 f1.frm, .int .i64 f1.to, .int .u64 f1.mine, .int .u64 f1.yours, .int .u64 f1.a, .int .u64 f1.b, .int .i64 f1.inode, .int .u64 f1.iseq, .int .i64 f1.ioff, .int .i64 f1.bn.node, .int .u64 f1.bn.seq, .int .i64 f1.bn.off, .int .i64 f1.bn.dest, .int .i64 f1.bn.prio, .int .i64 f1.bn.born, .int .i64 f1.bn.life, .int .i64 f1.bn.total, .string f1.bn.data] 51))
  replace RA := RA.below (bal (Below.refl _ _) (.cells #[.int .i64 f1.kind, .int .i64 f1.frm, .int .i64 f1.to, .int .u64 f1.mine, .int .u64 f1.yours, .int .u64 f1.a, .int .u64 f1.b, .int .i64 f1.inode, .int .u64 f1.iseq, .int .i64 f1.ioff, .int .i64 f1.bn.node, .int .u64 f1.bn.seq, .int .i64 f1.bn.off, .int .i64 f1.bn.dest, .int .i64 f1.bn.prio, .int .i64 f1.bn.born, .int .i64 f1.bn.life, .int .i64 f1.bn.total, .string f1.bn.data] 51))
  replace RB := RB.below (bal (Below.refl _ _) (.cells #[.int .i64 f1.kind, .int .i64 f1.frm, .int .i64 f1.to, .int .u64 f1.mine, .int .u64 f1.yours, .int .u64 f1.a, .int .u64 f1.b, .int .i64 f1.inode, .int .u64 f1.iseq, .int .i64 f1.ioff, .int .i64 f1.bn.node, .int .u64 f1.bn.seq, .int .i64 f1.bn.off, .int .i64 f1.bn.dest, .int .i64 f1.bn.prio, .int .i64 f1.bn.born, .int .i64 f1.bn.life, .int .i64 f1.bn.total, .string f1.bn.data] 51))
  have hl0 := k0.lt
  have hl7 := k7.lt
  have hl12 := k12.lt
  have hl14 := k14.lt
  go_upto_region 11 with (first | (refine wpList_alloc_z (by rfl) 51 (by rfl) _ rfl #[.int .i64 0, .int .i64 0, .int .i64 0, .int .u64 0, .int .u64 0, .int .u64 0, .int .u64 0, .int .i64 0, .int .u64 0, .int .i64 0, .int .i64 0, .int .u64 0, .int .i64 0, .int .i64 0, .int .i64 0, .int .i64 0, .int .i64 0, .int .i64 0, .string ⟨#[]⟩] zeroFr ?_) | (refine wpList_store_new (by rfl) 51 _ _ (by rfl) v11 #[.int .i64 0, .int .i64 0, .int .i64 0, .int .u64 0, .int .u64 0, .int .u64 0, .int .u64 0, .int .i64 0, .int .u64 0, .int .i64 0, .int .i64 0, .int .u64 0, .int .i64 0, .int .i64 0, .int .i64 0, .int .i64 0, .int .i64 0, .int .i64 0, .string ⟨#[]⟩] #[.int .i64 f1.kind, .int .i64 f1.frm, .int .i64 f1.to, .int .u64 f1.mine, .int .u64 f1.yours, .int .u64 f1.a, .int .u64 f1.b, .int .i64 f1.inode, .int .u64 f1.iseq, .int .i64 f1.ioff, .int .i64 f1.bn.node, .int .u64 f1.bn.seq, .int .i64 f1.bn.off, .int .i64 f1.bn.dest, .int .i64 f1.bn.prio, .int .i64 f1.bn.born, .int .i64 f1.bn.life, .int .i64 f1.bn.total, .string f1.bn.data] rfl (by rfl) (by rfl) (by kernel_rfl) rfl (one19 ..) ?_))
  clear hl0 hl7 hl12 hl14
  have k16 := Blk.new v11 51 #[.int .i64 f1.kind, .int .i64 f1.frm, .int .i64 f1.to, .int .u64 f1.mine, .int .u64 f1.yours, .int .u64 f1.a, .int .u64 f1.b, .int .i64 f1.inode, .int .u64 f1.iseq, .int .i64 f1.ioff, .int .i64 f1.bn.node, .int .u64 f1.bn.seq, .int .i64 f1.bn.off, .int .i64 f1.bn.dest, .int .i64 f1.bn.prio, .int .i64 f1.bn.born, .int .i64 f1.bn.life, .int .i64 f1.bn.total, .string f1.bn.data]
  replace hB := bal hB (.cells #[.int .i64 f1.kind, .int .i64 f1.frm, .int .i64 f1.to, .int .u64 f1.mine, .int .u64 f1.yours, .int .u64 f1.a, .int .u64 f1.b, .int .i64 f1.inode, .int .u64 f1.iseq, .int .i64 f1.ioff, .int .i64 f1.bn.node, .int .u64 f1.bn.seq, .int .i64 f1.bn.off, .int .i64 f1.bn.dest, .int .i64 f1.bn.prio, .int .i64 f1.bn.born, .int .i64 f1.bn.life, .int .i64 f1.bn.total, .string f1.bn.data] 51)
  obtain ⟨g16, hg⟩ : ∃ g16, v11.heap.size = g16 := ⟨_, rfl⟩
  rw [hg] at k16 ⊢
  clear hg
  generalize v11.alloc (.cells #[.int .i64 f1.kind, .int .i64 f1.frm, .int .i64 f1.to, .int .u64 f1.mine, .int .u64 f1.yours, .int .u64 f1.a, .int .u64 f1.b, .int .i64 f1.inode, .int .u64 f1.iseq, .int .i64 f1.ioff, .int .i64 f1.bn.node, .int .u64 f1.bn.seq, .int .i64 f1.bn.off, .int .i64 f1.bn.dest, .int .i64 f1.bn.prio, .int .i64 f1.bn.born, .int .i64 f1.bn.life, .int .i64 f1.bn.total, .string f1.bn.data] 51) = v12 at k0 k7 k12 k14 k16 hB RX RA RB ⊢
  have hl0 := k0.lt
  have hl7 := k7.lt
  have hl12 := k12.lt
  have hl14 := k14.lt
  have hl16 := k16.lt
  go_wp2_with (first | (refine wpList_ldrow (by rfl) 31 _ (by rfl) g0 (by rfl) 31 #[.int .i64 p.node, .int .u64 p.theirs, .bool p.sure, .int .u64 p.old, .int .u64 p.s.g, .int .u64 p.s.n, .int .u64 p.s.r, .slice A0 p.s.sl.length a0, .int .u64 p.r.g, .int .u64 p.r.r, .int .u64 p.r.fl, .slice B0 p.r.tk.length b0, .slice C0 p.r.kp.length c0] (0, 0) _ k0 Try.underlying31 (by rfl) (by kernel_rfl) ?_) | (refine wpList_ldrow (by rfl) 31 _ (by rfl) g7 (by rfl) 31 #[.int .i64 p.node, .int .u64 p.theirs, .bool p.sure, .int .u64 p.old, .int .u64 p.s.g, .int .u64 p.s.n, .int .u64 p.s.r, .slice A1 p.s.sl.length a1, .int .u64 p.r.g, .int .u64 p.r.r, .int .u64 p.r.fl, .slice B1 p.r.tk.length b1, .slice C1 p.r.kp.length c1] (0, 0) _ k7 Try.underlying31 (by rfl) (by kernel_rfl) ?_) | (refine wpList_ldrow (by rfl) 31 _ (by rfl) g12 (by rfl) 31 #[.int .i64 q.node, .int .u64 q.theirs, .bool q.sure, .int .u64 q.old, .int .u64 q.s.g, .int .u64 q.s.n, .int .u64 q.s.r, .slice A2 q.s.sl.length a2, .int .u64 q.r.g, .int .u64 q.r.r, .int .u64 q.r.fl, .slice B2 q.r.tk.length b2, .slice C2 q.r.kp.length c2] (0, 0) _ k12 Try.underlying31 (by rfl) (by kernel_rfl) ?_) | (refine wpList_ldrow (by rfl) 31 _ (by rfl) g14 (by rfl) 31 #[.int .i64 q.node, .int .u64 q.theirs, .bool q.sure, .int .u64 q.old, .int .u64 q.s.g, .int .u64 q.s.n, .int .u64 q.s.r, .slice A3 q.s.sl.length a3, .int .u64 q.r.g, .int .u64 q.r.r, .int .u64 q.r.fl, .slice B3 q.r.tk.length b3, .slice C3 q.r.kp.length c3] (0, 0) _ k14 Try.underlying31 (by rfl) (by kernel_rfl) ?_) | (refine wpList_ldrow (by rfl) 51 _ (by rfl) g16 (by rfl) 51 #[.int .i64 f1.kind, .int .i64 f1.frm, .int .i64 f1.to, .int .u64 f1.mine, .int .u64 f1.yours, .int .u64 f1.a, .int .u64 f1.b, .int .i64 f1.inode, .int .u64 f1.iseq, .int .i64 f1.ioff, .int .i64 f1.bn.node, .int .u64 f1.bn.seq, .int .i64 f1.bn.off, .int .i64 f1.bn.dest, .int .i64 f1.bn.prio, .int .i64 f1.bn.born, .int .i64 f1.bn.life, .int .i64 f1.bn.total, .string f1.bn.data] (0, 0) _ k16 Try.underlying51 (by rfl) (by kernel_rfl) ?_))
  refine (CF'.out _ _ (HV'.out.below hB)).mono ?_
  rintro e v13 ⟨rfl, hb⟩
  replace k0 := k0.below hb
  replace k7 := k7.below hb
  replace k12 := k12.below hb
  replace k14 := k14.below hb
  replace k16 := k16.below hb
  replace RX := RX.below hb
  replace RA := RA.below hb
  replace RB := RB.below hb
  have hB2 := bnext hB hb
  clear hB hb hl0 hl7 hl12 hl14 hl16
  have hB := hB2
  clear hB2
  replace k0 := k0.alloc (.cells #[.int .i64 f1.kind, .int .i64 f1.frm, .int .i64 f1.to, .int .u64 f1.mine, .int .u64 f1.yours, .int .u64 f1.a, .int .u64 f1.b, .int .i64 f1.inode, .int .u64 f1.iseq, .int .i64 f1.ioff, .int .i64 f1.bn.node, .int .u64 f1.bn.seq, .int .i64 f1.bn.off, .int .i64 f1.bn.dest, .int .i64 f1.bn.prio, .int .i64 f1.bn.born, .int .i64 f1.bn.life, .int .i64 f1.bn.total, .string f1.bn.data] 51)
  replace k7 := k7.alloc (.cells #[.int .i64 f1.kind, .int .i64 f1.frm, .int .i64 f1.to, .int .u64 f1.mine, .int .u64 f1.yours, .int .u64 f1.a, .int .u64 f1.b, .int .i64 f1.inode, .int .u64 f1.iseq, .int .i64 f1.ioff, .int .i64 f1.bn.node, .int .u64 f1.bn.seq, .int .i64 f1.bn.off, .int .i64 f1.bn.dest, .int .i64 f1.bn.prio, .int .i64 f1.bn.born, .int .i64 f1.bn.life, .int .i64 f1.bn.total, .string f1.bn.data] 51)
  replace k12 := k12.alloc (.cells #[.int .i64 f1.kind, .int .i64 f1.frm, .int .i64 f1.to, .int .u64 f1.mine, .int .u64 f1.yours, .int .u64 f1.a, .int .u64 f1.b, .int .i64 f1.inode, .int .u64 f1.iseq, .int .i64 f1.ioff, .int .i64 f1.bn.node, .int .u64 f1.bn.seq, .int .i64 f1.bn.off, .int .i64 f1.bn.dest, .int .i64 f1.bn.prio, .int .i64 f1.bn.born, .int .i64 f1.bn.life, .int .i64 f1.bn.total, .string f1.bn.data] 51)
  replace k14 := k14.alloc (.cells #[.int .i64 f1.kind, .int .i64 f1.frm, .int .i64 f1.to, .int .u64 f1.mine, .int .u64 f1.yours, .int .u64 f1.a, .int .u64 f1.b, .int .i64 f1.inode, .int .u64 f1.iseq, .int .i64 f1.ioff, .int .i64 f1.bn.node, .int .u64 f1.bn.seq, .int .i64 f1.bn.off, .int .i64 f1.bn.dest, .int .i64 f1.bn.prio, .int .i64 f1.bn.born, .int .i64 f1.bn.life, .int .i64 f1.bn.total, .string f1.bn.data] 51)
  replace k16 := k16.alloc (.cells #[.int .i64 f1.kind, .int .i64 f1.frm, .int .i64 f1.to, .int .u64 f1.mine, .int .u64 f1.yours, .int .u64 f1.a, .int .u64 f1.b, .int .i64 f1.inode, .int .u64 f1.iseq, .int .i64 f1.ioff, .int .i64 f1.bn.node, .int .u64 f1.bn.seq, .int .i64 f1.bn.off, .int .i64 f1.bn.dest, .int .i64 f1.bn.prio, .int .i64 f1.bn.born, .int .i64 f1.bn.life, .int .i64 f1.bn.total, .string f1.bn.data] 51)
  replace RX := RX.below (bal (Below.refl _ _) (.cells #[.int .i64 f1.kind, .int .i64 f1.frm, .int .i64 f1.to, .int .u64 f1.mine, .int .u64 f1.yours, .int .u64 f1.a, .int .u64 f1.b, .int .i64 f1.inode, .int .u64 f1.iseq, .int .i64 f1.ioff, .int .i64 f1.bn.node, .int .u64 f1.bn.seq, .int .i64 f1.bn.off, .int .i64 f1.bn.dest, .int .i64 f1.bn.prio, .int .i64 f1.bn.born, .int .i64 f1.bn.life, .int .i64 f1.bn.total, .string f1.bn.data] 51))
  replace RA := RA.below (bal (Below.refl _ _) (.cells #[.int .i64 f1.kind, .int .i64 f1.frm, .int .i64 f1.to, .int .u64 f1.mine, .int .u64 f1.yours, .int .u64 f1.a, .int .u64 f1.b, .int .i64 f1.inode, .int .u64 f1.iseq, .int .i64 f1.ioff, .int .i64 f1.bn.node, .int .u64 f1.bn.seq, .int .i64 f1.bn.off, .int .i64 f1.bn.dest, .int .i64 f1.bn.prio, .int .i64 f1.bn.born, .int .i64 f1.bn.life, .int .i64 f1.bn.total, .string f1.bn.data] 51))
  replace RB := RB.below (bal (Below.refl _ _) (.cells #[.int .i64 f1.kind, .int .i64 f1.frm, .int .i64 f1.to, .int .u64 f1.mine, .int .u64 f1.yours, .int .u64 f1.a, .int .u64 f1.b, .int .i64 f1.inode, .int .u64 f1.iseq, .int .i64 f1.ioff, .int .i64 f1.bn.node, .int .u64 f1.bn.seq, .int .i64 f1.bn.off, .int .i64 f1.bn.dest, .int .i64 f1.bn.prio, .int .i64 f1.bn.born, .int .i64 f1.bn.life, .int .i64 f1.bn.total, .string f1.bn.data] 51))
  have hl0 := k0.lt
  have hl7 := k7.lt
  have hl12 := k12.lt
  have hl14 := k14.lt
  have hl16 := k16.lt
  go_upto_region 12 with (first | (refine wpList_alloc_z (by rfl) 51 (by rfl) _ rfl #[.int .i64 0, .int .i64 0, .int .i64 0, .int .u64 0, .int .u64 0, .int .u64 0, .int .u64 0, .int .i64 0, .int .u64 0, .int .i64 0, .int .i64 0, .int .u64 0, .int .i64 0, .int .i64 0, .int .i64 0, .int .i64 0, .int .i64 0, .int .i64 0, .string ⟨#[]⟩] zeroFr ?_) | (refine wpList_store_new (by rfl) 51 _ _ (by rfl) v13 #[.int .i64 0, .int .i64 0, .int .i64 0, .int .u64 0, .int .u64 0, .int .u64 0, .int .u64 0, .int .i64 0, .int .u64 0, .int .i64 0, .int .i64 0, .int .u64 0, .int .i64 0, .int .i64 0, .int .i64 0, .int .i64 0, .int .i64 0, .int .i64 0, .string ⟨#[]⟩] #[.int .i64 f1.kind, .int .i64 f1.frm, .int .i64 f1.to, .int .u64 f1.mine, .int .u64 f1.yours, .int .u64 f1.a, .int .u64 f1.b, .int .i64 f1.inode, .int .u64 f1.iseq, .int .i64 f1.ioff, .int .i64 f1.bn.node, .int .u64 f1.bn.seq, .int .i64 f1.bn.off, .int .i64 f1.bn.dest, .int .i64 f1.bn.prio, .int .i64 f1.bn.born, .int .i64 f1.bn.life, .int .i64 f1.bn.total, .string f1.bn.data] rfl (by rfl) (by rfl) (by kernel_rfl) rfl (one19 ..) ?_))
  clear hl0 hl7 hl12 hl14 hl16
  have k17 := Blk.new v13 51 #[.int .i64 f1.kind, .int .i64 f1.frm, .int .i64 f1.to, .int .u64 f1.mine, .int .u64 f1.yours, .int .u64 f1.a, .int .u64 f1.b, .int .i64 f1.inode, .int .u64 f1.iseq, .int .i64 f1.ioff, .int .i64 f1.bn.node, .int .u64 f1.bn.seq, .int .i64 f1.bn.off, .int .i64 f1.bn.dest, .int .i64 f1.bn.prio, .int .i64 f1.bn.born, .int .i64 f1.bn.life, .int .i64 f1.bn.total, .string f1.bn.data]
  replace hB := bal hB (.cells #[.int .i64 f1.kind, .int .i64 f1.frm, .int .i64 f1.to, .int .u64 f1.mine, .int .u64 f1.yours, .int .u64 f1.a, .int .u64 f1.b, .int .i64 f1.inode, .int .u64 f1.iseq, .int .i64 f1.ioff, .int .i64 f1.bn.node, .int .u64 f1.bn.seq, .int .i64 f1.bn.off, .int .i64 f1.bn.dest, .int .i64 f1.bn.prio, .int .i64 f1.bn.born, .int .i64 f1.bn.life, .int .i64 f1.bn.total, .string f1.bn.data] 51)
  obtain ⟨g17, hg⟩ : ∃ g17, v13.heap.size = g17 := ⟨_, rfl⟩
  rw [hg] at k17 ⊢
  clear hg
  generalize v13.alloc (.cells #[.int .i64 f1.kind, .int .i64 f1.frm, .int .i64 f1.to, .int .u64 f1.mine, .int .u64 f1.yours, .int .u64 f1.a, .int .u64 f1.b, .int .i64 f1.inode, .int .u64 f1.iseq, .int .i64 f1.ioff, .int .i64 f1.bn.node, .int .u64 f1.bn.seq, .int .i64 f1.bn.off, .int .i64 f1.bn.dest, .int .i64 f1.bn.prio, .int .i64 f1.bn.born, .int .i64 f1.bn.life, .int .i64 f1.bn.total, .string f1.bn.data] 51) = v14 at k0 k7 k12 k14 k16 k17 hB RX RA RB ⊢
  have hl0 := k0.lt
  have hl7 := k7.lt
  have hl12 := k12.lt
  have hl14 := k14.lt
  have hl16 := k16.lt
  have hl17 := k17.lt
  go_wp2_with (first | (refine wpList_ldrow (by rfl) 31 _ (by rfl) g0 (by rfl) 31 #[.int .i64 p.node, .int .u64 p.theirs, .bool p.sure, .int .u64 p.old, .int .u64 p.s.g, .int .u64 p.s.n, .int .u64 p.s.r, .slice A0 p.s.sl.length a0, .int .u64 p.r.g, .int .u64 p.r.r, .int .u64 p.r.fl, .slice B0 p.r.tk.length b0, .slice C0 p.r.kp.length c0] (0, 0) _ k0 Try.underlying31 (by rfl) (by kernel_rfl) ?_) | (refine wpList_ldrow (by rfl) 31 _ (by rfl) g7 (by rfl) 31 #[.int .i64 p.node, .int .u64 p.theirs, .bool p.sure, .int .u64 p.old, .int .u64 p.s.g, .int .u64 p.s.n, .int .u64 p.s.r, .slice A1 p.s.sl.length a1, .int .u64 p.r.g, .int .u64 p.r.r, .int .u64 p.r.fl, .slice B1 p.r.tk.length b1, .slice C1 p.r.kp.length c1] (0, 0) _ k7 Try.underlying31 (by rfl) (by kernel_rfl) ?_) | (refine wpList_ldrow (by rfl) 31 _ (by rfl) g12 (by rfl) 31 #[.int .i64 q.node, .int .u64 q.theirs, .bool q.sure, .int .u64 q.old, .int .u64 q.s.g, .int .u64 q.s.n, .int .u64 q.s.r, .slice A2 q.s.sl.length a2, .int .u64 q.r.g, .int .u64 q.r.r, .int .u64 q.r.fl, .slice B2 q.r.tk.length b2, .slice C2 q.r.kp.length c2] (0, 0) _ k12 Try.underlying31 (by rfl) (by kernel_rfl) ?_) | (refine wpList_ldrow (by rfl) 31 _ (by rfl) g14 (by rfl) 31 #[.int .i64 q.node, .int .u64 q.theirs, .bool q.sure, .int .u64 q.old, .int .u64 q.s.g, .int .u64 q.s.n, .int .u64 q.s.r, .slice A3 q.s.sl.length a3, .int .u64 q.r.g, .int .u64 q.r.r, .int .u64 q.r.fl, .slice B3 q.r.tk.length b3, .slice C3 q.r.kp.length c3] (0, 0) _ k14 Try.underlying31 (by rfl) (by kernel_rfl) ?_) | (refine wpList_ldrow (by rfl) 51 _ (by rfl) g16 (by rfl) 51 #[.int .i64 f1.kind, .int .i64 f1.frm, .int .i64 f1.to, .int .u64 f1.mine, .int .u64 f1.yours, .int .u64 f1.a, .int .u64 f1.b, .int .i64 f1.inode, .int .u64 f1.iseq, .int .i64 f1.ioff, .int .i64 f1.bn.node, .int .u64 f1.bn.seq, .int .i64 f1.bn.off, .int .i64 f1.bn.dest, .int .i64 f1.bn.prio, .int .i64 f1.bn.born, .int .i64 f1.bn.life, .int .i64 f1.bn.total, .string f1.bn.data] (0, 0) _ k16 Try.underlying51 (by rfl) (by kernel_rfl) ?_) | (refine wpList_ldrow (by rfl) 51 _ (by rfl) g17 (by rfl) 51 #[.int .i64 f1.kind, .int .i64 f1.frm, .int .i64 f1.to, .int .u64 f1.mine, .int .u64 f1.yours, .int .u64 f1.a, .int .u64 f1.b, .int .i64 f1.inode, .int .u64 f1.iseq, .int .i64 f1.ioff, .int .i64 f1.bn.node, .int .u64 f1.bn.seq, .int .i64 f1.bn.off, .int .i64 f1.bn.dest, .int .i64 f1.bn.prio, .int .i64 f1.bn.born, .int .i64 f1.bn.life, .int .i64 f1.bn.total, .string f1.bn.data] (0, 0) _ k17 Try.underlying51 (by rfl) (by kernel_rfl) ?_))
  refine (CG'.out _ _ RX).mono ?_
  rintro e v15 ⟨rfl, hb⟩
  replace k0 := k0.below hb
  replace k7 := k7.below hb
  replace k12 := k12.below hb
  replace k14 := k14.below hb
  replace k16 := k16.below hb
  replace k17 := k17.below hb
  replace RX := RX.below hb
  replace RA := RA.below hb
  replace RB := RB.below hb
  have hB2 := bnext hB hb
  clear hB hb hl0 hl7 hl12 hl14 hl16 hl17
  have hB := hB2
  clear hB2
  replace k0 := k0.alloc (.cells #[.int .i64 f2.kind, .int .i64 f2.frm, .int .i64 f2.to, .int .u64 f2.mine, .int .u64 f2.yours, .int .u64 f2.a, .int .u64 f2.b, .int .i64 f2.inode, .int .u64 f2.iseq, .int .i64 f2.ioff, .int .i64 f2.bn.node, .int .u64 f2.bn.seq, .int .i64 f2.bn.off, .int .i64 f2.bn.dest, .int .i64 f2.bn.prio, .int .i64 f2.bn.born, .int .i64 f2.bn.life, .int .i64 f2.bn.total, .string f2.bn.data] 51)
  replace k7 := k7.alloc (.cells #[.int .i64 f2.kind, .int .i64 f2.frm, .int .i64 f2.to, .int .u64 f2.mine, .int .u64 f2.yours, .int .u64 f2.a, .int .u64 f2.b, .int .i64 f2.inode, .int .u64 f2.iseq, .int .i64 f2.ioff, .int .i64 f2.bn.node, .int .u64 f2.bn.seq, .int .i64 f2.bn.off, .int .i64 f2.bn.dest, .int .i64 f2.bn.prio, .int .i64 f2.bn.born, .int .i64 f2.bn.life, .int .i64 f2.bn.total, .string f2.bn.data] 51)
  replace k12 := k12.alloc (.cells #[.int .i64 f2.kind, .int .i64 f2.frm, .int .i64 f2.to, .int .u64 f2.mine, .int .u64 f2.yours, .int .u64 f2.a, .int .u64 f2.b, .int .i64 f2.inode, .int .u64 f2.iseq, .int .i64 f2.ioff, .int .i64 f2.bn.node, .int .u64 f2.bn.seq, .int .i64 f2.bn.off, .int .i64 f2.bn.dest, .int .i64 f2.bn.prio, .int .i64 f2.bn.born, .int .i64 f2.bn.life, .int .i64 f2.bn.total, .string f2.bn.data] 51)
  replace k14 := k14.alloc (.cells #[.int .i64 f2.kind, .int .i64 f2.frm, .int .i64 f2.to, .int .u64 f2.mine, .int .u64 f2.yours, .int .u64 f2.a, .int .u64 f2.b, .int .i64 f2.inode, .int .u64 f2.iseq, .int .i64 f2.ioff, .int .i64 f2.bn.node, .int .u64 f2.bn.seq, .int .i64 f2.bn.off, .int .i64 f2.bn.dest, .int .i64 f2.bn.prio, .int .i64 f2.bn.born, .int .i64 f2.bn.life, .int .i64 f2.bn.total, .string f2.bn.data] 51)
  replace k16 := k16.alloc (.cells #[.int .i64 f2.kind, .int .i64 f2.frm, .int .i64 f2.to, .int .u64 f2.mine, .int .u64 f2.yours, .int .u64 f2.a, .int .u64 f2.b, .int .i64 f2.inode, .int .u64 f2.iseq, .int .i64 f2.ioff, .int .i64 f2.bn.node, .int .u64 f2.bn.seq, .int .i64 f2.bn.off, .int .i64 f2.bn.dest, .int .i64 f2.bn.prio, .int .i64 f2.bn.born, .int .i64 f2.bn.life, .int .i64 f2.bn.total, .string f2.bn.data] 51)
  replace k17 := k17.alloc (.cells #[.int .i64 f2.kind, .int .i64 f2.frm, .int .i64 f2.to, .int .u64 f2.mine, .int .u64 f2.yours, .int .u64 f2.a, .int .u64 f2.b, .int .i64 f2.inode, .int .u64 f2.iseq, .int .i64 f2.ioff, .int .i64 f2.bn.node, .int .u64 f2.bn.seq, .int .i64 f2.bn.off, .int .i64 f2.bn.dest, .int .i64 f2.bn.prio, .int .i64 f2.bn.born, .int .i64 f2.bn.life, .int .i64 f2.bn.total, .string f2.bn.data] 51)
  replace RX := RX.below (bal (Below.refl _ _) (.cells #[.int .i64 f2.kind, .int .i64 f2.frm, .int .i64 f2.to, .int .u64 f2.mine, .int .u64 f2.yours, .int .u64 f2.a, .int .u64 f2.b, .int .i64 f2.inode, .int .u64 f2.iseq, .int .i64 f2.ioff, .int .i64 f2.bn.node, .int .u64 f2.bn.seq, .int .i64 f2.bn.off, .int .i64 f2.bn.dest, .int .i64 f2.bn.prio, .int .i64 f2.bn.born, .int .i64 f2.bn.life, .int .i64 f2.bn.total, .string f2.bn.data] 51))
  replace RA := RA.below (bal (Below.refl _ _) (.cells #[.int .i64 f2.kind, .int .i64 f2.frm, .int .i64 f2.to, .int .u64 f2.mine, .int .u64 f2.yours, .int .u64 f2.a, .int .u64 f2.b, .int .i64 f2.inode, .int .u64 f2.iseq, .int .i64 f2.ioff, .int .i64 f2.bn.node, .int .u64 f2.bn.seq, .int .i64 f2.bn.off, .int .i64 f2.bn.dest, .int .i64 f2.bn.prio, .int .i64 f2.bn.born, .int .i64 f2.bn.life, .int .i64 f2.bn.total, .string f2.bn.data] 51))
  replace RB := RB.below (bal (Below.refl _ _) (.cells #[.int .i64 f2.kind, .int .i64 f2.frm, .int .i64 f2.to, .int .u64 f2.mine, .int .u64 f2.yours, .int .u64 f2.a, .int .u64 f2.b, .int .i64 f2.inode, .int .u64 f2.iseq, .int .i64 f2.ioff, .int .i64 f2.bn.node, .int .u64 f2.bn.seq, .int .i64 f2.bn.off, .int .i64 f2.bn.dest, .int .i64 f2.bn.prio, .int .i64 f2.bn.born, .int .i64 f2.bn.life, .int .i64 f2.bn.total, .string f2.bn.data] 51))
  have hl0 := k0.lt
  have hl7 := k7.lt
  have hl12 := k12.lt
  have hl14 := k14.lt
  have hl16 := k16.lt
  have hl17 := k17.lt
  go_upto_region 13 with (first | (refine wpList_alloc_z (by rfl) 51 (by rfl) _ rfl #[.int .i64 0, .int .i64 0, .int .i64 0, .int .u64 0, .int .u64 0, .int .u64 0, .int .u64 0, .int .i64 0, .int .u64 0, .int .i64 0, .int .i64 0, .int .u64 0, .int .i64 0, .int .i64 0, .int .i64 0, .int .i64 0, .int .i64 0, .int .i64 0, .string ⟨#[]⟩] zeroFr ?_) | (refine wpList_store_new (by rfl) 51 _ _ (by rfl) v15 #[.int .i64 0, .int .i64 0, .int .i64 0, .int .u64 0, .int .u64 0, .int .u64 0, .int .u64 0, .int .i64 0, .int .u64 0, .int .i64 0, .int .i64 0, .int .u64 0, .int .i64 0, .int .i64 0, .int .i64 0, .int .i64 0, .int .i64 0, .int .i64 0, .string ⟨#[]⟩] #[.int .i64 f2.kind, .int .i64 f2.frm, .int .i64 f2.to, .int .u64 f2.mine, .int .u64 f2.yours, .int .u64 f2.a, .int .u64 f2.b, .int .i64 f2.inode, .int .u64 f2.iseq, .int .i64 f2.ioff, .int .i64 f2.bn.node, .int .u64 f2.bn.seq, .int .i64 f2.bn.off, .int .i64 f2.bn.dest, .int .i64 f2.bn.prio, .int .i64 f2.bn.born, .int .i64 f2.bn.life, .int .i64 f2.bn.total, .string f2.bn.data] rfl (by rfl) (by rfl) (by kernel_rfl) rfl (one19 ..) ?_))
  clear hl0 hl7 hl12 hl14 hl16 hl17
  have k18 := Blk.new v15 51 #[.int .i64 f2.kind, .int .i64 f2.frm, .int .i64 f2.to, .int .u64 f2.mine, .int .u64 f2.yours, .int .u64 f2.a, .int .u64 f2.b, .int .i64 f2.inode, .int .u64 f2.iseq, .int .i64 f2.ioff, .int .i64 f2.bn.node, .int .u64 f2.bn.seq, .int .i64 f2.bn.off, .int .i64 f2.bn.dest, .int .i64 f2.bn.prio, .int .i64 f2.bn.born, .int .i64 f2.bn.life, .int .i64 f2.bn.total, .string f2.bn.data]
  replace hB := bal hB (.cells #[.int .i64 f2.kind, .int .i64 f2.frm, .int .i64 f2.to, .int .u64 f2.mine, .int .u64 f2.yours, .int .u64 f2.a, .int .u64 f2.b, .int .i64 f2.inode, .int .u64 f2.iseq, .int .i64 f2.ioff, .int .i64 f2.bn.node, .int .u64 f2.bn.seq, .int .i64 f2.bn.off, .int .i64 f2.bn.dest, .int .i64 f2.bn.prio, .int .i64 f2.bn.born, .int .i64 f2.bn.life, .int .i64 f2.bn.total, .string f2.bn.data] 51)
  obtain ⟨g18, hg⟩ : ∃ g18, v15.heap.size = g18 := ⟨_, rfl⟩
  rw [hg] at k18 ⊢
  clear hg
  generalize v15.alloc (.cells #[.int .i64 f2.kind, .int .i64 f2.frm, .int .i64 f2.to, .int .u64 f2.mine, .int .u64 f2.yours, .int .u64 f2.a, .int .u64 f2.b, .int .i64 f2.inode, .int .u64 f2.iseq, .int .i64 f2.ioff, .int .i64 f2.bn.node, .int .u64 f2.bn.seq, .int .i64 f2.bn.off, .int .i64 f2.bn.dest, .int .i64 f2.bn.prio, .int .i64 f2.bn.born, .int .i64 f2.bn.life, .int .i64 f2.bn.total, .string f2.bn.data] 51) = v16 at k0 k7 k12 k14 k16 k17 k18 hB RX RA RB ⊢
  have hl0 := k0.lt
  have hl7 := k7.lt
  have hl12 := k12.lt
  have hl14 := k14.lt
  have hl16 := k16.lt
  have hl17 := k17.lt
  have hl18 := k18.lt
  go_wp2_with (first | (refine wpList_ldrow (by rfl) 31 _ (by rfl) g0 (by rfl) 31 #[.int .i64 p.node, .int .u64 p.theirs, .bool p.sure, .int .u64 p.old, .int .u64 p.s.g, .int .u64 p.s.n, .int .u64 p.s.r, .slice A0 p.s.sl.length a0, .int .u64 p.r.g, .int .u64 p.r.r, .int .u64 p.r.fl, .slice B0 p.r.tk.length b0, .slice C0 p.r.kp.length c0] (0, 0) _ k0 Try.underlying31 (by rfl) (by kernel_rfl) ?_) | (refine wpList_ldrow (by rfl) 31 _ (by rfl) g7 (by rfl) 31 #[.int .i64 p.node, .int .u64 p.theirs, .bool p.sure, .int .u64 p.old, .int .u64 p.s.g, .int .u64 p.s.n, .int .u64 p.s.r, .slice A1 p.s.sl.length a1, .int .u64 p.r.g, .int .u64 p.r.r, .int .u64 p.r.fl, .slice B1 p.r.tk.length b1, .slice C1 p.r.kp.length c1] (0, 0) _ k7 Try.underlying31 (by rfl) (by kernel_rfl) ?_) | (refine wpList_ldrow (by rfl) 31 _ (by rfl) g12 (by rfl) 31 #[.int .i64 q.node, .int .u64 q.theirs, .bool q.sure, .int .u64 q.old, .int .u64 q.s.g, .int .u64 q.s.n, .int .u64 q.s.r, .slice A2 q.s.sl.length a2, .int .u64 q.r.g, .int .u64 q.r.r, .int .u64 q.r.fl, .slice B2 q.r.tk.length b2, .slice C2 q.r.kp.length c2] (0, 0) _ k12 Try.underlying31 (by rfl) (by kernel_rfl) ?_) | (refine wpList_ldrow (by rfl) 31 _ (by rfl) g14 (by rfl) 31 #[.int .i64 q.node, .int .u64 q.theirs, .bool q.sure, .int .u64 q.old, .int .u64 q.s.g, .int .u64 q.s.n, .int .u64 q.s.r, .slice A3 q.s.sl.length a3, .int .u64 q.r.g, .int .u64 q.r.r, .int .u64 q.r.fl, .slice B3 q.r.tk.length b3, .slice C3 q.r.kp.length c3] (0, 0) _ k14 Try.underlying31 (by rfl) (by kernel_rfl) ?_) | (refine wpList_ldrow (by rfl) 51 _ (by rfl) g16 (by rfl) 51 #[.int .i64 f1.kind, .int .i64 f1.frm, .int .i64 f1.to, .int .u64 f1.mine, .int .u64 f1.yours, .int .u64 f1.a, .int .u64 f1.b, .int .i64 f1.inode, .int .u64 f1.iseq, .int .i64 f1.ioff, .int .i64 f1.bn.node, .int .u64 f1.bn.seq, .int .i64 f1.bn.off, .int .i64 f1.bn.dest, .int .i64 f1.bn.prio, .int .i64 f1.bn.born, .int .i64 f1.bn.life, .int .i64 f1.bn.total, .string f1.bn.data] (0, 0) _ k16 Try.underlying51 (by rfl) (by kernel_rfl) ?_) | (refine wpList_ldrow (by rfl) 51 _ (by rfl) g17 (by rfl) 51 #[.int .i64 f1.kind, .int .i64 f1.frm, .int .i64 f1.to, .int .u64 f1.mine, .int .u64 f1.yours, .int .u64 f1.a, .int .u64 f1.b, .int .i64 f1.inode, .int .u64 f1.iseq, .int .i64 f1.ioff, .int .i64 f1.bn.node, .int .u64 f1.bn.seq, .int .i64 f1.bn.off, .int .i64 f1.bn.dest, .int .i64 f1.bn.prio, .int .i64 f1.bn.born, .int .i64 f1.bn.life, .int .i64 f1.bn.total, .string f1.bn.data] (0, 0) _ k17 Try.underlying51 (by rfl) (by kernel_rfl) ?_) | (refine wpList_ldrow (by rfl) 51 _ (by rfl) g18 (by rfl) 51 #[.int .i64 f2.kind, .int .i64 f2.frm, .int .i64 f2.to, .int .u64 f2.mine, .int .u64 f2.yours, .int .u64 f2.a, .int .u64 f2.b, .int .i64 f2.inode, .int .u64 f2.iseq, .int .i64 f2.ioff, .int .i64 f2.bn.node, .int .u64 f2.bn.seq, .int .i64 f2.bn.off, .int .i64 f2.bn.dest, .int .i64 f2.bn.prio, .int .i64 f2.bn.born, .int .i64 f2.bn.life, .int .i64 f2.bn.total, .string f2.bn.data] (0, 0) _ k18 Try.underlying51 (by rfl) (by kernel_rfl) ?_))
  refine (CH'.out _ _ (HV'.out.below hB)).mono ?_
  rintro e v17 ⟨rfl, hb⟩
  replace k0 := k0.below hb
  replace k7 := k7.below hb
  replace k12 := k12.below hb
  replace k14 := k14.below hb
  replace k16 := k16.below hb
  replace k17 := k17.below hb
  replace k18 := k18.below hb
  replace RX := RX.below hb
  replace RA := RA.below hb
  replace RB := RB.below hb
  have hB2 := bnext hB hb
  clear hB hb hl0 hl7 hl12 hl14 hl16 hl17 hl18
  have hB := hB2
  clear hB2
  replace k0 := k0.alloc (.cells #[.int .i64 f2.kind, .int .i64 f2.frm, .int .i64 f2.to, .int .u64 f2.mine, .int .u64 f2.yours, .int .u64 f2.a, .int .u64 f2.b, .int .i64 f2.inode, .int .u64 f2.iseq, .int .i64 f2.ioff, .int .i64 f2.bn.node, .int .u64 f2.bn.seq, .int .i64 f2.bn.off, .int .i64 f2.bn.dest, .int .i64 f2.bn.prio, .int .i64 f2.bn.born, .int .i64 f2.bn.life, .int .i64 f2.bn.total, .string f2.bn.data] 51)
  replace k7 := k7.alloc (.cells #[.int .i64 f2.kind, .int .i64 f2.frm, .int .i64 f2.to, .int .u64 f2.mine, .int .u64 f2.yours, .int .u64 f2.a, .int .u64 f2.b, .int .i64 f2.inode, .int .u64 f2.iseq, .int .i64 f2.ioff, .int .i64 f2.bn.node, .int .u64 f2.bn.seq, .int .i64 f2.bn.off, .int .i64 f2.bn.dest, .int .i64 f2.bn.prio, .int .i64 f2.bn.born, .int .i64 f2.bn.life, .int .i64 f2.bn.total, .string f2.bn.data] 51)
  replace k12 := k12.alloc (.cells #[.int .i64 f2.kind, .int .i64 f2.frm, .int .i64 f2.to, .int .u64 f2.mine, .int .u64 f2.yours, .int .u64 f2.a, .int .u64 f2.b, .int .i64 f2.inode, .int .u64 f2.iseq, .int .i64 f2.ioff, .int .i64 f2.bn.node, .int .u64 f2.bn.seq, .int .i64 f2.bn.off, .int .i64 f2.bn.dest, .int .i64 f2.bn.prio, .int .i64 f2.bn.born, .int .i64 f2.bn.life, .int .i64 f2.bn.total, .string f2.bn.data] 51)
  replace k14 := k14.alloc (.cells #[.int .i64 f2.kind, .int .i64 f2.frm, .int .i64 f2.to, .int .u64 f2.mine, .int .u64 f2.yours, .int .u64 f2.a, .int .u64 f2.b, .int .i64 f2.inode, .int .u64 f2.iseq, .int .i64 f2.ioff, .int .i64 f2.bn.node, .int .u64 f2.bn.seq, .int .i64 f2.bn.off, .int .i64 f2.bn.dest, .int .i64 f2.bn.prio, .int .i64 f2.bn.born, .int .i64 f2.bn.life, .int .i64 f2.bn.total, .string f2.bn.data] 51)
  replace k16 := k16.alloc (.cells #[.int .i64 f2.kind, .int .i64 f2.frm, .int .i64 f2.to, .int .u64 f2.mine, .int .u64 f2.yours, .int .u64 f2.a, .int .u64 f2.b, .int .i64 f2.inode, .int .u64 f2.iseq, .int .i64 f2.ioff, .int .i64 f2.bn.node, .int .u64 f2.bn.seq, .int .i64 f2.bn.off, .int .i64 f2.bn.dest, .int .i64 f2.bn.prio, .int .i64 f2.bn.born, .int .i64 f2.bn.life, .int .i64 f2.bn.total, .string f2.bn.data] 51)
  replace k17 := k17.alloc (.cells #[.int .i64 f2.kind, .int .i64 f2.frm, .int .i64 f2.to, .int .u64 f2.mine, .int .u64 f2.yours, .int .u64 f2.a, .int .u64 f2.b, .int .i64 f2.inode, .int .u64 f2.iseq, .int .i64 f2.ioff, .int .i64 f2.bn.node, .int .u64 f2.bn.seq, .int .i64 f2.bn.off, .int .i64 f2.bn.dest, .int .i64 f2.bn.prio, .int .i64 f2.bn.born, .int .i64 f2.bn.life, .int .i64 f2.bn.total, .string f2.bn.data] 51)
  replace k18 := k18.alloc (.cells #[.int .i64 f2.kind, .int .i64 f2.frm, .int .i64 f2.to, .int .u64 f2.mine, .int .u64 f2.yours, .int .u64 f2.a, .int .u64 f2.b, .int .i64 f2.inode, .int .u64 f2.iseq, .int .i64 f2.ioff, .int .i64 f2.bn.node, .int .u64 f2.bn.seq, .int .i64 f2.bn.off, .int .i64 f2.bn.dest, .int .i64 f2.bn.prio, .int .i64 f2.bn.born, .int .i64 f2.bn.life, .int .i64 f2.bn.total, .string f2.bn.data] 51)
  replace RX := RX.below (bal (Below.refl _ _) (.cells #[.int .i64 f2.kind, .int .i64 f2.frm, .int .i64 f2.to, .int .u64 f2.mine, .int .u64 f2.yours, .int .u64 f2.a, .int .u64 f2.b, .int .i64 f2.inode, .int .u64 f2.iseq, .int .i64 f2.ioff, .int .i64 f2.bn.node, .int .u64 f2.bn.seq, .int .i64 f2.bn.off, .int .i64 f2.bn.dest, .int .i64 f2.bn.prio, .int .i64 f2.bn.born, .int .i64 f2.bn.life, .int .i64 f2.bn.total, .string f2.bn.data] 51))
  replace RA := RA.below (bal (Below.refl _ _) (.cells #[.int .i64 f2.kind, .int .i64 f2.frm, .int .i64 f2.to, .int .u64 f2.mine, .int .u64 f2.yours, .int .u64 f2.a, .int .u64 f2.b, .int .i64 f2.inode, .int .u64 f2.iseq, .int .i64 f2.ioff, .int .i64 f2.bn.node, .int .u64 f2.bn.seq, .int .i64 f2.bn.off, .int .i64 f2.bn.dest, .int .i64 f2.bn.prio, .int .i64 f2.bn.born, .int .i64 f2.bn.life, .int .i64 f2.bn.total, .string f2.bn.data] 51))
  replace RB := RB.below (bal (Below.refl _ _) (.cells #[.int .i64 f2.kind, .int .i64 f2.frm, .int .i64 f2.to, .int .u64 f2.mine, .int .u64 f2.yours, .int .u64 f2.a, .int .u64 f2.b, .int .i64 f2.inode, .int .u64 f2.iseq, .int .i64 f2.ioff, .int .i64 f2.bn.node, .int .u64 f2.bn.seq, .int .i64 f2.bn.off, .int .i64 f2.bn.dest, .int .i64 f2.bn.prio, .int .i64 f2.bn.born, .int .i64 f2.bn.life, .int .i64 f2.bn.total, .string f2.bn.data] 51))
  have hl0 := k0.lt
  have hl7 := k7.lt
  have hl12 := k12.lt
  have hl14 := k14.lt
  have hl16 := k16.lt
  have hl17 := k17.lt
  have hl18 := k18.lt
  go_upto_region 14 with (first | (refine wpList_alloc_z (by rfl) 51 (by rfl) _ rfl #[.int .i64 0, .int .i64 0, .int .i64 0, .int .u64 0, .int .u64 0, .int .u64 0, .int .u64 0, .int .i64 0, .int .u64 0, .int .i64 0, .int .i64 0, .int .u64 0, .int .i64 0, .int .i64 0, .int .i64 0, .int .i64 0, .int .i64 0, .int .i64 0, .string ⟨#[]⟩] zeroFr ?_) | (refine wpList_store_new (by rfl) 51 _ _ (by rfl) v17 #[.int .i64 0, .int .i64 0, .int .i64 0, .int .u64 0, .int .u64 0, .int .u64 0, .int .u64 0, .int .i64 0, .int .u64 0, .int .i64 0, .int .i64 0, .int .u64 0, .int .i64 0, .int .i64 0, .int .i64 0, .int .i64 0, .int .i64 0, .int .i64 0, .string ⟨#[]⟩] #[.int .i64 f2.kind, .int .i64 f2.frm, .int .i64 f2.to, .int .u64 f2.mine, .int .u64 f2.yours, .int .u64 f2.a, .int .u64 f2.b, .int .i64 f2.inode, .int .u64 f2.iseq, .int .i64 f2.ioff, .int .i64 f2.bn.node, .int .u64 f2.bn.seq, .int .i64 f2.bn.off, .int .i64 f2.bn.dest, .int .i64 f2.bn.prio, .int .i64 f2.bn.born, .int .i64 f2.bn.life, .int .i64 f2.bn.total, .string f2.bn.data] rfl (by rfl) (by rfl) (by kernel_rfl) rfl (one19 ..) ?_))
  clear hl0 hl7 hl12 hl14 hl16 hl17 hl18
  have k19 := Blk.new v17 51 #[.int .i64 f2.kind, .int .i64 f2.frm, .int .i64 f2.to, .int .u64 f2.mine, .int .u64 f2.yours, .int .u64 f2.a, .int .u64 f2.b, .int .i64 f2.inode, .int .u64 f2.iseq, .int .i64 f2.ioff, .int .i64 f2.bn.node, .int .u64 f2.bn.seq, .int .i64 f2.bn.off, .int .i64 f2.bn.dest, .int .i64 f2.bn.prio, .int .i64 f2.bn.born, .int .i64 f2.bn.life, .int .i64 f2.bn.total, .string f2.bn.data]
  replace hB := bal hB (.cells #[.int .i64 f2.kind, .int .i64 f2.frm, .int .i64 f2.to, .int .u64 f2.mine, .int .u64 f2.yours, .int .u64 f2.a, .int .u64 f2.b, .int .i64 f2.inode, .int .u64 f2.iseq, .int .i64 f2.ioff, .int .i64 f2.bn.node, .int .u64 f2.bn.seq, .int .i64 f2.bn.off, .int .i64 f2.bn.dest, .int .i64 f2.bn.prio, .int .i64 f2.bn.born, .int .i64 f2.bn.life, .int .i64 f2.bn.total, .string f2.bn.data] 51)
  obtain ⟨g19, hg⟩ : ∃ g19, v17.heap.size = g19 := ⟨_, rfl⟩
  rw [hg] at k19 ⊢
  clear hg
  generalize v17.alloc (.cells #[.int .i64 f2.kind, .int .i64 f2.frm, .int .i64 f2.to, .int .u64 f2.mine, .int .u64 f2.yours, .int .u64 f2.a, .int .u64 f2.b, .int .i64 f2.inode, .int .u64 f2.iseq, .int .i64 f2.ioff, .int .i64 f2.bn.node, .int .u64 f2.bn.seq, .int .i64 f2.bn.off, .int .i64 f2.bn.dest, .int .i64 f2.bn.prio, .int .i64 f2.bn.born, .int .i64 f2.bn.life, .int .i64 f2.bn.total, .string f2.bn.data] 51) = v18 at k0 k7 k12 k14 k16 k17 k18 k19 hB RX RA RB ⊢
  have hl0 := k0.lt
  have hl7 := k7.lt
  have hl12 := k12.lt
  have hl14 := k14.lt
  have hl16 := k16.lt
  have hl17 := k17.lt
  have hl18 := k18.lt
  have hl19 := k19.lt
  go_wp2_with (first | (refine wpList_ldrow (by rfl) 31 _ (by rfl) g0 (by rfl) 31 #[.int .i64 p.node, .int .u64 p.theirs, .bool p.sure, .int .u64 p.old, .int .u64 p.s.g, .int .u64 p.s.n, .int .u64 p.s.r, .slice A0 p.s.sl.length a0, .int .u64 p.r.g, .int .u64 p.r.r, .int .u64 p.r.fl, .slice B0 p.r.tk.length b0, .slice C0 p.r.kp.length c0] (0, 0) _ k0 Try.underlying31 (by rfl) (by kernel_rfl) ?_) | (refine wpList_ldrow (by rfl) 31 _ (by rfl) g7 (by rfl) 31 #[.int .i64 p.node, .int .u64 p.theirs, .bool p.sure, .int .u64 p.old, .int .u64 p.s.g, .int .u64 p.s.n, .int .u64 p.s.r, .slice A1 p.s.sl.length a1, .int .u64 p.r.g, .int .u64 p.r.r, .int .u64 p.r.fl, .slice B1 p.r.tk.length b1, .slice C1 p.r.kp.length c1] (0, 0) _ k7 Try.underlying31 (by rfl) (by kernel_rfl) ?_) | (refine wpList_ldrow (by rfl) 31 _ (by rfl) g12 (by rfl) 31 #[.int .i64 q.node, .int .u64 q.theirs, .bool q.sure, .int .u64 q.old, .int .u64 q.s.g, .int .u64 q.s.n, .int .u64 q.s.r, .slice A2 q.s.sl.length a2, .int .u64 q.r.g, .int .u64 q.r.r, .int .u64 q.r.fl, .slice B2 q.r.tk.length b2, .slice C2 q.r.kp.length c2] (0, 0) _ k12 Try.underlying31 (by rfl) (by kernel_rfl) ?_) | (refine wpList_ldrow (by rfl) 31 _ (by rfl) g14 (by rfl) 31 #[.int .i64 q.node, .int .u64 q.theirs, .bool q.sure, .int .u64 q.old, .int .u64 q.s.g, .int .u64 q.s.n, .int .u64 q.s.r, .slice A3 q.s.sl.length a3, .int .u64 q.r.g, .int .u64 q.r.r, .int .u64 q.r.fl, .slice B3 q.r.tk.length b3, .slice C3 q.r.kp.length c3] (0, 0) _ k14 Try.underlying31 (by rfl) (by kernel_rfl) ?_) | (refine wpList_ldrow (by rfl) 51 _ (by rfl) g16 (by rfl) 51 #[.int .i64 f1.kind, .int .i64 f1.frm, .int .i64 f1.to, .int .u64 f1.mine, .int .u64 f1.yours, .int .u64 f1.a, .int .u64 f1.b, .int .i64 f1.inode, .int .u64 f1.iseq, .int .i64 f1.ioff, .int .i64 f1.bn.node, .int .u64 f1.bn.seq, .int .i64 f1.bn.off, .int .i64 f1.bn.dest, .int .i64 f1.bn.prio, .int .i64 f1.bn.born, .int .i64 f1.bn.life, .int .i64 f1.bn.total, .string f1.bn.data] (0, 0) _ k16 Try.underlying51 (by rfl) (by kernel_rfl) ?_) | (refine wpList_ldrow (by rfl) 51 _ (by rfl) g17 (by rfl) 51 #[.int .i64 f1.kind, .int .i64 f1.frm, .int .i64 f1.to, .int .u64 f1.mine, .int .u64 f1.yours, .int .u64 f1.a, .int .u64 f1.b, .int .i64 f1.inode, .int .u64 f1.iseq, .int .i64 f1.ioff, .int .i64 f1.bn.node, .int .u64 f1.bn.seq, .int .i64 f1.bn.off, .int .i64 f1.bn.dest, .int .i64 f1.bn.prio, .int .i64 f1.bn.born, .int .i64 f1.bn.life, .int .i64 f1.bn.total, .string f1.bn.data] (0, 0) _ k17 Try.underlying51 (by rfl) (by kernel_rfl) ?_) | (refine wpList_ldrow (by rfl) 51 _ (by rfl) g18 (by rfl) 51 #[.int .i64 f2.kind, .int .i64 f2.frm, .int .i64 f2.to, .int .u64 f2.mine, .int .u64 f2.yours, .int .u64 f2.a, .int .u64 f2.b, .int .i64 f2.inode, .int .u64 f2.iseq, .int .i64 f2.ioff, .int .i64 f2.bn.node, .int .u64 f2.bn.seq, .int .i64 f2.bn.off, .int .i64 f2.bn.dest, .int .i64 f2.bn.prio, .int .i64 f2.bn.born, .int .i64 f2.bn.life, .int .i64 f2.bn.total, .string f2.bn.data] (0, 0) _ k18 Try.underlying51 (by rfl) (by kernel_rfl) ?_) | (refine wpList_ldrow (by rfl) 51 _ (by rfl) g19 (by rfl) 51 #[.int .i64 f2.kind, .int .i64 f2.frm, .int .i64 f2.to, .int .u64 f2.mine, .int .u64 f2.yours, .int .u64 f2.a, .int .u64 f2.b, .int .i64 f2.inode, .int .u64 f2.iseq, .int .i64 f2.ioff, .int .i64 f2.bn.node, .int .u64 f2.bn.seq, .int .i64 f2.bn.off, .int .i64 f2.bn.dest, .int .i64 f2.bn.prio, .int .i64 f2.bn.born, .int .i64 f2.bn.life, .int .i64 f2.bn.total, .string f2.bn.data] (0, 0) _ k19 Try.underlying51 (by rfl) (by kernel_rfl) ?_))
  refine (CI'.out _ _ RX).mono ?_
  rintro e v19 ⟨rfl, hb⟩
  replace k0 := k0.below hb
  replace k7 := k7.below hb
  replace k12 := k12.below hb
  replace k14 := k14.below hb
  replace k16 := k16.below hb
  replace k17 := k17.below hb
  replace k18 := k18.below hb
  replace k19 := k19.below hb
  replace RX := RX.below hb
  replace RA := RA.below hb
  replace RB := RB.below hb
  have hB2 := bnext hB hb
  clear hB hb hl0 hl7 hl12 hl14 hl16 hl17 hl18 hl19
  have hB := hB2
  clear hB2
  replace k0 := k0.alloc (.cells #[.int .i64 f3.kind, .int .i64 f3.frm, .int .i64 f3.to, .int .u64 f3.mine, .int .u64 f3.yours, .int .u64 f3.a, .int .u64 f3.b, .int .i64 f3.inode, .int .u64 f3.iseq, .int .i64 f3.ioff, .int .i64 f3.bn.node, .int .u64 f3.bn.seq, .int .i64 f3.bn.off, .int .i64 f3.bn.dest, .int .i64 f3.bn.prio, .int .i64 f3.bn.born, .int .i64 f3.bn.life, .int .i64 f3.bn.total, .string f3.bn.data] 51)
  replace k7 := k7.alloc (.cells #[.int .i64 f3.kind, .int .i64 f3.frm, .int .i64 f3.to, .int .u64 f3.mine, .int .u64 f3.yours, .int .u64 f3.a, .int .u64 f3.b, .int .i64 f3.inode, .int .u64 f3.iseq, .int .i64 f3.ioff, .int .i64 f3.bn.node, .int .u64 f3.bn.seq, .int .i64 f3.bn.off, .int .i64 f3.bn.dest, .int .i64 f3.bn.prio, .int .i64 f3.bn.born, .int .i64 f3.bn.life, .int .i64 f3.bn.total, .string f3.bn.data] 51)
  replace k12 := k12.alloc (.cells #[.int .i64 f3.kind, .int .i64 f3.frm, .int .i64 f3.to, .int .u64 f3.mine, .int .u64 f3.yours, .int .u64 f3.a, .int .u64 f3.b, .int .i64 f3.inode, .int .u64 f3.iseq, .int .i64 f3.ioff, .int .i64 f3.bn.node, .int .u64 f3.bn.seq, .int .i64 f3.bn.off, .int .i64 f3.bn.dest, .int .i64 f3.bn.prio, .int .i64 f3.bn.born, .int .i64 f3.bn.life, .int .i64 f3.bn.total, .string f3.bn.data] 51)
  replace k14 := k14.alloc (.cells #[.int .i64 f3.kind, .int .i64 f3.frm, .int .i64 f3.to, .int .u64 f3.mine, .int .u64 f3.yours, .int .u64 f3.a, .int .u64 f3.b, .int .i64 f3.inode, .int .u64 f3.iseq, .int .i64 f3.ioff, .int .i64 f3.bn.node, .int .u64 f3.bn.seq, .int .i64 f3.bn.off, .int .i64 f3.bn.dest, .int .i64 f3.bn.prio, .int .i64 f3.bn.born, .int .i64 f3.bn.life, .int .i64 f3.bn.total, .string f3.bn.data] 51)
  replace k16 := k16.alloc (.cells #[.int .i64 f3.kind, .int .i64 f3.frm, .int .i64 f3.to, .int .u64 f3.mine, .int .u64 f3.yours, .int .u64 f3.a, .int .u64 f3.b, .int .i64 f3.inode, .int .u64 f3.iseq, .int .i64 f3.ioff, .int .i64 f3.bn.node, .int .u64 f3.bn.seq, .int .i64 f3.bn.off, .int .i64 f3.bn.dest, .int .i64 f3.bn.prio, .int .i64 f3.bn.born, .int .i64 f3.bn.life, .int .i64 f3.bn.total, .string f3.bn.data] 51)
  replace k17 := k17.alloc (.cells #[.int .i64 f3.kind, .int .i64 f3.frm, .int .i64 f3.to, .int .u64 f3.mine, .int .u64 f3.yours, .int .u64 f3.a, .int .u64 f3.b, .int .i64 f3.inode, .int .u64 f3.iseq, .int .i64 f3.ioff, .int .i64 f3.bn.node, .int .u64 f3.bn.seq, .int .i64 f3.bn.off, .int .i64 f3.bn.dest, .int .i64 f3.bn.prio, .int .i64 f3.bn.born, .int .i64 f3.bn.life, .int .i64 f3.bn.total, .string f3.bn.data] 51)
  replace k18 := k18.alloc (.cells #[.int .i64 f3.kind, .int .i64 f3.frm, .int .i64 f3.to, .int .u64 f3.mine, .int .u64 f3.yours, .int .u64 f3.a, .int .u64 f3.b, .int .i64 f3.inode, .int .u64 f3.iseq, .int .i64 f3.ioff, .int .i64 f3.bn.node, .int .u64 f3.bn.seq, .int .i64 f3.bn.off, .int .i64 f3.bn.dest, .int .i64 f3.bn.prio, .int .i64 f3.bn.born, .int .i64 f3.bn.life, .int .i64 f3.bn.total, .string f3.bn.data] 51)
  replace k19 := k19.alloc (.cells #[.int .i64 f3.kind, .int .i64 f3.frm, .int .i64 f3.to, .int .u64 f3.mine, .int .u64 f3.yours, .int .u64 f3.a, .int .u64 f3.b, .int .i64 f3.inode, .int .u64 f3.iseq, .int .i64 f3.ioff, .int .i64 f3.bn.node, .int .u64 f3.bn.seq, .int .i64 f3.bn.off, .int .i64 f3.bn.dest, .int .i64 f3.bn.prio, .int .i64 f3.bn.born, .int .i64 f3.bn.life, .int .i64 f3.bn.total, .string f3.bn.data] 51)
  replace RX := RX.below (bal (Below.refl _ _) (.cells #[.int .i64 f3.kind, .int .i64 f3.frm, .int .i64 f3.to, .int .u64 f3.mine, .int .u64 f3.yours, .int .u64 f3.a, .int .u64 f3.b, .int .i64 f3.inode, .int .u64 f3.iseq, .int .i64 f3.ioff, .int .i64 f3.bn.node, .int .u64 f3.bn.seq, .int .i64 f3.bn.off, .int .i64 f3.bn.dest, .int .i64 f3.bn.prio, .int .i64 f3.bn.born, .int .i64 f3.bn.life, .int .i64 f3.bn.total, .string f3.bn.data] 51))
  replace RA := RA.below (bal (Below.refl _ _) (.cells #[.int .i64 f3.kind, .int .i64 f3.frm, .int .i64 f3.to, .int .u64 f3.mine, .int .u64 f3.yours, .int .u64 f3.a, .int .u64 f3.b, .int .i64 f3.inode, .int .u64 f3.iseq, .int .i64 f3.ioff, .int .i64 f3.bn.node, .int .u64 f3.bn.seq, .int .i64 f3.bn.off, .int .i64 f3.bn.dest, .int .i64 f3.bn.prio, .int .i64 f3.bn.born, .int .i64 f3.bn.life, .int .i64 f3.bn.total, .string f3.bn.data] 51))
  replace RB := RB.below (bal (Below.refl _ _) (.cells #[.int .i64 f3.kind, .int .i64 f3.frm, .int .i64 f3.to, .int .u64 f3.mine, .int .u64 f3.yours, .int .u64 f3.a, .int .u64 f3.b, .int .i64 f3.inode, .int .u64 f3.iseq, .int .i64 f3.ioff, .int .i64 f3.bn.node, .int .u64 f3.bn.seq, .int .i64 f3.bn.off, .int .i64 f3.bn.dest, .int .i64 f3.bn.prio, .int .i64 f3.bn.born, .int .i64 f3.bn.life, .int .i64 f3.bn.total, .string f3.bn.data] 51))
  have hl0 := k0.lt
  have hl7 := k7.lt
  have hl12 := k12.lt
  have hl14 := k14.lt
  have hl16 := k16.lt
  have hl17 := k17.lt
  have hl18 := k18.lt
  have hl19 := k19.lt
  go_upto_region 15 with (first | (refine wpList_alloc_z (by rfl) 51 (by rfl) _ rfl #[.int .i64 0, .int .i64 0, .int .i64 0, .int .u64 0, .int .u64 0, .int .u64 0, .int .u64 0, .int .i64 0, .int .u64 0, .int .i64 0, .int .i64 0, .int .u64 0, .int .i64 0, .int .i64 0, .int .i64 0, .int .i64 0, .int .i64 0, .int .i64 0, .string ⟨#[]⟩] zeroFr ?_) | (refine wpList_store_new (by rfl) 51 _ _ (by rfl) v19 #[.int .i64 0, .int .i64 0, .int .i64 0, .int .u64 0, .int .u64 0, .int .u64 0, .int .u64 0, .int .i64 0, .int .u64 0, .int .i64 0, .int .i64 0, .int .u64 0, .int .i64 0, .int .i64 0, .int .i64 0, .int .i64 0, .int .i64 0, .int .i64 0, .string ⟨#[]⟩] #[.int .i64 f3.kind, .int .i64 f3.frm, .int .i64 f3.to, .int .u64 f3.mine, .int .u64 f3.yours, .int .u64 f3.a, .int .u64 f3.b, .int .i64 f3.inode, .int .u64 f3.iseq, .int .i64 f3.ioff, .int .i64 f3.bn.node, .int .u64 f3.bn.seq, .int .i64 f3.bn.off, .int .i64 f3.bn.dest, .int .i64 f3.bn.prio, .int .i64 f3.bn.born, .int .i64 f3.bn.life, .int .i64 f3.bn.total, .string f3.bn.data] rfl (by rfl) (by rfl) (by kernel_rfl) rfl (one19 ..) ?_))
  clear hl0 hl7 hl12 hl14 hl16 hl17 hl18 hl19
  have k20 := Blk.new v19 51 #[.int .i64 f3.kind, .int .i64 f3.frm, .int .i64 f3.to, .int .u64 f3.mine, .int .u64 f3.yours, .int .u64 f3.a, .int .u64 f3.b, .int .i64 f3.inode, .int .u64 f3.iseq, .int .i64 f3.ioff, .int .i64 f3.bn.node, .int .u64 f3.bn.seq, .int .i64 f3.bn.off, .int .i64 f3.bn.dest, .int .i64 f3.bn.prio, .int .i64 f3.bn.born, .int .i64 f3.bn.life, .int .i64 f3.bn.total, .string f3.bn.data]
  replace hB := bal hB (.cells #[.int .i64 f3.kind, .int .i64 f3.frm, .int .i64 f3.to, .int .u64 f3.mine, .int .u64 f3.yours, .int .u64 f3.a, .int .u64 f3.b, .int .i64 f3.inode, .int .u64 f3.iseq, .int .i64 f3.ioff, .int .i64 f3.bn.node, .int .u64 f3.bn.seq, .int .i64 f3.bn.off, .int .i64 f3.bn.dest, .int .i64 f3.bn.prio, .int .i64 f3.bn.born, .int .i64 f3.bn.life, .int .i64 f3.bn.total, .string f3.bn.data] 51)
  obtain ⟨g20, hg⟩ : ∃ g20, v19.heap.size = g20 := ⟨_, rfl⟩
  rw [hg] at k20 ⊢
  clear hg
  generalize v19.alloc (.cells #[.int .i64 f3.kind, .int .i64 f3.frm, .int .i64 f3.to, .int .u64 f3.mine, .int .u64 f3.yours, .int .u64 f3.a, .int .u64 f3.b, .int .i64 f3.inode, .int .u64 f3.iseq, .int .i64 f3.ioff, .int .i64 f3.bn.node, .int .u64 f3.bn.seq, .int .i64 f3.bn.off, .int .i64 f3.bn.dest, .int .i64 f3.bn.prio, .int .i64 f3.bn.born, .int .i64 f3.bn.life, .int .i64 f3.bn.total, .string f3.bn.data] 51) = v20 at k0 k7 k12 k14 k16 k17 k18 k19 k20 hB RX RA RB ⊢
  have hl0 := k0.lt
  have hl7 := k7.lt
  have hl12 := k12.lt
  have hl14 := k14.lt
  have hl16 := k16.lt
  have hl17 := k17.lt
  have hl18 := k18.lt
  have hl19 := k19.lt
  have hl20 := k20.lt
  go_wp2_with (first | (refine wpList_ldrow (by rfl) 31 _ (by rfl) g0 (by rfl) 31 #[.int .i64 p.node, .int .u64 p.theirs, .bool p.sure, .int .u64 p.old, .int .u64 p.s.g, .int .u64 p.s.n, .int .u64 p.s.r, .slice A0 p.s.sl.length a0, .int .u64 p.r.g, .int .u64 p.r.r, .int .u64 p.r.fl, .slice B0 p.r.tk.length b0, .slice C0 p.r.kp.length c0] (0, 0) _ k0 Try.underlying31 (by rfl) (by kernel_rfl) ?_) | (refine wpList_ldrow (by rfl) 31 _ (by rfl) g7 (by rfl) 31 #[.int .i64 p.node, .int .u64 p.theirs, .bool p.sure, .int .u64 p.old, .int .u64 p.s.g, .int .u64 p.s.n, .int .u64 p.s.r, .slice A1 p.s.sl.length a1, .int .u64 p.r.g, .int .u64 p.r.r, .int .u64 p.r.fl, .slice B1 p.r.tk.length b1, .slice C1 p.r.kp.length c1] (0, 0) _ k7 Try.underlying31 (by rfl) (by kernel_rfl) ?_) | (refine wpList_ldrow (by rfl) 31 _ (by rfl) g12 (by rfl) 31 #[.int .i64 q.node, .int .u64 q.theirs, .bool q.sure, .int .u64 q.old, .int .u64 q.s.g, .int .u64 q.s.n, .int .u64 q.s.r, .slice A2 q.s.sl.length a2, .int .u64 q.r.g, .int .u64 q.r.r, .int .u64 q.r.fl, .slice B2 q.r.tk.length b2, .slice C2 q.r.kp.length c2] (0, 0) _ k12 Try.underlying31 (by rfl) (by kernel_rfl) ?_) | (refine wpList_ldrow (by rfl) 31 _ (by rfl) g14 (by rfl) 31 #[.int .i64 q.node, .int .u64 q.theirs, .bool q.sure, .int .u64 q.old, .int .u64 q.s.g, .int .u64 q.s.n, .int .u64 q.s.r, .slice A3 q.s.sl.length a3, .int .u64 q.r.g, .int .u64 q.r.r, .int .u64 q.r.fl, .slice B3 q.r.tk.length b3, .slice C3 q.r.kp.length c3] (0, 0) _ k14 Try.underlying31 (by rfl) (by kernel_rfl) ?_) | (refine wpList_ldrow (by rfl) 51 _ (by rfl) g16 (by rfl) 51 #[.int .i64 f1.kind, .int .i64 f1.frm, .int .i64 f1.to, .int .u64 f1.mine, .int .u64 f1.yours, .int .u64 f1.a, .int .u64 f1.b, .int .i64 f1.inode, .int .u64 f1.iseq, .int .i64 f1.ioff, .int .i64 f1.bn.node, .int .u64 f1.bn.seq, .int .i64 f1.bn.off, .int .i64 f1.bn.dest, .int .i64 f1.bn.prio, .int .i64 f1.bn.born, .int .i64 f1.bn.life, .int .i64 f1.bn.total, .string f1.bn.data] (0, 0) _ k16 Try.underlying51 (by rfl) (by kernel_rfl) ?_) | (refine wpList_ldrow (by rfl) 51 _ (by rfl) g17 (by rfl) 51 #[.int .i64 f1.kind, .int .i64 f1.frm, .int .i64 f1.to, .int .u64 f1.mine, .int .u64 f1.yours, .int .u64 f1.a, .int .u64 f1.b, .int .i64 f1.inode, .int .u64 f1.iseq, .int .i64 f1.ioff, .int .i64 f1.bn.node, .int .u64 f1.bn.seq, .int .i64 f1.bn.off, .int .i64 f1.bn.dest, .int .i64 f1.bn.prio, .int .i64 f1.bn.born, .int .i64 f1.bn.life, .int .i64 f1.bn.total, .string f1.bn.data] (0, 0) _ k17 Try.underlying51 (by rfl) (by kernel_rfl) ?_) | (refine wpList_ldrow (by rfl) 51 _ (by rfl) g18 (by rfl) 51 #[.int .i64 f2.kind, .int .i64 f2.frm, .int .i64 f2.to, .int .u64 f2.mine, .int .u64 f2.yours, .int .u64 f2.a, .int .u64 f2.b, .int .i64 f2.inode, .int .u64 f2.iseq, .int .i64 f2.ioff, .int .i64 f2.bn.node, .int .u64 f2.bn.seq, .int .i64 f2.bn.off, .int .i64 f2.bn.dest, .int .i64 f2.bn.prio, .int .i64 f2.bn.born, .int .i64 f2.bn.life, .int .i64 f2.bn.total, .string f2.bn.data] (0, 0) _ k18 Try.underlying51 (by rfl) (by kernel_rfl) ?_) | (refine wpList_ldrow (by rfl) 51 _ (by rfl) g19 (by rfl) 51 #[.int .i64 f2.kind, .int .i64 f2.frm, .int .i64 f2.to, .int .u64 f2.mine, .int .u64 f2.yours, .int .u64 f2.a, .int .u64 f2.b, .int .i64 f2.inode, .int .u64 f2.iseq, .int .i64 f2.ioff, .int .i64 f2.bn.node, .int .u64 f2.bn.seq, .int .i64 f2.bn.off, .int .i64 f2.bn.dest, .int .i64 f2.bn.prio, .int .i64 f2.bn.born, .int .i64 f2.bn.life, .int .i64 f2.bn.total, .string f2.bn.data] (0, 0) _ k19 Try.underlying51 (by rfl) (by kernel_rfl) ?_) | (refine wpList_ldrow (by rfl) 51 _ (by rfl) g20 (by rfl) 51 #[.int .i64 f3.kind, .int .i64 f3.frm, .int .i64 f3.to, .int .u64 f3.mine, .int .u64 f3.yours, .int .u64 f3.a, .int .u64 f3.b, .int .i64 f3.inode, .int .u64 f3.iseq, .int .i64 f3.ioff, .int .i64 f3.bn.node, .int .u64 f3.bn.seq, .int .i64 f3.bn.off, .int .i64 f3.bn.dest, .int .i64 f3.bn.prio, .int .i64 f3.bn.born, .int .i64 f3.bn.life, .int .i64 f3.bn.total, .string f3.bn.data] (0, 0) _ k20 Try.underlying51 (by rfl) (by kernel_rfl) ?_))
  refine (CK'.out _ _ (HV'.out.below hB)).mono ?_
  rintro e v21 ⟨rfl, hb⟩
  replace k0 := k0.below hb
  replace k7 := k7.below hb
  replace k12 := k12.below hb
  replace k14 := k14.below hb
  replace k16 := k16.below hb
  replace k17 := k17.below hb
  replace k18 := k18.below hb
  replace k19 := k19.below hb
  replace k20 := k20.below hb
  replace RX := RX.below hb
  replace RA := RA.below hb
  replace RB := RB.below hb
  have hB2 := bnext hB hb
  clear hB hb hl0 hl7 hl12 hl14 hl16 hl17 hl18 hl19 hl20
  have hB := hB2
  clear hB2
  replace k0 := k0.alloc (.cells #[.int .i64 f3.kind, .int .i64 f3.frm, .int .i64 f3.to, .int .u64 f3.mine, .int .u64 f3.yours, .int .u64 f3.a, .int .u64 f3.b, .int .i64 f3.inode, .int .u64 f3.iseq, .int .i64 f3.ioff, .int .i64 f3.bn.node, .int .u64 f3.bn.seq, .int .i64 f3.bn.off, .int .i64 f3.bn.dest, .int .i64 f3.bn.prio, .int .i64 f3.bn.born, .int .i64 f3.bn.life, .int .i64 f3.bn.total, .string f3.bn.data] 51)
  replace k7 := k7.alloc (.cells #[.int .i64 f3.kind, .int .i64 f3.frm, .int .i64 f3.to, .int .u64 f3.mine, .int .u64 f3.yours, .int .u64 f3.a, .int .u64 f3.b, .int .i64 f3.inode, .int .u64 f3.iseq, .int .i64 f3.ioff, .int .i64 f3.bn.node, .int .u64 f3.bn.seq, .int .i64 f3.bn.off, .int .i64 f3.bn.dest, .int .i64 f3.bn.prio, .int .i64 f3.bn.born, .int .i64 f3.bn.life, .int .i64 f3.bn.total, .string f3.bn.data] 51)
  replace k12 := k12.alloc (.cells #[.int .i64 f3.kind, .int .i64 f3.frm, .int .i64 f3.to, .int .u64 f3.mine, .int .u64 f3.yours, .int .u64 f3.a, .int .u64 f3.b, .int .i64 f3.inode, .int .u64 f3.iseq, .int .i64 f3.ioff, .int .i64 f3.bn.node, .int .u64 f3.bn.seq, .int .i64 f3.bn.off, .int .i64 f3.bn.dest, .int .i64 f3.bn.prio, .int .i64 f3.bn.born, .int .i64 f3.bn.life, .int .i64 f3.bn.total, .string f3.bn.data] 51)
  replace k14 := k14.alloc (.cells #[.int .i64 f3.kind, .int .i64 f3.frm, .int .i64 f3.to, .int .u64 f3.mine, .int .u64 f3.yours, .int .u64 f3.a, .int .u64 f3.b, .int .i64 f3.inode, .int .u64 f3.iseq, .int .i64 f3.ioff, .int .i64 f3.bn.node, .int .u64 f3.bn.seq, .int .i64 f3.bn.off, .int .i64 f3.bn.dest, .int .i64 f3.bn.prio, .int .i64 f3.bn.born, .int .i64 f3.bn.life, .int .i64 f3.bn.total, .string f3.bn.data] 51)
  replace k16 := k16.alloc (.cells #[.int .i64 f3.kind, .int .i64 f3.frm, .int .i64 f3.to, .int .u64 f3.mine, .int .u64 f3.yours, .int .u64 f3.a, .int .u64 f3.b, .int .i64 f3.inode, .int .u64 f3.iseq, .int .i64 f3.ioff, .int .i64 f3.bn.node, .int .u64 f3.bn.seq, .int .i64 f3.bn.off, .int .i64 f3.bn.dest, .int .i64 f3.bn.prio, .int .i64 f3.bn.born, .int .i64 f3.bn.life, .int .i64 f3.bn.total, .string f3.bn.data] 51)
  replace k17 := k17.alloc (.cells #[.int .i64 f3.kind, .int .i64 f3.frm, .int .i64 f3.to, .int .u64 f3.mine, .int .u64 f3.yours, .int .u64 f3.a, .int .u64 f3.b, .int .i64 f3.inode, .int .u64 f3.iseq, .int .i64 f3.ioff, .int .i64 f3.bn.node, .int .u64 f3.bn.seq, .int .i64 f3.bn.off, .int .i64 f3.bn.dest, .int .i64 f3.bn.prio, .int .i64 f3.bn.born, .int .i64 f3.bn.life, .int .i64 f3.bn.total, .string f3.bn.data] 51)
  replace k18 := k18.alloc (.cells #[.int .i64 f3.kind, .int .i64 f3.frm, .int .i64 f3.to, .int .u64 f3.mine, .int .u64 f3.yours, .int .u64 f3.a, .int .u64 f3.b, .int .i64 f3.inode, .int .u64 f3.iseq, .int .i64 f3.ioff, .int .i64 f3.bn.node, .int .u64 f3.bn.seq, .int .i64 f3.bn.off, .int .i64 f3.bn.dest, .int .i64 f3.bn.prio, .int .i64 f3.bn.born, .int .i64 f3.bn.life, .int .i64 f3.bn.total, .string f3.bn.data] 51)
  replace k19 := k19.alloc (.cells #[.int .i64 f3.kind, .int .i64 f3.frm, .int .i64 f3.to, .int .u64 f3.mine, .int .u64 f3.yours, .int .u64 f3.a, .int .u64 f3.b, .int .i64 f3.inode, .int .u64 f3.iseq, .int .i64 f3.ioff, .int .i64 f3.bn.node, .int .u64 f3.bn.seq, .int .i64 f3.bn.off, .int .i64 f3.bn.dest, .int .i64 f3.bn.prio, .int .i64 f3.bn.born, .int .i64 f3.bn.life, .int .i64 f3.bn.total, .string f3.bn.data] 51)
  replace k20 := k20.alloc (.cells #[.int .i64 f3.kind, .int .i64 f3.frm, .int .i64 f3.to, .int .u64 f3.mine, .int .u64 f3.yours, .int .u64 f3.a, .int .u64 f3.b, .int .i64 f3.inode, .int .u64 f3.iseq, .int .i64 f3.ioff, .int .i64 f3.bn.node, .int .u64 f3.bn.seq, .int .i64 f3.bn.off, .int .i64 f3.bn.dest, .int .i64 f3.bn.prio, .int .i64 f3.bn.born, .int .i64 f3.bn.life, .int .i64 f3.bn.total, .string f3.bn.data] 51)
  replace RX := RX.below (bal (Below.refl _ _) (.cells #[.int .i64 f3.kind, .int .i64 f3.frm, .int .i64 f3.to, .int .u64 f3.mine, .int .u64 f3.yours, .int .u64 f3.a, .int .u64 f3.b, .int .i64 f3.inode, .int .u64 f3.iseq, .int .i64 f3.ioff, .int .i64 f3.bn.node, .int .u64 f3.bn.seq, .int .i64 f3.bn.off, .int .i64 f3.bn.dest, .int .i64 f3.bn.prio, .int .i64 f3.bn.born, .int .i64 f3.bn.life, .int .i64 f3.bn.total, .string f3.bn.data] 51))
  replace RA := RA.below (bal (Below.refl _ _) (.cells #[.int .i64 f3.kind, .int .i64 f3.frm, .int .i64 f3.to, .int .u64 f3.mine, .int .u64 f3.yours, .int .u64 f3.a, .int .u64 f3.b, .int .i64 f3.inode, .int .u64 f3.iseq, .int .i64 f3.ioff, .int .i64 f3.bn.node, .int .u64 f3.bn.seq, .int .i64 f3.bn.off, .int .i64 f3.bn.dest, .int .i64 f3.bn.prio, .int .i64 f3.bn.born, .int .i64 f3.bn.life, .int .i64 f3.bn.total, .string f3.bn.data] 51))
  replace RB := RB.below (bal (Below.refl _ _) (.cells #[.int .i64 f3.kind, .int .i64 f3.frm, .int .i64 f3.to, .int .u64 f3.mine, .int .u64 f3.yours, .int .u64 f3.a, .int .u64 f3.b, .int .i64 f3.inode, .int .u64 f3.iseq, .int .i64 f3.ioff, .int .i64 f3.bn.node, .int .u64 f3.bn.seq, .int .i64 f3.bn.off, .int .i64 f3.bn.dest, .int .i64 f3.bn.prio, .int .i64 f3.bn.born, .int .i64 f3.bn.life, .int .i64 f3.bn.total, .string f3.bn.data] 51))
  have hl0 := k0.lt
  have hl7 := k7.lt
  have hl12 := k12.lt
  have hl14 := k14.lt
  have hl16 := k16.lt
  have hl17 := k17.lt
  have hl18 := k18.lt
  have hl19 := k19.lt
  have hl20 := k20.lt
  go_upto_region 16 with (first | (refine wpList_alloc_z (by rfl) 51 (by rfl) _ rfl #[.int .i64 0, .int .i64 0, .int .i64 0, .int .u64 0, .int .u64 0, .int .u64 0, .int .u64 0, .int .i64 0, .int .u64 0, .int .i64 0, .int .i64 0, .int .u64 0, .int .i64 0, .int .i64 0, .int .i64 0, .int .i64 0, .int .i64 0, .int .i64 0, .string ⟨#[]⟩] zeroFr ?_) | (refine wpList_store_new (by rfl) 51 _ _ (by rfl) v21 #[.int .i64 0, .int .i64 0, .int .i64 0, .int .u64 0, .int .u64 0, .int .u64 0, .int .u64 0, .int .i64 0, .int .u64 0, .int .i64 0, .int .i64 0, .int .u64 0, .int .i64 0, .int .i64 0, .int .i64 0, .int .i64 0, .int .i64 0, .int .i64 0, .string ⟨#[]⟩] #[.int .i64 f3.kind, .int .i64 f3.frm, .int .i64 f3.to, .int .u64 f3.mine, .int .u64 f3.yours, .int .u64 f3.a, .int .u64 f3.b, .int .i64 f3.inode, .int .u64 f3.iseq, .int .i64 f3.ioff, .int .i64 f3.bn.node, .int .u64 f3.bn.seq, .int .i64 f3.bn.off, .int .i64 f3.bn.dest, .int .i64 f3.bn.prio, .int .i64 f3.bn.born, .int .i64 f3.bn.life, .int .i64 f3.bn.total, .string f3.bn.data] rfl (by rfl) (by rfl) (by kernel_rfl) rfl (one19 ..) ?_))
  clear hl0 hl7 hl12 hl14 hl16 hl17 hl18 hl19 hl20
  have k22 := Blk.new v21 51 #[.int .i64 f3.kind, .int .i64 f3.frm, .int .i64 f3.to, .int .u64 f3.mine, .int .u64 f3.yours, .int .u64 f3.a, .int .u64 f3.b, .int .i64 f3.inode, .int .u64 f3.iseq, .int .i64 f3.ioff, .int .i64 f3.bn.node, .int .u64 f3.bn.seq, .int .i64 f3.bn.off, .int .i64 f3.bn.dest, .int .i64 f3.bn.prio, .int .i64 f3.bn.born, .int .i64 f3.bn.life, .int .i64 f3.bn.total, .string f3.bn.data]
  replace hB := bal hB (.cells #[.int .i64 f3.kind, .int .i64 f3.frm, .int .i64 f3.to, .int .u64 f3.mine, .int .u64 f3.yours, .int .u64 f3.a, .int .u64 f3.b, .int .i64 f3.inode, .int .u64 f3.iseq, .int .i64 f3.ioff, .int .i64 f3.bn.node, .int .u64 f3.bn.seq, .int .i64 f3.bn.off, .int .i64 f3.bn.dest, .int .i64 f3.bn.prio, .int .i64 f3.bn.born, .int .i64 f3.bn.life, .int .i64 f3.bn.total, .string f3.bn.data] 51)
  obtain ⟨g22, hg⟩ : ∃ g22, v21.heap.size = g22 := ⟨_, rfl⟩
  rw [hg] at k22 ⊢
  clear hg
  generalize v21.alloc (.cells #[.int .i64 f3.kind, .int .i64 f3.frm, .int .i64 f3.to, .int .u64 f3.mine, .int .u64 f3.yours, .int .u64 f3.a, .int .u64 f3.b, .int .i64 f3.inode, .int .u64 f3.iseq, .int .i64 f3.ioff, .int .i64 f3.bn.node, .int .u64 f3.bn.seq, .int .i64 f3.bn.off, .int .i64 f3.bn.dest, .int .i64 f3.bn.prio, .int .i64 f3.bn.born, .int .i64 f3.bn.life, .int .i64 f3.bn.total, .string f3.bn.data] 51) = v22 at k0 k7 k12 k14 k16 k17 k18 k19 k20 k22 hB RX RA RB ⊢
  have hl0 := k0.lt
  have hl7 := k7.lt
  have hl12 := k12.lt
  have hl14 := k14.lt
  have hl16 := k16.lt
  have hl17 := k17.lt
  have hl18 := k18.lt
  have hl19 := k19.lt
  have hl20 := k20.lt
  have hl22 := k22.lt
  go_wp2_with (first | (refine wpList_ldrow (by rfl) 31 _ (by rfl) g0 (by rfl) 31 #[.int .i64 p.node, .int .u64 p.theirs, .bool p.sure, .int .u64 p.old, .int .u64 p.s.g, .int .u64 p.s.n, .int .u64 p.s.r, .slice A0 p.s.sl.length a0, .int .u64 p.r.g, .int .u64 p.r.r, .int .u64 p.r.fl, .slice B0 p.r.tk.length b0, .slice C0 p.r.kp.length c0] (0, 0) _ k0 Try.underlying31 (by rfl) (by kernel_rfl) ?_) | (refine wpList_ldrow (by rfl) 31 _ (by rfl) g7 (by rfl) 31 #[.int .i64 p.node, .int .u64 p.theirs, .bool p.sure, .int .u64 p.old, .int .u64 p.s.g, .int .u64 p.s.n, .int .u64 p.s.r, .slice A1 p.s.sl.length a1, .int .u64 p.r.g, .int .u64 p.r.r, .int .u64 p.r.fl, .slice B1 p.r.tk.length b1, .slice C1 p.r.kp.length c1] (0, 0) _ k7 Try.underlying31 (by rfl) (by kernel_rfl) ?_) | (refine wpList_ldrow (by rfl) 31 _ (by rfl) g12 (by rfl) 31 #[.int .i64 q.node, .int .u64 q.theirs, .bool q.sure, .int .u64 q.old, .int .u64 q.s.g, .int .u64 q.s.n, .int .u64 q.s.r, .slice A2 q.s.sl.length a2, .int .u64 q.r.g, .int .u64 q.r.r, .int .u64 q.r.fl, .slice B2 q.r.tk.length b2, .slice C2 q.r.kp.length c2] (0, 0) _ k12 Try.underlying31 (by rfl) (by kernel_rfl) ?_) | (refine wpList_ldrow (by rfl) 31 _ (by rfl) g14 (by rfl) 31 #[.int .i64 q.node, .int .u64 q.theirs, .bool q.sure, .int .u64 q.old, .int .u64 q.s.g, .int .u64 q.s.n, .int .u64 q.s.r, .slice A3 q.s.sl.length a3, .int .u64 q.r.g, .int .u64 q.r.r, .int .u64 q.r.fl, .slice B3 q.r.tk.length b3, .slice C3 q.r.kp.length c3] (0, 0) _ k14 Try.underlying31 (by rfl) (by kernel_rfl) ?_) | (refine wpList_ldrow (by rfl) 51 _ (by rfl) g16 (by rfl) 51 #[.int .i64 f1.kind, .int .i64 f1.frm, .int .i64 f1.to, .int .u64 f1.mine, .int .u64 f1.yours, .int .u64 f1.a, .int .u64 f1.b, .int .i64 f1.inode, .int .u64 f1.iseq, .int .i64 f1.ioff, .int .i64 f1.bn.node, .int .u64 f1.bn.seq, .int .i64 f1.bn.off, .int .i64 f1.bn.dest, .int .i64 f1.bn.prio, .int .i64 f1.bn.born, .int .i64 f1.bn.life, .int .i64 f1.bn.total, .string f1.bn.data] (0, 0) _ k16 Try.underlying51 (by rfl) (by kernel_rfl) ?_) | (refine wpList_ldrow (by rfl) 51 _ (by rfl) g17 (by rfl) 51 #[.int .i64 f1.kind, .int .i64 f1.frm, .int .i64 f1.to, .int .u64 f1.mine, .int .u64 f1.yours, .int .u64 f1.a, .int .u64 f1.b, .int .i64 f1.inode, .int .u64 f1.iseq, .int .i64 f1.ioff, .int .i64 f1.bn.node, .int .u64 f1.bn.seq, .int .i64 f1.bn.off, .int .i64 f1.bn.dest, .int .i64 f1.bn.prio, .int .i64 f1.bn.born, .int .i64 f1.bn.life, .int .i64 f1.bn.total, .string f1.bn.data] (0, 0) _ k17 Try.underlying51 (by rfl) (by kernel_rfl) ?_) | (refine wpList_ldrow (by rfl) 51 _ (by rfl) g18 (by rfl) 51 #[.int .i64 f2.kind, .int .i64 f2.frm, .int .i64 f2.to, .int .u64 f2.mine, .int .u64 f2.yours, .int .u64 f2.a, .int .u64 f2.b, .int .i64 f2.inode, .int .u64 f2.iseq, .int .i64 f2.ioff, .int .i64 f2.bn.node, .int .u64 f2.bn.seq, .int .i64 f2.bn.off, .int .i64 f2.bn.dest, .int .i64 f2.bn.prio, .int .i64 f2.bn.born, .int .i64 f2.bn.life, .int .i64 f2.bn.total, .string f2.bn.data] (0, 0) _ k18 Try.underlying51 (by rfl) (by kernel_rfl) ?_) | (refine wpList_ldrow (by rfl) 51 _ (by rfl) g19 (by rfl) 51 #[.int .i64 f2.kind, .int .i64 f2.frm, .int .i64 f2.to, .int .u64 f2.mine, .int .u64 f2.yours, .int .u64 f2.a, .int .u64 f2.b, .int .i64 f2.inode, .int .u64 f2.iseq, .int .i64 f2.ioff, .int .i64 f2.bn.node, .int .u64 f2.bn.seq, .int .i64 f2.bn.off, .int .i64 f2.bn.dest, .int .i64 f2.bn.prio, .int .i64 f2.bn.born, .int .i64 f2.bn.life, .int .i64 f2.bn.total, .string f2.bn.data] (0, 0) _ k19 Try.underlying51 (by rfl) (by kernel_rfl) ?_) | (refine wpList_ldrow (by rfl) 51 _ (by rfl) g20 (by rfl) 51 #[.int .i64 f3.kind, .int .i64 f3.frm, .int .i64 f3.to, .int .u64 f3.mine, .int .u64 f3.yours, .int .u64 f3.a, .int .u64 f3.b, .int .i64 f3.inode, .int .u64 f3.iseq, .int .i64 f3.ioff, .int .i64 f3.bn.node, .int .u64 f3.bn.seq, .int .i64 f3.bn.off, .int .i64 f3.bn.dest, .int .i64 f3.bn.prio, .int .i64 f3.bn.born, .int .i64 f3.bn.life, .int .i64 f3.bn.total, .string f3.bn.data] (0, 0) _ k20 Try.underlying51 (by rfl) (by kernel_rfl) ?_) | (refine wpList_ldrow (by rfl) 51 _ (by rfl) g22 (by rfl) 51 #[.int .i64 f3.kind, .int .i64 f3.frm, .int .i64 f3.to, .int .u64 f3.mine, .int .u64 f3.yours, .int .u64 f3.a, .int .u64 f3.b, .int .i64 f3.inode, .int .u64 f3.iseq, .int .i64 f3.ioff, .int .i64 f3.bn.node, .int .u64 f3.bn.seq, .int .i64 f3.bn.off, .int .i64 f3.bn.dest, .int .i64 f3.bn.prio, .int .i64 f3.bn.born, .int .i64 f3.bn.life, .int .i64 f3.bn.total, .string f3.bn.data] (0, 0) _ k22 Try.underlying51 (by rfl) (by kernel_rfl) ?_) | (refine wpList_binX (by rfl) .eql 51 _ _ _ (.agg #[.int .i64 f1.kind, .int .i64 f1.frm, .int .i64 f1.to, .int .u64 f1.mine, .int .u64 f1.yours, .int .u64 f1.a, .int .u64 f1.b, .int .i64 f1.inode, .int .u64 f1.iseq, .int .i64 f1.ioff, .int .i64 f1.bn.node, .int .u64 f1.bn.seq, .int .i64 f1.bn.off, .int .i64 f1.bn.dest, .int .i64 f1.bn.prio, .int .i64 f1.bn.born, .int .i64 f1.bn.life, .int .i64 f1.bn.total, .string f1.bn.data]) (.agg #[.int .i64 f1.kind, .int .i64 f1.frm, .int .i64 f1.to, .int .u64 f1.mine, .int .u64 f1.yours, .int .u64 f1.a, .int .u64 f1.b, .int .i64 f1.inode, .int .u64 f1.iseq, .int .i64 f1.ioff, .int .i64 f1.bn.node, .int .u64 f1.bn.seq, .int .i64 f1.bn.off, .int .i64 f1.bn.dest, .int .i64 f1.bn.prio, .int .i64 f1.bn.born, .int .i64 f1.bn.life, .int .i64 f1.bn.total, .string f1.bn.data]) (.bool true) (by rfl) (by rfl) (by rfl) (fun w => grdFrE _ _ _ _ w) (fun w => run_eq_fr0 _ _ _ _ _ _ _ _ _ _ _ _ _ _ _ _ _ _ _ w) ?_) | (refine wpList_binX (by rfl) .eql 51 _ _ _ (.agg #[.int .i64 f2.kind, .int .i64 f2.frm, .int .i64 f2.to, .int .u64 f2.mine, .int .u64 f2.yours, .int .u64 f2.a, .int .u64 f2.b, .int .i64 f2.inode, .int .u64 f2.iseq, .int .i64 f2.ioff, .int .i64 f2.bn.node, .int .u64 f2.bn.seq, .int .i64 f2.bn.off, .int .i64 f2.bn.dest, .int .i64 f2.bn.prio, .int .i64 f2.bn.born, .int .i64 f2.bn.life, .int .i64 f2.bn.total, .string f2.bn.data]) (.agg #[.int .i64 f2.kind, .int .i64 f2.frm, .int .i64 f2.to, .int .u64 f2.mine, .int .u64 f2.yours, .int .u64 f2.a, .int .u64 f2.b, .int .i64 f2.inode, .int .u64 f2.iseq, .int .i64 f2.ioff, .int .i64 f2.bn.node, .int .u64 f2.bn.seq, .int .i64 f2.bn.off, .int .i64 f2.bn.dest, .int .i64 f2.bn.prio, .int .i64 f2.bn.born, .int .i64 f2.bn.life, .int .i64 f2.bn.total, .string f2.bn.data]) (.bool true) (by rfl) (by rfl) (by rfl) (fun w => grdFrE _ _ _ _ w) (fun w => run_eq_fr0 _ _ _ _ _ _ _ _ _ _ _ _ _ _ _ _ _ _ _ w) ?_) | (refine wpList_binX (by rfl) .eql 51 _ _ _ (.agg #[.int .i64 f3.kind, .int .i64 f3.frm, .int .i64 f3.to, .int .u64 f3.mine, .int .u64 f3.yours, .int .u64 f3.a, .int .u64 f3.b, .int .i64 f3.inode, .int .u64 f3.iseq, .int .i64 f3.ioff, .int .i64 f3.bn.node, .int .u64 f3.bn.seq, .int .i64 f3.bn.off, .int .i64 f3.bn.dest, .int .i64 f3.bn.prio, .int .i64 f3.bn.born, .int .i64 f3.bn.life, .int .i64 f3.bn.total, .string f3.bn.data]) (.agg #[.int .i64 f3.kind, .int .i64 f3.frm, .int .i64 f3.to, .int .u64 f3.mine, .int .u64 f3.yours, .int .u64 f3.a, .int .u64 f3.b, .int .i64 f3.inode, .int .u64 f3.iseq, .int .i64 f3.ioff, .int .i64 f3.bn.node, .int .u64 f3.bn.seq, .int .i64 f3.bn.off, .int .i64 f3.bn.dest, .int .i64 f3.bn.prio, .int .i64 f3.bn.born, .int .i64 f3.bn.life, .int .i64 f3.bn.total, .string f3.bn.data]) (.bool true) (by rfl) (by rfl) (by rfl) (fun w => grdFrE _ _ _ _ w) (fun w => run_eq_fr0 _ _ _ _ _ _ _ _ _ _ _ _ _ _ _ _ _ _ _ w) ?_))
  refine (SamePeer_same p _ _ _ RX (HV'.out.below hB)).mono ?_
  rintro e v23 ⟨rfl, hb⟩
  replace k0 := k0.below hb
  replace k7 := k7.below hb
  replace k12 := k12.below hb
  replace k14 := k14.below hb
  replace k16 := k16.below hb
  replace k17 := k17.below hb
  replace k18 := k18.below hb
  replace k19 := k19.below hb
  replace k20 := k20.below hb
  replace k22 := k22.below hb
  replace RX := RX.below hb
  replace RA := RA.below hb
  replace RB := RB.below hb
  have hB2 := bnext hB hb
  clear hB hb hl0 hl7 hl12 hl14 hl16 hl17 hl18 hl19 hl20 hl22
  have hB := hB2
  clear hB2
  have hl0 := k0.lt
  have hl7 := k7.lt
  have hl12 := k12.lt
  have hl14 := k14.lt
  have hl16 := k16.lt
  have hl17 := k17.lt
  have hl18 := k18.lt
  have hl19 := k19.lt
  have hl20 := k20.lt
  have hl22 := k22.lt
  go_wp2_with (first | (refine wpList_ldrow (by rfl) 31 _ (by rfl) g0 (by rfl) 31 #[.int .i64 p.node, .int .u64 p.theirs, .bool p.sure, .int .u64 p.old, .int .u64 p.s.g, .int .u64 p.s.n, .int .u64 p.s.r, .slice A0 p.s.sl.length a0, .int .u64 p.r.g, .int .u64 p.r.r, .int .u64 p.r.fl, .slice B0 p.r.tk.length b0, .slice C0 p.r.kp.length c0] (0, 0) _ k0 Try.underlying31 (by rfl) (by kernel_rfl) ?_) | (refine wpList_ldrow (by rfl) 31 _ (by rfl) g7 (by rfl) 31 #[.int .i64 p.node, .int .u64 p.theirs, .bool p.sure, .int .u64 p.old, .int .u64 p.s.g, .int .u64 p.s.n, .int .u64 p.s.r, .slice A1 p.s.sl.length a1, .int .u64 p.r.g, .int .u64 p.r.r, .int .u64 p.r.fl, .slice B1 p.r.tk.length b1, .slice C1 p.r.kp.length c1] (0, 0) _ k7 Try.underlying31 (by rfl) (by kernel_rfl) ?_) | (refine wpList_ldrow (by rfl) 31 _ (by rfl) g12 (by rfl) 31 #[.int .i64 q.node, .int .u64 q.theirs, .bool q.sure, .int .u64 q.old, .int .u64 q.s.g, .int .u64 q.s.n, .int .u64 q.s.r, .slice A2 q.s.sl.length a2, .int .u64 q.r.g, .int .u64 q.r.r, .int .u64 q.r.fl, .slice B2 q.r.tk.length b2, .slice C2 q.r.kp.length c2] (0, 0) _ k12 Try.underlying31 (by rfl) (by kernel_rfl) ?_) | (refine wpList_ldrow (by rfl) 31 _ (by rfl) g14 (by rfl) 31 #[.int .i64 q.node, .int .u64 q.theirs, .bool q.sure, .int .u64 q.old, .int .u64 q.s.g, .int .u64 q.s.n, .int .u64 q.s.r, .slice A3 q.s.sl.length a3, .int .u64 q.r.g, .int .u64 q.r.r, .int .u64 q.r.fl, .slice B3 q.r.tk.length b3, .slice C3 q.r.kp.length c3] (0, 0) _ k14 Try.underlying31 (by rfl) (by kernel_rfl) ?_) | (refine wpList_ldrow (by rfl) 51 _ (by rfl) g16 (by rfl) 51 #[.int .i64 f1.kind, .int .i64 f1.frm, .int .i64 f1.to, .int .u64 f1.mine, .int .u64 f1.yours, .int .u64 f1.a, .int .u64 f1.b, .int .i64 f1.inode, .int .u64 f1.iseq, .int .i64 f1.ioff, .int .i64 f1.bn.node, .int .u64 f1.bn.seq, .int .i64 f1.bn.off, .int .i64 f1.bn.dest, .int .i64 f1.bn.prio, .int .i64 f1.bn.born, .int .i64 f1.bn.life, .int .i64 f1.bn.total, .string f1.bn.data] (0, 0) _ k16 Try.underlying51 (by rfl) (by kernel_rfl) ?_) | (refine wpList_ldrow (by rfl) 51 _ (by rfl) g17 (by rfl) 51 #[.int .i64 f1.kind, .int .i64 f1.frm, .int .i64 f1.to, .int .u64 f1.mine, .int .u64 f1.yours, .int .u64 f1.a, .int .u64 f1.b, .int .i64 f1.inode, .int .u64 f1.iseq, .int .i64 f1.ioff, .int .i64 f1.bn.node, .int .u64 f1.bn.seq, .int .i64 f1.bn.off, .int .i64 f1.bn.dest, .int .i64 f1.bn.prio, .int .i64 f1.bn.born, .int .i64 f1.bn.life, .int .i64 f1.bn.total, .string f1.bn.data] (0, 0) _ k17 Try.underlying51 (by rfl) (by kernel_rfl) ?_) | (refine wpList_ldrow (by rfl) 51 _ (by rfl) g18 (by rfl) 51 #[.int .i64 f2.kind, .int .i64 f2.frm, .int .i64 f2.to, .int .u64 f2.mine, .int .u64 f2.yours, .int .u64 f2.a, .int .u64 f2.b, .int .i64 f2.inode, .int .u64 f2.iseq, .int .i64 f2.ioff, .int .i64 f2.bn.node, .int .u64 f2.bn.seq, .int .i64 f2.bn.off, .int .i64 f2.bn.dest, .int .i64 f2.bn.prio, .int .i64 f2.bn.born, .int .i64 f2.bn.life, .int .i64 f2.bn.total, .string f2.bn.data] (0, 0) _ k18 Try.underlying51 (by rfl) (by kernel_rfl) ?_) | (refine wpList_ldrow (by rfl) 51 _ (by rfl) g19 (by rfl) 51 #[.int .i64 f2.kind, .int .i64 f2.frm, .int .i64 f2.to, .int .u64 f2.mine, .int .u64 f2.yours, .int .u64 f2.a, .int .u64 f2.b, .int .i64 f2.inode, .int .u64 f2.iseq, .int .i64 f2.ioff, .int .i64 f2.bn.node, .int .u64 f2.bn.seq, .int .i64 f2.bn.off, .int .i64 f2.bn.dest, .int .i64 f2.bn.prio, .int .i64 f2.bn.born, .int .i64 f2.bn.life, .int .i64 f2.bn.total, .string f2.bn.data] (0, 0) _ k19 Try.underlying51 (by rfl) (by kernel_rfl) ?_) | (refine wpList_ldrow (by rfl) 51 _ (by rfl) g20 (by rfl) 51 #[.int .i64 f3.kind, .int .i64 f3.frm, .int .i64 f3.to, .int .u64 f3.mine, .int .u64 f3.yours, .int .u64 f3.a, .int .u64 f3.b, .int .i64 f3.inode, .int .u64 f3.iseq, .int .i64 f3.ioff, .int .i64 f3.bn.node, .int .u64 f3.bn.seq, .int .i64 f3.bn.off, .int .i64 f3.bn.dest, .int .i64 f3.bn.prio, .int .i64 f3.bn.born, .int .i64 f3.bn.life, .int .i64 f3.bn.total, .string f3.bn.data] (0, 0) _ k20 Try.underlying51 (by rfl) (by kernel_rfl) ?_) | (refine wpList_ldrow (by rfl) 51 _ (by rfl) g22 (by rfl) 51 #[.int .i64 f3.kind, .int .i64 f3.frm, .int .i64 f3.to, .int .u64 f3.mine, .int .u64 f3.yours, .int .u64 f3.a, .int .u64 f3.b, .int .i64 f3.inode, .int .u64 f3.iseq, .int .i64 f3.ioff, .int .i64 f3.bn.node, .int .u64 f3.bn.seq, .int .i64 f3.bn.off, .int .i64 f3.bn.dest, .int .i64 f3.bn.prio, .int .i64 f3.bn.born, .int .i64 f3.bn.life, .int .i64 f3.bn.total, .string f3.bn.data] (0, 0) _ k22 Try.underlying51 (by rfl) (by kernel_rfl) ?_))
  refine (awake_any _).mono ?_
  rintro e v24 ⟨rfl, hb⟩
  replace k0 := k0.below hb
  replace k7 := k7.below hb
  replace k12 := k12.below hb
  replace k14 := k14.below hb
  replace k16 := k16.below hb
  replace k17 := k17.below hb
  replace k18 := k18.below hb
  replace k19 := k19.below hb
  replace k20 := k20.below hb
  replace k22 := k22.below hb
  replace RX := RX.below hb
  replace RA := RA.below hb
  replace RB := RB.below hb
  have hB2 := bnext hB hb
  clear hB hb hl0 hl7 hl12 hl14 hl16 hl17 hl18 hl19 hl20 hl22
  have hB := hB2
  clear hB2
  go_wp2_with fail
  go_ret
  exact ⟨rfl, hB⟩

theorem PeerFrames_t (p : Pr) (hw : WfP p) (node boot : Int) (V : Value) (w : World) (hV : PrAt w V p) :
    Calls Try.prog 10 #[V, .int .i64 node, .int .u64 boot] w (RetB true w) := by
  have LG := fun w' (hb : Below w.heap.size w w') => large_any p V w' (hV.below hb)
  have HV := hV
  obtain ⟨vs, vt, vk, rfl, hs1, hs2, hs3⟩ := hV
  obtain ⟨As, cs, rfl⟩ := hs1.form
  obtain ⟨Bs, ds, rfl⟩ := hs2.form
  obtain ⟨Cs, es, rfl⟩ := hs3.form
  obtain ⟨ls, hls⟩ : ∃ ls, decide (110 < p.s.sl.length ∨ 60 < p.r.tk.length ∨ 60 < p.r.kp.length) = ls := ⟨_, rfl⟩
  rw [hls] at LG
  cases ls
  · have hl : ¬ (110 < p.s.sl.length ∨ 60 < p.r.tk.length ∨ 60 < p.r.kp.length) := of_decide_eq_false hls
    exact pf_2 p _ _ _ _ _ _ node boot w LG (fun w' hb => OwnPeer_any p (by omega) (by omega) (by omega) _ w' (HV.below hb)) _ _ (fun V w' h => pHeld_any p hw V w' h) (fun V w' h => rHeld_any p hw V w' h) _ _ (fun V w' h => Restart_any p hw V w' h) (fun V w' h => rRestart_any p hw V w' h) (gfr p node boot 1 0 0) (gfr p node boot 2 p.r.g 0) (gfr p node boot 4 (flE p.s) p.s.r) (begE p node boot 1) (begE p node boot 2) (begE p node boot 4)
      (fun V w' h => Hello_any p hw node boot V w' h) (fun V w' h => rHello_any p hw node boot V w' h) (fun V w' h => Grant_any p hw node boot V w' h) (fun V w' h => rGrant_any p hw node boot V w' h) (fun V w' h => Report_any p hw node boot V w' h) (fun V w' h => rReport_any p hw node boot V w' h) HV
  · exact pf_1 p _ _ _ _ _ _ node boot w LG

end Go.Proofs.Ytfgkkflbpfocjaa

