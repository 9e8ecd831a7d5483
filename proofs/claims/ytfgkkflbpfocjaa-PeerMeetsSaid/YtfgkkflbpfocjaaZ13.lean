/- The frames' reference: the check of a frame. -/
import Derived.Test.YtfgkkflbpfocjaaZ12
namespace Go.Proofs.Ytfgkkflbpfocjaa
open Go.RowKit
set_option linter.unusedVariables false
set_option linter.unusedSimpArgs false

theorem yieldsIf_bin {P : Program} {ops : Array Oper} {S : World → Prop} {op : Oper} {a : Act} (o : BinOp) (xT : TypeId) (x y : Operand) (r : TypeId) (vx vy v : Value) (hw : Region.wanted op (yielded ops a.tmps) = true) (ho : op.op = .binOp o xT x y r) (hx : a.eval x = vx) (hy : a.eval y = vy)
    (hg : ∀ w, (eqGuard o xT x y vx vy).run P w = .ok () w) (h : ∀ w, (binOp o xT vx vy).run P w = .ok v w) : YieldsIf P ops S op v a :=
  .inl ⟨hw, fun w _ => by
    unfold execOp
    simp only [ho, hx, hy, Sem.run_bind, Result.andThen_ok, hg, h, Sem.run_pure]⟩
theorem guardFr (x y : Operand) (a b : Array Value) (w : World) : (eqGuard .neq 51 x y (.agg a) (.agg b)).run Try.prog w = .ok () w := by kernel_rfl
theorem guardFrE (x y : Operand) (a b : Array Value) (w : World) : (eqGuard .eql 51 x y (.agg a) (.agg b)).run Try.prog w = .ok () w := by kernel_rfl

set_option maxRecDepth 100000 in
set_option maxHeartbeats 4000000 in
theorem rfc_k1 (kind frm tto mine yours fa fb inode iseq ioff bnode bseq boff dest prio born life total : Int) (data : ByteArray) (w : World) (h : kind < 1) : Calls Try.prog 58 #[.agg #[.int .i64 kind, .int .i64 frm, .int .i64 tto, .int .u64 mine, .int .u64 yours, .int .u64 fa, .int .u64 fb, .int .i64 inode, .int .u64 iseq, .int .i64 ioff, .int .i64 bnode, .int .u64 bseq, .int .i64 boff, .int .i64 dest, .int .i64 prio, .int .i64 born, .int .i64 life, .int .i64 total, .string data]] w (RetI .i64 7 w) := by
  go_enter Try.func58, Try.ntmps58
  go_upto_region 1 with fail
  have k0 : Blk (w.alloc (.cells #[.int .i64 kind, .int .i64 frm, .int .i64 tto, .int .u64 mine, .int .u64 yours, .int .u64 fa, .int .u64 fb, .int .i64 inode, .int .u64 iseq, .int .i64 ioff, .int .i64 bnode, .int .u64 bseq, .int .i64 boff, .int .i64 dest, .int .i64 prio, .int .i64 born, .int .i64 life, .int .i64 total, .string data] 51)) w.heap.size 51 #[.int .i64 kind, .int .i64 frm, .int .i64 tto, .int .u64 mine, .int .u64 yours, .int .u64 fa, .int .u64 fb, .int .i64 inode, .int .u64 iseq, .int .i64 ioff, .int .i64 bnode, .int .u64 bseq, .int .i64 boff, .int .i64 dest, .int .i64 prio, .int .i64 born, .int .i64 life, .int .i64 total, .string data] := Blk.new w 51 #[.int .i64 kind, .int .i64 frm, .int .i64 tto, .int .u64 mine, .int .u64 yours, .int .u64 fa, .int .u64 fb, .int .i64 inode, .int .u64 iseq, .int .i64 ioff, .int .i64 bnode, .int .u64 bseq, .int .i64 boff, .int .i64 dest, .int .i64 prio, .int .i64 born, .int .i64 life, .int .i64 total, .string data]
  have hB := bal (Below.refl w.heap.size w) (.cells #[.int .i64 kind, .int .i64 frm, .int .i64 tto, .int .u64 mine, .int .u64 yours, .int .u64 fa, .int .u64 fb, .int .i64 inode, .int .u64 iseq, .int .i64 ioff, .int .i64 bnode, .int .u64 bseq, .int .i64 boff, .int .i64 dest, .int .i64 prio, .int .i64 born, .int .i64 life, .int .i64 total, .string data] 51)
  obtain ⟨g0, hg0⟩ : ∃ g0, w.heap.size = g0 := ⟨_, rfl⟩
  rw [hg0] at k0 ⊢
  have HG := Lib.hid hg0
  clear hg0
  generalize w.alloc (.cells #[.int .i64 kind, .int .i64 frm, .int .i64 tto, .int .u64 mine, .int .u64 yours, .int .u64 fa, .int .u64 fb, .int .i64 inode, .int .u64 iseq, .int .i64 ioff, .int .i64 bnode, .int .u64 bseq, .int .i64 boff, .int .i64 dest, .int .i64 prio, .int .i64 born, .int .i64 life, .int .i64 total, .string data] 51) = w1 at k0 hB ⊢
  have y0 : w1.cell? ⟨g0, 0, none⟩ = some (.int .i64 kind) := k0.cell 0
  have HB := Lib.hid hB
  clear hB k0
  go_wp2_with fail
  go_ret
  exact ⟨rfl, HB.out⟩

set_option maxRecDepth 100000 in
set_option maxHeartbeats 4000000 in
theorem rfc_k2 (kind frm tto mine yours fa fb inode iseq ioff bnode bseq boff dest prio born life total : Int) (data : ByteArray) (w : World) (h0 : ¬ kind < 1) (h : 7 < kind) : Calls Try.prog 58 #[.agg #[.int .i64 kind, .int .i64 frm, .int .i64 tto, .int .u64 mine, .int .u64 yours, .int .u64 fa, .int .u64 fb, .int .i64 inode, .int .u64 iseq, .int .i64 ioff, .int .i64 bnode, .int .u64 bseq, .int .i64 boff, .int .i64 dest, .int .i64 prio, .int .i64 born, .int .i64 life, .int .i64 total, .string data]] w (RetI .i64 7 w) := by
  go_enter Try.func58, Try.ntmps58
  go_upto_region 1 with fail
  have k0 : Blk (w.alloc (.cells #[.int .i64 kind, .int .i64 frm, .int .i64 tto, .int .u64 mine, .int .u64 yours, .int .u64 fa, .int .u64 fb, .int .i64 inode, .int .u64 iseq, .int .i64 ioff, .int .i64 bnode, .int .u64 bseq, .int .i64 boff, .int .i64 dest, .int .i64 prio, .int .i64 born, .int .i64 life, .int .i64 total, .string data] 51)) w.heap.size 51 #[.int .i64 kind, .int .i64 frm, .int .i64 tto, .int .u64 mine, .int .u64 yours, .int .u64 fa, .int .u64 fb, .int .i64 inode, .int .u64 iseq, .int .i64 ioff, .int .i64 bnode, .int .u64 bseq, .int .i64 boff, .int .i64 dest, .int .i64 prio, .int .i64 born, .int .i64 life, .int .i64 total, .string data] := Blk.new w 51 #[.int .i64 kind, .int .i64 frm, .int .i64 tto, .int .u64 mine, .int .u64 yours, .int .u64 fa, .int .u64 fb, .int .i64 inode, .int .u64 iseq, .int .i64 ioff, .int .i64 bnode, .int .u64 bseq, .int .i64 boff, .int .i64 dest, .int .i64 prio, .int .i64 born, .int .i64 life, .int .i64 total, .string data]
  have hB := bal (Below.refl w.heap.size w) (.cells #[.int .i64 kind, .int .i64 frm, .int .i64 tto, .int .u64 mine, .int .u64 yours, .int .u64 fa, .int .u64 fb, .int .i64 inode, .int .u64 iseq, .int .i64 ioff, .int .i64 bnode, .int .u64 bseq, .int .i64 boff, .int .i64 dest, .int .i64 prio, .int .i64 born, .int .i64 life, .int .i64 total, .string data] 51)
  obtain ⟨g0, hg0⟩ : ∃ g0, w.heap.size = g0 := ⟨_, rfl⟩
  rw [hg0] at k0 ⊢
  have HG := Lib.hid hg0
  clear hg0
  generalize w.alloc (.cells #[.int .i64 kind, .int .i64 frm, .int .i64 tto, .int .u64 mine, .int .u64 yours, .int .u64 fa, .int .u64 fb, .int .i64 inode, .int .u64 iseq, .int .i64 ioff, .int .i64 bnode, .int .u64 bseq, .int .i64 boff, .int .i64 dest, .int .i64 prio, .int .i64 born, .int .i64 life, .int .i64 total, .string data] 51) = w1 at k0 hB ⊢
  have y0 : w1.cell? ⟨g0, 0, none⟩ = some (.int .i64 kind) := k0.cell 0
  have HB := Lib.hid hB
  clear hB k0
  go_wp2_with fail
  go_ret
  exact ⟨rfl, HB.out⟩

set_option maxRecDepth 100000 in
set_option maxHeartbeats 4000000 in
theorem rfc_o1 (kind frm tto mine yours fa fb inode iseq ioff bnode bseq boff dest prio born life total : Int) (data : ByteArray) (w : World) (k1 : ¬ kind < 1) (k2 : ¬ kind > 7)  (o0 : frm < 1) : Calls Try.prog 58 #[.agg #[.int .i64 kind, .int .i64 frm, .int .i64 tto, .int .u64 mine, .int .u64 yours, .int .u64 fa, .int .u64 fb, .int .i64 inode, .int .u64 iseq, .int .i64 ioff, .int .i64 bnode, .int .u64 bseq, .int .i64 boff, .int .i64 dest, .int .i64 prio, .int .i64 born, .int .i64 life, .int .i64 total, .string data]] w (RetI .i64 2 w) := by
  go_enter Try.func58, Try.ntmps58
  go_upto_region 1 with fail
  have k0 : Blk (w.alloc (.cells #[.int .i64 kind, .int .i64 frm, .int .i64 tto, .int .u64 mine, .int .u64 yours, .int .u64 fa, .int .u64 fb, .int .i64 inode, .int .u64 iseq, .int .i64 ioff, .int .i64 bnode, .int .u64 bseq, .int .i64 boff, .int .i64 dest, .int .i64 prio, .int .i64 born, .int .i64 life, .int .i64 total, .string data] 51)) w.heap.size 51 #[.int .i64 kind, .int .i64 frm, .int .i64 tto, .int .u64 mine, .int .u64 yours, .int .u64 fa, .int .u64 fb, .int .i64 inode, .int .u64 iseq, .int .i64 ioff, .int .i64 bnode, .int .u64 bseq, .int .i64 boff, .int .i64 dest, .int .i64 prio, .int .i64 born, .int .i64 life, .int .i64 total, .string data] := Blk.new w 51 #[.int .i64 kind, .int .i64 frm, .int .i64 tto, .int .u64 mine, .int .u64 yours, .int .u64 fa, .int .u64 fb, .int .i64 inode, .int .u64 iseq, .int .i64 ioff, .int .i64 bnode, .int .u64 bseq, .int .i64 boff, .int .i64 dest, .int .i64 prio, .int .i64 born, .int .i64 life, .int .i64 total, .string data]
  have hB := bal (Below.refl w.heap.size w) (.cells #[.int .i64 kind, .int .i64 frm, .int .i64 tto, .int .u64 mine, .int .u64 yours, .int .u64 fa, .int .u64 fb, .int .i64 inode, .int .u64 iseq, .int .i64 ioff, .int .i64 bnode, .int .u64 bseq, .int .i64 boff, .int .i64 dest, .int .i64 prio, .int .i64 born, .int .i64 life, .int .i64 total, .string data] 51)
  obtain ⟨g0, hg0⟩ : ∃ g0, w.heap.size = g0 := ⟨_, rfl⟩
  rw [hg0] at k0 ⊢
  have HG := Lib.hid hg0
  clear hg0
  generalize w.alloc (.cells #[.int .i64 kind, .int .i64 frm, .int .i64 tto, .int .u64 mine, .int .u64 yours, .int .u64 fa, .int .u64 fb, .int .i64 inode, .int .u64 iseq, .int .i64 ioff, .int .i64 bnode, .int .u64 bseq, .int .i64 boff, .int .i64 dest, .int .i64 prio, .int .i64 born, .int .i64 life, .int .i64 total, .string data] 51) = w1 at k0 hB ⊢
  have y0 : w1.cell? ⟨g0, 0, none⟩ = some (.int .i64 kind) := k0.cell 0
  have y1 : w1.cell? ⟨g0, 1, none⟩ = some (.int .i64 frm) := k0.cell 1
  have y2 : w1.cell? ⟨g0, 2, none⟩ = some (.int .i64 tto) := k0.cell 2
  have y3 : w1.cell? ⟨g0, 3, none⟩ = some (.int .u64 mine) := k0.cell 3
  have y4 : w1.cell? ⟨g0, 4, none⟩ = some (.int .u64 yours) := k0.cell 4
  have HB := Lib.hid hB
  clear hB k0
  go_wp2_with fail
  go_ret
  exact ⟨rfl, HB.out⟩

set_option maxRecDepth 100000 in
set_option maxHeartbeats 4000000 in
theorem rfc_o2 (kind frm tto mine yours fa fb inode iseq ioff bnode bseq boff dest prio born life total : Int) (data : ByteArray) (w : World) (k1 : ¬ kind < 1) (k2 : ¬ kind > 7) (o0 : ¬ frm < 1) (o1 : frm > 16) : Calls Try.prog 58 #[.agg #[.int .i64 kind, .int .i64 frm, .int .i64 tto, .int .u64 mine, .int .u64 yours, .int .u64 fa, .int .u64 fb, .int .i64 inode, .int .u64 iseq, .int .i64 ioff, .int .i64 bnode, .int .u64 bseq, .int .i64 boff, .int .i64 dest, .int .i64 prio, .int .i64 born, .int .i64 life, .int .i64 total, .string data]] w (RetI .i64 2 w) := by
  go_enter Try.func58, Try.ntmps58
  go_upto_region 1 with fail
  have k0 : Blk (w.alloc (.cells #[.int .i64 kind, .int .i64 frm, .int .i64 tto, .int .u64 mine, .int .u64 yours, .int .u64 fa, .int .u64 fb, .int .i64 inode, .int .u64 iseq, .int .i64 ioff, .int .i64 bnode, .int .u64 bseq, .int .i64 boff, .int .i64 dest, .int .i64 prio, .int .i64 born, .int .i64 life, .int .i64 total, .string data] 51)) w.heap.size 51 #[.int .i64 kind, .int .i64 frm, .int .i64 tto, .int .u64 mine, .int .u64 yours, .int .u64 fa, .int .u64 fb, .int .i64 inode, .int .u64 iseq, .int .i64 ioff, .int .i64 bnode, .int .u64 bseq, .int .i64 boff, .int .i64 dest, .int .i64 prio, .int .i64 born, .int .i64 life, .int .i64 total, .string data] := Blk.new w 51 #[.int .i64 kind, .int .i64 frm, .int .i64 tto, .int .u64 mine, .int .u64 yours, .int .u64 fa, .int .u64 fb, .int .i64 inode, .int .u64 iseq, .int .i64 ioff, .int .i64 bnode, .int .u64 bseq, .int .i64 boff, .int .i64 dest, .int .i64 prio, .int .i64 born, .int .i64 life, .int .i64 total, .string data]
  have hB := bal (Below.refl w.heap.size w) (.cells #[.int .i64 kind, .int .i64 frm, .int .i64 tto, .int .u64 mine, .int .u64 yours, .int .u64 fa, .int .u64 fb, .int .i64 inode, .int .u64 iseq, .int .i64 ioff, .int .i64 bnode, .int .u64 bseq, .int .i64 boff, .int .i64 dest, .int .i64 prio, .int .i64 born, .int .i64 life, .int .i64 total, .string data] 51)
  obtain ⟨g0, hg0⟩ : ∃ g0, w.heap.size = g0 := ⟨_, rfl⟩
  rw [hg0] at k0 ⊢
  have HG := Lib.hid hg0
  clear hg0
  generalize w.alloc (.cells #[.int .i64 kind, .int .i64 frm, .int .i64 tto, .int .u64 mine, .int .u64 yours, .int .u64 fa, .int .u64 fb, .int .i64 inode, .int .u64 iseq, .int .i64 ioff, .int .i64 bnode, .int .u64 bseq, .int .i64 boff, .int .i64 dest, .int .i64 prio, .int .i64 born, .int .i64 life, .int .i64 total, .string data] 51) = w1 at k0 hB ⊢
  have y0 : w1.cell? ⟨g0, 0, none⟩ = some (.int .i64 kind) := k0.cell 0
  have y1 : w1.cell? ⟨g0, 1, none⟩ = some (.int .i64 frm) := k0.cell 1
  have y2 : w1.cell? ⟨g0, 2, none⟩ = some (.int .i64 tto) := k0.cell 2
  have y3 : w1.cell? ⟨g0, 3, none⟩ = some (.int .u64 mine) := k0.cell 3
  have y4 : w1.cell? ⟨g0, 4, none⟩ = some (.int .u64 yours) := k0.cell 4
  have HB := Lib.hid hB
  clear hB k0
  go_wp2_with fail
  go_ret
  exact ⟨rfl, HB.out⟩

set_option maxRecDepth 100000 in
set_option maxHeartbeats 4000000 in
theorem rfc_o3 (kind frm tto mine yours fa fb inode iseq ioff bnode bseq boff dest prio born life total : Int) (data : ByteArray) (w : World) (k1 : ¬ kind < 1) (k2 : ¬ kind > 7) (o0 : ¬ frm < 1) (o1 : ¬ frm > 16) (o2 : tto < 1) : Calls Try.prog 58 #[.agg #[.int .i64 kind, .int .i64 frm, .int .i64 tto, .int .u64 mine, .int .u64 yours, .int .u64 fa, .int .u64 fb, .int .i64 inode, .int .u64 iseq, .int .i64 ioff, .int .i64 bnode, .int .u64 bseq, .int .i64 boff, .int .i64 dest, .int .i64 prio, .int .i64 born, .int .i64 life, .int .i64 total, .string data]] w (RetI .i64 2 w) := by
  go_enter Try.func58, Try.ntmps58
  go_upto_region 1 with fail
  have k0 : Blk (w.alloc (.cells #[.int .i64 kind, .int .i64 frm, .int .i64 tto, .int .u64 mine, .int .u64 yours, .int .u64 fa, .int .u64 fb, .int .i64 inode, .int .u64 iseq, .int .i64 ioff, .int .i64 bnode, .int .u64 bseq, .int .i64 boff, .int .i64 dest, .int .i64 prio, .int .i64 born, .int .i64 life, .int .i64 total, .string data] 51)) w.heap.size 51 #[.int .i64 kind, .int .i64 frm, .int .i64 tto, .int .u64 mine, .int .u64 yours, .int .u64 fa, .int .u64 fb, .int .i64 inode, .int .u64 iseq, .int .i64 ioff, .int .i64 bnode, .int .u64 bseq, .int .i64 boff, .int .i64 dest, .int .i64 prio, .int .i64 born, .int .i64 life, .int .i64 total, .string data] := Blk.new w 51 #[.int .i64 kind, .int .i64 frm, .int .i64 tto, .int .u64 mine, .int .u64 yours, .int .u64 fa, .int .u64 fb, .int .i64 inode, .int .u64 iseq, .int .i64 ioff, .int .i64 bnode, .int .u64 bseq, .int .i64 boff, .int .i64 dest, .int .i64 prio, .int .i64 born, .int .i64 life, .int .i64 total, .string data]
  have hB := bal (Below.refl w.heap.size w) (.cells #[.int .i64 kind, .int .i64 frm, .int .i64 tto, .int .u64 mine, .int .u64 yours, .int .u64 fa, .int .u64 fb, .int .i64 inode, .int .u64 iseq, .int .i64 ioff, .int .i64 bnode, .int .u64 bseq, .int .i64 boff, .int .i64 dest, .int .i64 prio, .int .i64 born, .int .i64 life, .int .i64 total, .string data] 51)
  obtain ⟨g0, hg0⟩ : ∃ g0, w.heap.size = g0 := ⟨_, rfl⟩
  rw [hg0] at k0 ⊢
  have HG := Lib.hid hg0
  clear hg0
  generalize w.alloc (.cells #[.int .i64 kind, .int .i64 frm, .int .i64 tto, .int .u64 mine, .int .u64 yours, .int .u64 fa, .int .u64 fb, .int .i64 inode, .int .u64 iseq, .int .i64 ioff, .int .i64 bnode, .int .u64 bseq, .int .i64 boff, .int .i64 dest, .int .i64 prio, .int .i64 born, .int .i64 life, .int .i64 total, .string data] 51) = w1 at k0 hB ⊢
  have y0 : w1.cell? ⟨g0, 0, none⟩ = some (.int .i64 kind) := k0.cell 0
  have y1 : w1.cell? ⟨g0, 1, none⟩ = some (.int .i64 frm) := k0.cell 1
  have y2 : w1.cell? ⟨g0, 2, none⟩ = some (.int .i64 tto) := k0.cell 2
  have y3 : w1.cell? ⟨g0, 3, none⟩ = some (.int .u64 mine) := k0.cell 3
  have y4 : w1.cell? ⟨g0, 4, none⟩ = some (.int .u64 yours) := k0.cell 4
  have HB := Lib.hid hB
  clear hB k0
  go_wp2_with fail
  go_ret
  exact ⟨rfl, HB.out⟩

set_option maxRecDepth 100000 in
set_option maxHeartbeats 4000000 in
theorem rfc_o4 (kind frm tto mine yours fa fb inode iseq ioff bnode bseq boff dest prio born life total : Int) (data : ByteArray) (w : World) (k1 : ¬ kind < 1) (k2 : ¬ kind > 7) (o0 : ¬ frm < 1) (o1 : ¬ frm > 16) (o2 : ¬ tto < 1) (o3 : tto > 16) : Calls Try.prog 58 #[.agg #[.int .i64 kind, .int .i64 frm, .int .i64 tto, .int .u64 mine, .int .u64 yours, .int .u64 fa, .int .u64 fb, .int .i64 inode, .int .u64 iseq, .int .i64 ioff, .int .i64 bnode, .int .u64 bseq, .int .i64 boff, .int .i64 dest, .int .i64 prio, .int .i64 born, .int .i64 life, .int .i64 total, .string data]] w (RetI .i64 2 w) := by
  go_enter Try.func58, Try.ntmps58
  go_upto_region 1 with fail
  have k0 : Blk (w.alloc (.cells #[.int .i64 kind, .int .i64 frm, .int .i64 tto, .int .u64 mine, .int .u64 yours, .int .u64 fa, .int .u64 fb, .int .i64 inode, .int .u64 iseq, .int .i64 ioff, .int .i64 bnode, .int .u64 bseq, .int .i64 boff, .int .i64 dest, .int .i64 prio, .int .i64 born, .int .i64 life, .int .i64 total, .string data] 51)) w.heap.size 51 #[.int .i64 kind, .int .i64 frm, .int .i64 tto, .int .u64 mine, .int .u64 yours, .int .u64 fa, .int .u64 fb, .int .i64 inode, .int .u64 iseq, .int .i64 ioff, .int .i64 bnode, .int .u64 bseq, .int .i64 boff, .int .i64 dest, .int .i64 prio, .int .i64 born, .int .i64 life, .int .i64 total, .string data] := Blk.new w 51 #[.int .i64 kind, .int .i64 frm, .int .i64 tto, .int .u64 mine, .int .u64 yours, .int .u64 fa, .int .u64 fb, .int .i64 inode, .int .u64 iseq, .int .i64 ioff, .int .i64 bnode, .int .u64 bseq, .int .i64 boff, .int .i64 dest, .int .i64 prio, .int .i64 born, .int .i64 life, .int .i64 total, .string data]
  have hB := bal (Below.refl w.heap.size w) (.cells #[.int .i64 kind, .int .i64 frm, .int .i64 tto, .int .u64 mine, .int .u64 yours, .int .u64 fa, .int .u64 fb, .int .i64 inode, .int .u64 iseq, .int .i64 ioff, .int .i64 bnode, .int .u64 bseq, .int .i64 boff, .int .i64 dest, .int .i64 prio, .int .i64 born, .int .i64 life, .int .i64 total, .string data] 51)
  obtain ⟨g0, hg0⟩ : ∃ g0, w.heap.size = g0 := ⟨_, rfl⟩
  rw [hg0] at k0 ⊢
  have HG := Lib.hid hg0
  clear hg0
  generalize w.alloc (.cells #[.int .i64 kind, .int .i64 frm, .int .i64 tto, .int .u64 mine, .int .u64 yours, .int .u64 fa, .int .u64 fb, .int .i64 inode, .int .u64 iseq, .int .i64 ioff, .int .i64 bnode, .int .u64 bseq, .int .i64 boff, .int .i64 dest, .int .i64 prio, .int .i64 born, .int .i64 life, .int .i64 total, .string data] 51) = w1 at k0 hB ⊢
  have y0 : w1.cell? ⟨g0, 0, none⟩ = some (.int .i64 kind) := k0.cell 0
  have y1 : w1.cell? ⟨g0, 1, none⟩ = some (.int .i64 frm) := k0.cell 1
  have y2 : w1.cell? ⟨g0, 2, none⟩ = some (.int .i64 tto) := k0.cell 2
  have y3 : w1.cell? ⟨g0, 3, none⟩ = some (.int .u64 mine) := k0.cell 3
  have y4 : w1.cell? ⟨g0, 4, none⟩ = some (.int .u64 yours) := k0.cell 4
  have HB := Lib.hid hB
  clear hB k0
  go_wp2_with fail
  go_ret
  exact ⟨rfl, HB.out⟩

set_option maxRecDepth 100000 in
set_option maxHeartbeats 4000000 in
theorem rfc_o5 (kind frm tto mine yours fa fb inode iseq ioff bnode bseq boff dest prio born life total : Int) (data : ByteArray) (w : World) (k1 : ¬ kind < 1) (k2 : ¬ kind > 7) (o0 : ¬ frm < 1) (o1 : ¬ frm > 16) (o2 : ¬ tto < 1) (o3 : ¬ tto > 16) (o4 : (frm == tto) = true) : Calls Try.prog 58 #[.agg #[.int .i64 kind, .int .i64 frm, .int .i64 tto, .int .u64 mine, .int .u64 yours, .int .u64 fa, .int .u64 fb, .int .i64 inode, .int .u64 iseq, .int .i64 ioff, .int .i64 bnode, .int .u64 bseq, .int .i64 boff, .int .i64 dest, .int .i64 prio, .int .i64 born, .int .i64 life, .int .i64 total, .string data]] w (RetI .i64 2 w) := by
  go_enter Try.func58, Try.ntmps58
  go_upto_region 1 with fail
  have k0 : Blk (w.alloc (.cells #[.int .i64 kind, .int .i64 frm, .int .i64 tto, .int .u64 mine, .int .u64 yours, .int .u64 fa, .int .u64 fb, .int .i64 inode, .int .u64 iseq, .int .i64 ioff, .int .i64 bnode, .int .u64 bseq, .int .i64 boff, .int .i64 dest, .int .i64 prio, .int .i64 born, .int .i64 life, .int .i64 total, .string data] 51)) w.heap.size 51 #[.int .i64 kind, .int .i64 frm, .int .i64 tto, .int .u64 mine, .int .u64 yours, .int .u64 fa, .int .u64 fb, .int .i64 inode, .int .u64 iseq, .int .i64 ioff, .int .i64 bnode, .int .u64 bseq, .int .i64 boff, .int .i64 dest, .int .i64 prio, .int .i64 born, .int .i64 life, .int .i64 total, .string data] := Blk.new w 51 #[.int .i64 kind, .int .i64 frm, .int .i64 tto, .int .u64 mine, .int .u64 yours, .int .u64 fa, .int .u64 fb, .int .i64 inode, .int .u64 iseq, .int .i64 ioff, .int .i64 bnode, .int .u64 bseq, .int .i64 boff, .int .i64 dest, .int .i64 prio, .int .i64 born, .int .i64 life, .int .i64 total, .string data]
  have hB := bal (Below.refl w.heap.size w) (.cells #[.int .i64 kind, .int .i64 frm, .int .i64 tto, .int .u64 mine, .int .u64 yours, .int .u64 fa, .int .u64 fb, .int .i64 inode, .int .u64 iseq, .int .i64 ioff, .int .i64 bnode, .int .u64 bseq, .int .i64 boff, .int .i64 dest, .int .i64 prio, .int .i64 born, .int .i64 life, .int .i64 total, .string data] 51)
  obtain ⟨g0, hg0⟩ : ∃ g0, w.heap.size = g0 := ⟨_, rfl⟩
  rw [hg0] at k0 ⊢
  have HG := Lib.hid hg0
  clear hg0
  generalize w.alloc (.cells #[.int .i64 kind, .int .i64 frm, .int .i64 tto, .int .u64 mine, .int .u64 yours, .int .u64 fa, .int .u64 fb, .int .i64 inode, .int .u64 iseq, .int .i64 ioff, .int .i64 bnode, .int .u64 bseq, .int .i64 boff, .int .i64 dest, .int .i64 prio, .int .i64 born, .int .i64 life, .int .i64 total, .string data] 51) = w1 at k0 hB ⊢
  have y0 : w1.cell? ⟨g0, 0, none⟩ = some (.int .i64 kind) := k0.cell 0
  have y1 : w1.cell? ⟨g0, 1, none⟩ = some (.int .i64 frm) := k0.cell 1
  have y2 : w1.cell? ⟨g0, 2, none⟩ = some (.int .i64 tto) := k0.cell 2
  have y3 : w1.cell? ⟨g0, 3, none⟩ = some (.int .u64 mine) := k0.cell 3
  have y4 : w1.cell? ⟨g0, 4, none⟩ = some (.int .u64 yours) := k0.cell 4
  have HB := Lib.hid hB
  clear hB k0
  go_wp2_with fail
  go_ret
  exact ⟨rfl, HB.out⟩

set_option maxRecDepth 100000 in
set_option maxHeartbeats 4000000 in
theorem rfc_o6 (kind frm tto mine yours fa fb inode iseq ioff bnode bseq boff dest prio born life total : Int) (data : ByteArray) (w : World) (k1 : ¬ kind < 1) (k2 : ¬ kind > 7) (o0 : ¬ frm < 1) (o1 : ¬ frm > 16) (o2 : ¬ tto < 1) (o3 : ¬ tto > 16) (o4 : (frm == tto) = false) (o5 : mine < 1) : Calls Try.prog 58 #[.agg #[.int .i64 kind, .int .i64 frm, .int .i64 tto, .int .u64 mine, .int .u64 yours, .int .u64 fa, .int .u64 fb, .int .i64 inode, .int .u64 iseq, .int .i64 ioff, .int .i64 bnode, .int .u64 bseq, .int .i64 boff, .int .i64 dest, .int .i64 prio, .int .i64 born, .int .i64 life, .int .i64 total, .string data]] w (RetI .i64 2 w) := by
  go_enter Try.func58, Try.ntmps58
  go_upto_region 1 with fail
  have k0 : Blk (w.alloc (.cells #[.int .i64 kind, .int .i64 frm, .int .i64 tto, .int .u64 mine, .int .u64 yours, .int .u64 fa, .int .u64 fb, .int .i64 inode, .int .u64 iseq, .int .i64 ioff, .int .i64 bnode, .int .u64 bseq, .int .i64 boff, .int .i64 dest, .int .i64 prio, .int .i64 born, .int .i64 life, .int .i64 total, .string data] 51)) w.heap.size 51 #[.int .i64 kind, .int .i64 frm, .int .i64 tto, .int .u64 mine, .int .u64 yours, .int .u64 fa, .int .u64 fb, .int .i64 inode, .int .u64 iseq, .int .i64 ioff, .int .i64 bnode, .int .u64 bseq, .int .i64 boff, .int .i64 dest, .int .i64 prio, .int .i64 born, .int .i64 life, .int .i64 total, .string data] := Blk.new w 51 #[.int .i64 kind, .int .i64 frm, .int .i64 tto, .int .u64 mine, .int .u64 yours, .int .u64 fa, .int .u64 fb, .int .i64 inode, .int .u64 iseq, .int .i64 ioff, .int .i64 bnode, .int .u64 bseq, .int .i64 boff, .int .i64 dest, .int .i64 prio, .int .i64 born, .int .i64 life, .int .i64 total, .string data]
  have hB := bal (Below.refl w.heap.size w) (.cells #[.int .i64 kind, .int .i64 frm, .int .i64 tto, .int .u64 mine, .int .u64 yours, .int .u64 fa, .int .u64 fb, .int .i64 inode, .int .u64 iseq, .int .i64 ioff, .int .i64 bnode, .int .u64 bseq, .int .i64 boff, .int .i64 dest, .int .i64 prio, .int .i64 born, .int .i64 life, .int .i64 total, .string data] 51)
  obtain ⟨g0, hg0⟩ : ∃ g0, w.heap.size = g0 := ⟨_, rfl⟩
  rw [hg0] at k0 ⊢
  have HG := Lib.hid hg0
  clear hg0
  generalize w.alloc (.cells #[.int .i64 kind, .int .i64 frm, .int .i64 tto, .int .u64 mine, .int .u64 yours, .int .u64 fa, .int .u64 fb, .int .i64 inode, .int .u64 iseq, .int .i64 ioff, .int .i64 bnode, .int .u64 bseq, .int .i64 boff, .int .i64 dest, .int .i64 prio, .int .i64 born, .int .i64 life, .int .i64 total, .string data] 51) = w1 at k0 hB ⊢
  have y0 : w1.cell? ⟨g0, 0, none⟩ = some (.int .i64 kind) := k0.cell 0
  have y1 : w1.cell? ⟨g0, 1, none⟩ = some (.int .i64 frm) := k0.cell 1
  have y2 : w1.cell? ⟨g0, 2, none⟩ = some (.int .i64 tto) := k0.cell 2
  have y3 : w1.cell? ⟨g0, 3, none⟩ = some (.int .u64 mine) := k0.cell 3
  have y4 : w1.cell? ⟨g0, 4, none⟩ = some (.int .u64 yours) := k0.cell 4
  have HB := Lib.hid hB
  clear hB k0
  go_wp2_with fail
  go_ret
  exact ⟨rfl, HB.out⟩

set_option maxRecDepth 100000 in
set_option maxHeartbeats 4000000 in
theorem rfc_o7 (kind frm tto mine yours fa fb inode iseq ioff bnode bseq boff dest prio born life total : Int) (data : ByteArray) (w : World) (k1 : ¬ kind < 1) (k2 : ¬ kind > 7) (o0 : ¬ frm < 1) (o1 : ¬ frm > 16) (o2 : ¬ tto < 1) (o3 : ¬ tto > 16) (o4 : (frm == tto) = false) (o5 : ¬ mine < 1) (o6 : mine > 1099511627776) : Calls Try.prog 58 #[.agg #[.int .i64 kind, .int .i64 frm, .int .i64 tto, .int .u64 mine, .int .u64 yours, .int .u64 fa, .int .u64 fb, .int .i64 inode, .int .u64 iseq, .int .i64 ioff, .int .i64 bnode, .int .u64 bseq, .int .i64 boff, .int .i64 dest, .int .i64 prio, .int .i64 born, .int .i64 life, .int .i64 total, .string data]] w (RetI .i64 2 w) := by
  go_enter Try.func58, Try.ntmps58
  go_upto_region 1 with fail
  have k0 : Blk (w.alloc (.cells #[.int .i64 kind, .int .i64 frm, .int .i64 tto, .int .u64 mine, .int .u64 yours, .int .u64 fa, .int .u64 fb, .int .i64 inode, .int .u64 iseq, .int .i64 ioff, .int .i64 bnode, .int .u64 bseq, .int .i64 boff, .int .i64 dest, .int .i64 prio, .int .i64 born, .int .i64 life, .int .i64 total, .string data] 51)) w.heap.size 51 #[.int .i64 kind, .int .i64 frm, .int .i64 tto, .int .u64 mine, .int .u64 yours, .int .u64 fa, .int .u64 fb, .int .i64 inode, .int .u64 iseq, .int .i64 ioff, .int .i64 bnode, .int .u64 bseq, .int .i64 boff, .int .i64 dest, .int .i64 prio, .int .i64 born, .int .i64 life, .int .i64 total, .string data] := Blk.new w 51 #[.int .i64 kind, .int .i64 frm, .int .i64 tto, .int .u64 mine, .int .u64 yours, .int .u64 fa, .int .u64 fb, .int .i64 inode, .int .u64 iseq, .int .i64 ioff, .int .i64 bnode, .int .u64 bseq, .int .i64 boff, .int .i64 dest, .int .i64 prio, .int .i64 born, .int .i64 life, .int .i64 total, .string data]
  have hB := bal (Below.refl w.heap.size w) (.cells #[.int .i64 kind, .int .i64 frm, .int .i64 tto, .int .u64 mine, .int .u64 yours, .int .u64 fa, .int .u64 fb, .int .i64 inode, .int .u64 iseq, .int .i64 ioff, .int .i64 bnode, .int .u64 bseq, .int .i64 boff, .int .i64 dest, .int .i64 prio, .int .i64 born, .int .i64 life, .int .i64 total, .string data] 51)
  obtain ⟨g0, hg0⟩ : ∃ g0, w.heap.size = g0 := ⟨_, rfl⟩
  rw [hg0] at k0 ⊢
  have HG := Lib.hid hg0
  clear hg0
  generalize w.alloc (.cells #[.int .i64 kind, .int .i64 frm, .int .i64 tto, .int .u64 mine, .int .u64 yours, .int .u64 fa, .int .u64 fb, .int .i64 inode, .int .u64 iseq, .int .i64 ioff, .int .i64 bnode, .int .u64 bseq, .int .i64 boff, .int .i64 dest, .int .i64 prio, .int .i64 born, .int .i64 life, .int .i64 total, .string data] 51) = w1 at k0 hB ⊢
  have y0 : w1.cell? ⟨g0, 0, none⟩ = some (.int .i64 kind) := k0.cell 0
  have y1 : w1.cell? ⟨g0, 1, none⟩ = some (.int .i64 frm) := k0.cell 1
  have y2 : w1.cell? ⟨g0, 2, none⟩ = some (.int .i64 tto) := k0.cell 2
  have y3 : w1.cell? ⟨g0, 3, none⟩ = some (.int .u64 mine) := k0.cell 3
  have y4 : w1.cell? ⟨g0, 4, none⟩ = some (.int .u64 yours) := k0.cell 4
  have HB := Lib.hid hB
  clear hB k0
  go_wp2_with fail
  go_ret
  exact ⟨rfl, HB.out⟩

set_option maxRecDepth 100000 in
set_option maxHeartbeats 4000000 in
theorem rfc_o8 (kind frm tto mine yours fa fb inode iseq ioff bnode bseq boff dest prio born life total : Int) (data : ByteArray) (w : World) (k1 : ¬ kind < 1) (k2 : ¬ kind > 7) (o0 : ¬ frm < 1) (o1 : ¬ frm > 16) (o2 : ¬ tto < 1) (o3 : ¬ tto > 16) (o4 : (frm == tto) = false) (o5 : ¬ mine < 1) (o6 : ¬ mine > 1099511627776) (o7 : yours > 1099511627776) : Calls Try.prog 58 #[.agg #[.int .i64 kind, .int .i64 frm, .int .i64 tto, .int .u64 mine, .int .u64 yours, .int .u64 fa, .int .u64 fb, .int .i64 inode, .int .u64 iseq, .int .i64 ioff, .int .i64 bnode, .int .u64 bseq, .int .i64 boff, .int .i64 dest, .int .i64 prio, .int .i64 born, .int .i64 life, .int .i64 total, .string data]] w (RetI .i64 2 w) := by
  go_enter Try.func58, Try.ntmps58
  go_upto_region 1 with fail
  have k0 : Blk (w.alloc (.cells #[.int .i64 kind, .int .i64 frm, .int .i64 tto, .int .u64 mine, .int .u64 yours, .int .u64 fa, .int .u64 fb, .int .i64 inode, .int .u64 iseq, .int .i64 ioff, .int .i64 bnode, .int .u64 bseq, .int .i64 boff, .int .i64 dest, .int .i64 prio, .int .i64 born, .int .i64 life, .int .i64 total, .string data] 51)) w.heap.size 51 #[.int .i64 kind, .int .i64 frm, .int .i64 tto, .int .u64 mine, .int .u64 yours, .int .u64 fa, .int .u64 fb, .int .i64 inode, .int .u64 iseq, .int .i64 ioff, .int .i64 bnode, .int .u64 bseq, .int .i64 boff, .int .i64 dest, .int .i64 prio, .int .i64 born, .int .i64 life, .int .i64 total, .string data] := Blk.new w 51 #[.int .i64 kind, .int .i64 frm, .int .i64 tto, .int .u64 mine, .int .u64 yours, .int .u64 fa, .int .u64 fb, .int .i64 inode, .int .u64 iseq, .int .i64 ioff, .int .i64 bnode, .int .u64 bseq, .int .i64 boff, .int .i64 dest, .int .i64 prio, .int .i64 born, .int .i64 life, .int .i64 total, .string data]
  have hB := bal (Below.refl w.heap.size w) (.cells #[.int .i64 kind, .int .i64 frm, .int .i64 tto, .int .u64 mine, .int .u64 yours, .int .u64 fa, .int .u64 fb, .int .i64 inode, .int .u64 iseq, .int .i64 ioff, .int .i64 bnode, .int .u64 bseq, .int .i64 boff, .int .i64 dest, .int .i64 prio, .int .i64 born, .int .i64 life, .int .i64 total, .string data] 51)
  obtain ⟨g0, hg0⟩ : ∃ g0, w.heap.size = g0 := ⟨_, rfl⟩
  rw [hg0] at k0 ⊢
  have HG := Lib.hid hg0
  clear hg0
  generalize w.alloc (.cells #[.int .i64 kind, .int .i64 frm, .int .i64 tto, .int .u64 mine, .int .u64 yours, .int .u64 fa, .int .u64 fb, .int .i64 inode, .int .u64 iseq, .int .i64 ioff, .int .i64 bnode, .int .u64 bseq, .int .i64 boff, .int .i64 dest, .int .i64 prio, .int .i64 born, .int .i64 life, .int .i64 total, .string data] 51) = w1 at k0 hB ⊢
  have y0 : w1.cell? ⟨g0, 0, none⟩ = some (.int .i64 kind) := k0.cell 0
  have y1 : w1.cell? ⟨g0, 1, none⟩ = some (.int .i64 frm) := k0.cell 1
  have y2 : w1.cell? ⟨g0, 2, none⟩ = some (.int .i64 tto) := k0.cell 2
  have y3 : w1.cell? ⟨g0, 3, none⟩ = some (.int .u64 mine) := k0.cell 3
  have y4 : w1.cell? ⟨g0, 4, none⟩ = some (.int .u64 yours) := k0.cell 4
  have HB := Lib.hid hB
  clear hB k0
  go_wp2_with fail
  go_ret
  exact ⟨rfl, HB.out⟩

set_option maxRecDepth 100000 in
set_option maxHeartbeats 4000000 in
theorem rfc_a (kind frm tto mine yours fa fb inode iseq ioff bnode bseq boff dest prio born life total : Int) (data : ByteArray) (w : World) (k1 : ¬ kind < 1) (k2 : ¬ kind > 7) (o0 : ¬ frm < 1) (o1 : ¬ frm > 16) (o2 : ¬ tto < 1) (o3 : ¬ tto > 16) (o4 : (frm == tto) = false) (o5 : ¬ mine < 1) (o6 : ¬ mine > 1099511627776) (o7 : ¬ yours > 1099511627776) (n1 : (kind != 1) = true) (a1 : fa > 1125899906842624) : Calls Try.prog 58 #[.agg #[.int .i64 kind, .int .i64 frm, .int .i64 tto, .int .u64 mine, .int .u64 yours, .int .u64 fa, .int .u64 fb, .int .i64 inode, .int .u64 iseq, .int .i64 ioff, .int .i64 bnode, .int .u64 bseq, .int .i64 boff, .int .i64 dest, .int .i64 prio, .int .i64 born, .int .i64 life, .int .i64 total, .string data]] w (RetI .i64 2 w) := by
  go_enter Try.func58, Try.ntmps58
  go_upto_region 1 with fail
  have k0 : Blk (w.alloc (.cells #[.int .i64 kind, .int .i64 frm, .int .i64 tto, .int .u64 mine, .int .u64 yours, .int .u64 fa, .int .u64 fb, .int .i64 inode, .int .u64 iseq, .int .i64 ioff, .int .i64 bnode, .int .u64 bseq, .int .i64 boff, .int .i64 dest, .int .i64 prio, .int .i64 born, .int .i64 life, .int .i64 total, .string data] 51)) w.heap.size 51 #[.int .i64 kind, .int .i64 frm, .int .i64 tto, .int .u64 mine, .int .u64 yours, .int .u64 fa, .int .u64 fb, .int .i64 inode, .int .u64 iseq, .int .i64 ioff, .int .i64 bnode, .int .u64 bseq, .int .i64 boff, .int .i64 dest, .int .i64 prio, .int .i64 born, .int .i64 life, .int .i64 total, .string data] := Blk.new w 51 #[.int .i64 kind, .int .i64 frm, .int .i64 tto, .int .u64 mine, .int .u64 yours, .int .u64 fa, .int .u64 fb, .int .i64 inode, .int .u64 iseq, .int .i64 ioff, .int .i64 bnode, .int .u64 bseq, .int .i64 boff, .int .i64 dest, .int .i64 prio, .int .i64 born, .int .i64 life, .int .i64 total, .string data]
  have hB := bal (Below.refl w.heap.size w) (.cells #[.int .i64 kind, .int .i64 frm, .int .i64 tto, .int .u64 mine, .int .u64 yours, .int .u64 fa, .int .u64 fb, .int .i64 inode, .int .u64 iseq, .int .i64 ioff, .int .i64 bnode, .int .u64 bseq, .int .i64 boff, .int .i64 dest, .int .i64 prio, .int .i64 born, .int .i64 life, .int .i64 total, .string data] 51)
  obtain ⟨g0, hg0⟩ : ∃ g0, w.heap.size = g0 := ⟨_, rfl⟩
  rw [hg0] at k0 ⊢
  have HG := Lib.hid hg0
  clear hg0
  generalize w.alloc (.cells #[.int .i64 kind, .int .i64 frm, .int .i64 tto, .int .u64 mine, .int .u64 yours, .int .u64 fa, .int .u64 fb, .int .i64 inode, .int .u64 iseq, .int .i64 ioff, .int .i64 bnode, .int .u64 bseq, .int .i64 boff, .int .i64 dest, .int .i64 prio, .int .i64 born, .int .i64 life, .int .i64 total, .string data] 51) = w1 at k0 hB ⊢
  have y0 : w1.cell? ⟨g0, 0, none⟩ = some (.int .i64 kind) := k0.cell 0
  have y1 : w1.cell? ⟨g0, 1, none⟩ = some (.int .i64 frm) := k0.cell 1
  have y2 : w1.cell? ⟨g0, 2, none⟩ = some (.int .i64 tto) := k0.cell 2
  have y3 : w1.cell? ⟨g0, 3, none⟩ = some (.int .u64 mine) := k0.cell 3
  have y4 : w1.cell? ⟨g0, 4, none⟩ = some (.int .u64 yours) := k0.cell 4
  have y5 : w1.cell? ⟨g0, 5, none⟩ = some (.int .u64 fa) := k0.cell 5
  have HB := Lib.hid hB
  clear hB k0
  go_wp2_with fail
  go_ret
  exact ⟨rfl, HB.out⟩

set_option maxRecDepth 100000 in
set_option maxHeartbeats 4000000 in
theorem rfc_bn (kind frm tto mine yours fa fb inode iseq ioff bnode bseq boff dest prio born life total : Int) (data : ByteArray) (w : World) (k1 : ¬ kind < 1) (k2 : ¬ kind > 7) (o0 : ¬ frm < 1) (o1 : ¬ frm > 16) (o2 : ¬ tto < 1) (o3 : ¬ tto > 16) (o4 : (frm == tto) = false) (o5 : ¬ mine < 1) (o6 : ¬ mine > 1099511627776) (o7 : ¬ yours > 1099511627776) (n1 : (kind != 1) = true) (a1 : ¬ fa > 1125899906842624) (WB : ∀ w, Calls Try.prog 95 #[.agg #[.int .i64 kind, .int .i64 frm, .int .i64 tto, .int .u64 mine, .int .u64 yours, .int .u64 fa, .int .u64 fb, .int .i64 inode, .int .u64 iseq, .int .i64 ioff, .int .i64 bnode, .int .u64 bseq, .int .i64 boff, .int .i64 dest, .int .i64 prio, .int .i64 born, .int .i64 life, .int .i64 total, .string data]] w (RetB true w)) : Calls Try.prog 58 #[.agg #[.int .i64 kind, .int .i64 frm, .int .i64 tto, .int .u64 mine, .int .u64 yours, .int .u64 fa, .int .u64 fb, .int .i64 inode, .int .u64 iseq, .int .i64 ioff, .int .i64 bnode, .int .u64 bseq, .int .i64 boff, .int .i64 dest, .int .i64 prio, .int .i64 born, .int .i64 life, .int .i64 total, .string data]] w (RetI .i64 2 w) := by
  have WB' := Lib.hid WB
  clear WB
  go_enter Try.func58, Try.ntmps58
  go_upto_region 1 with fail
  have k0 : Blk (w.alloc (.cells #[.int .i64 kind, .int .i64 frm, .int .i64 tto, .int .u64 mine, .int .u64 yours, .int .u64 fa, .int .u64 fb, .int .i64 inode, .int .u64 iseq, .int .i64 ioff, .int .i64 bnode, .int .u64 bseq, .int .i64 boff, .int .i64 dest, .int .i64 prio, .int .i64 born, .int .i64 life, .int .i64 total, .string data] 51)) w.heap.size 51 #[.int .i64 kind, .int .i64 frm, .int .i64 tto, .int .u64 mine, .int .u64 yours, .int .u64 fa, .int .u64 fb, .int .i64 inode, .int .u64 iseq, .int .i64 ioff, .int .i64 bnode, .int .u64 bseq, .int .i64 boff, .int .i64 dest, .int .i64 prio, .int .i64 born, .int .i64 life, .int .i64 total, .string data] := Blk.new w 51 #[.int .i64 kind, .int .i64 frm, .int .i64 tto, .int .u64 mine, .int .u64 yours, .int .u64 fa, .int .u64 fb, .int .i64 inode, .int .u64 iseq, .int .i64 ioff, .int .i64 bnode, .int .u64 bseq, .int .i64 boff, .int .i64 dest, .int .i64 prio, .int .i64 born, .int .i64 life, .int .i64 total, .string data]
  have hB := bal (Below.refl w.heap.size w) (.cells #[.int .i64 kind, .int .i64 frm, .int .i64 tto, .int .u64 mine, .int .u64 yours, .int .u64 fa, .int .u64 fb, .int .i64 inode, .int .u64 iseq, .int .i64 ioff, .int .i64 bnode, .int .u64 bseq, .int .i64 boff, .int .i64 dest, .int .i64 prio, .int .i64 born, .int .i64 life, .int .i64 total, .string data] 51)
  obtain ⟨g0, hg0⟩ : ∃ g0, w.heap.size = g0 := ⟨_, rfl⟩
  rw [hg0] at k0 ⊢
  have HG := Lib.hid hg0
  clear hg0
  generalize w.alloc (.cells #[.int .i64 kind, .int .i64 frm, .int .i64 tto, .int .u64 mine, .int .u64 yours, .int .u64 fa, .int .u64 fb, .int .i64 inode, .int .u64 iseq, .int .i64 ioff, .int .i64 bnode, .int .u64 bseq, .int .i64 boff, .int .i64 dest, .int .i64 prio, .int .i64 born, .int .i64 life, .int .i64 total, .string data] 51) = w1 at k0 hB ⊢
  have y0 : w1.cell? ⟨g0, 0, none⟩ = some (.int .i64 kind) := k0.cell 0
  have y1 : w1.cell? ⟨g0, 1, none⟩ = some (.int .i64 frm) := k0.cell 1
  have y2 : w1.cell? ⟨g0, 2, none⟩ = some (.int .i64 tto) := k0.cell 2
  have y3 : w1.cell? ⟨g0, 3, none⟩ = some (.int .u64 mine) := k0.cell 3
  have y4 : w1.cell? ⟨g0, 4, none⟩ = some (.int .u64 yours) := k0.cell 4
  have y5 : w1.cell? ⟨g0, 5, none⟩ = some (.int .u64 fa) := k0.cell 5
  go_wp2_with (refine wpList_load_row_g (by rfl) 51 _ (by rfl) g0 (by rfl) 51 #[.int .i64 kind, .int .i64 frm, .int .i64 tto, .int .u64 mine, .int .u64 yours, .int .u64 fa, .int .u64 fb, .int .i64 inode, .int .u64 iseq, .int .i64 ioff, .int .i64 bnode, .int .u64 bseq, .int .i64 boff, .int .i64 dest, .int .i64 prio, .int .i64 born, .int .i64 life, .int .i64 total, .string data] (0, 0) _ k0 Try.underlying51 (by rfl) (by kernel_rfl) ?_)
  refine (WB'.out _).mono ?_
  rintro e w2 ⟨rfl, hb⟩
  have hBw2 := bnext hB hb
  have k1 := k0.below hb
  clear hb hB k0 y0 y1 y2 y3 y4 y5
  have hB := hBw2
  have k0 := k1
  have hl0 := k0.lt
  clear hBw2 k1
  have HB := Lib.hid hB
  clear hB k0
  go_wp2_with fail
  go_ret
  exact ⟨rfl, HB.out⟩

set_option maxRecDepth 100000 in
set_option maxHeartbeats 4000000 in
theorem rfc_b1 (kind frm tto mine yours fa fb inode iseq ioff bnode bseq boff dest prio born life total : Int) (data : ByteArray) (w : World) (k1 : ¬ kind < 1) (k2 : ¬ kind > 7) (o0 : ¬ frm < 1) (o1 : ¬ frm > 16) (o2 : ¬ tto < 1) (o3 : ¬ tto > 16) (o4 : (frm == tto) = false) (o5 : ¬ mine < 1) (o6 : ¬ mine > 1099511627776) (o7 : ¬ yours > 1099511627776) (n1 : (kind != 1) = false) (WB : ∀ w, Calls Try.prog 95 #[.agg #[.int .i64 kind, .int .i64 frm, .int .i64 tto, .int .u64 mine, .int .u64 yours, .int .u64 fa, .int .u64 fb, .int .i64 inode, .int .u64 iseq, .int .i64 ioff, .int .i64 bnode, .int .u64 bseq, .int .i64 boff, .int .i64 dest, .int .i64 prio, .int .i64 born, .int .i64 life, .int .i64 total, .string data]] w (RetB true w)) : Calls Try.prog 58 #[.agg #[.int .i64 kind, .int .i64 frm, .int .i64 tto, .int .u64 mine, .int .u64 yours, .int .u64 fa, .int .u64 fb, .int .i64 inode, .int .u64 iseq, .int .i64 ioff, .int .i64 bnode, .int .u64 bseq, .int .i64 boff, .int .i64 dest, .int .i64 prio, .int .i64 born, .int .i64 life, .int .i64 total, .string data]] w (RetI .i64 2 w) := by
  have WB' := Lib.hid WB
  clear WB
  go_enter Try.func58, Try.ntmps58
  go_upto_region 1 with fail
  have k0 : Blk (w.alloc (.cells #[.int .i64 kind, .int .i64 frm, .int .i64 tto, .int .u64 mine, .int .u64 yours, .int .u64 fa, .int .u64 fb, .int .i64 inode, .int .u64 iseq, .int .i64 ioff, .int .i64 bnode, .int .u64 bseq, .int .i64 boff, .int .i64 dest, .int .i64 prio, .int .i64 born, .int .i64 life, .int .i64 total, .string data] 51)) w.heap.size 51 #[.int .i64 kind, .int .i64 frm, .int .i64 tto, .int .u64 mine, .int .u64 yours, .int .u64 fa, .int .u64 fb, .int .i64 inode, .int .u64 iseq, .int .i64 ioff, .int .i64 bnode, .int .u64 bseq, .int .i64 boff, .int .i64 dest, .int .i64 prio, .int .i64 born, .int .i64 life, .int .i64 total, .string data] := Blk.new w 51 #[.int .i64 kind, .int .i64 frm, .int .i64 tto, .int .u64 mine, .int .u64 yours, .int .u64 fa, .int .u64 fb, .int .i64 inode, .int .u64 iseq, .int .i64 ioff, .int .i64 bnode, .int .u64 bseq, .int .i64 boff, .int .i64 dest, .int .i64 prio, .int .i64 born, .int .i64 life, .int .i64 total, .string data]
  have hB := bal (Below.refl w.heap.size w) (.cells #[.int .i64 kind, .int .i64 frm, .int .i64 tto, .int .u64 mine, .int .u64 yours, .int .u64 fa, .int .u64 fb, .int .i64 inode, .int .u64 iseq, .int .i64 ioff, .int .i64 bnode, .int .u64 bseq, .int .i64 boff, .int .i64 dest, .int .i64 prio, .int .i64 born, .int .i64 life, .int .i64 total, .string data] 51)
  obtain ⟨g0, hg0⟩ : ∃ g0, w.heap.size = g0 := ⟨_, rfl⟩
  rw [hg0] at k0 ⊢
  have HG := Lib.hid hg0
  clear hg0
  generalize w.alloc (.cells #[.int .i64 kind, .int .i64 frm, .int .i64 tto, .int .u64 mine, .int .u64 yours, .int .u64 fa, .int .u64 fb, .int .i64 inode, .int .u64 iseq, .int .i64 ioff, .int .i64 bnode, .int .u64 bseq, .int .i64 boff, .int .i64 dest, .int .i64 prio, .int .i64 born, .int .i64 life, .int .i64 total, .string data] 51) = w1 at k0 hB ⊢
  have y0 : w1.cell? ⟨g0, 0, none⟩ = some (.int .i64 kind) := k0.cell 0
  have y1 : w1.cell? ⟨g0, 1, none⟩ = some (.int .i64 frm) := k0.cell 1
  have y2 : w1.cell? ⟨g0, 2, none⟩ = some (.int .i64 tto) := k0.cell 2
  have y3 : w1.cell? ⟨g0, 3, none⟩ = some (.int .u64 mine) := k0.cell 3
  have y4 : w1.cell? ⟨g0, 4, none⟩ = some (.int .u64 yours) := k0.cell 4
  have y5 : w1.cell? ⟨g0, 5, none⟩ = some (.int .u64 fa) := k0.cell 5
  go_wp2_with (refine wpList_load_row_g (by rfl) 51 _ (by rfl) g0 (by rfl) 51 #[.int .i64 kind, .int .i64 frm, .int .i64 tto, .int .u64 mine, .int .u64 yours, .int .u64 fa, .int .u64 fb, .int .i64 inode, .int .u64 iseq, .int .i64 ioff, .int .i64 bnode, .int .u64 bseq, .int .i64 boff, .int .i64 dest, .int .i64 prio, .int .i64 born, .int .i64 life, .int .i64 total, .string data] (0, 0) _ k0 Try.underlying51 (by rfl) (by kernel_rfl) ?_)
  refine (WB'.out _).mono ?_
  rintro e w2 ⟨rfl, hb⟩
  have hBw2 := bnext hB hb
  have k1 := k0.below hb
  clear hb hB k0 y0 y1 y2 y3 y4 y5
  have hB := hBw2
  have k0 := k1
  have hl0 := k0.lt
  clear hBw2 k1
  have HB := Lib.hid hB
  clear hB k0
  go_wp2_with fail
  go_ret
  exact ⟨rfl, HB.out⟩

set_option maxRecDepth 100000 in
set_option maxHeartbeats 4000000 in
theorem rfc_3e (kind frm tto mine yours fa fb inode iseq ioff bnode bseq boff dest prio born life total : Int) (data : ByteArray) (w : World) (k1 : ¬ kind < 1) (k2 : ¬ kind > 7) (o0 : ¬ frm < 1) (o1 : ¬ frm > 16) (o2 : ¬ tto < 1) (o3 : ¬ tto > 16) (o4 : (frm == tto) = false) (o5 : ¬ mine < 1) (o6 : ¬ mine > 1099511627776) (o7 : ¬ yours > 1099511627776) (n1 : (kind != 1) = true) (a1 : ¬ fa > 1125899906842624) (WB : ∀ w, Calls Try.prog 95 #[.agg #[.int .i64 kind, .int .i64 frm, .int .i64 tto, .int .u64 mine, .int .u64 yours, .int .u64 fa, .int .u64 fb, .int .i64 inode, .int .u64 iseq, .int .i64 ioff, .int .i64 bnode, .int .u64 bseq, .int .i64 boff, .int .i64 dest, .int .i64 prio, .int .i64 born, .int .i64 life, .int .i64 total, .string data]] w (RetB false w)) (q3 : (kind == 3) = true) (HI : ∀ w, Calls Try.prog 97 #[.int .i64 kind] w (fun e w' => e = .returned (.bool false) ∧ w = w')) (be : Int) (CB : ∀ w, Calls Try.prog 96 #[.agg #[.int .i64 bnode, .int .u64 bseq, .int .i64 boff, .int .i64 dest, .int .i64 prio, .int .i64 born, .int .i64 life, .int .i64 total, .string data]] w (RetI .i64 be w)) (h0 : be ≠ 0) : Calls Try.prog 58 #[.agg #[.int .i64 kind, .int .i64 frm, .int .i64 tto, .int .u64 mine, .int .u64 yours, .int .u64 fa, .int .u64 fb, .int .i64 inode, .int .u64 iseq, .int .i64 ioff, .int .i64 bnode, .int .u64 bseq, .int .i64 boff, .int .i64 dest, .int .i64 prio, .int .i64 born, .int .i64 life, .int .i64 total, .string data]] w (RetI .i64 be w) := by
  have e1 : (be == 0) = false := by simpa using h0
  clear h0
  have WB' := Lib.hid WB
  clear WB
  have HI' := Lib.hid HI
  clear HI
  have CB' := Lib.hid CB
  clear CB
  go_enter Try.func58, Try.ntmps58
  go_upto_region 1 with fail
  have k0 : Blk (w.alloc (.cells #[.int .i64 kind, .int .i64 frm, .int .i64 tto, .int .u64 mine, .int .u64 yours, .int .u64 fa, .int .u64 fb, .int .i64 inode, .int .u64 iseq, .int .i64 ioff, .int .i64 bnode, .int .u64 bseq, .int .i64 boff, .int .i64 dest, .int .i64 prio, .int .i64 born, .int .i64 life, .int .i64 total, .string data] 51)) w.heap.size 51 #[.int .i64 kind, .int .i64 frm, .int .i64 tto, .int .u64 mine, .int .u64 yours, .int .u64 fa, .int .u64 fb, .int .i64 inode, .int .u64 iseq, .int .i64 ioff, .int .i64 bnode, .int .u64 bseq, .int .i64 boff, .int .i64 dest, .int .i64 prio, .int .i64 born, .int .i64 life, .int .i64 total, .string data] := Blk.new w 51 #[.int .i64 kind, .int .i64 frm, .int .i64 tto, .int .u64 mine, .int .u64 yours, .int .u64 fa, .int .u64 fb, .int .i64 inode, .int .u64 iseq, .int .i64 ioff, .int .i64 bnode, .int .u64 bseq, .int .i64 boff, .int .i64 dest, .int .i64 prio, .int .i64 born, .int .i64 life, .int .i64 total, .string data]
  have hB := bal (Below.refl w.heap.size w) (.cells #[.int .i64 kind, .int .i64 frm, .int .i64 tto, .int .u64 mine, .int .u64 yours, .int .u64 fa, .int .u64 fb, .int .i64 inode, .int .u64 iseq, .int .i64 ioff, .int .i64 bnode, .int .u64 bseq, .int .i64 boff, .int .i64 dest, .int .i64 prio, .int .i64 born, .int .i64 life, .int .i64 total, .string data] 51)
  obtain ⟨g0, hg0⟩ : ∃ g0, w.heap.size = g0 := ⟨_, rfl⟩
  rw [hg0] at k0 ⊢
  have HG := Lib.hid hg0
  clear hg0
  generalize w.alloc (.cells #[.int .i64 kind, .int .i64 frm, .int .i64 tto, .int .u64 mine, .int .u64 yours, .int .u64 fa, .int .u64 fb, .int .i64 inode, .int .u64 iseq, .int .i64 ioff, .int .i64 bnode, .int .u64 bseq, .int .i64 boff, .int .i64 dest, .int .i64 prio, .int .i64 born, .int .i64 life, .int .i64 total, .string data] 51) = w1 at k0 hB ⊢
  have y0 : w1.cell? ⟨g0, 0, none⟩ = some (.int .i64 kind) := k0.cell 0
  have y1 : w1.cell? ⟨g0, 1, none⟩ = some (.int .i64 frm) := k0.cell 1
  have y2 : w1.cell? ⟨g0, 2, none⟩ = some (.int .i64 tto) := k0.cell 2
  have y3 : w1.cell? ⟨g0, 3, none⟩ = some (.int .u64 mine) := k0.cell 3
  have y4 : w1.cell? ⟨g0, 4, none⟩ = some (.int .u64 yours) := k0.cell 4
  have y5 : w1.cell? ⟨g0, 5, none⟩ = some (.int .u64 fa) := k0.cell 5
  go_wp2_with (refine wpList_load_row_g (by rfl) 51 _ (by rfl) g0 (by rfl) 51 #[.int .i64 kind, .int .i64 frm, .int .i64 tto, .int .u64 mine, .int .u64 yours, .int .u64 fa, .int .u64 fb, .int .i64 inode, .int .u64 iseq, .int .i64 ioff, .int .i64 bnode, .int .u64 bseq, .int .i64 boff, .int .i64 dest, .int .i64 prio, .int .i64 born, .int .i64 life, .int .i64 total, .string data] (0, 0) _ k0 Try.underlying51 (by rfl) (by kernel_rfl) ?_)
  refine (WB'.out _).mono ?_
  rintro e w2 ⟨rfl, hb⟩
  have hBw2 := bnext hB hb
  have k1 := k0.below hb
  clear hb hB k0 y0 y1 y2 y3 y4 y5
  have hB := hBw2
  have k0 := k1
  have hl0 := k0.lt
  clear hBw2 k1
  have y0 : w2.cell? ⟨g0, 0, none⟩ = some (.int .i64 kind) := k0.cell 0
  have y10 : w2.cell? ⟨g0, 10, none⟩ = some (.int .i64 bnode) := k0.cell 10
  have y11 : w2.cell? ⟨g0, 11, none⟩ = some (.int .u64 bseq) := k0.cell 11
  have y12 : w2.cell? ⟨g0, 12, none⟩ = some (.int .i64 boff) := k0.cell 12
  have y13 : w2.cell? ⟨g0, 13, none⟩ = some (.int .i64 dest) := k0.cell 13
  have y14 : w2.cell? ⟨g0, 14, none⟩ = some (.int .i64 prio) := k0.cell 14
  have y15 : w2.cell? ⟨g0, 15, none⟩ = some (.int .i64 born) := k0.cell 15
  have y16 : w2.cell? ⟨g0, 16, none⟩ = some (.int .i64 life) := k0.cell 16
  have y17 : w2.cell? ⟨g0, 17, none⟩ = some (.int .i64 total) := k0.cell 17
  have y18 : w2.cell? ⟨g0, 18, none⟩ = some (.string data) := k0.cell 18
  go_wp2_with fail
  refine (CB'.out _).mono ?_
  rintro e w3 ⟨rfl, hb⟩
  have hBw3 := bnext hB hb
  have k1 := k0.below hb
  clear hb hB k0 y0 y10 y11 y12 y13 y14 y15 y16 y17 y18
  have hB := hBw3
  have k0 := k1
  have hl0 := k0.lt
  clear hBw3 k1
  have y0 : w3.cell? ⟨g0, 0, none⟩ = some (.int .i64 kind) := k0.cell 0
  go_wp2_with fail
  refine (HI'.out _).mono ?_
  rintro e wi ⟨rfl, rfl⟩
  clear y0
  go_upto_region 12 with fail
  refine wp_region_held_drew (S := fun wx => Below w.heap.size w wx) (by kernel_rfl) hB.drew (fun hH => ?_)
  refine wpAnyH_take (i := 0) rfl (by kernel_rfl) (by kernel_rfl) (by kernel_rfl) (fun _ _ _ h => h) (yieldsIf_pure _ (.int .i64 be) rfl (.inl rfl) rfl) hH ?_
  try simp only [List.getElem_toArray, List.getElem_cons_succ, List.getElem_cons_zero, Act.put, List.setIfInBounds_toArray, List.set_cons_zero, List.set_cons_succ]
  refine wpAnyH_take (i := 1) rfl (by kernel_rfl) (by kernel_rfl) (by kernel_rfl) (fun _ _ _ h => h) (yieldsIf_cell (.bool false) rfl (fun w h => by go_simp)) hH ?_
  try simp only [List.getElem_toArray, List.getElem_cons_succ, List.getElem_cons_zero, Act.put, List.setIfInBounds_toArray, List.set_cons_zero, List.set_cons_succ]
  refine wpAnyH_take (i := 2) rfl (by kernel_rfl) (by kernel_rfl) (by kernel_rfl) (fun _ _ _ h => h) (yieldsIf_pure _ (.bool false) rfl (.inl rfl) rfl) hH ?_
  try simp only [List.getElem_toArray, List.getElem_cons_succ, List.getElem_cons_zero, Act.put, List.setIfInBounds_toArray, List.set_cons_zero, List.set_cons_succ]
  refine wpAnyH_take (i := 3) rfl (by kernel_rfl) (by kernel_rfl) (by kernel_rfl) (fun _ _ _ h => h) (.inr ⟨rfl, rfl⟩) hH ?_
  try simp only [List.getElem_toArray, List.getElem_cons_succ, List.getElem_cons_zero, Act.put, List.setIfInBounds_toArray, List.set_cons_zero, List.set_cons_succ]
  refine wpAnyH_take (i := 4) rfl (by kernel_rfl) (by kernel_rfl) (by kernel_rfl) (fun _ _ _ h => h) (.inr ⟨rfl, rfl⟩) hH ?_
  try simp only [List.getElem_toArray, List.getElem_cons_succ, List.getElem_cons_zero, Act.put, List.setIfInBounds_toArray, List.set_cons_zero, List.set_cons_succ]
  refine wpAnyH_take (i := 5) rfl (by kernel_rfl) (by kernel_rfl) (by kernel_rfl) (fun _ _ _ h => h) (.inr ⟨rfl, rfl⟩) hH ?_
  try simp only [List.getElem_toArray, List.getElem_cons_succ, List.getElem_cons_zero, Act.put, List.setIfInBounds_toArray, List.set_cons_zero, List.set_cons_succ]
  refine wpAnyH_take (i := 6) rfl (by kernel_rfl) (by kernel_rfl) (by kernel_rfl) (fun _ _ _ h => h) (.inr ⟨rfl, rfl⟩) hH ?_
  try simp only [List.getElem_toArray, List.getElem_cons_succ, List.getElem_cons_zero, Act.put, List.setIfInBounds_toArray, List.set_cons_zero, List.set_cons_succ]
  refine wpAnyH_take (i := 7) rfl (by kernel_rfl) (by kernel_rfl) (by kernel_rfl) (fun _ _ _ h => h) (yieldsIf_cell (.bool false) rfl (fun w h => by go_simp)) hH ?_
  try simp only [List.getElem_toArray, List.getElem_cons_succ, List.getElem_cons_zero, Act.put, List.setIfInBounds_toArray, List.set_cons_zero, List.set_cons_succ]
  refine wpAnyH_done (by kernel_rfl) ?_ _
  have HB := Lib.hid hH
  clear hH hB k0
  go_wp2_with fail
  go_ret
  exact ⟨rfl, HB.out⟩

set_option maxRecDepth 100000 in
set_option maxHeartbeats 4000000 in
theorem rfc_3t (kind frm tto mine yours fa fb inode iseq ioff bnode bseq boff dest prio born life total : Int) (data : ByteArray) (w : World) (k1 : ¬ kind < 1) (k2 : ¬ kind > 7) (o0 : ¬ frm < 1) (o1 : ¬ frm > 16) (o2 : ¬ tto < 1) (o3 : ¬ tto > 16) (o4 : (frm == tto) = false) (o5 : ¬ mine < 1) (o6 : ¬ mine > 1099511627776) (o7 : ¬ yours > 1099511627776) (n1 : (kind != 1) = true) (a1 : ¬ fa > 1125899906842624) (WB : ∀ w, Calls Try.prog 95 #[.agg #[.int .i64 kind, .int .i64 frm, .int .i64 tto, .int .u64 mine, .int .u64 yours, .int .u64 fa, .int .u64 fb, .int .i64 inode, .int .u64 iseq, .int .i64 ioff, .int .i64 bnode, .int .u64 bseq, .int .i64 boff, .int .i64 dest, .int .i64 prio, .int .i64 born, .int .i64 life, .int .i64 total, .string data]] w (RetB false w)) (q3 : (kind == 3) = true) (HI : ∀ w, Calls Try.prog 97 #[.int .i64 kind] w (fun e w' => e = .returned (.bool false) ∧ w = w')) (CB : ∀ w, Calls Try.prog 96 #[.agg #[.int .i64 bnode, .int .u64 bseq, .int .i64 boff, .int .i64 dest, .int .i64 prio, .int .i64 born, .int .i64 life, .int .i64 total, .string data]] w (RetI .i64 0 w)) (u0 u1 u2 u3 u4 u5 u6 u7 u8 u9 u10 u11 u12 u13 u14 u15 u16 u17 u18 : Value) (US : ∀ w, Calls Try.prog 98 #[.agg #[.int .i64 kind, .int .i64 frm, .int .i64 tto, .int .u64 mine, .int .u64 yours, .int .u64 fa, .int .u64 fb, .int .i64 inode, .int .u64 iseq, .int .i64 ioff, .int .i64 bnode, .int .u64 bseq, .int .i64 boff, .int .i64 dest, .int .i64 prio, .int .i64 born, .int .i64 life, .int .i64 total, .string data]] w (fun e w' => e = .returned (.agg #[u0, u1, u2, u3, u4, u5, u6, u7, u8, u9, u10, u11, u12, u13, u14, u15, u16, u17, u18]) ∧ Below w.heap.size w w')) (NE : ∀ w, (binOp .neq 51 (.agg #[u0, u1, u2, u3, u4, u5, u6, u7, u8, u9, u10, u11, u12, u13, u14, u15, u16, u17, u18]) (.agg #[.int .i64 kind, .int .i64 frm, .int .i64 tto, .int .u64 mine, .int .u64 yours, .int .u64 fa, .int .u64 fb, .int .i64 inode, .int .u64 iseq, .int .i64 ioff, .int .i64 bnode, .int .u64 bseq, .int .i64 boff, .int .i64 dest, .int .i64 prio, .int .i64 born, .int .i64 life, .int .i64 total, .string data])).run Try.prog w = .ok (.bool true) w) : Calls Try.prog 58 #[.agg #[.int .i64 kind, .int .i64 frm, .int .i64 tto, .int .u64 mine, .int .u64 yours, .int .u64 fa, .int .u64 fb, .int .i64 inode, .int .u64 iseq, .int .i64 ioff, .int .i64 bnode, .int .u64 bseq, .int .i64 boff, .int .i64 dest, .int .i64 prio, .int .i64 born, .int .i64 life, .int .i64 total, .string data]] w (RetI .i64 3 w) := by
  have US' := Lib.hid US
  clear US
  have NE' := Lib.hid NE
  clear NE
  have WB' := Lib.hid WB
  clear WB
  have HI' := Lib.hid HI
  clear HI
  have CB' := Lib.hid CB
  clear CB
  go_enter Try.func58, Try.ntmps58
  go_upto_region 1 with fail
  have k0 : Blk (w.alloc (.cells #[.int .i64 kind, .int .i64 frm, .int .i64 tto, .int .u64 mine, .int .u64 yours, .int .u64 fa, .int .u64 fb, .int .i64 inode, .int .u64 iseq, .int .i64 ioff, .int .i64 bnode, .int .u64 bseq, .int .i64 boff, .int .i64 dest, .int .i64 prio, .int .i64 born, .int .i64 life, .int .i64 total, .string data] 51)) w.heap.size 51 #[.int .i64 kind, .int .i64 frm, .int .i64 tto, .int .u64 mine, .int .u64 yours, .int .u64 fa, .int .u64 fb, .int .i64 inode, .int .u64 iseq, .int .i64 ioff, .int .i64 bnode, .int .u64 bseq, .int .i64 boff, .int .i64 dest, .int .i64 prio, .int .i64 born, .int .i64 life, .int .i64 total, .string data] := Blk.new w 51 #[.int .i64 kind, .int .i64 frm, .int .i64 tto, .int .u64 mine, .int .u64 yours, .int .u64 fa, .int .u64 fb, .int .i64 inode, .int .u64 iseq, .int .i64 ioff, .int .i64 bnode, .int .u64 bseq, .int .i64 boff, .int .i64 dest, .int .i64 prio, .int .i64 born, .int .i64 life, .int .i64 total, .string data]
  have hB := bal (Below.refl w.heap.size w) (.cells #[.int .i64 kind, .int .i64 frm, .int .i64 tto, .int .u64 mine, .int .u64 yours, .int .u64 fa, .int .u64 fb, .int .i64 inode, .int .u64 iseq, .int .i64 ioff, .int .i64 bnode, .int .u64 bseq, .int .i64 boff, .int .i64 dest, .int .i64 prio, .int .i64 born, .int .i64 life, .int .i64 total, .string data] 51)
  obtain ⟨g0, hg0⟩ : ∃ g0, w.heap.size = g0 := ⟨_, rfl⟩
  rw [hg0] at k0 ⊢
  have HG := Lib.hid hg0
  clear hg0
  generalize w.alloc (.cells #[.int .i64 kind, .int .i64 frm, .int .i64 tto, .int .u64 mine, .int .u64 yours, .int .u64 fa, .int .u64 fb, .int .i64 inode, .int .u64 iseq, .int .i64 ioff, .int .i64 bnode, .int .u64 bseq, .int .i64 boff, .int .i64 dest, .int .i64 prio, .int .i64 born, .int .i64 life, .int .i64 total, .string data] 51) = w1 at k0 hB ⊢
  have y0 : w1.cell? ⟨g0, 0, none⟩ = some (.int .i64 kind) := k0.cell 0
  have y1 : w1.cell? ⟨g0, 1, none⟩ = some (.int .i64 frm) := k0.cell 1
  have y2 : w1.cell? ⟨g0, 2, none⟩ = some (.int .i64 tto) := k0.cell 2
  have y3 : w1.cell? ⟨g0, 3, none⟩ = some (.int .u64 mine) := k0.cell 3
  have y4 : w1.cell? ⟨g0, 4, none⟩ = some (.int .u64 yours) := k0.cell 4
  have y5 : w1.cell? ⟨g0, 5, none⟩ = some (.int .u64 fa) := k0.cell 5
  go_wp2_with (refine wpList_load_row_g (by rfl) 51 _ (by rfl) g0 (by rfl) 51 #[.int .i64 kind, .int .i64 frm, .int .i64 tto, .int .u64 mine, .int .u64 yours, .int .u64 fa, .int .u64 fb, .int .i64 inode, .int .u64 iseq, .int .i64 ioff, .int .i64 bnode, .int .u64 bseq, .int .i64 boff, .int .i64 dest, .int .i64 prio, .int .i64 born, .int .i64 life, .int .i64 total, .string data] (0, 0) _ k0 Try.underlying51 (by rfl) (by kernel_rfl) ?_)
  refine (WB'.out _).mono ?_
  rintro e w2 ⟨rfl, hb⟩
  have hBw2 := bnext hB hb
  have k1 := k0.below hb
  clear hb hB k0 y0 y1 y2 y3 y4 y5
  have hB := hBw2
  have k0 := k1
  have hl0 := k0.lt
  clear hBw2 k1
  have y0 : w2.cell? ⟨g0, 0, none⟩ = some (.int .i64 kind) := k0.cell 0
  have y10 : w2.cell? ⟨g0, 10, none⟩ = some (.int .i64 bnode) := k0.cell 10
  have y11 : w2.cell? ⟨g0, 11, none⟩ = some (.int .u64 bseq) := k0.cell 11
  have y12 : w2.cell? ⟨g0, 12, none⟩ = some (.int .i64 boff) := k0.cell 12
  have y13 : w2.cell? ⟨g0, 13, none⟩ = some (.int .i64 dest) := k0.cell 13
  have y14 : w2.cell? ⟨g0, 14, none⟩ = some (.int .i64 prio) := k0.cell 14
  have y15 : w2.cell? ⟨g0, 15, none⟩ = some (.int .i64 born) := k0.cell 15
  have y16 : w2.cell? ⟨g0, 16, none⟩ = some (.int .i64 life) := k0.cell 16
  have y17 : w2.cell? ⟨g0, 17, none⟩ = some (.int .i64 total) := k0.cell 17
  have y18 : w2.cell? ⟨g0, 18, none⟩ = some (.string data) := k0.cell 18
  go_wp2_with fail
  refine (CB'.out _).mono ?_
  rintro e w3 ⟨rfl, hb⟩
  have hBw3 := bnext hB hb
  have k1 := k0.below hb
  clear hb hB k0 y0 y10 y11 y12 y13 y14 y15 y16 y17 y18
  have hB := hBw3
  have k0 := k1
  have hl0 := k0.lt
  clear hBw3 k1
  have y0 : w3.cell? ⟨g0, 0, none⟩ = some (.int .i64 kind) := k0.cell 0
  go_wp2_with fail
  refine (HI'.out _).mono ?_
  rintro e wi ⟨rfl, rfl⟩
  clear y0
  go_upto_region 12 with fail
  refine wp_region_held_drew (S := fun wx => Below w.heap.size w wx ∧ Blk wx g0 51 #[.int .i64 kind, .int .i64 frm, .int .i64 tto, .int .u64 mine, .int .u64 yours, .int .u64 fa, .int .u64 fb, .int .i64 inode, .int .u64 iseq, .int .i64 ioff, .int .i64 bnode, .int .u64 bseq, .int .i64 boff, .int .i64 dest, .int .i64 prio, .int .i64 born, .int .i64 life, .int .i64 total, .string data]) (by kernel_rfl) ⟨hB.drew, k0.drew⟩ (fun hH => ?_)
  refine wpAnyH_take (i := 0) rfl (by kernel_rfl) (by kernel_rfl) (by kernel_rfl) (fun _ _ _ h => h) (yieldsIf_pure _ (.int .i64 0) rfl (.inl rfl) rfl) hH ?_
  try simp only [List.getElem_toArray, List.getElem_cons_succ, List.getElem_cons_zero, Act.put, List.setIfInBounds_toArray, List.set_cons_zero, List.set_cons_succ]
  refine wpAnyH_take (i := 1) rfl (by kernel_rfl) (by kernel_rfl) (by kernel_rfl) (fun _ _ _ h => h) (yieldsIf_cell (.bool true) rfl (fun w h => by go_simp)) hH ?_
  try simp only [List.getElem_toArray, List.getElem_cons_succ, List.getElem_cons_zero, Act.put, List.setIfInBounds_toArray, List.set_cons_zero, List.set_cons_succ]
  refine wpAnyH_take (i := 2) rfl (by kernel_rfl) (by kernel_rfl) (by kernel_rfl) (fun _ _ _ h => h) (yieldsIf_pure _ (.bool true) rfl (.inl rfl) rfl) hH ?_
  try simp only [List.getElem_toArray, List.getElem_cons_succ, List.getElem_cons_zero, Act.put, List.setIfInBounds_toArray, List.set_cons_zero, List.set_cons_succ]
  refine wpAnyH_take (i := 3) rfl (by kernel_rfl) (by kernel_rfl) (by kernel_rfl) (fun _ _ _ h => h) (yieldsIf_row (g0) 51 #[.int .i64 kind, .int .i64 frm, .int .i64 tto, .int .u64 mine, .int .u64 yours, .int .u64 fa, .int .u64 fb, .int .i64 inode, .int .u64 iseq, .int .i64 ioff, .int .i64 bnode, .int .u64 bseq, .int .i64 boff, .int .i64 dest, .int .i64 prio, .int .i64 born, .int .i64 life, .int .i64 total, .string data] 51 _ _ rfl rfl rfl (fun w h => h.2) Try.underlying51 rfl (by kernel_rfl)) hH ?_
  try simp only [List.getElem_toArray, List.getElem_cons_succ, List.getElem_cons_zero, Act.put, List.setIfInBounds_toArray, List.set_cons_zero, List.set_cons_succ]
  refine wpAnyH_take (i := 5) rfl (by kernel_rfl) (by kernel_rfl) (by kernel_rfl) (fun _ _ _ h => h) (yieldsIf_row (g0) 51 #[.int .i64 kind, .int .i64 frm, .int .i64 tto, .int .u64 mine, .int .u64 yours, .int .u64 fa, .int .u64 fb, .int .i64 inode, .int .u64 iseq, .int .i64 ioff, .int .i64 bnode, .int .u64 bseq, .int .i64 boff, .int .i64 dest, .int .i64 prio, .int .i64 born, .int .i64 life, .int .i64 total, .string data] 51 _ _ rfl rfl rfl (fun w h => h.2) Try.underlying51 rfl (by kernel_rfl)) hH ?_
  try simp only [List.getElem_toArray, List.getElem_cons_succ, List.getElem_cons_zero, Act.put, List.setIfInBounds_toArray, List.set_cons_zero, List.set_cons_succ]
  refine wpAnyH_ready (rs := [4]) (by kernel_rfl) (by simp) ?_
  refine AllReadyH.cons rfl (fun KK hK => ?_) AllReadyH.nil
  go_simp
  refine (US'.out _).mono ?_
  rintro e wu ⟨rfl, hbu⟩
  have hBu : Below w.heap.size w wu ∧ Blk wu g0 51 #[.int .i64 kind, .int .i64 frm, .int .i64 tto, .int .u64 mine, .int .u64 yours, .int .u64 fa, .int .u64 fb, .int .i64 inode, .int .u64 iseq, .int .i64 ioff, .int .i64 bnode, .int .u64 bseq, .int .i64 boff, .int .i64 dest, .int .i64 prio, .int .i64 born, .int .i64 life, .int .i64 total, .string data] := ⟨bnext hH.1 hbu, hH.2.below hbu⟩
  refine hK.out _ _ hBu (fun hH2 => ?_)
  clear hK KK hH hbu
  try simp only [List.getElem_toArray, List.getElem_cons_succ, List.getElem_cons_zero, Act.put, List.setIfInBounds_toArray, List.set_cons_zero, List.set_cons_succ]
  refine wpAnyH_take (i := 6) rfl (by kernel_rfl) (by kernel_rfl) (by kernel_rfl) (fun _ _ _ h => h) (yieldsIf_bin _ _ _ _ _ (.agg #[u0, u1, u2, u3, u4, u5, u6, u7, u8, u9, u10, u11, u12, u13, u14, u15, u16, u17, u18]) (.agg #[.int .i64 kind, .int .i64 frm, .int .i64 tto, .int .u64 mine, .int .u64 yours, .int .u64 fa, .int .u64 fb, .int .i64 inode, .int .u64 iseq, .int .i64 ioff, .int .i64 bnode, .int .u64 bseq, .int .i64 boff, .int .i64 dest, .int .i64 prio, .int .i64 born, .int .i64 life, .int .i64 total, .string data]) (.bool true) rfl rfl rfl rfl (fun w => guardFr _ _ _ _ w) NE'.out) hH2 ?_
  try simp only [List.getElem_toArray, List.getElem_cons_succ, List.getElem_cons_zero, Act.put, List.setIfInBounds_toArray, List.set_cons_zero, List.set_cons_succ]
  refine wpAnyH_take (i := 7) rfl (by kernel_rfl) (by kernel_rfl) (by kernel_rfl) (fun _ _ _ h => h) (yieldsIf_cell (.bool true) rfl (fun w h => by go_simp)) hH2 ?_
  try simp only [List.getElem_toArray, List.getElem_cons_succ, List.getElem_cons_zero, Act.put, List.setIfInBounds_toArray, List.set_cons_zero, List.set_cons_succ]
  refine wpAnyH_done (by kernel_rfl) ?_ _
  have HB := Lib.hid hH2.1
  clear hH2 hBu hB k0 hl0
  go_wp2_with fail
  go_ret
  exact ⟨rfl, HB.out⟩

set_option maxRecDepth 100000 in
set_option maxHeartbeats 4000000 in
theorem rfc_3f (kind frm tto mine yours fa fb inode iseq ioff bnode bseq boff dest prio born life total : Int) (data : ByteArray) (w : World) (k1 : ¬ kind < 1) (k2 : ¬ kind > 7) (o0 : ¬ frm < 1) (o1 : ¬ frm > 16) (o2 : ¬ tto < 1) (o3 : ¬ tto > 16) (o4 : (frm == tto) = false) (o5 : ¬ mine < 1) (o6 : ¬ mine > 1099511627776) (o7 : ¬ yours > 1099511627776) (n1 : (kind != 1) = true) (a1 : ¬ fa > 1125899906842624) (WB : ∀ w, Calls Try.prog 95 #[.agg #[.int .i64 kind, .int .i64 frm, .int .i64 tto, .int .u64 mine, .int .u64 yours, .int .u64 fa, .int .u64 fb, .int .i64 inode, .int .u64 iseq, .int .i64 ioff, .int .i64 bnode, .int .u64 bseq, .int .i64 boff, .int .i64 dest, .int .i64 prio, .int .i64 born, .int .i64 life, .int .i64 total, .string data]] w (RetB false w)) (q3 : (kind == 3) = true) (HI : ∀ w, Calls Try.prog 97 #[.int .i64 kind] w (fun e w' => e = .returned (.bool false) ∧ w = w')) (CB : ∀ w, Calls Try.prog 96 #[.agg #[.int .i64 bnode, .int .u64 bseq, .int .i64 boff, .int .i64 dest, .int .i64 prio, .int .i64 born, .int .i64 life, .int .i64 total, .string data]] w (RetI .i64 0 w)) (u0 u1 u2 u3 u4 u5 u6 u7 u8 u9 u10 u11 u12 u13 u14 u15 u16 u17 u18 : Value) (US : ∀ w, Calls Try.prog 98 #[.agg #[.int .i64 kind, .int .i64 frm, .int .i64 tto, .int .u64 mine, .int .u64 yours, .int .u64 fa, .int .u64 fb, .int .i64 inode, .int .u64 iseq, .int .i64 ioff, .int .i64 bnode, .int .u64 bseq, .int .i64 boff, .int .i64 dest, .int .i64 prio, .int .i64 born, .int .i64 life, .int .i64 total, .string data]] w (fun e w' => e = .returned (.agg #[u0, u1, u2, u3, u4, u5, u6, u7, u8, u9, u10, u11, u12, u13, u14, u15, u16, u17, u18]) ∧ Below w.heap.size w w')) (NE : ∀ w, (binOp .neq 51 (.agg #[u0, u1, u2, u3, u4, u5, u6, u7, u8, u9, u10, u11, u12, u13, u14, u15, u16, u17, u18]) (.agg #[.int .i64 kind, .int .i64 frm, .int .i64 tto, .int .u64 mine, .int .u64 yours, .int .u64 fa, .int .u64 fb, .int .i64 inode, .int .u64 iseq, .int .i64 ioff, .int .i64 bnode, .int .u64 bseq, .int .i64 boff, .int .i64 dest, .int .i64 prio, .int .i64 born, .int .i64 life, .int .i64 total, .string data])).run Try.prog w = .ok (.bool false) w) : Calls Try.prog 58 #[.agg #[.int .i64 kind, .int .i64 frm, .int .i64 tto, .int .u64 mine, .int .u64 yours, .int .u64 fa, .int .u64 fb, .int .i64 inode, .int .u64 iseq, .int .i64 ioff, .int .i64 bnode, .int .u64 bseq, .int .i64 boff, .int .i64 dest, .int .i64 prio, .int .i64 born, .int .i64 life, .int .i64 total, .string data]] w (RetI .i64 0 w) := by
  have US' := Lib.hid US
  clear US
  have NE' := Lib.hid NE
  clear NE
  have WB' := Lib.hid WB
  clear WB
  have HI' := Lib.hid HI
  clear HI
  have CB' := Lib.hid CB
  clear CB
  go_enter Try.func58, Try.ntmps58
  go_upto_region 1 with fail
  have k0 : Blk (w.alloc (.cells #[.int .i64 kind, .int .i64 frm, .int .i64 tto, .int .u64 mine, .int .u64 yours, .int .u64 fa, .int .u64 fb, .int .i64 inode, .int .u64 iseq, .int .i64 ioff, .int .i64 bnode, .int .u64 bseq, .int .i64 boff, .int .i64 dest, .int .i64 prio, .int .i64 born, .int .i64 life, .int .i64 total, .string data] 51)) w.heap.size 51 #[.int .i64 kind, .int .i64 frm, .int .i64 tto, .int .u64 mine, .int .u64 yours, .int .u64 fa, .int .u64 fb, .int .i64 inode, .int .u64 iseq, .int .i64 ioff, .int .i64 bnode, .int .u64 bseq, .int .i64 boff, .int .i64 dest, .int .i64 prio, .int .i64 born, .int .i64 life, .int .i64 total, .string data] := Blk.new w 51 #[.int .i64 kind, .int .i64 frm, .int .i64 tto, .int .u64 mine, .int .u64 yours, .int .u64 fa, .int .u64 fb, .int .i64 inode, .int .u64 iseq, .int .i64 ioff, .int .i64 bnode, .int .u64 bseq, .int .i64 boff, .int .i64 dest, .int .i64 prio, .int .i64 born, .int .i64 life, .int .i64 total, .string data]
  have hB := bal (Below.refl w.heap.size w) (.cells #[.int .i64 kind, .int .i64 frm, .int .i64 tto, .int .u64 mine, .int .u64 yours, .int .u64 fa, .int .u64 fb, .int .i64 inode, .int .u64 iseq, .int .i64 ioff, .int .i64 bnode, .int .u64 bseq, .int .i64 boff, .int .i64 dest, .int .i64 prio, .int .i64 born, .int .i64 life, .int .i64 total, .string data] 51)
  obtain ⟨g0, hg0⟩ : ∃ g0, w.heap.size = g0 := ⟨_, rfl⟩
  rw [hg0] at k0 ⊢
  have HG := Lib.hid hg0
  clear hg0
  generalize w.alloc (.cells #[.int .i64 kind, .int .i64 frm, .int .i64 tto, .int .u64 mine, .int .u64 yours, .int .u64 fa, .int .u64 fb, .int .i64 inode, .int .u64 iseq, .int .i64 ioff, .int .i64 bnode, .int .u64 bseq, .int .i64 boff, .int .i64 dest, .int .i64 prio, .int .i64 born, .int .i64 life, .int .i64 total, .string data] 51) = w1 at k0 hB ⊢
  have y0 : w1.cell? ⟨g0, 0, none⟩ = some (.int .i64 kind) := k0.cell 0
  have y1 : w1.cell? ⟨g0, 1, none⟩ = some (.int .i64 frm) := k0.cell 1
  have y2 : w1.cell? ⟨g0, 2, none⟩ = some (.int .i64 tto) := k0.cell 2
  have y3 : w1.cell? ⟨g0, 3, none⟩ = some (.int .u64 mine) := k0.cell 3
  have y4 : w1.cell? ⟨g0, 4, none⟩ = some (.int .u64 yours) := k0.cell 4
  have y5 : w1.cell? ⟨g0, 5, none⟩ = some (.int .u64 fa) := k0.cell 5
  go_wp2_with (refine wpList_load_row_g (by rfl) 51 _ (by rfl) g0 (by rfl) 51 #[.int .i64 kind, .int .i64 frm, .int .i64 tto, .int .u64 mine, .int .u64 yours, .int .u64 fa, .int .u64 fb, .int .i64 inode, .int .u64 iseq, .int .i64 ioff, .int .i64 bnode, .int .u64 bseq, .int .i64 boff, .int .i64 dest, .int .i64 prio, .int .i64 born, .int .i64 life, .int .i64 total, .string data] (0, 0) _ k0 Try.underlying51 (by rfl) (by kernel_rfl) ?_)
  refine (WB'.out _).mono ?_
  rintro e w2 ⟨rfl, hb⟩
  have hBw2 := bnext hB hb
  have k1 := k0.below hb
  clear hb hB k0 y0 y1 y2 y3 y4 y5
  have hB := hBw2
  have k0 := k1
  have hl0 := k0.lt
  clear hBw2 k1
  have y0 : w2.cell? ⟨g0, 0, none⟩ = some (.int .i64 kind) := k0.cell 0
  have y10 : w2.cell? ⟨g0, 10, none⟩ = some (.int .i64 bnode) := k0.cell 10
  have y11 : w2.cell? ⟨g0, 11, none⟩ = some (.int .u64 bseq) := k0.cell 11
  have y12 : w2.cell? ⟨g0, 12, none⟩ = some (.int .i64 boff) := k0.cell 12
  have y13 : w2.cell? ⟨g0, 13, none⟩ = some (.int .i64 dest) := k0.cell 13
  have y14 : w2.cell? ⟨g0, 14, none⟩ = some (.int .i64 prio) := k0.cell 14
  have y15 : w2.cell? ⟨g0, 15, none⟩ = some (.int .i64 born) := k0.cell 15
  have y16 : w2.cell? ⟨g0, 16, none⟩ = some (.int .i64 life) := k0.cell 16
  have y17 : w2.cell? ⟨g0, 17, none⟩ = some (.int .i64 total) := k0.cell 17
  have y18 : w2.cell? ⟨g0, 18, none⟩ = some (.string data) := k0.cell 18
  go_wp2_with fail
  refine (CB'.out _).mono ?_
  rintro e w3 ⟨rfl, hb⟩
  have hBw3 := bnext hB hb
  have k1 := k0.below hb
  clear hb hB k0 y0 y10 y11 y12 y13 y14 y15 y16 y17 y18
  have hB := hBw3
  have k0 := k1
  have hl0 := k0.lt
  clear hBw3 k1
  have y0 : w3.cell? ⟨g0, 0, none⟩ = some (.int .i64 kind) := k0.cell 0
  go_wp2_with fail
  refine (HI'.out _).mono ?_
  rintro e wi ⟨rfl, rfl⟩
  clear y0
  go_upto_region 12 with fail
  refine wp_region_held_drew (S := fun wx => Below w.heap.size w wx ∧ Blk wx g0 51 #[.int .i64 kind, .int .i64 frm, .int .i64 tto, .int .u64 mine, .int .u64 yours, .int .u64 fa, .int .u64 fb, .int .i64 inode, .int .u64 iseq, .int .i64 ioff, .int .i64 bnode, .int .u64 bseq, .int .i64 boff, .int .i64 dest, .int .i64 prio, .int .i64 born, .int .i64 life, .int .i64 total, .string data]) (by kernel_rfl) ⟨hB.drew, k0.drew⟩ (fun hH => ?_)
  refine wpAnyH_take (i := 0) rfl (by kernel_rfl) (by kernel_rfl) (by kernel_rfl) (fun _ _ _ h => h) (yieldsIf_pure _ (.int .i64 0) rfl (.inl rfl) rfl) hH ?_
  try simp only [List.getElem_toArray, List.getElem_cons_succ, List.getElem_cons_zero, Act.put, List.setIfInBounds_toArray, List.set_cons_zero, List.set_cons_succ]
  refine wpAnyH_take (i := 1) rfl (by kernel_rfl) (by kernel_rfl) (by kernel_rfl) (fun _ _ _ h => h) (yieldsIf_cell (.bool true) rfl (fun w h => by go_simp)) hH ?_
  try simp only [List.getElem_toArray, List.getElem_cons_succ, List.getElem_cons_zero, Act.put, List.setIfInBounds_toArray, List.set_cons_zero, List.set_cons_succ]
  refine wpAnyH_take (i := 2) rfl (by kernel_rfl) (by kernel_rfl) (by kernel_rfl) (fun _ _ _ h => h) (yieldsIf_pure _ (.bool true) rfl (.inl rfl) rfl) hH ?_
  try simp only [List.getElem_toArray, List.getElem_cons_succ, List.getElem_cons_zero, Act.put, List.setIfInBounds_toArray, List.set_cons_zero, List.set_cons_succ]
  refine wpAnyH_take (i := 3) rfl (by kernel_rfl) (by kernel_rfl) (by kernel_rfl) (fun _ _ _ h => h) (yieldsIf_row (g0) 51 #[.int .i64 kind, .int .i64 frm, .int .i64 tto, .int .u64 mine, .int .u64 yours, .int .u64 fa, .int .u64 fb, .int .i64 inode, .int .u64 iseq, .int .i64 ioff, .int .i64 bnode, .int .u64 bseq, .int .i64 boff, .int .i64 dest, .int .i64 prio, .int .i64 born, .int .i64 life, .int .i64 total, .string data] 51 _ _ rfl rfl rfl (fun w h => h.2) Try.underlying51 rfl (by kernel_rfl)) hH ?_
  try simp only [List.getElem_toArray, List.getElem_cons_succ, List.getElem_cons_zero, Act.put, List.setIfInBounds_toArray, List.set_cons_zero, List.set_cons_succ]
  refine wpAnyH_take (i := 5) rfl (by kernel_rfl) (by kernel_rfl) (by kernel_rfl) (fun _ _ _ h => h) (yieldsIf_row (g0) 51 #[.int .i64 kind, .int .i64 frm, .int .i64 tto, .int .u64 mine, .int .u64 yours, .int .u64 fa, .int .u64 fb, .int .i64 inode, .int .u64 iseq, .int .i64 ioff, .int .i64 bnode, .int .u64 bseq, .int .i64 boff, .int .i64 dest, .int .i64 prio, .int .i64 born, .int .i64 life, .int .i64 total, .string data] 51 _ _ rfl rfl rfl (fun w h => h.2) Try.underlying51 rfl (by kernel_rfl)) hH ?_
  try simp only [List.getElem_toArray, List.getElem_cons_succ, List.getElem_cons_zero, Act.put, List.setIfInBounds_toArray, List.set_cons_zero, List.set_cons_succ]
  refine wpAnyH_ready (rs := [4]) (by kernel_rfl) (by simp) ?_
  refine AllReadyH.cons rfl (fun KK hK => ?_) AllReadyH.nil
  go_simp
  refine (US'.out _).mono ?_
  rintro e wu ⟨rfl, hbu⟩
  have hBu : Below w.heap.size w wu ∧ Blk wu g0 51 #[.int .i64 kind, .int .i64 frm, .int .i64 tto, .int .u64 mine, .int .u64 yours, .int .u64 fa, .int .u64 fb, .int .i64 inode, .int .u64 iseq, .int .i64 ioff, .int .i64 bnode, .int .u64 bseq, .int .i64 boff, .int .i64 dest, .int .i64 prio, .int .i64 born, .int .i64 life, .int .i64 total, .string data] := ⟨bnext hH.1 hbu, hH.2.below hbu⟩
  refine hK.out _ _ hBu (fun hH2 => ?_)
  clear hK KK hH hbu
  try simp only [List.getElem_toArray, List.getElem_cons_succ, List.getElem_cons_zero, Act.put, List.setIfInBounds_toArray, List.set_cons_zero, List.set_cons_succ]
  refine wpAnyH_take (i := 6) rfl (by kernel_rfl) (by kernel_rfl) (by kernel_rfl) (fun _ _ _ h => h) (yieldsIf_bin _ _ _ _ _ (.agg #[u0, u1, u2, u3, u4, u5, u6, u7, u8, u9, u10, u11, u12, u13, u14, u15, u16, u17, u18]) (.agg #[.int .i64 kind, .int .i64 frm, .int .i64 tto, .int .u64 mine, .int .u64 yours, .int .u64 fa, .int .u64 fb, .int .i64 inode, .int .u64 iseq, .int .i64 ioff, .int .i64 bnode, .int .u64 bseq, .int .i64 boff, .int .i64 dest, .int .i64 prio, .int .i64 born, .int .i64 life, .int .i64 total, .string data]) (.bool false) rfl rfl rfl rfl (fun w => guardFr _ _ _ _ w) NE'.out) hH2 ?_
  try simp only [List.getElem_toArray, List.getElem_cons_succ, List.getElem_cons_zero, Act.put, List.setIfInBounds_toArray, List.set_cons_zero, List.set_cons_succ]
  refine wpAnyH_take (i := 7) rfl (by kernel_rfl) (by kernel_rfl) (by kernel_rfl) (fun _ _ _ h => h) (yieldsIf_cell (.bool false) rfl (fun w h => by go_simp)) hH2 ?_
  try simp only [List.getElem_toArray, List.getElem_cons_succ, List.getElem_cons_zero, Act.put, List.setIfInBounds_toArray, List.set_cons_zero, List.set_cons_succ]
  refine wpAnyH_done (by kernel_rfl) ?_ _
  have HB := Lib.hid hH2.1
  clear hH2 hBu hB k0 hl0
  go_wp2_with fail
  go_ret
  exact ⟨rfl, HB.out⟩

set_option maxRecDepth 100000 in
set_option maxHeartbeats 4000000 in
theorem rfc_Ie (kind frm tto mine yours fa fb inode iseq ioff bnode bseq boff dest prio born life total : Int) (data : ByteArray) (w : World) (k1 : ¬ kind < 1) (k2 : ¬ kind > 7) (o0 : ¬ frm < 1) (o1 : ¬ frm > 16) (o2 : ¬ tto < 1) (o3 : ¬ tto > 16) (o4 : (frm == tto) = false) (o5 : ¬ mine < 1) (o6 : ¬ mine > 1099511627776) (o7 : ¬ yours > 1099511627776) (n1 : (kind != 1) = true) (a1 : ¬ fa > 1125899906842624) (WB : ∀ w, Calls Try.prog 95 #[.agg #[.int .i64 kind, .int .i64 frm, .int .i64 tto, .int .u64 mine, .int .u64 yours, .int .u64 fa, .int .u64 fb, .int .i64 inode, .int .u64 iseq, .int .i64 ioff, .int .i64 bnode, .int .u64 bseq, .int .i64 boff, .int .i64 dest, .int .i64 prio, .int .i64 born, .int .i64 life, .int .i64 total, .string data]] w (RetB false w)) (q3 : (kind == 3) = false) (HI : ∀ w, Calls Try.prog 97 #[.int .i64 kind] w (fun e w' => e = .returned (.bool true) ∧ w = w')) (ie : Int) (CI : ∀ w, Calls Try.prog 82 #[.agg #[.int .i64 inode, .int .u64 iseq, .int .i64 ioff]] w (RetI .i64 ie w)) (h0 : ie ≠ 0) : Calls Try.prog 58 #[.agg #[.int .i64 kind, .int .i64 frm, .int .i64 tto, .int .u64 mine, .int .u64 yours, .int .u64 fa, .int .u64 fb, .int .i64 inode, .int .u64 iseq, .int .i64 ioff, .int .i64 bnode, .int .u64 bseq, .int .i64 boff, .int .i64 dest, .int .i64 prio, .int .i64 born, .int .i64 life, .int .i64 total, .string data]] w (RetI .i64 ie w) := by
  have e1 : (ie == 0) = false := by simpa using h0
  clear h0
  have WB' := Lib.hid WB
  clear WB
  have HI' := Lib.hid HI
  clear HI
  have CI' := Lib.hid CI
  clear CI
  go_enter Try.func58, Try.ntmps58
  go_upto_region 1 with fail
  have k0 : Blk (w.alloc (.cells #[.int .i64 kind, .int .i64 frm, .int .i64 tto, .int .u64 mine, .int .u64 yours, .int .u64 fa, .int .u64 fb, .int .i64 inode, .int .u64 iseq, .int .i64 ioff, .int .i64 bnode, .int .u64 bseq, .int .i64 boff, .int .i64 dest, .int .i64 prio, .int .i64 born, .int .i64 life, .int .i64 total, .string data] 51)) w.heap.size 51 #[.int .i64 kind, .int .i64 frm, .int .i64 tto, .int .u64 mine, .int .u64 yours, .int .u64 fa, .int .u64 fb, .int .i64 inode, .int .u64 iseq, .int .i64 ioff, .int .i64 bnode, .int .u64 bseq, .int .i64 boff, .int .i64 dest, .int .i64 prio, .int .i64 born, .int .i64 life, .int .i64 total, .string data] := Blk.new w 51 #[.int .i64 kind, .int .i64 frm, .int .i64 tto, .int .u64 mine, .int .u64 yours, .int .u64 fa, .int .u64 fb, .int .i64 inode, .int .u64 iseq, .int .i64 ioff, .int .i64 bnode, .int .u64 bseq, .int .i64 boff, .int .i64 dest, .int .i64 prio, .int .i64 born, .int .i64 life, .int .i64 total, .string data]
  have hB := bal (Below.refl w.heap.size w) (.cells #[.int .i64 kind, .int .i64 frm, .int .i64 tto, .int .u64 mine, .int .u64 yours, .int .u64 fa, .int .u64 fb, .int .i64 inode, .int .u64 iseq, .int .i64 ioff, .int .i64 bnode, .int .u64 bseq, .int .i64 boff, .int .i64 dest, .int .i64 prio, .int .i64 born, .int .i64 life, .int .i64 total, .string data] 51)
  obtain ⟨g0, hg0⟩ : ∃ g0, w.heap.size = g0 := ⟨_, rfl⟩
  rw [hg0] at k0 ⊢
  have HG := Lib.hid hg0
  clear hg0
  generalize w.alloc (.cells #[.int .i64 kind, .int .i64 frm, .int .i64 tto, .int .u64 mine, .int .u64 yours, .int .u64 fa, .int .u64 fb, .int .i64 inode, .int .u64 iseq, .int .i64 ioff, .int .i64 bnode, .int .u64 bseq, .int .i64 boff, .int .i64 dest, .int .i64 prio, .int .i64 born, .int .i64 life, .int .i64 total, .string data] 51) = w1 at k0 hB ⊢
  have y0 : w1.cell? ⟨g0, 0, none⟩ = some (.int .i64 kind) := k0.cell 0
  have y1 : w1.cell? ⟨g0, 1, none⟩ = some (.int .i64 frm) := k0.cell 1
  have y2 : w1.cell? ⟨g0, 2, none⟩ = some (.int .i64 tto) := k0.cell 2
  have y3 : w1.cell? ⟨g0, 3, none⟩ = some (.int .u64 mine) := k0.cell 3
  have y4 : w1.cell? ⟨g0, 4, none⟩ = some (.int .u64 yours) := k0.cell 4
  have y5 : w1.cell? ⟨g0, 5, none⟩ = some (.int .u64 fa) := k0.cell 5
  go_wp2_with (refine wpList_load_row_g (by rfl) 51 _ (by rfl) g0 (by rfl) 51 #[.int .i64 kind, .int .i64 frm, .int .i64 tto, .int .u64 mine, .int .u64 yours, .int .u64 fa, .int .u64 fb, .int .i64 inode, .int .u64 iseq, .int .i64 ioff, .int .i64 bnode, .int .u64 bseq, .int .i64 boff, .int .i64 dest, .int .i64 prio, .int .i64 born, .int .i64 life, .int .i64 total, .string data] (0, 0) _ k0 Try.underlying51 (by rfl) (by kernel_rfl) ?_)
  refine (WB'.out _).mono ?_
  rintro e w2 ⟨rfl, hb⟩
  have hBw2 := bnext hB hb
  have k1 := k0.below hb
  clear hb hB k0 y0 y1 y2 y3 y4 y5
  have hB := hBw2
  have k0 := k1
  have hl0 := k0.lt
  clear hBw2 k1
  have y0 : w2.cell? ⟨g0, 0, none⟩ = some (.int .i64 kind) := k0.cell 0
  go_wp2_with fail
  refine (HI'.out _).mono ?_
  rintro e wi ⟨rfl, rfl⟩
  have y7 : w2.cell? ⟨g0, 7, none⟩ = some (.int .i64 inode) := k0.cell 7
  have y8 : w2.cell? ⟨g0, 8, none⟩ = some (.int .u64 iseq) := k0.cell 8
  have y9 : w2.cell? ⟨g0, 9, none⟩ = some (.int .i64 ioff) := k0.cell 9
  go_wp2_with fail
  refine (CI'.out _).mono ?_
  rintro e w3 ⟨rfl, hb⟩
  have hBw3 := bnext hB hb
  have k1 := k0.below hb
  clear hb hB k0 y0 y7 y8 y9
  have hB := hBw3
  have k0 := k1
  have hl0 := k0.lt
  clear hBw3 k1
  go_upto_region 12 with fail
  refine wp_region_held_drew (S := fun wx => Below w.heap.size w wx) (by kernel_rfl) hB.drew (fun hH => ?_)
  refine wpAnyH_take (i := 0) rfl (by kernel_rfl) (by kernel_rfl) (by kernel_rfl) (fun _ _ _ h => h) (yieldsIf_pure _ (.int .i64 ie) rfl (.inl rfl) rfl) hH ?_
  try simp only [List.getElem_toArray, List.getElem_cons_succ, List.getElem_cons_zero, Act.put, List.setIfInBounds_toArray, List.set_cons_zero, List.set_cons_succ]
  refine wpAnyH_take (i := 1) rfl (by kernel_rfl) (by kernel_rfl) (by kernel_rfl) (fun _ _ _ h => h) (yieldsIf_cell (.bool false) rfl (fun w h => by go_simp)) hH ?_
  try simp only [List.getElem_toArray, List.getElem_cons_succ, List.getElem_cons_zero, Act.put, List.setIfInBounds_toArray, List.set_cons_zero, List.set_cons_succ]
  refine wpAnyH_take (i := 2) rfl (by kernel_rfl) (by kernel_rfl) (by kernel_rfl) (fun _ _ _ h => h) (yieldsIf_pure _ (.bool false) rfl (.inl rfl) rfl) hH ?_
  try simp only [List.getElem_toArray, List.getElem_cons_succ, List.getElem_cons_zero, Act.put, List.setIfInBounds_toArray, List.set_cons_zero, List.set_cons_succ]
  refine wpAnyH_take (i := 3) rfl (by kernel_rfl) (by kernel_rfl) (by kernel_rfl) (fun _ _ _ h => h) (.inr ⟨rfl, rfl⟩) hH ?_
  try simp only [List.getElem_toArray, List.getElem_cons_succ, List.getElem_cons_zero, Act.put, List.setIfInBounds_toArray, List.set_cons_zero, List.set_cons_succ]
  refine wpAnyH_take (i := 4) rfl (by kernel_rfl) (by kernel_rfl) (by kernel_rfl) (fun _ _ _ h => h) (.inr ⟨rfl, rfl⟩) hH ?_
  try simp only [List.getElem_toArray, List.getElem_cons_succ, List.getElem_cons_zero, Act.put, List.setIfInBounds_toArray, List.set_cons_zero, List.set_cons_succ]
  refine wpAnyH_take (i := 5) rfl (by kernel_rfl) (by kernel_rfl) (by kernel_rfl) (fun _ _ _ h => h) (.inr ⟨rfl, rfl⟩) hH ?_
  try simp only [List.getElem_toArray, List.getElem_cons_succ, List.getElem_cons_zero, Act.put, List.setIfInBounds_toArray, List.set_cons_zero, List.set_cons_succ]
  refine wpAnyH_take (i := 6) rfl (by kernel_rfl) (by kernel_rfl) (by kernel_rfl) (fun _ _ _ h => h) (.inr ⟨rfl, rfl⟩) hH ?_
  try simp only [List.getElem_toArray, List.getElem_cons_succ, List.getElem_cons_zero, Act.put, List.setIfInBounds_toArray, List.set_cons_zero, List.set_cons_succ]
  refine wpAnyH_take (i := 7) rfl (by kernel_rfl) (by kernel_rfl) (by kernel_rfl) (fun _ _ _ h => h) (yieldsIf_cell (.bool false) rfl (fun w h => by go_simp)) hH ?_
  try simp only [List.getElem_toArray, List.getElem_cons_succ, List.getElem_cons_zero, Act.put, List.setIfInBounds_toArray, List.set_cons_zero, List.set_cons_succ]
  refine wpAnyH_done (by kernel_rfl) ?_ _
  have HB := Lib.hid hH
  clear hH hB k0
  go_wp2_with fail
  go_ret
  exact ⟨rfl, HB.out⟩

set_option maxRecDepth 100000 in
set_option maxHeartbeats 4000000 in
theorem rfc_It (kind frm tto mine yours fa fb inode iseq ioff bnode bseq boff dest prio born life total : Int) (data : ByteArray) (w : World) (k1 : ¬ kind < 1) (k2 : ¬ kind > 7) (o0 : ¬ frm < 1) (o1 : ¬ frm > 16) (o2 : ¬ tto < 1) (o3 : ¬ tto > 16) (o4 : (frm == tto) = false) (o5 : ¬ mine < 1) (o6 : ¬ mine > 1099511627776) (o7 : ¬ yours > 1099511627776) (n1 : (kind != 1) = true) (a1 : ¬ fa > 1125899906842624) (WB : ∀ w, Calls Try.prog 95 #[.agg #[.int .i64 kind, .int .i64 frm, .int .i64 tto, .int .u64 mine, .int .u64 yours, .int .u64 fa, .int .u64 fb, .int .i64 inode, .int .u64 iseq, .int .i64 ioff, .int .i64 bnode, .int .u64 bseq, .int .i64 boff, .int .i64 dest, .int .i64 prio, .int .i64 born, .int .i64 life, .int .i64 total, .string data]] w (RetB false w)) (q3 : (kind == 3) = false) (HI : ∀ w, Calls Try.prog 97 #[.int .i64 kind] w (fun e w' => e = .returned (.bool true) ∧ w = w')) (CI : ∀ w, Calls Try.prog 82 #[.agg #[.int .i64 inode, .int .u64 iseq, .int .i64 ioff]] w (RetI .i64 0 w)) (u0 u1 u2 u3 u4 u5 u6 u7 u8 u9 u10 u11 u12 u13 u14 u15 u16 u17 u18 : Value) (US : ∀ w, Calls Try.prog 98 #[.agg #[.int .i64 kind, .int .i64 frm, .int .i64 tto, .int .u64 mine, .int .u64 yours, .int .u64 fa, .int .u64 fb, .int .i64 inode, .int .u64 iseq, .int .i64 ioff, .int .i64 bnode, .int .u64 bseq, .int .i64 boff, .int .i64 dest, .int .i64 prio, .int .i64 born, .int .i64 life, .int .i64 total, .string data]] w (fun e w' => e = .returned (.agg #[u0, u1, u2, u3, u4, u5, u6, u7, u8, u9, u10, u11, u12, u13, u14, u15, u16, u17, u18]) ∧ Below w.heap.size w w')) (NE : ∀ w, (binOp .neq 51 (.agg #[u0, u1, u2, u3, u4, u5, u6, u7, u8, u9, u10, u11, u12, u13, u14, u15, u16, u17, u18]) (.agg #[.int .i64 kind, .int .i64 frm, .int .i64 tto, .int .u64 mine, .int .u64 yours, .int .u64 fa, .int .u64 fb, .int .i64 inode, .int .u64 iseq, .int .i64 ioff, .int .i64 bnode, .int .u64 bseq, .int .i64 boff, .int .i64 dest, .int .i64 prio, .int .i64 born, .int .i64 life, .int .i64 total, .string data])).run Try.prog w = .ok (.bool true) w) : Calls Try.prog 58 #[.agg #[.int .i64 kind, .int .i64 frm, .int .i64 tto, .int .u64 mine, .int .u64 yours, .int .u64 fa, .int .u64 fb, .int .i64 inode, .int .u64 iseq, .int .i64 ioff, .int .i64 bnode, .int .u64 bseq, .int .i64 boff, .int .i64 dest, .int .i64 prio, .int .i64 born, .int .i64 life, .int .i64 total, .string data]] w (RetI .i64 3 w) := by
  have US' := Lib.hid US
  clear US
  have NE' := Lib.hid NE
  clear NE
  have WB' := Lib.hid WB
  clear WB
  have HI' := Lib.hid HI
  clear HI
  have CI' := Lib.hid CI
  clear CI
  go_enter Try.func58, Try.ntmps58
  go_upto_region 1 with fail
  have k0 : Blk (w.alloc (.cells #[.int .i64 kind, .int .i64 frm, .int .i64 tto, .int .u64 mine, .int .u64 yours, .int .u64 fa, .int .u64 fb, .int .i64 inode, .int .u64 iseq, .int .i64 ioff, .int .i64 bnode, .int .u64 bseq, .int .i64 boff, .int .i64 dest, .int .i64 prio, .int .i64 born, .int .i64 life, .int .i64 total, .string data] 51)) w.heap.size 51 #[.int .i64 kind, .int .i64 frm, .int .i64 tto, .int .u64 mine, .int .u64 yours, .int .u64 fa, .int .u64 fb, .int .i64 inode, .int .u64 iseq, .int .i64 ioff, .int .i64 bnode, .int .u64 bseq, .int .i64 boff, .int .i64 dest, .int .i64 prio, .int .i64 born, .int .i64 life, .int .i64 total, .string data] := Blk.new w 51 #[.int .i64 kind, .int .i64 frm, .int .i64 tto, .int .u64 mine, .int .u64 yours, .int .u64 fa, .int .u64 fb, .int .i64 inode, .int .u64 iseq, .int .i64 ioff, .int .i64 bnode, .int .u64 bseq, .int .i64 boff, .int .i64 dest, .int .i64 prio, .int .i64 born, .int .i64 life, .int .i64 total, .string data]
  have hB := bal (Below.refl w.heap.size w) (.cells #[.int .i64 kind, .int .i64 frm, .int .i64 tto, .int .u64 mine, .int .u64 yours, .int .u64 fa, .int .u64 fb, .int .i64 inode, .int .u64 iseq, .int .i64 ioff, .int .i64 bnode, .int .u64 bseq, .int .i64 boff, .int .i64 dest, .int .i64 prio, .int .i64 born, .int .i64 life, .int .i64 total, .string data] 51)
  obtain ⟨g0, hg0⟩ : ∃ g0, w.heap.size = g0 := ⟨_, rfl⟩
  rw [hg0] at k0 ⊢
  have HG := Lib.hid hg0
  clear hg0
  generalize w.alloc (.cells #[.int .i64 kind, .int .i64 frm, .int .i64 tto, .int .u64 mine, .int .u64 yours, .int .u64 fa, .int .u64 fb, .int .i64 inode, .int .u64 iseq, .int .i64 ioff, .int .i64 bnode, .int .u64 bseq, .int .i64 boff, .int .i64 dest, .int .i64 prio, .int .i64 born, .int .i64 life, .int .i64 total, .string data] 51) = w1 at k0 hB ⊢
  have y0 : w1.cell? ⟨g0, 0, none⟩ = some (.int .i64 kind) := k0.cell 0
  have y1 : w1.cell? ⟨g0, 1, none⟩ = some (.int .i64 frm) := k0.cell 1
  have y2 : w1.cell? ⟨g0, 2, none⟩ = some (.int .i64 tto) := k0.cell 2
  have y3 : w1.cell? ⟨g0, 3, none⟩ = some (.int .u64 mine) := k0.cell 3
  have y4 : w1.cell? ⟨g0, 4, none⟩ = some (.int .u64 yours) := k0.cell 4
  have y5 : w1.cell? ⟨g0, 5, none⟩ = some (.int .u64 fa) := k0.cell 5
  go_wp2_with (refine wpList_load_row_g (by rfl) 51 _ (by rfl) g0 (by rfl) 51 #[.int .i64 kind, .int .i64 frm, .int .i64 tto, .int .u64 mine, .int .u64 yours, .int .u64 fa, .int .u64 fb, .int .i64 inode, .int .u64 iseq, .int .i64 ioff, .int .i64 bnode, .int .u64 bseq, .int .i64 boff, .int .i64 dest, .int .i64 prio, .int .i64 born, .int .i64 life, .int .i64 total, .string data] (0, 0) _ k0 Try.underlying51 (by rfl) (by kernel_rfl) ?_)
  refine (WB'.out _).mono ?_
  rintro e w2 ⟨rfl, hb⟩
  have hBw2 := bnext hB hb
  have k1 := k0.below hb
  clear hb hB k0 y0 y1 y2 y3 y4 y5
  have hB := hBw2
  have k0 := k1
  have hl0 := k0.lt
  clear hBw2 k1
  have y0 : w2.cell? ⟨g0, 0, none⟩ = some (.int .i64 kind) := k0.cell 0
  go_wp2_with fail
  refine (HI'.out _).mono ?_
  rintro e wi ⟨rfl, rfl⟩
  have y7 : w2.cell? ⟨g0, 7, none⟩ = some (.int .i64 inode) := k0.cell 7
  have y8 : w2.cell? ⟨g0, 8, none⟩ = some (.int .u64 iseq) := k0.cell 8
  have y9 : w2.cell? ⟨g0, 9, none⟩ = some (.int .i64 ioff) := k0.cell 9
  go_wp2_with fail
  refine (CI'.out _).mono ?_
  rintro e w3 ⟨rfl, hb⟩
  have hBw3 := bnext hB hb
  have k1 := k0.below hb
  clear hb hB k0 y0 y7 y8 y9
  have hB := hBw3
  have k0 := k1
  have hl0 := k0.lt
  clear hBw3 k1
  go_upto_region 12 with fail
  refine wp_region_held_drew (S := fun wx => Below w.heap.size w wx ∧ Blk wx g0 51 #[.int .i64 kind, .int .i64 frm, .int .i64 tto, .int .u64 mine, .int .u64 yours, .int .u64 fa, .int .u64 fb, .int .i64 inode, .int .u64 iseq, .int .i64 ioff, .int .i64 bnode, .int .u64 bseq, .int .i64 boff, .int .i64 dest, .int .i64 prio, .int .i64 born, .int .i64 life, .int .i64 total, .string data]) (by kernel_rfl) ⟨hB.drew, k0.drew⟩ (fun hH => ?_)
  refine wpAnyH_take (i := 0) rfl (by kernel_rfl) (by kernel_rfl) (by kernel_rfl) (fun _ _ _ h => h) (yieldsIf_pure _ (.int .i64 0) rfl (.inl rfl) rfl) hH ?_
  try simp only [List.getElem_toArray, List.getElem_cons_succ, List.getElem_cons_zero, Act.put, List.setIfInBounds_toArray, List.set_cons_zero, List.set_cons_succ]
  refine wpAnyH_take (i := 1) rfl (by kernel_rfl) (by kernel_rfl) (by kernel_rfl) (fun _ _ _ h => h) (yieldsIf_cell (.bool true) rfl (fun w h => by go_simp)) hH ?_
  try simp only [List.getElem_toArray, List.getElem_cons_succ, List.getElem_cons_zero, Act.put, List.setIfInBounds_toArray, List.set_cons_zero, List.set_cons_succ]
  refine wpAnyH_take (i := 2) rfl (by kernel_rfl) (by kernel_rfl) (by kernel_rfl) (fun _ _ _ h => h) (yieldsIf_pure _ (.bool true) rfl (.inl rfl) rfl) hH ?_
  try simp only [List.getElem_toArray, List.getElem_cons_succ, List.getElem_cons_zero, Act.put, List.setIfInBounds_toArray, List.set_cons_zero, List.set_cons_succ]
  refine wpAnyH_take (i := 3) rfl (by kernel_rfl) (by kernel_rfl) (by kernel_rfl) (fun _ _ _ h => h) (yieldsIf_row (g0) 51 #[.int .i64 kind, .int .i64 frm, .int .i64 tto, .int .u64 mine, .int .u64 yours, .int .u64 fa, .int .u64 fb, .int .i64 inode, .int .u64 iseq, .int .i64 ioff, .int .i64 bnode, .int .u64 bseq, .int .i64 boff, .int .i64 dest, .int .i64 prio, .int .i64 born, .int .i64 life, .int .i64 total, .string data] 51 _ _ rfl rfl rfl (fun w h => h.2) Try.underlying51 rfl (by kernel_rfl)) hH ?_
  try simp only [List.getElem_toArray, List.getElem_cons_succ, List.getElem_cons_zero, Act.put, List.setIfInBounds_toArray, List.set_cons_zero, List.set_cons_succ]
  refine wpAnyH_take (i := 5) rfl (by kernel_rfl) (by kernel_rfl) (by kernel_rfl) (fun _ _ _ h => h) (yieldsIf_row (g0) 51 #[.int .i64 kind, .int .i64 frm, .int .i64 tto, .int .u64 mine, .int .u64 yours, .int .u64 fa, .int .u64 fb, .int .i64 inode, .int .u64 iseq, .int .i64 ioff, .int .i64 bnode, .int .u64 bseq, .int .i64 boff, .int .i64 dest, .int .i64 prio, .int .i64 born, .int .i64 life, .int .i64 total, .string data] 51 _ _ rfl rfl rfl (fun w h => h.2) Try.underlying51 rfl (by kernel_rfl)) hH ?_
  try simp only [List.getElem_toArray, List.getElem_cons_succ, List.getElem_cons_zero, Act.put, List.setIfInBounds_toArray, List.set_cons_zero, List.set_cons_succ]
  refine wpAnyH_ready (rs := [4]) (by kernel_rfl) (by simp) ?_
  refine AllReadyH.cons rfl (fun KK hK => ?_) AllReadyH.nil
  go_simp
  refine (US'.out _).mono ?_
  rintro e wu ⟨rfl, hbu⟩
  have hBu : Below w.heap.size w wu ∧ Blk wu g0 51 #[.int .i64 kind, .int .i64 frm, .int .i64 tto, .int .u64 mine, .int .u64 yours, .int .u64 fa, .int .u64 fb, .int .i64 inode, .int .u64 iseq, .int .i64 ioff, .int .i64 bnode, .int .u64 bseq, .int .i64 boff, .int .i64 dest, .int .i64 prio, .int .i64 born, .int .i64 life, .int .i64 total, .string data] := ⟨bnext hH.1 hbu, hH.2.below hbu⟩
  refine hK.out _ _ hBu (fun hH2 => ?_)
  clear hK KK hH hbu
  try simp only [List.getElem_toArray, List.getElem_cons_succ, List.getElem_cons_zero, Act.put, List.setIfInBounds_toArray, List.set_cons_zero, List.set_cons_succ]
  refine wpAnyH_take (i := 6) rfl (by kernel_rfl) (by kernel_rfl) (by kernel_rfl) (fun _ _ _ h => h) (yieldsIf_bin _ _ _ _ _ (.agg #[u0, u1, u2, u3, u4, u5, u6, u7, u8, u9, u10, u11, u12, u13, u14, u15, u16, u17, u18]) (.agg #[.int .i64 kind, .int .i64 frm, .int .i64 tto, .int .u64 mine, .int .u64 yours, .int .u64 fa, .int .u64 fb, .int .i64 inode, .int .u64 iseq, .int .i64 ioff, .int .i64 bnode, .int .u64 bseq, .int .i64 boff, .int .i64 dest, .int .i64 prio, .int .i64 born, .int .i64 life, .int .i64 total, .string data]) (.bool true) rfl rfl rfl rfl (fun w => guardFr _ _ _ _ w) NE'.out) hH2 ?_
  try simp only [List.getElem_toArray, List.getElem_cons_succ, List.getElem_cons_zero, Act.put, List.setIfInBounds_toArray, List.set_cons_zero, List.set_cons_succ]
  refine wpAnyH_take (i := 7) rfl (by kernel_rfl) (by kernel_rfl) (by kernel_rfl) (fun _ _ _ h => h) (yieldsIf_cell (.bool true) rfl (fun w h => by go_simp)) hH2 ?_
  try simp only [List.getElem_toArray, List.getElem_cons_succ, List.getElem_cons_zero, Act.put, List.setIfInBounds_toArray, List.set_cons_zero, List.set_cons_succ]
  refine wpAnyH_done (by kernel_rfl) ?_ _
  have HB := Lib.hid hH2.1
  clear hH2 hBu hB k0 hl0
  go_wp2_with fail
  go_ret
  exact ⟨rfl, HB.out⟩

set_option maxRecDepth 100000 in
set_option maxHeartbeats 4000000 in
theorem rfc_If (kind frm tto mine yours fa fb inode iseq ioff bnode bseq boff dest prio born life total : Int) (data : ByteArray) (w : World) (k1 : ¬ kind < 1) (k2 : ¬ kind > 7) (o0 : ¬ frm < 1) (o1 : ¬ frm > 16) (o2 : ¬ tto < 1) (o3 : ¬ tto > 16) (o4 : (frm == tto) = false) (o5 : ¬ mine < 1) (o6 : ¬ mine > 1099511627776) (o7 : ¬ yours > 1099511627776) (n1 : (kind != 1) = true) (a1 : ¬ fa > 1125899906842624) (WB : ∀ w, Calls Try.prog 95 #[.agg #[.int .i64 kind, .int .i64 frm, .int .i64 tto, .int .u64 mine, .int .u64 yours, .int .u64 fa, .int .u64 fb, .int .i64 inode, .int .u64 iseq, .int .i64 ioff, .int .i64 bnode, .int .u64 bseq, .int .i64 boff, .int .i64 dest, .int .i64 prio, .int .i64 born, .int .i64 life, .int .i64 total, .string data]] w (RetB false w)) (q3 : (kind == 3) = false) (HI : ∀ w, Calls Try.prog 97 #[.int .i64 kind] w (fun e w' => e = .returned (.bool true) ∧ w = w')) (CI : ∀ w, Calls Try.prog 82 #[.agg #[.int .i64 inode, .int .u64 iseq, .int .i64 ioff]] w (RetI .i64 0 w)) (u0 u1 u2 u3 u4 u5 u6 u7 u8 u9 u10 u11 u12 u13 u14 u15 u16 u17 u18 : Value) (US : ∀ w, Calls Try.prog 98 #[.agg #[.int .i64 kind, .int .i64 frm, .int .i64 tto, .int .u64 mine, .int .u64 yours, .int .u64 fa, .int .u64 fb, .int .i64 inode, .int .u64 iseq, .int .i64 ioff, .int .i64 bnode, .int .u64 bseq, .int .i64 boff, .int .i64 dest, .int .i64 prio, .int .i64 born, .int .i64 life, .int .i64 total, .string data]] w (fun e w' => e = .returned (.agg #[u0, u1, u2, u3, u4, u5, u6, u7, u8, u9, u10, u11, u12, u13, u14, u15, u16, u17, u18]) ∧ Below w.heap.size w w')) (NE : ∀ w, (binOp .neq 51 (.agg #[u0, u1, u2, u3, u4, u5, u6, u7, u8, u9, u10, u11, u12, u13, u14, u15, u16, u17, u18]) (.agg #[.int .i64 kind, .int .i64 frm, .int .i64 tto, .int .u64 mine, .int .u64 yours, .int .u64 fa, .int .u64 fb, .int .i64 inode, .int .u64 iseq, .int .i64 ioff, .int .i64 bnode, .int .u64 bseq, .int .i64 boff, .int .i64 dest, .int .i64 prio, .int .i64 born, .int .i64 life, .int .i64 total, .string data])).run Try.prog w = .ok (.bool false) w) : Calls Try.prog 58 #[.agg #[.int .i64 kind, .int .i64 frm, .int .i64 tto, .int .u64 mine, .int .u64 yours, .int .u64 fa, .int .u64 fb, .int .i64 inode, .int .u64 iseq, .int .i64 ioff, .int .i64 bnode, .int .u64 bseq, .int .i64 boff, .int .i64 dest, .int .i64 prio, .int .i64 born, .int .i64 life, .int .i64 total, .string data]] w (RetI .i64 0 w) := by
  have US' := Lib.hid US
  clear US
  have NE' := Lib.hid NE
  clear NE
  have WB' := Lib.hid WB
  clear WB
  have HI' := Lib.hid HI
  clear HI
  have CI' := Lib.hid CI
  clear CI
  go_enter Try.func58, Try.ntmps58
  go_upto_region 1 with fail
  have k0 : Blk (w.alloc (.cells #[.int .i64 kind, .int .i64 frm, .int .i64 tto, .int .u64 mine, .int .u64 yours, .int .u64 fa, .int .u64 fb, .int .i64 inode, .int .u64 iseq, .int .i64 ioff, .int .i64 bnode, .int .u64 bseq, .int .i64 boff, .int .i64 dest, .int .i64 prio, .int .i64 born, .int .i64 life, .int .i64 total, .string data] 51)) w.heap.size 51 #[.int .i64 kind, .int .i64 frm, .int .i64 tto, .int .u64 mine, .int .u64 yours, .int .u64 fa, .int .u64 fb, .int .i64 inode, .int .u64 iseq, .int .i64 ioff, .int .i64 bnode, .int .u64 bseq, .int .i64 boff, .int .i64 dest, .int .i64 prio, .int .i64 born, .int .i64 life, .int .i64 total, .string data] := Blk.new w 51 #[.int .i64 kind, .int .i64 frm, .int .i64 tto, .int .u64 mine, .int .u64 yours, .int .u64 fa, .int .u64 fb, .int .i64 inode, .int .u64 iseq, .int .i64 ioff, .int .i64 bnode, .int .u64 bseq, .int .i64 boff, .int .i64 dest, .int .i64 prio, .int .i64 born, .int .i64 life, .int .i64 total, .string data]
  have hB := bal (Below.refl w.heap.size w) (.cells #[.int .i64 kind, .int .i64 frm, .int .i64 tto, .int .u64 mine, .int .u64 yours, .int .u64 fa, .int .u64 fb, .int .i64 inode, .int .u64 iseq, .int .i64 ioff, .int .i64 bnode, .int .u64 bseq, .int .i64 boff, .int .i64 dest, .int .i64 prio, .int .i64 born, .int .i64 life, .int .i64 total, .string data] 51)
  obtain ⟨g0, hg0⟩ : ∃ g0, w.heap.size = g0 := ⟨_, rfl⟩
  rw [hg0] at k0 ⊢
  have HG := Lib.hid hg0
  clear hg0
  generalize w.alloc (.cells #[.int .i64 kind, .int .i64 frm, .int .i64 tto, .int .u64 mine, .int .u64 yours, .int .u64 fa, .int .u64 fb, .int .i64 inode, .int .u64 iseq, .int .i64 ioff, .int .i64 bnode, .int .u64 bseq, .int .i64 boff, .int .i64 dest, .int .i64 prio, .int .i64 born, .int .i64 life, .int .i64 total, .string data] 51) = w1 at k0 hB ⊢
  have y0 : w1.cell? ⟨g0, 0, none⟩ = some (.int .i64 kind) := k0.cell 0
  have y1 : w1.cell? ⟨g0, 1, none⟩ = some (.int .i64 frm) := k0.cell 1
  have y2 : w1.cell? ⟨g0, 2, none⟩ = some (.int .i64 tto) := k0.cell 2
  have y3 : w1.cell? ⟨g0, 3, none⟩ = some (.int .u64 mine) := k0.cell 3
  have y4 : w1.cell? ⟨g0, 4, none⟩ = some (.int .u64 yours) := k0.cell 4
  have y5 : w1.cell? ⟨g0, 5, none⟩ = some (.int .u64 fa) := k0.cell 5
  go_wp2_with (refine wpList_load_row_g (by rfl) 51 _ (by rfl) g0 (by rfl) 51 #[.int .i64 kind, .int .i64 frm, .int .i64 tto, .int .u64 mine, .int .u64 yours, .int .u64 fa, .int .u64 fb, .int .i64 inode, .int .u64 iseq, .int .i64 ioff, .int .i64 bnode, .int .u64 bseq, .int .i64 boff, .int .i64 dest, .int .i64 prio, .int .i64 born, .int .i64 life, .int .i64 total, .string data] (0, 0) _ k0 Try.underlying51 (by rfl) (by kernel_rfl) ?_)
  refine (WB'.out _).mono ?_
  rintro e w2 ⟨rfl, hb⟩
  have hBw2 := bnext hB hb
  have k1 := k0.below hb
  clear hb hB k0 y0 y1 y2 y3 y4 y5
  have hB := hBw2
  have k0 := k1
  have hl0 := k0.lt
  clear hBw2 k1
  have y0 : w2.cell? ⟨g0, 0, none⟩ = some (.int .i64 kind) := k0.cell 0
  go_wp2_with fail
  refine (HI'.out _).mono ?_
  rintro e wi ⟨rfl, rfl⟩
  have y7 : w2.cell? ⟨g0, 7, none⟩ = some (.int .i64 inode) := k0.cell 7
  have y8 : w2.cell? ⟨g0, 8, none⟩ = some (.int .u64 iseq) := k0.cell 8
  have y9 : w2.cell? ⟨g0, 9, none⟩ = some (.int .i64 ioff) := k0.cell 9
  go_wp2_with fail
  refine (CI'.out _).mono ?_
  rintro e w3 ⟨rfl, hb⟩
  have hBw3 := bnext hB hb
  have k1 := k0.below hb
  clear hb hB k0 y0 y7 y8 y9
  have hB := hBw3
  have k0 := k1
  have hl0 := k0.lt
  clear hBw3 k1
  go_upto_region 12 with fail
  refine wp_region_held_drew (S := fun wx => Below w.heap.size w wx ∧ Blk wx g0 51 #[.int .i64 kind, .int .i64 frm, .int .i64 tto, .int .u64 mine, .int .u64 yours, .int .u64 fa, .int .u64 fb, .int .i64 inode, .int .u64 iseq, .int .i64 ioff, .int .i64 bnode, .int .u64 bseq, .int .i64 boff, .int .i64 dest, .int .i64 prio, .int .i64 born, .int .i64 life, .int .i64 total, .string data]) (by kernel_rfl) ⟨hB.drew, k0.drew⟩ (fun hH => ?_)
  refine wpAnyH_take (i := 0) rfl (by kernel_rfl) (by kernel_rfl) (by kernel_rfl) (fun _ _ _ h => h) (yieldsIf_pure _ (.int .i64 0) rfl (.inl rfl) rfl) hH ?_
  try simp only [List.getElem_toArray, List.getElem_cons_succ, List.getElem_cons_zero, Act.put, List.setIfInBounds_toArray, List.set_cons_zero, List.set_cons_succ]
  refine wpAnyH_take (i := 1) rfl (by kernel_rfl) (by kernel_rfl) (by kernel_rfl) (fun _ _ _ h => h) (yieldsIf_cell (.bool true) rfl (fun w h => by go_simp)) hH ?_
  try simp only [List.getElem_toArray, List.getElem_cons_succ, List.getElem_cons_zero, Act.put, List.setIfInBounds_toArray, List.set_cons_zero, List.set_cons_succ]
  refine wpAnyH_take (i := 2) rfl (by kernel_rfl) (by kernel_rfl) (by kernel_rfl) (fun _ _ _ h => h) (yieldsIf_pure _ (.bool true) rfl (.inl rfl) rfl) hH ?_
  try simp only [List.getElem_toArray, List.getElem_cons_succ, List.getElem_cons_zero, Act.put, List.setIfInBounds_toArray, List.set_cons_zero, List.set_cons_succ]
  refine wpAnyH_take (i := 3) rfl (by kernel_rfl) (by kernel_rfl) (by kernel_rfl) (fun _ _ _ h => h) (yieldsIf_row (g0) 51 #[.int .i64 kind, .int .i64 frm, .int .i64 tto, .int .u64 mine, .int .u64 yours, .int .u64 fa, .int .u64 fb, .int .i64 inode, .int .u64 iseq, .int .i64 ioff, .int .i64 bnode, .int .u64 bseq, .int .i64 boff, .int .i64 dest, .int .i64 prio, .int .i64 born, .int .i64 life, .int .i64 total, .string data] 51 _ _ rfl rfl rfl (fun w h => h.2) Try.underlying51 rfl (by kernel_rfl)) hH ?_
  try simp only [List.getElem_toArray, List.getElem_cons_succ, List.getElem_cons_zero, Act.put, List.setIfInBounds_toArray, List.set_cons_zero, List.set_cons_succ]
  refine wpAnyH_take (i := 5) rfl (by kernel_rfl) (by kernel_rfl) (by kernel_rfl) (fun _ _ _ h => h) (yieldsIf_row (g0) 51 #[.int .i64 kind, .int .i64 frm, .int .i64 tto, .int .u64 mine, .int .u64 yours, .int .u64 fa, .int .u64 fb, .int .i64 inode, .int .u64 iseq, .int .i64 ioff, .int .i64 bnode, .int .u64 bseq, .int .i64 boff, .int .i64 dest, .int .i64 prio, .int .i64 born, .int .i64 life, .int .i64 total, .string data] 51 _ _ rfl rfl rfl (fun w h => h.2) Try.underlying51 rfl (by kernel_rfl)) hH ?_
  try simp only [List.getElem_toArray, List.getElem_cons_succ, List.getElem_cons_zero, Act.put, List.setIfInBounds_toArray, List.set_cons_zero, List.set_cons_succ]
  refine wpAnyH_ready (rs := [4]) (by kernel_rfl) (by simp) ?_
  refine AllReadyH.cons rfl (fun KK hK => ?_) AllReadyH.nil
  go_simp
  refine (US'.out _).mono ?_
  rintro e wu ⟨rfl, hbu⟩
  have hBu : Below w.heap.size w wu ∧ Blk wu g0 51 #[.int .i64 kind, .int .i64 frm, .int .i64 tto, .int .u64 mine, .int .u64 yours, .int .u64 fa, .int .u64 fb, .int .i64 inode, .int .u64 iseq, .int .i64 ioff, .int .i64 bnode, .int .u64 bseq, .int .i64 boff, .int .i64 dest, .int .i64 prio, .int .i64 born, .int .i64 life, .int .i64 total, .string data] := ⟨bnext hH.1 hbu, hH.2.below hbu⟩
  refine hK.out _ _ hBu (fun hH2 => ?_)
  clear hK KK hH hbu
  try simp only [List.getElem_toArray, List.getElem_cons_succ, List.getElem_cons_zero, Act.put, List.setIfInBounds_toArray, List.set_cons_zero, List.set_cons_succ]
  refine wpAnyH_take (i := 6) rfl (by kernel_rfl) (by kernel_rfl) (by kernel_rfl) (fun _ _ _ h => h) (yieldsIf_bin _ _ _ _ _ (.agg #[u0, u1, u2, u3, u4, u5, u6, u7, u8, u9, u10, u11, u12, u13, u14, u15, u16, u17, u18]) (.agg #[.int .i64 kind, .int .i64 frm, .int .i64 tto, .int .u64 mine, .int .u64 yours, .int .u64 fa, .int .u64 fb, .int .i64 inode, .int .u64 iseq, .int .i64 ioff, .int .i64 bnode, .int .u64 bseq, .int .i64 boff, .int .i64 dest, .int .i64 prio, .int .i64 born, .int .i64 life, .int .i64 total, .string data]) (.bool false) rfl rfl rfl rfl (fun w => guardFr _ _ _ _ w) NE'.out) hH2 ?_
  try simp only [List.getElem_toArray, List.getElem_cons_succ, List.getElem_cons_zero, Act.put, List.setIfInBounds_toArray, List.set_cons_zero, List.set_cons_succ]
  refine wpAnyH_take (i := 7) rfl (by kernel_rfl) (by kernel_rfl) (by kernel_rfl) (fun _ _ _ h => h) (yieldsIf_cell (.bool false) rfl (fun w h => by go_simp)) hH2 ?_
  try simp only [List.getElem_toArray, List.getElem_cons_succ, List.getElem_cons_zero, Act.put, List.setIfInBounds_toArray, List.set_cons_zero, List.set_cons_succ]
  refine wpAnyH_done (by kernel_rfl) ?_ _
  have HB := Lib.hid hH2.1
  clear hH2 hBu hB k0 hl0
  go_wp2_with fail
  go_ret
  exact ⟨rfl, HB.out⟩

set_option maxRecDepth 100000 in
set_option maxHeartbeats 4000000 in
theorem rfc_Nnt (kind frm tto mine yours fa fb inode iseq ioff bnode bseq boff dest prio born life total : Int) (data : ByteArray) (w : World) (k1 : ¬ kind < 1) (k2 : ¬ kind > 7) (o0 : ¬ frm < 1) (o1 : ¬ frm > 16) (o2 : ¬ tto < 1) (o3 : ¬ tto > 16) (o4 : (frm == tto) = false) (o5 : ¬ mine < 1) (o6 : ¬ mine > 1099511627776) (o7 : ¬ yours > 1099511627776) (n1 : (kind != 1) = true) (a1 : ¬ fa > 1125899906842624) (WB : ∀ w, Calls Try.prog 95 #[.agg #[.int .i64 kind, .int .i64 frm, .int .i64 tto, .int .u64 mine, .int .u64 yours, .int .u64 fa, .int .u64 fb, .int .i64 inode, .int .u64 iseq, .int .i64 ioff, .int .i64 bnode, .int .u64 bseq, .int .i64 boff, .int .i64 dest, .int .i64 prio, .int .i64 born, .int .i64 life, .int .i64 total, .string data]] w (RetB false w)) (q3 : (kind == 3) = false) (HI : ∀ w, Calls Try.prog 97 #[.int .i64 kind] w (fun e w' => e = .returned (.bool false) ∧ w = w')) (u0 u1 u2 u3 u4 u5 u6 u7 u8 u9 u10 u11 u12 u13 u14 u15 u16 u17 u18 : Value) (US : ∀ w, Calls Try.prog 98 #[.agg #[.int .i64 kind, .int .i64 frm, .int .i64 tto, .int .u64 mine, .int .u64 yours, .int .u64 fa, .int .u64 fb, .int .i64 inode, .int .u64 iseq, .int .i64 ioff, .int .i64 bnode, .int .u64 bseq, .int .i64 boff, .int .i64 dest, .int .i64 prio, .int .i64 born, .int .i64 life, .int .i64 total, .string data]] w (fun e w' => e = .returned (.agg #[u0, u1, u2, u3, u4, u5, u6, u7, u8, u9, u10, u11, u12, u13, u14, u15, u16, u17, u18]) ∧ Below w.heap.size w w')) (NE : ∀ w, (binOp .neq 51 (.agg #[u0, u1, u2, u3, u4, u5, u6, u7, u8, u9, u10, u11, u12, u13, u14, u15, u16, u17, u18]) (.agg #[.int .i64 kind, .int .i64 frm, .int .i64 tto, .int .u64 mine, .int .u64 yours, .int .u64 fa, .int .u64 fb, .int .i64 inode, .int .u64 iseq, .int .i64 ioff, .int .i64 bnode, .int .u64 bseq, .int .i64 boff, .int .i64 dest, .int .i64 prio, .int .i64 born, .int .i64 life, .int .i64 total, .string data])).run Try.prog w = .ok (.bool true) w) : Calls Try.prog 58 #[.agg #[.int .i64 kind, .int .i64 frm, .int .i64 tto, .int .u64 mine, .int .u64 yours, .int .u64 fa, .int .u64 fb, .int .i64 inode, .int .u64 iseq, .int .i64 ioff, .int .i64 bnode, .int .u64 bseq, .int .i64 boff, .int .i64 dest, .int .i64 prio, .int .i64 born, .int .i64 life, .int .i64 total, .string data]] w (RetI .i64 3 w) := by
  have US' := Lib.hid US
  clear US
  have NE' := Lib.hid NE
  clear NE
  have WB' := Lib.hid WB
  clear WB
  have HI' := Lib.hid HI
  clear HI
  go_enter Try.func58, Try.ntmps58
  go_upto_region 1 with fail
  have k0 : Blk (w.alloc (.cells #[.int .i64 kind, .int .i64 frm, .int .i64 tto, .int .u64 mine, .int .u64 yours, .int .u64 fa, .int .u64 fb, .int .i64 inode, .int .u64 iseq, .int .i64 ioff, .int .i64 bnode, .int .u64 bseq, .int .i64 boff, .int .i64 dest, .int .i64 prio, .int .i64 born, .int .i64 life, .int .i64 total, .string data] 51)) w.heap.size 51 #[.int .i64 kind, .int .i64 frm, .int .i64 tto, .int .u64 mine, .int .u64 yours, .int .u64 fa, .int .u64 fb, .int .i64 inode, .int .u64 iseq, .int .i64 ioff, .int .i64 bnode, .int .u64 bseq, .int .i64 boff, .int .i64 dest, .int .i64 prio, .int .i64 born, .int .i64 life, .int .i64 total, .string data] := Blk.new w 51 #[.int .i64 kind, .int .i64 frm, .int .i64 tto, .int .u64 mine, .int .u64 yours, .int .u64 fa, .int .u64 fb, .int .i64 inode, .int .u64 iseq, .int .i64 ioff, .int .i64 bnode, .int .u64 bseq, .int .i64 boff, .int .i64 dest, .int .i64 prio, .int .i64 born, .int .i64 life, .int .i64 total, .string data]
  have hB := bal (Below.refl w.heap.size w) (.cells #[.int .i64 kind, .int .i64 frm, .int .i64 tto, .int .u64 mine, .int .u64 yours, .int .u64 fa, .int .u64 fb, .int .i64 inode, .int .u64 iseq, .int .i64 ioff, .int .i64 bnode, .int .u64 bseq, .int .i64 boff, .int .i64 dest, .int .i64 prio, .int .i64 born, .int .i64 life, .int .i64 total, .string data] 51)
  obtain ⟨g0, hg0⟩ : ∃ g0, w.heap.size = g0 := ⟨_, rfl⟩
  rw [hg0] at k0 ⊢
  have HG := Lib.hid hg0
  clear hg0
  generalize w.alloc (.cells #[.int .i64 kind, .int .i64 frm, .int .i64 tto, .int .u64 mine, .int .u64 yours, .int .u64 fa, .int .u64 fb, .int .i64 inode, .int .u64 iseq, .int .i64 ioff, .int .i64 bnode, .int .u64 bseq, .int .i64 boff, .int .i64 dest, .int .i64 prio, .int .i64 born, .int .i64 life, .int .i64 total, .string data] 51) = w1 at k0 hB ⊢
  have y0 : w1.cell? ⟨g0, 0, none⟩ = some (.int .i64 kind) := k0.cell 0
  have y1 : w1.cell? ⟨g0, 1, none⟩ = some (.int .i64 frm) := k0.cell 1
  have y2 : w1.cell? ⟨g0, 2, none⟩ = some (.int .i64 tto) := k0.cell 2
  have y3 : w1.cell? ⟨g0, 3, none⟩ = some (.int .u64 mine) := k0.cell 3
  have y4 : w1.cell? ⟨g0, 4, none⟩ = some (.int .u64 yours) := k0.cell 4
  have y5 : w1.cell? ⟨g0, 5, none⟩ = some (.int .u64 fa) := k0.cell 5
  go_wp2_with (refine wpList_load_row_g (by rfl) 51 _ (by rfl) g0 (by rfl) 51 #[.int .i64 kind, .int .i64 frm, .int .i64 tto, .int .u64 mine, .int .u64 yours, .int .u64 fa, .int .u64 fb, .int .i64 inode, .int .u64 iseq, .int .i64 ioff, .int .i64 bnode, .int .u64 bseq, .int .i64 boff, .int .i64 dest, .int .i64 prio, .int .i64 born, .int .i64 life, .int .i64 total, .string data] (0, 0) _ k0 Try.underlying51 (by rfl) (by kernel_rfl) ?_)
  refine (WB'.out _).mono ?_
  rintro e w2 ⟨rfl, hb⟩
  have hBw2 := bnext hB hb
  have k1 := k0.below hb
  clear hb hB k0 y0 y1 y2 y3 y4 y5
  have hB := hBw2
  have k0 := k1
  have hl0 := k0.lt
  clear hBw2 k1
  have y0 : w2.cell? ⟨g0, 0, none⟩ = some (.int .i64 kind) := k0.cell 0
  go_wp2_with fail
  refine (HI'.out _).mono ?_
  rintro e wi ⟨rfl, rfl⟩
  clear y0
  go_upto_region 12 with fail
  refine wp_region_held_drew (S := fun wx => Below w.heap.size w wx ∧ Blk wx g0 51 #[.int .i64 kind, .int .i64 frm, .int .i64 tto, .int .u64 mine, .int .u64 yours, .int .u64 fa, .int .u64 fb, .int .i64 inode, .int .u64 iseq, .int .i64 ioff, .int .i64 bnode, .int .u64 bseq, .int .i64 boff, .int .i64 dest, .int .i64 prio, .int .i64 born, .int .i64 life, .int .i64 total, .string data]) (by kernel_rfl) ⟨hB.drew, k0.drew⟩ (fun hH => ?_)
  refine wpAnyH_take (i := 0) rfl (by kernel_rfl) (by kernel_rfl) (by kernel_rfl) (fun _ _ _ h => h) (yieldsIf_pure _ (.int .i64 0) rfl (.inl rfl) rfl) hH ?_
  try simp only [List.getElem_toArray, List.getElem_cons_succ, List.getElem_cons_zero, Act.put, List.setIfInBounds_toArray, List.set_cons_zero, List.set_cons_succ]
  refine wpAnyH_take (i := 1) rfl (by kernel_rfl) (by kernel_rfl) (by kernel_rfl) (fun _ _ _ h => h) (yieldsIf_cell (.bool true) rfl (fun w h => by go_simp)) hH ?_
  try simp only [List.getElem_toArray, List.getElem_cons_succ, List.getElem_cons_zero, Act.put, List.setIfInBounds_toArray, List.set_cons_zero, List.set_cons_succ]
  refine wpAnyH_take (i := 2) rfl (by kernel_rfl) (by kernel_rfl) (by kernel_rfl) (fun _ _ _ h => h) (yieldsIf_pure _ (.bool true) rfl (.inl rfl) rfl) hH ?_
  try simp only [List.getElem_toArray, List.getElem_cons_succ, List.getElem_cons_zero, Act.put, List.setIfInBounds_toArray, List.set_cons_zero, List.set_cons_succ]
  refine wpAnyH_take (i := 3) rfl (by kernel_rfl) (by kernel_rfl) (by kernel_rfl) (fun _ _ _ h => h) (yieldsIf_row (g0) 51 #[.int .i64 kind, .int .i64 frm, .int .i64 tto, .int .u64 mine, .int .u64 yours, .int .u64 fa, .int .u64 fb, .int .i64 inode, .int .u64 iseq, .int .i64 ioff, .int .i64 bnode, .int .u64 bseq, .int .i64 boff, .int .i64 dest, .int .i64 prio, .int .i64 born, .int .i64 life, .int .i64 total, .string data] 51 _ _ rfl rfl rfl (fun w h => h.2) Try.underlying51 rfl (by kernel_rfl)) hH ?_
  try simp only [List.getElem_toArray, List.getElem_cons_succ, List.getElem_cons_zero, Act.put, List.setIfInBounds_toArray, List.set_cons_zero, List.set_cons_succ]
  refine wpAnyH_take (i := 5) rfl (by kernel_rfl) (by kernel_rfl) (by kernel_rfl) (fun _ _ _ h => h) (yieldsIf_row (g0) 51 #[.int .i64 kind, .int .i64 frm, .int .i64 tto, .int .u64 mine, .int .u64 yours, .int .u64 fa, .int .u64 fb, .int .i64 inode, .int .u64 iseq, .int .i64 ioff, .int .i64 bnode, .int .u64 bseq, .int .i64 boff, .int .i64 dest, .int .i64 prio, .int .i64 born, .int .i64 life, .int .i64 total, .string data] 51 _ _ rfl rfl rfl (fun w h => h.2) Try.underlying51 rfl (by kernel_rfl)) hH ?_
  try simp only [List.getElem_toArray, List.getElem_cons_succ, List.getElem_cons_zero, Act.put, List.setIfInBounds_toArray, List.set_cons_zero, List.set_cons_succ]
  refine wpAnyH_ready (rs := [4]) (by kernel_rfl) (by simp) ?_
  refine AllReadyH.cons rfl (fun KK hK => ?_) AllReadyH.nil
  go_simp
  refine (US'.out _).mono ?_
  rintro e wu ⟨rfl, hbu⟩
  have hBu : Below w.heap.size w wu ∧ Blk wu g0 51 #[.int .i64 kind, .int .i64 frm, .int .i64 tto, .int .u64 mine, .int .u64 yours, .int .u64 fa, .int .u64 fb, .int .i64 inode, .int .u64 iseq, .int .i64 ioff, .int .i64 bnode, .int .u64 bseq, .int .i64 boff, .int .i64 dest, .int .i64 prio, .int .i64 born, .int .i64 life, .int .i64 total, .string data] := ⟨bnext hH.1 hbu, hH.2.below hbu⟩
  refine hK.out _ _ hBu (fun hH2 => ?_)
  clear hK KK hH hbu
  try simp only [List.getElem_toArray, List.getElem_cons_succ, List.getElem_cons_zero, Act.put, List.setIfInBounds_toArray, List.set_cons_zero, List.set_cons_succ]
  refine wpAnyH_take (i := 6) rfl (by kernel_rfl) (by kernel_rfl) (by kernel_rfl) (fun _ _ _ h => h) (yieldsIf_bin _ _ _ _ _ (.agg #[u0, u1, u2, u3, u4, u5, u6, u7, u8, u9, u10, u11, u12, u13, u14, u15, u16, u17, u18]) (.agg #[.int .i64 kind, .int .i64 frm, .int .i64 tto, .int .u64 mine, .int .u64 yours, .int .u64 fa, .int .u64 fb, .int .i64 inode, .int .u64 iseq, .int .i64 ioff, .int .i64 bnode, .int .u64 bseq, .int .i64 boff, .int .i64 dest, .int .i64 prio, .int .i64 born, .int .i64 life, .int .i64 total, .string data]) (.bool true) rfl rfl rfl rfl (fun w => guardFr _ _ _ _ w) NE'.out) hH2 ?_
  try simp only [List.getElem_toArray, List.getElem_cons_succ, List.getElem_cons_zero, Act.put, List.setIfInBounds_toArray, List.set_cons_zero, List.set_cons_succ]
  refine wpAnyH_take (i := 7) rfl (by kernel_rfl) (by kernel_rfl) (by kernel_rfl) (fun _ _ _ h => h) (yieldsIf_cell (.bool true) rfl (fun w h => by go_simp)) hH2 ?_
  try simp only [List.getElem_toArray, List.getElem_cons_succ, List.getElem_cons_zero, Act.put, List.setIfInBounds_toArray, List.set_cons_zero, List.set_cons_succ]
  refine wpAnyH_done (by kernel_rfl) ?_ _
  have HB := Lib.hid hH2.1
  clear hH2 hBu hB k0 hl0
  go_wp2_with fail
  go_ret
  exact ⟨rfl, HB.out⟩

set_option maxRecDepth 100000 in
set_option maxHeartbeats 4000000 in
theorem rfc_Nnf (kind frm tto mine yours fa fb inode iseq ioff bnode bseq boff dest prio born life total : Int) (data : ByteArray) (w : World) (k1 : ¬ kind < 1) (k2 : ¬ kind > 7) (o0 : ¬ frm < 1) (o1 : ¬ frm > 16) (o2 : ¬ tto < 1) (o3 : ¬ tto > 16) (o4 : (frm == tto) = false) (o5 : ¬ mine < 1) (o6 : ¬ mine > 1099511627776) (o7 : ¬ yours > 1099511627776) (n1 : (kind != 1) = true) (a1 : ¬ fa > 1125899906842624) (WB : ∀ w, Calls Try.prog 95 #[.agg #[.int .i64 kind, .int .i64 frm, .int .i64 tto, .int .u64 mine, .int .u64 yours, .int .u64 fa, .int .u64 fb, .int .i64 inode, .int .u64 iseq, .int .i64 ioff, .int .i64 bnode, .int .u64 bseq, .int .i64 boff, .int .i64 dest, .int .i64 prio, .int .i64 born, .int .i64 life, .int .i64 total, .string data]] w (RetB false w)) (q3 : (kind == 3) = false) (HI : ∀ w, Calls Try.prog 97 #[.int .i64 kind] w (fun e w' => e = .returned (.bool false) ∧ w = w')) (u0 u1 u2 u3 u4 u5 u6 u7 u8 u9 u10 u11 u12 u13 u14 u15 u16 u17 u18 : Value) (US : ∀ w, Calls Try.prog 98 #[.agg #[.int .i64 kind, .int .i64 frm, .int .i64 tto, .int .u64 mine, .int .u64 yours, .int .u64 fa, .int .u64 fb, .int .i64 inode, .int .u64 iseq, .int .i64 ioff, .int .i64 bnode, .int .u64 bseq, .int .i64 boff, .int .i64 dest, .int .i64 prio, .int .i64 born, .int .i64 life, .int .i64 total, .string data]] w (fun e w' => e = .returned (.agg #[u0, u1, u2, u3, u4, u5, u6, u7, u8, u9, u10, u11, u12, u13, u14, u15, u16, u17, u18]) ∧ Below w.heap.size w w')) (NE : ∀ w, (binOp .neq 51 (.agg #[u0, u1, u2, u3, u4, u5, u6, u7, u8, u9, u10, u11, u12, u13, u14, u15, u16, u17, u18]) (.agg #[.int .i64 kind, .int .i64 frm, .int .i64 tto, .int .u64 mine, .int .u64 yours, .int .u64 fa, .int .u64 fb, .int .i64 inode, .int .u64 iseq, .int .i64 ioff, .int .i64 bnode, .int .u64 bseq, .int .i64 boff, .int .i64 dest, .int .i64 prio, .int .i64 born, .int .i64 life, .int .i64 total, .string data])).run Try.prog w = .ok (.bool false) w) : Calls Try.prog 58 #[.agg #[.int .i64 kind, .int .i64 frm, .int .i64 tto, .int .u64 mine, .int .u64 yours, .int .u64 fa, .int .u64 fb, .int .i64 inode, .int .u64 iseq, .int .i64 ioff, .int .i64 bnode, .int .u64 bseq, .int .i64 boff, .int .i64 dest, .int .i64 prio, .int .i64 born, .int .i64 life, .int .i64 total, .string data]] w (RetI .i64 0 w) := by
  have US' := Lib.hid US
  clear US
  have NE' := Lib.hid NE
  clear NE
  have WB' := Lib.hid WB
  clear WB
  have HI' := Lib.hid HI
  clear HI
  go_enter Try.func58, Try.ntmps58
  go_upto_region 1 with fail
  have k0 : Blk (w.alloc (.cells #[.int .i64 kind, .int .i64 frm, .int .i64 tto, .int .u64 mine, .int .u64 yours, .int .u64 fa, .int .u64 fb, .int .i64 inode, .int .u64 iseq, .int .i64 ioff, .int .i64 bnode, .int .u64 bseq, .int .i64 boff, .int .i64 dest, .int .i64 prio, .int .i64 born, .int .i64 life, .int .i64 total, .string data] 51)) w.heap.size 51 #[.int .i64 kind, .int .i64 frm, .int .i64 tto, .int .u64 mine, .int .u64 yours, .int .u64 fa, .int .u64 fb, .int .i64 inode, .int .u64 iseq, .int .i64 ioff, .int .i64 bnode, .int .u64 bseq, .int .i64 boff, .int .i64 dest, .int .i64 prio, .int .i64 born, .int .i64 life, .int .i64 total, .string data] := Blk.new w 51 #[.int .i64 kind, .int .i64 frm, .int .i64 tto, .int .u64 mine, .int .u64 yours, .int .u64 fa, .int .u64 fb, .int .i64 inode, .int .u64 iseq, .int .i64 ioff, .int .i64 bnode, .int .u64 bseq, .int .i64 boff, .int .i64 dest, .int .i64 prio, .int .i64 born, .int .i64 life, .int .i64 total, .string data]
  have hB := bal (Below.refl w.heap.size w) (.cells #[.int .i64 kind, .int .i64 frm, .int .i64 tto, .int .u64 mine, .int .u64 yours, .int .u64 fa, .int .u64 fb, .int .i64 inode, .int .u64 iseq, .int .i64 ioff, .int .i64 bnode, .int .u64 bseq, .int .i64 boff, .int .i64 dest, .int .i64 prio, .int .i64 born, .int .i64 life, .int .i64 total, .string data] 51)
  obtain ⟨g0, hg0⟩ : ∃ g0, w.heap.size = g0 := ⟨_, rfl⟩
  rw [hg0] at k0 ⊢
  have HG := Lib.hid hg0
  clear hg0
  generalize w.alloc (.cells #[.int .i64 kind, .int .i64 frm, .int .i64 tto, .int .u64 mine, .int .u64 yours, .int .u64 fa, .int .u64 fb, .int .i64 inode, .int .u64 iseq, .int .i64 ioff, .int .i64 bnode, .int .u64 bseq, .int .i64 boff, .int .i64 dest, .int .i64 prio, .int .i64 born, .int .i64 life, .int .i64 total, .string data] 51) = w1 at k0 hB ⊢
  have y0 : w1.cell? ⟨g0, 0, none⟩ = some (.int .i64 kind) := k0.cell 0
  have y1 : w1.cell? ⟨g0, 1, none⟩ = some (.int .i64 frm) := k0.cell 1
  have y2 : w1.cell? ⟨g0, 2, none⟩ = some (.int .i64 tto) := k0.cell 2
  have y3 : w1.cell? ⟨g0, 3, none⟩ = some (.int .u64 mine) := k0.cell 3
  have y4 : w1.cell? ⟨g0, 4, none⟩ = some (.int .u64 yours) := k0.cell 4
  have y5 : w1.cell? ⟨g0, 5, none⟩ = some (.int .u64 fa) := k0.cell 5
  go_wp2_with (refine wpList_load_row_g (by rfl) 51 _ (by rfl) g0 (by rfl) 51 #[.int .i64 kind, .int .i64 frm, .int .i64 tto, .int .u64 mine, .int .u64 yours, .int .u64 fa, .int .u64 fb, .int .i64 inode, .int .u64 iseq, .int .i64 ioff, .int .i64 bnode, .int .u64 bseq, .int .i64 boff, .int .i64 dest, .int .i64 prio, .int .i64 born, .int .i64 life, .int .i64 total, .string data] (0, 0) _ k0 Try.underlying51 (by rfl) (by kernel_rfl) ?_)
  refine (WB'.out _).mono ?_
  rintro e w2 ⟨rfl, hb⟩
  have hBw2 := bnext hB hb
  have k1 := k0.below hb
  clear hb hB k0 y0 y1 y2 y3 y4 y5
  have hB := hBw2
  have k0 := k1
  have hl0 := k0.lt
  clear hBw2 k1
  have y0 : w2.cell? ⟨g0, 0, none⟩ = some (.int .i64 kind) := k0.cell 0
  go_wp2_with fail
  refine (HI'.out _).mono ?_
  rintro e wi ⟨rfl, rfl⟩
  clear y0
  go_upto_region 12 with fail
  refine wp_region_held_drew (S := fun wx => Below w.heap.size w wx ∧ Blk wx g0 51 #[.int .i64 kind, .int .i64 frm, .int .i64 tto, .int .u64 mine, .int .u64 yours, .int .u64 fa, .int .u64 fb, .int .i64 inode, .int .u64 iseq, .int .i64 ioff, .int .i64 bnode, .int .u64 bseq, .int .i64 boff, .int .i64 dest, .int .i64 prio, .int .i64 born, .int .i64 life, .int .i64 total, .string data]) (by kernel_rfl) ⟨hB.drew, k0.drew⟩ (fun hH => ?_)
  refine wpAnyH_take (i := 0) rfl (by kernel_rfl) (by kernel_rfl) (by kernel_rfl) (fun _ _ _ h => h) (yieldsIf_pure _ (.int .i64 0) rfl (.inl rfl) rfl) hH ?_
  try simp only [List.getElem_toArray, List.getElem_cons_succ, List.getElem_cons_zero, Act.put, List.setIfInBounds_toArray, List.set_cons_zero, List.set_cons_succ]
  refine wpAnyH_take (i := 1) rfl (by kernel_rfl) (by kernel_rfl) (by kernel_rfl) (fun _ _ _ h => h) (yieldsIf_cell (.bool true) rfl (fun w h => by go_simp)) hH ?_
  try simp only [List.getElem_toArray, List.getElem_cons_succ, List.getElem_cons_zero, Act.put, List.setIfInBounds_toArray, List.set_cons_zero, List.set_cons_succ]
  refine wpAnyH_take (i := 2) rfl (by kernel_rfl) (by kernel_rfl) (by kernel_rfl) (fun _ _ _ h => h) (yieldsIf_pure _ (.bool true) rfl (.inl rfl) rfl) hH ?_
  try simp only [List.getElem_toArray, List.getElem_cons_succ, List.getElem_cons_zero, Act.put, List.setIfInBounds_toArray, List.set_cons_zero, List.set_cons_succ]
  refine wpAnyH_take (i := 3) rfl (by kernel_rfl) (by kernel_rfl) (by kernel_rfl) (fun _ _ _ h => h) (yieldsIf_row (g0) 51 #[.int .i64 kind, .int .i64 frm, .int .i64 tto, .int .u64 mine, .int .u64 yours, .int .u64 fa, .int .u64 fb, .int .i64 inode, .int .u64 iseq, .int .i64 ioff, .int .i64 bnode, .int .u64 bseq, .int .i64 boff, .int .i64 dest, .int .i64 prio, .int .i64 born, .int .i64 life, .int .i64 total, .string data] 51 _ _ rfl rfl rfl (fun w h => h.2) Try.underlying51 rfl (by kernel_rfl)) hH ?_
  try simp only [List.getElem_toArray, List.getElem_cons_succ, List.getElem_cons_zero, Act.put, List.setIfInBounds_toArray, List.set_cons_zero, List.set_cons_succ]
  refine wpAnyH_take (i := 5) rfl (by kernel_rfl) (by kernel_rfl) (by kernel_rfl) (fun _ _ _ h => h) (yieldsIf_row (g0) 51 #[.int .i64 kind, .int .i64 frm, .int .i64 tto, .int .u64 mine, .int .u64 yours, .int .u64 fa, .int .u64 fb, .int .i64 inode, .int .u64 iseq, .int .i64 ioff, .int .i64 bnode, .int .u64 bseq, .int .i64 boff, .int .i64 dest, .int .i64 prio, .int .i64 born, .int .i64 life, .int .i64 total, .string data] 51 _ _ rfl rfl rfl (fun w h => h.2) Try.underlying51 rfl (by kernel_rfl)) hH ?_
  try simp only [List.getElem_toArray, List.getElem_cons_succ, List.getElem_cons_zero, Act.put, List.setIfInBounds_toArray, List.set_cons_zero, List.set_cons_succ]
  refine wpAnyH_ready (rs := [4]) (by kernel_rfl) (by simp) ?_
  refine AllReadyH.cons rfl (fun KK hK => ?_) AllReadyH.nil
  go_simp
  refine (US'.out _).mono ?_
  rintro e wu ⟨rfl, hbu⟩
  have hBu : Below w.heap.size w wu ∧ Blk wu g0 51 #[.int .i64 kind, .int .i64 frm, .int .i64 tto, .int .u64 mine, .int .u64 yours, .int .u64 fa, .int .u64 fb, .int .i64 inode, .int .u64 iseq, .int .i64 ioff, .int .i64 bnode, .int .u64 bseq, .int .i64 boff, .int .i64 dest, .int .i64 prio, .int .i64 born, .int .i64 life, .int .i64 total, .string data] := ⟨bnext hH.1 hbu, hH.2.below hbu⟩
  refine hK.out _ _ hBu (fun hH2 => ?_)
  clear hK KK hH hbu
  try simp only [List.getElem_toArray, List.getElem_cons_succ, List.getElem_cons_zero, Act.put, List.setIfInBounds_toArray, List.set_cons_zero, List.set_cons_succ]
  refine wpAnyH_take (i := 6) rfl (by kernel_rfl) (by kernel_rfl) (by kernel_rfl) (fun _ _ _ h => h) (yieldsIf_bin _ _ _ _ _ (.agg #[u0, u1, u2, u3, u4, u5, u6, u7, u8, u9, u10, u11, u12, u13, u14, u15, u16, u17, u18]) (.agg #[.int .i64 kind, .int .i64 frm, .int .i64 tto, .int .u64 mine, .int .u64 yours, .int .u64 fa, .int .u64 fb, .int .i64 inode, .int .u64 iseq, .int .i64 ioff, .int .i64 bnode, .int .u64 bseq, .int .i64 boff, .int .i64 dest, .int .i64 prio, .int .i64 born, .int .i64 life, .int .i64 total, .string data]) (.bool false) rfl rfl rfl rfl (fun w => guardFr _ _ _ _ w) NE'.out) hH2 ?_
  try simp only [List.getElem_toArray, List.getElem_cons_succ, List.getElem_cons_zero, Act.put, List.setIfInBounds_toArray, List.set_cons_zero, List.set_cons_succ]
  refine wpAnyH_take (i := 7) rfl (by kernel_rfl) (by kernel_rfl) (by kernel_rfl) (fun _ _ _ h => h) (yieldsIf_cell (.bool false) rfl (fun w h => by go_simp)) hH2 ?_
  try simp only [List.getElem_toArray, List.getElem_cons_succ, List.getElem_cons_zero, Act.put, List.setIfInBounds_toArray, List.set_cons_zero, List.set_cons_succ]
  refine wpAnyH_done (by kernel_rfl) ?_ _
  have HB := Lib.hid hH2.1
  clear hH2 hBu hB k0 hl0
  go_wp2_with fail
  go_ret
  exact ⟨rfl, HB.out⟩

set_option maxRecDepth 100000 in
set_option maxHeartbeats 4000000 in
theorem rfc_N1t (kind frm tto mine yours fa fb inode iseq ioff bnode bseq boff dest prio born life total : Int) (data : ByteArray) (w : World) (k1 : ¬ kind < 1) (k2 : ¬ kind > 7) (o0 : ¬ frm < 1) (o1 : ¬ frm > 16) (o2 : ¬ tto < 1) (o3 : ¬ tto > 16) (o4 : (frm == tto) = false) (o5 : ¬ mine < 1) (o6 : ¬ mine > 1099511627776) (o7 : ¬ yours > 1099511627776) (n1 : (kind != 1) = false) (WB : ∀ w, Calls Try.prog 95 #[.agg #[.int .i64 kind, .int .i64 frm, .int .i64 tto, .int .u64 mine, .int .u64 yours, .int .u64 fa, .int .u64 fb, .int .i64 inode, .int .u64 iseq, .int .i64 ioff, .int .i64 bnode, .int .u64 bseq, .int .i64 boff, .int .i64 dest, .int .i64 prio, .int .i64 born, .int .i64 life, .int .i64 total, .string data]] w (RetB false w)) (q3 : (kind == 3) = false) (HI : ∀ w, Calls Try.prog 97 #[.int .i64 kind] w (fun e w' => e = .returned (.bool false) ∧ w = w')) (u0 u1 u2 u3 u4 u5 u6 u7 u8 u9 u10 u11 u12 u13 u14 u15 u16 u17 u18 : Value) (US : ∀ w, Calls Try.prog 98 #[.agg #[.int .i64 kind, .int .i64 frm, .int .i64 tto, .int .u64 mine, .int .u64 yours, .int .u64 fa, .int .u64 fb, .int .i64 inode, .int .u64 iseq, .int .i64 ioff, .int .i64 bnode, .int .u64 bseq, .int .i64 boff, .int .i64 dest, .int .i64 prio, .int .i64 born, .int .i64 life, .int .i64 total, .string data]] w (fun e w' => e = .returned (.agg #[u0, u1, u2, u3, u4, u5, u6, u7, u8, u9, u10, u11, u12, u13, u14, u15, u16, u17, u18]) ∧ Below w.heap.size w w')) (NE : ∀ w, (binOp .neq 51 (.agg #[u0, u1, u2, u3, u4, u5, u6, u7, u8, u9, u10, u11, u12, u13, u14, u15, u16, u17, u18]) (.agg #[.int .i64 kind, .int .i64 frm, .int .i64 tto, .int .u64 mine, .int .u64 yours, .int .u64 fa, .int .u64 fb, .int .i64 inode, .int .u64 iseq, .int .i64 ioff, .int .i64 bnode, .int .u64 bseq, .int .i64 boff, .int .i64 dest, .int .i64 prio, .int .i64 born, .int .i64 life, .int .i64 total, .string data])).run Try.prog w = .ok (.bool true) w) : Calls Try.prog 58 #[.agg #[.int .i64 kind, .int .i64 frm, .int .i64 tto, .int .u64 mine, .int .u64 yours, .int .u64 fa, .int .u64 fb, .int .i64 inode, .int .u64 iseq, .int .i64 ioff, .int .i64 bnode, .int .u64 bseq, .int .i64 boff, .int .i64 dest, .int .i64 prio, .int .i64 born, .int .i64 life, .int .i64 total, .string data]] w (RetI .i64 3 w) := by
  have US' := Lib.hid US
  clear US
  have NE' := Lib.hid NE
  clear NE
  have WB' := Lib.hid WB
  clear WB
  have HI' := Lib.hid HI
  clear HI
  go_enter Try.func58, Try.ntmps58
  go_upto_region 1 with fail
  have k0 : Blk (w.alloc (.cells #[.int .i64 kind, .int .i64 frm, .int .i64 tto, .int .u64 mine, .int .u64 yours, .int .u64 fa, .int .u64 fb, .int .i64 inode, .int .u64 iseq, .int .i64 ioff, .int .i64 bnode, .int .u64 bseq, .int .i64 boff, .int .i64 dest, .int .i64 prio, .int .i64 born, .int .i64 life, .int .i64 total, .string data] 51)) w.heap.size 51 #[.int .i64 kind, .int .i64 frm, .int .i64 tto, .int .u64 mine, .int .u64 yours, .int .u64 fa, .int .u64 fb, .int .i64 inode, .int .u64 iseq, .int .i64 ioff, .int .i64 bnode, .int .u64 bseq, .int .i64 boff, .int .i64 dest, .int .i64 prio, .int .i64 born, .int .i64 life, .int .i64 total, .string data] := Blk.new w 51 #[.int .i64 kind, .int .i64 frm, .int .i64 tto, .int .u64 mine, .int .u64 yours, .int .u64 fa, .int .u64 fb, .int .i64 inode, .int .u64 iseq, .int .i64 ioff, .int .i64 bnode, .int .u64 bseq, .int .i64 boff, .int .i64 dest, .int .i64 prio, .int .i64 born, .int .i64 life, .int .i64 total, .string data]
  have hB := bal (Below.refl w.heap.size w) (.cells #[.int .i64 kind, .int .i64 frm, .int .i64 tto, .int .u64 mine, .int .u64 yours, .int .u64 fa, .int .u64 fb, .int .i64 inode, .int .u64 iseq, .int .i64 ioff, .int .i64 bnode, .int .u64 bseq, .int .i64 boff, .int .i64 dest, .int .i64 prio, .int .i64 born, .int .i64 life, .int .i64 total, .string data] 51)
  obtain ⟨g0, hg0⟩ : ∃ g0, w.heap.size = g0 := ⟨_, rfl⟩
  rw [hg0] at k0 ⊢
  have HG := Lib.hid hg0
  clear hg0
  generalize w.alloc (.cells #[.int .i64 kind, .int .i64 frm, .int .i64 tto, .int .u64 mine, .int .u64 yours, .int .u64 fa, .int .u64 fb, .int .i64 inode, .int .u64 iseq, .int .i64 ioff, .int .i64 bnode, .int .u64 bseq, .int .i64 boff, .int .i64 dest, .int .i64 prio, .int .i64 born, .int .i64 life, .int .i64 total, .string data] 51) = w1 at k0 hB ⊢
  have y0 : w1.cell? ⟨g0, 0, none⟩ = some (.int .i64 kind) := k0.cell 0
  have y1 : w1.cell? ⟨g0, 1, none⟩ = some (.int .i64 frm) := k0.cell 1
  have y2 : w1.cell? ⟨g0, 2, none⟩ = some (.int .i64 tto) := k0.cell 2
  have y3 : w1.cell? ⟨g0, 3, none⟩ = some (.int .u64 mine) := k0.cell 3
  have y4 : w1.cell? ⟨g0, 4, none⟩ = some (.int .u64 yours) := k0.cell 4
  have y5 : w1.cell? ⟨g0, 5, none⟩ = some (.int .u64 fa) := k0.cell 5
  go_wp2_with (refine wpList_load_row_g (by rfl) 51 _ (by rfl) g0 (by rfl) 51 #[.int .i64 kind, .int .i64 frm, .int .i64 tto, .int .u64 mine, .int .u64 yours, .int .u64 fa, .int .u64 fb, .int .i64 inode, .int .u64 iseq, .int .i64 ioff, .int .i64 bnode, .int .u64 bseq, .int .i64 boff, .int .i64 dest, .int .i64 prio, .int .i64 born, .int .i64 life, .int .i64 total, .string data] (0, 0) _ k0 Try.underlying51 (by rfl) (by kernel_rfl) ?_)
  refine (WB'.out _).mono ?_
  rintro e w2 ⟨rfl, hb⟩
  have hBw2 := bnext hB hb
  have k1 := k0.below hb
  clear hb hB k0 y0 y1 y2 y3 y4 y5
  have hB := hBw2
  have k0 := k1
  have hl0 := k0.lt
  clear hBw2 k1
  have y0 : w2.cell? ⟨g0, 0, none⟩ = some (.int .i64 kind) := k0.cell 0
  go_wp2_with fail
  refine (HI'.out _).mono ?_
  rintro e wi ⟨rfl, rfl⟩
  clear y0
  go_upto_region 12 with fail
  refine wp_region_held_drew (S := fun wx => Below w.heap.size w wx ∧ Blk wx g0 51 #[.int .i64 kind, .int .i64 frm, .int .i64 tto, .int .u64 mine, .int .u64 yours, .int .u64 fa, .int .u64 fb, .int .i64 inode, .int .u64 iseq, .int .i64 ioff, .int .i64 bnode, .int .u64 bseq, .int .i64 boff, .int .i64 dest, .int .i64 prio, .int .i64 born, .int .i64 life, .int .i64 total, .string data]) (by kernel_rfl) ⟨hB.drew, k0.drew⟩ (fun hH => ?_)
  refine wpAnyH_take (i := 0) rfl (by kernel_rfl) (by kernel_rfl) (by kernel_rfl) (fun _ _ _ h => h) (yieldsIf_pure _ (.int .i64 0) rfl (.inl rfl) rfl) hH ?_
  try simp only [List.getElem_toArray, List.getElem_cons_succ, List.getElem_cons_zero, Act.put, List.setIfInBounds_toArray, List.set_cons_zero, List.set_cons_succ]
  refine wpAnyH_take (i := 1) rfl (by kernel_rfl) (by kernel_rfl) (by kernel_rfl) (fun _ _ _ h => h) (yieldsIf_cell (.bool true) rfl (fun w h => by go_simp)) hH ?_
  try simp only [List.getElem_toArray, List.getElem_cons_succ, List.getElem_cons_zero, Act.put, List.setIfInBounds_toArray, List.set_cons_zero, List.set_cons_succ]
  refine wpAnyH_take (i := 2) rfl (by kernel_rfl) (by kernel_rfl) (by kernel_rfl) (fun _ _ _ h => h) (yieldsIf_pure _ (.bool true) rfl (.inl rfl) rfl) hH ?_
  try simp only [List.getElem_toArray, List.getElem_cons_succ, List.getElem_cons_zero, Act.put, List.setIfInBounds_toArray, List.set_cons_zero, List.set_cons_succ]
  refine wpAnyH_take (i := 3) rfl (by kernel_rfl) (by kernel_rfl) (by kernel_rfl) (fun _ _ _ h => h) (yieldsIf_row (g0) 51 #[.int .i64 kind, .int .i64 frm, .int .i64 tto, .int .u64 mine, .int .u64 yours, .int .u64 fa, .int .u64 fb, .int .i64 inode, .int .u64 iseq, .int .i64 ioff, .int .i64 bnode, .int .u64 bseq, .int .i64 boff, .int .i64 dest, .int .i64 prio, .int .i64 born, .int .i64 life, .int .i64 total, .string data] 51 _ _ rfl rfl rfl (fun w h => h.2) Try.underlying51 rfl (by kernel_rfl)) hH ?_
  try simp only [List.getElem_toArray, List.getElem_cons_succ, List.getElem_cons_zero, Act.put, List.setIfInBounds_toArray, List.set_cons_zero, List.set_cons_succ]
  refine wpAnyH_take (i := 5) rfl (by kernel_rfl) (by kernel_rfl) (by kernel_rfl) (fun _ _ _ h => h) (yieldsIf_row (g0) 51 #[.int .i64 kind, .int .i64 frm, .int .i64 tto, .int .u64 mine, .int .u64 yours, .int .u64 fa, .int .u64 fb, .int .i64 inode, .int .u64 iseq, .int .i64 ioff, .int .i64 bnode, .int .u64 bseq, .int .i64 boff, .int .i64 dest, .int .i64 prio, .int .i64 born, .int .i64 life, .int .i64 total, .string data] 51 _ _ rfl rfl rfl (fun w h => h.2) Try.underlying51 rfl (by kernel_rfl)) hH ?_
  try simp only [List.getElem_toArray, List.getElem_cons_succ, List.getElem_cons_zero, Act.put, List.setIfInBounds_toArray, List.set_cons_zero, List.set_cons_succ]
  refine wpAnyH_ready (rs := [4]) (by kernel_rfl) (by simp) ?_
  refine AllReadyH.cons rfl (fun KK hK => ?_) AllReadyH.nil
  go_simp
  refine (US'.out _).mono ?_
  rintro e wu ⟨rfl, hbu⟩
  have hBu : Below w.heap.size w wu ∧ Blk wu g0 51 #[.int .i64 kind, .int .i64 frm, .int .i64 tto, .int .u64 mine, .int .u64 yours, .int .u64 fa, .int .u64 fb, .int .i64 inode, .int .u64 iseq, .int .i64 ioff, .int .i64 bnode, .int .u64 bseq, .int .i64 boff, .int .i64 dest, .int .i64 prio, .int .i64 born, .int .i64 life, .int .i64 total, .string data] := ⟨bnext hH.1 hbu, hH.2.below hbu⟩
  refine hK.out _ _ hBu (fun hH2 => ?_)
  clear hK KK hH hbu
  try simp only [List.getElem_toArray, List.getElem_cons_succ, List.getElem_cons_zero, Act.put, List.setIfInBounds_toArray, List.set_cons_zero, List.set_cons_succ]
  refine wpAnyH_take (i := 6) rfl (by kernel_rfl) (by kernel_rfl) (by kernel_rfl) (fun _ _ _ h => h) (yieldsIf_bin _ _ _ _ _ (.agg #[u0, u1, u2, u3, u4, u5, u6, u7, u8, u9, u10, u11, u12, u13, u14, u15, u16, u17, u18]) (.agg #[.int .i64 kind, .int .i64 frm, .int .i64 tto, .int .u64 mine, .int .u64 yours, .int .u64 fa, .int .u64 fb, .int .i64 inode, .int .u64 iseq, .int .i64 ioff, .int .i64 bnode, .int .u64 bseq, .int .i64 boff, .int .i64 dest, .int .i64 prio, .int .i64 born, .int .i64 life, .int .i64 total, .string data]) (.bool true) rfl rfl rfl rfl (fun w => guardFr _ _ _ _ w) NE'.out) hH2 ?_
  try simp only [List.getElem_toArray, List.getElem_cons_succ, List.getElem_cons_zero, Act.put, List.setIfInBounds_toArray, List.set_cons_zero, List.set_cons_succ]
  refine wpAnyH_take (i := 7) rfl (by kernel_rfl) (by kernel_rfl) (by kernel_rfl) (fun _ _ _ h => h) (yieldsIf_cell (.bool true) rfl (fun w h => by go_simp)) hH2 ?_
  try simp only [List.getElem_toArray, List.getElem_cons_succ, List.getElem_cons_zero, Act.put, List.setIfInBounds_toArray, List.set_cons_zero, List.set_cons_succ]
  refine wpAnyH_done (by kernel_rfl) ?_ _
  have HB := Lib.hid hH2.1
  clear hH2 hBu hB k0 hl0
  go_wp2_with fail
  go_ret
  exact ⟨rfl, HB.out⟩

set_option maxRecDepth 100000 in
set_option maxHeartbeats 4000000 in
theorem rfc_N1f (kind frm tto mine yours fa fb inode iseq ioff bnode bseq boff dest prio born life total : Int) (data : ByteArray) (w : World) (k1 : ¬ kind < 1) (k2 : ¬ kind > 7) (o0 : ¬ frm < 1) (o1 : ¬ frm > 16) (o2 : ¬ tto < 1) (o3 : ¬ tto > 16) (o4 : (frm == tto) = false) (o5 : ¬ mine < 1) (o6 : ¬ mine > 1099511627776) (o7 : ¬ yours > 1099511627776) (n1 : (kind != 1) = false) (WB : ∀ w, Calls Try.prog 95 #[.agg #[.int .i64 kind, .int .i64 frm, .int .i64 tto, .int .u64 mine, .int .u64 yours, .int .u64 fa, .int .u64 fb, .int .i64 inode, .int .u64 iseq, .int .i64 ioff, .int .i64 bnode, .int .u64 bseq, .int .i64 boff, .int .i64 dest, .int .i64 prio, .int .i64 born, .int .i64 life, .int .i64 total, .string data]] w (RetB false w)) (q3 : (kind == 3) = false) (HI : ∀ w, Calls Try.prog 97 #[.int .i64 kind] w (fun e w' => e = .returned (.bool false) ∧ w = w')) (u0 u1 u2 u3 u4 u5 u6 u7 u8 u9 u10 u11 u12 u13 u14 u15 u16 u17 u18 : Value) (US : ∀ w, Calls Try.prog 98 #[.agg #[.int .i64 kind, .int .i64 frm, .int .i64 tto, .int .u64 mine, .int .u64 yours, .int .u64 fa, .int .u64 fb, .int .i64 inode, .int .u64 iseq, .int .i64 ioff, .int .i64 bnode, .int .u64 bseq, .int .i64 boff, .int .i64 dest, .int .i64 prio, .int .i64 born, .int .i64 life, .int .i64 total, .string data]] w (fun e w' => e = .returned (.agg #[u0, u1, u2, u3, u4, u5, u6, u7, u8, u9, u10, u11, u12, u13, u14, u15, u16, u17, u18]) ∧ Below w.heap.size w w')) (NE : ∀ w, (binOp .neq 51 (.agg #[u0, u1, u2, u3, u4, u5, u6, u7, u8, u9, u10, u11, u12, u13, u14, u15, u16, u17, u18]) (.agg #[.int .i64 kind, .int .i64 frm, .int .i64 tto, .int .u64 mine, .int .u64 yours, .int .u64 fa, .int .u64 fb, .int .i64 inode, .int .u64 iseq, .int .i64 ioff, .int .i64 bnode, .int .u64 bseq, .int .i64 boff, .int .i64 dest, .int .i64 prio, .int .i64 born, .int .i64 life, .int .i64 total, .string data])).run Try.prog w = .ok (.bool false) w) : Calls Try.prog 58 #[.agg #[.int .i64 kind, .int .i64 frm, .int .i64 tto, .int .u64 mine, .int .u64 yours, .int .u64 fa, .int .u64 fb, .int .i64 inode, .int .u64 iseq, .int .i64 ioff, .int .i64 bnode, .int .u64 bseq, .int .i64 boff, .int .i64 dest, .int .i64 prio, .int .i64 born, .int .i64 life, .int .i64 total, .string data]] w (RetI .i64 0 w) := by
  have US' := Lib.hid US
  clear US
  have NE' := Lib.hid NE
  clear NE
  have WB' := Lib.hid WB
  clear WB
  have HI' := Lib.hid HI
  clear HI
  go_enter Try.func58, Try.ntmps58
  go_upto_region 1 with fail
  have k0 : Blk (w.alloc (.cells #[.int .i64 kind, .int .i64 frm, .int .i64 tto, .int .u64 mine, .int .u64 yours, .int .u64 fa, .int .u64 fb, .int .i64 inode, .int .u64 iseq, .int .i64 ioff, .int .i64 bnode, .int .u64 bseq, .int .i64 boff, .int .i64 dest, .int .i64 prio, .int .i64 born, .int .i64 life, .int .i64 total, .string data] 51)) w.heap.size 51 #[.int .i64 kind, .int .i64 frm, .int .i64 tto, .int .u64 mine, .int .u64 yours, .int .u64 fa, .int .u64 fb, .int .i64 inode, .int .u64 iseq, .int .i64 ioff, .int .i64 bnode, .int .u64 bseq, .int .i64 boff, .int .i64 dest, .int .i64 prio, .int .i64 born, .int .i64 life, .int .i64 total, .string data] := Blk.new w 51 #[.int .i64 kind, .int .i64 frm, .int .i64 tto, .int .u64 mine, .int .u64 yours, .int .u64 fa, .int .u64 fb, .int .i64 inode, .int .u64 iseq, .int .i64 ioff, .int .i64 bnode, .int .u64 bseq, .int .i64 boff, .int .i64 dest, .int .i64 prio, .int .i64 born, .int .i64 life, .int .i64 total, .string data]
  have hB := bal (Below.refl w.heap.size w) (.cells #[.int .i64 kind, .int .i64 frm, .int .i64 tto, .int .u64 mine, .int .u64 yours, .int .u64 fa, .int .u64 fb, .int .i64 inode, .int .u64 iseq, .int .i64 ioff, .int .i64 bnode, .int .u64 bseq, .int .i64 boff, .int .i64 dest, .int .i64 prio, .int .i64 born, .int .i64 life, .int .i64 total, .string data] 51)
  obtain ⟨g0, hg0⟩ : ∃ g0, w.heap.size = g0 := ⟨_, rfl⟩
  rw [hg0] at k0 ⊢
  have HG := Lib.hid hg0
  clear hg0
  generalize w.alloc (.cells #[.int .i64 kind, .int .i64 frm, .int .i64 tto, .int .u64 mine, .int .u64 yours, .int .u64 fa, .int .u64 fb, .int .i64 inode, .int .u64 iseq, .int .i64 ioff, .int .i64 bnode, .int .u64 bseq, .int .i64 boff, .int .i64 dest, .int .i64 prio, .int .i64 born, .int .i64 life, .int .i64 total, .string data] 51) = w1 at k0 hB ⊢
  have y0 : w1.cell? ⟨g0, 0, none⟩ = some (.int .i64 kind) := k0.cell 0
  have y1 : w1.cell? ⟨g0, 1, none⟩ = some (.int .i64 frm) := k0.cell 1
  have y2 : w1.cell? ⟨g0, 2, none⟩ = some (.int .i64 tto) := k0.cell 2
  have y3 : w1.cell? ⟨g0, 3, none⟩ = some (.int .u64 mine) := k0.cell 3
  have y4 : w1.cell? ⟨g0, 4, none⟩ = some (.int .u64 yours) := k0.cell 4
  have y5 : w1.cell? ⟨g0, 5, none⟩ = some (.int .u64 fa) := k0.cell 5
  go_wp2_with (refine wpList_load_row_g (by rfl) 51 _ (by rfl) g0 (by rfl) 51 #[.int .i64 kind, .int .i64 frm, .int .i64 tto, .int .u64 mine, .int .u64 yours, .int .u64 fa, .int .u64 fb, .int .i64 inode, .int .u64 iseq, .int .i64 ioff, .int .i64 bnode, .int .u64 bseq, .int .i64 boff, .int .i64 dest, .int .i64 prio, .int .i64 born, .int .i64 life, .int .i64 total, .string data] (0, 0) _ k0 Try.underlying51 (by rfl) (by kernel_rfl) ?_)
  refine (WB'.out _).mono ?_
  rintro e w2 ⟨rfl, hb⟩
  have hBw2 := bnext hB hb
  have k1 := k0.below hb
  clear hb hB k0 y0 y1 y2 y3 y4 y5
  have hB := hBw2
  have k0 := k1
  have hl0 := k0.lt
  clear hBw2 k1
  have y0 : w2.cell? ⟨g0, 0, none⟩ = some (.int .i64 kind) := k0.cell 0
  go_wp2_with fail
  refine (HI'.out _).mono ?_
  rintro e wi ⟨rfl, rfl⟩
  clear y0
  go_upto_region 12 with fail
  refine wp_region_held_drew (S := fun wx => Below w.heap.size w wx ∧ Blk wx g0 51 #[.int .i64 kind, .int .i64 frm, .int .i64 tto, .int .u64 mine, .int .u64 yours, .int .u64 fa, .int .u64 fb, .int .i64 inode, .int .u64 iseq, .int .i64 ioff, .int .i64 bnode, .int .u64 bseq, .int .i64 boff, .int .i64 dest, .int .i64 prio, .int .i64 born, .int .i64 life, .int .i64 total, .string data]) (by kernel_rfl) ⟨hB.drew, k0.drew⟩ (fun hH => ?_)
  refine wpAnyH_take (i := 0) rfl (by kernel_rfl) (by kernel_rfl) (by kernel_rfl) (fun _ _ _ h => h) (yieldsIf_pure _ (.int .i64 0) rfl (.inl rfl) rfl) hH ?_
  try simp only [List.getElem_toArray, List.getElem_cons_succ, List.getElem_cons_zero, Act.put, List.setIfInBounds_toArray, List.set_cons_zero, List.set_cons_succ]
  refine wpAnyH_take (i := 1) rfl (by kernel_rfl) (by kernel_rfl) (by kernel_rfl) (fun _ _ _ h => h) (yieldsIf_cell (.bool true) rfl (fun w h => by go_simp)) hH ?_
  try simp only [List.getElem_toArray, List.getElem_cons_succ, List.getElem_cons_zero, Act.put, List.setIfInBounds_toArray, List.set_cons_zero, List.set_cons_succ]
  refine wpAnyH_take (i := 2) rfl (by kernel_rfl) (by kernel_rfl) (by kernel_rfl) (fun _ _ _ h => h) (yieldsIf_pure _ (.bool true) rfl (.inl rfl) rfl) hH ?_
  try simp only [List.getElem_toArray, List.getElem_cons_succ, List.getElem_cons_zero, Act.put, List.setIfInBounds_toArray, List.set_cons_zero, List.set_cons_succ]
  refine wpAnyH_take (i := 3) rfl (by kernel_rfl) (by kernel_rfl) (by kernel_rfl) (fun _ _ _ h => h) (yieldsIf_row (g0) 51 #[.int .i64 kind, .int .i64 frm, .int .i64 tto, .int .u64 mine, .int .u64 yours, .int .u64 fa, .int .u64 fb, .int .i64 inode, .int .u64 iseq, .int .i64 ioff, .int .i64 bnode, .int .u64 bseq, .int .i64 boff, .int .i64 dest, .int .i64 prio, .int .i64 born, .int .i64 life, .int .i64 total, .string data] 51 _ _ rfl rfl rfl (fun w h => h.2) Try.underlying51 rfl (by kernel_rfl)) hH ?_
  try simp only [List.getElem_toArray, List.getElem_cons_succ, List.getElem_cons_zero, Act.put, List.setIfInBounds_toArray, List.set_cons_zero, List.set_cons_succ]
  refine wpAnyH_take (i := 5) rfl (by kernel_rfl) (by kernel_rfl) (by kernel_rfl) (fun _ _ _ h => h) (yieldsIf_row (g0) 51 #[.int .i64 kind, .int .i64 frm, .int .i64 tto, .int .u64 mine, .int .u64 yours, .int .u64 fa, .int .u64 fb, .int .i64 inode, .int .u64 iseq, .int .i64 ioff, .int .i64 bnode, .int .u64 bseq, .int .i64 boff, .int .i64 dest, .int .i64 prio, .int .i64 born, .int .i64 life, .int .i64 total, .string data] 51 _ _ rfl rfl rfl (fun w h => h.2) Try.underlying51 rfl (by kernel_rfl)) hH ?_
  try simp only [List.getElem_toArray, List.getElem_cons_succ, List.getElem_cons_zero, Act.put, List.setIfInBounds_toArray, List.set_cons_zero, List.set_cons_succ]
  refine wpAnyH_ready (rs := [4]) (by kernel_rfl) (by simp) ?_
  refine AllReadyH.cons rfl (fun KK hK => ?_) AllReadyH.nil
  go_simp
  refine (US'.out _).mono ?_
  rintro e wu ⟨rfl, hbu⟩
  have hBu : Below w.heap.size w wu ∧ Blk wu g0 51 #[.int .i64 kind, .int .i64 frm, .int .i64 tto, .int .u64 mine, .int .u64 yours, .int .u64 fa, .int .u64 fb, .int .i64 inode, .int .u64 iseq, .int .i64 ioff, .int .i64 bnode, .int .u64 bseq, .int .i64 boff, .int .i64 dest, .int .i64 prio, .int .i64 born, .int .i64 life, .int .i64 total, .string data] := ⟨bnext hH.1 hbu, hH.2.below hbu⟩
  refine hK.out _ _ hBu (fun hH2 => ?_)
  clear hK KK hH hbu
  try simp only [List.getElem_toArray, List.getElem_cons_succ, List.getElem_cons_zero, Act.put, List.setIfInBounds_toArray, List.set_cons_zero, List.set_cons_succ]
  refine wpAnyH_take (i := 6) rfl (by kernel_rfl) (by kernel_rfl) (by kernel_rfl) (fun _ _ _ h => h) (yieldsIf_bin _ _ _ _ _ (.agg #[u0, u1, u2, u3, u4, u5, u6, u7, u8, u9, u10, u11, u12, u13, u14, u15, u16, u17, u18]) (.agg #[.int .i64 kind, .int .i64 frm, .int .i64 tto, .int .u64 mine, .int .u64 yours, .int .u64 fa, .int .u64 fb, .int .i64 inode, .int .u64 iseq, .int .i64 ioff, .int .i64 bnode, .int .u64 bseq, .int .i64 boff, .int .i64 dest, .int .i64 prio, .int .i64 born, .int .i64 life, .int .i64 total, .string data]) (.bool false) rfl rfl rfl rfl (fun w => guardFr _ _ _ _ w) NE'.out) hH2 ?_
  try simp only [List.getElem_toArray, List.getElem_cons_succ, List.getElem_cons_zero, Act.put, List.setIfInBounds_toArray, List.set_cons_zero, List.set_cons_succ]
  refine wpAnyH_take (i := 7) rfl (by kernel_rfl) (by kernel_rfl) (by kernel_rfl) (fun _ _ _ h => h) (yieldsIf_cell (.bool false) rfl (fun w h => by go_simp)) hH2 ?_
  try simp only [List.getElem_toArray, List.getElem_cons_succ, List.getElem_cons_zero, Act.put, List.setIfInBounds_toArray, List.set_cons_zero, List.set_cons_succ]
  refine wpAnyH_done (by kernel_rfl) ?_ _
  have HB := Lib.hid hH2.1
  clear hH2 hBu hB k0 hl0
  go_wp2_with fail
  go_ret
  exact ⟨rfl, HB.out⟩

end Go.Proofs.Ytfgkkflbpfocjaa

