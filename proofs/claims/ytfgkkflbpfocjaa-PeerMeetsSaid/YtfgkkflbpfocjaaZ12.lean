/- The frames' reference: which fields a kind uses. -/
import Derived.Test.YtfgkkflbpfocjaaZ7
import Derived.BigFrame
namespace Go.Proofs.Ytfgkkflbpfocjaa
open Go.RowKit
set_option linter.unusedVariables false
set_option linter.unusedSimpArgs false

theorem wpList_load_row_g {P : Program} {ops : Array Oper} {rest : List Oper} {o : Oper} {a : Act} {w : World} {Q : Exit → Act → World → Prop} (hw : Region.wanted o (yielded ops a.tmps) = true) (ty : TypeId) (x : Operand) (ho : o.op = .load ty x)
    (g : Nat) (hx : a.eval x = .pointer (some ⟨g, 0, none⟩)) (t : TypeId) (cs : Array Value) (fr : Nat × Nat) (d : TypeDesc) (hg : w.heap[g]? = some (.cells cs t fr))
    (hu : P.underlying ty = some d) (hd : (match d with | .struct _ | .array _ _ => true | _ => false) = true) (hi : (P.info? ty).map (·.size) = some cs.size)
    (h : wpList P ops Q rest (a.put o.dst (.agg cs)) w) : wpList P ops Q (o :: rest) a w :=
  BigFrame.wpList_want hw fun _ hK => wp_load_row ty x ho g hx t cs fr d hg hu hd hi (hK _ _ h)

theorem hasID_any (k : Int) (w : World) : Calls Try.prog 97 #[.int .i64 k] w (fun e w' => e = .returned (.bool (decide (k = 5 ∨ k = 6))) ∧ w = w') := by
  by_cases h1 : k = 5
  · subst h1
    go_enter Try.func97, Try.ntmps97
    go_wp2_with fail
    go_ret
    exact ⟨rfl, rfl⟩
  · have e1 : (k == 5) = false := by simpa using h1
    by_cases h2 : k = 6
    · subst h2
      go_enter Try.func97, Try.ntmps97
      go_wp2_with fail
      go_ret
      exact ⟨rfl, rfl⟩
    · have e2 : (k == 6) = false := by simpa using h2
      have E := Lib.hid (show decide (k = 5 ∨ k = 6) = false by simp [h1, h2])
      clear h1 h2
      go_enter Try.func97, Try.ntmps97
      go_wp2_with fail
      go_ret
      exact ⟨by rw [E.out]; rfl, rfl⟩
theorem hasB_any (k : Int) (w : World) : Calls Try.prog 115 #[.int .i64 k] w (fun e w' => e = .returned (.bool (decide (k = 3 ∨ k = 4 ∨ k = 6))) ∧ w = w') := by
  by_cases h1 : k = 3
  · subst h1
    go_enter Try.func115, Try.ntmps115
    go_wp2_with fail
    go_ret
    exact ⟨rfl, rfl⟩
  · have e1 : (k == 3) = false := by simpa using h1
    by_cases h2 : k = 4
    · subst h2
      go_enter Try.func115, Try.ntmps115
      go_wp2_with fail
      go_ret
      exact ⟨rfl, rfl⟩
    · have e2 : (k == 4) = false := by simpa using h2
      by_cases h3 : k = 6
      · subst h3
        go_enter Try.func115, Try.ntmps115
        go_wp2_with fail
        go_ret
        exact ⟨rfl, rfl⟩
      · have e3 : (k == 6) = false := by simpa using h3
        have E := Lib.hid (show decide (k = 3 ∨ k = 4 ∨ k = 6) = false by simp [h1, h2, h3])
        clear h1 h2 h3
        go_enter Try.func115, Try.ntmps115
        go_wp2_with fail
        go_ret
        exact ⟨by rw [E.out]; rfl, rfl⟩

set_option maxRecDepth 100000 in
theorem wb3 (kind frm tto mine yours fa fb inode iseq ioff bnode bseq boff dest prio born life total : Int) (data : ByteArray) (w : World) (q3 : (kind == 3) = true) : Calls Try.prog 95 #[.agg #[.int .i64 kind, .int .i64 frm, .int .i64 tto, .int .u64 mine, .int .u64 yours, .int .u64 fa, .int .u64 fb, .int .i64 inode, .int .u64 iseq, .int .i64 ioff, .int .i64 bnode, .int .u64 bseq, .int .i64 boff, .int .i64 dest, .int .i64 prio, .int .i64 born, .int .i64 life, .int .i64 total, .string data]] w (RetB (decide (fa < fb)) w) := by
  go_enter Try.func95, Try.ntmps95
  go_upto_region 1 with fail
  have k0 : Blk (w.alloc (.cells #[.int .i64 kind, .int .i64 frm, .int .i64 tto, .int .u64 mine, .int .u64 yours, .int .u64 fa, .int .u64 fb, .int .i64 inode, .int .u64 iseq, .int .i64 ioff, .int .i64 bnode, .int .u64 bseq, .int .i64 boff, .int .i64 dest, .int .i64 prio, .int .i64 born, .int .i64 life, .int .i64 total, .string data] 51)) w.heap.size 51 #[.int .i64 kind, .int .i64 frm, .int .i64 tto, .int .u64 mine, .int .u64 yours, .int .u64 fa, .int .u64 fb, .int .i64 inode, .int .u64 iseq, .int .i64 ioff, .int .i64 bnode, .int .u64 bseq, .int .i64 boff, .int .i64 dest, .int .i64 prio, .int .i64 born, .int .i64 life, .int .i64 total, .string data] := Blk.new w 51 #[.int .i64 kind, .int .i64 frm, .int .i64 tto, .int .u64 mine, .int .u64 yours, .int .u64 fa, .int .u64 fb, .int .i64 inode, .int .u64 iseq, .int .i64 ioff, .int .i64 bnode, .int .u64 bseq, .int .i64 boff, .int .i64 dest, .int .i64 prio, .int .i64 born, .int .i64 life, .int .i64 total, .string data]
  have hB := bal (Below.refl w.heap.size w) (.cells #[.int .i64 kind, .int .i64 frm, .int .i64 tto, .int .u64 mine, .int .u64 yours, .int .u64 fa, .int .u64 fb, .int .i64 inode, .int .u64 iseq, .int .i64 ioff, .int .i64 bnode, .int .u64 bseq, .int .i64 boff, .int .i64 dest, .int .i64 prio, .int .i64 born, .int .i64 life, .int .i64 total, .string data] 51)
  obtain ⟨g0, hg0⟩ : ∃ g0, w.heap.size = g0 := ⟨_, rfl⟩
  rw [hg0] at k0 ⊢
  have HG := Lib.hid hg0
  clear hg0
  generalize w.alloc (.cells #[.int .i64 kind, .int .i64 frm, .int .i64 tto, .int .u64 mine, .int .u64 yours, .int .u64 fa, .int .u64 fb, .int .i64 inode, .int .u64 iseq, .int .i64 ioff, .int .i64 bnode, .int .u64 bseq, .int .i64 boff, .int .i64 dest, .int .i64 prio, .int .i64 born, .int .i64 life, .int .i64 total, .string data] 51) = w1 at k0 hB ⊢
  have y0 : w1.cell? ⟨g0, 0, none⟩ = some (.int .i64 kind) := k0.cell 0
  have y5 : w1.cell? ⟨g0, 5, none⟩ = some (.int .u64 fa) := k0.cell 5
  have y6 : w1.cell? ⟨g0, 6, none⟩ = some (.int .u64 fb) := k0.cell 6
  have HB := Lib.hid hB
  clear hB k0
  go_wp2_with fail
  go_ret
  exact ⟨rfl, HB.out⟩

set_option maxRecDepth 100000 in
theorem wb4 (kind frm tto mine yours fa fb inode iseq ioff bnode bseq boff dest prio born life total : Int) (data : ByteArray) (w : World) (q3 : (kind == 3) = false) (q4 : (kind == 4) = true) : Calls Try.prog 95 #[.agg #[.int .i64 kind, .int .i64 frm, .int .i64 tto, .int .u64 mine, .int .u64 yours, .int .u64 fa, .int .u64 fb, .int .i64 inode, .int .u64 iseq, .int .i64 ioff, .int .i64 bnode, .int .u64 bseq, .int .i64 boff, .int .i64 dest, .int .i64 prio, .int .i64 born, .int .i64 life, .int .i64 total, .string data]] w (RetB (decide (1125899906842624 < fb)) w) := by
  go_enter Try.func95, Try.ntmps95
  go_upto_region 1 with fail
  have k0 : Blk (w.alloc (.cells #[.int .i64 kind, .int .i64 frm, .int .i64 tto, .int .u64 mine, .int .u64 yours, .int .u64 fa, .int .u64 fb, .int .i64 inode, .int .u64 iseq, .int .i64 ioff, .int .i64 bnode, .int .u64 bseq, .int .i64 boff, .int .i64 dest, .int .i64 prio, .int .i64 born, .int .i64 life, .int .i64 total, .string data] 51)) w.heap.size 51 #[.int .i64 kind, .int .i64 frm, .int .i64 tto, .int .u64 mine, .int .u64 yours, .int .u64 fa, .int .u64 fb, .int .i64 inode, .int .u64 iseq, .int .i64 ioff, .int .i64 bnode, .int .u64 bseq, .int .i64 boff, .int .i64 dest, .int .i64 prio, .int .i64 born, .int .i64 life, .int .i64 total, .string data] := Blk.new w 51 #[.int .i64 kind, .int .i64 frm, .int .i64 tto, .int .u64 mine, .int .u64 yours, .int .u64 fa, .int .u64 fb, .int .i64 inode, .int .u64 iseq, .int .i64 ioff, .int .i64 bnode, .int .u64 bseq, .int .i64 boff, .int .i64 dest, .int .i64 prio, .int .i64 born, .int .i64 life, .int .i64 total, .string data]
  have hB := bal (Below.refl w.heap.size w) (.cells #[.int .i64 kind, .int .i64 frm, .int .i64 tto, .int .u64 mine, .int .u64 yours, .int .u64 fa, .int .u64 fb, .int .i64 inode, .int .u64 iseq, .int .i64 ioff, .int .i64 bnode, .int .u64 bseq, .int .i64 boff, .int .i64 dest, .int .i64 prio, .int .i64 born, .int .i64 life, .int .i64 total, .string data] 51)
  obtain ⟨g0, hg0⟩ : ∃ g0, w.heap.size = g0 := ⟨_, rfl⟩
  rw [hg0] at k0 ⊢
  have HG := Lib.hid hg0
  clear hg0
  generalize w.alloc (.cells #[.int .i64 kind, .int .i64 frm, .int .i64 tto, .int .u64 mine, .int .u64 yours, .int .u64 fa, .int .u64 fb, .int .i64 inode, .int .u64 iseq, .int .i64 ioff, .int .i64 bnode, .int .u64 bseq, .int .i64 boff, .int .i64 dest, .int .i64 prio, .int .i64 born, .int .i64 life, .int .i64 total, .string data] 51) = w1 at k0 hB ⊢
  have y0 : w1.cell? ⟨g0, 0, none⟩ = some (.int .i64 kind) := k0.cell 0
  have y5 : w1.cell? ⟨g0, 5, none⟩ = some (.int .u64 fa) := k0.cell 5
  have y6 : w1.cell? ⟨g0, 6, none⟩ = some (.int .u64 fb) := k0.cell 6
  have HB := Lib.hid hB
  clear hB k0
  go_wp2_with fail
  go_ret
  exact ⟨rfl, HB.out⟩

set_option maxRecDepth 100000 in
theorem wb6a (kind frm tto mine yours fa fb inode iseq ioff bnode bseq boff dest prio born life total : Int) (data : ByteArray) (w : World) (q3 : (kind == 3) = false) (q4 : (kind == 4) = false) (q6 : (kind == 6) = true) (h : fb < 1) : Calls Try.prog 95 #[.agg #[.int .i64 kind, .int .i64 frm, .int .i64 tto, .int .u64 mine, .int .u64 yours, .int .u64 fa, .int .u64 fb, .int .i64 inode, .int .u64 iseq, .int .i64 ioff, .int .i64 bnode, .int .u64 bseq, .int .i64 boff, .int .i64 dest, .int .i64 prio, .int .i64 born, .int .i64 life, .int .i64 total, .string data]] w (RetB true w) := by
  go_enter Try.func95, Try.ntmps95
  go_upto_region 1 with fail
  have k0 : Blk (w.alloc (.cells #[.int .i64 kind, .int .i64 frm, .int .i64 tto, .int .u64 mine, .int .u64 yours, .int .u64 fa, .int .u64 fb, .int .i64 inode, .int .u64 iseq, .int .i64 ioff, .int .i64 bnode, .int .u64 bseq, .int .i64 boff, .int .i64 dest, .int .i64 prio, .int .i64 born, .int .i64 life, .int .i64 total, .string data] 51)) w.heap.size 51 #[.int .i64 kind, .int .i64 frm, .int .i64 tto, .int .u64 mine, .int .u64 yours, .int .u64 fa, .int .u64 fb, .int .i64 inode, .int .u64 iseq, .int .i64 ioff, .int .i64 bnode, .int .u64 bseq, .int .i64 boff, .int .i64 dest, .int .i64 prio, .int .i64 born, .int .i64 life, .int .i64 total, .string data] := Blk.new w 51 #[.int .i64 kind, .int .i64 frm, .int .i64 tto, .int .u64 mine, .int .u64 yours, .int .u64 fa, .int .u64 fb, .int .i64 inode, .int .u64 iseq, .int .i64 ioff, .int .i64 bnode, .int .u64 bseq, .int .i64 boff, .int .i64 dest, .int .i64 prio, .int .i64 born, .int .i64 life, .int .i64 total, .string data]
  have hB := bal (Below.refl w.heap.size w) (.cells #[.int .i64 kind, .int .i64 frm, .int .i64 tto, .int .u64 mine, .int .u64 yours, .int .u64 fa, .int .u64 fb, .int .i64 inode, .int .u64 iseq, .int .i64 ioff, .int .i64 bnode, .int .u64 bseq, .int .i64 boff, .int .i64 dest, .int .i64 prio, .int .i64 born, .int .i64 life, .int .i64 total, .string data] 51)
  obtain ⟨g0, hg0⟩ : ∃ g0, w.heap.size = g0 := ⟨_, rfl⟩
  rw [hg0] at k0 ⊢
  have HG := Lib.hid hg0
  clear hg0
  generalize w.alloc (.cells #[.int .i64 kind, .int .i64 frm, .int .i64 tto, .int .u64 mine, .int .u64 yours, .int .u64 fa, .int .u64 fb, .int .i64 inode, .int .u64 iseq, .int .i64 ioff, .int .i64 bnode, .int .u64 bseq, .int .i64 boff, .int .i64 dest, .int .i64 prio, .int .i64 born, .int .i64 life, .int .i64 total, .string data] 51) = w1 at k0 hB ⊢
  have y0 : w1.cell? ⟨g0, 0, none⟩ = some (.int .i64 kind) := k0.cell 0
  have y5 : w1.cell? ⟨g0, 5, none⟩ = some (.int .u64 fa) := k0.cell 5
  have y6 : w1.cell? ⟨g0, 6, none⟩ = some (.int .u64 fb) := k0.cell 6
  have HB := Lib.hid hB
  clear hB k0
  go_wp2_with fail
  go_ret
  exact ⟨rfl, HB.out⟩

set_option maxRecDepth 100000 in
theorem wb6b (kind frm tto mine yours fa fb inode iseq ioff bnode bseq boff dest prio born life total : Int) (data : ByteArray) (w : World) (q3 : (kind == 3) = false) (q4 : (kind == 4) = false) (q6 : (kind == 6) = true) (h : ¬ fb < 1) : Calls Try.prog 95 #[.agg #[.int .i64 kind, .int .i64 frm, .int .i64 tto, .int .u64 mine, .int .u64 yours, .int .u64 fa, .int .u64 fb, .int .i64 inode, .int .u64 iseq, .int .i64 ioff, .int .i64 bnode, .int .u64 bseq, .int .i64 boff, .int .i64 dest, .int .i64 prio, .int .i64 born, .int .i64 life, .int .i64 total, .string data]] w (RetB (decide (3 < fb)) w) := by
  have hd : decide (fb < 1) = false := by simpa using h
  go_enter Try.func95, Try.ntmps95
  go_upto_region 1 with fail
  have k0 : Blk (w.alloc (.cells #[.int .i64 kind, .int .i64 frm, .int .i64 tto, .int .u64 mine, .int .u64 yours, .int .u64 fa, .int .u64 fb, .int .i64 inode, .int .u64 iseq, .int .i64 ioff, .int .i64 bnode, .int .u64 bseq, .int .i64 boff, .int .i64 dest, .int .i64 prio, .int .i64 born, .int .i64 life, .int .i64 total, .string data] 51)) w.heap.size 51 #[.int .i64 kind, .int .i64 frm, .int .i64 tto, .int .u64 mine, .int .u64 yours, .int .u64 fa, .int .u64 fb, .int .i64 inode, .int .u64 iseq, .int .i64 ioff, .int .i64 bnode, .int .u64 bseq, .int .i64 boff, .int .i64 dest, .int .i64 prio, .int .i64 born, .int .i64 life, .int .i64 total, .string data] := Blk.new w 51 #[.int .i64 kind, .int .i64 frm, .int .i64 tto, .int .u64 mine, .int .u64 yours, .int .u64 fa, .int .u64 fb, .int .i64 inode, .int .u64 iseq, .int .i64 ioff, .int .i64 bnode, .int .u64 bseq, .int .i64 boff, .int .i64 dest, .int .i64 prio, .int .i64 born, .int .i64 life, .int .i64 total, .string data]
  have hB := bal (Below.refl w.heap.size w) (.cells #[.int .i64 kind, .int .i64 frm, .int .i64 tto, .int .u64 mine, .int .u64 yours, .int .u64 fa, .int .u64 fb, .int .i64 inode, .int .u64 iseq, .int .i64 ioff, .int .i64 bnode, .int .u64 bseq, .int .i64 boff, .int .i64 dest, .int .i64 prio, .int .i64 born, .int .i64 life, .int .i64 total, .string data] 51)
  obtain ⟨g0, hg0⟩ : ∃ g0, w.heap.size = g0 := ⟨_, rfl⟩
  rw [hg0] at k0 ⊢
  have HG := Lib.hid hg0
  clear hg0
  generalize w.alloc (.cells #[.int .i64 kind, .int .i64 frm, .int .i64 tto, .int .u64 mine, .int .u64 yours, .int .u64 fa, .int .u64 fb, .int .i64 inode, .int .u64 iseq, .int .i64 ioff, .int .i64 bnode, .int .u64 bseq, .int .i64 boff, .int .i64 dest, .int .i64 prio, .int .i64 born, .int .i64 life, .int .i64 total, .string data] 51) = w1 at k0 hB ⊢
  have y0 : w1.cell? ⟨g0, 0, none⟩ = some (.int .i64 kind) := k0.cell 0
  have y5 : w1.cell? ⟨g0, 5, none⟩ = some (.int .u64 fa) := k0.cell 5
  have y6 : w1.cell? ⟨g0, 6, none⟩ = some (.int .u64 fb) := k0.cell 6
  have HB := Lib.hid hB
  clear hB k0
  go_wp2_with fail
  go_ret
  exact ⟨rfl, HB.out⟩

set_option maxRecDepth 100000 in
theorem wbn (kind frm tto mine yours fa fb inode iseq ioff bnode bseq boff dest prio born life total : Int) (data : ByteArray) (w : World) (q3 : (kind == 3) = false) (q4 : (kind == 4) = false) (q6 : (kind == 6) = false) : Calls Try.prog 95 #[.agg #[.int .i64 kind, .int .i64 frm, .int .i64 tto, .int .u64 mine, .int .u64 yours, .int .u64 fa, .int .u64 fb, .int .i64 inode, .int .u64 iseq, .int .i64 ioff, .int .i64 bnode, .int .u64 bseq, .int .i64 boff, .int .i64 dest, .int .i64 prio, .int .i64 born, .int .i64 life, .int .i64 total, .string data]] w (RetB false w) := by
  go_enter Try.func95, Try.ntmps95
  go_upto_region 1 with fail
  have k0 : Blk (w.alloc (.cells #[.int .i64 kind, .int .i64 frm, .int .i64 tto, .int .u64 mine, .int .u64 yours, .int .u64 fa, .int .u64 fb, .int .i64 inode, .int .u64 iseq, .int .i64 ioff, .int .i64 bnode, .int .u64 bseq, .int .i64 boff, .int .i64 dest, .int .i64 prio, .int .i64 born, .int .i64 life, .int .i64 total, .string data] 51)) w.heap.size 51 #[.int .i64 kind, .int .i64 frm, .int .i64 tto, .int .u64 mine, .int .u64 yours, .int .u64 fa, .int .u64 fb, .int .i64 inode, .int .u64 iseq, .int .i64 ioff, .int .i64 bnode, .int .u64 bseq, .int .i64 boff, .int .i64 dest, .int .i64 prio, .int .i64 born, .int .i64 life, .int .i64 total, .string data] := Blk.new w 51 #[.int .i64 kind, .int .i64 frm, .int .i64 tto, .int .u64 mine, .int .u64 yours, .int .u64 fa, .int .u64 fb, .int .i64 inode, .int .u64 iseq, .int .i64 ioff, .int .i64 bnode, .int .u64 bseq, .int .i64 boff, .int .i64 dest, .int .i64 prio, .int .i64 born, .int .i64 life, .int .i64 total, .string data]
  have hB := bal (Below.refl w.heap.size w) (.cells #[.int .i64 kind, .int .i64 frm, .int .i64 tto, .int .u64 mine, .int .u64 yours, .int .u64 fa, .int .u64 fb, .int .i64 inode, .int .u64 iseq, .int .i64 ioff, .int .i64 bnode, .int .u64 bseq, .int .i64 boff, .int .i64 dest, .int .i64 prio, .int .i64 born, .int .i64 life, .int .i64 total, .string data] 51)
  obtain ⟨g0, hg0⟩ : ∃ g0, w.heap.size = g0 := ⟨_, rfl⟩
  rw [hg0] at k0 ⊢
  have HG := Lib.hid hg0
  clear hg0
  generalize w.alloc (.cells #[.int .i64 kind, .int .i64 frm, .int .i64 tto, .int .u64 mine, .int .u64 yours, .int .u64 fa, .int .u64 fb, .int .i64 inode, .int .u64 iseq, .int .i64 ioff, .int .i64 bnode, .int .u64 bseq, .int .i64 boff, .int .i64 dest, .int .i64 prio, .int .i64 born, .int .i64 life, .int .i64 total, .string data] 51) = w1 at k0 hB ⊢
  have y0 : w1.cell? ⟨g0, 0, none⟩ = some (.int .i64 kind) := k0.cell 0
  have y5 : w1.cell? ⟨g0, 5, none⟩ = some (.int .u64 fa) := k0.cell 5
  have y6 : w1.cell? ⟨g0, 6, none⟩ = some (.int .u64 fb) := k0.cell 6
  have HB := Lib.hid hB
  clear hB k0
  go_wp2_with fail
  go_ret
  exact ⟨rfl, HB.out⟩

theorem eqk_t {k n : Int} (h : k = n) : (k == n) = true := by simpa using h
theorem eqk_f {k n : Int} (h : ¬ k = n) : (k == n) = false := by simpa using h
theorem nek_t {k n : Int} (h : ¬ k = n) : (k != n) = true := by simpa using h
theorem nek_f {k n : Int} (h : k = n) : (k != n) = false := by simpa using h
theorem wrongB_any (f : Fr) (w : World) : Calls Try.prog 95 #[f.val] w (RetB (decide f.bBad) w) := by
  unfold Fr.val
  by_cases h3 : f.kind = 3
  · have e : decide f.bBad = decide (f.a < f.b) := decide_eq_decide.2 (by unfold Fr.bBad; omega)
    rw [e]
    exact wb3 _ _ _ _ _ _ _ _ _ _ _ _ _ _ _ _ _ _ _ w (eqk_t h3)
  · by_cases h4 : f.kind = 4
    · have e : decide f.bBad = decide (1125899906842624 < f.b) := decide_eq_decide.2 (by unfold Fr.bBad; omega)
      rw [e]
      exact wb4 _ _ _ _ _ _ _ _ _ _ _ _ _ _ _ _ _ _ _ w (eqk_f h3) (eqk_t h4)
    · by_cases h6 : f.kind = 6
      · by_cases h : f.b < 1
        · have e : decide f.bBad = true := decide_eq_true (by unfold Fr.bBad; omega)
          rw [e]
          exact wb6a _ _ _ _ _ _ _ _ _ _ _ _ _ _ _ _ _ _ _ w (eqk_f h3) (eqk_f h4) (eqk_t h6) h
        · have e : decide f.bBad = decide (3 < f.b) := decide_eq_decide.2 (by unfold Fr.bBad; omega)
          rw [e]
          exact wb6b _ _ _ _ _ _ _ _ _ _ _ _ _ _ _ _ _ _ _ w (eqk_f h3) (eqk_f h4) (eqk_t h6) h
      · have e : decide f.bBad = false := decide_eq_false (by unfold Fr.bBad; omega)
        rw [e]
        exact wbn _ _ _ _ _ _ _ _ _ _ _ _ _ _ _ _ _ _ _ w (eqk_f h3) (eqk_f h4) (eqk_f h6)

set_option maxRecDepth 100000 in
set_option maxHeartbeats 4000000 in
theorem used_1001 (kind frm tto mine yours fa fb inode iseq ioff bnode bseq boff dest prio born life total : Int) (data : ByteArray) (w : World) (HBc : ∀ w, Calls Try.prog 115 #[.int .i64 kind] w (fun e w' => e = .returned (.bool false) ∧ w = w')) (HIc : ∀ w, Calls Try.prog 97 #[.int .i64 kind] w (fun e w' => e = .returned (.bool false) ∧ w = w')) (q1 : (kind == 1) = true) (q3 : (kind != 3) = true) :
    Calls Try.prog 98 #[.agg #[.int .i64 kind, .int .i64 frm, .int .i64 tto, .int .u64 mine, .int .u64 yours, .int .u64 fa, .int .u64 fb, .int .i64 inode, .int .u64 iseq, .int .i64 ioff, .int .i64 bnode, .int .u64 bseq, .int .i64 boff, .int .i64 dest, .int .i64 prio, .int .i64 born, .int .i64 life, .int .i64 total, .string data]] w (fun e w' => e = .returned (.agg #[.int .i64 kind, .int .i64 frm, .int .i64 tto, .int .u64 mine, .int .u64 yours, .int .u64 0, .int .u64 0, .int .i64 0, .int .u64 0, .int .i64 0, .int .i64 0, .int .u64 0, .int .i64 0, .int .i64 0, .int .i64 0, .int .i64 0, .int .i64 0, .int .i64 0, .string ⟨#[]⟩]) ∧ Below w.heap.size w w') := by
  have HBc' := Lib.hid HBc
  have HIc' := Lib.hid HIc
  clear HBc HIc
  go_enter Try.func98, Try.ntmps98
  go_upto_region 1 with (refine wpList_alloc_z (by rfl) 51 (by rfl) _ rfl _ zeroFr ?_)
  simp only [World.size_alloc, Act.put, List.setIfInBounds_toArray, List.set_cons_zero, List.set_cons_succ]
  have k0 := (Blk.new w 51 #[.int .i64 kind, .int .i64 frm, .int .i64 tto, .int .u64 mine, .int .u64 yours, .int .u64 fa, .int .u64 fb, .int .i64 inode, .int .u64 iseq, .int .i64 ioff, .int .i64 bnode, .int .u64 bseq, .int .i64 boff, .int .i64 dest, .int .i64 prio, .int .i64 born, .int .i64 life, .int .i64 total, .string data]).alloc (.cells #[.int .i64 0, .int .i64 0, .int .i64 0, .int .u64 0, .int .u64 0, .int .u64 0, .int .u64 0, .int .i64 0, .int .u64 0, .int .i64 0, .int .i64 0, .int .u64 0, .int .i64 0, .int .i64 0, .int .i64 0, .int .i64 0, .int .i64 0, .int .i64 0, .string ⟨#[]⟩] 51)
  have kz := Blk.new1 w (.cells #[.int .i64 kind, .int .i64 frm, .int .i64 tto, .int .u64 mine, .int .u64 yours, .int .u64 fa, .int .u64 fb, .int .i64 inode, .int .u64 iseq, .int .i64 ioff, .int .i64 bnode, .int .u64 bseq, .int .i64 boff, .int .i64 dest, .int .i64 prio, .int .i64 born, .int .i64 life, .int .i64 total, .string data] 51) 51 #[.int .i64 0, .int .i64 0, .int .i64 0, .int .u64 0, .int .u64 0, .int .u64 0, .int .u64 0, .int .i64 0, .int .u64 0, .int .i64 0, .int .i64 0, .int .u64 0, .int .i64 0, .int .i64 0, .int .i64 0, .int .i64 0, .int .i64 0, .int .i64 0, .string ⟨#[]⟩]
  have hB := bal (bal (Below.refl w.heap.size w) (.cells #[.int .i64 kind, .int .i64 frm, .int .i64 tto, .int .u64 mine, .int .u64 yours, .int .u64 fa, .int .u64 fb, .int .i64 inode, .int .u64 iseq, .int .i64 ioff, .int .i64 bnode, .int .u64 bseq, .int .i64 boff, .int .i64 dest, .int .i64 prio, .int .i64 born, .int .i64 life, .int .i64 total, .string data] 51)) (.cells #[.int .i64 0, .int .i64 0, .int .i64 0, .int .u64 0, .int .u64 0, .int .u64 0, .int .u64 0, .int .i64 0, .int .u64 0, .int .i64 0, .int .i64 0, .int .u64 0, .int .i64 0, .int .i64 0, .int .i64 0, .int .i64 0, .int .i64 0, .int .i64 0, .string ⟨#[]⟩] 51)
  obtain ⟨g1, hg1⟩ : ∃ g1, w.heap.size + 1 = g1 := ⟨_, rfl⟩
  rw [hg1] at kz ⊢
  obtain ⟨g0, hg0⟩ : ∃ g0, w.heap.size = g0 := ⟨_, rfl⟩
  have NE : Hid (¬ g1 = g0) := Lib.hid (by omega)
  have HG1 : Hid (w.heap.size ≤ g1) := Lib.hid (by omega)
  rw [hg0] at k0 ⊢
  have HG := Lib.hid hg0
  clear hg0 hg1
  generalize (w.alloc (.cells #[.int .i64 kind, .int .i64 frm, .int .i64 tto, .int .u64 mine, .int .u64 yours, .int .u64 fa, .int .u64 fb, .int .i64 inode, .int .u64 iseq, .int .i64 ioff, .int .i64 bnode, .int .u64 bseq, .int .i64 boff, .int .i64 dest, .int .i64 prio, .int .i64 born, .int .i64 life, .int .i64 total, .string data] 51)).alloc (.cells #[.int .i64 0, .int .i64 0, .int .i64 0, .int .u64 0, .int .u64 0, .int .u64 0, .int .u64 0, .int .i64 0, .int .u64 0, .int .i64 0, .int .i64 0, .int .u64 0, .int .i64 0, .int .i64 0, .int .i64 0, .int .i64 0, .int .i64 0, .int .i64 0, .string ⟨#[]⟩] 51) = W1 at k0 kz hB ⊢
  obtain ⟨y0, y1, y2, y3, y4, y5, y6, y7, y8, y9, y10, y11, y12, y13, y14, y15, y16, y17, y18⟩ := k0.c19
  obtain ⟨f0, f1, f2, f3, f4, f5, f6, f7, f8, f9, f10, f11, f12, f13, f14, f15, f16, f17, f18⟩ := k0.f19
  have hl0 := k0.lt
  go_wp2_with fail
  refine (HBc'.out _).mono ?_
  rintro e wb ⟨rfl, rfl⟩
  go_wp2_with fail
  refine (HIc'.out _).mono ?_
  rintro e wi ⟨rfl, rfl⟩
  go_upto_region 9 with fail
  have kf : Blk ((((((((((((((W1.setCell ⟨g0, 5, none⟩ (.int .u64 0)).setCell ⟨g0, 6, none⟩ (.int .u64 0)).setCell ⟨g0, 7, none⟩ (.int .i64 0)).setCell ⟨g0, 8, none⟩ (.int .u64 0)).setCell ⟨g0, 9, none⟩ (.int .i64 0)).setCell ⟨g0, 10, none⟩ (.int .i64 0)).setCell ⟨g0, 11, none⟩ (.int .u64 0)).setCell ⟨g0, 12, none⟩ (.int .i64 0)).setCell ⟨g0, 13, none⟩ (.int .i64 0)).setCell ⟨g0, 14, none⟩ (.int .i64 0)).setCell ⟨g0, 15, none⟩ (.int .i64 0)).setCell ⟨g0, 16, none⟩ (.int .i64 0)).setCell ⟨g0, 17, none⟩ (.int .i64 0)).setCell ⟨g0, 18, none⟩ (.string ⟨#[]⟩)) g0 51 #[.int .i64 kind, .int .i64 frm, .int .i64 tto, .int .u64 mine, .int .u64 yours, .int .u64 0, .int .u64 0, .int .i64 0, .int .u64 0, .int .i64 0, .int .i64 0, .int .u64 0, .int .i64 0, .int .i64 0, .int .i64 0, .int .i64 0, .int .i64 0, .int .i64 0, .string ⟨#[]⟩] := by
    have k := ((((((((((((((k0.set 5 (.int .u64 0)).set 6 (.int .u64 0)).set 7 (.int .i64 0)).set 8 (.int .u64 0)).set 9 (.int .i64 0)).set 10 (.int .i64 0)).set 11 (.int .u64 0)).set 12 (.int .i64 0)).set 13 (.int .i64 0)).set 14 (.int .i64 0)).set 15 (.int .i64 0)).set 16 (.int .i64 0)).set 17 (.int .i64 0)).set 18 (.string ⟨#[]⟩))
    rw [show (Array.setIfInBounds (Array.setIfInBounds (Array.setIfInBounds (Array.setIfInBounds (Array.setIfInBounds (Array.setIfInBounds (Array.setIfInBounds (Array.setIfInBounds (Array.setIfInBounds (Array.setIfInBounds (Array.setIfInBounds (Array.setIfInBounds (Array.setIfInBounds (Array.setIfInBounds (#[.int .i64 kind, .int .i64 frm, .int .i64 tto, .int .u64 mine, .int .u64 yours, .int .u64 fa, .int .u64 fb, .int .i64 inode, .int .u64 iseq, .int .i64 ioff, .int .i64 bnode, .int .u64 bseq, .int .i64 boff, .int .i64 dest, .int .i64 prio, .int .i64 born, .int .i64 life, .int .i64 total, .string data] : Array Value) 5 (.int .u64 0)) 6 (.int .u64 0)) 7 (.int .i64 0)) 8 (.int .u64 0)) 9 (.int .i64 0)) 10 (.int .i64 0)) 11 (.int .u64 0)) 12 (.int .i64 0)) 13 (.int .i64 0)) 14 (.int .i64 0)) 15 (.int .i64 0)) 16 (.int .i64 0)) 17 (.int .i64 0)) 18 (.string ⟨#[]⟩)) = #[.int .i64 kind, .int .i64 frm, .int .i64 tto, .int .u64 mine, .int .u64 yours, .int .u64 0, .int .u64 0, .int .i64 0, .int .u64 0, .int .i64 0, .int .i64 0, .int .u64 0, .int .i64 0, .int .i64 0, .int .i64 0, .int .i64 0, .int .i64 0, .int .i64 0, .string ⟨#[]⟩] by kernel_rfl] at k
    exact k
  have kz2 : Blk ((((((((((((((W1.setCell ⟨g0, 5, none⟩ (.int .u64 0)).setCell ⟨g0, 6, none⟩ (.int .u64 0)).setCell ⟨g0, 7, none⟩ (.int .i64 0)).setCell ⟨g0, 8, none⟩ (.int .u64 0)).setCell ⟨g0, 9, none⟩ (.int .i64 0)).setCell ⟨g0, 10, none⟩ (.int .i64 0)).setCell ⟨g0, 11, none⟩ (.int .u64 0)).setCell ⟨g0, 12, none⟩ (.int .i64 0)).setCell ⟨g0, 13, none⟩ (.int .i64 0)).setCell ⟨g0, 14, none⟩ (.int .i64 0)).setCell ⟨g0, 15, none⟩ (.int .i64 0)).setCell ⟨g0, 16, none⟩ (.int .i64 0)).setCell ⟨g0, 17, none⟩ (.int .i64 0)).setCell ⟨g0, 18, none⟩ (.string ⟨#[]⟩)) g1 51 #[.int .i64 0, .int .i64 0, .int .i64 0, .int .u64 0, .int .u64 0, .int .u64 0, .int .u64 0, .int .i64 0, .int .u64 0, .int .i64 0, .int .i64 0, .int .u64 0, .int .i64 0, .int .i64 0, .int .i64 0, .int .i64 0, .int .i64 0, .int .i64 0, .string ⟨#[]⟩] := ((((((((((((((kz.far (p := ⟨g0, 5, none⟩) NE.out (.int .u64 0)).far (p := ⟨g0, 6, none⟩) NE.out (.int .u64 0)).far (p := ⟨g0, 7, none⟩) NE.out (.int .i64 0)).far (p := ⟨g0, 8, none⟩) NE.out (.int .u64 0)).far (p := ⟨g0, 9, none⟩) NE.out (.int .i64 0)).far (p := ⟨g0, 10, none⟩) NE.out (.int .i64 0)).far (p := ⟨g0, 11, none⟩) NE.out (.int .u64 0)).far (p := ⟨g0, 12, none⟩) NE.out (.int .i64 0)).far (p := ⟨g0, 13, none⟩) NE.out (.int .i64 0)).far (p := ⟨g0, 14, none⟩) NE.out (.int .i64 0)).far (p := ⟨g0, 15, none⟩) NE.out (.int .i64 0)).far (p := ⟨g0, 16, none⟩) NE.out (.int .i64 0)).far (p := ⟨g0, 17, none⟩) NE.out (.int .i64 0)).far (p := ⟨g0, 18, none⟩) NE.out (.string ⟨#[]⟩))
  have hB2 := ((((((((((((((hB.setCell (p := ⟨g0, 5, none⟩) (by show _ ≤ g0; rw [← HG.out]; exact Nat.le_refl _) (.int .u64 0)).setCell (p := ⟨g0, 6, none⟩) (by show _ ≤ g0; rw [← HG.out]; exact Nat.le_refl _) (.int .u64 0)).setCell (p := ⟨g0, 7, none⟩) (by show _ ≤ g0; rw [← HG.out]; exact Nat.le_refl _) (.int .i64 0)).setCell (p := ⟨g0, 8, none⟩) (by show _ ≤ g0; rw [← HG.out]; exact Nat.le_refl _) (.int .u64 0)).setCell (p := ⟨g0, 9, none⟩) (by show _ ≤ g0; rw [← HG.out]; exact Nat.le_refl _) (.int .i64 0)).setCell (p := ⟨g0, 10, none⟩) (by show _ ≤ g0; rw [← HG.out]; exact Nat.le_refl _) (.int .i64 0)).setCell (p := ⟨g0, 11, none⟩) (by show _ ≤ g0; rw [← HG.out]; exact Nat.le_refl _) (.int .u64 0)).setCell (p := ⟨g0, 12, none⟩) (by show _ ≤ g0; rw [← HG.out]; exact Nat.le_refl _) (.int .i64 0)).setCell (p := ⟨g0, 13, none⟩) (by show _ ≤ g0; rw [← HG.out]; exact Nat.le_refl _) (.int .i64 0)).setCell (p := ⟨g0, 14, none⟩) (by show _ ≤ g0; rw [← HG.out]; exact Nat.le_refl _) (.int .i64 0)).setCell (p := ⟨g0, 15, none⟩) (by show _ ≤ g0; rw [← HG.out]; exact Nat.le_refl _) (.int .i64 0)).setCell (p := ⟨g0, 16, none⟩) (by show _ ≤ g0; rw [← HG.out]; exact Nat.le_refl _) (.int .i64 0)).setCell (p := ⟨g0, 17, none⟩) (by show _ ≤ g0; rw [← HG.out]; exact Nat.le_refl _) (.int .i64 0)).setCell (p := ⟨g0, 18, none⟩) (by show _ ≤ g0; rw [← HG.out]; exact Nat.le_refl _) (.string ⟨#[]⟩))
  clear y0 y1 y2 y3 y4 y5 y6 y7 y8 y9 y10 y11 y12 y13 y14 y15 y16 y17 y18 f0 f1 f2 f3 f4 f5 f6 f7 f8 f9 f10 f11 f12 f13 f14 f15 f16 f17 f18 hl0
  generalize ((((((((((((((W1.setCell ⟨g0, 5, none⟩ (.int .u64 0)).setCell ⟨g0, 6, none⟩ (.int .u64 0)).setCell ⟨g0, 7, none⟩ (.int .i64 0)).setCell ⟨g0, 8, none⟩ (.int .u64 0)).setCell ⟨g0, 9, none⟩ (.int .i64 0)).setCell ⟨g0, 10, none⟩ (.int .i64 0)).setCell ⟨g0, 11, none⟩ (.int .u64 0)).setCell ⟨g0, 12, none⟩ (.int .i64 0)).setCell ⟨g0, 13, none⟩ (.int .i64 0)).setCell ⟨g0, 14, none⟩ (.int .i64 0)).setCell ⟨g0, 15, none⟩ (.int .i64 0)).setCell ⟨g0, 16, none⟩ (.int .i64 0)).setCell ⟨g0, 17, none⟩ (.int .i64 0)).setCell ⟨g0, 18, none⟩ (.string ⟨#[]⟩)) = W2 at kf kz2 hB2 ⊢
  go_wp2_with (first | (refine wpList_load_row (by rfl) 51 _ (by rfl) g0 (by rfl) 51 #[.int .i64 kind, .int .i64 frm, .int .i64 tto, .int .u64 mine, .int .u64 yours, .int .u64 0, .int .u64 0, .int .i64 0, .int .u64 0, .int .i64 0, .int .i64 0, .int .u64 0, .int .i64 0, .int .i64 0, .int .i64 0, .int .i64 0, .int .i64 0, .int .i64 0, .string ⟨#[]⟩] (0, 0) _ kf Try.underlying51 (by rfl) (by kernel_rfl) ?_) | (refine wpList_store_mid (by rfl) 51 _ _ (by rfl) g1 0 #[.int .i64 kind, .int .i64 frm, .int .i64 tto, .int .u64 mine, .int .u64 yours, .int .u64 0, .int .u64 0, .int .i64 0, .int .u64 0, .int .i64 0, .int .i64 0, .int .u64 0, .int .i64 0, .int .i64 0, .int .i64 0, .int .i64 0, .int .i64 0, .int .i64 0, .string ⟨#[]⟩] (by rfl) (by rfl) (Blk.there kz2 0 _ (Nat.le_refl 19)) (by kernel_rfl) (one19 ..) ?_))
  refine bodyPost_ret (results_cell_row rfl _ _ g1 51 #[.int .i64 kind, .int .i64 frm, .int .i64 tto, .int .u64 mine, .int .u64 yours, .int .u64 0, .int .u64 0, .int .i64 0, .int .u64 0, .int .i64 0, .int .i64 0, .int .u64 0, .int .i64 0, .int .i64 0, .int .i64 0, .int .i64 0, .int .i64 0, .int .i64 0, .string ⟨#[]⟩] (0, 0) _ rfl (kz2.setAll rfl) Try.underlying51 (by rfl) (by kernel_rfl)) rfl ?_
  exact ⟨rfl, below_setCells HG1.out _ _ hB2⟩

set_option maxRecDepth 100000 in
set_option maxHeartbeats 4000000 in
theorem used_0001 (kind frm tto mine yours fa fb inode iseq ioff bnode bseq boff dest prio born life total : Int) (data : ByteArray) (w : World) (HBc : ∀ w, Calls Try.prog 115 #[.int .i64 kind] w (fun e w' => e = .returned (.bool false) ∧ w = w')) (HIc : ∀ w, Calls Try.prog 97 #[.int .i64 kind] w (fun e w' => e = .returned (.bool false) ∧ w = w')) (q1 : (kind == 1) = false) (q3 : (kind != 3) = true) :
    Calls Try.prog 98 #[.agg #[.int .i64 kind, .int .i64 frm, .int .i64 tto, .int .u64 mine, .int .u64 yours, .int .u64 fa, .int .u64 fb, .int .i64 inode, .int .u64 iseq, .int .i64 ioff, .int .i64 bnode, .int .u64 bseq, .int .i64 boff, .int .i64 dest, .int .i64 prio, .int .i64 born, .int .i64 life, .int .i64 total, .string data]] w (fun e w' => e = .returned (.agg #[.int .i64 kind, .int .i64 frm, .int .i64 tto, .int .u64 mine, .int .u64 yours, .int .u64 fa, .int .u64 0, .int .i64 0, .int .u64 0, .int .i64 0, .int .i64 0, .int .u64 0, .int .i64 0, .int .i64 0, .int .i64 0, .int .i64 0, .int .i64 0, .int .i64 0, .string ⟨#[]⟩]) ∧ Below w.heap.size w w') := by
  have HBc' := Lib.hid HBc
  have HIc' := Lib.hid HIc
  clear HBc HIc
  go_enter Try.func98, Try.ntmps98
  go_upto_region 1 with (refine wpList_alloc_z (by rfl) 51 (by rfl) _ rfl _ zeroFr ?_)
  simp only [World.size_alloc, Act.put, List.setIfInBounds_toArray, List.set_cons_zero, List.set_cons_succ]
  have k0 := (Blk.new w 51 #[.int .i64 kind, .int .i64 frm, .int .i64 tto, .int .u64 mine, .int .u64 yours, .int .u64 fa, .int .u64 fb, .int .i64 inode, .int .u64 iseq, .int .i64 ioff, .int .i64 bnode, .int .u64 bseq, .int .i64 boff, .int .i64 dest, .int .i64 prio, .int .i64 born, .int .i64 life, .int .i64 total, .string data]).alloc (.cells #[.int .i64 0, .int .i64 0, .int .i64 0, .int .u64 0, .int .u64 0, .int .u64 0, .int .u64 0, .int .i64 0, .int .u64 0, .int .i64 0, .int .i64 0, .int .u64 0, .int .i64 0, .int .i64 0, .int .i64 0, .int .i64 0, .int .i64 0, .int .i64 0, .string ⟨#[]⟩] 51)
  have kz := Blk.new1 w (.cells #[.int .i64 kind, .int .i64 frm, .int .i64 tto, .int .u64 mine, .int .u64 yours, .int .u64 fa, .int .u64 fb, .int .i64 inode, .int .u64 iseq, .int .i64 ioff, .int .i64 bnode, .int .u64 bseq, .int .i64 boff, .int .i64 dest, .int .i64 prio, .int .i64 born, .int .i64 life, .int .i64 total, .string data] 51) 51 #[.int .i64 0, .int .i64 0, .int .i64 0, .int .u64 0, .int .u64 0, .int .u64 0, .int .u64 0, .int .i64 0, .int .u64 0, .int .i64 0, .int .i64 0, .int .u64 0, .int .i64 0, .int .i64 0, .int .i64 0, .int .i64 0, .int .i64 0, .int .i64 0, .string ⟨#[]⟩]
  have hB := bal (bal (Below.refl w.heap.size w) (.cells #[.int .i64 kind, .int .i64 frm, .int .i64 tto, .int .u64 mine, .int .u64 yours, .int .u64 fa, .int .u64 fb, .int .i64 inode, .int .u64 iseq, .int .i64 ioff, .int .i64 bnode, .int .u64 bseq, .int .i64 boff, .int .i64 dest, .int .i64 prio, .int .i64 born, .int .i64 life, .int .i64 total, .string data] 51)) (.cells #[.int .i64 0, .int .i64 0, .int .i64 0, .int .u64 0, .int .u64 0, .int .u64 0, .int .u64 0, .int .i64 0, .int .u64 0, .int .i64 0, .int .i64 0, .int .u64 0, .int .i64 0, .int .i64 0, .int .i64 0, .int .i64 0, .int .i64 0, .int .i64 0, .string ⟨#[]⟩] 51)
  obtain ⟨g1, hg1⟩ : ∃ g1, w.heap.size + 1 = g1 := ⟨_, rfl⟩
  rw [hg1] at kz ⊢
  obtain ⟨g0, hg0⟩ : ∃ g0, w.heap.size = g0 := ⟨_, rfl⟩
  have NE : Hid (¬ g1 = g0) := Lib.hid (by omega)
  have HG1 : Hid (w.heap.size ≤ g1) := Lib.hid (by omega)
  rw [hg0] at k0 ⊢
  have HG := Lib.hid hg0
  clear hg0 hg1
  generalize (w.alloc (.cells #[.int .i64 kind, .int .i64 frm, .int .i64 tto, .int .u64 mine, .int .u64 yours, .int .u64 fa, .int .u64 fb, .int .i64 inode, .int .u64 iseq, .int .i64 ioff, .int .i64 bnode, .int .u64 bseq, .int .i64 boff, .int .i64 dest, .int .i64 prio, .int .i64 born, .int .i64 life, .int .i64 total, .string data] 51)).alloc (.cells #[.int .i64 0, .int .i64 0, .int .i64 0, .int .u64 0, .int .u64 0, .int .u64 0, .int .u64 0, .int .i64 0, .int .u64 0, .int .i64 0, .int .i64 0, .int .u64 0, .int .i64 0, .int .i64 0, .int .i64 0, .int .i64 0, .int .i64 0, .int .i64 0, .string ⟨#[]⟩] 51) = W1 at k0 kz hB ⊢
  obtain ⟨y0, y1, y2, y3, y4, y5, y6, y7, y8, y9, y10, y11, y12, y13, y14, y15, y16, y17, y18⟩ := k0.c19
  obtain ⟨f0, f1, f2, f3, f4, f5, f6, f7, f8, f9, f10, f11, f12, f13, f14, f15, f16, f17, f18⟩ := k0.f19
  have hl0 := k0.lt
  go_wp2_with fail
  refine (HBc'.out _).mono ?_
  rintro e wb ⟨rfl, rfl⟩
  go_wp2_with fail
  refine (HIc'.out _).mono ?_
  rintro e wi ⟨rfl, rfl⟩
  go_upto_region 9 with fail
  have kf : Blk (((((((((((((W1.setCell ⟨g0, 6, none⟩ (.int .u64 0)).setCell ⟨g0, 7, none⟩ (.int .i64 0)).setCell ⟨g0, 8, none⟩ (.int .u64 0)).setCell ⟨g0, 9, none⟩ (.int .i64 0)).setCell ⟨g0, 10, none⟩ (.int .i64 0)).setCell ⟨g0, 11, none⟩ (.int .u64 0)).setCell ⟨g0, 12, none⟩ (.int .i64 0)).setCell ⟨g0, 13, none⟩ (.int .i64 0)).setCell ⟨g0, 14, none⟩ (.int .i64 0)).setCell ⟨g0, 15, none⟩ (.int .i64 0)).setCell ⟨g0, 16, none⟩ (.int .i64 0)).setCell ⟨g0, 17, none⟩ (.int .i64 0)).setCell ⟨g0, 18, none⟩ (.string ⟨#[]⟩)) g0 51 #[.int .i64 kind, .int .i64 frm, .int .i64 tto, .int .u64 mine, .int .u64 yours, .int .u64 fa, .int .u64 0, .int .i64 0, .int .u64 0, .int .i64 0, .int .i64 0, .int .u64 0, .int .i64 0, .int .i64 0, .int .i64 0, .int .i64 0, .int .i64 0, .int .i64 0, .string ⟨#[]⟩] := by
    have k := (((((((((((((k0.set 6 (.int .u64 0)).set 7 (.int .i64 0)).set 8 (.int .u64 0)).set 9 (.int .i64 0)).set 10 (.int .i64 0)).set 11 (.int .u64 0)).set 12 (.int .i64 0)).set 13 (.int .i64 0)).set 14 (.int .i64 0)).set 15 (.int .i64 0)).set 16 (.int .i64 0)).set 17 (.int .i64 0)).set 18 (.string ⟨#[]⟩))
    rw [show (Array.setIfInBounds (Array.setIfInBounds (Array.setIfInBounds (Array.setIfInBounds (Array.setIfInBounds (Array.setIfInBounds (Array.setIfInBounds (Array.setIfInBounds (Array.setIfInBounds (Array.setIfInBounds (Array.setIfInBounds (Array.setIfInBounds (Array.setIfInBounds (#[.int .i64 kind, .int .i64 frm, .int .i64 tto, .int .u64 mine, .int .u64 yours, .int .u64 fa, .int .u64 fb, .int .i64 inode, .int .u64 iseq, .int .i64 ioff, .int .i64 bnode, .int .u64 bseq, .int .i64 boff, .int .i64 dest, .int .i64 prio, .int .i64 born, .int .i64 life, .int .i64 total, .string data] : Array Value) 6 (.int .u64 0)) 7 (.int .i64 0)) 8 (.int .u64 0)) 9 (.int .i64 0)) 10 (.int .i64 0)) 11 (.int .u64 0)) 12 (.int .i64 0)) 13 (.int .i64 0)) 14 (.int .i64 0)) 15 (.int .i64 0)) 16 (.int .i64 0)) 17 (.int .i64 0)) 18 (.string ⟨#[]⟩)) = #[.int .i64 kind, .int .i64 frm, .int .i64 tto, .int .u64 mine, .int .u64 yours, .int .u64 fa, .int .u64 0, .int .i64 0, .int .u64 0, .int .i64 0, .int .i64 0, .int .u64 0, .int .i64 0, .int .i64 0, .int .i64 0, .int .i64 0, .int .i64 0, .int .i64 0, .string ⟨#[]⟩] by kernel_rfl] at k
    exact k
  have kz2 : Blk (((((((((((((W1.setCell ⟨g0, 6, none⟩ (.int .u64 0)).setCell ⟨g0, 7, none⟩ (.int .i64 0)).setCell ⟨g0, 8, none⟩ (.int .u64 0)).setCell ⟨g0, 9, none⟩ (.int .i64 0)).setCell ⟨g0, 10, none⟩ (.int .i64 0)).setCell ⟨g0, 11, none⟩ (.int .u64 0)).setCell ⟨g0, 12, none⟩ (.int .i64 0)).setCell ⟨g0, 13, none⟩ (.int .i64 0)).setCell ⟨g0, 14, none⟩ (.int .i64 0)).setCell ⟨g0, 15, none⟩ (.int .i64 0)).setCell ⟨g0, 16, none⟩ (.int .i64 0)).setCell ⟨g0, 17, none⟩ (.int .i64 0)).setCell ⟨g0, 18, none⟩ (.string ⟨#[]⟩)) g1 51 #[.int .i64 0, .int .i64 0, .int .i64 0, .int .u64 0, .int .u64 0, .int .u64 0, .int .u64 0, .int .i64 0, .int .u64 0, .int .i64 0, .int .i64 0, .int .u64 0, .int .i64 0, .int .i64 0, .int .i64 0, .int .i64 0, .int .i64 0, .int .i64 0, .string ⟨#[]⟩] := (((((((((((((kz.far (p := ⟨g0, 6, none⟩) NE.out (.int .u64 0)).far (p := ⟨g0, 7, none⟩) NE.out (.int .i64 0)).far (p := ⟨g0, 8, none⟩) NE.out (.int .u64 0)).far (p := ⟨g0, 9, none⟩) NE.out (.int .i64 0)).far (p := ⟨g0, 10, none⟩) NE.out (.int .i64 0)).far (p := ⟨g0, 11, none⟩) NE.out (.int .u64 0)).far (p := ⟨g0, 12, none⟩) NE.out (.int .i64 0)).far (p := ⟨g0, 13, none⟩) NE.out (.int .i64 0)).far (p := ⟨g0, 14, none⟩) NE.out (.int .i64 0)).far (p := ⟨g0, 15, none⟩) NE.out (.int .i64 0)).far (p := ⟨g0, 16, none⟩) NE.out (.int .i64 0)).far (p := ⟨g0, 17, none⟩) NE.out (.int .i64 0)).far (p := ⟨g0, 18, none⟩) NE.out (.string ⟨#[]⟩))
  have hB2 := (((((((((((((hB.setCell (p := ⟨g0, 6, none⟩) (by show _ ≤ g0; rw [← HG.out]; exact Nat.le_refl _) (.int .u64 0)).setCell (p := ⟨g0, 7, none⟩) (by show _ ≤ g0; rw [← HG.out]; exact Nat.le_refl _) (.int .i64 0)).setCell (p := ⟨g0, 8, none⟩) (by show _ ≤ g0; rw [← HG.out]; exact Nat.le_refl _) (.int .u64 0)).setCell (p := ⟨g0, 9, none⟩) (by show _ ≤ g0; rw [← HG.out]; exact Nat.le_refl _) (.int .i64 0)).setCell (p := ⟨g0, 10, none⟩) (by show _ ≤ g0; rw [← HG.out]; exact Nat.le_refl _) (.int .i64 0)).setCell (p := ⟨g0, 11, none⟩) (by show _ ≤ g0; rw [← HG.out]; exact Nat.le_refl _) (.int .u64 0)).setCell (p := ⟨g0, 12, none⟩) (by show _ ≤ g0; rw [← HG.out]; exact Nat.le_refl _) (.int .i64 0)).setCell (p := ⟨g0, 13, none⟩) (by show _ ≤ g0; rw [← HG.out]; exact Nat.le_refl _) (.int .i64 0)).setCell (p := ⟨g0, 14, none⟩) (by show _ ≤ g0; rw [← HG.out]; exact Nat.le_refl _) (.int .i64 0)).setCell (p := ⟨g0, 15, none⟩) (by show _ ≤ g0; rw [← HG.out]; exact Nat.le_refl _) (.int .i64 0)).setCell (p := ⟨g0, 16, none⟩) (by show _ ≤ g0; rw [← HG.out]; exact Nat.le_refl _) (.int .i64 0)).setCell (p := ⟨g0, 17, none⟩) (by show _ ≤ g0; rw [← HG.out]; exact Nat.le_refl _) (.int .i64 0)).setCell (p := ⟨g0, 18, none⟩) (by show _ ≤ g0; rw [← HG.out]; exact Nat.le_refl _) (.string ⟨#[]⟩))
  clear y0 y1 y2 y3 y4 y5 y6 y7 y8 y9 y10 y11 y12 y13 y14 y15 y16 y17 y18 f0 f1 f2 f3 f4 f5 f6 f7 f8 f9 f10 f11 f12 f13 f14 f15 f16 f17 f18 hl0
  generalize (((((((((((((W1.setCell ⟨g0, 6, none⟩ (.int .u64 0)).setCell ⟨g0, 7, none⟩ (.int .i64 0)).setCell ⟨g0, 8, none⟩ (.int .u64 0)).setCell ⟨g0, 9, none⟩ (.int .i64 0)).setCell ⟨g0, 10, none⟩ (.int .i64 0)).setCell ⟨g0, 11, none⟩ (.int .u64 0)).setCell ⟨g0, 12, none⟩ (.int .i64 0)).setCell ⟨g0, 13, none⟩ (.int .i64 0)).setCell ⟨g0, 14, none⟩ (.int .i64 0)).setCell ⟨g0, 15, none⟩ (.int .i64 0)).setCell ⟨g0, 16, none⟩ (.int .i64 0)).setCell ⟨g0, 17, none⟩ (.int .i64 0)).setCell ⟨g0, 18, none⟩ (.string ⟨#[]⟩)) = W2 at kf kz2 hB2 ⊢
  go_wp2_with (first | (refine wpList_load_row (by rfl) 51 _ (by rfl) g0 (by rfl) 51 #[.int .i64 kind, .int .i64 frm, .int .i64 tto, .int .u64 mine, .int .u64 yours, .int .u64 fa, .int .u64 0, .int .i64 0, .int .u64 0, .int .i64 0, .int .i64 0, .int .u64 0, .int .i64 0, .int .i64 0, .int .i64 0, .int .i64 0, .int .i64 0, .int .i64 0, .string ⟨#[]⟩] (0, 0) _ kf Try.underlying51 (by rfl) (by kernel_rfl) ?_) | (refine wpList_store_mid (by rfl) 51 _ _ (by rfl) g1 0 #[.int .i64 kind, .int .i64 frm, .int .i64 tto, .int .u64 mine, .int .u64 yours, .int .u64 fa, .int .u64 0, .int .i64 0, .int .u64 0, .int .i64 0, .int .i64 0, .int .u64 0, .int .i64 0, .int .i64 0, .int .i64 0, .int .i64 0, .int .i64 0, .int .i64 0, .string ⟨#[]⟩] (by rfl) (by rfl) (Blk.there kz2 0 _ (Nat.le_refl 19)) (by kernel_rfl) (one19 ..) ?_))
  refine bodyPost_ret (results_cell_row rfl _ _ g1 51 #[.int .i64 kind, .int .i64 frm, .int .i64 tto, .int .u64 mine, .int .u64 yours, .int .u64 fa, .int .u64 0, .int .i64 0, .int .u64 0, .int .i64 0, .int .i64 0, .int .u64 0, .int .i64 0, .int .i64 0, .int .i64 0, .int .i64 0, .int .i64 0, .int .i64 0, .string ⟨#[]⟩] (0, 0) _ rfl (kz2.setAll rfl) Try.underlying51 (by rfl) (by kernel_rfl)) rfl ?_
  exact ⟨rfl, below_setCells HG1.out _ _ hB2⟩

set_option maxRecDepth 100000 in
set_option maxHeartbeats 4000000 in
theorem used_0100 (kind frm tto mine yours fa fb inode iseq ioff bnode bseq boff dest prio born life total : Int) (data : ByteArray) (w : World) (HBc : ∀ w, Calls Try.prog 115 #[.int .i64 kind] w (fun e w' => e = .returned (.bool true) ∧ w = w')) (HIc : ∀ w, Calls Try.prog 97 #[.int .i64 kind] w (fun e w' => e = .returned (.bool false) ∧ w = w')) (q1 : (kind == 1) = false) (q3 : (kind != 3) = false) :
    Calls Try.prog 98 #[.agg #[.int .i64 kind, .int .i64 frm, .int .i64 tto, .int .u64 mine, .int .u64 yours, .int .u64 fa, .int .u64 fb, .int .i64 inode, .int .u64 iseq, .int .i64 ioff, .int .i64 bnode, .int .u64 bseq, .int .i64 boff, .int .i64 dest, .int .i64 prio, .int .i64 born, .int .i64 life, .int .i64 total, .string data]] w (fun e w' => e = .returned (.agg #[.int .i64 kind, .int .i64 frm, .int .i64 tto, .int .u64 mine, .int .u64 yours, .int .u64 fa, .int .u64 fb, .int .i64 0, .int .u64 0, .int .i64 0, .int .i64 bnode, .int .u64 bseq, .int .i64 boff, .int .i64 dest, .int .i64 prio, .int .i64 born, .int .i64 life, .int .i64 total, .string data]) ∧ Below w.heap.size w w') := by
  have HBc' := Lib.hid HBc
  have HIc' := Lib.hid HIc
  clear HBc HIc
  go_enter Try.func98, Try.ntmps98
  go_upto_region 1 with (refine wpList_alloc_z (by rfl) 51 (by rfl) _ rfl _ zeroFr ?_)
  simp only [World.size_alloc, Act.put, List.setIfInBounds_toArray, List.set_cons_zero, List.set_cons_succ]
  have k0 := (Blk.new w 51 #[.int .i64 kind, .int .i64 frm, .int .i64 tto, .int .u64 mine, .int .u64 yours, .int .u64 fa, .int .u64 fb, .int .i64 inode, .int .u64 iseq, .int .i64 ioff, .int .i64 bnode, .int .u64 bseq, .int .i64 boff, .int .i64 dest, .int .i64 prio, .int .i64 born, .int .i64 life, .int .i64 total, .string data]).alloc (.cells #[.int .i64 0, .int .i64 0, .int .i64 0, .int .u64 0, .int .u64 0, .int .u64 0, .int .u64 0, .int .i64 0, .int .u64 0, .int .i64 0, .int .i64 0, .int .u64 0, .int .i64 0, .int .i64 0, .int .i64 0, .int .i64 0, .int .i64 0, .int .i64 0, .string ⟨#[]⟩] 51)
  have kz := Blk.new1 w (.cells #[.int .i64 kind, .int .i64 frm, .int .i64 tto, .int .u64 mine, .int .u64 yours, .int .u64 fa, .int .u64 fb, .int .i64 inode, .int .u64 iseq, .int .i64 ioff, .int .i64 bnode, .int .u64 bseq, .int .i64 boff, .int .i64 dest, .int .i64 prio, .int .i64 born, .int .i64 life, .int .i64 total, .string data] 51) 51 #[.int .i64 0, .int .i64 0, .int .i64 0, .int .u64 0, .int .u64 0, .int .u64 0, .int .u64 0, .int .i64 0, .int .u64 0, .int .i64 0, .int .i64 0, .int .u64 0, .int .i64 0, .int .i64 0, .int .i64 0, .int .i64 0, .int .i64 0, .int .i64 0, .string ⟨#[]⟩]
  have hB := bal (bal (Below.refl w.heap.size w) (.cells #[.int .i64 kind, .int .i64 frm, .int .i64 tto, .int .u64 mine, .int .u64 yours, .int .u64 fa, .int .u64 fb, .int .i64 inode, .int .u64 iseq, .int .i64 ioff, .int .i64 bnode, .int .u64 bseq, .int .i64 boff, .int .i64 dest, .int .i64 prio, .int .i64 born, .int .i64 life, .int .i64 total, .string data] 51)) (.cells #[.int .i64 0, .int .i64 0, .int .i64 0, .int .u64 0, .int .u64 0, .int .u64 0, .int .u64 0, .int .i64 0, .int .u64 0, .int .i64 0, .int .i64 0, .int .u64 0, .int .i64 0, .int .i64 0, .int .i64 0, .int .i64 0, .int .i64 0, .int .i64 0, .string ⟨#[]⟩] 51)
  obtain ⟨g1, hg1⟩ : ∃ g1, w.heap.size + 1 = g1 := ⟨_, rfl⟩
  rw [hg1] at kz ⊢
  obtain ⟨g0, hg0⟩ : ∃ g0, w.heap.size = g0 := ⟨_, rfl⟩
  have NE : Hid (¬ g1 = g0) := Lib.hid (by omega)
  have HG1 : Hid (w.heap.size ≤ g1) := Lib.hid (by omega)
  rw [hg0] at k0 ⊢
  have HG := Lib.hid hg0
  clear hg0 hg1
  generalize (w.alloc (.cells #[.int .i64 kind, .int .i64 frm, .int .i64 tto, .int .u64 mine, .int .u64 yours, .int .u64 fa, .int .u64 fb, .int .i64 inode, .int .u64 iseq, .int .i64 ioff, .int .i64 bnode, .int .u64 bseq, .int .i64 boff, .int .i64 dest, .int .i64 prio, .int .i64 born, .int .i64 life, .int .i64 total, .string data] 51)).alloc (.cells #[.int .i64 0, .int .i64 0, .int .i64 0, .int .u64 0, .int .u64 0, .int .u64 0, .int .u64 0, .int .i64 0, .int .u64 0, .int .i64 0, .int .i64 0, .int .u64 0, .int .i64 0, .int .i64 0, .int .i64 0, .int .i64 0, .int .i64 0, .int .i64 0, .string ⟨#[]⟩] 51) = W1 at k0 kz hB ⊢
  obtain ⟨y0, y1, y2, y3, y4, y5, y6, y7, y8, y9, y10, y11, y12, y13, y14, y15, y16, y17, y18⟩ := k0.c19
  obtain ⟨f0, f1, f2, f3, f4, f5, f6, f7, f8, f9, f10, f11, f12, f13, f14, f15, f16, f17, f18⟩ := k0.f19
  have hl0 := k0.lt
  go_wp2_with fail
  refine (HBc'.out _).mono ?_
  rintro e wb ⟨rfl, rfl⟩
  go_wp2_with fail
  refine (HIc'.out _).mono ?_
  rintro e wi ⟨rfl, rfl⟩
  go_upto_region 9 with fail
  have kf : Blk (((W1.setCell ⟨g0, 7, none⟩ (.int .i64 0)).setCell ⟨g0, 8, none⟩ (.int .u64 0)).setCell ⟨g0, 9, none⟩ (.int .i64 0)) g0 51 #[.int .i64 kind, .int .i64 frm, .int .i64 tto, .int .u64 mine, .int .u64 yours, .int .u64 fa, .int .u64 fb, .int .i64 0, .int .u64 0, .int .i64 0, .int .i64 bnode, .int .u64 bseq, .int .i64 boff, .int .i64 dest, .int .i64 prio, .int .i64 born, .int .i64 life, .int .i64 total, .string data] := by
    have k := (((k0.set 7 (.int .i64 0)).set 8 (.int .u64 0)).set 9 (.int .i64 0))
    rw [show (Array.setIfInBounds (Array.setIfInBounds (Array.setIfInBounds (#[.int .i64 kind, .int .i64 frm, .int .i64 tto, .int .u64 mine, .int .u64 yours, .int .u64 fa, .int .u64 fb, .int .i64 inode, .int .u64 iseq, .int .i64 ioff, .int .i64 bnode, .int .u64 bseq, .int .i64 boff, .int .i64 dest, .int .i64 prio, .int .i64 born, .int .i64 life, .int .i64 total, .string data] : Array Value) 7 (.int .i64 0)) 8 (.int .u64 0)) 9 (.int .i64 0)) = #[.int .i64 kind, .int .i64 frm, .int .i64 tto, .int .u64 mine, .int .u64 yours, .int .u64 fa, .int .u64 fb, .int .i64 0, .int .u64 0, .int .i64 0, .int .i64 bnode, .int .u64 bseq, .int .i64 boff, .int .i64 dest, .int .i64 prio, .int .i64 born, .int .i64 life, .int .i64 total, .string data] by kernel_rfl] at k
    exact k
  have kz2 : Blk (((W1.setCell ⟨g0, 7, none⟩ (.int .i64 0)).setCell ⟨g0, 8, none⟩ (.int .u64 0)).setCell ⟨g0, 9, none⟩ (.int .i64 0)) g1 51 #[.int .i64 0, .int .i64 0, .int .i64 0, .int .u64 0, .int .u64 0, .int .u64 0, .int .u64 0, .int .i64 0, .int .u64 0, .int .i64 0, .int .i64 0, .int .u64 0, .int .i64 0, .int .i64 0, .int .i64 0, .int .i64 0, .int .i64 0, .int .i64 0, .string ⟨#[]⟩] := (((kz.far (p := ⟨g0, 7, none⟩) NE.out (.int .i64 0)).far (p := ⟨g0, 8, none⟩) NE.out (.int .u64 0)).far (p := ⟨g0, 9, none⟩) NE.out (.int .i64 0))
  have hB2 := (((hB.setCell (p := ⟨g0, 7, none⟩) (by show _ ≤ g0; rw [← HG.out]; exact Nat.le_refl _) (.int .i64 0)).setCell (p := ⟨g0, 8, none⟩) (by show _ ≤ g0; rw [← HG.out]; exact Nat.le_refl _) (.int .u64 0)).setCell (p := ⟨g0, 9, none⟩) (by show _ ≤ g0; rw [← HG.out]; exact Nat.le_refl _) (.int .i64 0))
  clear y0 y1 y2 y3 y4 y5 y6 y7 y8 y9 y10 y11 y12 y13 y14 y15 y16 y17 y18 f0 f1 f2 f3 f4 f5 f6 f7 f8 f9 f10 f11 f12 f13 f14 f15 f16 f17 f18 hl0
  generalize (((W1.setCell ⟨g0, 7, none⟩ (.int .i64 0)).setCell ⟨g0, 8, none⟩ (.int .u64 0)).setCell ⟨g0, 9, none⟩ (.int .i64 0)) = W2 at kf kz2 hB2 ⊢
  go_wp2_with (first | (refine wpList_load_row (by rfl) 51 _ (by rfl) g0 (by rfl) 51 #[.int .i64 kind, .int .i64 frm, .int .i64 tto, .int .u64 mine, .int .u64 yours, .int .u64 fa, .int .u64 fb, .int .i64 0, .int .u64 0, .int .i64 0, .int .i64 bnode, .int .u64 bseq, .int .i64 boff, .int .i64 dest, .int .i64 prio, .int .i64 born, .int .i64 life, .int .i64 total, .string data] (0, 0) _ kf Try.underlying51 (by rfl) (by kernel_rfl) ?_) | (refine wpList_store_mid (by rfl) 51 _ _ (by rfl) g1 0 #[.int .i64 kind, .int .i64 frm, .int .i64 tto, .int .u64 mine, .int .u64 yours, .int .u64 fa, .int .u64 fb, .int .i64 0, .int .u64 0, .int .i64 0, .int .i64 bnode, .int .u64 bseq, .int .i64 boff, .int .i64 dest, .int .i64 prio, .int .i64 born, .int .i64 life, .int .i64 total, .string data] (by rfl) (by rfl) (Blk.there kz2 0 _ (Nat.le_refl 19)) (by kernel_rfl) (one19 ..) ?_))
  refine bodyPost_ret (results_cell_row rfl _ _ g1 51 #[.int .i64 kind, .int .i64 frm, .int .i64 tto, .int .u64 mine, .int .u64 yours, .int .u64 fa, .int .u64 fb, .int .i64 0, .int .u64 0, .int .i64 0, .int .i64 bnode, .int .u64 bseq, .int .i64 boff, .int .i64 dest, .int .i64 prio, .int .i64 born, .int .i64 life, .int .i64 total, .string data] (0, 0) _ rfl (kz2.setAll rfl) Try.underlying51 (by rfl) (by kernel_rfl)) rfl ?_
  exact ⟨rfl, below_setCells HG1.out _ _ hB2⟩

set_option maxRecDepth 100000 in
set_option maxHeartbeats 4000000 in
theorem used_0101 (kind frm tto mine yours fa fb inode iseq ioff bnode bseq boff dest prio born life total : Int) (data : ByteArray) (w : World) (HBc : ∀ w, Calls Try.prog 115 #[.int .i64 kind] w (fun e w' => e = .returned (.bool true) ∧ w = w')) (HIc : ∀ w, Calls Try.prog 97 #[.int .i64 kind] w (fun e w' => e = .returned (.bool false) ∧ w = w')) (q1 : (kind == 1) = false) (q3 : (kind != 3) = true) :
    Calls Try.prog 98 #[.agg #[.int .i64 kind, .int .i64 frm, .int .i64 tto, .int .u64 mine, .int .u64 yours, .int .u64 fa, .int .u64 fb, .int .i64 inode, .int .u64 iseq, .int .i64 ioff, .int .i64 bnode, .int .u64 bseq, .int .i64 boff, .int .i64 dest, .int .i64 prio, .int .i64 born, .int .i64 life, .int .i64 total, .string data]] w (fun e w' => e = .returned (.agg #[.int .i64 kind, .int .i64 frm, .int .i64 tto, .int .u64 mine, .int .u64 yours, .int .u64 fa, .int .u64 fb, .int .i64 0, .int .u64 0, .int .i64 0, .int .i64 0, .int .u64 0, .int .i64 0, .int .i64 0, .int .i64 0, .int .i64 0, .int .i64 0, .int .i64 0, .string ⟨#[]⟩]) ∧ Below w.heap.size w w') := by
  have HBc' := Lib.hid HBc
  have HIc' := Lib.hid HIc
  clear HBc HIc
  go_enter Try.func98, Try.ntmps98
  go_upto_region 1 with (refine wpList_alloc_z (by rfl) 51 (by rfl) _ rfl _ zeroFr ?_)
  simp only [World.size_alloc, Act.put, List.setIfInBounds_toArray, List.set_cons_zero, List.set_cons_succ]
  have k0 := (Blk.new w 51 #[.int .i64 kind, .int .i64 frm, .int .i64 tto, .int .u64 mine, .int .u64 yours, .int .u64 fa, .int .u64 fb, .int .i64 inode, .int .u64 iseq, .int .i64 ioff, .int .i64 bnode, .int .u64 bseq, .int .i64 boff, .int .i64 dest, .int .i64 prio, .int .i64 born, .int .i64 life, .int .i64 total, .string data]).alloc (.cells #[.int .i64 0, .int .i64 0, .int .i64 0, .int .u64 0, .int .u64 0, .int .u64 0, .int .u64 0, .int .i64 0, .int .u64 0, .int .i64 0, .int .i64 0, .int .u64 0, .int .i64 0, .int .i64 0, .int .i64 0, .int .i64 0, .int .i64 0, .int .i64 0, .string ⟨#[]⟩] 51)
  have kz := Blk.new1 w (.cells #[.int .i64 kind, .int .i64 frm, .int .i64 tto, .int .u64 mine, .int .u64 yours, .int .u64 fa, .int .u64 fb, .int .i64 inode, .int .u64 iseq, .int .i64 ioff, .int .i64 bnode, .int .u64 bseq, .int .i64 boff, .int .i64 dest, .int .i64 prio, .int .i64 born, .int .i64 life, .int .i64 total, .string data] 51) 51 #[.int .i64 0, .int .i64 0, .int .i64 0, .int .u64 0, .int .u64 0, .int .u64 0, .int .u64 0, .int .i64 0, .int .u64 0, .int .i64 0, .int .i64 0, .int .u64 0, .int .i64 0, .int .i64 0, .int .i64 0, .int .i64 0, .int .i64 0, .int .i64 0, .string ⟨#[]⟩]
  have hB := bal (bal (Below.refl w.heap.size w) (.cells #[.int .i64 kind, .int .i64 frm, .int .i64 tto, .int .u64 mine, .int .u64 yours, .int .u64 fa, .int .u64 fb, .int .i64 inode, .int .u64 iseq, .int .i64 ioff, .int .i64 bnode, .int .u64 bseq, .int .i64 boff, .int .i64 dest, .int .i64 prio, .int .i64 born, .int .i64 life, .int .i64 total, .string data] 51)) (.cells #[.int .i64 0, .int .i64 0, .int .i64 0, .int .u64 0, .int .u64 0, .int .u64 0, .int .u64 0, .int .i64 0, .int .u64 0, .int .i64 0, .int .i64 0, .int .u64 0, .int .i64 0, .int .i64 0, .int .i64 0, .int .i64 0, .int .i64 0, .int .i64 0, .string ⟨#[]⟩] 51)
  obtain ⟨g1, hg1⟩ : ∃ g1, w.heap.size + 1 = g1 := ⟨_, rfl⟩
  rw [hg1] at kz ⊢
  obtain ⟨g0, hg0⟩ : ∃ g0, w.heap.size = g0 := ⟨_, rfl⟩
  have NE : Hid (¬ g1 = g0) := Lib.hid (by omega)
  have HG1 : Hid (w.heap.size ≤ g1) := Lib.hid (by omega)
  rw [hg0] at k0 ⊢
  have HG := Lib.hid hg0
  clear hg0 hg1
  generalize (w.alloc (.cells #[.int .i64 kind, .int .i64 frm, .int .i64 tto, .int .u64 mine, .int .u64 yours, .int .u64 fa, .int .u64 fb, .int .i64 inode, .int .u64 iseq, .int .i64 ioff, .int .i64 bnode, .int .u64 bseq, .int .i64 boff, .int .i64 dest, .int .i64 prio, .int .i64 born, .int .i64 life, .int .i64 total, .string data] 51)).alloc (.cells #[.int .i64 0, .int .i64 0, .int .i64 0, .int .u64 0, .int .u64 0, .int .u64 0, .int .u64 0, .int .i64 0, .int .u64 0, .int .i64 0, .int .i64 0, .int .u64 0, .int .i64 0, .int .i64 0, .int .i64 0, .int .i64 0, .int .i64 0, .int .i64 0, .string ⟨#[]⟩] 51) = W1 at k0 kz hB ⊢
  obtain ⟨y0, y1, y2, y3, y4, y5, y6, y7, y8, y9, y10, y11, y12, y13, y14, y15, y16, y17, y18⟩ := k0.c19
  obtain ⟨f0, f1, f2, f3, f4, f5, f6, f7, f8, f9, f10, f11, f12, f13, f14, f15, f16, f17, f18⟩ := k0.f19
  have hl0 := k0.lt
  go_wp2_with fail
  refine (HBc'.out _).mono ?_
  rintro e wb ⟨rfl, rfl⟩
  go_wp2_with fail
  refine (HIc'.out _).mono ?_
  rintro e wi ⟨rfl, rfl⟩
  go_upto_region 9 with fail
  have kf : Blk ((((((((((((W1.setCell ⟨g0, 7, none⟩ (.int .i64 0)).setCell ⟨g0, 8, none⟩ (.int .u64 0)).setCell ⟨g0, 9, none⟩ (.int .i64 0)).setCell ⟨g0, 10, none⟩ (.int .i64 0)).setCell ⟨g0, 11, none⟩ (.int .u64 0)).setCell ⟨g0, 12, none⟩ (.int .i64 0)).setCell ⟨g0, 13, none⟩ (.int .i64 0)).setCell ⟨g0, 14, none⟩ (.int .i64 0)).setCell ⟨g0, 15, none⟩ (.int .i64 0)).setCell ⟨g0, 16, none⟩ (.int .i64 0)).setCell ⟨g0, 17, none⟩ (.int .i64 0)).setCell ⟨g0, 18, none⟩ (.string ⟨#[]⟩)) g0 51 #[.int .i64 kind, .int .i64 frm, .int .i64 tto, .int .u64 mine, .int .u64 yours, .int .u64 fa, .int .u64 fb, .int .i64 0, .int .u64 0, .int .i64 0, .int .i64 0, .int .u64 0, .int .i64 0, .int .i64 0, .int .i64 0, .int .i64 0, .int .i64 0, .int .i64 0, .string ⟨#[]⟩] := by
    have k := ((((((((((((k0.set 7 (.int .i64 0)).set 8 (.int .u64 0)).set 9 (.int .i64 0)).set 10 (.int .i64 0)).set 11 (.int .u64 0)).set 12 (.int .i64 0)).set 13 (.int .i64 0)).set 14 (.int .i64 0)).set 15 (.int .i64 0)).set 16 (.int .i64 0)).set 17 (.int .i64 0)).set 18 (.string ⟨#[]⟩))
    rw [show (Array.setIfInBounds (Array.setIfInBounds (Array.setIfInBounds (Array.setIfInBounds (Array.setIfInBounds (Array.setIfInBounds (Array.setIfInBounds (Array.setIfInBounds (Array.setIfInBounds (Array.setIfInBounds (Array.setIfInBounds (Array.setIfInBounds (#[.int .i64 kind, .int .i64 frm, .int .i64 tto, .int .u64 mine, .int .u64 yours, .int .u64 fa, .int .u64 fb, .int .i64 inode, .int .u64 iseq, .int .i64 ioff, .int .i64 bnode, .int .u64 bseq, .int .i64 boff, .int .i64 dest, .int .i64 prio, .int .i64 born, .int .i64 life, .int .i64 total, .string data] : Array Value) 7 (.int .i64 0)) 8 (.int .u64 0)) 9 (.int .i64 0)) 10 (.int .i64 0)) 11 (.int .u64 0)) 12 (.int .i64 0)) 13 (.int .i64 0)) 14 (.int .i64 0)) 15 (.int .i64 0)) 16 (.int .i64 0)) 17 (.int .i64 0)) 18 (.string ⟨#[]⟩)) = #[.int .i64 kind, .int .i64 frm, .int .i64 tto, .int .u64 mine, .int .u64 yours, .int .u64 fa, .int .u64 fb, .int .i64 0, .int .u64 0, .int .i64 0, .int .i64 0, .int .u64 0, .int .i64 0, .int .i64 0, .int .i64 0, .int .i64 0, .int .i64 0, .int .i64 0, .string ⟨#[]⟩] by kernel_rfl] at k
    exact k
  have kz2 : Blk ((((((((((((W1.setCell ⟨g0, 7, none⟩ (.int .i64 0)).setCell ⟨g0, 8, none⟩ (.int .u64 0)).setCell ⟨g0, 9, none⟩ (.int .i64 0)).setCell ⟨g0, 10, none⟩ (.int .i64 0)).setCell ⟨g0, 11, none⟩ (.int .u64 0)).setCell ⟨g0, 12, none⟩ (.int .i64 0)).setCell ⟨g0, 13, none⟩ (.int .i64 0)).setCell ⟨g0, 14, none⟩ (.int .i64 0)).setCell ⟨g0, 15, none⟩ (.int .i64 0)).setCell ⟨g0, 16, none⟩ (.int .i64 0)).setCell ⟨g0, 17, none⟩ (.int .i64 0)).setCell ⟨g0, 18, none⟩ (.string ⟨#[]⟩)) g1 51 #[.int .i64 0, .int .i64 0, .int .i64 0, .int .u64 0, .int .u64 0, .int .u64 0, .int .u64 0, .int .i64 0, .int .u64 0, .int .i64 0, .int .i64 0, .int .u64 0, .int .i64 0, .int .i64 0, .int .i64 0, .int .i64 0, .int .i64 0, .int .i64 0, .string ⟨#[]⟩] := ((((((((((((kz.far (p := ⟨g0, 7, none⟩) NE.out (.int .i64 0)).far (p := ⟨g0, 8, none⟩) NE.out (.int .u64 0)).far (p := ⟨g0, 9, none⟩) NE.out (.int .i64 0)).far (p := ⟨g0, 10, none⟩) NE.out (.int .i64 0)).far (p := ⟨g0, 11, none⟩) NE.out (.int .u64 0)).far (p := ⟨g0, 12, none⟩) NE.out (.int .i64 0)).far (p := ⟨g0, 13, none⟩) NE.out (.int .i64 0)).far (p := ⟨g0, 14, none⟩) NE.out (.int .i64 0)).far (p := ⟨g0, 15, none⟩) NE.out (.int .i64 0)).far (p := ⟨g0, 16, none⟩) NE.out (.int .i64 0)).far (p := ⟨g0, 17, none⟩) NE.out (.int .i64 0)).far (p := ⟨g0, 18, none⟩) NE.out (.string ⟨#[]⟩))
  have hB2 := ((((((((((((hB.setCell (p := ⟨g0, 7, none⟩) (by show _ ≤ g0; rw [← HG.out]; exact Nat.le_refl _) (.int .i64 0)).setCell (p := ⟨g0, 8, none⟩) (by show _ ≤ g0; rw [← HG.out]; exact Nat.le_refl _) (.int .u64 0)).setCell (p := ⟨g0, 9, none⟩) (by show _ ≤ g0; rw [← HG.out]; exact Nat.le_refl _) (.int .i64 0)).setCell (p := ⟨g0, 10, none⟩) (by show _ ≤ g0; rw [← HG.out]; exact Nat.le_refl _) (.int .i64 0)).setCell (p := ⟨g0, 11, none⟩) (by show _ ≤ g0; rw [← HG.out]; exact Nat.le_refl _) (.int .u64 0)).setCell (p := ⟨g0, 12, none⟩) (by show _ ≤ g0; rw [← HG.out]; exact Nat.le_refl _) (.int .i64 0)).setCell (p := ⟨g0, 13, none⟩) (by show _ ≤ g0; rw [← HG.out]; exact Nat.le_refl _) (.int .i64 0)).setCell (p := ⟨g0, 14, none⟩) (by show _ ≤ g0; rw [← HG.out]; exact Nat.le_refl _) (.int .i64 0)).setCell (p := ⟨g0, 15, none⟩) (by show _ ≤ g0; rw [← HG.out]; exact Nat.le_refl _) (.int .i64 0)).setCell (p := ⟨g0, 16, none⟩) (by show _ ≤ g0; rw [← HG.out]; exact Nat.le_refl _) (.int .i64 0)).setCell (p := ⟨g0, 17, none⟩) (by show _ ≤ g0; rw [← HG.out]; exact Nat.le_refl _) (.int .i64 0)).setCell (p := ⟨g0, 18, none⟩) (by show _ ≤ g0; rw [← HG.out]; exact Nat.le_refl _) (.string ⟨#[]⟩))
  clear y0 y1 y2 y3 y4 y5 y6 y7 y8 y9 y10 y11 y12 y13 y14 y15 y16 y17 y18 f0 f1 f2 f3 f4 f5 f6 f7 f8 f9 f10 f11 f12 f13 f14 f15 f16 f17 f18 hl0
  generalize ((((((((((((W1.setCell ⟨g0, 7, none⟩ (.int .i64 0)).setCell ⟨g0, 8, none⟩ (.int .u64 0)).setCell ⟨g0, 9, none⟩ (.int .i64 0)).setCell ⟨g0, 10, none⟩ (.int .i64 0)).setCell ⟨g0, 11, none⟩ (.int .u64 0)).setCell ⟨g0, 12, none⟩ (.int .i64 0)).setCell ⟨g0, 13, none⟩ (.int .i64 0)).setCell ⟨g0, 14, none⟩ (.int .i64 0)).setCell ⟨g0, 15, none⟩ (.int .i64 0)).setCell ⟨g0, 16, none⟩ (.int .i64 0)).setCell ⟨g0, 17, none⟩ (.int .i64 0)).setCell ⟨g0, 18, none⟩ (.string ⟨#[]⟩)) = W2 at kf kz2 hB2 ⊢
  go_wp2_with (first | (refine wpList_load_row (by rfl) 51 _ (by rfl) g0 (by rfl) 51 #[.int .i64 kind, .int .i64 frm, .int .i64 tto, .int .u64 mine, .int .u64 yours, .int .u64 fa, .int .u64 fb, .int .i64 0, .int .u64 0, .int .i64 0, .int .i64 0, .int .u64 0, .int .i64 0, .int .i64 0, .int .i64 0, .int .i64 0, .int .i64 0, .int .i64 0, .string ⟨#[]⟩] (0, 0) _ kf Try.underlying51 (by rfl) (by kernel_rfl) ?_) | (refine wpList_store_mid (by rfl) 51 _ _ (by rfl) g1 0 #[.int .i64 kind, .int .i64 frm, .int .i64 tto, .int .u64 mine, .int .u64 yours, .int .u64 fa, .int .u64 fb, .int .i64 0, .int .u64 0, .int .i64 0, .int .i64 0, .int .u64 0, .int .i64 0, .int .i64 0, .int .i64 0, .int .i64 0, .int .i64 0, .int .i64 0, .string ⟨#[]⟩] (by rfl) (by rfl) (Blk.there kz2 0 _ (Nat.le_refl 19)) (by kernel_rfl) (one19 ..) ?_))
  refine bodyPost_ret (results_cell_row rfl _ _ g1 51 #[.int .i64 kind, .int .i64 frm, .int .i64 tto, .int .u64 mine, .int .u64 yours, .int .u64 fa, .int .u64 fb, .int .i64 0, .int .u64 0, .int .i64 0, .int .i64 0, .int .u64 0, .int .i64 0, .int .i64 0, .int .i64 0, .int .i64 0, .int .i64 0, .int .i64 0, .string ⟨#[]⟩] (0, 0) _ rfl (kz2.setAll rfl) Try.underlying51 (by rfl) (by kernel_rfl)) rfl ?_
  exact ⟨rfl, below_setCells HG1.out _ _ hB2⟩

set_option maxRecDepth 100000 in
set_option maxHeartbeats 4000000 in
theorem used_0011 (kind frm tto mine yours fa fb inode iseq ioff bnode bseq boff dest prio born life total : Int) (data : ByteArray) (w : World) (HBc : ∀ w, Calls Try.prog 115 #[.int .i64 kind] w (fun e w' => e = .returned (.bool false) ∧ w = w')) (HIc : ∀ w, Calls Try.prog 97 #[.int .i64 kind] w (fun e w' => e = .returned (.bool true) ∧ w = w')) (q1 : (kind == 1) = false) (q3 : (kind != 3) = true) :
    Calls Try.prog 98 #[.agg #[.int .i64 kind, .int .i64 frm, .int .i64 tto, .int .u64 mine, .int .u64 yours, .int .u64 fa, .int .u64 fb, .int .i64 inode, .int .u64 iseq, .int .i64 ioff, .int .i64 bnode, .int .u64 bseq, .int .i64 boff, .int .i64 dest, .int .i64 prio, .int .i64 born, .int .i64 life, .int .i64 total, .string data]] w (fun e w' => e = .returned (.agg #[.int .i64 kind, .int .i64 frm, .int .i64 tto, .int .u64 mine, .int .u64 yours, .int .u64 fa, .int .u64 0, .int .i64 inode, .int .u64 iseq, .int .i64 ioff, .int .i64 0, .int .u64 0, .int .i64 0, .int .i64 0, .int .i64 0, .int .i64 0, .int .i64 0, .int .i64 0, .string ⟨#[]⟩]) ∧ Below w.heap.size w w') := by
  have HBc' := Lib.hid HBc
  have HIc' := Lib.hid HIc
  clear HBc HIc
  go_enter Try.func98, Try.ntmps98
  go_upto_region 1 with (refine wpList_alloc_z (by rfl) 51 (by rfl) _ rfl _ zeroFr ?_)
  simp only [World.size_alloc, Act.put, List.setIfInBounds_toArray, List.set_cons_zero, List.set_cons_succ]
  have k0 := (Blk.new w 51 #[.int .i64 kind, .int .i64 frm, .int .i64 tto, .int .u64 mine, .int .u64 yours, .int .u64 fa, .int .u64 fb, .int .i64 inode, .int .u64 iseq, .int .i64 ioff, .int .i64 bnode, .int .u64 bseq, .int .i64 boff, .int .i64 dest, .int .i64 prio, .int .i64 born, .int .i64 life, .int .i64 total, .string data]).alloc (.cells #[.int .i64 0, .int .i64 0, .int .i64 0, .int .u64 0, .int .u64 0, .int .u64 0, .int .u64 0, .int .i64 0, .int .u64 0, .int .i64 0, .int .i64 0, .int .u64 0, .int .i64 0, .int .i64 0, .int .i64 0, .int .i64 0, .int .i64 0, .int .i64 0, .string ⟨#[]⟩] 51)
  have kz := Blk.new1 w (.cells #[.int .i64 kind, .int .i64 frm, .int .i64 tto, .int .u64 mine, .int .u64 yours, .int .u64 fa, .int .u64 fb, .int .i64 inode, .int .u64 iseq, .int .i64 ioff, .int .i64 bnode, .int .u64 bseq, .int .i64 boff, .int .i64 dest, .int .i64 prio, .int .i64 born, .int .i64 life, .int .i64 total, .string data] 51) 51 #[.int .i64 0, .int .i64 0, .int .i64 0, .int .u64 0, .int .u64 0, .int .u64 0, .int .u64 0, .int .i64 0, .int .u64 0, .int .i64 0, .int .i64 0, .int .u64 0, .int .i64 0, .int .i64 0, .int .i64 0, .int .i64 0, .int .i64 0, .int .i64 0, .string ⟨#[]⟩]
  have hB := bal (bal (Below.refl w.heap.size w) (.cells #[.int .i64 kind, .int .i64 frm, .int .i64 tto, .int .u64 mine, .int .u64 yours, .int .u64 fa, .int .u64 fb, .int .i64 inode, .int .u64 iseq, .int .i64 ioff, .int .i64 bnode, .int .u64 bseq, .int .i64 boff, .int .i64 dest, .int .i64 prio, .int .i64 born, .int .i64 life, .int .i64 total, .string data] 51)) (.cells #[.int .i64 0, .int .i64 0, .int .i64 0, .int .u64 0, .int .u64 0, .int .u64 0, .int .u64 0, .int .i64 0, .int .u64 0, .int .i64 0, .int .i64 0, .int .u64 0, .int .i64 0, .int .i64 0, .int .i64 0, .int .i64 0, .int .i64 0, .int .i64 0, .string ⟨#[]⟩] 51)
  obtain ⟨g1, hg1⟩ : ∃ g1, w.heap.size + 1 = g1 := ⟨_, rfl⟩
  rw [hg1] at kz ⊢
  obtain ⟨g0, hg0⟩ : ∃ g0, w.heap.size = g0 := ⟨_, rfl⟩
  have NE : Hid (¬ g1 = g0) := Lib.hid (by omega)
  have HG1 : Hid (w.heap.size ≤ g1) := Lib.hid (by omega)
  rw [hg0] at k0 ⊢
  have HG := Lib.hid hg0
  clear hg0 hg1
  generalize (w.alloc (.cells #[.int .i64 kind, .int .i64 frm, .int .i64 tto, .int .u64 mine, .int .u64 yours, .int .u64 fa, .int .u64 fb, .int .i64 inode, .int .u64 iseq, .int .i64 ioff, .int .i64 bnode, .int .u64 bseq, .int .i64 boff, .int .i64 dest, .int .i64 prio, .int .i64 born, .int .i64 life, .int .i64 total, .string data] 51)).alloc (.cells #[.int .i64 0, .int .i64 0, .int .i64 0, .int .u64 0, .int .u64 0, .int .u64 0, .int .u64 0, .int .i64 0, .int .u64 0, .int .i64 0, .int .i64 0, .int .u64 0, .int .i64 0, .int .i64 0, .int .i64 0, .int .i64 0, .int .i64 0, .int .i64 0, .string ⟨#[]⟩] 51) = W1 at k0 kz hB ⊢
  obtain ⟨y0, y1, y2, y3, y4, y5, y6, y7, y8, y9, y10, y11, y12, y13, y14, y15, y16, y17, y18⟩ := k0.c19
  obtain ⟨f0, f1, f2, f3, f4, f5, f6, f7, f8, f9, f10, f11, f12, f13, f14, f15, f16, f17, f18⟩ := k0.f19
  have hl0 := k0.lt
  go_wp2_with fail
  refine (HBc'.out _).mono ?_
  rintro e wb ⟨rfl, rfl⟩
  go_wp2_with fail
  refine (HIc'.out _).mono ?_
  rintro e wi ⟨rfl, rfl⟩
  go_upto_region 9 with fail
  have kf : Blk ((((((((((W1.setCell ⟨g0, 6, none⟩ (.int .u64 0)).setCell ⟨g0, 10, none⟩ (.int .i64 0)).setCell ⟨g0, 11, none⟩ (.int .u64 0)).setCell ⟨g0, 12, none⟩ (.int .i64 0)).setCell ⟨g0, 13, none⟩ (.int .i64 0)).setCell ⟨g0, 14, none⟩ (.int .i64 0)).setCell ⟨g0, 15, none⟩ (.int .i64 0)).setCell ⟨g0, 16, none⟩ (.int .i64 0)).setCell ⟨g0, 17, none⟩ (.int .i64 0)).setCell ⟨g0, 18, none⟩ (.string ⟨#[]⟩)) g0 51 #[.int .i64 kind, .int .i64 frm, .int .i64 tto, .int .u64 mine, .int .u64 yours, .int .u64 fa, .int .u64 0, .int .i64 inode, .int .u64 iseq, .int .i64 ioff, .int .i64 0, .int .u64 0, .int .i64 0, .int .i64 0, .int .i64 0, .int .i64 0, .int .i64 0, .int .i64 0, .string ⟨#[]⟩] := by
    have k := ((((((((((k0.set 6 (.int .u64 0)).set 10 (.int .i64 0)).set 11 (.int .u64 0)).set 12 (.int .i64 0)).set 13 (.int .i64 0)).set 14 (.int .i64 0)).set 15 (.int .i64 0)).set 16 (.int .i64 0)).set 17 (.int .i64 0)).set 18 (.string ⟨#[]⟩))
    rw [show (Array.setIfInBounds (Array.setIfInBounds (Array.setIfInBounds (Array.setIfInBounds (Array.setIfInBounds (Array.setIfInBounds (Array.setIfInBounds (Array.setIfInBounds (Array.setIfInBounds (Array.setIfInBounds (#[.int .i64 kind, .int .i64 frm, .int .i64 tto, .int .u64 mine, .int .u64 yours, .int .u64 fa, .int .u64 fb, .int .i64 inode, .int .u64 iseq, .int .i64 ioff, .int .i64 bnode, .int .u64 bseq, .int .i64 boff, .int .i64 dest, .int .i64 prio, .int .i64 born, .int .i64 life, .int .i64 total, .string data] : Array Value) 6 (.int .u64 0)) 10 (.int .i64 0)) 11 (.int .u64 0)) 12 (.int .i64 0)) 13 (.int .i64 0)) 14 (.int .i64 0)) 15 (.int .i64 0)) 16 (.int .i64 0)) 17 (.int .i64 0)) 18 (.string ⟨#[]⟩)) = #[.int .i64 kind, .int .i64 frm, .int .i64 tto, .int .u64 mine, .int .u64 yours, .int .u64 fa, .int .u64 0, .int .i64 inode, .int .u64 iseq, .int .i64 ioff, .int .i64 0, .int .u64 0, .int .i64 0, .int .i64 0, .int .i64 0, .int .i64 0, .int .i64 0, .int .i64 0, .string ⟨#[]⟩] by kernel_rfl] at k
    exact k
  have kz2 : Blk ((((((((((W1.setCell ⟨g0, 6, none⟩ (.int .u64 0)).setCell ⟨g0, 10, none⟩ (.int .i64 0)).setCell ⟨g0, 11, none⟩ (.int .u64 0)).setCell ⟨g0, 12, none⟩ (.int .i64 0)).setCell ⟨g0, 13, none⟩ (.int .i64 0)).setCell ⟨g0, 14, none⟩ (.int .i64 0)).setCell ⟨g0, 15, none⟩ (.int .i64 0)).setCell ⟨g0, 16, none⟩ (.int .i64 0)).setCell ⟨g0, 17, none⟩ (.int .i64 0)).setCell ⟨g0, 18, none⟩ (.string ⟨#[]⟩)) g1 51 #[.int .i64 0, .int .i64 0, .int .i64 0, .int .u64 0, .int .u64 0, .int .u64 0, .int .u64 0, .int .i64 0, .int .u64 0, .int .i64 0, .int .i64 0, .int .u64 0, .int .i64 0, .int .i64 0, .int .i64 0, .int .i64 0, .int .i64 0, .int .i64 0, .string ⟨#[]⟩] := ((((((((((kz.far (p := ⟨g0, 6, none⟩) NE.out (.int .u64 0)).far (p := ⟨g0, 10, none⟩) NE.out (.int .i64 0)).far (p := ⟨g0, 11, none⟩) NE.out (.int .u64 0)).far (p := ⟨g0, 12, none⟩) NE.out (.int .i64 0)).far (p := ⟨g0, 13, none⟩) NE.out (.int .i64 0)).far (p := ⟨g0, 14, none⟩) NE.out (.int .i64 0)).far (p := ⟨g0, 15, none⟩) NE.out (.int .i64 0)).far (p := ⟨g0, 16, none⟩) NE.out (.int .i64 0)).far (p := ⟨g0, 17, none⟩) NE.out (.int .i64 0)).far (p := ⟨g0, 18, none⟩) NE.out (.string ⟨#[]⟩))
  have hB2 := ((((((((((hB.setCell (p := ⟨g0, 6, none⟩) (by show _ ≤ g0; rw [← HG.out]; exact Nat.le_refl _) (.int .u64 0)).setCell (p := ⟨g0, 10, none⟩) (by show _ ≤ g0; rw [← HG.out]; exact Nat.le_refl _) (.int .i64 0)).setCell (p := ⟨g0, 11, none⟩) (by show _ ≤ g0; rw [← HG.out]; exact Nat.le_refl _) (.int .u64 0)).setCell (p := ⟨g0, 12, none⟩) (by show _ ≤ g0; rw [← HG.out]; exact Nat.le_refl _) (.int .i64 0)).setCell (p := ⟨g0, 13, none⟩) (by show _ ≤ g0; rw [← HG.out]; exact Nat.le_refl _) (.int .i64 0)).setCell (p := ⟨g0, 14, none⟩) (by show _ ≤ g0; rw [← HG.out]; exact Nat.le_refl _) (.int .i64 0)).setCell (p := ⟨g0, 15, none⟩) (by show _ ≤ g0; rw [← HG.out]; exact Nat.le_refl _) (.int .i64 0)).setCell (p := ⟨g0, 16, none⟩) (by show _ ≤ g0; rw [← HG.out]; exact Nat.le_refl _) (.int .i64 0)).setCell (p := ⟨g0, 17, none⟩) (by show _ ≤ g0; rw [← HG.out]; exact Nat.le_refl _) (.int .i64 0)).setCell (p := ⟨g0, 18, none⟩) (by show _ ≤ g0; rw [← HG.out]; exact Nat.le_refl _) (.string ⟨#[]⟩))
  clear y0 y1 y2 y3 y4 y5 y6 y7 y8 y9 y10 y11 y12 y13 y14 y15 y16 y17 y18 f0 f1 f2 f3 f4 f5 f6 f7 f8 f9 f10 f11 f12 f13 f14 f15 f16 f17 f18 hl0
  generalize ((((((((((W1.setCell ⟨g0, 6, none⟩ (.int .u64 0)).setCell ⟨g0, 10, none⟩ (.int .i64 0)).setCell ⟨g0, 11, none⟩ (.int .u64 0)).setCell ⟨g0, 12, none⟩ (.int .i64 0)).setCell ⟨g0, 13, none⟩ (.int .i64 0)).setCell ⟨g0, 14, none⟩ (.int .i64 0)).setCell ⟨g0, 15, none⟩ (.int .i64 0)).setCell ⟨g0, 16, none⟩ (.int .i64 0)).setCell ⟨g0, 17, none⟩ (.int .i64 0)).setCell ⟨g0, 18, none⟩ (.string ⟨#[]⟩)) = W2 at kf kz2 hB2 ⊢
  go_wp2_with (first | (refine wpList_load_row (by rfl) 51 _ (by rfl) g0 (by rfl) 51 #[.int .i64 kind, .int .i64 frm, .int .i64 tto, .int .u64 mine, .int .u64 yours, .int .u64 fa, .int .u64 0, .int .i64 inode, .int .u64 iseq, .int .i64 ioff, .int .i64 0, .int .u64 0, .int .i64 0, .int .i64 0, .int .i64 0, .int .i64 0, .int .i64 0, .int .i64 0, .string ⟨#[]⟩] (0, 0) _ kf Try.underlying51 (by rfl) (by kernel_rfl) ?_) | (refine wpList_store_mid (by rfl) 51 _ _ (by rfl) g1 0 #[.int .i64 kind, .int .i64 frm, .int .i64 tto, .int .u64 mine, .int .u64 yours, .int .u64 fa, .int .u64 0, .int .i64 inode, .int .u64 iseq, .int .i64 ioff, .int .i64 0, .int .u64 0, .int .i64 0, .int .i64 0, .int .i64 0, .int .i64 0, .int .i64 0, .int .i64 0, .string ⟨#[]⟩] (by rfl) (by rfl) (Blk.there kz2 0 _ (Nat.le_refl 19)) (by kernel_rfl) (one19 ..) ?_))
  refine bodyPost_ret (results_cell_row rfl _ _ g1 51 #[.int .i64 kind, .int .i64 frm, .int .i64 tto, .int .u64 mine, .int .u64 yours, .int .u64 fa, .int .u64 0, .int .i64 inode, .int .u64 iseq, .int .i64 ioff, .int .i64 0, .int .u64 0, .int .i64 0, .int .i64 0, .int .i64 0, .int .i64 0, .int .i64 0, .int .i64 0, .string ⟨#[]⟩] (0, 0) _ rfl (kz2.setAll rfl) Try.underlying51 (by rfl) (by kernel_rfl)) rfl ?_
  exact ⟨rfl, below_setCells HG1.out _ _ hB2⟩

set_option maxRecDepth 100000 in
set_option maxHeartbeats 4000000 in
theorem used_0111 (kind frm tto mine yours fa fb inode iseq ioff bnode bseq boff dest prio born life total : Int) (data : ByteArray) (w : World) (HBc : ∀ w, Calls Try.prog 115 #[.int .i64 kind] w (fun e w' => e = .returned (.bool true) ∧ w = w')) (HIc : ∀ w, Calls Try.prog 97 #[.int .i64 kind] w (fun e w' => e = .returned (.bool true) ∧ w = w')) (q1 : (kind == 1) = false) (q3 : (kind != 3) = true) :
    Calls Try.prog 98 #[.agg #[.int .i64 kind, .int .i64 frm, .int .i64 tto, .int .u64 mine, .int .u64 yours, .int .u64 fa, .int .u64 fb, .int .i64 inode, .int .u64 iseq, .int .i64 ioff, .int .i64 bnode, .int .u64 bseq, .int .i64 boff, .int .i64 dest, .int .i64 prio, .int .i64 born, .int .i64 life, .int .i64 total, .string data]] w (fun e w' => e = .returned (.agg #[.int .i64 kind, .int .i64 frm, .int .i64 tto, .int .u64 mine, .int .u64 yours, .int .u64 fa, .int .u64 fb, .int .i64 inode, .int .u64 iseq, .int .i64 ioff, .int .i64 0, .int .u64 0, .int .i64 0, .int .i64 0, .int .i64 0, .int .i64 0, .int .i64 0, .int .i64 0, .string ⟨#[]⟩]) ∧ Below w.heap.size w w') := by
  have HBc' := Lib.hid HBc
  have HIc' := Lib.hid HIc
  clear HBc HIc
  go_enter Try.func98, Try.ntmps98
  go_upto_region 1 with (refine wpList_alloc_z (by rfl) 51 (by rfl) _ rfl _ zeroFr ?_)
  simp only [World.size_alloc, Act.put, List.setIfInBounds_toArray, List.set_cons_zero, List.set_cons_succ]
  have k0 := (Blk.new w 51 #[.int .i64 kind, .int .i64 frm, .int .i64 tto, .int .u64 mine, .int .u64 yours, .int .u64 fa, .int .u64 fb, .int .i64 inode, .int .u64 iseq, .int .i64 ioff, .int .i64 bnode, .int .u64 bseq, .int .i64 boff, .int .i64 dest, .int .i64 prio, .int .i64 born, .int .i64 life, .int .i64 total, .string data]).alloc (.cells #[.int .i64 0, .int .i64 0, .int .i64 0, .int .u64 0, .int .u64 0, .int .u64 0, .int .u64 0, .int .i64 0, .int .u64 0, .int .i64 0, .int .i64 0, .int .u64 0, .int .i64 0, .int .i64 0, .int .i64 0, .int .i64 0, .int .i64 0, .int .i64 0, .string ⟨#[]⟩] 51)
  have kz := Blk.new1 w (.cells #[.int .i64 kind, .int .i64 frm, .int .i64 tto, .int .u64 mine, .int .u64 yours, .int .u64 fa, .int .u64 fb, .int .i64 inode, .int .u64 iseq, .int .i64 ioff, .int .i64 bnode, .int .u64 bseq, .int .i64 boff, .int .i64 dest, .int .i64 prio, .int .i64 born, .int .i64 life, .int .i64 total, .string data] 51) 51 #[.int .i64 0, .int .i64 0, .int .i64 0, .int .u64 0, .int .u64 0, .int .u64 0, .int .u64 0, .int .i64 0, .int .u64 0, .int .i64 0, .int .i64 0, .int .u64 0, .int .i64 0, .int .i64 0, .int .i64 0, .int .i64 0, .int .i64 0, .int .i64 0, .string ⟨#[]⟩]
  have hB := bal (bal (Below.refl w.heap.size w) (.cells #[.int .i64 kind, .int .i64 frm, .int .i64 tto, .int .u64 mine, .int .u64 yours, .int .u64 fa, .int .u64 fb, .int .i64 inode, .int .u64 iseq, .int .i64 ioff, .int .i64 bnode, .int .u64 bseq, .int .i64 boff, .int .i64 dest, .int .i64 prio, .int .i64 born, .int .i64 life, .int .i64 total, .string data] 51)) (.cells #[.int .i64 0, .int .i64 0, .int .i64 0, .int .u64 0, .int .u64 0, .int .u64 0, .int .u64 0, .int .i64 0, .int .u64 0, .int .i64 0, .int .i64 0, .int .u64 0, .int .i64 0, .int .i64 0, .int .i64 0, .int .i64 0, .int .i64 0, .int .i64 0, .string ⟨#[]⟩] 51)
  obtain ⟨g1, hg1⟩ : ∃ g1, w.heap.size + 1 = g1 := ⟨_, rfl⟩
  rw [hg1] at kz ⊢
  obtain ⟨g0, hg0⟩ : ∃ g0, w.heap.size = g0 := ⟨_, rfl⟩
  have NE : Hid (¬ g1 = g0) := Lib.hid (by omega)
  have HG1 : Hid (w.heap.size ≤ g1) := Lib.hid (by omega)
  rw [hg0] at k0 ⊢
  have HG := Lib.hid hg0
  clear hg0 hg1
  generalize (w.alloc (.cells #[.int .i64 kind, .int .i64 frm, .int .i64 tto, .int .u64 mine, .int .u64 yours, .int .u64 fa, .int .u64 fb, .int .i64 inode, .int .u64 iseq, .int .i64 ioff, .int .i64 bnode, .int .u64 bseq, .int .i64 boff, .int .i64 dest, .int .i64 prio, .int .i64 born, .int .i64 life, .int .i64 total, .string data] 51)).alloc (.cells #[.int .i64 0, .int .i64 0, .int .i64 0, .int .u64 0, .int .u64 0, .int .u64 0, .int .u64 0, .int .i64 0, .int .u64 0, .int .i64 0, .int .i64 0, .int .u64 0, .int .i64 0, .int .i64 0, .int .i64 0, .int .i64 0, .int .i64 0, .int .i64 0, .string ⟨#[]⟩] 51) = W1 at k0 kz hB ⊢
  obtain ⟨y0, y1, y2, y3, y4, y5, y6, y7, y8, y9, y10, y11, y12, y13, y14, y15, y16, y17, y18⟩ := k0.c19
  obtain ⟨f0, f1, f2, f3, f4, f5, f6, f7, f8, f9, f10, f11, f12, f13, f14, f15, f16, f17, f18⟩ := k0.f19
  have hl0 := k0.lt
  go_wp2_with fail
  refine (HBc'.out _).mono ?_
  rintro e wb ⟨rfl, rfl⟩
  go_wp2_with fail
  refine (HIc'.out _).mono ?_
  rintro e wi ⟨rfl, rfl⟩
  go_upto_region 9 with fail
  have kf : Blk (((((((((W1.setCell ⟨g0, 10, none⟩ (.int .i64 0)).setCell ⟨g0, 11, none⟩ (.int .u64 0)).setCell ⟨g0, 12, none⟩ (.int .i64 0)).setCell ⟨g0, 13, none⟩ (.int .i64 0)).setCell ⟨g0, 14, none⟩ (.int .i64 0)).setCell ⟨g0, 15, none⟩ (.int .i64 0)).setCell ⟨g0, 16, none⟩ (.int .i64 0)).setCell ⟨g0, 17, none⟩ (.int .i64 0)).setCell ⟨g0, 18, none⟩ (.string ⟨#[]⟩)) g0 51 #[.int .i64 kind, .int .i64 frm, .int .i64 tto, .int .u64 mine, .int .u64 yours, .int .u64 fa, .int .u64 fb, .int .i64 inode, .int .u64 iseq, .int .i64 ioff, .int .i64 0, .int .u64 0, .int .i64 0, .int .i64 0, .int .i64 0, .int .i64 0, .int .i64 0, .int .i64 0, .string ⟨#[]⟩] := by
    have k := (((((((((k0.set 10 (.int .i64 0)).set 11 (.int .u64 0)).set 12 (.int .i64 0)).set 13 (.int .i64 0)).set 14 (.int .i64 0)).set 15 (.int .i64 0)).set 16 (.int .i64 0)).set 17 (.int .i64 0)).set 18 (.string ⟨#[]⟩))
    rw [show (Array.setIfInBounds (Array.setIfInBounds (Array.setIfInBounds (Array.setIfInBounds (Array.setIfInBounds (Array.setIfInBounds (Array.setIfInBounds (Array.setIfInBounds (Array.setIfInBounds (#[.int .i64 kind, .int .i64 frm, .int .i64 tto, .int .u64 mine, .int .u64 yours, .int .u64 fa, .int .u64 fb, .int .i64 inode, .int .u64 iseq, .int .i64 ioff, .int .i64 bnode, .int .u64 bseq, .int .i64 boff, .int .i64 dest, .int .i64 prio, .int .i64 born, .int .i64 life, .int .i64 total, .string data] : Array Value) 10 (.int .i64 0)) 11 (.int .u64 0)) 12 (.int .i64 0)) 13 (.int .i64 0)) 14 (.int .i64 0)) 15 (.int .i64 0)) 16 (.int .i64 0)) 17 (.int .i64 0)) 18 (.string ⟨#[]⟩)) = #[.int .i64 kind, .int .i64 frm, .int .i64 tto, .int .u64 mine, .int .u64 yours, .int .u64 fa, .int .u64 fb, .int .i64 inode, .int .u64 iseq, .int .i64 ioff, .int .i64 0, .int .u64 0, .int .i64 0, .int .i64 0, .int .i64 0, .int .i64 0, .int .i64 0, .int .i64 0, .string ⟨#[]⟩] by kernel_rfl] at k
    exact k
  have kz2 : Blk (((((((((W1.setCell ⟨g0, 10, none⟩ (.int .i64 0)).setCell ⟨g0, 11, none⟩ (.int .u64 0)).setCell ⟨g0, 12, none⟩ (.int .i64 0)).setCell ⟨g0, 13, none⟩ (.int .i64 0)).setCell ⟨g0, 14, none⟩ (.int .i64 0)).setCell ⟨g0, 15, none⟩ (.int .i64 0)).setCell ⟨g0, 16, none⟩ (.int .i64 0)).setCell ⟨g0, 17, none⟩ (.int .i64 0)).setCell ⟨g0, 18, none⟩ (.string ⟨#[]⟩)) g1 51 #[.int .i64 0, .int .i64 0, .int .i64 0, .int .u64 0, .int .u64 0, .int .u64 0, .int .u64 0, .int .i64 0, .int .u64 0, .int .i64 0, .int .i64 0, .int .u64 0, .int .i64 0, .int .i64 0, .int .i64 0, .int .i64 0, .int .i64 0, .int .i64 0, .string ⟨#[]⟩] := (((((((((kz.far (p := ⟨g0, 10, none⟩) NE.out (.int .i64 0)).far (p := ⟨g0, 11, none⟩) NE.out (.int .u64 0)).far (p := ⟨g0, 12, none⟩) NE.out (.int .i64 0)).far (p := ⟨g0, 13, none⟩) NE.out (.int .i64 0)).far (p := ⟨g0, 14, none⟩) NE.out (.int .i64 0)).far (p := ⟨g0, 15, none⟩) NE.out (.int .i64 0)).far (p := ⟨g0, 16, none⟩) NE.out (.int .i64 0)).far (p := ⟨g0, 17, none⟩) NE.out (.int .i64 0)).far (p := ⟨g0, 18, none⟩) NE.out (.string ⟨#[]⟩))
  have hB2 := (((((((((hB.setCell (p := ⟨g0, 10, none⟩) (by show _ ≤ g0; rw [← HG.out]; exact Nat.le_refl _) (.int .i64 0)).setCell (p := ⟨g0, 11, none⟩) (by show _ ≤ g0; rw [← HG.out]; exact Nat.le_refl _) (.int .u64 0)).setCell (p := ⟨g0, 12, none⟩) (by show _ ≤ g0; rw [← HG.out]; exact Nat.le_refl _) (.int .i64 0)).setCell (p := ⟨g0, 13, none⟩) (by show _ ≤ g0; rw [← HG.out]; exact Nat.le_refl _) (.int .i64 0)).setCell (p := ⟨g0, 14, none⟩) (by show _ ≤ g0; rw [← HG.out]; exact Nat.le_refl _) (.int .i64 0)).setCell (p := ⟨g0, 15, none⟩) (by show _ ≤ g0; rw [← HG.out]; exact Nat.le_refl _) (.int .i64 0)).setCell (p := ⟨g0, 16, none⟩) (by show _ ≤ g0; rw [← HG.out]; exact Nat.le_refl _) (.int .i64 0)).setCell (p := ⟨g0, 17, none⟩) (by show _ ≤ g0; rw [← HG.out]; exact Nat.le_refl _) (.int .i64 0)).setCell (p := ⟨g0, 18, none⟩) (by show _ ≤ g0; rw [← HG.out]; exact Nat.le_refl _) (.string ⟨#[]⟩))
  clear y0 y1 y2 y3 y4 y5 y6 y7 y8 y9 y10 y11 y12 y13 y14 y15 y16 y17 y18 f0 f1 f2 f3 f4 f5 f6 f7 f8 f9 f10 f11 f12 f13 f14 f15 f16 f17 f18 hl0
  generalize (((((((((W1.setCell ⟨g0, 10, none⟩ (.int .i64 0)).setCell ⟨g0, 11, none⟩ (.int .u64 0)).setCell ⟨g0, 12, none⟩ (.int .i64 0)).setCell ⟨g0, 13, none⟩ (.int .i64 0)).setCell ⟨g0, 14, none⟩ (.int .i64 0)).setCell ⟨g0, 15, none⟩ (.int .i64 0)).setCell ⟨g0, 16, none⟩ (.int .i64 0)).setCell ⟨g0, 17, none⟩ (.int .i64 0)).setCell ⟨g0, 18, none⟩ (.string ⟨#[]⟩)) = W2 at kf kz2 hB2 ⊢
  go_wp2_with (first | (refine wpList_load_row (by rfl) 51 _ (by rfl) g0 (by rfl) 51 #[.int .i64 kind, .int .i64 frm, .int .i64 tto, .int .u64 mine, .int .u64 yours, .int .u64 fa, .int .u64 fb, .int .i64 inode, .int .u64 iseq, .int .i64 ioff, .int .i64 0, .int .u64 0, .int .i64 0, .int .i64 0, .int .i64 0, .int .i64 0, .int .i64 0, .int .i64 0, .string ⟨#[]⟩] (0, 0) _ kf Try.underlying51 (by rfl) (by kernel_rfl) ?_) | (refine wpList_store_mid (by rfl) 51 _ _ (by rfl) g1 0 #[.int .i64 kind, .int .i64 frm, .int .i64 tto, .int .u64 mine, .int .u64 yours, .int .u64 fa, .int .u64 fb, .int .i64 inode, .int .u64 iseq, .int .i64 ioff, .int .i64 0, .int .u64 0, .int .i64 0, .int .i64 0, .int .i64 0, .int .i64 0, .int .i64 0, .int .i64 0, .string ⟨#[]⟩] (by rfl) (by rfl) (Blk.there kz2 0 _ (Nat.le_refl 19)) (by kernel_rfl) (one19 ..) ?_))
  refine bodyPost_ret (results_cell_row rfl _ _ g1 51 #[.int .i64 kind, .int .i64 frm, .int .i64 tto, .int .u64 mine, .int .u64 yours, .int .u64 fa, .int .u64 fb, .int .i64 inode, .int .u64 iseq, .int .i64 ioff, .int .i64 0, .int .u64 0, .int .i64 0, .int .i64 0, .int .i64 0, .int .i64 0, .int .i64 0, .int .i64 0, .string ⟨#[]⟩] (0, 0) _ rfl (kz2.setAll rfl) Try.underlying51 (by rfl) (by kernel_rfl)) rfl ?_
  exact ⟨rfl, below_setCells HG1.out _ _ hB2⟩

end Go.Proofs.Ytfgkkflbpfocjaa

