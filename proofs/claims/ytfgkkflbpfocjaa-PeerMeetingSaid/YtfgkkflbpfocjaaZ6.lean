/- Frames checked (the program): no such kind; numbers out of range. Frames checked (the program): A or B too great. Three blocks: cells set in the last one. Frames checked (the program): the rest. Frames checked (the program): joined. A frame met (the program), whole. Arguments: a peer, a frame. -/
import Derived.Test.YtfgkkflbpfocjaaZ4
import Derived.Test.YtfgkkflbpfocjaaZ5
import Derived.Test.YtfgkkflbpfocjaaZ3
import Derived.Test.YtfgkkflbpfocjaaZ1
import Derived.Lib.SmallJoins
import Derived.Deep.Strs
namespace Go.Proofs.Ytfgkkflbpfocjaa
open Go.RowKit
set_option linter.unusedVariables false
set_option linter.unusedSimpArgs false

set_option maxRecDepth 100000 in
set_option maxHeartbeats 16000000 in
theorem fc_no (kind frm tto mine yours a b inode iseq ioff node seq off dest prio born life total : Int) (data : ByteArray) (ba bb bn bi ok : Bool) (w : World) (U2 : ∀ w, Calls Try.prog 88 #[.int .i64 kind] w (fun e w' => e = .returned (.tuple #[.agg #[.bool ba, .bool bb, .bool bn, .bool bi], .bool ok]) ∧ Below w.heap.size w w')) (hok : ok = false) :
    Calls Try.prog 53 #[.agg #[.int .i64 kind, .int .i64 frm, .int .i64 tto, .int .u64 mine, .int .u64 yours, .int .u64 a, .int .u64 b, .int .i64 inode, .int .u64 iseq, .int .i64 ioff, .int .i64 node, .int .u64 seq, .int .i64 off, .int .i64 dest, .int .i64 prio, .int .i64 born, .int .i64 life, .int .i64 total, .string data]] w (RetI .i64 7 w) := by
  subst hok
  have hud : ∀ bx : Bool, (undef = Value.bool bx) = False := fun bx => eq_false (fun h => by cases h)
  have U2' := Lib.hid U2
  clear U2
  go_enter Try.func53, Try.ntmps53
  go_wp2_with fail
  have k0 := Blk.new w 51 #[.int .i64 kind, .int .i64 frm, .int .i64 tto, .int .u64 mine, .int .u64 yours, .int .u64 a, .int .u64 b, .int .i64 inode, .int .u64 iseq, .int .i64 ioff, .int .i64 node, .int .u64 seq, .int .i64 off, .int .i64 dest, .int .i64 prio, .int .i64 born, .int .i64 life, .int .i64 total, .string data]
  have hB := bal (Below.refl w.heap.size w) (.cells #[.int .i64 kind, .int .i64 frm, .int .i64 tto, .int .u64 mine, .int .u64 yours, .int .u64 a, .int .u64 b, .int .i64 inode, .int .u64 iseq, .int .i64 ioff, .int .i64 node, .int .u64 seq, .int .i64 off, .int .i64 dest, .int .i64 prio, .int .i64 born, .int .i64 life, .int .i64 total, .string data] 51)
  refine (U2'.out _).mono ?_
  rintro e w1 ⟨rfl, hb1⟩
  have kk : BK w w.heap.size 51 #[.int .i64 kind, .int .i64 frm, .int .i64 tto, .int .u64 mine, .int .u64 yours, .int .u64 a, .int .u64 b, .int .i64 inode, .int .u64 iseq, .int .i64 ioff, .int .i64 node, .int .u64 seq, .int .i64 off, .int .i64 dest, .int .i64 prio, .int .i64 born, .int .i64 life, .int .i64 total, .string data] w1 := ⟨k0.below hb1, bnext hB hb1⟩
  clear k0 hB hb1 U2'
  obtain ⟨g0, hg0⟩ : ∃ g0, w.heap.size = g0 := ⟨_, rfl⟩
  rw [hg0] at kk ⊢
  have HG0 := Lib.hid hg0
  clear hg0
  have x0 : w1.cell? ⟨g0, 0, none⟩ = some (.int .i64 kind) := kk.b.cell 0
  have hl0 := kk.b.lt
  have K1 := Lib.hid kk
  clear kk
  go_wp2_with fail
  go_ret
  exact ⟨rfl, by have := bal K1.out.hB (.cells #[.bool ba, .bool bb, .bool bn, .bool bi] 131); exact this⟩

set_option maxRecDepth 100000 in
set_option maxHeartbeats 16000000 in
theorem fc_out (kind frm tto mine yours a b inode iseq ioff node seq off dest prio born life total : Int) (data : ByteArray) (ba bb bn bi ok : Bool) (lo hi : Int) (w : World) (U2 : ∀ w, Calls Try.prog 88 #[.int .i64 kind] w (fun e w' => e = .returned (.tuple #[.agg #[.bool ba, .bool bb, .bool bn, .bool bi], .bool ok]) ∧ Below w.heap.size w w')) (LL : ∀ w, Calls Try.prog 89 #[.agg #[.int .i64 kind, .int .i64 frm, .int .i64 tto, .int .u64 mine, .int .u64 yours, .int .u64 a, .int .u64 b, .int .i64 inode, .int .u64 iseq, .int .i64 ioff, .int .i64 node, .int .u64 seq, .int .i64 off, .int .i64 dest, .int .i64 prio, .int .i64 born, .int .i64 life, .int .i64 total, .string data]] w (Ret2 .u64 .u64 lo hi w)) (hok : ok = true) (ho : (frm < 1 ∨ 16 < frm ∨ tto < 1 ∨ 16 < tto ∨ tto = frm ∨ mine < 1 ∨ 1099511627776 < mine ∨ 1099511627776 < yours)) :
    Calls Try.prog 53 #[.agg #[.int .i64 kind, .int .i64 frm, .int .i64 tto, .int .u64 mine, .int .u64 yours, .int .u64 a, .int .u64 b, .int .i64 inode, .int .u64 iseq, .int .i64 ioff, .int .i64 node, .int .u64 seq, .int .i64 off, .int .i64 dest, .int .i64 prio, .int .i64 born, .int .i64 life, .int .i64 total, .string data]] w (RetI .i64 2 w) := by
  subst hok
  have HO := Lib.hid ho
  have LL' := Lib.hid LL
  clear ho LL
  have hud : ∀ bx : Bool, (undef = Value.bool bx) = False := fun bx => eq_false (fun h => by cases h)
  have U2' := Lib.hid U2
  clear U2
  go_enter Try.func53, Try.ntmps53
  go_wp2_with fail
  have k0 := Blk.new w 51 #[.int .i64 kind, .int .i64 frm, .int .i64 tto, .int .u64 mine, .int .u64 yours, .int .u64 a, .int .u64 b, .int .i64 inode, .int .u64 iseq, .int .i64 ioff, .int .i64 node, .int .u64 seq, .int .i64 off, .int .i64 dest, .int .i64 prio, .int .i64 born, .int .i64 life, .int .i64 total, .string data]
  have hB := bal (Below.refl w.heap.size w) (.cells #[.int .i64 kind, .int .i64 frm, .int .i64 tto, .int .u64 mine, .int .u64 yours, .int .u64 a, .int .u64 b, .int .i64 inode, .int .u64 iseq, .int .i64 ioff, .int .i64 node, .int .u64 seq, .int .i64 off, .int .i64 dest, .int .i64 prio, .int .i64 born, .int .i64 life, .int .i64 total, .string data] 51)
  refine (U2'.out _).mono ?_
  rintro e w1 ⟨rfl, hb1⟩
  have kk : BK w w.heap.size 51 #[.int .i64 kind, .int .i64 frm, .int .i64 tto, .int .u64 mine, .int .u64 yours, .int .u64 a, .int .u64 b, .int .i64 inode, .int .u64 iseq, .int .i64 ioff, .int .i64 node, .int .u64 seq, .int .i64 off, .int .i64 dest, .int .i64 prio, .int .i64 born, .int .i64 life, .int .i64 total, .string data] w1 := ⟨k0.below hb1, bnext hB hb1⟩
  clear k0 hB hb1 U2'
  obtain ⟨g0, hg0⟩ : ∃ g0, w.heap.size = g0 := ⟨_, rfl⟩
  rw [hg0] at kk ⊢
  have HG0 := Lib.hid hg0
  clear hg0
  have x0 : w1.cell? ⟨g0, 0, none⟩ = some (.int .i64 kind) := kk.b.cell 0
  have hl0 := kk.b.lt
  have K1 := Lib.hid kk
  clear kk
  have kA := K1.out.b.alloc (.cells #[.bool ba, .bool bb, .bool bn, .bool bi] 131)
  clear x0
  go_wp2_with (refine wpList_load_row (by rfl) 51 _ (by rfl) g0 (by rfl) 51 #[.int .i64 kind, .int .i64 frm, .int .i64 tto, .int .u64 mine, .int .u64 yours, .int .u64 a, .int .u64 b, .int .i64 inode, .int .u64 iseq, .int .i64 ioff, .int .i64 node, .int .u64 seq, .int .i64 off, .int .i64 dest, .int .i64 prio, .int .i64 born, .int .i64 life, .int .i64 total, .string data] (0, 0) _ kA Try.underlying51 (by rfl) (by kernel_rfl) ?_)
  have kU := Blk.new w1 131 #[.bool ba, .bool bb, .bool bn, .bool bi]
  have hBU := bal K1.out.hB (.cells #[.bool ba, .bool bb, .bool bn, .bool bi] 131)
  refine (LL'.out _).mono ?_
  rintro e w2 ⟨rfl, hb2⟩
  obtain ⟨g3, hg3⟩ : ∃ g3, w1.heap.size = g3 := ⟨_, rfl⟩
  rw [hg3] at kU ⊢
  have kk : BK2 w g0 51 #[.int .i64 kind, .int .i64 frm, .int .i64 tto, .int .u64 mine, .int .u64 yours, .int .u64 a, .int .u64 b, .int .i64 inode, .int .u64 iseq, .int .i64 ioff, .int .i64 node, .int .u64 seq, .int .i64 off, .int .i64 dest, .int .i64 prio, .int .i64 born, .int .i64 life, .int .i64 total, .string data] g3 131 #[.bool ba, .bool bb, .bool bn, .bool bi] w2 := ⟨kA.below hb2, kU.below hb2, bnext hBU hb2⟩
  clear kA kU hBU hb2 LL' hl0 K1 hg3
  obtain ⟨_, x1, x2, x3, x4, x5, x6, _, _, _, _, _, _, _, _, _, _, _, _⟩ := kk.b.c19
  obtain ⟨y0, y1, _, _⟩ := kk.c.c4
  have hl0 := kk.b.lt
  have hl1 := kk.c.lt
  have K2 := Lib.hid kk
  clear kk
  by_cases q0 : frm < 1
  case pos =>
    skip
    go_wp2_with fail
    go_ret
    exact ⟨rfl, K2.out.hB⟩
  by_cases q1 : frm > 16
  case pos =>
    skip
    go_wp2_with fail
    go_ret
    exact ⟨rfl, K2.out.hB⟩
  by_cases q2 : tto < 1
  case pos =>
    skip
    go_wp2_with fail
    go_ret
    exact ⟨rfl, K2.out.hB⟩
  by_cases q3 : tto > 16
  case pos =>
    skip
    go_wp2_with fail
    go_ret
    exact ⟨rfl, K2.out.hB⟩
  by_cases q4 : tto = frm
  case pos =>
    have qb4 : (tto == frm) = true := by simp [q4]
    have Q4 := Lib.hid q4
    clear q4
    go_wp2_with fail
    go_ret
    exact ⟨rfl, K2.out.hB⟩
  have qb4 : (tto == frm) = false := beq_eq_false_iff_ne.2 q4
  have Q4 := Lib.hid q4
  clear q4
  by_cases q5 : mine < 1
  case pos =>
    skip
    go_wp2_with fail
    go_ret
    exact ⟨rfl, K2.out.hB⟩
  by_cases q6 : mine > 1099511627776
  case pos =>
    skip
    go_wp2_with fail
    go_ret
    exact ⟨rfl, K2.out.hB⟩
  by_cases q7 : yours > 1099511627776
  case pos =>
    skip
    go_wp2_with fail
    go_ret
    exact ⟨rfl, K2.out.hB⟩
  exact absurd HO.out (by have := Q4.out; omega)
end Go.Proofs.Ytfgkkflbpfocjaa

namespace Go.Proofs.Ytfgkkflbpfocjaa
open Go.RowKit
set_option linter.unusedVariables false
set_option linter.unusedSimpArgs false

set_option maxRecDepth 100000 in
set_option maxHeartbeats 16000000 in
theorem fc_big (kind frm tto mine yours a b inode iseq ioff node seq off dest prio born life total : Int) (data : ByteArray) (ba bb bn bi ok : Bool) (lo hi : Int) (w : World) (U2 : ∀ w, Calls Try.prog 88 #[.int .i64 kind] w (fun e w' => e = .returned (.tuple #[.agg #[.bool ba, .bool bb, .bool bn, .bool bi], .bool ok]) ∧ Below w.heap.size w w')) (LL : ∀ w, Calls Try.prog 89 #[.agg #[.int .i64 kind, .int .i64 frm, .int .i64 tto, .int .u64 mine, .int .u64 yours, .int .u64 a, .int .u64 b, .int .i64 inode, .int .u64 iseq, .int .i64 ioff, .int .i64 node, .int .u64 seq, .int .i64 off, .int .i64 dest, .int .i64 prio, .int .i64 born, .int .i64 life, .int .i64 total, .string data]] w (Ret2 .u64 .u64 lo hi w)) (hok : ok = true) (hin : 1 ≤ frm ∧ frm ≤ 16 ∧ 1 ≤ tto ∧ tto ≤ 16 ∧ tto ≠ frm ∧ 1 ≤ mine ∧ mine ≤ 1099511627776 ∧ yours ≤ 1099511627776) (ho : ((ba = true ∧ 1125899906842624 < a) ∨ (bb = true ∧ (b < lo ∨ hi < b)))) :
    Calls Try.prog 53 #[.agg #[.int .i64 kind, .int .i64 frm, .int .i64 tto, .int .u64 mine, .int .u64 yours, .int .u64 a, .int .u64 b, .int .i64 inode, .int .u64 iseq, .int .i64 ioff, .int .i64 node, .int .u64 seq, .int .i64 off, .int .i64 dest, .int .i64 prio, .int .i64 born, .int .i64 life, .int .i64 total, .string data]] w (RetI .i64 2 w) := by
  subst hok
  have HO := Lib.hid ho
  have LL' := Lib.hid LL
  obtain ⟨i0, i1, i2, i3, i4, i5, i6, i7⟩ := hin
  have q0 : ¬ frm < 1 := by omega
  have q1 : ¬ frm > 16 := by omega
  have q2 : ¬ tto < 1 := by omega
  have q3 : ¬ tto > 16 := by omega
  have qb4 : (tto == frm) = false := beq_eq_false_iff_ne.2 i4
  have q5 : ¬ mine < 1 := by omega
  have q6 : ¬ mine > 1099511627776 := by omega
  have q7 : ¬ yours > 1099511627776 := by omega
  clear i0 i1 i2 i3 i4 i5 i6 i7
  clear ho LL
  have hud : ∀ bx : Bool, (undef = Value.bool bx) = False := fun bx => eq_false (fun h => by cases h)
  have U2' := Lib.hid U2
  clear U2
  go_enter Try.func53, Try.ntmps53
  go_wp2_with fail
  have k0 := Blk.new w 51 #[.int .i64 kind, .int .i64 frm, .int .i64 tto, .int .u64 mine, .int .u64 yours, .int .u64 a, .int .u64 b, .int .i64 inode, .int .u64 iseq, .int .i64 ioff, .int .i64 node, .int .u64 seq, .int .i64 off, .int .i64 dest, .int .i64 prio, .int .i64 born, .int .i64 life, .int .i64 total, .string data]
  have hB := bal (Below.refl w.heap.size w) (.cells #[.int .i64 kind, .int .i64 frm, .int .i64 tto, .int .u64 mine, .int .u64 yours, .int .u64 a, .int .u64 b, .int .i64 inode, .int .u64 iseq, .int .i64 ioff, .int .i64 node, .int .u64 seq, .int .i64 off, .int .i64 dest, .int .i64 prio, .int .i64 born, .int .i64 life, .int .i64 total, .string data] 51)
  refine (U2'.out _).mono ?_
  rintro e w1 ⟨rfl, hb1⟩
  have kk : BK w w.heap.size 51 #[.int .i64 kind, .int .i64 frm, .int .i64 tto, .int .u64 mine, .int .u64 yours, .int .u64 a, .int .u64 b, .int .i64 inode, .int .u64 iseq, .int .i64 ioff, .int .i64 node, .int .u64 seq, .int .i64 off, .int .i64 dest, .int .i64 prio, .int .i64 born, .int .i64 life, .int .i64 total, .string data] w1 := ⟨k0.below hb1, bnext hB hb1⟩
  clear k0 hB hb1 U2'
  obtain ⟨g0, hg0⟩ : ∃ g0, w.heap.size = g0 := ⟨_, rfl⟩
  rw [hg0] at kk ⊢
  have HG0 := Lib.hid hg0
  clear hg0
  have x0 : w1.cell? ⟨g0, 0, none⟩ = some (.int .i64 kind) := kk.b.cell 0
  have hl0 := kk.b.lt
  have K1 := Lib.hid kk
  clear kk
  have kA := K1.out.b.alloc (.cells #[.bool ba, .bool bb, .bool bn, .bool bi] 131)
  clear x0
  go_wp2_with (refine wpList_load_row (by rfl) 51 _ (by rfl) g0 (by rfl) 51 #[.int .i64 kind, .int .i64 frm, .int .i64 tto, .int .u64 mine, .int .u64 yours, .int .u64 a, .int .u64 b, .int .i64 inode, .int .u64 iseq, .int .i64 ioff, .int .i64 node, .int .u64 seq, .int .i64 off, .int .i64 dest, .int .i64 prio, .int .i64 born, .int .i64 life, .int .i64 total, .string data] (0, 0) _ kA Try.underlying51 (by rfl) (by kernel_rfl) ?_)
  have kU := Blk.new w1 131 #[.bool ba, .bool bb, .bool bn, .bool bi]
  have hBU := bal K1.out.hB (.cells #[.bool ba, .bool bb, .bool bn, .bool bi] 131)
  refine (LL'.out _).mono ?_
  rintro e w2 ⟨rfl, hb2⟩
  obtain ⟨g3, hg3⟩ : ∃ g3, w1.heap.size = g3 := ⟨_, rfl⟩
  rw [hg3] at kU ⊢
  have kk : BK2 w g0 51 #[.int .i64 kind, .int .i64 frm, .int .i64 tto, .int .u64 mine, .int .u64 yours, .int .u64 a, .int .u64 b, .int .i64 inode, .int .u64 iseq, .int .i64 ioff, .int .i64 node, .int .u64 seq, .int .i64 off, .int .i64 dest, .int .i64 prio, .int .i64 born, .int .i64 life, .int .i64 total, .string data] g3 131 #[.bool ba, .bool bb, .bool bn, .bool bi] w2 := ⟨kA.below hb2, kU.below hb2, bnext hBU hb2⟩
  clear kA kU hBU hb2 LL' hl0 K1 hg3
  obtain ⟨_, x1, x2, x3, x4, x5, x6, _, _, _, _, _, _, _, _, _, _, _, _⟩ := kk.b.c19
  obtain ⟨y0, y1, _, _⟩ := kk.c.c4
  have hl0 := kk.b.lt
  have hl1 := kk.c.lt
  have K2 := Lib.hid kk
  clear kk
  cases ba with
  | true =>
    by_cases qa : a > 1125899906842624
    · go_wp2_with fail
      go_ret
      exact ⟨rfl, K2.out.hB⟩
    · cases bb with
      | true =>
        by_cases qb : b < lo
        · go_wp2_with fail
          go_ret
          exact ⟨rfl, K2.out.hB⟩
        · have qc : b > hi := HO.out.elim (fun h => absurd h.2 qa) (fun h => h.2.elim (fun h => absurd h qb) id)
          go_wp2_with fail
          go_ret
          exact ⟨rfl, K2.out.hB⟩
      | false => exact HO.out.elim (fun h => absurd h.2 qa) (fun h => by cases h.1)
  | false =>
    cases bb with
    | true =>
      by_cases qb : b < lo
      · go_wp2_with fail
        go_ret
        exact ⟨rfl, K2.out.hB⟩
      · have qc : b > hi := HO.out.elim (fun h => by cases h.1) (fun h => h.2.elim (fun h => absurd h qb) id)
        go_wp2_with fail
        go_ret
        exact ⟨rfl, K2.out.hB⟩
    | false => exact HO.out.elim (fun h => by cases h.1) (fun h => by cases h.1)
end Go.Proofs.Ytfgkkflbpfocjaa

namespace Go.Proofs.Ytfgkkflbpfocjaa
open Go.RowKit
set_option linter.unusedVariables false

theorem set19a (c0 c1 c2 c3 c4 c5 c6 c7 c8 c9 c10 c11 c12 c13 c14 c15 c16 c17 c18 a b c : Value) : ((#[c0, c1, c2, c3, c4, c5, c6, c7, c8, c9, c10, c11, c12, c13, c14, c15, c16, c17, c18].setIfInBounds 7 a).setIfInBounds 8 b).setIfInBounds 9 c = #[c0, c1, c2, c3, c4, c5, c6, a, b, c, c10, c11, c12, c13, c14, c15, c16, c17, c18] := rfl
theorem set19b (c0 c1 c2 c3 c4 c5 c6 c7 c8 c9 c10 c11 c12 c13 c14 c15 c16 c17 c18 d0 d1 d2 d3 d4 d5 d6 d7 d8 : Value) : ((((((((#[c0, c1, c2, c3, c4, c5, c6, c7, c8, c9, c10, c11, c12, c13, c14, c15, c16, c17, c18].setIfInBounds 10 d0).setIfInBounds 11 d1).setIfInBounds 12 d2).setIfInBounds 13 d3).setIfInBounds 14 d4).setIfInBounds 15 d5).setIfInBounds 16 d6).setIfInBounds 17 d7).setIfInBounds 18 d8 = #[c0, c1, c2, c3, c4, c5, c6, c7, c8, c9, d0, d1, d2, d3, d4, d5, d6, d7, d8] := by kernel_rfl

variable {w wx : World} {g g' g'' : Nat} {t t' t'' : TypeId} {cs cs' cs'' : Array Value} {c0 c1 c2 c3 c4 c5 c6 c7 c8 c9 c10 c11 c12 c13 c14 c15 c16 c17 c18 : Value}
theorem BK3.set (h : BK3 w g t cs g' t' cs' g'' t'' cs'' wx) (i : Nat) (u : Value) (hg : ¬ g = g'') (hg' : ¬ g' = g'') (hw : w.heap.size ≤ g'') : BK3 w g t cs g' t' cs' g'' t'' (cs''.setIfInBounds i u) (wx.setCell ⟨g'', i, none⟩ u) :=
  ⟨h.b.far (p := ⟨g'', i, none⟩) hg u, h.c.far (p := ⟨g'', i, none⟩) hg' u, h.d.set i u, h.hB.setCell (p := ⟨g'', i, none⟩) hw u⟩
theorem BK3.set9 (h : BK3 w g t cs g' t' cs' g'' t'' #[c0, c1, c2, c3, c4, c5, c6, c7, c8, c9, c10, c11, c12, c13, c14, c15, c16, c17, c18] wx) (d0 d1 d2 d3 d4 d5 d6 d7 d8 : Value) (hg : ¬ g = g'') (hg' : ¬ g' = g'') (hw : w.heap.size ≤ g'') : BK3 w g t cs g' t' cs' g'' t'' #[c0, c1, c2, c3, c4, c5, c6, c7, c8, c9, d0, d1, d2, d3, d4, d5, d6, d7, d8] (((((((((wx.setCell ⟨g'', 10, none⟩ d0).setCell ⟨g'', 11, none⟩ d1).setCell ⟨g'', 12, none⟩ d2).setCell ⟨g'', 13, none⟩ d3).setCell ⟨g'', 14, none⟩ d4).setCell ⟨g'', 15, none⟩ d5).setCell ⟨g'', 16, none⟩ d6).setCell ⟨g'', 17, none⟩ d7).setCell ⟨g'', 18, none⟩ d8) := by
  have k := ((((((((h.set 10 d0 hg hg' hw).set 11 d1 hg hg' hw).set 12 d2 hg hg' hw).set 13 d3 hg hg' hw).set 14 d4 hg hg' hw).set 15 d5 hg hg' hw).set 16 d6 hg hg' hw).set 17 d7 hg hg' hw).set 18 d8 hg hg' hw
  rw [set19b] at k
  exact k
theorem BK3.set3 (h : BK3 w g t cs g' t' cs' g'' t'' #[c0, c1, c2, c3, c4, c5, c6, c7, c8, c9, c10, c11, c12, c13, c14, c15, c16, c17, c18] wx) (d0 d1 d2 : Value) (hg : ¬ g = g'') (hg' : ¬ g' = g'') (hw : w.heap.size ≤ g'') : BK3 w g t cs g' t' cs' g'' t'' #[c0, c1, c2, c3, c4, c5, c6, d0, d1, d2, c10, c11, c12, c13, c14, c15, c16, c17, c18] (((wx.setCell ⟨g'', 7, none⟩ d0).setCell ⟨g'', 8, none⟩ d1).setCell ⟨g'', 9, none⟩ d2) := by
  have k := ((h.set 7 d0 hg hg' hw).set 8 d1 hg hg' hw).set 9 d2 hg hg' hw
  rw [set19a] at k
  exact k

end Go.Proofs.Ytfgkkflbpfocjaa

namespace Go.Proofs.Ytfgkkflbpfocjaa
open Go.RowKit
set_option linter.unusedVariables false
set_option linter.unusedSimpArgs false

set_option maxRecDepth 100000 in
set_option maxHeartbeats 16000000 in
theorem fc_rest (kind frm tto mine yours a b inode iseq ioff node seq off dest prio born life total : Int) (data : ByteArray) (ba bb bn bi ok : Bool) (lo hi be ie : Int) (w : World) (U2 : ∀ w, Calls Try.prog 88 #[.int .i64 kind] w (fun e w' => e = .returned (.tuple #[.agg #[.bool ba, .bool bb, .bool bn, .bool bi], .bool ok]) ∧ Below w.heap.size w w')) (LL : ∀ w, Calls Try.prog 89 #[.agg #[.int .i64 kind, .int .i64 frm, .int .i64 tto, .int .u64 mine, .int .u64 yours, .int .u64 a, .int .u64 b, .int .i64 inode, .int .u64 iseq, .int .i64 ioff, .int .i64 node, .int .u64 seq, .int .i64 off, .int .i64 dest, .int .i64 prio, .int .i64 born, .int .i64 life, .int .i64 total, .string data]] w (Ret2 .u64 .u64 lo hi w)) (CB : ∀ w, Calls Try.prog 90 #[.agg #[.int .i64 node, .int .u64 seq, .int .i64 off, .int .i64 dest, .int .i64 prio, .int .i64 born, .int .i64 life, .int .i64 total, .string data]] w (RetI .i64 be w)) (CI : ∀ w, Calls Try.prog 91 #[.agg #[.int .i64 inode, .int .u64 iseq, .int .i64 ioff]] w (RetI .i64 ie w)) (hok : ok = true) (hin : 1 ≤ frm ∧ frm ≤ 16 ∧ 1 ≤ tto ∧ tto ≤ 16 ∧ tto ≠ frm ∧ 1 ≤ mine ∧ mine ≤ 1099511627776 ∧ yours ≤ 1099511627776) (ho : ¬ ((ba = true ∧ 1125899906842624 < a) ∨ (bb = true ∧ (b < lo ∨ hi < b))))
    (A1 B1 I1 I2 I3 n0 n1 n2 n3 n4 n5 n6 n7 : Int) (ns : ByteArray) (hA : A1 = if ba = true then a else 0) (hBv : B1 = if bb = true then b else 0) (hI : (I1, I2, I3) = if bi = true then (inode, iseq, ioff) else (0, 0, 0)) (hN : (n0, n1, n2, n3, n4, n5, n6, n7, ns) = if bn = true then (node, seq, off, dest, prio, born, life, total, data) else (0, 0, 0, 0, 0, 0, 0, 0, ⟨#[]⟩))
    (fe : Int) (hfe : fe = if bn = true ∧ be ≠ 0 then be else if bi = true ∧ ie ≠ 0 then ie else if frEqB kind frm tto mine yours A1 B1 I1 I2 I3 n0 n1 n2 n3 n4 n5 n6 n7 ns kind frm tto mine yours a b inode iseq ioff node seq off dest prio born life total data = true then 0 else 3) :
    Calls Try.prog 53 #[.agg #[.int .i64 kind, .int .i64 frm, .int .i64 tto, .int .u64 mine, .int .u64 yours, .int .u64 a, .int .u64 b, .int .i64 inode, .int .u64 iseq, .int .i64 ioff, .int .i64 node, .int .u64 seq, .int .i64 off, .int .i64 dest, .int .i64 prio, .int .i64 born, .int .i64 life, .int .i64 total, .string data]] w (RetI .i64 fe w) := by
  subst hok
  have HO := Lib.hid ho
  have LL' := Lib.hid LL
  have CB' := Lib.hid CB
  have CI' := Lib.hid CI
  have HA := Lib.hid hA
  have HBv := Lib.hid hBv
  have HI := Lib.hid hI
  have HN := Lib.hid hN
  have FE := Lib.hid hfe
  obtain ⟨i0, i1, i2, i3, i4, i5, i6, i7⟩ := hin
  have q0 : ¬ frm < 1 := by omega
  have q1 : ¬ frm > 16 := by omega
  have q2 : ¬ tto < 1 := by omega
  have q3 : ¬ tto > 16 := by omega
  have qb4 : (tto == frm) = false := beq_eq_false_iff_ne.2 i4
  have q5 : ¬ mine < 1 := by omega
  have q6 : ¬ mine > 1099511627776 := by omega
  have q7 : ¬ yours > 1099511627776 := by omega
  clear i0 i1 i2 i3 i4 i5 i6 i7
  clear ho LL CB CI hA hBv hI hN hfe
  have hud : ∀ bx : Bool, (undef = Value.bool bx) = False := fun bx => eq_false (fun h => by cases h)
  have U2' := Lib.hid U2
  clear U2
  go_enter Try.func53, Try.ntmps53
  go_wp2_with fail
  have k0 := Blk.new w 51 #[.int .i64 kind, .int .i64 frm, .int .i64 tto, .int .u64 mine, .int .u64 yours, .int .u64 a, .int .u64 b, .int .i64 inode, .int .u64 iseq, .int .i64 ioff, .int .i64 node, .int .u64 seq, .int .i64 off, .int .i64 dest, .int .i64 prio, .int .i64 born, .int .i64 life, .int .i64 total, .string data]
  have hB := bal (Below.refl w.heap.size w) (.cells #[.int .i64 kind, .int .i64 frm, .int .i64 tto, .int .u64 mine, .int .u64 yours, .int .u64 a, .int .u64 b, .int .i64 inode, .int .u64 iseq, .int .i64 ioff, .int .i64 node, .int .u64 seq, .int .i64 off, .int .i64 dest, .int .i64 prio, .int .i64 born, .int .i64 life, .int .i64 total, .string data] 51)
  refine (U2'.out _).mono ?_
  rintro e w1 ⟨rfl, hb1⟩
  have kk : BK w w.heap.size 51 #[.int .i64 kind, .int .i64 frm, .int .i64 tto, .int .u64 mine, .int .u64 yours, .int .u64 a, .int .u64 b, .int .i64 inode, .int .u64 iseq, .int .i64 ioff, .int .i64 node, .int .u64 seq, .int .i64 off, .int .i64 dest, .int .i64 prio, .int .i64 born, .int .i64 life, .int .i64 total, .string data] w1 := ⟨k0.below hb1, bnext hB hb1⟩
  clear k0 hB hb1 U2'
  obtain ⟨g0, hg0⟩ : ∃ g0, w.heap.size = g0 := ⟨_, rfl⟩
  rw [hg0] at kk ⊢
  have HG0 := Lib.hid hg0
  clear hg0
  have x0 : w1.cell? ⟨g0, 0, none⟩ = some (.int .i64 kind) := kk.b.cell 0
  have hl0 := kk.b.lt
  have K1 := Lib.hid kk
  clear kk
  clear x0
  go_upto_region 4 with fail
  have kA := K1.out.b.alloc (.cells #[.bool ba, .bool bb, .bool bn, .bool bi] 131)
  have kU := Blk.new w1 131 #[.bool ba, .bool bb, .bool bn, .bool bi]
  have hBU := bal K1.out.hB (.cells #[.bool ba, .bool bb, .bool bn, .bool bi] 131)
  obtain ⟨g3, hg3⟩ : ∃ g3, w1.heap.size = g3 := ⟨_, rfl⟩
  rw [hg3] at kU ⊢
  have kk : BK2 w g0 51 #[.int .i64 kind, .int .i64 frm, .int .i64 tto, .int .u64 mine, .int .u64 yours, .int .u64 a, .int .u64 b, .int .i64 inode, .int .u64 iseq, .int .i64 ioff, .int .i64 node, .int .u64 seq, .int .i64 off, .int .i64 dest, .int .i64 prio, .int .i64 born, .int .i64 life, .int .i64 total, .string data] g3 131 #[.bool ba, .bool bb, .bool bn, .bool bi] (w1.alloc (.cells #[.bool ba, .bool bb, .bool bn, .bool bi] 131)) := ⟨kA, kU, hBU⟩
  clear kA kU hBU hl0 K1 hg3
  generalize w1.alloc (.cells #[.bool ba, .bool bb, .bool bn, .bool bi] 131) = w2 at kk ⊢
  have kfr := kk.b
  have K2 := Lib.hid kk
  clear kk
  go_wp2_with (refine wpList_load_row (by rfl) 51 _ (by rfl) g0 (by rfl) 51 #[.int .i64 kind, .int .i64 frm, .int .i64 tto, .int .u64 mine, .int .u64 yours, .int .u64 a, .int .u64 b, .int .i64 inode, .int .u64 iseq, .int .i64 ioff, .int .i64 node, .int .u64 seq, .int .i64 off, .int .i64 dest, .int .i64 prio, .int .i64 born, .int .i64 life, .int .i64 total, .string data] (0, 0) _ kfr Try.underlying51 (by rfl) (by kernel_rfl) ?_)
  refine (LL'.out _).mono ?_
  rintro e w3 ⟨rfl, hb2⟩
  have kk := K2.out.below hb2
  clear K2 hb2 kfr LL'
  have K2 := Lib.hid kk
  clear kk
  go_upto_region 5 with fail
  go_cut [87] (fun s wx => s = .bool false ∧ wx = w3)
  case first =>
    have kk := K2.out
    clear K2 CB' CI' FE
    obtain ⟨_, x1, x2, x3, x4, x5, x6, _, _, _, _, _, _, _, _, _, _, _, _⟩ := kk.b.c19
    obtain ⟨y0, y1, _, _⟩ := kk.c.c4
    have K2 := Lib.hid kk
    clear kk
    cases ba with
    | true =>
      have qa : ¬ a > 1125899906842624 := fun h => HO.out (.inl ⟨rfl, h⟩)
      cases bb with
      | true =>
        have u1 : ¬ b < lo := fun h => HO.out (.inr ⟨rfl, .inl h⟩)
        have u2 : ¬ b > hi := fun h => HO.out (.inr ⟨rfl, .inr h⟩)
        go_wp2_with fail
        go_meet
        exact ⟨congrArg Value.bool (by simp only [Bool.or_eq_false_iff, decide_eq_false_iff_not]; omega), rfl⟩
      | false =>
        go_wp2_with fail
        go_meet
        exact ⟨congrArg Value.bool (by simp only [Bool.or_eq_false_iff, decide_eq_false_iff_not]; omega), rfl⟩
    | false =>
      cases bb with
      | true =>
        have u1 : ¬ b < lo := fun h => HO.out (.inr ⟨rfl, .inl h⟩)
        have u2 : ¬ b > hi := fun h => HO.out (.inr ⟨rfl, .inr h⟩)
        go_wp2_with fail
        go_meet
        exact ⟨congrArg Value.bool (by simp only [Bool.or_eq_false_iff, decide_eq_false_iff_not]; omega), rfl⟩
      | false =>
        go_wp2_with fail
        go_meet
        exact ⟨congrArg Value.bool (by simp only [Bool.or_eq_false_iff, decide_eq_false_iff_not]; omega), rfl⟩
  case rest =>
  obtain ⟨rfl, rfl⟩ := hcut
  have kk := K2.out
  clear K2 HO q0 q1 q2 q3 q5 q6 q7
  obtain ⟨x0, x1, x2, x3, x4, _, _, _, _, _, _, _, _, _, _, _, _, _, _⟩ := kk.b.c19
  obtain ⟨y0, _, _, _⟩ := kk.c.c4
  have hl0 := kk.b.lt
  have hl1 := kk.c.lt
  go_upto_if 100 with (first | (refine wpList_alloc_z (by rfl) 51 (by rfl) _ rfl _ zeroFr ?_) | (refine wpList_buildTo (by rfl) 51 _ (by rfl) _ rfl #[.int .i64 kind, .int .i64 frm, .int .i64 tto, .int .u64 mine, .int .u64 yours, .int .u64 0, .int .u64 0, .int .i64 0, .int .u64 0, .int .i64 0, .int .i64 0, .int .u64 0, .int .i64 0, .int .i64 0, .int .i64 0, .int .i64 0, .int .i64 0, .int .i64 0, .string ⟨#[]⟩] (by kernel_rfl) ?_) | (refine wpList_store_new (by rfl) 51 _ _ (by rfl) wc #[.int .i64 0, .int .i64 0, .int .i64 0, .int .u64 0, .int .u64 0, .int .u64 0, .int .u64 0, .int .i64 0, .int .u64 0, .int .i64 0, .int .i64 0, .int .u64 0, .int .i64 0, .int .i64 0, .int .i64 0, .int .i64 0, .int .i64 0, .int .i64 0, .string ⟨#[]⟩] #[.int .i64 kind, .int .i64 frm, .int .i64 tto, .int .u64 mine, .int .u64 yours, .int .u64 0, .int .u64 0, .int .i64 0, .int .u64 0, .int .i64 0, .int .i64 0, .int .u64 0, .int .i64 0, .int .i64 0, .int .i64 0, .int .i64 0, .int .i64 0, .int .i64 0, .string ⟨#[]⟩] (by kernel_rfl) (by kernel_rfl) (by kernel_rfl) (by kernel_rfl) (by kernel_rfl) (by kernel_rfl) ?_))
  have kz := Blk.new wc 51 #[.int .i64 kind, .int .i64 frm, .int .i64 tto, .int .u64 mine, .int .u64 yours, .int .u64 0, .int .u64 0, .int .i64 0, .int .u64 0, .int .i64 0, .int .i64 0, .int .u64 0, .int .i64 0, .int .i64 0, .int .i64 0, .int .i64 0, .int .i64 0, .int .i64 0, .string ⟨#[]⟩]
  have kb := kk.b.alloc (.cells #[.int .i64 kind, .int .i64 frm, .int .i64 tto, .int .u64 mine, .int .u64 yours, .int .u64 0, .int .u64 0, .int .i64 0, .int .u64 0, .int .i64 0, .int .i64 0, .int .u64 0, .int .i64 0, .int .i64 0, .int .i64 0, .int .i64 0, .int .i64 0, .int .i64 0, .string ⟨#[]⟩] 51)
  have kc := kk.c.alloc (.cells #[.int .i64 kind, .int .i64 frm, .int .i64 tto, .int .u64 mine, .int .u64 yours, .int .u64 0, .int .u64 0, .int .i64 0, .int .u64 0, .int .i64 0, .int .i64 0, .int .u64 0, .int .i64 0, .int .i64 0, .int .i64 0, .int .i64 0, .int .i64 0, .int .i64 0, .string ⟨#[]⟩] 51)
  have hB := bal kk.hB (.cells #[.int .i64 kind, .int .i64 frm, .int .i64 tto, .int .u64 mine, .int .u64 yours, .int .u64 0, .int .u64 0, .int .i64 0, .int .u64 0, .int .i64 0, .int .i64 0, .int .u64 0, .int .i64 0, .int .i64 0, .int .i64 0, .int .i64 0, .int .i64 0, .int .i64 0, .string ⟨#[]⟩] 51)
  obtain ⟨g7, hg7⟩ : ∃ g7, wc.heap.size = g7 := ⟨_, rfl⟩
  have hn0 : ¬ g0 = g7 := by omega
  have hn3 : ¬ g3 = g7 := by omega
  have h07 : g0 < g7 := by omega
  have hw7 : w.heap.size ≤ g7 := by have := HG0.out; omega
  rw [hg7] at kz ⊢
  have k3 : BK3 w g0 51 #[.int .i64 kind, .int .i64 frm, .int .i64 tto, .int .u64 mine, .int .u64 yours, .int .u64 a, .int .u64 b, .int .i64 inode, .int .u64 iseq, .int .i64 ioff, .int .i64 node, .int .u64 seq, .int .i64 off, .int .i64 dest, .int .i64 prio, .int .i64 born, .int .i64 life, .int .i64 total, .string data] g3 131 #[.bool ba, .bool bb, .bool bn, .bool bi] g7 51 #[.int .i64 kind, .int .i64 frm, .int .i64 tto, .int .u64 mine, .int .u64 yours, .int .u64 0, .int .u64 0, .int .i64 0, .int .u64 0, .int .i64 0, .int .i64 0, .int .u64 0, .int .i64 0, .int .i64 0, .int .i64 0, .int .i64 0, .int .i64 0, .int .i64 0, .string ⟨#[]⟩] (wc.alloc (.cells #[.int .i64 kind, .int .i64 frm, .int .i64 tto, .int .u64 mine, .int .u64 yours, .int .u64 0, .int .u64 0, .int .i64 0, .int .u64 0, .int .i64 0, .int .i64 0, .int .u64 0, .int .i64 0, .int .i64 0, .int .i64 0, .int .i64 0, .int .i64 0, .int .i64 0, .string ⟨#[]⟩] 51)) := ⟨kb, kc, kz, hB⟩
  clear kz kb kc hB kk hg7 x0 x1 x2 x3 x4 y0 hl0 hl1
  generalize wc.alloc (.cells #[.int .i64 kind, .int .i64 frm, .int .i64 tto, .int .u64 mine, .int .u64 yours, .int .u64 0, .int .u64 0, .int .i64 0, .int .u64 0, .int .i64 0, .int .i64 0, .int .u64 0, .int .i64 0, .int .i64 0, .int .i64 0, .int .i64 0, .int .i64 0, .int .i64 0, .string ⟨#[]⟩] 51) = v0 at k3 ⊢
  obtain ⟨_, _, _, _, _, x5, _, _, _, _, _, _, _, _, _, _, _, _, _⟩ := k3.b.c19
  obtain ⟨y0, y1, _, _⟩ := k3.c.c4
  obtain ⟨_, _, _, _, _, z5, _, _, _, _, _, _, _, _, _, _, _, _, _⟩ := k3.d.c19
  obtain ⟨_, _, _, _, _, f5, _, _, _, _, _, _, _, _, _, _, _, _, _⟩ := k3.d.f19
  have hl0 := k3.b.lt
  have hl1 := k3.c.lt
  have hl2 := k3.d.lt
  have K3 := Lib.hid k3
  clear k3
  go_cut [] (fun wx => BK3 w g0 51 #[.int .i64 kind, .int .i64 frm, .int .i64 tto, .int .u64 mine, .int .u64 yours, .int .u64 a, .int .u64 b, .int .i64 inode, .int .u64 iseq, .int .i64 ioff, .int .i64 node, .int .u64 seq, .int .i64 off, .int .i64 dest, .int .i64 prio, .int .i64 born, .int .i64 life, .int .i64 total, .string data] g3 131 #[.bool ba, .bool bb, .bool bn, .bool bi] g7 51 #[.int .i64 kind, .int .i64 frm, .int .i64 tto, .int .u64 mine, .int .u64 yours, .int .u64 A1, .int .u64 0, .int .i64 0, .int .u64 0, .int .i64 0, .int .i64 0, .int .u64 0, .int .i64 0, .int .i64 0, .int .i64 0, .int .i64 0, .int .i64 0, .int .i64 0, .string ⟨#[]⟩] wx)
  case first =>
    cases ba with
    | true =>
      obtain rfl : A1 = a := HA.out.trans (if_pos rfl)
      go_wp2_with fail
      go_meet
      exact ⟨(K3.out.b.far (p := ⟨g7, 5, none⟩) (by first | exact hn0 | exact hn3) (.int .u64 A1)), (K3.out.c.far (p := ⟨g7, 5, none⟩) (by first | exact hn0 | exact hn3) (.int .u64 A1)), (K3.out.d.set 5 (.int .u64 A1)), (bset K3.out.hB (p := ⟨g7, 5, none⟩) hw7 (.int .u64 A1))⟩
    | false =>
      obtain rfl : A1 = 0 := HA.out.trans (if_neg (by decide))
      go_wp2_with fail
      go_meet
      exact K3.out
  case rest =>
  have k3 := hcut
  clear K3 x5 y0 y1 z5 f5 hl0 hl1 hl2
  obtain ⟨_, _, _, _, _, _, x6, _, _, _, _, _, _, _, _, _, _, _, _⟩ := k3.b.c19
  obtain ⟨_, y1, y2, _⟩ := k3.c.c4
  obtain ⟨_, _, _, _, _, _, z6, _, _, _, _, _, _, _, _, _, _, _, _⟩ := k3.d.c19
  obtain ⟨_, _, _, _, _, _, f6, _, _, _, _, _, _, _, _, _, _, _, _⟩ := k3.d.f19
  have hl0 := k3.b.lt
  have hl1 := k3.c.lt
  have hl2 := k3.d.lt
  have K3 := Lib.hid k3
  clear k3
  go_upto_if 105 with fail
  go_cut [] (fun wx => BK3 w g0 51 #[.int .i64 kind, .int .i64 frm, .int .i64 tto, .int .u64 mine, .int .u64 yours, .int .u64 a, .int .u64 b, .int .i64 inode, .int .u64 iseq, .int .i64 ioff, .int .i64 node, .int .u64 seq, .int .i64 off, .int .i64 dest, .int .i64 prio, .int .i64 born, .int .i64 life, .int .i64 total, .string data] g3 131 #[.bool ba, .bool bb, .bool bn, .bool bi] g7 51 #[.int .i64 kind, .int .i64 frm, .int .i64 tto, .int .u64 mine, .int .u64 yours, .int .u64 A1, .int .u64 B1, .int .i64 0, .int .u64 0, .int .i64 0, .int .i64 0, .int .u64 0, .int .i64 0, .int .i64 0, .int .i64 0, .int .i64 0, .int .i64 0, .int .i64 0, .string ⟨#[]⟩] wx)
  case first =>
    cases bb with
    | true =>
      obtain rfl : B1 = b := HBv.out.trans (if_pos rfl)
      go_wp2_with fail
      go_meet
      exact ⟨(K3.out.b.far (p := ⟨g7, 6, none⟩) (by first | exact hn0 | exact hn3) (.int .u64 B1)), (K3.out.c.far (p := ⟨g7, 6, none⟩) (by first | exact hn0 | exact hn3) (.int .u64 B1)), (K3.out.d.set 6 (.int .u64 B1)), (bset K3.out.hB (p := ⟨g7, 6, none⟩) hw7 (.int .u64 B1))⟩
    | false =>
      obtain rfl : B1 = 0 := HBv.out.trans (if_neg (by decide))
      go_wp2_with fail
      go_meet
      exact K3.out
  case rest =>
  have k3 := hcut
  clear K3 x6 y1 y2 z6 f6 hl0 hl1 hl2
  obtain ⟨_, _, _, _, _, _, _, _, _, _, x10, x11, x12, x13, x14, x15, x16, x17, x18⟩ := k3.b.c19
  obtain ⟨_, _, y2, y3⟩ := k3.c.c4
  obtain ⟨_, _, _, _, _, _, _, _, _, _, z10, z11, z12, z13, z14, z15, z16, z17, z18⟩ := k3.d.c19
  obtain ⟨_, _, _, _, _, _, _, _, _, _, f10, f11, f12, f13, f14, f15, f16, f17, f18⟩ := k3.d.f19
  have hl0 := k3.b.lt
  have hl1 := k3.c.lt
  have hl2 := k3.d.lt
  have K3 := Lib.hid k3
  clear k3
  have FE1 : Hid (¬ (bn = true ∧ be ≠ 0) → fe = if bi = true ∧ ie ≠ 0 then ie else if frEqB kind frm tto mine yours A1 B1 I1 I2 I3 n0 n1 n2 n3 n4 n5 n6 n7 ns kind frm tto mine yours a b inode iseq ioff node seq off dest prio born life total data = true then 0 else 3) := Lib.hid (fun h => FE.out.trans (if_neg h))
  go_upto_if 110 with fail
  go_cut [] (fun wx => BK3 w g0 51 #[.int .i64 kind, .int .i64 frm, .int .i64 tto, .int .u64 mine, .int .u64 yours, .int .u64 a, .int .u64 b, .int .i64 inode, .int .u64 iseq, .int .i64 ioff, .int .i64 node, .int .u64 seq, .int .i64 off, .int .i64 dest, .int .i64 prio, .int .i64 born, .int .i64 life, .int .i64 total, .string data] g3 131 #[.bool ba, .bool bb, .bool bn, .bool bi] g7 51 #[.int .i64 kind, .int .i64 frm, .int .i64 tto, .int .u64 mine, .int .u64 yours, .int .u64 A1, .int .u64 B1, .int .i64 0, .int .u64 0, .int .i64 0, .int .i64 n0, .int .u64 n1, .int .i64 n2, .int .i64 n3, .int .i64 n4, .int .i64 n5, .int .i64 n6, .int .i64 n7, .string ns] wx ∧ ¬ (bn = true ∧ be ≠ 0))
  case first =>
    cases bn with
    | true =>
      have e := HN.out.trans (if_pos rfl)
      simp only [Prod.mk.injEq] at e
      obtain ⟨rfl, rfl, rfl, rfl, rfl, rfl, rfl, rfl, rfl⟩ := e
      go_wp2_with fail
      refine (CB'.out _).mono ?_
      rintro e v1 ⟨rfl, hbv⟩
      have kq := K3.out.set9 (.int .i64 n0) (.int .u64 n1) (.int .i64 n2) (.int .i64 n3) (.int .i64 n4) (.int .i64 n5) (.int .i64 n6) (.int .i64 n7) (.string ns) hn0 hn3 hw7
      have kq2 := kq.below hbv
      clear kq hbv
      clear K3 x10 x11 x12 x13 x14 x15 x16 x17 x18 y2 y3 z10 z11 z12 z13 z14 z15 z16 z17 z18 f10 f11 f12 f13 f14 f15 f16 f17 f18 hl0 hl1 hl2
      by_cases b0 : be = 0
      · subst b0
        go_wp2_with fail
        go_meet
        exact ⟨kq2, fun h => h.2 rfl⟩
      · have R := Lib.hid (FE.out.trans (if_pos ⟨by first | exact rfl | trivial, b0⟩))
        have b1 : (be != 0) = true := by simpa using b0
        clear b0
        go_wp2_with fail
        go_ret
        exact ⟨by rw [R.out]; rfl, kq2.hB⟩
    | false =>
      have e := HN.out.trans (if_neg (by decide))
      simp only [Prod.mk.injEq] at e
      obtain ⟨rfl, rfl, rfl, rfl, rfl, rfl, rfl, rfl, rfl⟩ := e
      go_wp2_with fail
      go_meet
      exact ⟨K3.out, fun h => by cases h.1⟩
  case rest =>
  obtain ⟨k3, hnb⟩ := hcut
  have FE2 := Lib.hid (FE1.out hnb)
  clear hnb FE1 FE
  clear K3 x10 x11 x12 x13 x14 x15 x16 x17 x18 y2 y3 z10 z11 z12 z13 z14 z15 z16 z17 z18 f10 f11 f12 f13 f14 f15 f16 f17 f18 hl0 hl1 hl2
  obtain ⟨_, _, _, _, _, _, _, x7, x8, x9, _, _, _, _, _, _, _, _, _⟩ := k3.b.c19
  obtain ⟨_, _, _, y3⟩ := k3.c.c4
  obtain ⟨_, _, _, _, _, _, _, z7, z8, z9, _, _, _, _, _, _, _, _, _⟩ := k3.d.c19
  obtain ⟨_, _, _, _, _, _, _, f7, f8, f9, _, _, _, _, _, _, _, _, _⟩ := k3.d.f19
  have hl0 := k3.b.lt
  have hl1 := k3.c.lt
  have hl2 := k3.d.lt
  have K3 := Lib.hid k3
  clear k3
  have FE4 : Hid (¬ (bi = true ∧ ie ≠ 0) → fe = if frEqB kind frm tto mine yours A1 B1 I1 I2 I3 n0 n1 n2 n3 n4 n5 n6 n7 ns kind frm tto mine yours a b inode iseq ioff node seq off dest prio born life total data = true then 0 else 3) := Lib.hid (fun h => FE2.out.trans (if_neg h))
  go_upto_if 121 with fail
  go_cut [] (fun wx => BK3 w g0 51 #[.int .i64 kind, .int .i64 frm, .int .i64 tto, .int .u64 mine, .int .u64 yours, .int .u64 a, .int .u64 b, .int .i64 inode, .int .u64 iseq, .int .i64 ioff, .int .i64 node, .int .u64 seq, .int .i64 off, .int .i64 dest, .int .i64 prio, .int .i64 born, .int .i64 life, .int .i64 total, .string data] g3 131 #[.bool ba, .bool bb, .bool bn, .bool bi] g7 51 #[.int .i64 kind, .int .i64 frm, .int .i64 tto, .int .u64 mine, .int .u64 yours, .int .u64 A1, .int .u64 B1, .int .i64 I1, .int .u64 I2, .int .i64 I3, .int .i64 n0, .int .u64 n1, .int .i64 n2, .int .i64 n3, .int .i64 n4, .int .i64 n5, .int .i64 n6, .int .i64 n7, .string ns] wx ∧ ¬ (bi = true ∧ ie ≠ 0))
  case first =>
    cases bi with
    | true =>
      have e := HI.out.trans (if_pos rfl)
      simp only [Prod.mk.injEq] at e
      obtain ⟨rfl, rfl, rfl⟩ := e
      go_wp2_with fail
      refine (CI'.out _).mono ?_
      rintro e v1 ⟨rfl, hbv⟩
      have kq := K3.out.set3 (.int .i64 I1) (.int .u64 I2) (.int .i64 I3) hn0 hn3 hw7
      have kq2 := kq.below hbv
      clear kq hbv
      clear K3 x7 x8 x9 y3 z7 z8 z9 f7 f8 f9 hl0 hl1 hl2
      by_cases b0 : ie = 0
      · subst b0
        go_wp2_with fail
        go_meet
        exact ⟨kq2, fun h => h.2 rfl⟩
      · have R := Lib.hid (FE2.out.trans (if_pos ⟨by first | exact rfl | trivial, b0⟩))
        have b1 : (ie != 0) = true := by simpa using b0
        clear b0
        go_wp2_with fail
        go_ret
        exact ⟨by rw [R.out]; rfl, kq2.hB⟩
    | false =>
      have e := HI.out.trans (if_neg (by decide))
      simp only [Prod.mk.injEq] at e
      obtain ⟨rfl, rfl, rfl⟩ := e
      go_wp2_with fail
      go_meet
      exact ⟨K3.out, fun h => by cases h.1⟩
  case rest =>
  obtain ⟨k3, hni⟩ := hcut
  have FE3 := Lib.hid (FE4.out hni)
  clear hni FE2 FE4
  clear K3 x7 x8 x9 y3 z7 z8 z9 f7 f8 f9 hl0 hl1 hl2
  have kfb := k3.b
  have kfd := k3.d
  have HB := Lib.hid k3.hB
  have hne := run_ne_fr
  clear k3
  obtain ⟨qq, hqq⟩ : ∃ qq, frEqB kind frm tto mine yours A1 B1 I1 I2 I3 n0 n1 n2 n3 n4 n5 n6 n7 ns kind frm tto mine yours a b inode iseq ioff node seq off dest prio born life total data = qq := ⟨_, rfl⟩
  rw [hqq] at FE3
  have HQ : (!(frEqB kind frm tto mine yours A1 B1 I1 I2 I3 n0 n1 n2 n3 n4 n5 n6 n7 ns kind frm tto mine yours a b inode iseq ioff node seq off dest prio born life total data)) = !qq := by rw [hqq]
  clear hqq
  cases qq with
  | true =>
    have R := Lib.hid (FE3.out.trans (if_pos rfl))
    go_wp2_with (first | (refine wpList_load_row (by rfl) 51 _ (by rfl) g7 (by rfl) 51 #[.int .i64 kind, .int .i64 frm, .int .i64 tto, .int .u64 mine, .int .u64 yours, .int .u64 A1, .int .u64 B1, .int .i64 I1, .int .u64 I2, .int .i64 I3, .int .i64 n0, .int .u64 n1, .int .i64 n2, .int .i64 n3, .int .i64 n4, .int .i64 n5, .int .i64 n6, .int .i64 n7, .string ns] (0, 0) _ kfd Try.underlying51 (by rfl) (by kernel_rfl) ?_) | (refine wpList_load_row (by rfl) 51 _ (by rfl) g0 (by rfl) 51 #[.int .i64 kind, .int .i64 frm, .int .i64 tto, .int .u64 mine, .int .u64 yours, .int .u64 a, .int .u64 b, .int .i64 inode, .int .u64 iseq, .int .i64 ioff, .int .i64 node, .int .u64 seq, .int .i64 off, .int .i64 dest, .int .i64 prio, .int .i64 born, .int .i64 life, .int .i64 total, .string data] (0, 0) _ kfb Try.underlying51 (by rfl) (by kernel_rfl) ?_))
    go_ret
    exact ⟨by rw [R.out]; rfl, HB.out⟩
  | false =>
    have R := Lib.hid (FE3.out.trans (if_neg (by decide)))
    go_wp2_with (first | (refine wpList_load_row (by rfl) 51 _ (by rfl) g7 (by rfl) 51 #[.int .i64 kind, .int .i64 frm, .int .i64 tto, .int .u64 mine, .int .u64 yours, .int .u64 A1, .int .u64 B1, .int .i64 I1, .int .u64 I2, .int .i64 I3, .int .i64 n0, .int .u64 n1, .int .i64 n2, .int .i64 n3, .int .i64 n4, .int .i64 n5, .int .i64 n6, .int .i64 n7, .string ns] (0, 0) _ kfd Try.underlying51 (by rfl) (by kernel_rfl) ?_) | (refine wpList_load_row (by rfl) 51 _ (by rfl) g0 (by rfl) 51 #[.int .i64 kind, .int .i64 frm, .int .i64 tto, .int .u64 mine, .int .u64 yours, .int .u64 a, .int .u64 b, .int .i64 inode, .int .u64 iseq, .int .i64 ioff, .int .i64 node, .int .u64 seq, .int .i64 off, .int .i64 dest, .int .i64 prio, .int .i64 born, .int .i64 life, .int .i64 total, .string data] (0, 0) _ kfb Try.underlying51 (by rfl) (by kernel_rfl) ?_))
    go_ret
    exact ⟨by rw [R.out]; rfl, HB.out⟩
end Go.Proofs.Ytfgkkflbpfocjaa

namespace Go.Proofs.Ytfgkkflbpfocjaa
open Go.RowKit
set_option linter.unusedVariables false

theorem frCheck_any (f : Fr) (hw : WfF f) (w : World) : Calls Try.prog 53 #[f.val] w (RetI .i64 (frE f) w) := by
  have G := frE_gen f hw
  have U2 : ∀ w, Calls Try.prog 88 #[.int .i64 f.kind] w (fun e w' => e = .returned (.tuple #[.agg #[.bool (uA f.kind), .bool (uB f.kind), .bool (uN f.kind), .bool (uI f.kind)], .bool (uOk f.kind)]) ∧ Below w.heap.size w w') := fun w => uses_any f.kind w
  have LL := limits_any f.kind f.frm f.to f.mine f.yours f.a f.b f.inode f.iseq f.ioff f.bn.node f.bn.seq f.bn.off f.bn.dest f.bn.prio f.bn.born f.bn.life f.bn.total f.bn.data
  have CB : ∀ w, Calls Try.prog 90 #[.agg #[.int .i64 f.bn.node, .int .u64 f.bn.seq, .int .i64 f.bn.off, .int .i64 f.bn.dest, .int .i64 f.bn.prio, .int .i64 f.bn.born, .int .i64 f.bn.life, .int .i64 f.bn.total, .string f.bn.data]] w (RetI .i64 (Bu.bE f.bn) w) := fun w => (Bu.Check_any f.bn w).mono (fun e w' h => h)
  have CI : ∀ w, Calls Try.prog 91 #[.agg #[.int .i64 f.inode, .int .u64 f.iseq, .int .i64 f.ioff]] w (RetI .i64 (Bu.idE f.inode f.iseq f.ioff) w) := fun w => (Bu.CheckID_any f.inode f.iseq f.ioff w).mono (fun e w' h => h)
  unfold Fr.val
  by_cases hok : uOk f.kind = false
  · rw [G, if_pos hok]
    exact fc_no f.kind f.frm f.to f.mine f.yours f.a f.b f.inode f.iseq f.ioff f.bn.node f.bn.seq f.bn.off f.bn.dest f.bn.prio f.bn.born f.bn.life f.bn.total f.bn.data (uA f.kind) (uB f.kind) (uN f.kind) (uI f.kind) (uOk f.kind) w U2 hok
  rw [if_neg hok] at G
  have hok' : uOk f.kind = true := by simpa using hok
  by_cases ho : f.out
  · rw [G, if_pos ho]
    exact fc_out f.kind f.frm f.to f.mine f.yours f.a f.b f.inode f.iseq f.ioff f.bn.node f.bn.seq f.bn.off f.bn.dest f.bn.prio f.bn.born f.bn.life f.bn.total f.bn.data (uA f.kind) (uB f.kind) (uN f.kind) (uI f.kind) (uOk f.kind) (loF f.kind) (hiF f.kind f.a) w U2 LL hok' ho
  rw [if_neg ho] at G
  have hin : 1 ≤ f.frm ∧ f.frm ≤ 16 ∧ 1 ≤ f.to ∧ f.to ≤ 16 ∧ f.to ≠ f.frm ∧ 1 ≤ f.mine ∧ f.mine ≤ 1099511627776 ∧ f.yours ≤ 1099511627776 := by
    unfold Fr.out at ho
    refine ⟨?_, ?_, ?_, ?_, ?_, ?_, ?_, ?_⟩ <;> omega
  by_cases hb : (uA f.kind = true ∧ 1125899906842624 < f.a) ∨ (uB f.kind = true ∧ (f.b < loF f.kind ∨ hiF f.kind f.a < f.b))
  · rw [G, if_pos hb]
    exact fc_big f.kind f.frm f.to f.mine f.yours f.a f.b f.inode f.iseq f.ioff f.bn.node f.bn.seq f.bn.off f.bn.dest f.bn.prio f.bn.born f.bn.life f.bn.total f.bn.data (uA f.kind) (uB f.kind) (uN f.kind) (uI f.kind) (uOk f.kind) (loF f.kind) (hiF f.kind f.a) w U2 LL hok' hin hb
  rw [if_neg hb] at G
  have three : ∀ (c : Bool) (x y z : Int), ((if c = true then x else 0), (if c = true then y else 0), (if c = true then z else 0)) = if c = true then (x, y, z) else ((0 : Int), (0 : Int), (0 : Int)) := by
    intro c x y z
    cases c <;> rfl
  have nine : ∀ (c : Bool) (x0 x1 x2 x3 x4 x5 x6 x7 : Int) (s : ByteArray), ((if c = true then x0 else 0), (if c = true then x1 else 0), (if c = true then x2 else 0), (if c = true then x3 else 0), (if c = true then x4 else 0), (if c = true then x5 else 0), (if c = true then x6 else 0), (if c = true then x7 else 0), (if c = true then s else ⟨#[]⟩)) = if c = true then (x0, x1, x2, x3, x4, x5, x6, x7, s) else ((0 : Int), (0 : Int), (0 : Int), (0 : Int), (0 : Int), (0 : Int), (0 : Int), (0 : Int), (⟨#[]⟩ : ByteArray)) := by
    intro c x0 x1 x2 x3 x4 x5 x6 x7 s
    cases c <;> rfl
  refine fc_rest f.kind f.frm f.to f.mine f.yours f.a f.b f.inode f.iseq f.ioff f.bn.node f.bn.seq f.bn.off f.bn.dest f.bn.prio f.bn.born f.bn.life f.bn.total f.bn.data (uA f.kind) (uB f.kind) (uN f.kind) (uI f.kind) (uOk f.kind) (loF f.kind) (hiF f.kind f.a) (Bu.bE f.bn) (Bu.idE f.inode f.iseq f.ioff) w U2 LL CB CI hok' hin hb _ _ _ _ _ _ _ _ _ _ _ _ _ _ rfl rfl (three _ _ _ _) (nine _ _ _ _ _ _ _ _ _ _) (frE f) ?_
  rw [G]
  have Q : f.bareG ↔ frEqB f.kind f.frm f.to f.mine f.yours (if uA f.kind = true then f.a else 0) (if uB f.kind = true then f.b else 0) (if uI f.kind = true then f.inode else 0) (if uI f.kind = true then f.iseq else 0) (if uI f.kind = true then f.ioff else 0) (if uN f.kind = true then f.bn.node else 0) (if uN f.kind = true then f.bn.seq else 0) (if uN f.kind = true then f.bn.off else 0) (if uN f.kind = true then f.bn.dest else 0) (if uN f.kind = true then f.bn.prio else 0) (if uN f.kind = true then f.bn.born else 0) (if uN f.kind = true then f.bn.life else 0) (if uN f.kind = true then f.bn.total else 0) (if uN f.kind = true then f.bn.data else ⟨#[]⟩) f.kind f.frm f.to f.mine f.yours f.a f.b f.inode f.iseq f.ioff f.bn.node f.bn.seq f.bn.off f.bn.dest f.bn.prio f.bn.born f.bn.life f.bn.total f.bn.data = true := by
    rw [frEqB_iff]
    unfold Fr.bareG
    generalize uA f.kind = ka
    generalize uB f.kind = kb
    generalize uI f.kind = ki
    generalize uN f.kind = kn
    obtain ⟨kind, frm, tto, mine, yours, a, b, inode, iseq, ioff, bn⟩ := f
    obtain ⟨node, seq, off, dest, prio, born, life, total, data⟩ := bn
    cases ka <;> cases kb <;> cases ki <;> cases kn <;> simp [zBn, eq_comm, and_assoc]
  by_cases c1 : uN f.kind = true ∧ Bu.bE f.bn ≠ 0
  · rw [if_pos c1, if_pos c1]
  rw [if_neg c1, if_neg c1]
  by_cases c2 : uI f.kind = true ∧ Bu.idE f.inode f.iseq f.ioff ≠ 0
  · rw [if_pos c2, if_pos c2]
  rw [if_neg c2, if_neg c2]
  by_cases c3 : f.bareG
  · rw [if_pos c3, if_pos (Q.1 c3)]
  · rw [if_neg c3, if_neg (fun h => c3 (Q.2 h))]

end Go.Proofs.Ytfgkkflbpfocjaa

namespace Go.Proofs.Ytfgkkflbpfocjaa
open Go.RowKit
set_option linter.unusedVariables false
set_option linter.unusedSimpArgs false

/-- a peer whose rows lie in blocks from B on -/
def PrB (B : Nat) (w : World) (V : Value) (p : Pr) : Prop := ∃ As cs At ct Ak ck, V = .agg #[.int .i64 p.node, .int .u64 p.theirs, .bool p.sure, .int .u64 p.old, .int .u64 p.s.g, .int .u64 p.s.n, .int .u64 p.s.r, .slice As p.s.sl.length cs, .int .u64 p.r.g, .int .u64 p.r.r, .int .u64 p.r.fl, .slice At p.r.tk.length ct, .slice Ak p.r.kp.length ck] ∧ SlsB B w (.slice As p.s.sl.length cs) p.s.sl ∧ RgsB B w (.slice At p.r.tk.length ct) p.r.tk ∧ KpsB B w (.slice Ak p.r.kp.length ck) p.r.kp
theorem PrB.at {B : Nat} {w : World} {V : Value} {p : Pr} (h : PrB B w V p) : PrAt w V p := by
  obtain ⟨As, cs, At, ct, Ak, ck, rfl, h1, h2, h3⟩ := h
  exact ⟨_, _, _, rfl, h1.at, h2.at, h3.at⟩
theorem PrB.low {B B' : Nat} {w : World} {V : Value} {p : Pr} (h : PrB B w V p) (hb : B' ≤ B) : PrB B' w V p := by
  obtain ⟨As, cs, At, ct, Ak, ck, rfl, h1, h2, h3⟩ := h
  exact ⟨_, _, _, _, _, _, rfl, h1.low hb, h2.low hb, h3.low hb⟩
theorem PrB.below {B : Nat} {w w' : World} {V : Value} {p : Pr} (h : PrB B w V p) (hb : Below w.heap.size w w') : PrB B w' V p := by
  obtain ⟨As, cs, At, ct, Ak, ck, rfl, h1, h2, h3⟩ := h
  exact ⟨_, _, _, _, _, _, rfl, h1.below hb, h2.below hb, h3.below hb⟩
theorem PrB.setCells {B g : Nat} {w : World} {V : Value} {p : Pr} (h : PrB B w V p) (hg : g < B) (l : List Value) (o : Nat) : PrB B (w.setCells g o l) V p := by
  obtain ⟨As, cs, At, ct, Ak, ck, rfl, h1, h2, h3⟩ := h
  exact ⟨_, _, _, _, _, _, rfl, h1.setCells hg _ _, h2.setCells hg _ _, h3.setCells hg _ _⟩
theorem PrB.set {B g : Nat} {w : World} {V : Value} {p : Pr} (h : PrB B w V p) (hg : g < B) (o : Nat) (u : Value) : PrB B (w.setCell ⟨g, o, none⟩ u) V p := by
  obtain ⟨As, cs, At, ct, Ak, ck, rfl, h1, h2, h3⟩ := h
  exact ⟨_, _, _, _, _, _, rfl, h1.set (p := ⟨g, o, none⟩) hg u, h2.set (p := ⟨g, o, none⟩) hg u, h3.set (p := ⟨g, o, none⟩) hg u⟩
/-- a peer, a number, a truth and an error -/
def RetMet (x : Pr × Int × Bool) (er : Int) (w : World) (e : Ending) (w' : World) : Prop := ∃ V, e = .returned (.tuple #[V, .int .i64 x.2.1, .bool x.2.2, .int .i64 er]) ∧ PrB w.heap.size w' V x.1 ∧ Below w.heap.size w w'
theorem zPr_at (B : Nat) (w : World) : PrB B w (.agg #[.int .i64 0, .int .u64 0, .bool false, .int .u64 0, .int .u64 0, .int .u64 0, .int .u64 0, .slice none 0 0, .int .u64 0, .int .u64 0, .int .u64 0, .slice none 0 0, .slice none 0 0]) zPr :=
  ⟨_, _, _, _, _, _, rfl, RowB.nil B w 5, RowB.nil B w 2, RowB.nil B w 1⟩
theorem zPr_at' (B : Nat) (w : World) (node th : Int) (su : Bool) (old : Int) : PrB B w (.agg #[.int .i64 node, .int .u64 th, .bool su, .int .u64 old, .int .u64 0, .int .u64 0, .int .u64 0, .slice none 0 0, .int .u64 0, .int .u64 0, .int .u64 0, .slice none 0 0, .slice none 0 0]) ⟨node, th, su, old, zSend, zRec⟩ :=
  ⟨_, _, _, _, _, _, rfl, RowB.nil B w 5, RowB.nil B w 2, RowB.nil B w 1⟩
/-- what a meeting gives -/
def mtV (p : Pr) (boot : Int) (f : Fr) : Pr × Int × Bool := if metE p boot f = 0 then met p boot f else (zPr, 0, false)

theorem chkP_len {p : Pr} (h : chkP p = 0) : p.s.sl.length ≤ 100000 ∧ p.r.tk.length ≤ 100000 ∧ p.r.kp.length ≤ 100000 := by
  obtain ⟨_, h1, h2, _⟩ := chkP_ok h
  have h3 := ((okL_iff p.s).1 h1).2.2.2.1
  have h4 := (okR_of h2).nt
  have h5 := (okR_of h2).nk
  omega

theorem Meet_any (p : Pr) (hw : WfP p) (boot : Int) (f : Fr) (hf : WfF f) (V : Value) (w : World) (hV : PrAt w V p) :
    Calls Try.prog 18 #[V, .int .u64 boot, f.val] w (RetMet (mtV p boot f) (metE p boot f) w) := by
  have CK := fun w' (hb : Below w.heap.size w w') => pCheck_any p hw V w' (hV.below hb)
  have FC := fun w => frCheck_any f hf w
  have HV := hV
  obtain ⟨vs, vt, vk, rfl, hs, ht, hk⟩ := hV
  obtain ⟨As, cs, rfl⟩ := hs.form
  obtain ⟨At, ct, rfl⟩ := ht.form
  obtain ⟨Ak, ck, rfl⟩ := hk.form
  have hz : metE p boot f ≠ 0 → mtV p boot f = (zPr, 0, false) := fun h => if_neg h
  have hm : metE p boot f = if chkP p ≠ 0 then chkP p else if ¬ bootOk boot then 2 else if frE f ≠ 0 then frE f else if f.frm ≠ p.node then 7 else 0 := rfl
  unfold Fr.val at FC ⊢
  by_cases c1 : chkP p = 0
  · rw [if_neg (by omega)] at hm
    rw [c1] at CK
    by_cases b1 : boot < 1
    · rw [if_pos (by unfold bootOk; omega)] at hm
      rw [hz (by omega), hm]
      refine (meet_boot1 p.node p.theirs p.old p.sure p.s.g p.s.n p.s.r p.s.sl.length cs As p.r.g p.r.r p.r.fl p.r.tk.length ct At p.r.kp.length ck Ak f.kind f.frm f.to f.mine f.yours f.a f.b f.inode f.iseq f.ioff f.bn.node f.bn.seq f.bn.off f.bn.dest f.bn.prio f.bn.born f.bn.life f.bn.total f.bn.data boot 0 0 w CK b1).mono ?_
      rintro e w' ⟨rfl, hb⟩
      exact ⟨_, rfl, zPr_at _ w', hb⟩
    · by_cases b2 : boot > 1099511627776
      · rw [if_pos (by unfold bootOk; omega)] at hm
        rw [hz (by omega), hm]
        refine (meet_boot2 p.node p.theirs p.old p.sure p.s.g p.s.n p.s.r p.s.sl.length cs As p.r.g p.r.r p.r.fl p.r.tk.length ct At p.r.kp.length ck Ak f.kind f.frm f.to f.mine f.yours f.a f.b f.inode f.iseq f.ioff f.bn.node f.bn.seq f.bn.off f.bn.dest f.bn.prio f.bn.born f.bn.life f.bn.total f.bn.data boot 0 0 w CK b1 b2).mono ?_
        rintro e w' ⟨rfl, hb⟩
        exact ⟨_, rfl, zPr_at _ w', hb⟩
      · rw [if_neg (by unfold bootOk; omega)] at hm
        by_cases c2 : frE f = 0
        · rw [if_neg (by omega)] at hm
          rw [c2] at FC
          by_cases c3 : f.frm = p.node
          · rw [if_neg (by omega)] at hm
            have hv : mtV p boot f = met p boot f := if_pos hm
            rw [hv, hm]
            obtain ⟨l1, l2, l3⟩ := chkP_len c1
            have CO : ∀ w', Below w.heap.size w w' → Calls Try.prog 54 #[.agg #[.int .i64 p.node, .int .u64 p.theirs, .bool p.sure, .int .u64 p.old, .int .u64 p.s.g, .int .u64 p.s.n, .int .u64 p.s.r, .slice As p.s.sl.length cs, .int .u64 p.r.g, .int .u64 p.r.r, .int .u64 p.r.fl, .slice At p.r.tk.length ct, .slice Ak p.r.kp.length ck]] w' (RetCop p.node p.theirs p.old p.sure p.s.g p.s.n p.s.r p.s.sl p.r.g p.r.r p.r.fl p.r.tk p.r.kp w') := fun w' hb => copied_any _ _ _ _ _ _ _ _ _ _ _ _ _ _ _ _ w' (hs.below hb) (ht.below hb) (hk.below hb) l1 l2 l3
            by_cases m1 : f.mine < p.theirs
            · refine (meet_stale p.node p.theirs p.old p.sure p.s.g p.s.n p.s.r p.s.sl p.s.sl.length cs As p.r.g p.r.r p.r.fl p.r.tk p.r.tk.length ct At p.r.kp p.r.kp.length ck Ak f.kind f.frm f.to f.mine f.yours f.a f.b f.inode f.iseq f.ioff f.bn.node f.bn.seq f.bn.off f.bn.dest f.bn.prio f.bn.born f.bn.life f.bn.total f.bn.data boot w CK FC CO b1 b2 c3 m1).mono ?_
              rintro e w' ⟨As', cs', At', ct', Ak', ck', rfl, h1, h2, h3, hb⟩
              unfold met
              rw [if_pos m1]
              exact ⟨_, rfl, ⟨_, _, _, _, _, _, rfl, h1, h2, h3⟩, hb⟩
            · by_cases m2 : f.mine > p.theirs
              · by_cases y : f.yours = boot
                · refine (meet_lf p.node p.theirs p.old p.sure p.s.g p.s.n p.s.r p.s.sl p.s.sl.length cs As p.r.g p.r.r p.r.fl p.r.tk p.r.tk.length ct At p.r.kp p.r.kp.length ck Ak f.kind f.frm f.to f.mine f.yours f.a f.b f.inode f.iseq f.ioff f.bn.node f.bn.seq f.bn.off f.bn.dest f.bn.prio f.bn.born f.bn.life f.bn.total f.bn.data boot w CK FC CO b1 b2 c3 m2 y).mono ?_
                  rintro e w' ⟨rfl, hb⟩
                  unfold met lrn
                  rw [if_neg m1, if_neg (by omega), if_pos m2]
                  refine ⟨_, ?_, zPr_at' _ w' p.node f.mine true 0, hb⟩
                  show _ = Ending.returned (.tuple #[_, _, .bool (decide (p.theirs < f.mine)), _])
                  rw [decide_eq_true m2]
                · refine (meet_lu p.node p.theirs p.old p.sure p.s.g p.s.n p.s.r p.s.sl p.s.sl.length cs As p.r.g p.r.r p.r.fl p.r.tk p.r.tk.length ct At p.r.kp p.r.kp.length ck Ak f.kind f.frm f.to f.mine f.yours f.a f.b f.inode f.iseq f.ioff f.bn.node f.bn.seq f.bn.off f.bn.dest f.bn.prio f.bn.born f.bn.life f.bn.total f.bn.data boot w CK FC CO b1 b2 c3 m2 y).mono ?_
                  rintro e w' ⟨rfl, hb⟩
                  unfold met lrn
                  rw [if_neg m1, if_pos y, if_pos m2]
                  exact ⟨_, rfl, zPr_at' _ w' p.node f.mine false 0, hb⟩
              · by_cases y : f.yours = boot
                · refine (meet_nf p.node p.theirs p.old p.sure p.s.g p.s.n p.s.r p.s.sl p.s.sl.length cs As p.r.g p.r.r p.r.fl p.r.tk p.r.tk.length ct At p.r.kp p.r.kp.length ck Ak f.kind f.frm f.to f.mine f.yours f.a f.b f.inode f.iseq f.ioff f.bn.node f.bn.seq f.bn.off f.bn.dest f.bn.prio f.bn.born f.bn.life f.bn.total f.bn.data boot w CK FC CO b1 b2 c3 m2 m1 y).mono ?_
                  rintro e w' ⟨As', cs', At', ct', Ak', ck', rfl, h1, h2, h3, hb⟩
                  unfold met lrn
                  rw [if_neg m1, if_neg (by omega), if_neg m2]
                  refine ⟨_, ?_, ⟨_, _, _, _, _, _, rfl, h1, h2, h3⟩, hb⟩
                  show _ = Ending.returned (.tuple #[_, _, .bool (decide (p.theirs < f.mine)), _])
                  rw [decide_eq_false m2]
                · refine (meet_nu p.node p.theirs p.old p.sure p.s.g p.s.n p.s.r p.s.sl p.s.sl.length cs As p.r.g p.r.r p.r.fl p.r.tk p.r.tk.length ct At p.r.kp p.r.kp.length ck Ak f.kind f.frm f.to f.mine f.yours f.a f.b f.inode f.iseq f.ioff f.bn.node f.bn.seq f.bn.off f.bn.dest f.bn.prio f.bn.born f.bn.life f.bn.total f.bn.data boot w CK FC CO b1 b2 c3 m2 m1 y).mono ?_
                  rintro e w' ⟨As', cs', At', ct', Ak', ck', rfl, h1, h2, h3, hb⟩
                  unfold met lrn
                  rw [if_neg m1, if_pos y, if_neg m2]
                  exact ⟨_, rfl, ⟨_, _, _, _, _, _, rfl, h1, h2, h3⟩, hb⟩
          · rw [if_pos (by omega)] at hm
            rw [hz (by omega), hm]
            refine (meet_kind p.node p.theirs p.old p.sure p.s.g p.s.n p.s.r p.s.sl.length cs As p.r.g p.r.r p.r.fl p.r.tk.length ct At p.r.kp.length ck Ak f.kind f.frm f.to f.mine f.yours f.a f.b f.inode f.iseq f.ioff f.bn.node f.bn.seq f.bn.off f.bn.dest f.bn.prio f.bn.born f.bn.life f.bn.total f.bn.data boot 0 0 w CK FC b1 b2 c3).mono ?_
            rintro e w' ⟨rfl, hb⟩
            exact ⟨_, rfl, zPr_at _ w', hb⟩
        · rw [if_pos (by omega)] at hm
          rw [hz (by omega), hm]
          refine (meet_frame p.node p.theirs p.old p.sure p.s.g p.s.n p.s.r p.s.sl.length cs As p.r.g p.r.r p.r.fl p.r.tk.length ct At p.r.kp.length ck Ak f.kind f.frm f.to f.mine f.yours f.a f.b f.inode f.iseq f.ioff f.bn.node f.bn.seq f.bn.off f.bn.dest f.bn.prio f.bn.born f.bn.life f.bn.total f.bn.data boot 0 (frE f) w CK FC b1 b2 c2).mono ?_
          rintro e w' ⟨rfl, hb⟩
          exact ⟨_, rfl, zPr_at _ w', hb⟩
  · rw [if_pos (by omega)] at hm
    rw [hz (by omega), hm]
    refine (meet_bad p.node p.theirs p.old p.sure p.s.g p.s.n p.s.r p.s.sl.length cs As p.r.g p.r.r p.r.fl p.r.tk.length ct At p.r.kp.length ck Ak f.kind f.frm f.to f.mine f.yours f.a f.b f.inode f.iseq f.ioff f.bn.node f.bn.seq f.bn.off f.bn.dest f.bn.prio f.bn.born f.bn.life f.bn.total f.bn.data boot (chkP p) 0 w CK c1).mono ?_
    rintro e w' ⟨rfl, hb⟩
    exact ⟨_, rfl, zPr_at _ w', hb⟩
end Go.Proofs.Ytfgkkflbpfocjaa

namespace Go.Proofs.Ytfgkkflbpfocjaa
open Go.RowKit Go.ChangeShapes Go.WideShapes Go.Deep
set_option linter.unusedVariables false
set_option linter.unusedSimpArgs false
set_option maxRecDepth 100000

theorem cellsBun : Try.prog.cellsOf 49 = 9 := by kernel_rfl
theorem cellsU64 : Try.prog.cellsOf 22 = 1 := by kernel_rfl
theorem cellsInt : Try.prog.cellsOf 3 = 1 := by kernel_rfl
theorem cellsStr : Try.prog.cellsOf 9 = 1 := by kernel_rfl
theorem cellsBool : Try.prog.cellsOf 4 = 1 := by kernel_rfl
theorem cellsRange : Try.prog.cellsOf 74 = 2 := by kernel_rfl
theorem cellsRecv : Try.prog.cellsOf 29 = 5 := by kernel_rfl
theorem cellsPeer : Try.prog.cellsOf 31 = 13 := by kernel_rfl
theorem cellsFrame : Try.prog.cellsOf 51 = 19 := by kernel_rfl
theorem cellsSls : Try.prog.cellsOf 23 = 1 := by kernel_rfl
theorem cellsRgs : Try.prog.cellsOf 26 = 1 := by kernel_rfl
theorem cellsKps : Try.prog.cellsOf 27 = 1 := by kernel_rfl
theorem cellsSend : Try.prog.cellsOf 25 = 4 := by kernel_rfl

theorem cellsSlot : Try.prog.cellsOf 81 = 5 := by kernel_rfl
theorem cellsId : Try.prog.cellsOf 47 = 3 := by kernel_rfl
def SlWf (l : List Sl) : Prop := ∀ x ∈ l, (0 ≤ x.off ∧ x.off ≤ 18446744073709551615) ∧ (0 ≤ x.size ∧ x.size ≤ 18446744073709551615) ∧ (0 ≤ x.seq ∧ x.seq ≤ 18446744073709551615)

section
variable {H : Type} {enc : TypeId × Value → H} {w : World} {base : Nat} {spare : Nat → Bool} {held : Bool}
theorem open_idc {fuel : Nat} {cs : List Value} {x : DataW H × List MemPlace} (h : DataW.trod enc Try.prog w base spare held fuel 47 cs = some x) :
    ∃ a b c : Int, cs = [.int .i64 a, .int .u64 b, .int .i64 c] ∧ 0 ≤ b ∧ b ≤ 18446744073709551615 := by
  obtain ⟨y0, y1, y2, n, _, hl, h0, h1, h2⟩ := trod_struct3 Try.underlying47 h
  rw [cellsId] at hl
  match cs, hl with
  | [v0, v1, v2], _ =>
    obtain ⟨n0, e0, _, w0⟩ := DataW.trod_int Try.underlying3 (show DataW.trod enc Try.prog w base spare held n 3 [v0] = some y0 from h0)
    obtain ⟨n1, e1, _, w1⟩ := DataW.trod_int Try.underlying22 (show DataW.trod enc Try.prog w base spare held n 22 [v1] = some y1 from h1)
    obtain ⟨n2, e2, _, w2⟩ := DataW.trod_int Try.underlying3 (show DataW.trod enc Try.prog w base spare held n 3 [v2] = some y2 from h2)
    simp only [List.cons.injEq, and_true] at e0 e1 e2
    subst e0 e1 e2
    exact ⟨n0, n1, n2, rfl, (wf_u64 w1).1, (wf_u64 w1).2⟩
theorem open_slotc {fuel : Nat} {cs : List Value} {x : DataW H × List MemPlace} (h : DataW.trod enc Try.prog w base spare held fuel 81 cs = some x) :
    ∃ s : Sl, cs = s.cells ∧ (0 ≤ s.off ∧ s.off ≤ 18446744073709551615) ∧ (0 ≤ s.size ∧ s.size ≤ 18446744073709551615) ∧ (0 ≤ s.seq ∧ s.seq ≤ 18446744073709551615) := by
  obtain ⟨y0, y1, y2, n, _, hl, h0, h1, h2⟩ := trod_struct3 Try.underlying81 h
  rw [cellsSlot] at hl
  match cs, hl with
  | [v0, v1, v2, v3, v4], _ =>
    obtain ⟨n0, e0, _, w0⟩ := DataW.trod_int Try.underlying22 (show DataW.trod enc Try.prog w base spare held n 22 [v0] = some y0 from h0)
    obtain ⟨n1, e1, _, w1⟩ := DataW.trod_int Try.underlying22 (show DataW.trod enc Try.prog w base spare held n 22 [v1] = some y1 from h1)
    obtain ⟨a, b, c, e2, hb⟩ := open_idc (show DataW.trod enc Try.prog w base spare held n 47 [v2, v3, v4] = some y2 from h2)
    simp only [List.cons.injEq, and_true] at e0 e1 e2
    obtain ⟨rfl, rfl, rfl⟩ := e2
    subst e0 e1
    exact ⟨⟨n0, n1, a, b, c⟩, rfl, wf_u64 w0, wf_u64 w1, hb⟩
theorem open_slots {fuel : Nat} {A : Option Addr} {n c : Nat} {x : DataW H × List MemPlace} (h : DataW.trod enc Try.prog w base spare held fuel 23 [.slice A n c] = some x) :
    ∃ l, SlWf l ∧ SlAt w 5 (.slice A n c) l.length (flat l) := by
  rcases open_slice Try.underlying23 h with ⟨hcs, _⟩ | ⟨a, len, cap, m, nn, D, Pl, hcs, hb, hl, hm, hmm, hx, hi⟩
  · simp at hcs
    obtain ⟨rfl, rfl, rfl⟩ := hcs
    exact ⟨[], by intro c hc; simp at hc, SlAt.nil w 5⟩
  · simp at hcs
    obtain ⟨rfl, rfl, rfl⟩ := hcs
    have hnm : n ≤ m := by rw [hmm]; split <;> omega
    obtain ⟨l, hll, hP⟩ := list_of (P := fun i (x : Sl) => ((0 ≤ x.off ∧ x.off ≤ 18446744073709551615) ∧ (0 ≤ x.size ∧ x.size ≤ 18446744073709551615) ∧ (0 ≤ x.seq ∧ x.seq ≤ 18446744073709551615)) ∧ ∀ j u, x.cells[j]? = some u → w.cell? (a.add (i * 5 + j)) = some u) n (fun i hin => by
      obtain ⟨cs', hc, ht'⟩ := hi i (by omega)
      rw [cellsSlot] at hc
      obtain ⟨_, hcl, hat⟩ := World.cells?_some hc
      obtain ⟨s, rfl, hw⟩ := open_slotc ht'
      refine ⟨s, hw, fun j u hj => ?_⟩
      have hj5 : j < 5 := (List.getElem?_eq_some_iff.1 hj).1
      rw [← Go.Deep.add_add, hat j hj5, hj])
    refine ⟨l, fun c hc => ?_, some a, c, by rw [hll], by rw [hll]; exact hl, hm, reads_of sl5 (by decide) (fun i x hx => (hP i x hx).2)⟩
    obtain ⟨i, hi⟩ := List.mem_iff_getElem?.1 hc
    exact (hP i c hi).1
end


section
variable {H : Type} {enc : TypeId × Value → H} {w : World} {base : Nat} {spare : Nat → Bool} {held : Bool}
theorem open_rgc {fuel : Nat} {cs : List Value} {x : DataW H × List MemPlace} (h : DataW.trod enc Try.prog w base spare held fuel 74 cs = some x) :
    ∃ s : Rg, cs = s.cells ∧ (0 ≤ s.f ∧ s.f ≤ 18446744073709551615) ∧ (0 ≤ s.t ∧ s.t ≤ 18446744073709551615) := by
  obtain ⟨y0, y1, n, _, hl, h0, h1⟩ := trod_struct2 Try.underlying74 h
  rw [cellsRange] at hl
  match cs, hl with
  | [v0, v1], _ =>
    obtain ⟨n0, e0, _, w0⟩ := DataW.trod_int Try.underlying22 (show DataW.trod enc Try.prog w base spare held n 22 [v0] = some y0 from h0)
    obtain ⟨n1, e1, _, w1⟩ := DataW.trod_int Try.underlying22 (show DataW.trod enc Try.prog w base spare held n 22 [v1] = some y1 from h1)
    simp only [List.cons.injEq, and_true] at e0 e1
    subst e0 e1
    exact ⟨⟨n0, n1⟩, rfl, wf_u64 w0, wf_u64 w1⟩
theorem open_rgs {fuel : Nat} {A : Option Addr} {n c : Nat} {x : DataW H × List MemPlace} (h : DataW.trod enc Try.prog w base spare held fuel 26 [.slice A n c] = some x) :
    ∃ l : List Rg, (∀ x ∈ l, (0 ≤ x.f ∧ x.f ≤ 18446744073709551615) ∧ (0 ≤ x.t ∧ x.t ≤ 18446744073709551615)) ∧ RgsAt w (.slice A n c) l := by
  rcases open_slice Try.underlying26 h with ⟨hcs, _⟩ | ⟨a, len, cap, m, nn, D, Pl, hcs, hb, hl, hm, hmm, hx, hi⟩
  · simp at hcs
    obtain ⟨rfl, rfl, rfl⟩ := hcs
    exact ⟨[], by intro c hc; simp at hc, SlAt.nil w 2⟩
  · simp at hcs
    obtain ⟨rfl, rfl, rfl⟩ := hcs
    have hnm : n ≤ m := by rw [hmm]; split <;> omega
    obtain ⟨l, hll, hP⟩ := list_of (P := fun i (x : Rg) => ((0 ≤ x.f ∧ x.f ≤ 18446744073709551615) ∧ (0 ≤ x.t ∧ x.t ≤ 18446744073709551615)) ∧ ∀ j u, x.cells[j]? = some u → w.cell? (a.add (i * 2 + j)) = some u) n (fun i hin => by
      obtain ⟨cs', hc, ht'⟩ := hi i (by omega)
      rw [cellsRange] at hc
      obtain ⟨_, hcl, hat⟩ := World.cells?_some hc
      obtain ⟨s, rfl, hw1, hw2⟩ := open_rgc ht'
      refine ⟨s, ⟨hw1, hw2⟩, fun j u hj => ?_⟩
      have hj5 : j < 2 := (List.getElem?_eq_some_iff.1 hj).1
      rw [← Go.Deep.add_add, hat j hj5, hj])
    refine ⟨l, fun c hc => ?_, some a, c, by rw [hll], by rw [hll]; exact hl, hm, reads_of rg2 (by decide) (fun i x hx => (hP i x hx).2)⟩
    obtain ⟨i, hi⟩ := List.mem_iff_getElem?.1 hc
    exact (hP i c hi).1
theorem open_kps {fuel : Nat} {A : Option Addr} {n c : Nat} {x : DataW H × List MemPlace} (h : DataW.trod enc Try.prog w base spare held fuel 27 [.slice A n c] = some x) :
    ∃ l : List Int, (∀ x ∈ l, 0 ≤ x ∧ x ≤ 18446744073709551615) ∧ KpsAt w (.slice A n c) l := by
  rcases open_slice Try.underlying27 h with ⟨hcs, _⟩ | ⟨a, len, cap, m, nn, D, Pl, hcs, hb, hl, hm, hmm, hx, hi⟩
  · simp at hcs
    obtain ⟨rfl, rfl, rfl⟩ := hcs
    exact ⟨[], by intro c hc; simp at hc, SlAt.nil w 1⟩
  · simp at hcs
    obtain ⟨rfl, rfl, rfl⟩ := hcs
    have hnm : n ≤ m := by rw [hmm]; split <;> omega
    obtain ⟨l, hll, hP⟩ := list_of (P := fun i (x : Int) => (0 ≤ x ∧ x ≤ 18446744073709551615) ∧ ∀ j u, (kc x)[j]? = some u → w.cell? (a.add (i * 1 + j)) = some u) n (fun i hin => by
      obtain ⟨cs', hc, ht'⟩ := hi i (by omega)
      rw [cellsU64] at hc
      obtain ⟨_, hcl, hat⟩ := World.cells?_some hc
      obtain ⟨n0, e0, _, w0⟩ := DataW.trod_int Try.underlying22 ht'
      subst e0
      refine ⟨n0, wf_u64 w0, fun j u hj => ?_⟩
      have hj5 : j < 1 := (List.getElem?_eq_some_iff.1 hj).1
      rw [← Go.Deep.add_add, hat j hj5]
      exact hj)
    refine ⟨l, fun c hc => ?_, some a, c, by rw [hll], by rw [hll]; exact hl, hm, reads_of kc1 (by decide) (fun i x hx => (hP i x hx).2)⟩
    obtain ⟨i, hi⟩ := List.mem_iff_getElem?.1 hc
    exact (hP i c hi).1

theorem open_bunc {fuel : Nat} {cs : List Value} {x : DataW H × List MemPlace} (h : DataW.trod enc Try.prog w base spare held fuel 49 cs = some x) :
    ∃ b : Bu.Bn, cs = b.cells := by
  obtain ⟨ys, n, hn, hy, hlen, hyl, hf⟩ := DataW.trod_struct Try.underlying49 h
  rw [cellsBun] at hlen
  match cs, hlen, ys, hyl with
  | [v0, v1, v2, v3, v4, v5, v6, v7, v8], _, [y0, y1, y2, y3, y4, y5, y6], _ =>
    have f0 := hf 0 _ rfl
    have f1 := hf 1 _ rfl
    have f2 := hf 2 _ rfl
    have f3 := hf 3 _ rfl
    have f4 := hf 4 _ rfl
    have f5 := hf 5 _ rfl
    have f6 := hf 6 _ rfl
    simp only [List.getElem_toArray, List.getElem_cons_zero, List.getElem_cons_succ, cellsId, cellsInt, cellsStr, List.drop_succ_cons, List.drop_zero, List.take_succ_cons, List.take_zero, List.getElem?_cons_zero, List.getElem?_cons_succ] at f0 f1 f2 f3 f4 f5 f6
    obtain ⟨zs, n', _, _, _, hzl, hg⟩ := DataW.trod_struct Try.underlying47 f0
    match zs, hzl with
    | [z0, z1, z2], _ =>
      have g0 := hg 0 _ rfl
      have g1 := hg 1 _ rfl
      have g2 := hg 2 _ rfl
      simp only [List.getElem_toArray, List.getElem_cons_zero, List.getElem_cons_succ, cellsInt, cellsU64, List.drop_succ_cons, List.drop_zero, List.take_succ_cons, List.take_zero, List.getElem?_cons_zero, List.getElem?_cons_succ] at g0 g1 g2
      obtain ⟨n0, e0, _, _⟩ := DataW.trod_int Try.underlying3 g0
      obtain ⟨n1, e1, _, _⟩ := DataW.trod_int Try.underlying22 g1
      obtain ⟨n2, e2, _, _⟩ := DataW.trod_int Try.underlying3 g2
      obtain ⟨n3, e3, _, _⟩ := DataW.trod_int Try.underlying3 f1
      obtain ⟨n4, e4, _, _⟩ := DataW.trod_int Try.underlying3 f2
      obtain ⟨n5, e5, _, _⟩ := DataW.trod_int Try.underlying3 f3
      obtain ⟨n6, e6, _, _⟩ := DataW.trod_int Try.underlying3 f4
      obtain ⟨n7, e7, _, _⟩ := DataW.trod_int Try.underlying3 f5
      obtain ⟨n8, e8, _, _⟩ := DataW.trod_string Try.underlying9 f6
      simp only [List.cons.injEq, and_true] at e0 e1 e2 e3 e4 e5 e6 e7 e8
      subst e0 e1 e2 e3 e4 e5 e6 e7 e8
      exact ⟨⟨n0, n1, n2, n3, n4, n5, n6, n7, n8⟩, rfl⟩

theorem open_peerc {fuel : Nat} {cs : List Value} {x : DataW H × List MemPlace} (h : DataW.trod enc Try.prog w base spare held fuel 31 cs = some x) :
    ∃ p : Pr, WfP p ∧ PrAt w (.agg cs.toArray) p := by
  obtain ⟨ys, n, hn, hy, hlen, hyl, hf⟩ := DataW.trod_struct Try.underlying31 h
  rw [cellsPeer] at hlen
  match cs, hlen, ys, hyl with
  | [v0, v1, v2, v3, v4, v5, v6, v7, v8, v9, v10, v11, v12], _, [y0, y1, y2, y3, y4, y5], _ =>
    have f0 := hf 0 _ rfl
    have f1 := hf 1 _ rfl
    have f2 := hf 2 _ rfl
    have f3 := hf 3 _ rfl
    have f4 := hf 4 _ rfl
    have f5 := hf 5 _ rfl
    simp only [cellsInt, cellsU64, cellsBool, cellsSend, cellsRecv, List.getElem_toArray, List.getElem_cons_zero, List.getElem_cons_succ, List.drop_succ_cons, List.drop_zero, List.take_succ_cons, List.take_zero, List.getElem?_cons_zero, List.getElem?_cons_succ] at f0 f1 f2 f3 f4 f5
    obtain ⟨n0, e0, _, _⟩ := DataW.trod_int Try.underlying3 f0
    obtain ⟨n1, e1, _, w1⟩ := DataW.trod_int Try.underlying22 f1
    obtain ⟨n2, e2, _⟩ := DataW.trod_bool Try.underlying4 f2
    obtain ⟨n3, e3, _, w3⟩ := DataW.trod_int Try.underlying22 f3
    obtain ⟨z0, z1, z2, z3, m4, _, _, g0, g1, g2, g3⟩ := Go.Joins.trod_struct4 Try.underlying25 f4
    obtain ⟨n4, e4, _, w4⟩ := DataW.trod_int Try.underlying22 (show DataW.trod enc Try.prog w base spare held m4 22 [v4] = some z0 from g0)
    obtain ⟨n5, e5, _, w5⟩ := DataW.trod_int Try.underlying22 (show DataW.trod enc Try.prog w base spare held m4 22 [v5] = some z1 from g1)
    obtain ⟨n6, e6, _, w6⟩ := DataW.trod_int Try.underlying22 (show DataW.trod enc Try.prog w base spare held m4 22 [v6] = some z2 from g2)
    have h7 : DataW.trod enc Try.prog w base spare held m4 23 [v7] = some z3 := g3
    obtain ⟨A7, k7, c7, e7⟩ : ∃ A k c, v7 = .slice A k c := by
      rcases open_slice Try.underlying23 h7 with ⟨hcs, _⟩ | ⟨a, len, cap, m, nn, D, Pl, hcs, _⟩
      · simp at hcs; exact ⟨_, _, _, hcs⟩
      · simp at hcs; exact ⟨_, _, _, hcs⟩
    subst e7
    obtain ⟨SL, hS1, hS2⟩ := open_slots h7
    obtain ⟨xs, m5, _, _, _, hxl, hg⟩ := DataW.trod_struct Try.underlying29 f5
    match xs, hxl with
    | [x0, x1, x2, x3, x4], _ =>
      have q0 := hg 0 _ rfl
      have q1 := hg 1 _ rfl
      have q2 := hg 2 _ rfl
      have q3 := hg 3 _ rfl
      have q4 := hg 4 _ rfl
      simp only [cellsU64, cellsRgs, cellsKps, List.getElem_toArray, List.getElem_cons_zero, List.getElem_cons_succ, List.drop_succ_cons, List.drop_zero, List.take_succ_cons, List.take_zero, List.getElem?_cons_zero, List.getElem?_cons_succ] at q0 q1 q2 q3 q4
      obtain ⟨n8, e8, _, w8⟩ := DataW.trod_int Try.underlying22 q0
      obtain ⟨n9, e9, _, w9⟩ := DataW.trod_int Try.underlying22 q1
      obtain ⟨n10, e10, _, w10⟩ := DataW.trod_int Try.underlying22 q2
      obtain ⟨A11, k11, c11, e11⟩ : ∃ A k c, v11 = .slice A k c := by
        rcases open_slice Try.underlying26 q3 with ⟨hcs, _⟩ | ⟨a, len, cap, m, nn, D, Pl, hcs, _⟩
        · simp at hcs; exact ⟨_, _, _, hcs⟩
        · simp at hcs; exact ⟨_, _, _, hcs⟩
      subst e11
      obtain ⟨A12, k12, c12, e12⟩ : ∃ A k c, v12 = .slice A k c := by
        rcases open_slice Try.underlying27 q4 with ⟨hcs, _⟩ | ⟨a, len, cap, m, nn, D, Pl, hcs, _⟩
        · simp at hcs; exact ⟨_, _, _, hcs⟩
        · simp at hcs; exact ⟨_, _, _, hcs⟩
      subst e12
      obtain ⟨TL, hT1, hT2⟩ := open_rgs q3
      obtain ⟨KL, hK1, hK2⟩ := open_kps q4
      simp only [List.cons.injEq, and_true] at e0 e1 e2 e3 e4 e5 e6 e8 e9 e10
      subst e0 e1 e2 e3 e4 e5 e6 e8 e9 e10
      exact ⟨⟨n0, n1, n2, n3, ⟨n4, n5, n6, SL⟩, ⟨n8, n9, n10, TL, KL⟩⟩, ⟨wf_u64 w1, wf_u64 w3, ⟨wf_u64 w4, wf_u64 w5, wf_u64 w6, hS1⟩, ⟨wf_u64 w8, wf_u64 w9, wf_u64 w10, hT1, hK1⟩⟩, _, _, _, rfl, hS2, hT2, hK2⟩
theorem open_framec {fuel : Nat} {cs : List Value} {x : DataW H × List MemPlace} (h : DataW.trod enc Try.prog w base spare held fuel 51 cs = some x) :
    ∃ f : Fr, WfF f ∧ (.agg cs.toArray : Value) = f.val := by
  obtain ⟨ys, n, hn, hy, hlen, hyl, hf⟩ := DataW.trod_struct Try.underlying51 h
  rw [cellsFrame] at hlen
  match cs, hlen, ys, hyl with
  | [v0, v1, v2, v3, v4, v5, v6, v7, v8, v9, v10, v11, v12, v13, v14, v15, v16, v17, v18], _, [y0, y1, y2, y3, y4, y5, y6, y7, y8], _ =>
    have f0 := hf 0 _ rfl
    have f1 := hf 1 _ rfl
    have f2 := hf 2 _ rfl
    have f3 := hf 3 _ rfl
    have f4 := hf 4 _ rfl
    have f5 := hf 5 _ rfl
    have f6 := hf 6 _ rfl
    have f7 := hf 7 _ rfl
    have f8 := hf 8 _ rfl
    simp only [cellsInt, cellsU64, cellsId, cellsBun, List.getElem_toArray, List.getElem_cons_zero, List.getElem_cons_succ, List.drop_succ_cons, List.drop_zero, List.take_succ_cons, List.take_zero, List.getElem?_cons_zero, List.getElem?_cons_succ] at f0 f1 f2 f3 f4 f5 f6 f7 f8
    obtain ⟨n0, e0, _, _⟩ := DataW.trod_int Try.underlying3 f0
    obtain ⟨n1, e1, _, _⟩ := DataW.trod_int Try.underlying3 f1
    obtain ⟨n2, e2, _, _⟩ := DataW.trod_int Try.underlying3 f2
    obtain ⟨n3, e3, _, w3⟩ := DataW.trod_int Try.underlying22 f3
    obtain ⟨n4, e4, _, w4⟩ := DataW.trod_int Try.underlying22 f4
    obtain ⟨n5, e5, _, w5⟩ := DataW.trod_int Try.underlying22 f5
    obtain ⟨n6, e6, _, w6⟩ := DataW.trod_int Try.underlying22 f6
    obtain ⟨n7, n8, n9, e7, _⟩ := open_idc f7
    obtain ⟨b, e8⟩ := open_bunc f8
    simp only [Bu.Bn.cells, List.cons.injEq, and_true] at e0 e1 e2 e3 e4 e5 e6 e7 e8
    obtain ⟨rfl, rfl, rfl⟩ := e7
    obtain ⟨rfl, rfl, rfl, rfl, rfl, rfl, rfl, rfl, rfl⟩ := e8
    subst e0 e1 e2 e3 e4 e5 e6
    exact ⟨⟨n0, n1, n2, n3, n4, n5, n6, n7, n8, n9, b⟩, ⟨wf_u64 w3, wf_u64 w4, wf_u64 w5, wf_u64 w6⟩, rfl⟩
end
/-- a peer that came in -/
theorem open_peer {H : Type} {enc : TypeId × Value → H} {w : World} {base : Nat} {v : Value} {d : DataW H} {p : List MemPlace} (hv : Value.okWide Try.prog w .any base 31 v) (h : DataW.Trod enc Try.prog w 0 (fun _ => true) true 31 v d p) :
    ∃ p : Pr, WfP p ∧ PrAt w v p := by
  obtain ⟨cs, rfl, _⟩ := okWide_struct Try.underlying31 hv
  obtain ⟨fuel, hf⟩ := h
  exact open_peerc (show DataW.trod enc Try.prog w 0 (fun _ => true) true fuel 31 cs.toList = some (d, p) from hf)
/-- a frame that came in -/
theorem open_frame {H : Type} {enc : TypeId × Value → H} {w : World} {base : Nat} {v : Value} {d : DataW H} {p : List MemPlace} (hv : Value.okWide Try.prog w .any base 51 v) (h : DataW.Trod enc Try.prog w 0 (fun _ => true) true 51 v d p) :
    ∃ f : Fr, WfF f ∧ v = f.val := by
  obtain ⟨cs, rfl, _⟩ := okWide_struct Try.underlying51 hv
  obtain ⟨fuel, hf⟩ := h
  exact open_framec (show DataW.trod enc Try.prog w 0 (fun _ => true) true fuel 51 cs.toList = some (d, p) from hf)
end Go.Proofs.Ytfgkkflbpfocjaa

