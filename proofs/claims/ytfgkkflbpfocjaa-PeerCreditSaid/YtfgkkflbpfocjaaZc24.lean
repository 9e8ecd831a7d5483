/- Frames checked (the program): no such kind; numbers out of range. Frames checked (the program): A or B too great. Three blocks: cells set in the last one. -/
import Derived.Test.YtfgkkflbpfocjaaZc20
namespace Go.Proofs.Ytfgkkflbpfocjaa
open Go.RowKit
set_option linter.unusedVariables false
set_option linter.unusedSimpArgs false

set_option maxRecDepth 100000 in
set_option maxHeartbeats 16000000 in
theorem fc_no (kind frm tto mine yours a b inode iseq ioff node seq off dest prio born life total : Int) (data : ByteArray) (ba bb bn bi ok : Bool) (w : World) (U2 : ∀ w, Calls Try.prog 88 #[.int .i64 kind] w (fun e w' => e = .returned (.tuple #[.agg #[.bool ba, .bool bb, .bool bn, .bool bi], .bool ok]) ∧ Below w.heap.size w w')) (hok : ok = false) :
    Calls Try.prog 53 #[.agg #[.int .i64 kind, .int .i64 frm, .int .i64 tto, .int .u64 mine, .int .u64 yours, .int .u64 a, .int .u64 b, .int .i64 inode, .int .u64 iseq, .int .i64 ioff, .int .i64 node, .int .u64 seq, .int .i64 off, .int .i64 dest, .int .i64 prio, .int .i64 born, .int .i64 life, .int .i64 total, .string data]] w (RetI .i64 7 w) := by
  subst hok
  have hud : ∀ bx : Bool, (undef = Value.bool bx) = False := fun bx => eq_false (fun h => by cases h)
  have U2' := Lib.hid U2
  clear U2
  go_enter Try.func53, Try.ntmps53
  go_wp2_with fail
  have k0 := Blk.new w 51 #[.int .i64 kind, .int .i64 frm, .int .i64 tto, .int .u64 mine, .int .u64 yours, .int .u64 a, .int .u64 b, .int .i64 inode, .int .u64 iseq, .int .i64 ioff, .int .i64 node, .int .u64 seq, .int .i64 off, .int .i64 dest, .int .i64 prio, .int .i64 born, .int .i64 life, .int .i64 total, .string data]
  have hB := bal (Below.refl w.heap.size w) (.cells #[.int .i64 kind, .int .i64 frm, .int .i64 tto, .int .u64 mine, .int .u64 yours, .int .u64 a, .int .u64 b, .int .i64 inode, .int .u64 iseq, .int .i64 ioff, .int .i64 node, .int .u64 seq, .int .i64 off, .int .i64 dest, .int .i64 prio, .int .i64 born, .int .i64 life, .int .i64 total, .string data] 51)
  refine (U2'.out _).mono ?_
  rintro e w1 ⟨rfl, hb1⟩
  have kk : BK w w.heap.size 51 #[.int .i64 kind, .int .i64 frm, .int .i64 tto, .int .u64 mine, .int .u64 yours, .int .u64 a, .int .u64 b, .int .i64 inode, .int .u64 iseq, .int .i64 ioff, .int .i64 node, .int .u64 seq, .int .i64 off, .int .i64 dest, .int .i64 prio, .int .i64 born, .int .i64 life, .int .i64 total, .string data] w1 := ⟨k0.below hb1, bnext hB hb1⟩
  clear k0 hB hb1 U2'
  obtain ⟨g0, hg0⟩ : ∃ g0, w.heap.size = g0 := ⟨_, rfl⟩
  rw [hg0] at kk ⊢
  have HG0 := Lib.hid hg0
  clear hg0
  have x0 : w1.cell? ⟨g0, 0, none⟩ = some (.int .i64 kind) := kk.b.cell 0
  have hl0 := kk.b.lt
  have K1 := Lib.hid kk
  clear kk
  go_wp2_with fail
  go_ret
  exact ⟨rfl, by have := bal K1.out.hB (.cells #[.bool ba, .bool bb, .bool bn, .bool bi] 131); exact this⟩

set_option maxRecDepth 100000 in
set_option maxHeartbeats 16000000 in
theorem fc_out (kind frm tto mine yours a b inode iseq ioff node seq off dest prio born life total : Int) (data : ByteArray) (ba bb bn bi ok : Bool) (lo hi : Int) (w : World) (U2 : ∀ w, Calls Try.prog 88 #[.int .i64 kind] w (fun e w' => e = .returned (.tuple #[.agg #[.bool ba, .bool bb, .bool bn, .bool bi], .bool ok]) ∧ Below w.heap.size w w')) (LL : ∀ w, Calls Try.prog 89 #[.agg #[.int .i64 kind, .int .i64 frm, .int .i64 tto, .int .u64 mine, .int .u64 yours, .int .u64 a, .int .u64 b, .int .i64 inode, .int .u64 iseq, .int .i64 ioff, .int .i64 node, .int .u64 seq, .int .i64 off, .int .i64 dest, .int .i64 prio, .int .i64 born, .int .i64 life, .int .i64 total, .string data]] w (Ret2 .u64 .u64 lo hi w)) (hok : ok = true) (ho : (frm < 1 ∨ 16 < frm ∨ tto < 1 ∨ 16 < tto ∨ tto = frm ∨ mine < 1 ∨ 1099511627776 < mine ∨ 1099511627776 < yours)) :
    Calls Try.prog 53 #[.agg #[.int .i64 kind, .int .i64 frm, .int .i64 tto, .int .u64 mine, .int .u64 yours, .int .u64 a, .int .u64 b, .int .i64 inode, .int .u64 iseq, .int .i64 ioff, .int .i64 node, .int .u64 seq, .int .i64 off, .int .i64 dest, .int .i64 prio, .int .i64 born, .int .i64 life, .int .i64 total, .string data]] w (RetI .i64 2 w) := by
  subst hok
  have HO := Lib.hid ho
  have LL' := Lib.hid LL
  clear ho LL
  have hud : ∀ bx : Bool, (undef = Value.bool bx) = False := fun bx => eq_false (fun h => by cases h)
  have U2' := Lib.hid U2
  clear U2
  go_enter Try.func53, Try.ntmps53
  go_wp2_with fail
  have k0 := Blk.new w 51 #[.int .i64 kind, .int .i64 frm, .int .i64 tto, .int .u64 mine, .int .u64 yours, .int .u64 a, .int .u64 b, .int .i64 inode, .int .u64 iseq, .int .i64 ioff, .int .i64 node, .int .u64 seq, .int .i64 off, .int .i64 dest, .int .i64 prio, .int .i64 born, .int .i64 life, .int .i64 total, .string data]
  have hB := bal (Below.refl w.heap.size w) (.cells #[.int .i64 kind, .int .i64 frm, .int .i64 tto, .int .u64 mine, .int .u64 yours, .int .u64 a, .int .u64 b, .int .i64 inode, .int .u64 iseq, .int .i64 ioff, .int .i64 node, .int .u64 seq, .int .i64 off, .int .i64 dest, .int .i64 prio, .int .i64 born, .int .i64 life, .int .i64 total, .string data] 51)
  refine (U2'.out _).mono ?_
  rintro e w1 ⟨rfl, hb1⟩
  have kk : BK w w.heap.size 51 #[.int .i64 kind, .int .i64 frm, .int .i64 tto, .int .u64 mine, .int .u64 yours, .int .u64 a, .int .u64 b, .int .i64 inode, .int .u64 iseq, .int .i64 ioff, .int .i64 node, .int .u64 seq, .int .i64 off, .int .i64 dest, .int .i64 prio, .int .i64 born, .int .i64 life, .int .i64 total, .string data] w1 := ⟨k0.below hb1, bnext hB hb1⟩
  clear k0 hB hb1 U2'
  obtain ⟨g0, hg0⟩ : ∃ g0, w.heap.size = g0 := ⟨_, rfl⟩
  rw [hg0] at kk ⊢
  have HG0 := Lib.hid hg0
  clear hg0
  have x0 : w1.cell? ⟨g0, 0, none⟩ = some (.int .i64 kind) := kk.b.cell 0
  have hl0 := kk.b.lt
  have K1 := Lib.hid kk
  clear kk
  have kA := K1.out.b.alloc (.cells #[.bool ba, .bool bb, .bool bn, .bool bi] 131)
  clear x0
  go_wp2_with (refine wpList_load_row (by rfl) 51 _ (by rfl) g0 (by rfl) 51 #[.int .i64 kind, .int .i64 frm, .int .i64 tto, .int .u64 mine, .int .u64 yours, .int .u64 a, .int .u64 b, .int .i64 inode, .int .u64 iseq, .int .i64 ioff, .int .i64 node, .int .u64 seq, .int .i64 off, .int .i64 dest, .int .i64 prio, .int .i64 born, .int .i64 life, .int .i64 total, .string data] (0, 0) _ kA Try.underlying51 (by rfl) (by kernel_rfl) ?_)
  have kU := Blk.new w1 131 #[.bool ba, .bool bb, .bool bn, .bool bi]
  have hBU := bal K1.out.hB (.cells #[.bool ba, .bool bb, .bool bn, .bool bi] 131)
  refine (LL'.out _).mono ?_
  rintro e w2 ⟨rfl, hb2⟩
  obtain ⟨g3, hg3⟩ : ∃ g3, w1.heap.size = g3 := ⟨_, rfl⟩
  rw [hg3] at kU ⊢
  have kk : BK2 w g0 51 #[.int .i64 kind, .int .i64 frm, .int .i64 tto, .int .u64 mine, .int .u64 yours, .int .u64 a, .int .u64 b, .int .i64 inode, .int .u64 iseq, .int .i64 ioff, .int .i64 node, .int .u64 seq, .int .i64 off, .int .i64 dest, .int .i64 prio, .int .i64 born, .int .i64 life, .int .i64 total, .string data] g3 131 #[.bool ba, .bool bb, .bool bn, .bool bi] w2 := ⟨kA.below hb2, kU.below hb2, bnext hBU hb2⟩
  clear kA kU hBU hb2 LL' hl0 K1 hg3
  obtain ⟨_, x1, x2, x3, x4, x5, x6, _, _, _, _, _, _, _, _, _, _, _, _⟩ := kk.b.c19
  obtain ⟨y0, y1, _, _⟩ := kk.c.c4
  have hl0 := kk.b.lt
  have hl1 := kk.c.lt
  have K2 := Lib.hid kk
  clear kk
  by_cases q0 : frm < 1
  case pos =>
    skip
    go_wp2_with fail
    go_ret
    exact ⟨rfl, K2.out.hB⟩
  by_cases q1 : frm > 16
  case pos =>
    skip
    go_wp2_with fail
    go_ret
    exact ⟨rfl, K2.out.hB⟩
  by_cases q2 : tto < 1
  case pos =>
    skip
    go_wp2_with fail
    go_ret
    exact ⟨rfl, K2.out.hB⟩
  by_cases q3 : tto > 16
  case pos =>
    skip
    go_wp2_with fail
    go_ret
    exact ⟨rfl, K2.out.hB⟩
  by_cases q4 : tto = frm
  case pos =>
    have qb4 : (tto == frm) = true := by simp [q4]
    have Q4 := Lib.hid q4
    clear q4
    go_wp2_with fail
    go_ret
    exact ⟨rfl, K2.out.hB⟩
  have qb4 : (tto == frm) = false := beq_eq_false_iff_ne.2 q4
  have Q4 := Lib.hid q4
  clear q4
  by_cases q5 : mine < 1
  case pos =>
    skip
    go_wp2_with fail
    go_ret
    exact ⟨rfl, K2.out.hB⟩
  by_cases q6 : mine > 1099511627776
  case pos =>
    skip
    go_wp2_with fail
    go_ret
    exact ⟨rfl, K2.out.hB⟩
  by_cases q7 : yours > 1099511627776
  case pos =>
    skip
    go_wp2_with fail
    go_ret
    exact ⟨rfl, K2.out.hB⟩
  exact absurd HO.out (by have := Q4.out; omega)
end Go.Proofs.Ytfgkkflbpfocjaa

namespace Go.Proofs.Ytfgkkflbpfocjaa
open Go.RowKit
set_option linter.unusedVariables false
set_option linter.unusedSimpArgs false

set_option maxRecDepth 100000 in
set_option maxHeartbeats 16000000 in
theorem fc_big (kind frm tto mine yours a b inode iseq ioff node seq off dest prio born life total : Int) (data : ByteArray) (ba bb bn bi ok : Bool) (lo hi : Int) (w : World) (U2 : ∀ w, Calls Try.prog 88 #[.int .i64 kind] w (fun e w' => e = .returned (.tuple #[.agg #[.bool ba, .bool bb, .bool bn, .bool bi], .bool ok]) ∧ Below w.heap.size w w')) (LL : ∀ w, Calls Try.prog 89 #[.agg #[.int .i64 kind, .int .i64 frm, .int .i64 tto, .int .u64 mine, .int .u64 yours, .int .u64 a, .int .u64 b, .int .i64 inode, .int .u64 iseq, .int .i64 ioff, .int .i64 node, .int .u64 seq, .int .i64 off, .int .i64 dest, .int .i64 prio, .int .i64 born, .int .i64 life, .int .i64 total, .string data]] w (Ret2 .u64 .u64 lo hi w)) (hok : ok = true) (hin : 1 ≤ frm ∧ frm ≤ 16 ∧ 1 ≤ tto ∧ tto ≤ 16 ∧ tto ≠ frm ∧ 1 ≤ mine ∧ mine ≤ 1099511627776 ∧ yours ≤ 1099511627776) (ho : ((ba = true ∧ 1125899906842624 < a) ∨ (bb = true ∧ (b < lo ∨ hi < b)))) :
    Calls Try.prog 53 #[.agg #[.int .i64 kind, .int .i64 frm, .int .i64 tto, .int .u64 mine, .int .u64 yours, .int .u64 a, .int .u64 b, .int .i64 inode, .int .u64 iseq, .int .i64 ioff, .int .i64 node, .int .u64 seq, .int .i64 off, .int .i64 dest, .int .i64 prio, .int .i64 born, .int .i64 life, .int .i64 total, .string data]] w (RetI .i64 2 w) := by
  subst hok
  have HO := Lib.hid ho
  have LL' := Lib.hid LL
  obtain ⟨i0, i1, i2, i3, i4, i5, i6, i7⟩ := hin
  have q0 : ¬ frm < 1 := by omega
  have q1 : ¬ frm > 16 := by omega
  have q2 : ¬ tto < 1 := by omega
  have q3 : ¬ tto > 16 := by omega
  have qb4 : (tto == frm) = false := beq_eq_false_iff_ne.2 i4
  have q5 : ¬ mine < 1 := by omega
  have q6 : ¬ mine > 1099511627776 := by omega
  have q7 : ¬ yours > 1099511627776 := by omega
  clear i0 i1 i2 i3 i4 i5 i6 i7
  clear ho LL
  have hud : ∀ bx : Bool, (undef = Value.bool bx) = False := fun bx => eq_false (fun h => by cases h)
  have U2' := Lib.hid U2
  clear U2
  go_enter Try.func53, Try.ntmps53
  go_wp2_with fail
  have k0 := Blk.new w 51 #[.int .i64 kind, .int .i64 frm, .int .i64 tto, .int .u64 mine, .int .u64 yours, .int .u64 a, .int .u64 b, .int .i64 inode, .int .u64 iseq, .int .i64 ioff, .int .i64 node, .int .u64 seq, .int .i64 off, .int .i64 dest, .int .i64 prio, .int .i64 born, .int .i64 life, .int .i64 total, .string data]
  have hB := bal (Below.refl w.heap.size w) (.cells #[.int .i64 kind, .int .i64 frm, .int .i64 tto, .int .u64 mine, .int .u64 yours, .int .u64 a, .int .u64 b, .int .i64 inode, .int .u64 iseq, .int .i64 ioff, .int .i64 node, .int .u64 seq, .int .i64 off, .int .i64 dest, .int .i64 prio, .int .i64 born, .int .i64 life, .int .i64 total, .string data] 51)
  refine (U2'.out _).mono ?_
  rintro e w1 ⟨rfl, hb1⟩
  have kk : BK w w.heap.size 51 #[.int .i64 kind, .int .i64 frm, .int .i64 tto, .int .u64 mine, .int .u64 yours, .int .u64 a, .int .u64 b, .int .i64 inode, .int .u64 iseq, .int .i64 ioff, .int .i64 node, .int .u64 seq, .int .i64 off, .int .i64 dest, .int .i64 prio, .int .i64 born, .int .i64 life, .int .i64 total, .string data] w1 := ⟨k0.below hb1, bnext hB hb1⟩
  clear k0 hB hb1 U2'
  obtain ⟨g0, hg0⟩ : ∃ g0, w.heap.size = g0 := ⟨_, rfl⟩
  rw [hg0] at kk ⊢
  have HG0 := Lib.hid hg0
  clear hg0
  have x0 : w1.cell? ⟨g0, 0, none⟩ = some (.int .i64 kind) := kk.b.cell 0
  have hl0 := kk.b.lt
  have K1 := Lib.hid kk
  clear kk
  have kA := K1.out.b.alloc (.cells #[.bool ba, .bool bb, .bool bn, .bool bi] 131)
  clear x0
  go_wp2_with (refine wpList_load_row (by rfl) 51 _ (by rfl) g0 (by rfl) 51 #[.int .i64 kind, .int .i64 frm, .int .i64 tto, .int .u64 mine, .int .u64 yours, .int .u64 a, .int .u64 b, .int .i64 inode, .int .u64 iseq, .int .i64 ioff, .int .i64 node, .int .u64 seq, .int .i64 off, .int .i64 dest, .int .i64 prio, .int .i64 born, .int .i64 life, .int .i64 total, .string data] (0, 0) _ kA Try.underlying51 (by rfl) (by kernel_rfl) ?_)
  have kU := Blk.new w1 131 #[.bool ba, .bool bb, .bool bn, .bool bi]
  have hBU := bal K1.out.hB (.cells #[.bool ba, .bool bb, .bool bn, .bool bi] 131)
  refine (LL'.out _).mono ?_
  rintro e w2 ⟨rfl, hb2⟩
  obtain ⟨g3, hg3⟩ : ∃ g3, w1.heap.size = g3 := ⟨_, rfl⟩
  rw [hg3] at kU ⊢
  have kk : BK2 w g0 51 #[.int .i64 kind, .int .i64 frm, .int .i64 tto, .int .u64 mine, .int .u64 yours, .int .u64 a, .int .u64 b, .int .i64 inode, .int .u64 iseq, .int .i64 ioff, .int .i64 node, .int .u64 seq, .int .i64 off, .int .i64 dest, .int .i64 prio, .int .i64 born, .int .i64 life, .int .i64 total, .string data] g3 131 #[.bool ba, .bool bb, .bool bn, .bool bi] w2 := ⟨kA.below hb2, kU.below hb2, bnext hBU hb2⟩
  clear kA kU hBU hb2 LL' hl0 K1 hg3
  obtain ⟨_, x1, x2, x3, x4, x5, x6, _, _, _, _, _, _, _, _, _, _, _, _⟩ := kk.b.c19
  obtain ⟨y0, y1, _, _⟩ := kk.c.c4
  have hl0 := kk.b.lt
  have hl1 := kk.c.lt
  have K2 := Lib.hid kk
  clear kk
  cases ba with
  | true =>
    by_cases qa : a > 1125899906842624
    · go_wp2_with fail
      go_ret
      exact ⟨rfl, K2.out.hB⟩
    · cases bb with
      | true =>
        by_cases qb : b < lo
        · go_wp2_with fail
          go_ret
          exact ⟨rfl, K2.out.hB⟩
        · have qc : b > hi := HO.out.elim (fun h => absurd h.2 qa) (fun h => h.2.elim (fun h => absurd h qb) id)
          go_wp2_with fail
          go_ret
          exact ⟨rfl, K2.out.hB⟩
      | false => exact HO.out.elim (fun h => absurd h.2 qa) (fun h => by cases h.1)
  | false =>
    cases bb with
    | true =>
      by_cases qb : b < lo
      · go_wp2_with fail
        go_ret
        exact ⟨rfl, K2.out.hB⟩
      · have qc : b > hi := HO.out.elim (fun h => by cases h.1) (fun h => h.2.elim (fun h => absurd h qb) id)
        go_wp2_with fail
        go_ret
        exact ⟨rfl, K2.out.hB⟩
    | false => exact HO.out.elim (fun h => by cases h.1) (fun h => by cases h.1)
end Go.Proofs.Ytfgkkflbpfocjaa

namespace Go.Proofs.Ytfgkkflbpfocjaa
open Go.RowKit
set_option linter.unusedVariables false

theorem set19a (c0 c1 c2 c3 c4 c5 c6 c7 c8 c9 c10 c11 c12 c13 c14 c15 c16 c17 c18 a b c : Value) : ((#[c0, c1, c2, c3, c4, c5, c6, c7, c8, c9, c10, c11, c12, c13, c14, c15, c16, c17, c18].setIfInBounds 7 a).setIfInBounds 8 b).setIfInBounds 9 c = #[c0, c1, c2, c3, c4, c5, c6, a, b, c, c10, c11, c12, c13, c14, c15, c16, c17, c18] := rfl
theorem set19b (c0 c1 c2 c3 c4 c5 c6 c7 c8 c9 c10 c11 c12 c13 c14 c15 c16 c17 c18 d0 d1 d2 d3 d4 d5 d6 d7 d8 : Value) : ((((((((#[c0, c1, c2, c3, c4, c5, c6, c7, c8, c9, c10, c11, c12, c13, c14, c15, c16, c17, c18].setIfInBounds 10 d0).setIfInBounds 11 d1).setIfInBounds 12 d2).setIfInBounds 13 d3).setIfInBounds 14 d4).setIfInBounds 15 d5).setIfInBounds 16 d6).setIfInBounds 17 d7).setIfInBounds 18 d8 = #[c0, c1, c2, c3, c4, c5, c6, c7, c8, c9, d0, d1, d2, d3, d4, d5, d6, d7, d8] := by kernel_rfl

variable {w wx : World} {g g' g'' : Nat} {t t' t'' : TypeId} {cs cs' cs'' : Array Value} {c0 c1 c2 c3 c4 c5 c6 c7 c8 c9 c10 c11 c12 c13 c14 c15 c16 c17 c18 : Value}
theorem BK3.set (h : BK3 w g t cs g' t' cs' g'' t'' cs'' wx) (i : Nat) (u : Value) (hg : ¬ g = g'') (hg' : ¬ g' = g'') (hw : w.heap.size ≤ g'') : BK3 w g t cs g' t' cs' g'' t'' (cs''.setIfInBounds i u) (wx.setCell ⟨g'', i, none⟩ u) :=
  ⟨h.b.far (p := ⟨g'', i, none⟩) hg u, h.c.far (p := ⟨g'', i, none⟩) hg' u, h.d.set i u, h.hB.setCell (p := ⟨g'', i, none⟩) hw u⟩
theorem BK3.set9 (h : BK3 w g t cs g' t' cs' g'' t'' #[c0, c1, c2, c3, c4, c5, c6, c7, c8, c9, c10, c11, c12, c13, c14, c15, c16, c17, c18] wx) (d0 d1 d2 d3 d4 d5 d6 d7 d8 : Value) (hg : ¬ g = g'') (hg' : ¬ g' = g'') (hw : w.heap.size ≤ g'') : BK3 w g t cs g' t' cs' g'' t'' #[c0, c1, c2, c3, c4, c5, c6, c7, c8, c9, d0, d1, d2, d3, d4, d5, d6, d7, d8] (((((((((wx.setCell ⟨g'', 10, none⟩ d0).setCell ⟨g'', 11, none⟩ d1).setCell ⟨g'', 12, none⟩ d2).setCell ⟨g'', 13, none⟩ d3).setCell ⟨g'', 14, none⟩ d4).setCell ⟨g'', 15, none⟩ d5).setCell ⟨g'', 16, none⟩ d6).setCell ⟨g'', 17, none⟩ d7).setCell ⟨g'', 18, none⟩ d8) := by
  have k := ((((((((h.set 10 d0 hg hg' hw).set 11 d1 hg hg' hw).set 12 d2 hg hg' hw).set 13 d3 hg hg' hw).set 14 d4 hg hg' hw).set 15 d5 hg hg' hw).set 16 d6 hg hg' hw).set 17 d7 hg hg' hw).set 18 d8 hg hg' hw
  rw [set19b] at k
  exact k
theorem BK3.set3 (h : BK3 w g t cs g' t' cs' g'' t'' #[c0, c1, c2, c3, c4, c5, c6, c7, c8, c9, c10, c11, c12, c13, c14, c15, c16, c17, c18] wx) (d0 d1 d2 : Value) (hg : ¬ g = g'') (hg' : ¬ g' = g'') (hw : w.heap.size ≤ g'') : BK3 w g t cs g' t' cs' g'' t'' #[c0, c1, c2, c3, c4, c5, c6, d0, d1, d2, c10, c11, c12, c13, c14, c15, c16, c17, c18] (((wx.setCell ⟨g'', 7, none⟩ d0).setCell ⟨g'', 8, none⟩ d1).setCell ⟨g'', 9, none⟩ d2) := by
  have k := ((h.set 7 d0 hg hg' hw).set 8 d1 hg hg' hw).set 9 d2 hg hg' hw
  rw [set19a] at k
  exact k

end Go.Proofs.Ytfgkkflbpfocjaa

