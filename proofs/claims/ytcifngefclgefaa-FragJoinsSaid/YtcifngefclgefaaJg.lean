/- Contract: another size (the reference). -/
import Derived.Test.YtcifngefclgefaaJf
namespace Go.Proofs.Ytcifngefclgefaa
open Go.RowKit
set_option linter.unusedVariables false
set_option linter.unusedSimpArgs false

set_option maxRecDepth 100000 in
set_option maxHeartbeats 4000000 in
theorem rRefit_any (l : List Bn) (v : Value) (z : Int) (w : World) (hV : BnAt w v l) (hl : l.length ≤ 100000) :
    Calls Try.prog 26 #[v, .int .i64 z] w (RetBs (refitOf l z).1 (refitOf l z).2 w) := by
  have HV := Lib.hid hV
  obtain ⟨A, c, rfl, _, hc2, hR⟩ := hV
  have HR := Lib.hid hR
  clear hR
  obtain ⟨ms, je, hj⟩ : ∃ ms je, joinOf l = (ms, je) := ⟨_, _, rfl⟩
  have JC := Lib.hid (rJoin_any l _ w HV.out hl)
  rw [hj] at JC
  by_cases he : je = 0
  · subst he
    have hO := (join_ok hj).1
    have hln : 0 < l.length := by have := hO.ne; omega
    obtain ⟨y, hy⟩ : ∃ y, l[0]? = some y := ⟨_, List.getElem?_eq_getElem hln⟩
    have hrc := refit_cut hj z
    rw [bnAt_of hy] at hrc
    have HY := Lib.hid hy
    have hl0 : (0 : Int) < l.length := by omega
    obtain ⟨b, o, rfl, hb, q0', q1', q2', q3', q4', q5', q6', q7', q8'⟩ := reads_bn HR.out rfl HY.out
    obtain ⟨L, er, hL⟩ : ∃ L er, refitOf l z = (L, er) := ⟨_, _, rfl⟩
    rw [hL] at hrc
    have CU : Hid (∀ w, Calls Try.prog 12 #[.agg #[.int .i64 y.node, .int .u64 y.seq, .int .i64 0, .int .i64 y.dest, .int .i64 y.prio, .int .i64 y.born, .int .i64 y.life, .int .i64 y.total, .string y.data], .string ms, .int .i64 z] w (RetBs L er w)) := Lib.hid (fun w => by
      have := rCut_any ⟨y.node, y.seq, 0, y.dest, y.prio, y.born, y.life, y.total, y.data⟩ ms z w
      rw [← hrc] at this
      exact this)
    rw [hL]
    clear hj hO hy hrc hL
    go_enter Try.func26, Try.ntmps26
    go_wp2_with fail
    refine JC.out.mono ?_
    rintro e w1 ⟨rfl, hb1⟩
    clear JC
    have q0 := (hb1.cell (p := ⟨b, o + 0 * 9, none⟩) hb).trans q0'
    have q1 := (hb1.cell (p := ⟨b, o + 0 * 9 + 1, none⟩) hb).trans q1'
    have q2 := (hb1.cell (p := ⟨b, o + 0 * 9 + 2, none⟩) hb).trans q2'
    have q3 := (hb1.cell (p := ⟨b, o + 0 * 9 + 3, none⟩) hb).trans q3'
    have q4 := (hb1.cell (p := ⟨b, o + 0 * 9 + 4, none⟩) hb).trans q4'
    have q5 := (hb1.cell (p := ⟨b, o + 0 * 9 + 5, none⟩) hb).trans q5'
    have q6 := (hb1.cell (p := ⟨b, o + 0 * 9 + 6, none⟩) hb).trans q6'
    have q7 := (hb1.cell (p := ⟨b, o + 0 * 9 + 7, none⟩) hb).trans q7'
    have q8 := (hb1.cell (p := ⟨b, o + 0 * 9 + 8, none⟩) hb).trans q8'
    simp only [Nat.zero_mul, Nat.add_zero] at q0 q1 q2 q3 q4 q5 q6 q7 q8
    clear q0' q1' q2' q3' q4' q5' q6' q7' q8'
    have hz1 := hb1.size
    go_wp2_with fail
    refine (CU.out _).mono ?_
    rintro e w2 ⟨v, rfl, hv, hb2⟩
    obtain ⟨A2, c2, rfl, _⟩ := id hv
    clear CU
    go_wp2_with fail
    go_ret2
    have hB : Below w.heap.size w w2 := bnext (by repeat (first | with_reducible exact hb1 | with_reducible refine bal ?_ _ | with_reducible refine bset ?_ hz1 _)) hb2
    exact ⟨_, rfl, hv, hB⟩
  · have han : (je != 0) = true := by simpa using he
    have R : Hid (refitOf l z = ([], je)) := Lib.hid (by unfold refitOf; rw [hj, if_pos he])
    clear he hj
    go_enter Try.func26, Try.ntmps26
    go_wp2_with fail
    refine JC.out.mono ?_
    rintro e w1 ⟨rfl, hb1⟩
    clear JC
    go_wp2_with fail
    go_ret2
    rw [R.out]
    exact ⟨_, rfl, bnAt_nil _, hb1⟩
end Go.Proofs.Ytcifngefclgefaa
