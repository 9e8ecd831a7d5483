/- Contracts: a grant, and giving back. -/
import Derived.Test.YtdfppaafoecgmaaE
namespace Go.Proofs.Ytdfppaafoecgmaa
open Go.RowKit
set_option linter.unusedVariables false
set_option linter.unusedSimpArgs false

def LedPost (res : Led × Int × Int) (w : World) (e : Ending) (w' : World) : Prop :=
  ∃ v', e = .returned (.tuple #[.agg #[.int .u64 res.1.g, .int .u64 res.1.n, .int .u64 res.1.r, v'], .int .u64 res.2.1, .int .i64 res.2.2]) ∧ OwnL w w' v' res.1.sl ∧ Below w.heap.size w w'

/-- an opened ledger that is valid -/
theorem opened_ok (s : Led) (hw : Wf s) (v : Value) (w : World) (hS : SlAt w 5 v s.sl.length (flat s.sl)) (hk : okL s) :
    Calls Try.prog 35 #[.agg #[.int .u64 s.g, .int .u64 s.n, .int .u64 s.r, v]] w (fun e w' => ∃ A c, e = .returned (.tuple #[.agg #[.int .u64 s.g, .int .u64 s.n, .int .u64 s.r, .slice A s.sl.length c], .int .i64 0]) ∧ OwnL w w' (.slice A s.sl.length c) s.sl ∧ Below w.heap.size w w') :=
  (opened_any s hw v w hS).mono fun e w' ⟨v', he, ho, hb⟩ => by
    rw [show opn s = s from if_pos hk, show (chk s).1 = 0 from hk] at he
    rw [show opn s = s from if_pos hk] at ho
    obtain ⟨A, c, rfl, _⟩ := SlAt.own ho
    exact ⟨A, c, he, ho, hb⟩
theorem opened_no (s : Led) (hw : Wf s) (v : Value) (w : World) (hS : SlAt w 5 v s.sl.length (flat s.sl)) (hk : ¬ okL s) :
    Calls Try.prog 35 #[.agg #[.int .u64 s.g, .int .u64 s.n, .int .u64 s.r, v]] w (fun e w' => ∃ A c, e = .returned (.tuple #[.agg #[.int .u64 0, .int .u64 0, .int .u64 0, .slice A 0 c], .int .i64 (chk s).1]) ∧ Below w.heap.size w w') :=
  (opened_any s hw v w hS).mono fun e w' ⟨v', he, ho, hb⟩ => by
    rw [show opn s = ⟨0, 0, 0, []⟩ from if_neg hk] at he ho
    obtain ⟨A, c, rfl, _⟩ := SlAt.own ho
    exact ⟨A, c, he, hb⟩

set_option maxRecDepth 100000 in
set_option maxHeartbeats 2000000 in
theorem Grant_any (s : Led) (hw : Wf s) (t : Int) (v : Value) (w : World) (hS : SlAt w 5 v s.sl.length (flat s.sl)) :
    Calls Try.prog 10 #[.agg #[.int .u64 s.g, .int .u64 s.n, .int .u64 s.r, v], .int .u64 t] w (LedPost (grant s t) w) := by
  obtain ⟨A, c, rfl, hc1, hc2, _⟩ := id hS
  have HS := Lib.hid hS
  have HW := Lib.hid hw
  clear hS hw
  by_cases hk : okL s
  · have hn := okL_nums hk
    have hg0 := HW.out.1.1
    have HK := Lib.hid hk
    clear hk
    go_enter Try.func10, Try.ntmps10
    go_wp2_with fail
    refine (opened_ok s HW.out _ _ ((HS.out.alloc _).alloc _) HK.out).mono ?_
    rintro e w1 ⟨A', c', rfl, hown, hb1⟩
    have hB1 : Below w.heap.size w w1 := bnext (bal (bal (Below.refl _ _) _) _) hb1
    have k1 := ((Blk.new1 w (.cells #[.int .u64 s.g, .int .u64 s.n, .int .u64 s.r, .slice A s.sl.length c] 26) 26 #[.int .u64 0, .int .u64 0, .int .u64 0, .slice none 0 0]).below hb1)
    obtain ⟨d0, d1, d2, d3⟩ := k1.c4
    obtain ⟨f0, f1, f2, f3⟩ := k1.f4
    have hz := hb1.size
    simp at hz
    have hlt : w.heap.size + 1 < w1.heap.size := by omega
    have hne : ¬ w.heap.size + 1 = w1.heap.size := by omega
    have HO := Lib.hid (own_mono hown (by simp : w.heap.size + 2 ≤ _))
    clear hb1 k1 hown
    by_cases ht : 1125899906842624 < t
    · have G : Hid (grant s t = (⟨0, 0, 0, []⟩, 0, 2)) := by show (if _ then _ else _) = _; rw [if_neg (fun h => h HK.out), if_pos ht]
      go_wp2_with fail
      refine bodyPost_ret (v := .tuple #[.agg #[.int .u64 0, .int .u64 0, .int .u64 0, .slice none 0 0], .int .u64 0, .int .i64 2]) (by simp [results, Try.results10, go_sem, d0, d1, d2, d3, hlt, hne]) rfl ⟨.slice none 0 0, ?_, ?_, ?_⟩
      · rw [G.out]
      · rw [G.out]; exact World.ownsRow_nil _ _ _ _
      · exact (by repeat (first | with_reducible exact Below.refl _ _ | with_reducible refine Below.drew ?_ | with_reducible refine below_drewN ?_ _ | with_reducible refine bal ?_ _ | with_reducible refine bset ?_ (by first | (simp; done) | (simp; omega)) _ | with_reducible refine bnext ?_ (by assumption) | with_reducible assumption))
    · by_cases hg : t ≤ s.g
      · have G : Hid (grant s t = (s, 0, 0)) := by show (if _ then _ else _) = _; rw [if_neg (fun h => h HK.out), if_neg ht, if_pos hg]
        go_wp2_with fail
        go_region
        all_goals
          go_wp2_with fail
          refine bodyPost_ret (v := .tuple #[.agg #[.int .u64 s.g, .int .u64 s.n, .int .u64 s.r, .slice A' s.sl.length c'], .int .u64 0, .int .i64 0]) (by simp [results, Try.results10, go_sem, d0, d1, d2, d3, hlt, hne]) rfl ⟨.slice A' s.sl.length c', ?_, ?_, ?_⟩
          · rw [G.out]
          · rw [G.out]
            refine own_mono (base := w.heap.size + 2) ?_ (by omega)
            repeat (first | with_reducible exact HO.out | with_reducible refine World.ownsRow.drew ?_ | with_reducible refine World.ownsRow.alloc ?_ _ | with_reducible refine ownsRow_setCell_below ?_ (by simp) _)
          · exact (by repeat (first | with_reducible exact Below.refl _ _ | with_reducible refine Below.drew ?_ | with_reducible refine below_drewN ?_ _ | with_reducible refine bal ?_ _ | with_reducible refine bset ?_ (by first | (simp; done) | (simp; omega)) _ | with_reducible refine bnext ?_ (by assumption) | with_reducible assumption))
      · have hg' : s.g < t := by omega
        have G : Hid (grant s t = ({ s with g := t }, t - s.g, 0)) := by show (if _ then _ else _) = _; rw [if_neg (fun h => h HK.out), if_neg ht, if_neg hg]
        clear hg
        go_wp2_with fail
        go_region
        all_goals
          go_wp2_with fail
          refine bodyPost_ret (v := .tuple #[.agg #[.int .u64 t, .int .u64 s.n, .int .u64 s.r, .slice A' s.sl.length c'], .int .u64 (t - s.g), .int .i64 0]) (by simp [results, Try.results10, go_sem, d0, d1, d2, d3, hlt, hne]) rfl ⟨.slice A' s.sl.length c', ?_, ?_, ?_⟩
          · rw [G.out]
          · rw [G.out]
            refine own_mono (base := w.heap.size + 2) ?_ (by omega)
            repeat (first | with_reducible exact HO.out | with_reducible refine World.ownsRow.drew ?_ | with_reducible refine World.ownsRow.alloc ?_ _ | with_reducible refine ownsRow_setCell_below ?_ (by simp) _)
          · exact (by repeat (first | with_reducible exact Below.refl _ _ | with_reducible refine Below.drew ?_ | with_reducible refine below_drewN ?_ _ | with_reducible refine bal ?_ _ | with_reducible refine bset ?_ (by first | (simp; done) | (simp; omega)) _ | with_reducible refine bnext ?_ (by assumption) | with_reducible assumption))
  · have HK := Lib.hid hk
    have hne : ((chk s).1 != 0) = true := by rw [bne_iff_ne]; exact hk
    have heq : ((chk s).1 == 0) = false := by rw [beq_eq_false_iff_ne]; exact hk
    have G : Hid (grant s t = (⟨0, 0, 0, []⟩, 0, (chk s).1)) := if_pos hk
    clear hk
    go_enter Try.func10, Try.ntmps10
    go_wp2_with fail
    refine (opened_no s HW.out _ _ ((HS.out.alloc _).alloc _) HK.out).mono ?_
    rintro e w1 ⟨A', c', rfl, hb1⟩
    have hB1 : Below w.heap.size w w1 := bnext (bal (bal (Below.refl _ _) _) _) hb1
    have k1 := ((Blk.new1 w (.cells #[.int .u64 s.g, .int .u64 s.n, .int .u64 s.r, .slice A s.sl.length c] 26) 26 #[.int .u64 0, .int .u64 0, .int .u64 0, .slice none 0 0]).below hb1)
    obtain ⟨d0, d1, d2, d3⟩ := k1.c4
    obtain ⟨f0, f1, f2, f3⟩ := k1.f4
    have hz := hb1.size
    simp at hz
    have hlt : w.heap.size + 1 < w1.heap.size := by omega
    have hne' : ¬ w.heap.size + 1 = w1.heap.size := by omega
    clear hb1 k1
    go_wp2_with fail
    refine bodyPost_ret (v := .tuple #[.agg #[.int .u64 0, .int .u64 0, .int .u64 0, .slice none 0 0], .int .u64 0, .int .i64 (chk s).1]) (by simp [results, Try.results10, go_sem, d0, d1, d2, d3, hlt, hne']) rfl ⟨.slice none 0 0, ?_, ?_, ?_⟩
    · rw [G.out]
    · rw [G.out]; exact World.ownsRow_nil _ _ _ _
    · exact (by repeat (first | with_reducible exact Below.refl _ _ | with_reducible refine Below.drew ?_ | with_reducible refine below_drewN ?_ _ | with_reducible refine bal ?_ _ | with_reducible refine bset ?_ (by first | (simp; done) | (simp; omega)) _ | with_reducible refine bnext ?_ (by assumption) | with_reducible assumption))
end Go.Proofs.Ytdfppaafoecgmaa
