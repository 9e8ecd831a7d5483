/- Contracts: states by value, compared. -/
import Derived.Test.YthkfdfkjenhjmaaJ2
namespace Go.Proofs.Ythkfdfkjenhjmaa
open Go.RowKit
set_option linter.unusedVariables false
set_option linter.unusedSimpArgs false

def RetV (d : Dr) (w : World) (e : Ending) (w' : World) : Prop := ∃ v, e = .returned v ∧ DrV w' v d ∧ Below w.heap.size w w'

set_option maxRecDepth 100000 in
set_option maxHeartbeats 2000000 in
theorem state_any (t : Int) (D : List Int) (v : Value) (w : World) (hD : IntAt w v D) :
    Calls Try.prog 29 #[.int .i64 t, v] w (RetV ⟨[1, 2, 4], 100, D, t⟩ w) := by
  obtain ⟨A, c, rfl, _⟩ := id hD
  have HD := Lib.hid hD
  clear hD
  go_enter Try.func29, Try.ntmps29
  go_wp2_with fail
  refine bodyPost_ret (v := .agg #[.slice (some ⟨w.heap.size + 1, 0, none⟩) 3 3, .int .i64 100, .slice A D.length c, .int .i64 t]) (by simp [results, Try.results29, go_sem]) rfl ⟨_, rfl, ⟨_, _, rfl, ?_, ?_⟩, (by repeat (first | with_reducible exact Below.refl _ _ | with_reducible refine Below.drew ?_ | with_reducible refine below_drewN ?_ _ | with_reducible refine bal ?_ _ | with_reducible refine bset ?_ (by first | (simp; done) | (simp; omega)) _ | with_reducible refine bnext ?_ (by assumption) | with_reducible assumption))⟩
  · exact lit_at (t := 3) (L := [1, 2, 4]) (Blk.new1 _ _ _ _) 3 rfl (by decide)
  · exact HD.out.below (by repeat (first | with_reducible exact Below.refl _ _ | with_reducible refine Below.drew ?_ | with_reducible refine below_drewN ?_ _ | with_reducible refine bal ?_ _ | with_reducible refine bset ?_ (by first | (simp; done) | (simp; omega)) _ | with_reducible refine bnext ?_ (by assumption) | with_reducible assumption))

set_option maxRecDepth 100000 in
set_option maxHeartbeats 2000000 in
theorem same_eq (d : Dr) (v u : Value) (w : World) (hV : DrV w v d) (hU : DrV w u d) :
    Calls Try.prog 19 #[v, u] w (RetB true w) := by
  obtain ⟨W, q, D, t⟩ := d
  obtain ⟨vW, vD, rfl, hW, hD⟩ := hV
  obtain ⟨uW, uD, rfl, hW', hD'⟩ := hU
  dsimp only at *
  have t1 : (q == q) = true := by simp
  have t2 : (t == t) = true := by simp
  have H1 := Lib.hid hW
  have H2 := Lib.hid hW'
  have H3 := Lib.hid hD
  have H4 := Lib.hid hD'
  clear hW hW' hD hD'
  go_enter Try.func19, Try.ntmps19
  go_wp2_with fail
  refine (SameInts_eq W _ _ _ ((H1.out.alloc _).alloc _) ((H2.out.alloc _).alloc _)).mono ?_
  rintro e w1 ⟨rfl, hb1⟩
  have hB1 : Below w.heap.size w w1 := bnext (bal (bal (Below.refl _ _) _) _) hb1
  have b1 := ((Blk.new w 24 #[vW, .int .i64 q, vD, .int .i64 t]).alloc (.cells #[uW, .int .i64 q, uD, .int .i64 t] 24)).below hb1
  have c1 := (Blk.new1 w (.cells #[vW, .int .i64 q, vD, .int .i64 t] 24) 24 #[uW, .int .i64 q, uD, .int .i64 t]).below hb1
  obtain ⟨x0, x1, x2, x3⟩ := b1.c4
  obtain ⟨y0, y1, y2, y3⟩ := c1.c4
  clear hb1 b1 c1
  go_wp2_with fail
  refine (SameInts_eq D _ _ _ (H3.out.below hB1) (H4.out.below hB1)).mono ?_
  rintro e w2 ⟨rfl, hb2⟩
  have hB2 := bnext hB1 hb2
  clear hb2
  go_wp2_with fail
  go_ret
  exact ⟨rfl, hB2⟩

set_option maxRecDepth 100000 in
set_option maxHeartbeats 2000000 in
theorem light_any (d : Dr) (v : Value) (w : World) (hV : DrV w v d) :
    Calls Try.prog 11 #[v] w (RetB (decide (d.W.length ≤ 10) && decide (d.D.length ≤ 10)) w) := by
  obtain ⟨W, q, D, t⟩ := d
  obtain ⟨vW, vD, rfl, hW, hD⟩ := hV
  obtain ⟨A, c, rfl, _⟩ := hW
  obtain ⟨A', c', rfl, _⟩ := hD
  dsimp only at *
  by_cases h1 : W.length ≤ 10
  · have t1 : (W.length : Int) ≤ 10 := by omega
    by_cases h2 : D.length ≤ 10
    · have t2 : (D.length : Int) ≤ 10 := by omega
      go_enter Try.func11, Try.ntmps11
      go_wp2_with fail
      go_ret
      exact ⟨by simp [h1, h2], (by repeat (first | with_reducible exact Below.refl _ _ | with_reducible refine Below.drew ?_ | with_reducible refine below_drewN ?_ _ | with_reducible refine bal ?_ _ | with_reducible refine bset ?_ (by first | (simp; done) | (simp; omega)) _ | with_reducible refine bnext ?_ (by assumption) | with_reducible assumption))⟩
    · have t2 : ¬ (D.length : Int) ≤ 10 := by omega
      go_enter Try.func11, Try.ntmps11
      go_wp2_with fail
      go_ret
      exact ⟨by simp [h1, h2], (by repeat (first | with_reducible exact Below.refl _ _ | with_reducible refine Below.drew ?_ | with_reducible refine below_drewN ?_ _ | with_reducible refine bal ?_ _ | with_reducible refine bset ?_ (by first | (simp; done) | (simp; omega)) _ | with_reducible refine bnext ?_ (by assumption) | with_reducible assumption))⟩
  · have t1 : ¬ (W.length : Int) ≤ 10 := by omega
    go_enter Try.func11, Try.ntmps11
    go_wp2_with fail
    go_ret
    exact ⟨by simp [h1], (by repeat (first | with_reducible exact Below.refl _ _ | with_reducible refine Below.drew ?_ | with_reducible refine below_drewN ?_ _ | with_reducible refine bal ?_ _ | with_reducible refine bset ?_ (by first | (simp; done) | (simp; omega)) _ | with_reducible refine bnext ?_ (by assumption) | with_reducible assumption))⟩
end Go.Proofs.Ythkfdfkjenhjmaa
