/- Contract: DrrNew. -/
import Derived.Test.YthkfdfkjenhjmaaP
import Derived.Test.YthkfdfkjenhjmaaRow
namespace Go.Proofs.Ythkfdfkjenhjmaa
open Go.RowKit Go.Conc
set_option linter.unusedVariables false
set_option linter.unusedSimpArgs false

theorem DrV.form {w : World} {v : Value} {d : Dr} (h : DrV w v d) : ∃ A n c A' n' c', v = .agg #[.slice A n c, .int .i64 d.q, .slice A' n' c', .int .i64 d.t] := by
  obtain ⟨vW, vD, rfl, h1, h2⟩ := h
  obtain ⟨A, c, rfl, _⟩ := h1
  obtain ⟨A', c', rfl, _⟩ := h2
  exact ⟨_, _, _, _, _, _, rfl⟩
theorem rNew_to {W : List Int} {q e : Int} {d : Dr} (h : newD W q = (d, e)) (v : Value) (w : World) (hW : IntAt w v W) : Calls Try.prog 26 #[v, .int .i64 q] w (RetDE d e w) := by
  have := rNew_any W q v w hW
  rwa [h] at this

set_option maxRecDepth 100000 in
set_option maxHeartbeats 4000000 in
theorem DrrNew_t (W : List Int) (q : Int) (v : Value) (w : World) (hV : IntAt w v W) :
    Calls Try.prog 4 #[v, .int .i64 q] w (RetB true w) := by
  obtain ⟨d, e0, hN⟩ : ∃ d e, newD W q = (d, e) := ⟨_, _, rfl⟩
  have HV := Lib.hid hV
  have HN := Lib.hid hN
  obtain ⟨A0, c0, rfl, hle, hmax, hrow⟩ := hV
  clear hrow hN
  by_cases hl : 10 < W.length
  · have t1 : (10 < (W.length : Int)) := by omega
    go_enter Try.func4, Try.ntmps4
    go_wp2_with fail
    refine (awake_t _).mono ?_
    rintro e w1 ⟨rfl, hb1⟩
    go_wp2_with fail
    go_ret
    exact ⟨rfl, hb1⟩
  have t1 : ¬ (10 < (W.length : Int)) := by omega
  go_enter Try.func4, Try.ntmps4
  go_wp2_with fail
  refine (OwnInts_any W _ _ HV.out (by omega)).mono ?_
  rintro e w1 ⟨u1, k1, rfl, hu1, hb1⟩
  go_wp2_with fail
  refine (New_to HN.out _ _ (OwnI.at hu1)).mono ?_
  rintro e w2 ⟨v2, rfl, hv2, hb2⟩
  obtain ⟨A1, n1, k1, B1, m1, j1, rfl⟩ := hv2.form
  have hB2 : Below w.heap.size w w2 := bnext hb1 hb2
  have V2 := Lib.hid hv2
  clear hb1 hb2 hu1 hv2
  go_wp2_with fail
  refine (rNew_to HN.out _ _ (SlAt.alloc (SlAt.below HV.out hB2) _)).mono ?_
  rintro e w3 ⟨v3, rfl, hv3, hb3⟩
  obtain ⟨A2, n2, k2, B2, m2, j2, rfl⟩ := hv3.form
  have hB3 : Below w.heap.size w w3 := bnext (bal hB2 _) hb3
  have X3 := Lib.hid ((Blk.new w2 24 #[.slice A1 n1 k1, .int .i64 d.q, .slice B1 m1 j1, .int .i64 d.t]).below hb3)
  have V3 := Lib.hid ((V2.out.alloc _).below hb3)
  have U3 := Lib.hid hv3
  obtain ⟨c0, c1, c2, c3⟩ := X3.out.c4
  have l3 := X3.out.lt
  clear hb3 hv3 V2
  go_wp2_with fail
  refine (same_eq d _ _ _ (V3.out.alloc _) (U3.out.alloc _)).mono ?_
  rintro e w4 ⟨rfl, hb4⟩
  have hB4 : Below w.heap.size w w4 := bnext (bal hB3 _) hb4
  clear hb4
  go_wp2_with fail
  refine (awake_t _).mono ?_
  rintro e w5 ⟨rfl, hb5⟩
  go_wp2_with fail
  go_ret
  exact ⟨rfl, bnext hB4 hb5⟩
end Go.Proofs.Ythkfdfkjenhjmaa
