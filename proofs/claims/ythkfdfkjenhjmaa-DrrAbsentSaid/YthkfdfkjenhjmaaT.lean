/- Contract: DrrKnown. -/
import Derived.Test.YthkfdfkjenhjmaaP
import Derived.Test.YthkfdfkjenhjmaaRow
namespace Go.Proofs.Ythkfdfkjenhjmaa
open Go.RowKit Go.Conc
set_option linter.unusedVariables false
set_option linter.unusedSimpArgs false

theorem DrV.form' {w : World} {v : Value} {d : Dr} (h : DrV w v d) : ∃ A n c A' n' c', v = .agg #[.slice A n c, .int .i64 d.q, .slice A' n' c', .int .i64 d.t] := by
  obtain ⟨vW, vD, rfl, h1, h2⟩ := h
  obtain ⟨A, c, rfl, _⟩ := h1
  obtain ⟨A', c', rfl, _⟩ := h2
  exact ⟨_, _, _, _, _, _, rfl⟩
def dK1 : Dr := ⟨[1, 2, 4], 100, [0, 0, 300], 2⟩
def dK2 : Dr := ⟨[1, 2, 4], 100, [50, 0, 0], 0⟩
theorem nk1 : nxt d400 [100, 100, 100] = (2, dK1, 0) := by decide +kernel
theorem nk1' : trn d400 [100, 100, 100] = (0, 0) := by decide +kernel
theorem nk2 : nxt d400 [250, 0, 0] = (0, dK2, 0) := by decide +kernel
theorem nk2' : trn d400 [250, 0, 0] = (8, 0) := by decide +kernel
theorem nk3 : nxt d400 [0, 0, 0] = (0, zDr, 8) := by decide +kernel
theorem nk4 : nxt d400 [1201, 0, 0] = (0, zDr, 2) := by decide +kernel
theorem nk5 : newD [1, 2] 100 = (zDr, 3) := by decide +kernel
theorem nk6 : newD [0, 1, 1] 100 = (zDr, 2) := by decide +kernel

set_option maxRecDepth 100000 in
set_option maxHeartbeats 4000000 in
theorem DrrKnown_t (w : World) : Calls Try.prog 6 #[] w (RetB true w) := by
  go_enter Try.func6, Try.ntmps6
  go_wp2_with fail
  refine (state_any 2 [0, 0, 400] _ _ (lit_at (t := 3) (L := [0, 0, 400]) (Blk.new _ _ _) 3 rfl (by decide))).mono ?_
  rintro e w1 ⟨v1, rfl, hv1, hb1⟩
  have hB1 : Below w.heap.size w w1 := bnext (bal (Below.refl _ _) _) hb1
  clear hb1
  go_wp2_with fail
  refine (Next_to nk3 _ _ _ (hv1.alloc _) (lit_at (t := 3) (L := [0, 0, 0]) (Blk.new _ _ _) 3 rfl (by decide))).mono ?_
  rintro e w2 ⟨v2, rfl, hv2, hb2⟩
  have hB2 : Below w.heap.size w w2 := bnext (bal hB1 _) hb2
  obtain ⟨A2, n2, c2, B2, m2, e2, rfl⟩ := hv2.form'
  clear hb2 hv2 hv1 hB1
  dsimp only [zDr] at *
  go_wp2_with fail
  refine (state_any 2 [0, 0, 400] _ _ (lit_at (t := 3) (L := [0, 0, 400]) (Blk.new1 _ _ _ _) 3 rfl (by decide))).mono ?_
  rintro e w3 ⟨v3, rfl, hv3, hb3⟩
  have hB3 : Below w.heap.size w w3 := bnext (bal (bal hB2 _) _) hb3
  clear hb3 hB2
  go_wp2_with fail
  refine (Next_to nk4 _ _ _ (hv3.alloc _) (lit_at (t := 3) (L := [1201, 0, 0]) (Blk.new _ _ _) 3 rfl (by decide))).mono ?_
  rintro e w4 ⟨v4, rfl, hv4, hb4⟩
  have hB4 : Below w.heap.size w w4 := bnext (bal hB3 _) hb4
  obtain ⟨A4, n4, c4, B4, m4, e4, rfl⟩ := hv4.form'
  clear hb4 hv4 hv3 hB3
  dsimp only [zDr] at *
  go_wp2_with fail
  refine (New_to nk5 _ _ (lit_at (t := 3) (L := [1, 2]) (Blk.new1 _ _ _ _) 2 rfl (by decide))).mono ?_
  rintro e w5 ⟨v5, rfl, hv5, hb5⟩
  have hB5 : Below w.heap.size w w5 := bnext (bal (bal hB4 _) _) hb5
  obtain ⟨A5, n5, c5, B5, m5, e5, rfl⟩ := hv5.form'
  clear hb5 hv5 hB4
  dsimp only [zDr] at *
  go_wp2_with fail
  refine (New_to nk6 _ _ (lit_at (t := 3) (L := [0, 1, 1]) (Blk.new1 _ _ _ _) 3 rfl (by decide))).mono ?_
  rintro e w6 ⟨v6, rfl, hv6, hb6⟩
  have hB6 : Below w.heap.size w w6 := bnext (bal (bal hB5 _) _) hb6
  obtain ⟨A6, n6, c6, B6, m6, e6, rfl⟩ := hv6.form'
  clear hb6 hv6 hB5
  dsimp only [zDr] at *
  go_wp2_with fail
  refine (awake_t _).mono ?_
  rintro e w7 ⟨rfl, hb7⟩
  have hB7 : Below w.heap.size w w7 := bnext (bal hB6 _) hb7
  clear hb7 hB6
  go_wp2_with fail
  refine (state_any 2 [0, 0, 300] _ _ (lit_at (t := 3) (L := [0, 0, 300]) (Blk.new1 _ _ _ _) 3 rfl (by decide))).mono ?_
  rintro e w8 ⟨v8, rfl, hv8, hb8⟩
  have hB8 : Below w.heap.size w w8 := bnext (bal (bal hB7 _) _) hb8
  have r8 : IntAt w8 (.slice (some ⟨w7.heap.size, 0, none⟩) 3 3) [100, 100, 100] := SlAt.below (lit_at (t := 3) (L := [100, 100, 100]) ((Blk.new _ _ _).alloc _) 3 rfl (by decide)) hb8
  clear hb8 hB7
  go_wp2_with fail
  refine (serves_t [100, 100, 100] 2 0 dK1 nk1 nk1' rfl rfl _ _ _ r8 hv8).mono ?_
  rintro e w9 ⟨rfl, hb9⟩
  have hB9 : Below w.heap.size w w9 := bnext hB8 hb9
  clear hb9 hB8 r8 hv8
  go_wp2_with fail
  refine (state_any 0 [50, 0, 0] _ _ (lit_at (t := 3) (L := [50, 0, 0]) (Blk.new1 _ _ _ _) 3 rfl (by decide))).mono ?_
  rintro e wa ⟨va, rfl, hva, hba⟩
  have hBa : Below w.heap.size w wa := bnext (bal (bal hB9 _) _) hba
  have ra : IntAt wa (.slice (some ⟨w9.heap.size, 0, none⟩) 3 3) [250, 0, 0] := SlAt.below (lit_at (t := 3) (L := [250, 0, 0]) ((Blk.new _ _ _).alloc _) 3 rfl (by decide)) hba
  clear hba hB9
  go_wp2_with fail
  refine (serves_t [250, 0, 0] 0 8 dK2 nk2 nk2' rfl rfl _ _ _ ra hva).mono ?_
  rintro e wb ⟨rfl, hbb⟩
  go_wp2_with fail
  go_ret
  exact ⟨rfl, bnext hBa hbb⟩
end Go.Proofs.Ythkfdfkjenhjmaa
