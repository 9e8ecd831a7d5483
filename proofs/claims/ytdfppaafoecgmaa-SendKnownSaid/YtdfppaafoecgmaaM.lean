/- SendAgain: the walk. -/
import Derived.Test.YtdfppaafoecgmaaL
namespace Go.Proofs.Ytdfppaafoecgmaa
open Go.RowKit
set_option linter.unusedVariables false
set_option linter.unusedSimpArgs false

/-- a slice of numbers that came in -/
theorem slAt_row {k : IntKind} {w : World} {a : Option Addr} {len cap : Nat} {zs : List Int}
    (h : (a = none ∧ len = 0 ∧ cap = 0 ∧ zs = []) ∨ ∃ x, a = some x ∧ len ≤ cap ∧ cap ≤ maxLen ∧ zs.length = cap ∧ (∀ i, i < zs.length → w.cell? (x.add i) = some (.int k (zs.getD i 0))) ∧ ∀ n ∈ zs, (Lit.int k n).wf = true) :
    ∃ xs : List Int, xs.length = len ∧ SlAt w 1 (.slice a len cap) len (xs.map (.int k)) ∧ ∀ n ∈ xs, (Lit.int k n).wf = true := by
  rcases h with ⟨rfl, rfl, rfl, rfl⟩ | ⟨x, rfl, hl, hm, hz, hc, hw⟩
  · exact ⟨[], rfl, SlAt.nil w 1, by simp⟩
  · refine ⟨zs.take len, by rw [List.length_take]; omega, ⟨some x, cap, rfl, hl, hm, by rw [List.length_map, List.length_take]; omega, fun hn => ?_⟩, fun n hn => hw n (List.mem_of_mem_take hn)⟩
    have h0 := hc 0 (by omega)
    obtain ⟨b, o, s⟩ := x
    have hs : s = none := by
      cases s with
      | none => rfl
      | some j =>
        exfalso
        unfold Addr.add World.cell? at h0
        simp at h0
        split at h0 <;> cases h0
    subst hs
    refine ⟨b, o, rfl, World.block_lt_of_cell? w _ h0, fun j u hj => ?_⟩
    have hj1 := (List.getElem?_eq_some_iff.1 hj).1
    rw [List.length_map, List.length_take] at hj1
    have hj2 : j < zs.length := by omega
    have q := hc j hj2
    have e : ((⟨b, o, none⟩ : Addr).add j) = ⟨b, o + j, none⟩ := by unfold Addr.add; split <;> simp_all
    rw [e] at q
    rw [q, ← hj, List.getElem?_map, List.getElem?_take, if_pos (by omega), List.getD_eq_getElem?_getD, List.getElem?_eq_getElem hj2]
    rfl

theorem grant_first {s : Led} (hk : okL s) (hw : Wf s) {t : Int} (h0 : 0 ≤ t) (h1 : t < 1125899906842624) : ∃ a k, grant s t = (a, k, 0) ∧ okL a ∧ Wf a ∧ t ≤ a.g := by
  by_cases h : t ≤ s.g
  · exact ⟨s, 0, by unfold grant; rw [if_neg (fun h => h hk), if_neg (by omega), if_pos h], hk, hw, h⟩
  · refine ⟨{ s with g := t }, t - s.g, by unfold grant; rw [if_neg (fun h => h hk), if_neg (by omega), if_neg h], ?_, ?_, Int.le_refl _⟩
    · obtain ⟨a, b, c, d, e⟩ := (okL_iff s).1 hk
      exact (okL_iff _).2 ⟨by show t ≤ _; omega, by show s.r ≤ t; omega, by show s.n ≤ t - s.r; omega, d, e⟩
    · exact ⟨⟨h0, by show t ≤ _; omega⟩, hw.2⟩
theorem grant_again {s : Led} (hk : okL s) {t : Int} (h : t ≤ s.g) : grant s t = (s, 0, 0) := by
  have hg := ((okL_iff s).1 hk).1
  unfold grant
  rw [if_neg (fun h => h hk), if_neg (by omega), if_pos h]
theorem Grant_res {s a : Led} {k t : Int} (h : grant s t = (a, k, 0)) (hw : Wf s) (v : Value) (w : World) (hS : SlAt w 5 v s.sl.length (flat s.sl)) :
    Calls Try.prog 10 #[.agg #[.int .u64 s.g, .int .u64 s.n, .int .u64 s.r, v], .int .u64 t] w (LedRes a k 0 w) :=
  (Grant_any s hw t v w hS).mono fun _ _ hp => ledRes_of h hp

set_option maxRecDepth 100000 in
set_option maxHeartbeats 4000000 in
theorem SendAgain_t (xs : List Int) (one two : Int) (h1 : 0 ≤ one) (h2 : 0 ≤ two) (v : Value) (w : World) (hS : SlAt w 1 v xs.length (ints xs)) :
    Calls Try.prog 3 #[v, .int .u64 one, .int .u64 two] w (RetB true w) := by
  obtain ⟨o, ho⟩ : ∃ o, one.tmod 1125899906842624 = o := ⟨_, rfl⟩
  have ho0 : 0 ≤ o ∧ o < 1125899906842624 := by rw [← ho, Int.tmod_eq_emod_of_nonneg h1]; omega
  obtain ⟨p, hp⟩ : ∃ p, two.tmod 1125899906842624 = p := ⟨_, rfl⟩
  have hp0 : 0 ≤ p ∧ p < 1125899906842624 := by rw [← hp, Int.tmod_eq_emod_of_nonneg h2]; omega
  obtain ⟨M, hM⟩ : ∃ M, (if o < p then p else o) = M := ⟨_, rfl⟩
  obtain ⟨m, hm⟩ : ∃ m, (if p < o then p else o) = m := ⟨_, rfl⟩
  have hMm : 0 ≤ m ∧ m ≤ M ∧ M < 1125899906842624 ∧ 0 ≤ M := by rw [← hM, ← hm]; split <;> split <;> omega
  obtain ⟨hm0, hmM, hM1, hM0⟩ := hMm
  go_enter Try.func3, Try.ntmps3
  go_wp2_with fail
  refine (Ledger_any xs v w hS).mono ?_
  rintro e w1 ⟨s, A, c, hI, rfl, hown, hb1⟩
  obtain ⟨hk, hw⟩ := ledI_ok hI (by decide)
  obtain ⟨a, k, hga, hka, hwa, hla⟩ := grant_first hk hw hM0 hM1
  have G1 := Grant_res hga hw
  have G2 := Grant_res (grant_again hka (Int.le_trans hmM hla)) hwa
  have G3 := Grant_res (grant_again hka hla) hwa
  have HS := Lib.hid (SlAt.own hown)
  clear hown hS hga hka hwa hla hI hk hw
  obtain ⟨sg, sn, sr, sl⟩ := s
  obtain ⟨ag, an, ar, al⟩ := a
  dsimp only at *
  have E1 := fun (v v' : Value) (w : World) => same_t ⟨ag, an, ar, al⟩ v v' w
  dsimp only at E1
  go_wp2_with fail
  refine (G1 _ _ (HS.out.alloc _)).mono ?_
  rintro e w2 ⟨A2, c2, rfl, hown, hb2⟩
  have HA := Lib.hid (SlAt.own hown)
  have hB1 : Below w.heap.size w w1 := hb1
  have hB2 : Below w.heap.size w w2 := bnext (bal hB1 _) hb2
  clear hown
  dsimp only at *
  go_wp2_with fail
  refine (G2 _ _ (HA.out.alloc _)).mono ?_
  rintro e w3 ⟨A3, c3, rfl, hown, hb3⟩
  have HA3 := Lib.hid (SlAt.own hown)
  have HA2 := Lib.hid ((HA.out.alloc (.cells #[.int .u64 ag, .int .u64 an, .int .u64 ar, .slice A2 al.length c2] 26)).below hb3)
  have k8 := (Blk.new w2 26 #[.int .u64 ag, .int .u64 an, .int .u64 ar, .slice A2 al.length c2]).below hb3
  have hB3 : Below w.heap.size w w3 := bnext (bal hB2 _) hb3
  clear hown
  dsimp only at *
  go_wp2_with fail
  refine (G3 _ _ (HA3.out.alloc _)).mono ?_
  rintro e w4 ⟨A4, c4, rfl, hown, hb4⟩
  have HA4 := Lib.hid (SlAt.own hown)
  have HB2 := Lib.hid ((HA2.out.alloc (.cells #[.int .u64 ag, .int .u64 an, .int .u64 ar, .slice A3 al.length c3] 26)).below hb4)
  have HB3 := Lib.hid ((HA3.out.alloc (.cells #[.int .u64 ag, .int .u64 an, .int .u64 ar, .slice A3 al.length c3] 26)).below hb4)
  have k8' := (k8.alloc (.cells #[.int .u64 ag, .int .u64 an, .int .u64 ar, .slice A3 al.length c3] 26)).below hb4
  have k11 := (Blk.new w3 26 #[.int .u64 ag, .int .u64 an, .int .u64 ar, .slice A3 al.length c3]).below hb4
  have hB4 : Below w.heap.size w w4 := bnext (bal hB3 _) hb4
  clear hown k8
  dsimp only at *
  obtain ⟨W, hW⟩ : ∃ W, w4.alloc (.cells #[.int .u64 ag, .int .u64 an, .int .u64 ar, .slice A4 al.length c4] 26) = W := ⟨_, rfl⟩
  have hBW : Below w.heap.size w W := by rw [← hW]; exact bal hB4 _
  have K8 : Blk W w2.heap.size 26 #[.int .u64 ag, .int .u64 an, .int .u64 ar, .slice A2 al.length c2] := by rw [← hW]; exact k8'.alloc _
  have K11 : Blk W w3.heap.size 26 #[.int .u64 ag, .int .u64 an, .int .u64 ar, .slice A3 al.length c3] := by rw [← hW]; exact k11.alloc _
  have K14 : Blk W w4.heap.size 26 #[.int .u64 ag, .int .u64 an, .int .u64 ar, .slice A4 al.length c4] := by rw [← hW]; exact Blk.new _ _ _
  have S2 : Hid (SlAt W 5 (.slice A2 al.length c2) al.length (flat al)) := by rw [← hW]; exact HB2.out.alloc _
  have S3 : Hid (SlAt W 5 (.slice A3 al.length c3) al.length (flat al)) := by rw [← hW]; exact HB3.out.alloc _
  have S4 : Hid (SlAt W 5 (.slice A4 al.length c4) al.length (flat al)) := by rw [← hW]; exact HA4.out.alloc _
  clear HA HA2 HA3 HA4 HB2 HB3 k8' k11 G1 G2 G3 hb1 hb2 hb3 hb4 hB1 hB2 hB3 hB4 HS
  go_upto_region 6 with fail
  try rw [hW]
  clear hW
  obtain ⟨x0, x1, x2, x3⟩ := K8.c4
  obtain ⟨y0, y1, y2, y3⟩ := K11.c4
  go_wp2_with fail
  refine (E1 _ _ W S2.out S3.out).mono ?_
  rintro e w5 ⟨rfl, hb5⟩
  obtain ⟨x0, x1, x2, x3⟩ := (K8.below hb5).c4
  obtain ⟨y0, y1, y2, y3⟩ := (K14.below hb5).c4
  go_wp2_with fail
  refine (E1 _ _ w5 (S2.out.below hb5) (S4.out.below hb5)).mono ?_
  rintro e w6 ⟨rfl, hb6⟩
  go_wp2_with fail
  refine (awake_t _).mono ?_
  rintro e w7 ⟨rfl, hb7⟩
  go_wp2_with fail
  go_ret
  exact ⟨rfl, (by repeat (first | with_reducible exact Below.refl _ _ | with_reducible refine Below.drew ?_ | with_reducible refine below_drewN ?_ _ | with_reducible refine bal ?_ _ | with_reducible refine bset ?_ (by first | (simp; done) | (simp; omega)) _ | with_reducible refine bnext ?_ (by assumption) | with_reducible assumption))⟩
end Go.Proofs.Ytdfppaafoecgmaa
