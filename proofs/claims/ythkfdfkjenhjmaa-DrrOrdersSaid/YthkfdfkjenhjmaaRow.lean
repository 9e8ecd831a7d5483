/- Arguments that came in, read as the walks want them. -/
import Derived.Test.YthkfdfkjenhjmaaBase
namespace Go.Proofs.Ythkfdfkjenhjmaa
open Go.RowKit
set_option linter.unusedVariables false
set_option linter.unusedSimpArgs false

/-- a slice of numbers that came in -/
theorem slAt_row {k : IntKind} {w : World} {a : Option Addr} {len cap : Nat} {zs : List Int}
    (h : (a = none ∧ len = 0 ∧ cap = 0 ∧ zs = []) ∨ ∃ x, a = some x ∧ len ≤ cap ∧ cap ≤ maxLen ∧ zs.length = cap ∧ (∀ i, i < zs.length → w.cell? (x.add i) = some (.int k (zs.getD i 0))) ∧ ∀ n ∈ zs, (Lit.int k n).wf = true) :
    ∃ xs : List Int, xs.length = len ∧ SlAt w 1 (.slice a len cap) len (xs.map (.int k)) ∧ ∀ n ∈ xs, (Lit.int k n).wf = true := by
  rcases h with ⟨rfl, rfl, rfl, rfl⟩ | ⟨x, rfl, hl, hm, hz, hc, hw⟩
  · exact ⟨[], rfl, SlAt.nil w 1, by simp⟩
  · refine ⟨zs.take len, by rw [List.length_take]; omega, ⟨some x, cap, rfl, hl, hm, by rw [List.length_map, List.length_take]; omega, fun hn => ?_⟩, fun n hn => hw n (List.mem_of_mem_take hn)⟩
    have h0 := hc 0 (by omega)
    obtain ⟨b, o, s⟩ := x
    have hs : s = none := by
      cases s with
      | none => rfl
      | some j =>
        exfalso
        unfold Addr.add World.cell? at h0
        simp at h0
        split at h0 <;> cases h0
    subst hs
    refine ⟨b, o, rfl, World.block_lt_of_cell? w _ h0, fun j u hj => ?_⟩
    have hj1 := (List.getElem?_eq_some_iff.1 hj).1
    rw [List.length_map, List.length_take] at hj1
    have hj2 : j < zs.length := by omega
    have q := hc j hj2
    have e : ((⟨b, o, none⟩ : Addr).add j) = ⟨b, o + j, none⟩ := by unfold Addr.add; split <;> simp_all
    rw [e] at q
    rw [q, ← hj, List.getElem?_map, List.getElem?_take, if_pos (by omega), List.getD_eq_getElem?_getD, List.getElem?_eq_getElem hj2]
    rfl
end Go.Proofs.Ythkfdfkjenhjmaa
