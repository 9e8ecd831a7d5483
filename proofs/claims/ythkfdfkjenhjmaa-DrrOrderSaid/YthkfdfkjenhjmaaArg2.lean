/- An argument that is a list of wants. -/
import Derived.Test.YthkfdfkjenhjmaaArg
import Derived.Test.YthkfdfkjenhjmaaM
namespace Go.Proofs.Ythkfdfkjenhjmaa
open Go.RowKit Go.ChangeShapes Go.WideShapes Go.Deep
set_option linter.unusedVariables false
set_option linter.unusedSimpArgs false

theorem cellsWt : Try.prog.cellsOf 46 = 2 := by kernel_rfl
theorem open_wants {H : Type} {enc : TypeId × Value → H} {w : World} {base : Nat} {v : Value} {d : DataW H} {p : List MemPlace} (hv : Value.okWide Try.prog w .any base 42 v) (h : DataW.Trod enc Try.prog w 0 (fun _ => true) true 42 v d p) :
    ∃ l, WtAt w v l := by
  obtain ⟨A, n, c, rfl⟩ := okWide_slice Try.underlying42 hv
  obtain ⟨fuel, hf⟩ := h
  rcases open_slice_fields Try.underlying42 Try.underlying46 (by kernel_rfl) cellsWt hf with ⟨hcs, _⟩ | ⟨a, len, cap, m, D, Pl, hcs, _, hl, hm, hmm, _, hi⟩
  · simp [Value.cells] at hcs
    obtain ⟨rfl, rfl, rfl⟩ := hcs
    exact ⟨[], SlAt.nil w 2⟩
  · simp [Value.cells] at hcs
    obtain ⟨rfl, rfl, rfl⟩ := hcs
    have hnm : n ≤ m := by rw [hmm]; split <;> omega
    obtain ⟨l, hll, hP⟩ := list_of (P := fun i (x : Wt) => ∀ j u, x.cells[j]? = some u → w.cell? (a.add (i * 2 + j)) = some u) n (fun i hin => by
      obtain ⟨ys, fu, _, _, _, hfld⟩ := hi i (by omega)
      obtain ⟨v0, y0, hc0, _, ht0⟩ := hfld 0 _ rfl
      obtain ⟨v1, y1, hc1, _, ht1⟩ := hfld 1 _ rfl
      obtain ⟨n0, e0, _, w0⟩ := DataW.trod_int Try.underlying3 ht0
      obtain ⟨n1, e1, _, w1⟩ := DataW.trod_int Try.underlying3 ht1
      simp only [List.cons.injEq, and_true] at e0 e1
      subst e0 e1
      refine ⟨⟨n0, n1⟩, fun j u hj => ?_⟩
      have hj2 : j < 2 := (List.getElem?_eq_some_iff.1 hj).1
      rcases (by omega : j = 0 ∨ j = 1) with rfl | rfl <;> (cases hj; assumption))
    exact ⟨l, some a, c, by rw [hll], by rw [hll]; exact hl, hm, reads_of wt2 (by decide) (fun i x hx => hP i x hx)⟩
end Go.Proofs.Ythkfdfkjenhjmaa
