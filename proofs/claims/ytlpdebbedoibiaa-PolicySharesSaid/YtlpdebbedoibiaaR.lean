/- An argument that is a list of claims. -/
import Derived.Test.YtlpdebbedoibiaaOpn
import Derived.Test.YtlpdebbedoibiaaQ8
namespace Go.Proofs.Ytlpdebbedoibiaa
open Go.RowKit Go.ChangeShapes Go.WideShapes Go.Deep
set_option linter.unusedVariables false
set_option linter.unusedSimpArgs false

theorem cellsCl : Try.prog.cellsOf 27 = 4 := by kernel_rfl
theorem open_claims {H : Type} {enc : TypeId × Value → H} {w : World} {base : Nat} {v : Value} {d : DataW H} {p : List MemPlace} (hv : Value.okWide Try.prog w .any base 24 v) (h : DataW.Trod enc Try.prog w 0 (fun _ => true) true 24 v d p) :
    ∃ l, ClWf l ∧ ClAt w v l := by
  obtain ⟨A, n, c, rfl⟩ := okWide_slice Try.underlying24 hv
  obtain ⟨fuel, hf⟩ := h
  rcases open_slice_fields Try.underlying24 Try.underlying27 (by kernel_rfl) cellsCl hf with ⟨hcs, _⟩ | ⟨a, len, cap, m, D, Pl, hcs, _, hl, hm, hmm, _, hi⟩
  · simp [Value.cells] at hcs
    obtain ⟨rfl, rfl, rfl⟩ := hcs
    exact ⟨[], by intro c hc; simp at hc, SlAt.nil w 4⟩
  · simp [Value.cells] at hcs
    obtain ⟨rfl, rfl, rfl⟩ := hcs
    have hnm : n ≤ m := by rw [hmm]; split <;> omega
    obtain ⟨l, hll, hP⟩ := list_of (P := fun i (x : Cl) => 0 ≤ x.res ∧ ∀ j u, x.cells[j]? = some u → w.cell? (a.add (i * 4 + j)) = some u) n (fun i hin => by
      obtain ⟨ys, fu, _, _, _, hfld⟩ := hi i (by omega)
      obtain ⟨v0, y0, hc0, _, ht0⟩ := hfld 0 _ rfl
      obtain ⟨v1, y1, hc1, _, ht1⟩ := hfld 1 _ rfl
      obtain ⟨v2, y2, hc2, _, ht2⟩ := hfld 2 _ rfl
      obtain ⟨v3, y3, hc3, _, ht3⟩ := hfld 3 _ rfl
      obtain ⟨n0, e0, _, w0⟩ := DataW.trod_int Try.underlying3 ht0
      obtain ⟨n1, e1, _, w1⟩ := DataW.trod_int Try.underlying23 ht1
      obtain ⟨b2, e2, _⟩ := DataW.trod_bool Try.underlying4 ht2
      obtain ⟨b3, e3, _⟩ := DataW.trod_bool Try.underlying4 ht3
      simp only [List.cons.injEq, and_true] at e0 e1 e2 e3
      subst e0 e1 e2 e3
      refine ⟨⟨n0, n1, b2, b3⟩, (wf_u64 w1).1, fun j u hj => ?_⟩
      have hj4 : j < 4 := (List.getElem?_eq_some_iff.1 hj).1
      rcases (by omega : j = 0 ∨ j = 1 ∨ j = 2 ∨ j = 3) with rfl | rfl | rfl | rfl <;> (cases hj; assumption))
    refine ⟨l, fun c hc => ?_, some a, c, by rw [hll], by rw [hll]; exact hl, hm, reads_of cl4 (by decide) (fun i x hx => (hP i x hx).2)⟩
    obtain ⟨i, hi⟩ := List.mem_iff_getElem?.1 hc
    exact (hP i c hi).1
end Go.Proofs.Ytlpdebbedoibiaa
