/- Arguments: a state, a row of numbers. -/
import Derived.Test.YthkfdfkjenhjmaaOpn
import Derived.Test.YthkfdfkjenhjmaaB
import Derived.Lib.SmallJoins
namespace Go.Proofs.Ythkfdfkjenhjmaa
open Go.RowKit Go.ChangeShapes Go.WideShapes Go.Deep
set_option linter.unusedVariables false
set_option linter.unusedSimpArgs false

theorem cellsInt : Try.prog.cellsOf 3 = 1 := by kernel_rfl
theorem cellsDr : Try.prog.cellsOf 24 = 4 := by kernel_rfl
def one1f (x : Int) : List Value := [.int .i64 x]
theorem fl_int1 : (l : List Int) → fl one1f l = ints l := by
  intro l
  rw [← ints_map]
  induction l with
  | nil => rfl
  | cons a l ih => simp [fl, one1f] at ih ⊢; exact ih
section
variable {H : Type} {enc : TypeId × Value → H} {w : World} {base : Nat} {spare : Nat → Bool} {held : Bool}
theorem open_intc {fuel : Nat} {v : Value} {x : DataW H × List MemPlace} (h : DataW.trod enc Try.prog w base spare held fuel 22 [v] = some x) :
    ∃ l, IntAt w v l := by
  rcases open_slice Try.underlying22 h with ⟨hcs, _⟩ | ⟨a, len, cap, m, nn, D, Pl, hcs, hb, hl, hm, hmm, hx, hi⟩
  · simp at hcs
    subst hcs
    exact ⟨[], SlAt.nil w 1⟩
  · simp at hcs
    subst hcs
    have hnm : len ≤ m := by rw [hmm]; split <;> omega
    obtain ⟨l, hll, hP⟩ := list_of (P := fun i (x : Int) => w.cell? (a.add (i * 1)) = some (.int .i64 x)) len (fun i hin => by
      obtain ⟨cs', hc, ht'⟩ := hi i (by omega)
      rw [cellsInt] at hc
      obtain ⟨_, hcl, hat⟩ := World.cells?_some hc
      match cs', hcl with
      | [v0], _ =>
        obtain ⟨n0, e0, _, _⟩ := DataW.trod_int Try.underlying3 ht'
        simp only [List.cons.injEq, and_true] at e0
        subst e0
        refine ⟨n0, ?_⟩
        have := hat 0 (by decide)
        simpa [Addr.add] using this)
    refine ⟨l, some a, cap, by rw [hll], by rw [hll]; exact hl, hm, ?_⟩
    rw [← fl_int1]
    refine reads_of (f := one1f) (k := 1) (fun _ => rfl) (by decide) (fun i x hx j u hj => ?_)
    have hj1 : j < 1 := (List.getElem?_eq_some_iff.1 hj).1
    obtain rfl : j = 0 := by omega
    have := hP i x hx
    cases hj
    exact this
end
theorem open_ints {H : Type} {enc : TypeId × Value → H} {w : World} {base : Nat} {v : Value} {d : DataW H} {p : List MemPlace} (hv : Value.okWide Try.prog w .any base 22 v) (h : DataW.Trod enc Try.prog w 0 (fun _ => true) true 22 v d p) :
    ∃ l, IntAt w v l := by
  obtain ⟨A, n, c, rfl⟩ := okWide_slice Try.underlying22 hv
  obtain ⟨fuel, hf⟩ := h
  exact open_intc hf
/-- a state that came in -/
theorem open_drr {H : Type} {enc : TypeId × Value → H} {w : World} {base : Nat} {v : Value} {d : DataW H} {p : List MemPlace} (hv : Value.okWide Try.prog w .any base 24 v) (h : DataW.Trod enc Try.prog w 0 (fun _ => true) true 24 v d p) :
    ∃ s : Dr, DrV w v s := by
  obtain ⟨cs, rfl, _⟩ := okWide_struct Try.underlying24 hv
  obtain ⟨fuel, hf⟩ := h
  have hf' : DataW.trod enc Try.prog w 0 (fun _ => true) true fuel 24 cs.toList = some (d, p) := hf
  obtain ⟨y0, y1, y2, y3, n, _, hl, h0, h1, h2, h3⟩ := Go.Joins.trod_struct4 Try.underlying24 hf'
  rw [cellsDr] at hl
  obtain ⟨cl, rfl⟩ : ∃ cl : List Value, cs = cl.toArray := ⟨cs.toList, by simp⟩
  match cl, hl with
  | [v0, v1, v2, v3], _ =>
    obtain ⟨l0, s0⟩ := open_intc (show DataW.trod enc Try.prog w 0 (fun _ => true) true n 22 [v0] = some y0 from h0)
    obtain ⟨n1, e1, _, w1⟩ := DataW.trod_int Try.underlying3 (show DataW.trod enc Try.prog w 0 (fun _ => true) true n 3 [v1] = some y1 from h1)
    obtain ⟨l2, s2⟩ := open_intc (show DataW.trod enc Try.prog w 0 (fun _ => true) true n 22 [v2] = some y2 from h2)
    obtain ⟨n3, e3, _, w3⟩ := DataW.trod_int Try.underlying3 (show DataW.trod enc Try.prog w 0 (fun _ => true) true n 3 [v3] = some y3 from h3)
    simp only [List.cons.injEq, and_true] at e1 e3
    subst e1 e3
    exact ⟨⟨l0, n1, l2, n3⟩, _, _, rfl, s0, s2⟩
end Go.Proofs.Ythkfdfkjenhjmaa
