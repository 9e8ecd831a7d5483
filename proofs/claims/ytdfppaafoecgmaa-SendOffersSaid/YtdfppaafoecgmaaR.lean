/- Arguments: a ledger, an ID. -/
import Derived.Test.YtdfppaafoecgmaaOpn
import Derived.Test.YtdfppaafoecgmaaA
import Derived.Lib.SmallJoins
import Derived.Deep.Strs
namespace Go.Proofs.Ytdfppaafoecgmaa
open Go.RowKit Go.ChangeShapes Go.WideShapes Go.Deep
set_option linter.unusedVariables false
set_option linter.unusedSimpArgs false

theorem cellsSlot : Try.prog.cellsOf 44 = 5 := by kernel_rfl
theorem cellsId : Try.prog.cellsOf 41 = 3 := by kernel_rfl
theorem cellsSend : Try.prog.cellsOf 26 = 4 := by kernel_rfl
theorem sl5 (x : Sl) : x.cells.length = 5 := rfl
def SlWf (l : List Sl) : Prop := ∀ x ∈ l, (0 ≤ x.off ∧ x.off ≤ 18446744073709551615) ∧ (0 ≤ x.size ∧ x.size ≤ 18446744073709551615) ∧ (0 ≤ x.seq ∧ x.seq ≤ 18446744073709551615)

section
variable {H : Type} {enc : TypeId × Value → H} {w : World} {base : Nat} {spare : Nat → Bool} {held : Bool}
theorem open_idc {fuel : Nat} {cs : List Value} {x : DataW H × List MemPlace} (h : DataW.trod enc Try.prog w base spare held fuel 41 cs = some x) :
    ∃ a b c : Int, cs = [.int .i64 a, .int .u64 b, .int .i64 c] ∧ 0 ≤ b ∧ b ≤ 18446744073709551615 := by
  obtain ⟨y0, y1, y2, n, _, hl, h0, h1, h2⟩ := trod_struct3 Try.underlying41 h
  rw [cellsId] at hl
  match cs, hl with
  | [v0, v1, v2], _ =>
    obtain ⟨n0, e0, _, w0⟩ := DataW.trod_int Try.underlying3 (show DataW.trod enc Try.prog w base spare held n 3 [v0] = some y0 from h0)
    obtain ⟨n1, e1, _, w1⟩ := DataW.trod_int Try.underlying23 (show DataW.trod enc Try.prog w base spare held n 23 [v1] = some y1 from h1)
    obtain ⟨n2, e2, _, w2⟩ := DataW.trod_int Try.underlying3 (show DataW.trod enc Try.prog w base spare held n 3 [v2] = some y2 from h2)
    simp only [List.cons.injEq, and_true] at e0 e1 e2
    subst e0 e1 e2
    exact ⟨n0, n1, n2, rfl, (wf_u64 w1).1, (wf_u64 w1).2⟩
theorem open_slotc {fuel : Nat} {cs : List Value} {x : DataW H × List MemPlace} (h : DataW.trod enc Try.prog w base spare held fuel 44 cs = some x) :
    ∃ s : Sl, cs = s.cells ∧ (0 ≤ s.off ∧ s.off ≤ 18446744073709551615) ∧ (0 ≤ s.size ∧ s.size ≤ 18446744073709551615) ∧ (0 ≤ s.seq ∧ s.seq ≤ 18446744073709551615) := by
  obtain ⟨y0, y1, y2, n, _, hl, h0, h1, h2⟩ := trod_struct3 Try.underlying44 h
  rw [cellsSlot] at hl
  match cs, hl with
  | [v0, v1, v2, v3, v4], _ =>
    obtain ⟨n0, e0, _, w0⟩ := DataW.trod_int Try.underlying23 (show DataW.trod enc Try.prog w base spare held n 23 [v0] = some y0 from h0)
    obtain ⟨n1, e1, _, w1⟩ := DataW.trod_int Try.underlying23 (show DataW.trod enc Try.prog w base spare held n 23 [v1] = some y1 from h1)
    obtain ⟨a, b, c, e2, hb⟩ := open_idc (show DataW.trod enc Try.prog w base spare held n 41 [v2, v3, v4] = some y2 from h2)
    simp only [List.cons.injEq, and_true] at e0 e1 e2
    obtain ⟨rfl, rfl, rfl⟩ := e2
    subst e0 e1
    exact ⟨⟨n0, n1, a, b, c⟩, rfl, wf_u64 w0, wf_u64 w1, hb⟩
theorem open_slots {fuel : Nat} {A : Option Addr} {n c : Nat} {x : DataW H × List MemPlace} (h : DataW.trod enc Try.prog w base spare held fuel 24 [.slice A n c] = some x) :
    ∃ l, SlWf l ∧ SlAt w 5 (.slice A n c) l.length (flat l) := by
  rcases open_slice Try.underlying24 h with ⟨hcs, _⟩ | ⟨a, len, cap, m, nn, D, Pl, hcs, hb, hl, hm, hmm, hx, hi⟩
  · simp at hcs
    obtain ⟨rfl, rfl, rfl⟩ := hcs
    exact ⟨[], by intro c hc; simp at hc, SlAt.nil w 5⟩
  · simp at hcs
    obtain ⟨rfl, rfl, rfl⟩ := hcs
    have hnm : n ≤ m := by rw [hmm]; split <;> omega
    obtain ⟨l, hll, hP⟩ := list_of (P := fun i (x : Sl) => ((0 ≤ x.off ∧ x.off ≤ 18446744073709551615) ∧ (0 ≤ x.size ∧ x.size ≤ 18446744073709551615) ∧ (0 ≤ x.seq ∧ x.seq ≤ 18446744073709551615)) ∧ ∀ j u, x.cells[j]? = some u → w.cell? (a.add (i * 5 + j)) = some u) n (fun i hin => by
      obtain ⟨cs', hc, ht'⟩ := hi i (by omega)
      rw [cellsSlot] at hc
      obtain ⟨_, hcl, hat⟩ := World.cells?_some hc
      obtain ⟨s, rfl, hw⟩ := open_slotc ht'
      refine ⟨s, hw, fun j u hj => ?_⟩
      have hj5 : j < 5 := (List.getElem?_eq_some_iff.1 hj).1
      rw [← Go.Deep.add_add, hat j hj5, hj])
    refine ⟨l, fun c hc => ?_, some a, c, by rw [hll], by rw [hll]; exact hl, hm, reads_of sl5 (by decide) (fun i x hx => (hP i x hx).2)⟩
    obtain ⟨i, hi⟩ := List.mem_iff_getElem?.1 hc
    exact (hP i c hi).1
end

/-- a ledger that came in -/
theorem open_send {H : Type} {enc : TypeId × Value → H} {w : World} {base : Nat} {v : Value} {d : DataW H} {p : List MemPlace} (hv : Value.okWide Try.prog w .any base 26 v) (h : DataW.Trod enc Try.prog w 0 (fun _ => true) true 26 v d p) :
    ∃ s : Led, Wf s ∧ ∃ v', v = .agg #[.int .u64 s.g, .int .u64 s.n, .int .u64 s.r, v'] ∧ SlAt w 5 v' s.sl.length (flat s.sl) := by
  obtain ⟨cs, rfl, _⟩ := okWide_struct Try.underlying26 hv
  obtain ⟨fuel, hf⟩ := h
  have hf' : DataW.trod enc Try.prog w 0 (fun _ => true) true fuel 26 cs.toList = some (d, p) := hf
  obtain ⟨y0, y1, y2, y3, n, _, hl, h0, h1, h2, h3⟩ := Go.Joins.trod_struct4 Try.underlying26 hf'
  rw [cellsSend] at hl
  obtain ⟨cl, rfl⟩ : ∃ cl : List Value, cs = cl.toArray := ⟨cs.toList, by simp⟩
  match cl, hl with
  | [v0, v1, v2, v3], _ =>
    obtain ⟨n0, e0, _, w0⟩ := DataW.trod_int Try.underlying23 (show DataW.trod enc Try.prog w 0 (fun _ => true) true n 23 [v0] = some y0 from h0)
    obtain ⟨n1, e1, _, w1⟩ := DataW.trod_int Try.underlying23 (show DataW.trod enc Try.prog w 0 (fun _ => true) true n 23 [v1] = some y1 from h1)
    obtain ⟨n2, e2, _, w2⟩ := DataW.trod_int Try.underlying23 (show DataW.trod enc Try.prog w 0 (fun _ => true) true n 23 [v2] = some y2 from h2)
    have h3' : DataW.trod enc Try.prog w 0 (fun _ => true) true n 24 [v3] = some y3 := h3
    obtain ⟨A, k, c, e3⟩ : ∃ A k c, v3 = .slice A k c := by
      rcases open_slice Try.underlying24 h3' with ⟨hcs, _⟩ | ⟨a, len, cap, m, nn, D, Pl, hcs, _⟩
      · simp at hcs; exact ⟨_, _, _, hcs⟩
      · simp at hcs; exact ⟨_, _, _, hcs⟩
    subst e3
    obtain ⟨l, hw, hS⟩ := open_slots h3'
    simp only [List.cons.injEq, and_true] at e0 e1 e2
    subst e0 e1 e2
    exact ⟨⟨n0, n1, n2, l⟩, ⟨wf_u64 w0, wf_u64 w1, wf_u64 w2, hw⟩, _, rfl, hS⟩
/-- an ID that came in -/
theorem open_id {H : Type} {enc : TypeId × Value → H} {w : World} {base : Nat} {v : Value} {d : DataW H} {p : List MemPlace} (hv : Value.okWide Try.prog w .any base 41 v) (h : DataW.Trod enc Try.prog w 0 (fun _ => true) true 41 v d p) :
    ∃ a b c : Int, v = .agg #[.int .i64 a, .int .u64 b, .int .i64 c] := by
  obtain ⟨cs, rfl, _⟩ := okWide_struct Try.underlying41 hv
  obtain ⟨fuel, hf⟩ := h
  have hf' : DataW.trod enc Try.prog w 0 (fun _ => true) true fuel 41 cs.toList = some (d, p) := hf
  obtain ⟨a, b, c, e, _⟩ := open_idc hf'
  obtain ⟨cl, rfl⟩ : ∃ cl : List Value, cs = cl.toArray := ⟨cs.toList, by simp⟩
  simp at e
  exact ⟨a, b, c, by rw [e]⟩
end Go.Proofs.Ytdfppaafoecgmaa
