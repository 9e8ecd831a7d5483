/- Arguments: a bundle, a message. -/
import Derived.Test.YtcifngefclgefaaOpn
import Derived.Test.YtcifngefclgefaaC
import Derived.Lib.SmallJoins
namespace Go.Proofs.Ytcifngefclgefaa
open Go.RowKit Go.ChangeShapes Go.WideShapes Go.Deep
set_option linter.unusedVariables false
set_option linter.unusedSimpArgs false

theorem cellsBn : Try.prog.cellsOf 26 = 9 := by kernel_rfl
theorem cellsID : Try.prog.cellsOf 24 = 3 := by kernel_rfl
theorem cellsU : Try.prog.cellsOf 22 = 1 := by kernel_rfl
theorem cellsI : Try.prog.cellsOf 3 = 1 := by kernel_rfl
theorem cellsS : Try.prog.cellsOf 9 = 1 := by kernel_rfl
section
variable {H : Type} {enc : TypeId × Value → H} {w : World} {base : Nat} {spare : Nat → Bool} {held : Bool}
theorem open_bnc {fuel : Nat} {cs : List Value} {x : DataW H × List MemPlace} (h : DataW.trod enc Try.prog w base spare held fuel 26 cs = some x) :
    ∃ b : Bn, cs = b.cells := by
  obtain ⟨ys, n, hn, hy, hlen, hyl, hf⟩ := DataW.trod_struct Try.underlying26 h
  rw [cellsBn] at hlen
  match cs, hlen, ys, hyl with
  | [v0, v1, v2, v3, v4, v5, v6, v7, v8], _, [y0, y1, y2, y3, y4, y5, y6], _ =>
    have f0 := hf 0 _ rfl
    have f1 := hf 1 _ rfl
    have f2 := hf 2 _ rfl
    have f3 := hf 3 _ rfl
    have f4 := hf 4 _ rfl
    have f5 := hf 5 _ rfl
    have f6 := hf 6 _ rfl
    simp only [List.getElem_toArray, List.getElem_cons_zero, List.getElem_cons_succ, cellsID, cellsI, cellsS, List.drop_succ_cons, List.drop_zero, List.take_succ_cons, List.take_zero, List.getElem?_cons_zero, List.getElem?_cons_succ] at f0 f1 f2 f3 f4 f5 f6
    obtain ⟨zs, n', _, _, _, hzl, hg⟩ := DataW.trod_struct Try.underlying24 f0
    match zs, hzl with
    | [z0, z1, z2], _ =>
      have g0 := hg 0 _ rfl
      have g1 := hg 1 _ rfl
      have g2 := hg 2 _ rfl
      simp only [List.getElem_toArray, List.getElem_cons_zero, List.getElem_cons_succ, cellsI, cellsU, List.drop_succ_cons, List.drop_zero, List.take_succ_cons, List.take_zero, List.getElem?_cons_zero, List.getElem?_cons_succ] at g0 g1 g2
      obtain ⟨n0, e0, _, _⟩ := DataW.trod_int Try.underlying3 g0
      obtain ⟨n1, e1, _, _⟩ := DataW.trod_int Try.underlying22 g1
      obtain ⟨n2, e2, _, _⟩ := DataW.trod_int Try.underlying3 g2
      obtain ⟨n3, e3, _, _⟩ := DataW.trod_int Try.underlying3 f1
      obtain ⟨n4, e4, _, _⟩ := DataW.trod_int Try.underlying3 f2
      obtain ⟨n5, e5, _, _⟩ := DataW.trod_int Try.underlying3 f3
      obtain ⟨n6, e6, _, _⟩ := DataW.trod_int Try.underlying3 f4
      obtain ⟨n7, e7, _, _⟩ := DataW.trod_int Try.underlying3 f5
      obtain ⟨n8, e8, _, _⟩ := DataW.trod_string Try.underlying9 f6
      simp only [List.cons.injEq, and_true] at e0 e1 e2 e3 e4 e5 e6 e7 e8
      subst e0 e1 e2 e3 e4 e5 e6 e7 e8
      exact ⟨⟨n0, n1, n2, n3, n4, n5, n6, n7, n8⟩, rfl⟩
end
/-- a bundle that came in -/
theorem open_bn {H : Type} {enc : TypeId × Value → H} {w : World} {base : Nat} {v : Value} {d : DataW H} {p : List MemPlace} (hv : Value.okWide Try.prog w .any base 26 v) (h : DataW.Trod enc Try.prog w 0 (fun _ => true) true 26 v d p) :
    ∃ b : Bn, v = b.val := by
  obtain ⟨cs, rfl, _⟩ := okWide_struct Try.underlying26 hv
  obtain ⟨fuel, hf⟩ := h
  obtain ⟨b, hb⟩ := open_bnc (show DataW.trod enc Try.prog w 0 (fun _ => true) true fuel 26 cs.toList = some (d, p) from hf)
  refine ⟨b, ?_⟩
  rw [Bn.val, ← hb]
/-- bundles that came in -/
theorem open_bns {H : Type} {enc : TypeId × Value → H} {w : World} {base : Nat} {v : Value} {d : DataW H} {p : List MemPlace} (hv : Value.okWide Try.prog w .any base 28 v) (h : DataW.Trod enc Try.prog w 0 (fun _ => true) true 28 v d p) :
    ∃ l : List Bn, BnAt w v l := by
  obtain ⟨A, n, c, rfl⟩ := okWide_slice Try.underlying28 hv
  obtain ⟨fuel, hf⟩ := h
  rcases open_slice Try.underlying28 (show DataW.trod enc Try.prog w 0 (fun _ => true) true fuel 28 [.slice A n c] = some (d, p) from hf) with ⟨hcs, _⟩ | ⟨a, len, cap, m, nn, D, Pl, hcs, hb, hl, hm, hmm, hx, hi⟩
  · simp at hcs
    obtain ⟨rfl, rfl, rfl⟩ := hcs
    exact ⟨[], SlAt.nil w 9⟩
  · simp at hcs
    obtain ⟨rfl, rfl, rfl⟩ := hcs
    have hnm : n ≤ m := by rw [hmm]; split <;> omega
    obtain ⟨l, hll, hP⟩ := list_of (P := fun i (x : Bn) => ∀ j u, x.cells[j]? = some u → w.cell? (a.add (i * 9 + j)) = some u) n (fun i hin => by
      obtain ⟨cs', hc, ht'⟩ := hi i (by omega)
      rw [cellsBn] at hc
      obtain ⟨_, hcl, hat⟩ := World.cells?_some hc
      obtain ⟨b, hb⟩ := open_bnc ht'
      refine ⟨b, fun j u hj => ?_⟩
      have hj9 : j < 9 := (List.getElem?_eq_some_iff.1 hj).1
      have := hat j (by omega)
      rw [← Go.Deep.add_add, this, hb, hj])
    refine ⟨l, some a, c, by rw [hll], by rw [hll]; exact hl, hm, ?_⟩
    refine reads_of (f := Bn.cells) (k := 9) bn9 (by decide) (fun i x hx j u hj => ?_)
    exact hP i x hx j u hj
end Go.Proofs.Ytcifngefclgefaa
