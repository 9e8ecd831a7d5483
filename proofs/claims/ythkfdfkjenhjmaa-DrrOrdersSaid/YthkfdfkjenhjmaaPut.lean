/- Rows of numbers outlive a store into a cell of a state. -/
import Derived.Test.YthkfdfkjenhjmaaI
import Derived.Test.YthkfdfkjenhjmaaOnly
namespace Go.Proofs.Ythkfdfkjenhjmaa
open Go.RowKit
set_option linter.unusedVariables false
set_option linter.unusedSimpArgs false

/-- a row's length that can't lie within a state's cells -/
def len03 (l : List Int) : Prop := l.length = 0 ∨ l.length = 3
def dr03 (d : Dr) : Prop := len03 d.W ∧ len03 d.D
theorem bck03 (d : Dr) (p s : Int) : dr03 (bck d p s).1 := by
  unfold bck
  split
  · exact ⟨.inl rfl, .inl rfl⟩
  · split
    · exact ⟨.inl rfl, .inl rfl⟩
    · rename_i h _
      have := ok_of (d := d) (by omega)
      exact ⟨.inr this.w3, .inr (by show (d.D.set _ _).length = 3; rw [List.length_set]; exact this.d3)⟩
section
variable {w w' : World} {g : Nat} {t : TypeId} {A B A' B' : Option Addr} {n c n' c' m e m' e' : Nat} {q u q' u' : Int}
theorem row_far {v : Value} {l : List Int} (h : IntAt w v l) (h3 : len03 l) (hb : Blk w g t #[.slice A n c, .int .i64 q, .slice B m e, .int .i64 u]) (ho : Only (fun k => k = g) w w') : IntAt w' v l := by
  obtain ⟨R, z, rfl, h1, h2, hl, hr⟩ := h
  refine ⟨R, z, rfl, h1, h2, hl, fun hn => ?_⟩
  obtain ⟨b, o, rfl, hlt, hx⟩ := hr hn
  have hl3 : l.length = 3 := by rcases h3 with h | h <;> omega
  have hne : b ≠ g := by
    rintro rfl
    have e0 := hx 0 _ (ints_get (at0_get (l := l) (i := 0) (by omega)))
    have e1 := hx 1 _ (ints_get (at0_get (l := l) (i := 1) (by omega)))
    rw [hb.cell] at e0 e1
    match o, e0, e1 with
    | 0, e0, _ => simp at e0
    | 1, _, e1 => simp at e1
    | 2, e0, _ => simp at e0
    | 3, _, e1 => simp at e1
    | o + 4, e0, _ => simp at e0
  exact ⟨b, o, rfl, Nat.lt_of_lt_of_le hlt ho.size, fun j x hj => (ho.cell hlt hne _).trans (hx j x hj)⟩
theorem DrV.far {v : Value} {d : Dr} (h : DrV w v d) (h3 : dr03 d) (hb : Blk w g t #[.slice A n c, .int .i64 q, .slice B m e, .int .i64 u]) (ho : Only (fun k => k = g) w w') : DrV w' v d := by
  obtain ⟨vW, vD, rfl, h1, h2⟩ := h
  exact ⟨vW, vD, rfl, row_far h1 h3.1 hb ho, row_far h2 h3.2 hb ho⟩
/-- a state stored -/
def put4 (w : World) (g : Nat) (a b c d : Value) : World := (((w.setCell ⟨g, 0, none⟩ a).setCell ⟨g, 1, none⟩ b).setCell ⟨g, 2, none⟩ c).setCell ⟨g, 3, none⟩ d
theorem put4_only (w : World) (g : Nat) (a b c d : Value) : Only (fun k => k = g) w (put4 w g a b c d) := by
  have st : ∀ (w : World) (i : Nat) (x : Value), Only (fun k => k = g) w (w.setCell ⟨g, i, none⟩ x) := fun w i x => Only.set (S := fun k => k = g) (Only.refl _ w) (.inl rfl) x
  exact (((st _ 0 a).trans (st _ 1 b)).trans (st _ 2 c)).trans (st _ 3 d)
theorem put4_blk {a b c d x y z k : Value} (h : Blk w g t #[x, y, z, k]) : Blk (put4 w g a b c d) g t #[a, b, c, d] := by
  have := (((h.set 0 a).set 1 b).set 2 c).set 3 d
  simpa [put4] using this
theorem put4_below {a b c d : Value} (h : Below w'.heap.size w' w) (hg : w'.heap.size ≤ g) : Below w'.heap.size w' (put4 w g a b c d) := bset (bset (bset (bset h hg _) hg _) hg _) hg _
end
end Go.Proofs.Ythkfdfkjenhjmaa
