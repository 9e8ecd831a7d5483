/- What a ledger made of numbers always is. -/
import Derived.Test.YtdfppaafoecgmaaPlain2
namespace Go.Proofs.Ytdfppaafoecgmaa
set_option linter.unusedVariables false
set_option linter.unusedSimpArgs false

/-- a ledger behind i rounds -/
def LedI (i : Nat) (s : Led) : Prop := (200 ≤ s.g ∧ s.g ≤ 200 + 40 * i) ∧ 0 ≤ s.n ∧ 0 ≤ s.r ∧ s.n + s.r ≤ s.g ∧ s.sl.length ≤ i ∧
  (∀ x ∈ s.sl, (0 ≤ x.off ∧ x.off ≤ 1000) ∧ (0 ≤ x.size ∧ x.size ≤ 1000) ∧ x.node = 1 ∧ (1 ≤ x.seq ∧ x.seq ≤ i) ∧ x.io = 0) ∧ Good s.n [] 0 s.sl
theorem ledI_zero : LedI 0 ⟨200, 0, 0, []⟩ := ⟨by decide, by decide, by decide, by decide, by decide, by simp, trivial⟩
theorem ledI_next {i : Nat} {s : Led} (h : LedI i s) : LedI (i + 1) s := by
  obtain ⟨a, b, c, d, e, f, g⟩ := h
  refine ⟨by omega, b, c, d, by omega, fun x hx => ?_, g⟩
  obtain ⟨p, q, r, t, u⟩ := f x hx
  exact ⟨p, q, r, by omega, u⟩
theorem ledI_add {i : Nat} {g n r : Int} {l : List Sl} (h : LedI i ⟨g, n, r, l⟩) (hi : i < 12) {z : Int} (h1 : 1 ≤ z) (h2 : z ≤ 40) (hz : z ≤ g - n - r) : LedI (i + 1) ⟨g, n + z, r, l ++ [⟨n, z, 1, i + 1, 0⟩]⟩ := by
  obtain ⟨a, b, c, d, e, f, k⟩ := h
  dsimp only at *
  refine ⟨by show 200 ≤ g ∧ g ≤ 200 + 40 * ((i + 1 : Nat) : Int); omega, by show 0 ≤ n + z; omega, c, by show n + z + r ≤ g; omega, by simp; omega, fun x hx => ?_, ?_⟩
  · rcases List.mem_append.1 hx with hx | hx
    · obtain ⟨p, q, r, t, u⟩ := f x hx
      exact ⟨p, q, r, by omega, u⟩
    · have := List.mem_singleton.1 hx
      subst this
      exact ⟨⟨b, by show n ≤ 1000; omega⟩, ⟨by show 0 ≤ z; omega, by show z ≤ 1000; omega⟩, rfl, ⟨by show (1 : Int) ≤ (i : Int) + 1; omega, by show (i : Int) + 1 ≤ ((i + 1 : Nat) : Int); omega⟩, rfl⟩
  · refine good_end k b (by show n ≤ n + z; omega) (slotE_zero.2 ⟨by show z ≠ 0; omega, ⟨by show (1 : Int) ≤ 1; decide, by show (1 : Int) ≤ 16; decide, by show (0 : Int) ≤ 0; decide, by show (0 : Int) ≤ 19999; decide, by show (i : Int) + 1 ≤ _; omega⟩, Int.le_refl _, by show n ≤ n + z; omega, by show z ≤ n + z - n; omega, ?_⟩)
    simp only [List.nil_append, anyHas, List.any_eq_false]
    intro x hx
    obtain ⟨p, q, r, t, u⟩ := f x hx
    simp only [Sl.has, Bool.and_eq_true, beq_iff_eq]
    rintro ⟨⟨_, h⟩, _⟩
    have h : x.seq = (i : Int) + 1 := h
    omega
theorem ledI_more {i : Nat} {g n r : Int} {l : List Sl} (h : LedI i ⟨g, n, r, l⟩) {z : Int} (h1 : 1 ≤ z) (h2 : z ≤ 40) : LedI (i + 1) ⟨g + z, n, r, l⟩ := by
  obtain ⟨a, b, c, d, e, f, k⟩ := ledI_next h
  obtain ⟨a', _⟩ := h
  dsimp only at *
  exact ⟨by show 200 ≤ g + z ∧ g + z ≤ _; omega, b, c, by show n + r ≤ g + z; omega, e, f, k⟩
theorem ledI_back {i : Nat} {g n r : Int} {l : List Sl} (h : LedI i ⟨g, n, r, l⟩) {z : Int} (h1 : 0 ≤ z) (h2 : z ≤ g - n - r) : LedI (i + 1) ⟨g, n, r + z, l⟩ := by
  obtain ⟨a, b, c, d, e, f, k⟩ := ledI_next h
  dsimp only at *
  exact ⟨a, b, by show 0 ≤ r + z; omega, by show n + (r + z) ≤ g; omega, e, f, k⟩
theorem ledI_del {i : Nat} {g n r : Int} {l : List Sl} (h : LedI i ⟨g, n, r, l⟩) (k : Nat) : LedI (i + 1) ⟨g, n, r, l.take k ++ l.drop (k + 1)⟩ := by
  rw [← List.eraseIdx_eq_take_drop_succ]
  obtain ⟨a, b, c, d, e, f, q⟩ := ledI_next h
  dsimp only at *
  refine ⟨a, b, c, d, Nat.le_trans (List.length_eraseIdx_le _ _) e, fun x hx => f x (List.mem_of_mem_eraseIdx hx), good_erase q (fun x hx => (f x hx).2.1.1) k⟩
theorem ledI_len {i : Nat} {s : Led} (h : LedI i s) : s.sl.length ≤ i := h.2.2.2.2.1
theorem ledI_ok {i : Nat} {s : Led} (h : LedI i s) (hi : i ≤ 12) : okL s ∧ Wf s := by
  obtain ⟨a, b, c, d, e, f, g⟩ := h
  refine ⟨(okL_iff s).2 ⟨by omega, by omega, by omega, by omega, g⟩, ⟨by omega, by omega⟩, ⟨by omega, by omega⟩, ⟨by omega, by omega⟩, fun x hx => ?_⟩
  obtain ⟨p, q, r, t, u⟩ := f x hx
  exact ⟨⟨by omega, by omega⟩, ⟨by omega, by omega⟩, ⟨by omega, by omega⟩⟩
end Go.Proofs.Ytdfppaafoecgmaa
