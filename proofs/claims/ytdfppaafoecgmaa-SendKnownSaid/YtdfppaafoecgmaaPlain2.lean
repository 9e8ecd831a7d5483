/- The plain laws of a ledger: what stays valid, what is usable, how the floor moves; no program in sight. -/
import Derived.Test.YtdfppaafoecgmaaPlain
namespace Go.Proofs.Ytdfppaafoecgmaa
set_option linter.unusedVariables false
set_option linter.unusedSimpArgs false

def Good (nxt : Int) : List Sl → Int → List Sl → Prop
  | _, _, [] => True
  | done, e, x :: r => slotE nxt done e x = 0 ∧ Good nxt (done ++ [x]) (x.off + x.size) r
theorem scan_good (nxt : Int) (done : List Sl) (e : Int) (l : List Sl) : (scan nxt done e l).1 = 0 ↔ Good nxt done e l := by
  induction l generalizing done e with
  | nil => simp [scan, Good]
  | cons x r ih =>
    unfold scan Good
    by_cases h : slotE nxt done e x = 0
    · rw [if_pos h, ih]; simp [h]
    · rw [if_neg h]; simp [h]
theorem slotE_zero {nxt e : Int} {done : List Sl} {x : Sl} : slotE nxt done e x = 0 ↔ x.size ≠ 0 ∧ IdOk x.node x.seq x.io ∧ e ≤ x.off ∧ x.off ≤ nxt ∧ x.size ≤ nxt - x.off ∧ anyHas x.node x.seq x.io done = false := by
  unfold slotE
  split
  · rename_i h
    constructor
    · intro h'; exact absurd h' (by decide)
    · rintro ⟨a, b, _⟩; rcases h with h | h
      · exact absurd h a
      · exact absurd b h
  · rename_i h1
    split
    · rename_i h
      constructor
      · intro h'; exact absurd h' (by decide)
      · rintro ⟨_, _, a, b, c, _⟩; omega
    · rename_i h2
      split
      · rename_i h
        constructor
        · intro h'; exact absurd h' (by decide)
        · rintro ⟨_, _, _, _, _, a⟩; rw [h] at a; cases a
      · rename_i h3
        constructor
        · intro _
          refine ⟨fun h => h1 (.inl h), ?_, by omega, by omega, by omega, by simpa using h3⟩
          by_cases h : IdOk x.node x.seq x.io
          · exact h
          · exact absurd (.inr h) h1
        · intro _; rfl
theorem okL_iff (s : Led) : okL s ↔ s.g ≤ 1125899906842624 ∧ s.r ≤ s.g ∧ s.n ≤ s.g - s.r ∧ s.sl.length ≤ 100 ∧ Good s.n [] 0 s.sl := by
  unfold okL chk
  split
  · constructor
    · intro h; exact absurd h (by decide)
    · rintro ⟨a, _⟩; omega
  · split
    · constructor
      · intro h; exact absurd h (by decide)
      · rintro ⟨_, a, b, _⟩; omega
    · split
      · constructor
        · intro h; exact absurd h (by decide)
        · rintro ⟨_, _, _, a, _⟩; omega
      · rw [scan_good]
        constructor
        · intro h; exact ⟨by omega, by omega, by omega, by omega, h⟩
        · intro h; exact h.2.2.2.2
theorem anyHas_append (a b c : Int) (l m : List Sl) : anyHas a b c (l ++ m) = (anyHas a b c l || anyHas a b c m) := by simp [anyHas]

/-- a greater next, an earlier end, fewer before -/
theorem good_more {nxt nxt' : Int} (hn : nxt ≤ nxt') {done done' : List Sl} {e e' : Int} {l : List Sl} (h : Good nxt done e l) (he : e' ≤ e) (hd : ∀ x ∈ done', x ∈ done) : Good nxt' done' e' l := by
  induction l generalizing done done' e e' with
  | nil => trivial
  | cons x r ih =>
    obtain ⟨h1, h2⟩ := h
    obtain ⟨a, b, c, d, f, g⟩ := slotE_zero.1 h1
    refine ⟨slotE_zero.2 ⟨a, b, by omega, by omega, by omega, ?_⟩, ih h2 (Int.le_refl _) (fun y hy => ?_)⟩
    · simp only [anyHas, List.any_eq_false] at g ⊢
      exact fun y hy => g y (hd y hy)
    · rcases List.mem_append.1 hy with h | h
      · exact List.mem_append.2 (.inl (hd y h))
      · exact List.mem_append.2 (.inr h)
theorem good_end {nxt : Int} {done : List Sl} {e : Int} {l : List Sl} (h : Good nxt done e l) (he : e ≤ nxt) {x : Sl} {nxt' : Int} (hn : nxt ≤ nxt') (hx : slotE nxt' (done ++ l) nxt x = 0) : Good nxt' done e (l ++ [x]) := by
  induction l generalizing done e with
  | nil =>
    refine ⟨?_, trivial⟩
    obtain ⟨a, b, c, d, f, g⟩ := slotE_zero.1 hx
    rw [List.append_nil] at g
    exact slotE_zero.2 ⟨a, b, by omega, d, f, g⟩
  | cons y r ih =>
    obtain ⟨h1, h2⟩ := h
    obtain ⟨a, b, c, d, f, g⟩ := slotE_zero.1 h1
    refine ⟨slotE_zero.2 ⟨a, b, c, by omega, by omega, g⟩, ih h2 (by omega) ?_⟩
    rw [List.append_assoc]
    exact hx
theorem good_erase {nxt : Int} {done : List Sl} {e : Int} {l : List Sl} (h : Good nxt done e l) (hs : ∀ x ∈ l, 0 ≤ x.size) (i : Nat) : Good nxt done e (l.eraseIdx i) := by
  induction l generalizing done e i with
  | nil => exact h
  | cons x r ih =>
    obtain ⟨h1, h2⟩ := h
    obtain ⟨a, b, c, d, f, g⟩ := slotE_zero.1 h1
    cases i with
    | zero =>
      have := hs x (by simp)
      exact good_more (Int.le_refl _) h2 (by omega) (fun y hy => List.mem_append.2 (.inl hy))
    | succ i => exact ⟨h1, ih h2 (fun y hy => hs y (by simp [hy])) i⟩
theorem good_first {nxt : Int} {done : List Sl} {e : Int} {l : List Sl} (h : Good nxt done e l) {x : Sl} (hx : x ∈ l) : e ≤ x.off ∨ ∃ y ∈ l, y.off + y.size ≤ x.off := by
  induction l generalizing done e with
  | nil => simp at hx
  | cons y r ih =>
    obtain ⟨h1, h2⟩ := h
    rcases List.mem_cons.1 hx with rfl | hx
    · exact .inl (slotE_zero.1 h1).2.2.1
    · right
      rcases ih h2 hx with h | ⟨z, hz, h⟩
      · exact ⟨y, by simp, h⟩
      · exact ⟨z, by simp [hz], h⟩
theorem good_off {nxt : Int} {done : List Sl} {e : Int} {l : List Sl} (h : Good nxt done e l) (hs : ∀ x ∈ l, 0 ≤ x.size) {x : Sl} (hx : x ∈ l) : e ≤ x.off ∧ x.off + x.size ≤ nxt := by
  induction l generalizing done e with
  | nil => simp at hx
  | cons y r ih =>
    obtain ⟨h1, h2⟩ := h
    obtain ⟨a, b, c, d, f, g⟩ := slotE_zero.1 h1
    rcases List.mem_cons.1 hx with rfl | hx
    · omega
    · have := ih h2 (fun z hz => hs z (by simp [hz])) hx
      have := hs y (by simp)
      omega
end Go.Proofs.Ytdfppaafoecgmaa
