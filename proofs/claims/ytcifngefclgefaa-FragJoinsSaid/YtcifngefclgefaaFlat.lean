/- Rows of structs, laid flat; reading one of them. -/
import Derived.Test.YtcifngefclgefaaBase
namespace Go.Proofs.Ytcifngefclgefaa
open Go.RowKit
set_option linter.unusedVariables false
set_option linter.unusedSimpArgs false

/-- a list laid flat, element by element -/
def fl {α : Type} (f : α → List Value) (l : List α) : List Value := l.flatMap f
section
variable {α : Type} {f : α → List Value} {k : Nat}
theorem fl_nil : fl f [] = [] := rfl
theorem fl_cons (x : α) (l : List α) : fl f (x :: l) = f x ++ fl f l := by simp [fl]
theorem fl_app (a b : List α) : fl f (a ++ b) = fl f a ++ fl f b := by simp [fl]
theorem fl_one (x : α) : fl f [x] = f x := by simp [fl]
theorem fl_len (hf : ∀ x, (f x).length = k) (l : List α) : (fl f l).length = l.length * k := by
  induction l with
  | nil => simp [fl]
  | cons x l ih => rw [fl_cons, List.length_append, ih, hf, List.length_cons, Nat.succ_mul, Nat.add_comm]
theorem fl_get (hf : ∀ x, (f x).length = k) (l : List α) (i : Nat) {x : α} (h : l[i]? = some x) (j : Nat) (hj : j < k) : (fl f l)[i * k + j]? = (f x)[j]? := by
  induction l generalizing i with
  | nil => simp at h
  | cons y l ih =>
    rw [fl_cons]
    cases i with
    | zero =>
      simp at h; subst h
      rw [List.getElem?_append_left (by rw [hf]; omega), Nat.zero_mul, Nat.zero_add]
    | succ i =>
      simp at h
      rw [List.getElem?_append_right (by rw [hf, Nat.succ_mul]; omega), hf, Nat.succ_mul, show i * k + k + j - k = i * k + j by omega]
      exact ih i h
theorem fl_one_cell (h1 : ∀ x, ∀ u ∈ f x, u.oneCell' = true) (l : List α) : ∀ u ∈ fl f l, u.oneCell' = true := by
  intro u hu
  obtain ⟨x, _, hx⟩ := List.mem_flatMap.1 hu
  exact h1 x u hx
/-- the cells of one element -/
theorem reads_fl (hf : ∀ x, (f x).length = k) {w : World} {A : Option Addr} {n : Nat} {l : List α} (h : Reads w k A n (fl f l)) (hn : n = l.length) {i : Nat} {x : α} (hx : l[i]? = some x) :
    ∃ b o, A = some ⟨b, o, none⟩ ∧ b < w.heap.size ∧ ∀ j u, (f x)[j]? = some u → w.cell? ⟨b, o + i * k + j, none⟩ = some u := by
  have hi : i < l.length := (List.getElem?_eq_some_iff.1 hx).1
  obtain ⟨b, o, rfl, hb, hc⟩ := h.2 (by omega)
  refine ⟨b, o, rfl, hb, fun j u hu => ?_⟩
  have hj : j < k := by have := (List.getElem?_eq_some_iff.1 hu).1; rwa [hf] at this
  have := hc (i * k + j) u (by rw [fl_get hf l i hx j hj]; exact hu)
  rwa [← Nat.add_assoc] at this
theorem reads_fl2 (hf : ∀ x, (f x).length = 2) {w : World} {A : Option Addr} {n : Nat} {l : List α} (h : Reads w 2 A n (fl f l)) (hn : n = l.length) {i : Nat} {x : α} {p q : Value} (hx : l[i]? = some x) (hp : f x = [p, q]) :
    ∃ b o, A = some ⟨b, o, none⟩ ∧ b < w.heap.size ∧ w.cell? ⟨b, o + i * 2, none⟩ = some p ∧ w.cell? ⟨b, o + i * 2 + 1, none⟩ = some q := by
  obtain ⟨b, o, e, hb, hc⟩ := reads_fl hf h hn hx
  rw [hp] at hc
  exact ⟨b, o, e, hb, hc 0 p rfl, hc 1 q rfl⟩
theorem reads_fl3 (hf : ∀ x, (f x).length = 3) {w : World} {A : Option Addr} {n : Nat} {l : List α} (h : Reads w 3 A n (fl f l)) (hn : n = l.length) {i : Nat} {x : α} {p q r : Value} (hx : l[i]? = some x) (hp : f x = [p, q, r]) :
    ∃ b o, A = some ⟨b, o, none⟩ ∧ b < w.heap.size ∧ w.cell? ⟨b, o + i * 3, none⟩ = some p ∧ w.cell? ⟨b, o + i * 3 + 1, none⟩ = some q ∧ w.cell? ⟨b, o + i * 3 + 2, none⟩ = some r := by
  obtain ⟨b, o, e, hb, hc⟩ := reads_fl hf h hn hx
  rw [hp] at hc
  exact ⟨b, o, e, hb, hc 0 p rfl, hc 1 q rfl, hc 2 r rfl⟩
theorem reads_fl4 (hf : ∀ x, (f x).length = 4) {w : World} {A : Option Addr} {n : Nat} {l : List α} (h : Reads w 4 A n (fl f l)) (hn : n = l.length) {i : Nat} {x : α} {p q r s : Value} (hx : l[i]? = some x) (hp : f x = [p, q, r, s]) :
    ∃ b o, A = some ⟨b, o, none⟩ ∧ b < w.heap.size ∧ w.cell? ⟨b, o + i * 4, none⟩ = some p ∧ w.cell? ⟨b, o + i * 4 + 1, none⟩ = some q ∧ w.cell? ⟨b, o + i * 4 + 2, none⟩ = some r ∧ w.cell? ⟨b, o + i * 4 + 3, none⟩ = some s := by
  obtain ⟨b, o, e, hb, hc⟩ := reads_fl hf h hn hx
  rw [hp] at hc
  exact ⟨b, o, e, hb, hc 0 p rfl, hc 1 q rfl, hc 2 r rfl, hc 3 s rfl⟩
end
/-- one of a row of one-cell elements -/
theorem reads_at {w : World} {A : Option Addr} {n : Nat} {xs : List Value} (h : Reads w 1 A n xs) {i : Nat} {u : Value} (hx : xs[i]? = some u) : ∃ b o, A = some ⟨b, o, none⟩ ∧ b < w.heap.size ∧ w.cell? ⟨b, o + i, none⟩ = some u := by
  have hi := (List.getElem?_eq_some_iff.1 hx).1
  have hl := h.1
  obtain ⟨b, o, e, hb, hc⟩ := h.2 (by omega)
  exact ⟨b, o, e, hb, hc i u hx⟩
/-- what append reads of its second slice -/
theorem reads_add' {w : World} {size n : Nat} {b o : Nat} {xs : List Value} (h : Reads w size (some ⟨b, o, none⟩) n xs) : ∀ j u, xs[j]? = some u → w.cell? ((⟨b, o, none⟩ : Addr).add j) = some u := by
  intro j u hj
  have hn : 0 < n := by
    have := (List.getElem?_eq_some_iff.1 hj).1
    have := h.1
    rcases Nat.eq_zero_or_pos n with h0 | h0
    · subst h0; omega
    · exact h0
  obtain ⟨b', o', e, hb, hc⟩ := h.2 hn
  cases e
  have := hc j u hj
  by_cases h0 : j = 0
  · subst h0; simpa [Addr.add] using this
  · simpa [Addr.add, h0] using this
/-- a slice of a slice -/
theorem SlAt.cut {w : World} {k : Nat} {α : Type} {f : α → List Value} (hf : ∀ x, (f x).length = k) {b o n c : Nat} {l : List α} (h : SlAt w k (.slice (some ⟨b, o, none⟩) n c) n (fl f l)) (hn : n = l.length) {i j : Nat} (hij : i ≤ j) (hj : j ≤ n) (hk : 0 < k) :
    SlAt w k (.slice (some ⟨b, o + i * k, none⟩) (j - i) (c - i)) (j - i) (fl f ((l.take j).drop i)) := by
  obtain ⟨A', c', e, h1, h2, h3⟩ := h
  cases e
  have hl : ((l.take j).drop i).length = j - i := by rw [List.length_drop, List.length_take]; omega
  refine ⟨_, _, rfl, by omega, by omega, by rw [fl_len hf, hl], fun hp => ?_⟩
  obtain ⟨b', o', e, hb, hc⟩ := h3.2 (by omega)
  cases e
  refine ⟨b, o + i * k, rfl, hb, fun m u hm => ?_⟩
  have hm0 := (List.getElem?_eq_some_iff.1 hm).1
  rw [fl_len hf, hl] at hm0
  have hq := Nat.div_add_mod m k
  have hmod := Nat.mod_lt m hk
  have hdiv : m / k < j - i := (Nat.div_lt_iff_lt_mul hk).2 hm0
  obtain ⟨x, hx⟩ : ∃ x, ((l.take j).drop i)[m / k]? = some x := ⟨_, List.getElem?_eq_getElem (by omega)⟩
  have hx' : l[i + m / k]? = some x := by
    rw [List.getElem?_drop, List.getElem?_take, if_pos (by omega)] at hx
    exact hx
  have e1 : m = m / k * k + m % k := by rw [Nat.mul_comm]; omega
  rw [e1, fl_get hf _ _ hx _ hmod] at hm
  have := hc ((i + m / k) * k + m % k) u (by rw [fl_get hf l _ hx' _ hmod]; exact hm)
  rw [Nat.add_mul] at this
  have e2 : o + i * k + m = o + (i * k + m / k * k + m % k) := by omega
  rw [e2]
  exact this
end Go.Proofs.Ytcifngefclgefaa
