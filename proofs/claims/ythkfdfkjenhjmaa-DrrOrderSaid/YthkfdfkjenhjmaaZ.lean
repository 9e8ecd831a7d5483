/- Plain words: the queues of wants that are not taken. -/
import Derived.Test.YthkfdfkjenhjmaaX
namespace Go.Proofs.Ythkfdfkjenhjmaa
open Go.RowKit
set_option linter.unusedVariables false
set_option linter.unusedSimpArgs false

/-- the numbers from k on, n of them, of wants of priority p that are not taken -/
def left (l : List Wt) (T : List Bool) (p : Int) (k n : Nat) : List Nat := (List.range' k n).filter fun i => decide ((wtAt l i).p = p) && !T.getD i false
theorem left_succ (l : List Wt) (T : List Bool) (p : Int) (k n : Nat) : left l T p k (n + 1) = if (wtAt l k).p = p ∧ T.getD k false = false then k :: left l T p (k + 1) n else left l T p (k + 1) n := by
  unfold left
  rw [List.range'_succ, List.filter_cons]
  by_cases h : (wtAt l k).p = p <;> cases hb : T.getD k false <;> simp [h]
theorem frs_left (l : List Wt) (T : List Bool) (p : Int) (n k : Nat) : frs l T p n k = fst1 (left l T p k n) := by
  induction n generalizing k with
  | zero => rfl
  | succ n ih =>
    rw [left_succ, frs]
    by_cases h : (wtAt l k).p = p ∧ T.getD k false = false
    · rw [if_pos h, if_pos h]; rfl
    · rw [if_neg h, if_neg h]; exact ih (k + 1)
theorem left_mem {l : List Wt} {T : List Bool} {p : Int} {k n i : Nat} (h : i ∈ left l T p k n) : k ≤ i ∧ i < k + n ∧ (wtAt l i).p = p ∧ T.getD i false = false := by
  unfold left at h
  rw [List.mem_filter] at h
  obtain ⟨a, b⟩ := h
  have := List.mem_range'_1.1 a
  simp at b
  refine ⟨by omega, by omega, b.1, ?_⟩
  rw [List.getD_eq_getElem?_getD]; exact b.2
theorem left_nil (l : List Wt) (n : Nat) (m p k : Nat) : left l (List.replicate m false) p k n = (List.range' k n).filter fun i => decide ((wtAt l i).p = p) := by
  unfold left
  congr 1
  funext i
  have : (List.replicate m false).getD i false = false := by
    rw [List.getD_eq_getElem?_getD, List.getElem?_replicate]
    split <;> rfl
  rw [this]; simp
theorem getD_set {T : List Bool} {i j : Nat} (hi : i < T.length) : (T.set i true).getD j false = if i = j then true else T.getD j false := by
  rw [List.getD_eq_getElem?_getD, List.getElem?_set, List.getD_eq_getElem?_getD]
  by_cases h : i = j
  · subst h; simp [hi]
  · simp [h]
theorem left_other {l : List Wt} {T : List Bool} {p : Int} {i : Nat} (hi : i < T.length) (h : (wtAt l i).p ≠ p) (n k : Nat) : left l (T.set i true) p k n = left l T p k n := by
  unfold left
  apply List.filter_congr
  intro j _
  by_cases e : i = j
  · subst e; simp [h]
  · rw [getD_set hi, if_neg e]
theorem left_pop {l : List Wt} {T : List Bool} {p : Int} {i : Nat} (hi : i < T.length) (n k : Nat) {r : List Nat} (h : left l T p k n = i :: r) : left l (T.set i true) p k n = r := by
  induction n generalizing k with
  | zero => cases h
  | succ n ih =>
    rw [left_succ] at h ⊢
    by_cases hk : (wtAt l k).p = p ∧ T.getD k false = false
    · rw [if_pos hk] at h
      injection h with h1 h2
      subst h1
      rw [if_neg (fun c => by rw [getD_set hi, if_pos rfl] at c; cases c.2), ← h2]
      unfold left
      apply List.filter_congr
      intro j hj
      have := (List.mem_range'_1.1 hj)
      rw [getD_set hi, if_neg (by omega)]
    · rw [if_neg hk] at h
      have hm := left_mem (l := l) (T := T) (p := p) (k := k + 1) (n := n) (i := i) (by rw [h]; exact List.mem_cons_self)
      rw [if_neg]
      · exact ih (k + 1) h
      · intro c
        rw [getD_set hi, if_neg (by omega)] at c
        exact hk c

/-- what is taken, beside the queues -/
structure Tk (l : List Wt) (T : List Bool) (Q : Nat → List Nat) : Prop where
  len : T.length = l.length
  q : ∀ p, p < 3 → Q p = left l T p 0 l.length
theorem Tk.first {l : List Wt} {T : List Bool} {Q : Nat → List Nat} (h : Tk l T Q) {p : Nat} (hp : p < 3) : frs l T p l.length 0 = fst1 (Q p) := by rw [frs_left, h.q p hp]
theorem Tk.start (l : List Wt) : Tk l (List.replicate l.length false) (que l l.length) := ⟨by simp, fun p _ => by
  rw [left_nil]; unfold que; rw [List.range_eq_range']⟩
theorem Tk.pop {l : List Wt} {T : List Bool} {Q : Nat → List Nat} (h : Tk l T Q) {p i : Nat} {r : List Nat} (hp : p < 3) (hi : Q p = i :: r) : Tk l (T.set i true) (pop Q p) := by
  have hm := left_mem (l := l) (T := T) (p := p) (k := 0) (n := l.length) (i := i) (by rw [← h.q p hp, hi]; exact List.mem_cons_self)
  have hT : i < T.length := by rw [h.len]; omega
  refine ⟨by rw [List.length_set]; exact h.len, fun x hx => ?_⟩
  unfold Proofs.Ythkfdfkjenhjmaa.pop
  by_cases e : x = p
  · subst e
    rw [if_pos rfl, left_pop hT _ _ (r := r) (by rw [← h.q x hx, hi]), hi]
    rfl
  · rw [if_neg e, left_other hT (by rw [hm.2.2.1]; omega)]
    exact h.q x hx
theorem qlen_pos {l : List Wt} {Q : Nat → List Nat} (h : QOk l Q) (h0 : 0 < qlen Q) : hds l Q ≠ [0, 0, 0] := by
  intro e
  unfold hds at e
  injection e with e0 e
  injection e with e1 e
  injection e with e2 _
  have a := (hsz_b h (p := 0) (by decide)).2.2.1 e0
  have b := (hsz_b h (p := 1) (by decide)).2.2.1 e1
  have c := (hsz_b h (p := 2) (by decide)).2.2.1 e2
  unfold qlen at h0
  rw [a, b, c] at h0
  cases h0
theorem que_all {l : List Wt} (h : l.any wtBad = false) : qlen (que l l.length) = l.length := by
  refine que_sum _ fun i hi => ?_
  have hw : ¬ wtBad (wtAt l i) = true := fun hb => by
    have := List.any_eq_true.2 ⟨wtAt l i, by unfold wtAt; rw [List.getD_eq_getElem?_getD, List.getElem?_eq_getElem hi]; exact List.getElem_mem hi, hb⟩
    rw [h] at this
    cases this
  unfold wtBad at hw
  simp at hw
  omega
end Go.Proofs.Ythkfdfkjenhjmaa
