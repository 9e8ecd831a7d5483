/- Plain words of the order. -/
import Derived.Test.YthkfdfkjenhjmaaH
import Derived.Test.YthkfdfkjenhjmaaFlat
namespace Go.Proofs.Ythkfdfkjenhjmaa
open Go.RowKit
set_option linter.unusedVariables false
set_option linter.unusedSimpArgs false

structure Wt where
  p : Int
  s : Int
deriving DecidableEq
def Wt.cells (x : Wt) : List Value := [.int .i64 x.p, .int .i64 x.s]
theorem wt2 (x : Wt) : x.cells.length = 2 := rfl
def wtBad (x : Wt) : Bool := decide (x.p < 0) || decide (3 ≤ x.p) || decide (x.s < 1) || decide (1200 < x.s)
def wtAt (l : List Wt) (i : Nat) : Wt := l.getD i ⟨0, 0⟩
/-- the numbers of a priority's wants among the first k -/
def que (l : List Wt) (k p : Nat) : List Nat := (List.range k).filter fun i => decide ((wtAt l i).p = p)
def hsz (l : List Wt) : List Nat → Int
  | [] => 0
  | i :: _ => (wtAt l i).s
def hds (l : List Wt) (Q : Nat → List Nat) : List Int := [hsz l (Q 0), hsz l (Q 1), hsz l (Q 2)]
def pop (Q : Nat → List Nat) (p : Nat) : Nat → List Nat := fun x => if x = p then (Q p).tail else Q x
def srv (d : Dr) (H : List Int) : Dr := ⟨d.W, d.q, paid H (ends d H), (ends d H).2⟩
def ordL (l : List Wt) : Nat → Dr → (Nat → List Nat) → Int → List Nat × Dr
  | 0, d, _, _ => ([], d)
  | f + 1, d, Q, b =>
    if hds l Q = [0, 0, 0] then ([], d) else
    if b < at0 (hds l Q) (ends d (hds l Q)).2 then ([], d) else
    ((Q (ends d (hds l Q)).2).headD 0 :: (ordL l f (srv d (hds l Q)) (pop Q (ends d (hds l Q)).2) (b - at0 (hds l Q) (ends d (hds l Q)).2)).1,
     (ordL l f (srv d (hds l Q)) (pop Q (ends d (hds l Q)).2) (b - at0 (hds l Q) (ends d (hds l Q)).2)).2)
def ordE (d : Dr) (l : List Wt) (b : Int) : Int := if chk d ≠ 0 then chk d else if l.any wtBad = true then 2 else if b < 0 then 2 else 0
def ord (d : Dr) (l : List Wt) (b : Int) : List Nat × Dr × Int :=
  if ordE d l b ≠ 0 then ([], zDr, ordE d l b) else ((ordL l l.length d (que l l.length) b).1, (ordL l l.length d (que l l.length) b).2, 0)

/-- queues of wants that are as they should be -/
structure QOk (l : List Wt) (Q : Nat → List Nat) : Prop where
  i : ∀ p, p < 3 → ∀ i ∈ Q p, i < l.length ∧ (wtAt l i).p = p ∧ 1 ≤ (wtAt l i).s ∧ (wtAt l i).s ≤ 1200
theorem QOk.pop {l : List Wt} {Q : Nat → List Nat} (h : QOk l Q) (p : Nat) : QOk l (pop Q p) := ⟨fun x hx i hi => by
  unfold Proofs.Ythkfdfkjenhjmaa.pop at hi
  split at hi
  · rename_i e; subst e; exact h.i x hx i (List.mem_of_mem_tail hi)
  · exact h.i x hx i hi⟩
theorem hsz_b {l : List Wt} {Q : Nat → List Nat} (h : QOk l Q) {p : Nat} (hp : p < 3) : 0 ≤ hsz l (Q p) ∧ hsz l (Q p) ≤ 1200 ∧ (hsz l (Q p) = 0 ↔ Q p = []) := by
  cases hq : Q p with
  | nil => simp [hsz]
  | cons i r =>
    have := h.i p hp i (by rw [hq]; exact List.mem_cons_self)
    simp only [hsz]
    exact ⟨by omega, by omega, ⟨fun e => by omega, fun e => by cases e⟩⟩
theorem hds_at {l : List Wt} {Q : Nat → List Nat} {p : Nat} (hp : p < 3) : at0 (hds l Q) p = hsz l (Q p) := by
  match p, hp with
  | 0, _ => rfl
  | 1, _ => rfl
  | 2, _ => rfl
theorem hds_hok {l : List Wt} {Q : Nat → List Nat} (h : QOk l Q) (hz : hds l Q ≠ [0, 0, 0]) : HOk (hds l Q) := by
  refine ⟨rfl, fun x hx => ?_, ?_⟩
  · simp [hds] at hx
    rcases hx with rfl | rfl | rfl
    · have := hsz_b h (p := 0) (by decide); omega
    · have := hsz_b h (p := 1) (by decide); omega
    · have := hsz_b h (p := 2) (by decide); omega
  · by_cases a : hsz l (Q 0) = 0
    · by_cases b : hsz l (Q 1) = 0
      · by_cases c : hsz l (Q 2) = 0
        · exact absurd (by unfold hds; rw [a, b, c]) hz
        · exact ⟨2, by decide, c⟩
      · exact ⟨1, by decide, b⟩
    · exact ⟨0, by decide, a⟩
/-- who is served -/
theorem ends_ok {d : Dr} {H : List Int} (h : Ok d) (hh : HOk H) : SOk (ends d H) ∧ stops H (ends d H) :=
  ⟨pas_ok h.w3 h.w h.q0 h.q1 (ok_sok h) _, (turns_serve h hh).2.1⟩
theorem srv_ok {d : Dr} {H : List Int} (h : Ok d) (hh : HOk H) : Ok (srv d H) := by
  obtain ⟨⟨a, b, c⟩, st⟩ := ends_ok h hh
  have hb := hh.b _ (at0_mem (i := (ends d H).2) (by rw [hh.l3]; exact c))
  have hd := b _ (at0_mem (i := (ends d H).2) (by rw [a]; exact c))
  refine ⟨h.w3, ?_, h.w, h.q0, h.q1, ?_, by show (0 : Int) ≤ ((ends d H).2 : Int); omega, by show ((ends d H).2 : Int) < 3; omega⟩
  · show (List.set _ _ _).length = 3
    rw [List.length_set]; exact a
  · show ∀ x ∈ List.set _ _ _, _
    refine all_set b _ ?_
    have := st.2
    omega
theorem served_some {l : List Wt} {Q : Nat → List Nat} {d : Dr} (h : Ok d) (hq : QOk l Q) (hz : hds l Q ≠ [0, 0, 0]) : (ends d (hds l Q)).2 < 3 ∧ ∃ i r, Q (ends d (hds l Q)).2 = i :: r := by
  obtain ⟨⟨a, b, c⟩, st⟩ := ends_ok h (hds_hok hq hz)
  refine ⟨c, ?_⟩
  have := st.1
  rw [hds_at c] at this
  cases hQ : Q (ends d (hds l Q)).2 with
  | nil => rw [hQ] at this; exact absurd rfl this
  | cons i r => exact ⟨i, r, rfl⟩
def qlen (Q : Nat → List Nat) : Nat := (Q 0).length + (Q 1).length + (Q 2).length
theorem qlen_pop {Q : Nat → List Nat} {p i : Nat} {r : List Nat} (hp : p < 3) (h : Q p = i :: r) : qlen (pop Q p) + 1 = qlen Q := by
  unfold qlen pop
  match p, hp with
  | 0, _ => simp [h]; omega
  | 1, _ => simp [h]; omega
  | 2, _ => simp [h]; omega
theorem qlen_zero {l : List Wt} {Q : Nat → List Nat} (h : qlen Q = 0) : hds l Q = [0, 0, 0] := by
  unfold qlen at h
  have a := List.eq_nil_of_length_eq_zero (show (Q 0).length = 0 by omega)
  have b := List.eq_nil_of_length_eq_zero (show (Q 1).length = 0 by omega)
  have c := List.eq_nil_of_length_eq_zero (show (Q 2).length = 0 by omega)
  unfold hds
  rw [a, b, c]; rfl
theorem que_succ (l : List Wt) (k p : Nat) : que l (k + 1) p = if (wtAt l k).p = p then que l k p ++ [k] else que l k p := by
  unfold que
  rw [List.range_succ, List.filter_append]
  by_cases h : (wtAt l k).p = p
  · rw [if_pos h]; simp [h]
  · rw [if_neg h]; simp [h]
theorem que_len (l : List Wt) (k p : Nat) : (que l k p).length ≤ k := by
  unfold que
  exact Nat.le_trans (List.length_filter_le _ _) (by simp)
theorem que_ok {l : List Wt} (h : l.any wtBad = false) : QOk l (que l l.length) := ⟨fun p hp i hi => by
  unfold que at hi
  rw [List.mem_filter] at hi
  obtain ⟨a, b⟩ := hi
  have a := List.mem_range.1 a
  have hw : ¬ wtBad (wtAt l i) = true := fun hb => by
    have := List.any_eq_true.2 ⟨wtAt l i, by unfold wtAt; rw [List.getD_eq_getElem?_getD, List.getElem?_eq_getElem a]; exact List.getElem_mem a, hb⟩
    rw [h] at this
    cases this
  unfold wtBad at hw
  simp at hw b
  exact ⟨a, b, by omega, by omega⟩⟩
theorem que_sum {l : List Wt} (k : Nat) (h : ∀ i, i < k → 0 ≤ (wtAt l i).p ∧ (wtAt l i).p < 3) : qlen (que l k) = k := by
  induction k with
  | zero => rfl
  | succ k ih =>
    have ih := ih (fun i hi => h i (by omega))
    have hk := h k (by omega)
    unfold qlen at ih ⊢
    rw [que_succ, que_succ, que_succ]
    by_cases a : (wtAt l k).p = ((0 : Nat) : Int)
    · rw [if_pos a, if_neg (by omega), if_neg (by omega), List.length_append, List.length_singleton]; omega
    · by_cases b : (wtAt l k).p = ((1 : Nat) : Int)
      · rw [if_neg a, if_pos b, if_neg (by omega), List.length_append, List.length_singleton]; omega
      · rw [if_neg a, if_neg b, if_pos (by omega), List.length_append, List.length_singleton]; omega
end Go.Proofs.Ythkfdfkjenhjmaa
