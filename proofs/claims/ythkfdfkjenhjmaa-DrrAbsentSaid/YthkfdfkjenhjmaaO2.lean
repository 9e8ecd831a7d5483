/- Plain words: the order without a budget, and what a budget takes of it. -/
import Derived.Test.YthkfdfkjenhjmaaN
namespace Go.Proofs.Ythkfdfkjenhjmaa
open Go.RowKit
set_option linter.unusedVariables false
set_option linter.unusedSimpArgs false

/-- the order without a budget -/
def seqL (l : List Wt) : Nat → Dr → (Nat → List Nat) → List Nat
  | 0, _, _ => []
  | f + 1, d, Q => if hds l Q = [0, 0, 0] then [] else (Q (ends d (hds l Q)).2).headD 0 :: seqL l f (srv d (hds l Q)) (pop Q (ends d (hds l Q)).2)
/-- what a budget takes -/
def takeB (l : List Wt) : Int → List Nat → List Nat
  | _, [] => []
  | b, i :: r => if b < (wtAt l i).s then [] else i :: takeB l (b - (wtAt l i).s) r
def sumS (l : List Wt) (L : List Nat) : Int := (L.map fun i => (wtAt l i).s).sum
theorem ordL_take (l : List Wt) (f : Nat) : ∀ (d : Dr) (Q : Nat → List Nat) (b : Int), Ok d → QOk l Q → (ordL l f d Q b).1 = takeB l b (seqL l f d Q) := by
  induction f with
  | zero => intro d Q b _ _; rfl
  | succ f ih =>
    intro d Q b hd hq
    by_cases hz : hds l Q = [0, 0, 0]
    · rw [ordL_zero hz, seqL, if_pos hz]; rfl
    · obtain ⟨hp, i, r, hi⟩ := served_some hd hq hz
      have hat : at0 (hds l Q) (ends d (hds l Q)).2 = (wtAt l i).s := by rw [hds_at hp, hi]; rfl
      rw [seqL, if_neg hz, hi]
      show _ = takeB l b (i :: _)
      rw [takeB]
      by_cases hb : b < (wtAt l i).s
      · rw [if_pos hb, ordL_stop (by rw [hat]; exact hb)]
      · rw [if_neg hb, ordL_go hz (by rw [hat]; exact hb) f hi, hat]
        dsimp only
        rw [ih _ _ _ (srv_ok hd (hds_hok hq hz)) (hq.pop _)]
theorem seqL_fil (l : List Wt) (f : Nat) : ∀ (d : Dr) (Q : Nat → List Nat), Ok d → QOk l Q → qlen Q ≤ f → ∀ p : Nat, p < 3 → (seqL l f d Q).filter (fun i => decide ((wtAt l i).p = p)) = Q p := by
  induction f with
  | zero =>
    intro d Q _ _ h p hp
    have : (Q p).length = 0 := by
      unfold qlen at h
      match p, hp with
      | 0, _ => omega
      | 1, _ => omega
      | 2, _ => omega
    rw [List.eq_nil_of_length_eq_zero this]; rfl
  | succ f ih =>
    intro d Q hd hq h p hp
    by_cases hz : hds l Q = [0, 0, 0]
    · rw [seqL, if_pos hz]
      have : hsz l (Q p) = 0 := by rw [← hds_at (l := l) hp, hz]; match p, hp with | 0, _ => rfl | 1, _ => rfl | 2, _ => rfl
      rw [((hsz_b hq hp).2.2).1 this]; rfl
    · obtain ⟨hp', i, r, hi⟩ := served_some hd hq hz
      have hql := qlen_pop hp' hi
      have hip := (hq.i _ hp' i (by rw [hi]; exact List.mem_cons_self)).2.1
      have := ih (srv d (hds l Q)) (pop Q (ends d (hds l Q)).2) (srv_ok hd (hds_hok hq hz)) (hq.pop _) (by omega) p hp
      rw [seqL, if_neg hz, hi]
      show List.filter _ (i :: _) = _
      rw [List.filter_cons, this]
      unfold pop
      by_cases e : p = (ends d (hds l Q)).2
      · rw [if_pos e, if_pos (by rw [hip, e]; simp), hi, e, hi]; rfl
      · rw [if_neg e, if_neg (by rw [hip]; simp; omega)]
theorem seqL_len (l : List Wt) (f : Nat) : ∀ (d : Dr) (Q : Nat → List Nat), Ok d → QOk l Q → qlen Q ≤ f → (seqL l f d Q).length = qlen Q := by
  induction f with
  | zero => intro d Q _ _ h; show 0 = _; omega
  | succ f ih =>
    intro d Q hd hq h
    by_cases hz : hds l Q = [0, 0, 0]
    · rw [seqL, if_pos hz]
      have h0 : ∀ p, p < 3 → Q p = [] := fun p hp => ((hsz_b hq hp).2.2).1 (by rw [← hds_at (l := l) hp, hz]; match p, hp with | 0, _ => rfl | 1, _ => rfl | 2, _ => rfl)
      unfold qlen
      rw [h0 0 (by decide), h0 1 (by decide), h0 2 (by decide)]; rfl
    · obtain ⟨hp', i, r, hi⟩ := served_some hd hq hz
      have hql := qlen_pop hp' hi
      rw [seqL, if_neg hz, List.length_cons, ih (srv d (hds l Q)) (pop Q (ends d (hds l Q)).2) (srv_ok hd (hds_hok hq hz)) (hq.pop _) (by omega)]
      omega
theorem seqL_mem (l : List Wt) (f : Nat) : ∀ (d : Dr) (Q : Nat → List Nat), Ok d → QOk l Q → ∀ i ∈ seqL l f d Q, i < l.length ∧ 0 ≤ (wtAt l i).p ∧ (wtAt l i).p < 3 ∧ 1 ≤ (wtAt l i).s ∧ (wtAt l i).s ≤ 1200 := by
  induction f with
  | zero => intro d Q _ _ i hi; cases hi
  | succ f ih =>
    intro d Q hd hq j hj
    by_cases hz : hds l Q = [0, 0, 0]
    · rw [seqL, if_pos hz] at hj; cases hj
    · obtain ⟨hp', i, r, hi⟩ := served_some hd hq hz
      rw [seqL, if_neg hz, hi] at hj
      rcases List.mem_cons.1 hj with e | e
      · have e' : j = i := e
        subst e'
        have := hq.i _ hp' j (by rw [hi]; exact List.mem_cons_self)
        exact ⟨this.1, by omega, by omega, this.2.2⟩
      · exact ih _ _ (srv_ok hd (hds_hok hq hz)) (hq.pop _) j e
theorem takeB_pre (l : List Wt) (A : List Nat) : ∀ b, takeB l b A = A.take (takeB l b A).length := by
  induction A with
  | nil => intro b; rfl
  | cons i r ih =>
    intro b
    rw [takeB]
    split
    · rfl
    · rw [List.length_cons, List.take_succ_cons, ← ih]
theorem takeB_len (l : List Wt) (A : List Nat) (b : Int) : (takeB l b A).length ≤ A.length := by
  have := congrArg List.length (takeB_pre l A b)
  rw [List.length_take] at this
  omega
theorem takeB_sum (l : List Wt) (A : List Nat) : ∀ b, 0 ≤ b → sumS l (takeB l b A) ≤ b := by
  induction A with
  | nil => intro b hb; exact hb
  | cons i r ih =>
    intro b hb
    rw [takeB]
    split
    · exact hb
    · have := ih (b - (wtAt l i).s) (by omega)
      unfold sumS at this ⊢
      rw [List.map_cons, List.sum_cons]
      omega
theorem takeB_more (l : List Wt) (A : List Nat) : ∀ b, ∀ i, A[(takeB l b A).length]? = some i → b < sumS l (takeB l b A) + (wtAt l i).s := by
  induction A with
  | nil => intro b i h; cases h
  | cons j r ih =>
    intro b i h
    rw [takeB] at h ⊢
    split at h
    · rename_i c
      rw [if_pos c]
      simp at h
      subst h
      show b < 0 + _
      omega
    · rename_i c
      rw [if_neg c]
      rw [List.length_cons, List.getElem?_cons_succ] at h
      have := ih _ _ h
      unfold sumS at this ⊢
      rw [List.map_cons, List.sum_cons]
      omega
theorem sumS_le (l : List Wt) (A : List Nat) (h : ∀ i ∈ A, 1 ≤ (wtAt l i).s ∧ (wtAt l i).s ≤ 1200) : 0 ≤ sumS l A ∧ sumS l A ≤ 1200 * A.length := by
  induction A with
  | nil => exact ⟨Int.le_refl _, Int.le_refl _⟩
  | cons i r ih =>
    have a := ih (fun j hj => h j (List.mem_cons_of_mem _ hj))
    have b := h i List.mem_cons_self
    unfold sumS at a ⊢
    rw [List.map_cons, List.sum_cons, List.length_cons]
    omega
theorem takeB_all (l : List Wt) (A : List Nat) (h : ∀ i ∈ A, 1 ≤ (wtAt l i).s ∧ (wtAt l i).s ≤ 1200) : ∀ b, 1200 * (A.length : Int) ≤ b → takeB l b A = A := by
  induction A with
  | nil => intro b _; rfl
  | cons i r ih =>
    intro b hb
    rw [List.length_cons] at hb
    have c := h i List.mem_cons_self
    rw [takeB, if_neg (by omega), ih (fun j hj => h j (List.mem_cons_of_mem _ hj)) _ (by omega)]
theorem que_lt (l : List Wt) (k p : Nat) : (que l k p).Pairwise (· < ·) := by
  unfold que
  exact List.Pairwise.filter _ List.pairwise_lt_range
/-- the last want of a priority so far -/
def lst (l : List Wt) (L : List Nat) (p : Nat) : Int := match (L.filter fun i => decide ((wtAt l i).p = p)).getLast? with
  | none => -1
  | some i => i
theorem lst_nil (l : List Wt) (p : Nat) : lst l [] p = -1 := rfl
theorem lst_snoc (l : List Wt) (L : List Nat) (i p : Nat) : lst l (L ++ [i]) p = if (wtAt l i).p = p then (i : Int) else lst l L p := by
  unfold lst
  rw [List.filter_append]
  by_cases h : (wtAt l i).p = p
  · rw [if_pos h]; simp [h]
  · rw [if_neg h]; simp [h]
/-- what is said of an order of all wants -/
structure AOk (l : List Wt) (A : List Nat) : Prop where
  len : A.length = l.length
  mem : ∀ i ∈ A, i < l.length ∧ 0 ≤ (wtAt l i).p ∧ (wtAt l i).p < 3 ∧ 1 ≤ (wtAt l i).s ∧ (wtAt l i).s ≤ 1200
  up : ∀ k i, A[k]? = some i → ∀ p : Nat, (wtAt l i).p = p → lst l (A.take k) p < i
theorem aok_of {l : List Wt} {d : Dr} (hd : Ok d) (hl : l.any wtBad = false) : AOk l (seqL l l.length d (que l l.length)) := by
  have hq := que_ok hl
  have hn := que_sum (l := l) l.length (fun i hi => by
    have hw : ¬ wtBad (wtAt l i) = true := fun hb => by
      have := List.any_eq_true.2 ⟨wtAt l i, by unfold wtAt; rw [List.getD_eq_getElem?_getD, List.getElem?_eq_getElem hi]; exact List.getElem_mem hi, hb⟩
      rw [hl] at this
      cases this
    unfold wtBad at hw
    simp at hw
    omega)
  refine ⟨by rw [seqL_len l _ d _ hd hq (by omega), hn], seqL_mem l _ d _ hd hq, fun k i hk p hp => ?_⟩
  have hp3 : p < 3 := by
    have := seqL_mem l _ d _ hd hq i (List.mem_of_getElem? hk)
    omega
  have hf := seqL_fil l l.length d _ hd hq (by omega) p hp3
  have hsplit : seqL l l.length d (que l l.length) = (seqL l l.length d (que l l.length)).take k ++ i :: (seqL l l.length d (que l l.length)).drop (k + 1) := by
    obtain ⟨hk', e⟩ := List.getElem?_eq_some_iff.1 hk
    rw [← e, ← List.drop_eq_getElem_cons hk', List.take_append_drop]
  rw [hsplit, List.filter_append, List.filter_cons, if_pos (by simpa using hp)] at hf
  have hpw := que_lt l l.length p
  rw [← hf, List.pairwise_append] at hpw
  unfold lst
  cases hg : (((seqL l l.length d (que l l.length)).take k).filter fun i => decide ((wtAt l i).p = p)).getLast? with
  | none => show (-1 : Int) < i; omega
  | some j =>
    have := hpw.2.2 j (List.mem_of_getLast? hg) i List.mem_cons_self
    show (j : Int) < i
    omega
theorem orders {l : List Wt} {d : Dr} {b : Int} (hd : Ok d) (hl : l.any wtBad = false) (hn : l.length ≤ 30) (hb : 0 ≤ b) :
    ∃ A d1 d2, AOk l A ∧ ord d l b = (takeB l b A, d1, 0) ∧ ord d l 1073741824 = (A, d2, 0) := by
  have hA := aok_of hd hl
  have e : ∀ b, 0 ≤ b → ord d l b = (takeB l b (seqL l l.length d (que l l.length)), (ordL l l.length d (que l l.length) b).2, 0) := fun b hb => by
    unfold ord
    rw [ordE_ok (chk_ok hd) hl (by omega), if_neg (by decide), ordL_take l l.length d _ b hd (que_ok hl)]
  refine ⟨_, _, (ordL l l.length d (que l l.length) 1073741824).2, hA, e b hb, ?_⟩
  · rw [e _ (by decide), takeB_all l _ (fun i hi => (hA.mem i hi).2.2.2) _ (by rw [hA.len]; omega)]
end Go.Proofs.Ythkfdfkjenhjmaa
