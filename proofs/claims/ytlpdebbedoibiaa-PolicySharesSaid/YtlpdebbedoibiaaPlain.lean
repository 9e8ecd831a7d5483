/- The plain model of filling up and letting down; no program in sight. -/
namespace Go.Proofs.Ytlpdebbedoibiaa
set_option linter.unusedVariables false

def mx (a b : Int) : Int := if a < b then b else a
def mn (a b : Int) : Int := if b < a then b else a
/-- how many bytes raise all to a level -/
def needs (L : List Int) (v : Int) : Int := (L.map fun x => mx x v - x).sum
/-- how many bytes bring all down to a level -/
def gives (L : List Int) (v : Int) : Int := (L.map fun x => x - mn x v).sum

@[simp] theorem needs_nil (v : Int) : needs [] v = 0 := rfl
@[simp] theorem needs_cons (x : Int) (L : List Int) (v : Int) : needs (x :: L) v = (mx x v - x) + needs L v := by simp [needs]
@[simp] theorem gives_nil (v : Int) : gives [] v = 0 := rfl
@[simp] theorem gives_cons (x : Int) (L : List Int) (v : Int) : gives (x :: L) v = (x - mn x v) + gives L v := by simp [gives]

/-- how many are at a level or below -/
def cntLe (L : List Int) (v : Int) : Int := (L.map fun x => if x ≤ v then (1 : Int) else 0).sum
@[simp] theorem cntLe_nil (v : Int) : cntLe [] v = 0 := rfl
@[simp] theorem cntLe_cons (x : Int) (L : List Int) (v : Int) : cntLe (x :: L) v = (if x ≤ v then (1 : Int) else 0) + cntLe L v := by simp [cntLe]
def cntGe (L : List Int) (v : Int) : Int := (L.map fun x => if v ≤ x then (1 : Int) else 0).sum
@[simp] theorem cntGe_nil (v : Int) : cntGe [] v = 0 := rfl
@[simp] theorem cntGe_cons (x : Int) (L : List Int) (v : Int) : cntGe (x :: L) v = (if v ≤ x then (1 : Int) else 0) + cntGe L v := by simp [cntGe]

theorem needs_succ (L : List Int) (v : Int) : needs L (v + 1) = needs L v + cntLe L v := by
  induction L with
  | nil => rfl
  | cons x L ih => simp only [needs_cons, cntLe_cons, ih]; unfold mx; split <;> split <;> split <;> omega
theorem gives_pred (L : List Int) (v : Int) : gives L (v - 1) = gives L v + cntGe L v := by
  induction L with
  | nil => rfl
  | cons x L ih => simp only [gives_cons, cntGe_cons, ih]; unfold mn; split <;> split <;> split <;> omega
theorem cntLe_nonneg (L : List Int) (v : Int) : 0 ≤ cntLe L v ∧ cntLe L v ≤ L.length := by
  induction L with
  | nil => simp
  | cons x L ih => simp only [cntLe_cons, List.length_cons]; split <;> omega
theorem cntGe_nonneg (L : List Int) (v : Int) : 0 ≤ cntGe L v ∧ cntGe L v ≤ L.length := by
  induction L with
  | nil => simp
  | cons x L ih => simp only [cntGe_cons, List.length_cons]; split <;> omega
theorem needs_mono (L : List Int) {u v : Int} (h : u ≤ v) : needs L u ≤ needs L v := by
  induction L with
  | nil => simp
  | cons x L ih => simp only [needs_cons]; have : mx x u ≤ mx x v := by unfold mx; split <;> split <;> omega
                   omega
theorem gives_mono (L : List Int) {u v : Int} (h : u ≤ v) : gives L v ≤ gives L u := by
  induction L with
  | nil => simp
  | cons x L ih => simp only [gives_cons]; have : mn x u ≤ mn x v := by unfold mn; split <;> split <;> omega
                   omega
theorem needs_nonneg (L : List Int) (v : Int) : 0 ≤ needs L v := by
  induction L with
  | nil => simp
  | cons x L ih => simp only [needs_cons]; have : x ≤ mx x v := by unfold mx; split <;> omega
                   omega
theorem gives_nonneg (L : List Int) (v : Int) : 0 ≤ gives L v := by
  induction L with
  | nil => simp
  | cons x L ih => simp only [gives_cons]; have : mn x v ≤ x := by unfold mn; split <;> omega
                   omega
theorem needs_zero (L : List Int) (h : ∀ x ∈ L, 0 ≤ x) : needs L 0 = 0 := by
  induction L with
  | nil => rfl
  | cons x L ih =>
    rw [needs_cons, ih fun y hy => h y (by simp [hy])]
    have := h x (by simp)
    unfold mx; split <;> omega
theorem gives_top (L : List Int) (m : Int) (h : ∀ x ∈ L, x ≤ m) : gives L m = 0 := by
  induction L with
  | nil => rfl
  | cons x L ih =>
    rw [gives_cons, ih fun y hy => h y (by simp [hy])]
    have := h x (by simp)
    unfold mn; split <;> omega
theorem gives_zero (L : List Int) (h : ∀ x ∈ L, 0 ≤ x) : gives L 0 = L.sum := by
  induction L with
  | nil => rfl
  | cons x L ih =>
    rw [gives_cons, ih fun y hy => h y (by simp [hy]), List.sum_cons]
    have := h x (by simp)
    unfold mn; split <;> omega
theorem needs_bd (L : List Int) (v m : Int) (h : ∀ x ∈ L, 0 ≤ x) (hv : 0 ≤ v) (hm : v ≤ m) : needs L v ≤ L.length * m := by
  induction L with
  | nil => simp
  | cons x L ih =>
    have a := ih fun y hy => h y (by simp [hy])
    have := h x (by simp)
    rw [needs_cons, List.length_cons]
    have e : ((L.length + 1 : Nat) : Int) * m = L.length * m + m := by rw [Int.natCast_add, Int.add_mul]; simp
    rw [e]
    have : mx x v - x ≤ m := by unfold mx; split <;> omega
    omega
theorem gives_bd (L : List Int) (v m : Int) (h : ∀ x ∈ L, 0 ≤ x ∧ x ≤ m) (hv : 0 ≤ v) : gives L v ≤ L.length * m := by
  induction L with
  | nil => simp
  | cons x L ih =>
    have a := ih fun y hy => h y (by simp [hy])
    have := h x (by simp)
    rw [gives_cons, List.length_cons]
    have e : ((L.length + 1 : Nat) : Int) * m = L.length * m + m := by rw [Int.natCast_add, Int.add_mul]; simp
    rw [e]
    have : x - mn x v ≤ m := by unfold mn; split <;> omega
    omega

/-- the level to which an amount raises all, under a window -/
def IsUp (L : List Int) (W A v : Int) : Prop := 0 ≤ v ∧ v ≤ W ∧ needs L v ≤ A ∧ (v = W ∨ A < needs L (v + 1))
theorem isUp_uniq {L : List Int} {W A u v : Int} (hu : IsUp L W A u) (hv : IsUp L W A v) : u = v := by
  by_cases h : u < v
  · have a := needs_mono L (show u + 1 ≤ v by omega)
    have b := hu.2.2.2
    have c := hv.2.1
    have d := hv.2.2.1
    omega
  · by_cases h' : v < u
    · have a := needs_mono L (show v + 1 ≤ u by omega)
      have b := hv.2.2.2
      have c := hu.2.1
      have d := hu.2.2.1
      omega
    · omega
/-- the level to which an amount lets all down -/
def IsDown (L : List Int) (M A v : Int) : Prop := 0 ≤ v ∧ v ≤ M ∧ gives L v ≤ A ∧ (v = 0 ∨ A < gives L (v - 1))
theorem isDown_uniq {L : List Int} {M A u v : Int} (hu : IsDown L M A u) (hv : IsDown L M A v) : u = v := by
  by_cases h : u < v
  · have a := gives_mono L (show u ≤ v - 1 by omega)
    have b := hv.2.2.2
    have c := hu.1
    have d := hu.2.2.1
    omega
  · by_cases h' : v < u
    · have a := gives_mono L (show v ≤ u - 1 by omega)
      have b := hu.2.2.2
      have c := hv.1
      have d := hv.2.2.1
      omega
    · omega

/-- all raised to a level, and then some by one more -/
def bump (W v : Int) : List Int → Int → List Int
  | [], _ => []
  | x :: r, odd => if x ≤ v ∧ v < W ∧ 0 < odd then (v + 1) :: bump W v r (odd - 1) else mx x v :: bump W v r odd
/-- all let down to a level, and then some by one more, from the head on -/
def dip (v : Int) : List Int → Int → List Int
  | [], _ => []
  | x :: r, odd => if v ≤ x ∧ 0 < v ∧ 0 < odd then (v - 1) :: dip v r (odd - 1) else mn x v :: dip v r odd
theorem bump_len (W v : Int) (L : List Int) (o : Int) : (bump W v L o).length = L.length := by
  induction L generalizing o with
  | nil => rfl
  | cons x L ih => unfold bump; split <;> simp [ih]
theorem dip_len (v : Int) (L : List Int) (o : Int) : (dip v L o).length = L.length := by
  induction L generalizing o with
  | nil => rfl
  | cons x L ih => unfold dip; split <;> simp [ih]
theorem bump_sum (W v : Int) (L : List Int) (o : Int) (h0 : 0 ≤ o) (h : v < W → o ≤ cntLe L v) :
    (bump W v L o).sum = L.sum + needs L v + (if v < W then o else 0) := by
  induction L generalizing o with
  | nil =>
    simp only [bump, List.sum_nil, needs_nil]
    split
    · rename_i hv
      have := h hv
      simp at this
      omega
    · rfl
  | cons x L ih =>
    unfold bump
    by_cases hc : x ≤ v ∧ v < W ∧ 0 < o
    · rw [if_pos hc, List.sum_cons, List.sum_cons, needs_cons]
      have := ih (o - 1) (by omega) (fun hv => by have := h hv; simp only [cntLe_cons, if_pos hc.1] at this; omega)
      rw [this, if_pos hc.2.1, if_pos hc.2.1]
      have : mx x v = v := by unfold mx; split <;> omega
      omega
    · rw [if_neg hc, List.sum_cons, List.sum_cons, needs_cons]
      have := ih o h0 (fun hv => by
        have := h hv
        simp only [cntLe_cons] at this
        have c := (cntLe_nonneg L v).1
        split at this
        · have : ¬ 0 < o := fun h => hc ⟨by assumption, hv, h⟩
          omega
        · omega)
      rw [this]
      omega
theorem dip_sum (v : Int) (L : List Int) (o : Int) (h0 : 0 ≤ o) (h : 0 < v → o ≤ cntGe L v) :
    (dip v L o).sum = L.sum - gives L v - (if 0 < v then o else 0) := by
  induction L generalizing o with
  | nil =>
    simp only [dip, List.sum_nil, gives_nil]
    split
    · rename_i hv
      have := h hv
      simp at this
      omega
    · rfl
  | cons x L ih =>
    unfold dip
    by_cases hc : v ≤ x ∧ 0 < v ∧ 0 < o
    · rw [if_pos hc, List.sum_cons, List.sum_cons, gives_cons]
      have := ih (o - 1) (by omega) (fun hv => by have := h hv; simp only [cntGe_cons, if_pos hc.1] at this; omega)
      rw [this, if_pos hc.2.1, if_pos hc.2.1]
      have : mn x v = v := by unfold mn; split <;> omega
      omega
    · rw [if_neg hc, List.sum_cons, List.sum_cons, gives_cons]
      have := ih o h0 (fun hv => by
        have := h hv
        simp only [cntGe_cons] at this
        have c := (cntGe_nonneg L v).1
        split at this
        · have : ¬ 0 < o := fun h => hc ⟨by assumption, hv, h⟩
          omega
        · omega)
      rw [this]
      omega
/-- what becomes of each -/
theorem bump_at (W v : Int) (L : List Int) (o : Int) (i : Nat) {x y : Int} (hx : L[i]? = some x) (hy : (bump W v L o)[i]? = some y) :
    y = mx x v ∨ (y = v + 1 ∧ x ≤ v ∧ v < W) := by
  induction L generalizing o i with
  | nil => simp at hx
  | cons z L ih =>
    unfold bump at hy
    cases i with
    | zero =>
      simp at hx; subst hx
      split at hy
      · rename_i hc; simp at hy; exact .inr ⟨hy.symm, hc.1, hc.2.1⟩
      · simp at hy; exact .inl hy.symm
    | succ i =>
      simp at hx
      split at hy
      · simp at hy; exact ih _ _ hx hy
      · simp at hy; exact ih _ _ hx hy
end Go.Proofs.Ytlpdebbedoibiaa
