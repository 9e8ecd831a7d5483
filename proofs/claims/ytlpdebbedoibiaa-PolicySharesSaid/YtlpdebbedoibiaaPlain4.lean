/- The plain laws of levels: bounds, what becomes of each, sums; no program in sight. -/
import Derived.Test.YtlpdebbedoibiaaPlain3
namespace Go.Proofs.Ytlpdebbedoibiaa
set_option linter.unusedVariables false

theorem bump_get (W v : Int) (L : List Int) (o : Int) (i : Nat) {y : Int} (hy : (bump W v L o)[i]? = some y) : ∃ x, L[i]? = some x ∧ (y = mx x v ∨ (y = v + 1 ∧ x ≤ v ∧ v < W)) := by
  have hi := (List.getElem?_eq_some_iff.1 hy).1
  rw [bump_len] at hi
  obtain ⟨x, hx⟩ : ∃ x, L[i]? = some x := ⟨_, List.getElem?_eq_getElem hi⟩
  exact ⟨x, hx, bump_at W v L o i hx hy⟩
theorem bump_ok {W v m : Int} {L : List Int} {o : Int} (hL : ∀ x ∈ L, 0 ≤ x ∧ x ≤ m) (h0 : 0 ≤ v) (h1 : v ≤ W) (h2 : W ≤ m) : ∀ y ∈ bump W v L o, 0 ≤ y ∧ y ≤ m := by
  intro y hy
  obtain ⟨i, hi⟩ := List.mem_iff_getElem?.1 hy
  obtain ⟨x, hx, h⟩ := bump_get W v L o i hi
  have := hL x (List.mem_of_getElem? hx)
  rcases h with rfl | ⟨rfl, _, _⟩
  · unfold mx; split <;> omega
  · omega
theorem bump_up {W v : Int} {L : List Int} {o : Int} {i : Nat} {x y : Int} (hx : L[i]? = some x) (hy : (bump W v L o)[i]? = some y) : x ≤ y := by
  rcases bump_at W v L o i hx hy with rfl | ⟨rfl, h, _⟩
  · unfold mx; split <;> omega
  · omega
theorem dip_at (v : Int) (L : List Int) (o : Int) (i : Nat) {x y : Int} (hx : L[i]? = some x) (hy : (dip v L o)[i]? = some y) : y = mn x v ∨ (y = v - 1 ∧ v ≤ x ∧ 0 < v) := by
  induction L generalizing o i with
  | nil => simp at hx
  | cons z L ih =>
    unfold dip at hy
    cases i with
    | zero =>
      simp at hx; subst hx
      split at hy
      · rename_i hc; simp at hy; exact .inr ⟨hy.symm, hc.1, hc.2.1⟩
      · simp at hy; exact .inl hy.symm
    | succ i =>
      simp at hx
      split at hy
      · simp at hy; exact ih _ _ hx hy
      · simp at hy; exact ih _ _ hx hy
/-- the levels after letting down, in the claims' order -/
def low (v : Int) (L : List Int) (o : Int) : List Int := (dip v L.reverse o).reverse
theorem low_len (v : Int) (L : List Int) (o : Int) : (low v L o).length = L.length := by unfold low; rw [List.length_reverse, dip_len, List.length_reverse]
theorem low_at (v : Int) (L : List Int) (o : Int) (i : Nat) {x y : Int} (hx : L[i]? = some x) (hy : (low v L o)[i]? = some y) : y = mn x v ∨ (y = v - 1 ∧ v ≤ x ∧ 0 < v) := by
  have hi := (List.getElem?_eq_some_iff.1 hx).1
  unfold low at hy
  rw [List.getElem?_reverse (by rw [dip_len, List.length_reverse]; exact hi), dip_len, List.length_reverse] at hy
  exact dip_at v L.reverse o (L.length - 1 - i) (by rw [List.getElem?_reverse (by omega), show L.length - 1 - (L.length - 1 - i) = i by omega]; exact hx) hy
theorem low_dn {v : Int} {L : List Int} {o : Int} (hv : 0 ≤ v) {i : Nat} {x y : Int} (h0 : 0 ≤ x) (hx : L[i]? = some x) (hy : (low v L o)[i]? = some y) : y ≤ x ∧ 0 ≤ y := by
  rcases low_at v L o i hx hy with rfl | ⟨rfl, h, _⟩
  · unfold mn; split <;> omega
  · omega
theorem isUp_odd {L : List Int} {W A v : Int} (h : IsUp L W A v) : v < W → A - needs L v ≤ cntLe L v := by
  intro hv
  have := needs_succ L v
  rcases h.2.2.2 with h1 | h1 <;> omega
theorem isDown_odd {L : List Int} {M A v : Int} (h : IsDown L M A v) : 0 < v → A - gives L v ≤ cntGe L v := by
  intro hv
  have := gives_pred L v
  rcases h.2.2.2 with h1 | h1 <;> omega
theorem up_sum {L : List Int} {W A v : Int} (h : IsUp L W A v) : (bump W v L (A - needs L v)).sum - L.sum = mn A (needs L W) := by
  have h1 := bump_sum W v L (A - needs L v) (by have := h.2.2.1; omega) (isUp_odd h)
  rw [h1]
  have h2 := needs_mono L h.2.1
  have h3 := h.2.2.1
  unfold mn
  by_cases hv : v < W
  · rw [if_pos hv]
    have h4 : A < needs L (v + 1) := by rcases h.2.2.2 with h5 | h5 <;> omega
    have := needs_mono L (show v + 1 ≤ W by omega)
    rw [if_neg (by omega)]
    omega
  · rw [if_neg hv]
    have : v = W := by have := h.2.1; omega
    subst this
    split <;> omega
theorem sum_reverse (L : List Int) : L.reverse.sum = L.sum := by
  induction L with
  | nil => rfl
  | cons x L ih => rw [List.reverse_cons, List.sum_append, ih]; simp; omega
theorem gives_rev (L : List Int) (v : Int) : gives L.reverse v = gives L v := by unfold gives; rw [List.map_reverse, sum_reverse]
theorem cntGe_rev (L : List Int) (v : Int) : cntGe L.reverse v = cntGe L v := by unfold cntGe; rw [List.map_reverse, sum_reverse]
theorem down_sum {L : List Int} {M A v : Int} (h0 : ∀ x ∈ L, 0 ≤ x) (h : IsDown L M A v) : L.sum - (low v L (A - gives L v)).sum = mn A L.sum := by
  have h1 := dip_sum v L.reverse (A - gives L v) (by have := h.2.2.1; omega) (by rw [cntGe_rev]; exact isDown_odd h)
  unfold low
  rw [sum_reverse, h1, sum_reverse, gives_rev]
  have hz := gives_zero L h0
  have h2 := gives_mono L h.1
  have h3 := h.2.2.1
  unfold mn
  by_cases hv : 0 < v
  · rw [if_pos hv]
    have h4 : A < gives L (v - 1) := by rcases h.2.2.2 with h5 | h5 <;> omega
    have := gives_mono L (show 0 ≤ v - 1 by omega)
    rw [if_neg (by omega)]
    omega
  · rw [if_neg hv]
    have : v = 0 := by have := h.1; omega
    subst this
    split <;> omega
theorem put_put (l : List Cl) (ys zs : List Int) (h1 : ys.length = l.length) (h2 : zs.length = l.length) : put (put l ys) zs = put l zs := by
  induction l generalizing ys zs with
  | nil => cases ys <;> cases zs <;> simp [put] at *
  | cons c l ih =>
    cases ys with
    | nil => simp at h1
    | cons y ys =>
      cases zs with
      | nil => simp at h2
      | cons z zs => simp only [put]; rw [ih ys zs (by simpa using h1) (by simpa using h2)]
theorem put_len (l : List Cl) (ys : List Int) (h : ys.length = l.length) : (put l ys).length = l.length := by
  have := congrArg List.length (put_lev l ys h)
  rw [lev, List.length_map] at this
  omega
theorem put_at (l : List Cl) (ys : List Int) (i : Nat) {c : Cl} {y : Int} (hc : l[i]? = some c) (hy : ys[i]? = some y) : (put l ys)[i]? = some { c with res := y } := by
  induction l generalizing ys i with
  | nil => simp at hc
  | cons d l ih =>
    cases ys with
    | nil => simp at hy
    | cons z ys =>
      cases i with
      | zero => simp at hc hy; subst hc; subst hy; rfl
      | succ i => simp at hc hy; simp only [put, List.getElem?_cons_succ]; exact ih ys i hc hy
theorem shUp_len (l : List Cl) (ys : List Int) : (shUp l ys).length ≤ l.length := by
  induction l generalizing ys with
  | nil => simp [shUp]
  | cons c l ih =>
    cases ys with
    | nil => simp [shUp]
    | cons y ys => have := ih ys; unfold shUp; split <;> simp <;> omega
theorem shDown_len (l : List Cl) (ys : List Int) : (shDown l ys).length ≤ l.length := by
  induction l generalizing ys with
  | nil => simp [shDown]
  | cons c l ih =>
    cases ys with
    | nil => simp [shDown]
    | cons y ys => have := ih ys; unfold shDown; split <;> simp <;> omega
theorem shUp_bd (l : List Cl) (ys : List Int) {m : Int} (h1 : ∀ c ∈ l, 0 ≤ c.res) (h2 : ∀ y ∈ ys, y ≤ m) : ∀ x ∈ shUp l ys, 0 ≤ x.bytes ∧ x.bytes ≤ m := by
  induction l generalizing ys with
  | nil => simp [shUp]
  | cons c l ih =>
    cases ys with
    | nil => simp [shUp]
    | cons y ys =>
      have r := ih ys (fun c hc => h1 c (by simp [hc])) (fun y hy => h2 y (by simp [hy]))
      have a := h1 c (by simp)
      have b := h2 y (by simp)
      unfold shUp
      split
      · intro x hx
        rcases List.mem_cons.1 hx with rfl | hx
        · dsimp only; omega
        · exact r x hx
      · exact r
theorem shDown_bd (l : List Cl) (ys : List Int) {m : Int} (h1 : ∀ c ∈ l, c.res ≤ m) (h2 : ∀ y ∈ ys, 0 ≤ y) : ∀ x ∈ shDown l ys, 0 ≤ x.bytes ∧ x.bytes ≤ m := by
  induction l generalizing ys with
  | nil => simp [shDown]
  | cons c l ih =>
    cases ys with
    | nil => simp [shDown]
    | cons y ys =>
      have r := ih ys (fun c hc => h1 c (by simp [hc])) (fun y hy => h2 y (by simp [hy]))
      have a := h1 c (by simp)
      have b := h2 y (by simp)
      unfold shDown
      split
      · intro x hx
        rcases List.mem_cons.1 hx with rfl | hx
        · dsimp only; omega
        · exact r x hx
      · exact r
end Go.Proofs.Ytlpdebbedoibiaa
