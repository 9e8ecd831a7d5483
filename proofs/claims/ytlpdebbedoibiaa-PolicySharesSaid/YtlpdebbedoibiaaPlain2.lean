/- The plain laws of filling up: twice is once with the sum; shares and what they make of claims; no program in sight. -/
import Derived.Test.YtlpdebbedoibiaaPlain
namespace Go.Proofs.Ytlpdebbedoibiaa
set_option linter.unusedVariables false

theorem bump_bump (W v : Int) (L : List Int) (o p : Int) (h0 : 0 ≤ o) (h1 : 0 ≤ p) : bump W v (bump W v L o) p = bump W v L (o + p) := by
  induction L generalizing o p with
  | nil => rfl
  | cons x L ih =>
    by_cases hc : x ≤ v ∧ v < W ∧ 0 < o
    · rw [show bump W v (x :: L) o = (v + 1) :: bump W v L (o - 1) from by rw [bump, if_pos hc]]
      rw [bump, if_neg (by omega), show bump W v (x :: L) (o + p) = (v + 1) :: bump W v L (o + p - 1) from by rw [bump, if_pos ⟨hc.1, hc.2.1, by omega⟩]]
      rw [ih _ _ (by omega) h1, show mx (v + 1) v = v + 1 from by unfold mx; split <;> omega, show o - 1 + p = o + p - 1 from by omega]
    · rw [show bump W v (x :: L) o = mx x v :: bump W v L o from by rw [bump, if_neg hc]]
      by_cases hd : x ≤ v ∧ v < W ∧ 0 < p
      · have ho : o = 0 := by
          have : ¬ 0 < o := fun h => hc ⟨hd.1, hd.2.1, h⟩
          omega
        have e : mx x v = v := by unfold mx; split <;> omega
        rw [bump, if_pos (by rw [e]; omega), show bump W v (x :: L) (o + p) = (v + 1) :: bump W v L (o + p - 1) from by rw [bump, if_pos ⟨hd.1, hd.2.1, by omega⟩]]
        rw [ih _ _ (by omega) (by omega), show o + (p - 1) = o + p - 1 from by omega]
      · have e1 : mx (mx x v) v = mx x v := by unfold mx; (repeat' split) <;> omega
        rw [bump, if_neg (by
          rintro ⟨a, b, c⟩
          refine hd ⟨?_, b, c⟩
          have : x ≤ mx x v := by unfold mx; split <;> omega
          omega), show bump W v (x :: L) (o + p) = mx x v :: bump W v L (o + p) from by
            rw [bump, if_neg (by
              rintro ⟨a, b, c⟩
              by_cases h : 0 < o
              · exact hc ⟨a, b, h⟩
              · exact hd ⟨a, b, by omega⟩)]]
        rw [ih _ _ h0 h1, e1]
theorem bump_over (W v u : Int) (L : List Int) (o p : Int) (h : u < v) : bump W v (bump W u L o) p = bump W v L p := by
  induction L generalizing o p with
  | nil => rfl
  | cons x L ih =>
    have key : ∀ y o', (y = mx x u ∨ (y = u + 1 ∧ x ≤ u)) → bump W v (y :: bump W u L o') p = bump W v (x :: L) p := by
      intro y o' hy
      have e1 : y ≤ v ↔ x ≤ v := by rcases hy with rfl | ⟨rfl, hx⟩ <;> (try unfold mx) <;> (try split) <;> omega
      have e2 : mx y v = mx x v := by rcases hy with rfl | ⟨rfl, hx⟩ <;> unfold mx <;> (repeat' split) <;> omega
      unfold bump
      by_cases hc : x ≤ v ∧ v < W ∧ 0 < p
      · rw [if_pos hc, if_pos ⟨e1.2 hc.1, hc.2⟩, ih]
      · rw [if_neg hc, if_neg (fun h => hc ⟨e1.1 h.1, h.2⟩), ih, e2]
    rw [show bump W u (x :: L) o = if x ≤ u ∧ u < W ∧ 0 < o then (u + 1) :: bump W u L (o - 1) else mx x u :: bump W u L o from by rw [bump]]
    split
    · rename_i hc; exact key _ _ (.inr ⟨rfl, hc.1⟩)
    · exact key _ _ (.inl rfl)
theorem needs_bump (W u v : Int) (L : List Int) (o : Int) (h : u < v) : needs (bump W u L o) v + (bump W u L o).sum = needs L v + L.sum := by
  induction L generalizing o with
  | nil => rfl
  | cons x L ih =>
    unfold bump
    split
    · rename_i hc
      rw [needs_cons, List.sum_cons, needs_cons, List.sum_cons]
      have := ih (o - 1)
      have e : mx (u + 1) v = mx x v := by unfold mx; split <;> split <;> omega
      omega
    · rw [needs_cons, List.sum_cons, needs_cons, List.sum_cons]
      have := ih o
      have e : mx (mx x u) v = mx x v := by unfold mx; (repeat' split) <;> omega
      omega
theorem needs_bump_at (W u : Int) (L : List Int) (o : Int) : needs (bump W u L o) u = 0 := by
  induction L generalizing o with
  | nil => rfl
  | cons x L ih =>
    unfold bump
    split
    · rw [needs_cons, ih]; unfold mx; split <;> omega
    · rw [needs_cons, ih]; unfold mx; (repeat' split) <;> omega

theorem fill_twice {L : List Int} {W A B v1 v2 v3 : Int} (hA : 0 ≤ A) (hB : 0 ≤ B) (h1 : IsUp L W A v1) (h2 : IsUp (bump W v1 L (A - needs L v1)) W B v2) (h3 : IsUp L W (A + B) v3) :
    bump W v2 (bump W v1 L (A - needs L v1)) (B - needs (bump W v1 L (A - needs L v1)) v2) = bump W v3 L (A + B - needs L v3) := by
  have ns := needs_succ L v1
  have cl := (cntLe_nonneg L v1).1
  obtain ⟨a1, a2, a3, a4⟩ := h1
  by_cases hv : v1 = W
  · subst hv
    have e3 : v3 = v1 := isUp_uniq h3 ⟨a1, a2, by omega, .inl rfl⟩
    have e2 : v2 = v1 := isUp_uniq h2 ⟨a1, a2, by rw [needs_bump_at]; exact hB, .inl rfl⟩
    subst e3
    subst e2
    have hh : ∀ (M : List Int) (o p : Int), bump v2 v2 M o = bump v2 v2 M p := by
      intro M
      induction M with
      | nil => intros; rfl
      | cons x M ih => intro o p; unfold bump; rw [if_neg (by omega), if_neg (by omega), ih o p]
    rw [hh _ (B - _) 0, bump_bump _ _ _ _ _ (by omega) (by omega), hh]
  · have hlt : v1 < W := by omega
    have hA2 : A < needs L (v1 + 1) := by rcases a4 with h | h
                                          · exact absurd h hv
                                          · exact h
    have hs := bump_sum W v1 L (A - needs L v1) (by omega) (fun _ => by omega)
    rw [if_pos hlt] at hs
    have hn : ∀ v, v1 < v → needs (bump W v1 L (A - needs L v1)) v = needs L v - A := by
      intro v h
      have := needs_bump W v1 v L (A - needs L v1) h
      omega
    by_cases hb : A + B < needs L (v1 + 1)
    · have e3 : v3 = v1 := isUp_uniq h3 ⟨a1, a2, by omega, .inr hb⟩
      have e2 : v2 = v1 := isUp_uniq h2 ⟨a1, a2, by rw [needs_bump_at]; exact hB, .inr (by rw [hn _ (by omega)]; omega)⟩
      subst e3
      subst e2
      rw [needs_bump_at, bump_bump _ _ _ _ _ (by omega) (by omega)]
      congr 1
      omega
    · have h3' : v1 < v3 := by
        by_cases h : v1 < v3
        · exact h
        · have m := needs_mono L (show v3 + 1 ≤ v1 + 1 by omega)
          have := h3.2.2.2
          omega
      have e2 : v2 = v3 := isUp_uniq h2 ⟨h3.1, h3.2.1, by rw [hn _ h3']; have := h3.2.2.1; omega, by
        rcases h3.2.2.2 with h | h
        · exact .inl h
        · exact .inr (by rw [hn _ (by omega)]; omega)⟩
      subst e2
      rw [bump_over _ _ _ _ _ _ h3', hn _ h3']
      congr 1
      omega

/-- a claim: node, reserved bytes, sure, open -/
structure Cl where
  node : Int
  res : Int
  sure : Bool
  opn : Bool
deriving DecidableEq
/-- a share: node, bytes -/
structure Sh where
  node : Int
  bytes : Int
deriving DecidableEq
def lev (l : List Cl) : List Int := l.map (·.res)
/-- the differences of levels as shares -/
def shUp : List Cl → List Int → List Sh
  | c :: r, y :: ys => if c.res < y then ⟨c.node, y - c.res⟩ :: shUp r ys else shUp r ys
  | _, _ => []
def shDown : List Cl → List Int → List Sh
  | c :: r, y :: ys => if y < c.res then ⟨c.node, c.res - y⟩ :: shDown r ys else shDown r ys
  | _, _ => []
def shSum (s : List Sh) : Int := (s.map (·.bytes)).sum
/-- claims with other levels -/
def put : List Cl → List Int → List Cl
  | c :: r, y :: ys => { c with res := y } :: put r ys
  | _, _ => []
theorem put_lev (l : List Cl) (ys : List Int) (h : ys.length = l.length) : lev (put l ys) = ys := by
  induction l generalizing ys with
  | nil => cases ys with
    | nil => rfl
    | cons y ys => simp at h
  | cons c l ih => cases ys with
    | nil => simp at h
    | cons y ys => simp [put, lev] at *; exact ih ys h
end Go.Proofs.Ytlpdebbedoibiaa
