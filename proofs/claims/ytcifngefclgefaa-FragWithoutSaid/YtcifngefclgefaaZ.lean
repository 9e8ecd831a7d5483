/- Plain words: all fragments but one. -/
import Derived.Test.YtcifngefclgefaaW
namespace Go.Proofs.Ytcifngefclgefaa
set_option linter.unusedVariables false
set_option linter.unusedSimpArgs false

section
variable {h : Bn} {m : ByteArray} {s k : Nat}
/-- all but one -/
def butOf (l : List Bn) (k : Nat) : List Bn := l.take k ++ l.drop (k + 1)
theorem but_len {l : List Bn} (hk : k < l.length) : (butOf l k).length + 1 = l.length := by simp [butOf]; omega
theorem but_at {l : List Bn} (hk : k < l.length) (i : Nat) : (butOf l k)[i]? = if i < k then l[i]? else l[i + 1]? := by
  unfold butOf
  rw [List.getElem?_append]
  have hl : (l.take k).length = k := by rw [List.length_take]; omega
  rw [hl]
  by_cases c : i < k
  · rw [if_pos c, if_pos c, List.getElem?_take, if_pos c]
  · rw [if_neg c, if_neg c, List.getElem?_drop]
    congr 1
    omega
theorem but_bn (hk : k < (m.size + s - 1) / s) {i : Nat} (hi : i + 1 < (m.size + s - 1) / s) : bnAt (butOf (fragsOf h m s) k) i = if i < k then frOf h m s i i else frOf h m s (i + 1) (i + 1) := by
  have := but_at (l := fragsOf h m s) (k := k) (by rw [frags_len]; exact hk) i
  by_cases c : i < k
  · rw [if_pos c] at this ⊢
    exact bnAt_of (this.trans (frags_at (by omega)))
  · rw [if_neg c] at this ⊢
    exact bnAt_of (this.trans (frags_at hi))
theorem but_pcs (hs : 1 ≤ s ∧ s ≤ 1000) (hM : m.size ≤ 20000) (h0 : bE (frOf h m s 0 0) = 0) (hk : k < (m.size + s - 1) / s) (hne : ¬ (butOf (fragsOf h m s) k).length = 0) : Pcs m (butOf (fragsOf h m s) k) := by
  have hl := but_len (l := fragsOf h m s) (k := k) (by rw [frags_len]; exact hk)
  rw [frags_len] at hl
  refine pcs_of hs hM h0 hne fun i hi => ?_
  rw [but_bn hk (by omega)]
  by_cases c : i < k
  · rw [if_pos c]; exact ⟨i, (fr_lt hs.1).1 (by omega), rfl⟩
  · rw [if_neg c]; exact ⟨i + 1, (fr_lt hs.1).1 (by omega), rfl⟩
theorem but_cov (hs : 1 ≤ s ∧ s ≤ 1000) (hk : k < (m.size + s - 1) / s) {p : Nat} (hp : p < m.size) : (∃ i, i < (butOf (fragsOf h m s) k).length ∧ cov (bnAt (butOf (fragsOf h m s) k) i) p) ↔ ¬ (k * s ≤ p ∧ p < min (k * s + s) m.size) := by
  have hl := but_len (l := fragsOf h m s) (k := k) (by rw [frags_len]; exact hk)
  rw [frags_len] at hl
  obtain ⟨h1, h2⟩ := fr_idx (s := s) hs.1 hp
  have hj := (fr_lt (m := m) hs.1).2 h1
  have hkm := (fr_lt (m := m) hs.1).1 hk
  constructor
  · rintro ⟨i, hi, hc⟩ hin
    rw [but_bn hk (by omega)] at hc
    have key : ∀ j, j * s < m.size → j ≠ k → cov (frOf h m s j j) p → False := fun j hjm hne hcc => by
      have := (fr_cov hjm).1 hcc
      rcases Nat.lt_or_gt_of_ne hne with d | d
      · have : (j + 1) * s ≤ k * s := Nat.mul_le_mul_right s d
        rw [Nat.add_mul, Nat.one_mul] at this
        omega
      · have : (k + 1) * s ≤ j * s := Nat.mul_le_mul_right s d
        rw [Nat.add_mul, Nat.one_mul] at this
        omega
    by_cases c : i < k
    · rw [if_pos c] at hc; exact key i ((fr_lt hs.1).1 (by omega)) (by omega) hc
    · rw [if_neg c] at hc; exact key (i + 1) ((fr_lt hs.1).1 (by omega)) (by omega) hc
  · intro hn
    have hjk : p / s ≠ k := fun e => hn (by rw [← e]; exact h2)
    by_cases c : p / s < k
    · exact ⟨p / s, by omega, by rw [but_bn hk (by omega), if_pos c]; exact (fr_cov h1).2 h2⟩
    · refine ⟨p / s - 1, by omega, ?_⟩
      rw [but_bn hk (by omega), if_neg (by omega), show p / s - 1 + 1 = p / s by omega]
      exact (fr_cov h1).2 h2
theorem but_miss (hs : 1 ≤ s ∧ s ≤ 1000) (hM : m.size ≤ 20000) (h0 : bE (frOf h m s 0 0) = 0) (hk : k < (m.size + s - 1) / s) (hne : ¬ (butOf (fragsOf h m s) k).length = 0) : rgsOf (butOf (fragsOf h m s) k) false = ([⟨k * s, min (k * s + s) m.size⟩], 0) := by
  have hp := but_pcs hs hM h0 hk hne
  have hkm := (fr_lt (m := m) hs.1).1 hk
  rw [hp.rgs, rgs_one _ (k * s) (min (k * s + s) m.size) m.size (by omega) (Nat.min_le_right _ _)]
  intro p hpm
  rw [beq_iff_eq, Bool.eq_false_iff]
  have h1 := hp.some_iff p
  have h2 := but_cov (h := h) hs hk hpm
  constructor
  · intro hc
    exact Decidable.not_not.1 fun c => hc (h1.2 (h2.2 c))
  · intro hc c
    exact h2.1 (h1.1 c) hc
theorem but_join (hs : 1 ≤ s ∧ s ≤ 1000) (hM : m.size ≤ 20000) (h0 : bE (frOf h m s 0 0) = 0) (hk : k < (m.size + s - 1) / s) (hne : ¬ (butOf (fragsOf h m s) k).length = 0) : joinOf (butOf (fragsOf h m s) k) = (noB, 8) := by
  have hkm := (fr_lt (m := m) hs.1).1 hk
  exact (but_pcs hs hM h0 hk hne).miss hkm fun i hi hc => (but_cov (h := h) hs hk hkm).1 ⟨i, hi, hc⟩ (by omega)
end
end Go.Proofs.Ytcifngefclgefaa
