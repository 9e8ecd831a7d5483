/- The plain arithmetic of the waits: the wait with a number and the sum of the first waits; no program in sight. -/
namespace Go.Proofs.Ytblfdikjimagjaa
set_option linter.unusedVariables false
/-- the next wait -/
def nx (m w : Int) : Int := if m < 2 * w then m else 2 * w
/-- the wait with number k -/
def wv (m f : Int) : Nat → Int
  | 0 => f
  | k + 1 => nx m (wv m f k)
/-- the sum of the first k waits -/
def sm (m f : Int) : Nat → Int
  | 0 => 0
  | k + 1 => sm m f k + wv m f k

theorem nx_le {m w : Int} : nx m w ≤ m := by unfold nx; split <;> omega
theorem nx_gt {m w : Int} (h1 : 1 ≤ w) (h2 : w < m) : w < nx m w := by unfold nx; split <;> omega
theorem nx_top {m : Int} (h : 1 ≤ m) : nx m m = m := by unfold nx; split <;> omega
theorem nx_ge {m w : Int} (h1 : 1 ≤ w) (h2 : w ≤ m) : w ≤ nx m w := by unfold nx; split <;> omega

section
variable {m f : Int} (h1 : 1 ≤ f) (h2 : f ≤ m)
include h1 h2
theorem wv_bd (k : Nat) : f ≤ wv m f k ∧ wv m f k ≤ m := by
  induction k with
  | zero => exact ⟨Int.le_refl _, h2⟩
  | succ k ih => exact ⟨Int.le_trans ih.1 (nx_ge (by omega) ih.2), nx_le⟩
theorem wv_mono (k : Nat) : wv m f k ≤ wv m f (k + 1) := nx_ge (by have := wv_bd h1 h2 k; omega) (wv_bd h1 h2 k).2
theorem wv_top {k : Nat} (h : wv m f k = m) (j : Nat) : wv m f (k + j) = m := by
  induction j with
  | zero => exact h
  | succ j ih => show nx m (wv m f (k + j)) = m; rw [ih]; exact nx_top (by omega)
theorem sm_top {k : Nat} (h : wv m f k = m) (j : Nat) : sm m f (k + j) = sm m f k + j * m := by
  induction j with
  | zero => simp
  | succ j ih =>
    show sm m f (k + j) + wv m f (k + j) = _
    rw [ih, wv_top h1 h2 h j]
    have : ((j + 1 : Nat) : Int) * m = j * m + m := by rw [Int.natCast_add, Int.add_mul]; simp
    omega
theorem sm_bd (k : Nat) : (k : Int) ≤ sm m f k ∧ sm m f k ≤ k * m := by
  induction k with
  | zero => simp [sm]
  | succ k ih =>
    have := wv_bd h1 h2 k
    have e : ((k + 1 : Nat) : Int) * m = k * m + m := by rw [Int.natCast_add, Int.add_mul]; simp
    show ((k + 1 : Nat) : Int) ≤ sm m f k + wv m f k ∧ sm m f k + wv m f k ≤ _
    rw [e]
    omega
theorem sm_lt {i j : Nat} (h : i < j) : sm m f i < sm m f j := by
  induction j with
  | zero => omega
  | succ j ih =>
    have := wv_bd h1 h2 j
    have e : sm m f (j + 1) = sm m f j + wv m f j := rfl
    by_cases hij : i = j
    · subst hij; omega
    · have := ih (by omega); omega
theorem sm_le {i j : Nat} (h : i ≤ j) : sm m f i ≤ sm m f j := by
  by_cases e : i = j
  · subst e; exact Int.le_refl _
  · exact Int.le_of_lt (sm_lt h1 h2 (by omega))
theorem sm_uniq {T : Int} {i j : Nat} (hi : sm m f i ≤ T) (hi' : T < sm m f (i + 1)) (hj : sm m f j ≤ T) (hj' : T < sm m f (j + 1)) : i = j := by
  by_cases a : i < j
  · have := sm_le h1 h2 (show i + 1 ≤ j by omega); omega
  · by_cases b : j < i
    · have := sm_le h1 h2 (show j + 1 ≤ i by omega); omega
    · omega
omit h2 in
theorem wv_up (k : Nat) (h : ∀ i, i < k → wv m f i < m) : f + k ≤ wv m f k := by
  induction k with
  | zero => simp [wv]
  | succ k ih =>
    have a := ih (fun i hi => h i (by omega))
    have b := nx_gt (m := m) (w := wv m f k) (by omega) (h k (by omega))
    show _ ≤ nx m (wv m f k)
    omega
/-- n waits fit into T, and no more -/
def Fits (m f T : Int) (n : Nat) : Prop := sm m f n ≤ T ∧ T < sm m f (n + 1)
include h1 h2 in
theorem fits_top {T : Int} {k : Nat} (h : wv m f k = m) (hk : sm m f k ≤ T) : Fits m f T (k + ((T - sm m f k) / m).toNat) ∧ T - sm m f (k + ((T - sm m f k) / m).toNat) = (T - sm m f k) % m ∧
    ((k + ((T - sm m f k) / m).toNat : Nat) : Int) = k + (T - sm m f k) / m := by
  have h0 : 0 ≤ (T - sm m f k) / m := Int.ediv_nonneg (by omega) (by omega)
  have a := sm_top h1 h2 h ((T - sm m f k) / m).toNat
  have b := wv_top h1 h2 h ((T - sm m f k) / m).toNat
  have c : sm m f (k + ((T - sm m f k) / m).toNat + 1) = sm m f (k + ((T - sm m f k) / m).toNat) + wv m f (k + ((T - sm m f k) / m).toNat) := rfl
  have e := Int.emod_add_mul_ediv (T - sm m f k) m
  have e2 := Int.emod_nonneg (T - sm m f k) (show m ≠ 0 by omega)
  have e3 := Int.emod_lt_of_pos (T - sm m f k) (show 0 < m by omega)
  rw [Int.toNat_of_nonneg h0] at a
  have d : (T - sm m f k) / m * m = m * ((T - sm m f k) / m) := Int.mul_comm _ _
  unfold Fits
  rw [c, b, a]
  omega
end
end Go.Proofs.Ytblfdikjimagjaa
