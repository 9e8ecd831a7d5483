/- Plain words: bundles laid one after the other; the first error. -/
import Derived.Test.YtcifngefclgefaaF
namespace Go.Proofs.Ytcifngefclgefaa
open Go.RowKit
set_option linter.unusedVariables false
set_option linter.unusedSimpArgs false

/-- the first error and where it is -/
def fstE (f : Nat → Int) : Nat → Nat → Int × Nat
  | 0, _ => (0, 0)
  | n + 1, k => if f k ≠ 0 then (f k, k) else fstE f n (k + 1)
theorem fstE_hit {f : Nat → Int} {N k : Nat} (hk : k < N) (h : f k ≠ 0) : fstE f (N - k) k = (f k, k) := by
  obtain ⟨n, hn⟩ : ∃ n, N - k = n + 1 := ⟨N - k - 1, by omega⟩
  rw [hn]; exact if_pos h
theorem fstE_miss {f : Nat → Int} {N k : Nat} (hk : k < N) (h : f k = 0) : fstE f (N - k) k = fstE f (N - (k + 1)) (k + 1) := by
  obtain ⟨n, hn⟩ : ∃ n, N - k = n + 1 := ⟨N - k - 1, by omega⟩
  have e : N - (k + 1) = n := by omega
  rw [hn, e]; exact if_neg (by rw [h]; exact fun c => c rfl)
theorem fstE_congr {f g : Nat → Int} {N : Nat} (h : ∀ k, k < N → (∀ j, j < k → f j = 0) → f k = g k) : fstE f N 0 = fstE g N 0 := by
  have : ∀ n k, k + n = N → (∀ j, j < k → f j = 0) → fstE f n k = fstE g n k := by
    intro n
    induction n with
    | zero => intro k _ _; rfl
    | succ n ih =>
      intro k hk hj
      have e := h k (by omega) hj
      rw [fstE, fstE, ← e]
      by_cases c : f k ≠ 0
      · rw [if_pos c, if_pos c]
      · rw [if_neg c, if_neg c]
        refine ih (k + 1) (by omega) fun j hj' => ?_
        rcases Nat.lt_or_eq_of_le (Nat.le_of_lt_succ hj') with d | d
        · exact hj j d
        · rw [d]; exact Decidable.not_not.1 c
  exact this N 0 (by omega) (fun j hj => by omega)
theorem fstE_zero {f : Nat → Int} {N : Nat} (h : (fstE f N 0).1 = 0) : ∀ k, k < N → f k = 0 := by
  have : ∀ n k, k + n = N → (fstE f n k).1 = 0 → ∀ j, k ≤ j → j < N → f j = 0 := by
    intro n
    induction n with
    | zero => intro k hk _ j h1 h2; omega
    | succ n ih =>
      intro k hk h0 j h1 h2
      rw [fstE] at h0
      by_cases c : f k ≠ 0
      · rw [if_pos c] at h0; exact absurd h0 c
      · rw [if_neg c] at h0
        rcases Nat.lt_or_eq_of_le h1 with d | d
        · exact ih (k + 1) (by omega) h0 j (by omega) h2
        · rw [← d]; exact Decidable.not_not.1 c
  intro k hk
  exact this N 0 (by omega) h k (by omega) hk
def bn0 : Bn := ⟨0, 0, 0, 0, 0, 0, 0, 0, ByteArray.empty⟩
def bnAt (l : List Bn) (i : Nat) : Bn := l.getD i bn0
theorem bnAt_of {l : List Bn} {k : Nat} {x : Bn} (h : l[k]? = some x) : bnAt l k = x := by
  unfold bnAt; rw [List.getD_eq_getElem?_getD, h]; rfl
def Bn.o (x : Bn) : Nat := x.off.toNat
/-- the canvas after k bundles -/
def lays (l : List Bn) : Nat → Nat → Option UInt8
  | 0 => fun _ => none
  | k + 1 => layC (lays l k) (bnAt l k).o (bnAt l k).data (bnAt l k).data.size
/-- the error of bundle k -/
def errL (l : List Bn) (k : Nat) : Int :=
  if bE (bnAt l k) ≠ 0 then bE (bnAt l k) else if Bn.eqB (bnAt l k).kd (bnAt l 0).kd = false then 3 else if fits (lays l k) (bnAt l k).o (bnAt l k).data = false then 12 else 0
/-- the first error of bundles, and where it is -/
def laidE (l : List Bn) : Int × Nat := if l.length = 0 then (8, 0) else fstE (errL l) l.length 0
theorem laidE_nil : laidE [] = (8, 0) := rfl
theorem laidE_cons {l : List Bn} (h : ¬ l.length = 0) : laidE l = fstE (errL l) l.length 0 := if_neg h
theorem bok_o {x : Bn} (h : Bok x) : x.off = x.o ∧ x.o + x.data.size ≤ 20000 ∧ (x.o : Int) + x.data.size ≤ x.total := by
  have h1 := h.id.2.2.1
  have h2 := h.t
  have h3 := h.f.2.2.2.2.2
  unfold Bn.o
  omega
/-- a byte lies in a bundle -/
def cov (x : Bn) (p : Nat) : Prop := x.o ≤ p ∧ p < x.o + x.data.size
instance (x : Bn) (p : Nat) : Decidable (cov x p) := by unfold cov; exact inferInstance
def Bn.by (x : Bn) (p : Nat) : UInt8 := byt x.data (p - x.o)
/-- two bundles agree where both lie -/
def agr (x y : Bn) : Prop := ∀ p, cov x p → cov y p → x.by p = y.by p
theorem lays_none {l : List Bn} {k p : Nat} (h : ∀ j, j < k → ¬ cov (bnAt l j) p) : lays l k p = none := by
  induction k with
  | zero => rfl
  | succ k ih =>
    show layC _ _ _ _ p = none
    unfold layC
    rw [if_neg (show ¬ ((bnAt l k).o ≤ p ∧ p < (bnAt l k).o + (bnAt l k).data.size) from h k (by omega))]
    exact ih fun j hj => h j (by omega)
theorem lays_some {l : List Bn} {k p : Nat} {b : UInt8} (h : lays l k p = some b) : ∃ j, j < k ∧ cov (bnAt l j) p ∧ (bnAt l j).by p = b := by
  induction k with
  | zero => cases h
  | succ k ih =>
    have h' : layC (lays l k) (bnAt l k).o (bnAt l k).data (bnAt l k).data.size p = some b := h
    unfold layC at h'
    by_cases c : (bnAt l k).o ≤ p ∧ p < (bnAt l k).o + (bnAt l k).data.size
    · rw [if_pos c] at h'
      exact ⟨k, by omega, c, by injection h'⟩
    · rw [if_neg c] at h'
      obtain ⟨j, hj, h1, h2⟩ := ih h'
      exact ⟨j, by omega, h1, h2⟩
/-- what lies there if all agree -/
theorem lays_is {l : List Bn} {k p j : Nat} (hp : ∀ a b, a < k → b < k → agr (bnAt l a) (bnAt l b)) (hj : j < k) (hc : cov (bnAt l j) p) : lays l k p = some ((bnAt l j).by p) := by
  cases h : lays l k p with
  | none =>
    exfalso
    have : ∀ k, j < k → lays l k p ≠ none := by
      intro k
      induction k with
      | zero => intro h; omega
      | succ k ih =>
        intro hjk hn
        have h' : layC (lays l k) (bnAt l k).o (bnAt l k).data (bnAt l k).data.size p = none := hn
        unfold layC at h'
        by_cases c : (bnAt l k).o ≤ p ∧ p < (bnAt l k).o + (bnAt l k).data.size
        · rw [if_pos c] at h'; cases h'
        · rw [if_neg c] at h'
          rcases Nat.lt_or_eq_of_le (Nat.le_of_lt_succ hjk) with d | d
          · exact ih d h'
          · subst d; exact c hc
    exact this k hj h
  | some b =>
    obtain ⟨i, hi, h1, h2⟩ := lays_some h
    rw [← h2, hp i j hi hj p h1 hc]
theorem fits_agr {l : List Bn} {k : Nat} (hp : ∀ a b, a < k → b < k → agr (bnAt l a) (bnAt l b)) (x : Bn) : fits (lays l k) x.o x.data = true ↔ ∀ j, j < k → agr (bnAt l j) x := by
  unfold fits
  rw [List.all_eq_true]
  constructor
  · intro h j hj p h1 h2
    have hi := h (p - x.o) (List.mem_range.2 (by have := h2.1; have := h2.2; omega))
    unfold cfl at hi
    have e : x.o + (p - x.o) = p := by have := h2.1; omega
    rw [e, lays_is hp hj h1] at hi
    simp at hi
    exact hi
  · intro h i hi
    have hi := List.mem_range.1 hi
    unfold cfl
    cases hl : lays l k (x.o + i) with
    | none => rfl
    | some y =>
      obtain ⟨j, hj, h1, h2⟩ := lays_some hl
      have := h j hj (x.o + i) h1 ⟨by omega, by omega⟩
      rw [h2] at this
      unfold Bn.by at this
      rw [show x.o + i - x.o = i by omega] at this
      simp [this]
/-- all went well -/
structure LOk (l : List Bn) : Prop where
  ne : ¬ l.length = 0
  ok : ∀ k, k < l.length → Bok (bnAt l k)
  kd : ∀ k, k < l.length → (bnAt l k).kd = (bnAt l 0).kd
  ag : ∀ a b, a < l.length → b < l.length → agr (bnAt l a) (bnAt l b)
theorem agr_symm {x y : Bn} (h : agr x y) : agr y x := fun p a b => (h p b a).symm
theorem agr_self (x : Bn) : agr x x := fun _ _ _ => rfl
theorem errL_zero {l : List Bn} {k : Nat} (h : errL l k = 0) : Bok (bnAt l k) ∧ (bnAt l k).kd = (bnAt l 0).kd ∧ fits (lays l k) (bnAt l k).o (bnAt l k).data = true := by
  unfold errL at h
  by_cases c : bE (bnAt l k) ≠ 0
  · rw [if_pos c] at h; exact absurd h c
  · rw [if_neg c] at h
    by_cases d : Bn.eqB (bnAt l k).kd (bnAt l 0).kd = false
    · rw [if_pos d] at h; cases h
    · rw [if_neg d] at h
      by_cases e : fits (lays l k) (bnAt l k).o (bnAt l k).data = false
      · rw [if_pos e] at h; cases h
      · exact ⟨bok_of (Decidable.not_not.1 c), Bn.eqB_iff.1 (by simpa using d), by simpa using e⟩
theorem pw_of {l : List Bn} {n : Nat} (h : ∀ k, k < n → errL l k = 0) : ∀ a b, a < n → b < n → agr (bnAt l a) (bnAt l b) := by
  induction n with
  | zero => intro a b ha; omega
  | succ n ih =>
    have ih := ih fun k hk => h k (by omega)
    have hn := (fits_agr ih (bnAt l n)).1 (errL_zero (h n (by omega))).2.2
    intro a b ha hb
    by_cases ea : a = n
    · by_cases eb : b = n
      · rw [ea, eb]; exact agr_self _
      · rw [ea]; exact agr_symm (hn b (by omega))
    · by_cases eb : b = n
      · rw [eb]; exact hn a (by omega)
      · exact ih a b (by omega) (by omega)
theorem lok_of {l : List Bn} (h : (laidE l).1 = 0) : LOk l := by
  by_cases h0 : l.length = 0
  · unfold laidE at h; rw [if_pos h0] at h; cases h
  · rw [laidE_cons h0] at h
    have hz := fstE_zero h
    exact ⟨h0, fun k hk => (errL_zero (hz k hk)).1, fun k hk => (errL_zero (hz k hk)).2.1, pw_of hz⟩
end Go.Proofs.Ytcifngefclgefaa
