/- The answers of the functions, in plain Lean; no program in sight. -/
import Derived.Test.YtblfdikjimagjaaPlain
namespace Go.Proofs.Ytblfdikjimagjaa
set_option linter.unusedVariables false
/-- the waits are allowed -/
def Okc (f m : Int) : Prop := 1 ≤ f ∧ f ≤ 1000 ∧ f ≤ m ∧ m ≤ 100000
instance (f m : Int) : Decidable (Okc f m) := by unfold Okc; exact inferInstance
def Tick (n : Int) : Prop := 0 ≤ n ∧ n ≤ 1099511627776
instance (n : Int) : Decidable (Tick n) := by unfold Tick; exact inferInstance
def chk (f m : Int) : Int := if Okc f m then 0 else 2
def waitV (f m k : Int) : Int := if Okc f m ∧ Tick k then wv m f k.toNat else 0
def waitE (f m k : Int) : Int := if Okc f m ∧ Tick k then 0 else 2
def TimeOk (f m s k : Int) : Prop := Okc f m ∧ Tick s ∧ Tick k ∧ Tick (s + sm m f (k.toNat + 1))
instance (f m s k : Int) : Decidable (TimeOk f m s k) := by unfold TimeOk; exact inferInstance
def timeV (f m s k : Int) : Int := if TimeOk f m s k then s + sm m f (k.toNat + 1) else 0
def timeE (f m s k : Int) : Int := if TimeOk f m s k then 0 else 2
def cnAux (m f T : Int) : Nat → Nat
  | 0 => 0
  | k + 1 => if sm m f (k + 1) ≤ T then k + 1 else cnAux m f T k
/-- how many waits fit -/
def cn (m f T : Int) : Nat := cnAux m f T T.toNat
def Asked (f m s n : Int) : Prop := Okc f m ∧ Tick s ∧ Tick n ∧ s ≤ n
instance (f m s n : Int) : Decidable (Asked f m s n) := by unfold Asked; exact inferInstance
def cntV (f m s n : Int) : Int := if Asked f m s n then (cn m f (n - s) : Int) else 0
def cntE (f m s n : Int) : Int := if Asked f m s n then 0 else 2
def dueV (f m s n : Int) : Bool := if Asked f m s n then decide (0 < cn m f (n - s)) && decide (sm m f (cn m f (n - s)) = n - s) else false
def nextE (f m s n : Int) : Int := if Asked f m s n then (if timeE f m s (cn m f (n - s)) = 0 then 0 else 8) else 2
def nextV (f m s n : Int) : Int := if Asked f m s n then timeV f m s (cn m f (n - s)) else 0

theorem cnAux_le (m f T : Int) (k : Nat) (h0 : 0 ≤ T) : sm m f (cnAux m f T k) ≤ T ∧ cnAux m f T k ≤ k ∧ ∀ j, j ≤ k → sm m f j ≤ T → j ≤ cnAux m f T k := by
  induction k with
  | zero => exact ⟨by simpa [cnAux, sm] using h0, Nat.le_refl _, fun j hj _ => by simpa [cnAux] using hj⟩
  | succ k ih =>
    unfold cnAux
    split
    · rename_i h; exact ⟨h, Nat.le_refl _, fun j hj _ => hj⟩
    · rename_i h
      refine ⟨ih.1, by omega, fun j hj hs => ?_⟩
      by_cases e : j = k + 1
      · subst e; exact absurd hs h
      · exact ih.2.2 j (by omega) hs
theorem cn_fits {m f T : Int} (h1 : 1 ≤ f) (h2 : f ≤ m) (h0 : 0 ≤ T) : Fits m f T (cn m f T) := by
  have a := cnAux_le m f T T.toNat h0
  refine ⟨a.1, ?_⟩
  unfold cn
  by_cases h : sm m f (cnAux m f T T.toNat + 1) ≤ T
  · have b := (sm_bd h1 h2 (cnAux m f T T.toNat + 1)).1
    have c := a.2.2 (cnAux m f T T.toNat + 1) (by omega) h
    omega
  · omega
theorem cn_le {m f T : Int} (h0 : 0 ≤ T) : (cn m f T : Int) ≤ T := by
  have := (cnAux_le m f T T.toNat h0).2.1
  unfold cn
  omega
theorem fits_cn {m f T : Int} (h1 : 1 ≤ f) (h2 : f ≤ m) (h0 : 0 ≤ T) {n : Nat} (h : Fits m f T n) : n = cn m f T :=
  sm_uniq h1 h2 h.1 h.2 (cn_fits h1 h2 h0).1 (cn_fits h1 h2 h0).2
end Go.Proofs.Ytblfdikjimagjaa
