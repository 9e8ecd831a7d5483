/- The plain laws of shares: laid upon the claims they give the levels; who is above whom; no program in sight. -/
import Derived.Test.YtlpdebbedoibiaaPlain2
namespace Go.Proofs.Ytlpdebbedoibiaa
set_option linter.unusedVariables false

/-- claims with shares added (or taken): none if a share has no claim or takes too much -/
def aft (less : Bool) : List Cl → List Sh → Option (List Cl)
  | l, [] => some l
  | [], _ :: _ => none
  | c :: r, x :: s =>
    if c.node ≠ x.node then (aft less r (x :: s)).map (c :: ·)
    else if less = true then (if c.res < x.bytes then none else (aft less r s).map ({ c with res := c.res - x.bytes } :: ·))
    else (aft less r s).map ({ c with res := c.res + x.bytes } :: ·)

def Asc (l : List Cl) : Prop := l.Pairwise fun a b => a.node < b.node

theorem shUp_mem (l : List Cl) (ys : List Int) (x : Sh) (h : x ∈ shUp l ys) : ∃ c ∈ l, c.node = x.node := by
  induction l generalizing ys with
  | nil => simp [shUp] at h
  | cons c l ih =>
    cases ys with
    | nil => simp [shUp] at h
    | cons y ys =>
      unfold shUp at h
      split at h
      · rcases List.mem_cons.1 h with rfl | h
        · exact ⟨c, by simp, rfl⟩
        · obtain ⟨c', hc, e⟩ := ih ys h
          exact ⟨c', by simp [hc], e⟩
      · obtain ⟨c', hc, e⟩ := ih ys h
        exact ⟨c', by simp [hc], e⟩
theorem shDown_mem (l : List Cl) (ys : List Int) (x : Sh) (h : x ∈ shDown l ys) : ∃ c ∈ l, c.node = x.node := by
  induction l generalizing ys with
  | nil => simp [shDown] at h
  | cons c l ih =>
    cases ys with
    | nil => simp [shDown] at h
    | cons y ys =>
      unfold shDown at h
      split at h
      · rcases List.mem_cons.1 h with rfl | h
        · exact ⟨c, by simp, rfl⟩
        · obtain ⟨c', hc, e⟩ := ih ys h
          exact ⟨c', by simp [hc], e⟩
      · obtain ⟨c', hc, e⟩ := ih ys h
        exact ⟨c', by simp [hc], e⟩

theorem aft_skip (less : Bool) (c : Cl) (l : List Cl) (s : List Sh) (out : List Cl) (h : aft less l s = some out) (hn : ∀ x ∈ s, c.node ≠ x.node) : aft less (c :: l) s = some (c :: out) := by
  cases s with
  | nil => cases l <;> (simp [aft] at h; subst h; rfl)
  | cons x s => rw [aft, if_pos (hn x (by simp)), h]; rfl

theorem aft_up (l : List Cl) (ys : List Int) (ha : Asc l) (hl : ys.length = l.length) (hy : ∀ (i : Nat) (c : Cl) (y : Int), l[i]? = some c → ys[i]? = some y → c.res ≤ y) :
    aft false l (shUp l ys) = some (put l ys) := by
  induction l generalizing ys with
  | nil => cases ys with
    | nil => rfl
    | cons y ys => simp at hl
  | cons c l ih =>
    cases ys with
    | nil => simp at hl
    | cons y ys =>
      have hc := hy 0 c y (by simp) (by simp)
      have ha' := List.pairwise_cons.1 ha
      have r := ih ys ha'.2 (by simpa using hl) (fun i c y h1 h2 => hy (i + 1) c y (by simpa using h1) (by simpa using h2))
      unfold shUp put
      split
      · rw [aft, if_neg (by simp), if_neg (by simp), r]
        simp
        omega
      · have e : y = c.res := by omega
        rw [aft_skip false c l _ _ r (fun x hx => by
          obtain ⟨c', h', e'⟩ := shUp_mem l ys x hx
          have := ha'.1 c' h'
          omega), e]
theorem aft_down (l : List Cl) (ys : List Int) (ha : Asc l) (hl : ys.length = l.length) (hy : ∀ (i : Nat) (c : Cl) (y : Int), l[i]? = some c → ys[i]? = some y → y ≤ c.res ∧ 0 ≤ y) :
    aft true l (shDown l ys) = some (put l ys) := by
  induction l generalizing ys with
  | nil => cases ys with
    | nil => rfl
    | cons y ys => simp at hl
  | cons c l ih =>
    cases ys with
    | nil => simp at hl
    | cons y ys =>
      have hc := hy 0 c y (by simp) (by simp)
      have ha' := List.pairwise_cons.1 ha
      have r := ih ys ha'.2 (by simpa using hl) (fun i c y h1 h2 => hy (i + 1) c y (by simpa using h1) (by simpa using h2))
      unfold shDown put
      split
      · rw [aft, if_neg (by simp), if_pos rfl, if_neg (by show ¬ c.res < c.res - y; omega), r]
        simp
        omega
      · have e : y = c.res := by omega
        rw [aft_skip true c l _ _ r (fun x hx => by
          obtain ⟨c', h', e'⟩ := shDown_mem l ys x hx
          have := ha'.1 c' h'
          omega), e]
theorem shUp_sum (l : List Cl) (ys : List Int) (hl : ys.length = l.length) (hy : ∀ (i : Nat) (c : Cl) (y : Int), l[i]? = some c → ys[i]? = some y → c.res ≤ y) :
    shSum (shUp l ys) = ys.sum - (lev l).sum := by
  induction l generalizing ys with
  | nil => cases ys with
    | nil => rfl
    | cons y ys => simp at hl
  | cons c l ih =>
    cases ys with
    | nil => simp at hl
    | cons y ys =>
      have hc := hy 0 c y (by simp) (by simp)
      have r := ih ys (by simpa using hl) (fun i c y h1 h2 => hy (i + 1) c y (by simpa using h1) (by simpa using h2))
      unfold shUp
      simp only [lev, shSum] at r
      split <;> simp [lev, shSum] <;> omega
theorem shDown_sum (l : List Cl) (ys : List Int) (hl : ys.length = l.length) (hy : ∀ (i : Nat) (c : Cl) (y : Int), l[i]? = some c → ys[i]? = some y → y ≤ c.res) :
    shSum (shDown l ys) = (lev l).sum - ys.sum := by
  induction l generalizing ys with
  | nil => cases ys with
    | nil => rfl
    | cons y ys => simp at hl
  | cons c l ih =>
    cases ys with
    | nil => simp at hl
    | cons y ys =>
      have hc := hy 0 c y (by simp) (by simp)
      have r := ih ys (by simpa using hl) (fun i c y h1 h2 => hy (i + 1) c y (by simpa using h1) (by simpa using h2))
      unfold shDown
      simp only [lev, shSum] at r
      split <;> simp [lev, shSum] <;> omega
end Go.Proofs.Ytlpdebbedoibiaa
