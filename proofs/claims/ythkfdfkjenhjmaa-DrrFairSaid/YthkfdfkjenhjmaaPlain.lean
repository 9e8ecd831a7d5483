/- Plain words of the scheduler: states, errors, passing the turn, serving. -/
namespace Go.Proofs.Ythkfdfkjenhjmaa
set_option linter.unusedVariables false
set_option linter.unusedSimpArgs false

/-- a state -/
structure Dr where
  W : List Int
  q : Int
  D : List Int
  t : Int
deriving DecidableEq
/-- the empty state -/
def zDr : Dr := ⟨[], 0, [], 0⟩

def wbad (x : Int) : Bool := decide (x < 1) || decide (100 < x)
def dbad (x : Int) : Bool := decide (x < 0) || decide (1099511627776 < x)
def hbad (x : Int) : Bool := decide (x < 0) || decide (1200 < x)
/-- the error of weights and a quantum -/
def wgE (W : List Int) (q : Int) : Int := if W.any wbad = true then 2 else if q < 1 ∨ 1200 < q then 2 else 0
/-- the error of a state -/
def chk (d : Dr) : Int := if d.W.length ≠ 3 ∨ d.D.length ≠ 3 then 3 else if wgE d.W d.q ≠ 0 then wgE d.W d.q else if d.D.any dbad = true then 2 else if d.t < 0 ∨ 3 ≤ d.t then 2 else 0
/-- the error of heads -/
def hdE (h : List Int) : Int := if h.length ≠ 3 then 3 else if h.any hbad = true then 2 else if h.getD 0 0 = 0 ∧ h.getD 1 0 = 0 ∧ h.getD 2 0 = 0 then 8 else 0
/-- the error of a state and heads -/
def lnE (d : Dr) (h : List Int) : Int := if chk d ≠ 0 then chk d else hdE h

def mn (a b : Int) : Int := if a ≤ b then a else b
/-- the heads' number of a priority -/
def at0 (l : List Int) (p : Nat) : Int := l.getD p 0

/-- deficits and the turn, after the turn passed once -/
def step1 (W : List Int) (q : Int) (H : List Int) (s : List Int × Nat) : List Int × Nat :=
  let D1 := if at0 H s.2 = 0 then s.1.set s.2 0 else s.1
  let u := (s.2 + 2) % 3
  (D1.set u (if at0 H u = 0 then 0 else mn 1099511627776 (at0 D1 u + at0 W u * q)), u)
/-- the turn passed k times -/
def pas (W : List Int) (q : Int) (H : List Int) (s : List Int × Nat) : Nat → List Int × Nat
  | 0 => s
  | k + 1 => step1 W q H (pas W q H s k)
/-- the head whose turn it is may be served -/
def stops (H : List Int) (s : List Int × Nat) : Prop := at0 H s.2 ≠ 0 ∧ at0 H s.2 ≤ at0 s.1 s.2
instance (H : List Int) (s : List Int × Nat) : Decidable (stops H s) := by unfold stops; infer_instance
/-- the turn passes n times before a head is served -/
def Serves (W : List Int) (q : Int) (H : List Int) (s : List Int × Nat) (n : Nat) : Prop := stops H (pas W q H s n) ∧ ∀ k, k < n → ¬ stops H (pas W q H s k)
/-- deficits after serving -/
def paid (H : List Int) (s : List Int × Nat) : List Int := s.1.set s.2 (at0 s.1 s.2 - at0 H s.2)

theorem Serves.uniq {W : List Int} {q : Int} {H : List Int} {s : List Int × Nat} {n m : Nat} (h : Serves W q H s n) (h' : Serves W q H s m) : n = m := by
  rcases Nat.lt_trichotomy n m with a | a | a
  · exact absurd h.1 (h'.2 n a)
  · exact a
  · exact absurd h'.1 (h.2 m a)

/-- a state is as Check wants it -/
structure Ok (d : Dr) : Prop where
  w3 : d.W.length = 3
  d3 : d.D.length = 3
  w : ∀ x ∈ d.W, 1 ≤ x ∧ x ≤ 100
  q0 : 1 ≤ d.q
  q1 : d.q ≤ 1200
  dd : ∀ x ∈ d.D, 0 ≤ x ∧ x ≤ 1099511627776
  t0 : 0 ≤ d.t
  t1 : d.t < 3
theorem wgE_zero {W : List Int} {q : Int} (h : wgE W q = 0) : (∀ x ∈ W, 1 ≤ x ∧ x ≤ 100) ∧ 1 ≤ q ∧ q ≤ 1200 := by
  unfold wgE at h
  split at h
  · cases h
  · rename_i h1
    split at h
    · cases h
    · refine ⟨fun x hx => ?_, by omega, by omega⟩
      have : ¬ wbad x = true := fun hb => h1 (List.any_eq_true.2 ⟨x, hx, hb⟩)
      unfold wbad at this
      simp at this
      omega
theorem ok_of {d : Dr} (h : chk d = 0) : Ok d := by
  unfold chk at h
  by_cases h1 : d.W.length ≠ 3 ∨ d.D.length ≠ 3
  · rw [if_pos h1] at h; cases h
  rw [if_neg h1] at h
  by_cases h2 : wgE d.W d.q ≠ 0
  · rw [if_pos h2] at h; exact absurd h h2
  rw [if_neg h2] at h
  by_cases h3 : d.D.any dbad = true
  · rw [if_pos h3] at h; cases h
  rw [if_neg h3] at h
  by_cases h4 : d.t < 0 ∨ 3 ≤ d.t
  · rw [if_pos h4] at h; cases h
  obtain ⟨a, b, c⟩ := wgE_zero (Decidable.not_not.1 h2)
  refine ⟨by omega, by omega, a, b, c, fun x hx => ?_, by omega, by omega⟩
  have : ¬ dbad x = true := fun hb => h3 (List.any_eq_true.2 ⟨x, hx, hb⟩)
  unfold dbad at this
  simp at this
  omega
theorem wgE_ok {W : List Int} {q : Int} (h : ∀ x ∈ W, 1 ≤ x ∧ x ≤ 100) (h1 : 1 ≤ q) (h2 : q ≤ 1200) : wgE W q = 0 := by
  unfold wgE
  rw [if_neg, if_neg (by omega)]
  intro hb
  obtain ⟨x, hx, hb⟩ := List.any_eq_true.1 hb
  have := h x hx
  unfold wbad at hb
  simp at hb
  omega
theorem chk_ok {d : Dr} (h : Ok d) : chk d = 0 := by
  have hw := wgE_ok h.w h.q0 h.q1
  unfold chk
  rw [if_neg (by have := h.w3; have := h.d3; omega), if_neg (by rw [hw]; decide), if_neg, if_neg (by have := h.t0; have := h.t1; omega)]
  intro hb
  obtain ⟨x, hx, hb⟩ := List.any_eq_true.1 hb
  have := h.dd x hx
  unfold dbad at hb
  simp at hb
  omega
/-- heads as they should be -/
structure HOk (h : List Int) : Prop where
  l3 : h.length = 3
  b : ∀ x ∈ h, 0 ≤ x ∧ x ≤ 1200
  nz : ∃ p, p < 3 ∧ at0 h p ≠ 0
theorem hok_of {h : List Int} (e : hdE h = 0) : HOk h := by
  unfold hdE at e
  by_cases h1 : h.length ≠ 3
  · rw [if_pos h1] at e; cases e
  rw [if_neg h1] at e
  by_cases h2 : h.any hbad = true
  · rw [if_pos h2] at e; cases e
  rw [if_neg h2] at e
  by_cases h3 : h.getD 0 0 = 0 ∧ h.getD 1 0 = 0 ∧ h.getD 2 0 = 0
  · rw [if_pos h3] at e; cases e
  refine ⟨by omega, fun x hx => ?_, ?_⟩
  · have : ¬ hbad x = true := fun hb => h2 (List.any_eq_true.2 ⟨x, hx, hb⟩)
    unfold hbad at this
    simp at this
    omega
  · by_cases a : h.getD 0 0 = 0
    · by_cases b : h.getD 1 0 = 0
      · exact ⟨2, by decide, fun c => h3 ⟨a, b, c⟩⟩
      · exact ⟨1, by decide, b⟩
    · exact ⟨0, by decide, a⟩
theorem hdE_ok {h : List Int} (o : HOk h) : hdE h = 0 := by
  unfold hdE
  rw [if_neg (by have := o.l3; omega), if_neg, if_neg]
  · rintro ⟨a, b, c⟩
    obtain ⟨p, hp, hz⟩ := o.nz
    unfold at0 at hz
    match p, hp with
    | 0, _ => exact hz a
    | 1, _ => exact hz b
    | 2, _ => exact hz c
  · intro hb
    obtain ⟨x, hx, hb⟩ := List.any_eq_true.1 hb
    have := o.b x hx
    unfold hbad at hb
    simp at hb
    omega

theorem at0_set {l : List Int} {i j : Nat} {x : Int} (hi : i < l.length) : at0 (l.set i x) j = if i = j then x else at0 l j := by
  unfold at0
  rw [List.getD_eq_getElem?_getD, List.getD_eq_getElem?_getD, List.getElem?_set]
  by_cases h : i = j
  · subst h; simp [hi]
  · simp [h]
theorem at0_mem {l : List Int} {i : Nat} (hi : i < l.length) : at0 l i ∈ l := by
  unfold at0
  rw [List.getD_eq_getElem?_getD, List.getElem?_eq_getElem hi]
  exact List.getElem_mem hi
theorem at0_get {l : List Int} {i : Nat} (hi : i < l.length) : l[i]? = some (at0 l i) := by
  unfold at0
  rw [List.getD_eq_getElem?_getD, List.getElem?_eq_getElem hi]
  rfl
theorem all_set {P : Int → Prop} {l : List Int} (h : ∀ x ∈ l, P x) (i : Nat) {y : Int} (hy : P y) : ∀ x ∈ l.set i y, P x := by
  intro x hx
  rcases List.mem_or_eq_of_mem_set hx with h1 | h1
  · exact h x h1
  · subst h1; exact hy

theorem mn_top {a b : Int} (ha : 0 ≤ a) (hb : 1 ≤ b) : 0 ≤ mn 1099511627776 (a + b) ∧ mn 1099511627776 (a + b) ≤ 1099511627776 := by
  unfold mn
  split <;> omega
/-- deficits and a turn as they should be -/
def SOk (s : List Int × Nat) : Prop := s.1.length = 3 ∧ (∀ x ∈ s.1, 0 ≤ x ∧ x ≤ 1099511627776) ∧ s.2 < 3
section
variable {W : List Int} {q : Int} {H : List Int} {s : List Int × Nat}
theorem step1_ok (hW : W.length = 3) (hw : ∀ x ∈ W, 1 ≤ x ∧ x ≤ 100) (h1 : 1 ≤ q) (h2 : q ≤ 1200) (hs : SOk s) : SOk (step1 W q H s) := by
  obtain ⟨a, b, c⟩ := hs
  have hD : ∀ D1 : List Int, D1 = (if at0 H s.2 = 0 then s.1.set s.2 0 else s.1) → D1.length = 3 ∧ ∀ x ∈ D1, 0 ≤ x ∧ x ≤ 1099511627776 := by
    rintro D1 rfl
    split
    · exact ⟨by simp [a], all_set b _ (by omega)⟩
    · exact ⟨a, b⟩
  obtain ⟨l1, m1⟩ := hD _ rfl
  have hu : (s.2 + 2) % 3 < 3 := Nat.mod_lt _ (by decide)
  refine ⟨by simp [step1, l1], all_set m1 _ ?_, hu⟩
  split
  · omega
  · have x1 := m1 _ (at0_mem (i := (s.2 + 2) % 3) (by omega))
    have x2 := hw _ (at0_mem (i := (s.2 + 2) % 3) (by omega))
    have x3 : 1 ≤ at0 W ((s.2 + 2) % 3) * q := by
      have := Int.mul_le_mul x2.1 h1 (by omega) (by omega)
      omega
    exact mn_top x1.1 x3
theorem pas_ok (hW : W.length = 3) (hw : ∀ x ∈ W, 1 ≤ x ∧ x ≤ 100) (h1 : 1 ≤ q) (h2 : q ≤ 1200) (hs : SOk s) (k : Nat) : SOk (pas W q H s k) := by
  induction k with
  | zero => exact hs
  | succ k ih => exact step1_ok hW hw h1 h2 ih
theorem step1_turn : (step1 W q H s).2 = (s.2 + 2) % 3 := rfl
theorem pas_turn (k : Nat) (ht : s.2 < 3) : (pas W q H s k).2 = (s.2 + 2 * k) % 3 := by
  induction k with
  | zero => rw [Nat.mul_zero, Nat.add_zero, Nat.mod_eq_of_lt ht]; rfl
  | succ k ih => show (step1 W q H _).2 = _; rw [step1_turn, ih]; omega
/-- passing leaves the other priorities' deficits alone -/
theorem step1_other (hs : SOk s) {p : Nat} (h1 : p ≠ (s.2 + 2) % 3) (h2 : at0 H p ≠ 0) : at0 (step1 W q H s).1 p = at0 s.1 p := by
  obtain ⟨a, b, c⟩ := hs
  have hu : (s.2 + 2) % 3 < 3 := Nat.mod_lt _ (by decide)
  show at0 (List.set _ _ _) p = _
  rw [at0_set (by split <;> simp [a, hu]), if_neg (by omega)]
  split
  · rename_i h
    rw [at0_set (by omega), if_neg]
    intro e; subst e; exact h2 h
  · rfl
theorem step1_mine (hs : SOk s) {p : Nat} (h1 : p = (s.2 + 2) % 3) (h2 : at0 H p ≠ 0) : at0 (step1 W q H s).1 p = mn 1099511627776 (at0 s.1 p + at0 W p * q) := by
  obtain ⟨a, b, c⟩ := hs
  have hu : (s.2 + 2) % 3 < 3 := Nat.mod_lt _ (by decide)
  subst h1
  show at0 (List.set _ _ _) _ = _
  rw [at0_set (by split <;> simp [a, hu]), if_pos rfl, if_neg h2]
  split
  · rename_i h
    rw [at0_set (by omega), if_neg]
    intro e; rw [← e] at h2; exact h2 h
  · rfl
theorem grows (hW : W.length = 3) (hw : ∀ x ∈ W, 1 ≤ x ∧ x ≤ 100) (h1 : 1 ≤ q) (h2 : q ≤ 1200) (hs : SOk s) {p : Nat} (hp : p < 3) (hz : at0 H p ≠ 0) (r : Nat) (hr : (s.2 + 2 * r) % 3 = p) (j : Nat) (hj : j ≤ 1200) :
    (j : Int) ≤ at0 (pas W q H s (3 * j + r)).1 p := by
  induction j with
  | zero =>
    have := (pas_ok (H := H) hW hw h1 h2 hs (3 * 0 + r)).2.1 _ (at0_mem (i := p) (by have := (pas_ok (H := H) hW hw h1 h2 hs (3 * 0 + r)).1; omega))
    exact this.1
  | succ j ih =>
    have ih := ih (by omega)
    have o0 := pas_ok (H := H) hW hw h1 h2 hs (3 * j + r)
    have o1 := pas_ok (H := H) hW hw h1 h2 hs (3 * j + r + 1)
    have o2 := pas_ok (H := H) hW hw h1 h2 hs (3 * j + r + 2)
    have t0 := pas_turn (W := W) (q := q) (H := H) (3 * j + r) hs.2.2
    have t1 := pas_turn (W := W) (q := q) (H := H) (3 * j + r + 1) hs.2.2
    have t2 := pas_turn (W := W) (q := q) (H := H) (3 * j + r + 2) hs.2.2
    have e1 : at0 (pas W q H s (3 * j + r + 1)).1 p = at0 (pas W q H s (3 * j + r)).1 p := step1_other o0 (by rw [t0]; omega) hz
    have e2 : at0 (pas W q H s (3 * j + r + 2)).1 p = at0 (pas W q H s (3 * j + r + 1)).1 p := step1_other o1 (by rw [t1]; omega) hz
    have e3 : at0 (pas W q H s (3 * j + r + 3)).1 p = mn 1099511627776 (at0 (pas W q H s (3 * j + r + 2)).1 p + at0 W p * q) := step1_mine o2 (by rw [t2]; omega) hz
    have x2 := hw _ (at0_mem (i := p) (by omega))
    have x3 : 1 ≤ at0 W p * q := by
      have := Int.mul_le_mul x2.1 h1 (by omega) (by omega)
      omega
    rw [show 3 * (j + 1) + r = 3 * j + r + 3 by omega, e3, e2, e1]
    unfold mn
    split <;> omega
/-- some head is served, and soon -/
theorem serves_ex (hW : W.length = 3) (hw : ∀ x ∈ W, 1 ≤ x ∧ x ≤ 100) (h1 : 1 ≤ q) (h2 : q ≤ 1200) (hs : SOk s) (hh : HOk H) : ∃ n, n ≤ 3602 ∧ Serves W q H s n := by
  obtain ⟨p, hp, hz⟩ := hh.nz
  obtain ⟨r, hr3, hr⟩ : ∃ r, r < 3 ∧ (s.2 + 2 * r) % 3 = p := by
    have ht := hs.2.2
    refine ⟨(s.2 + 2 * p) % 3, Nat.mod_lt _ (by decide), ?_⟩
    omega
  have hb := hh.b _ (at0_mem (i := p) (by have := hh.l3; omega))
  have hg := grows (H := H) hW hw h1 h2 hs hp hz r hr 1200 (by omega)
  have ht := pas_turn (W := W) (q := q) (H := H) (3 * 1200 + r) hs.2.2
  have htp : (pas W q H s (3 * 1200 + r)).2 = p := by rw [ht]; omega
  have hst : stops H (pas W q H s (3 * 1200 + r)) := by
    unfold stops
    rw [htp]
    exact ⟨hz, by omega⟩
  have hfind : ∀ N, stops H (pas W q H s N) → ∃ n, n ≤ N ∧ Serves W q H s n := by
    intro N
    induction N using Nat.strongRecOn with
    | _ N ih =>
      intro hN
      by_cases h : ∃ k, k < N ∧ stops H (pas W q H s k)
      · obtain ⟨k, hk, hks⟩ := h
        obtain ⟨n, hn, hv⟩ := ih k hk hks
        exact ⟨n, by omega, hv⟩
      · exact ⟨N, Nat.le_refl _, hN, fun k hk hks => h ⟨k, hk, hks⟩⟩
  obtain ⟨n, hn, hv⟩ := hfind _ hst
  exact ⟨n, by omega, hv⟩
end
end Go.Proofs.Ythkfdfkjenhjmaa
