/- The plain model of a sender's ledger: which ledgers are valid, and what the calls make of one; no program in sight. -/
namespace Go.Proofs.Ytdfppaafoecgmaa
set_option linter.unusedVariables false
set_option linter.unusedSimpArgs false

/-- a slot: offset, size, and the bundle's ID (node, sequence number, offset) -/
structure Sl where
  off : Int
  size : Int
  node : Int
  seq : Int
  io : Int
deriving DecidableEq
/-- a ledger: granted, next, returned, slots -/
structure Led where
  g : Int
  n : Int
  r : Int
  sl : List Sl
deriving DecidableEq

def IdOk (node seq io : Int) : Prop := 1 ≤ node ∧ node ≤ 16 ∧ 0 ≤ io ∧ io ≤ 19999 ∧ seq ≤ 1099511627776
instance (a b c : Int) : Decidable (IdOk a b c) := by unfold IdOk; exact inferInstance
def idE (node seq io : Int) : Int := if IdOk node seq io then 0 else 2

/-- the same bundle -/
def Sl.has (x : Sl) (node seq io : Int) : Bool := x.node == node && x.seq == seq && x.io == io
def Sl.same (x y : Sl) : Bool := x.has y.node y.seq y.io

/-- the number of the first slot for a bundle; the number of slots if there is none -/
def fnd (node seq io : Int) : List Sl → Nat
  | [] => 0
  | x :: r => if x.has node seq io then 0 else fnd node seq io r + 1
def anyHas (node seq io : Int) (l : List Sl) : Bool := l.any fun x => x.has node seq io

theorem fnd_le (a b c : Int) (l : List Sl) : fnd a b c l ≤ l.length := by
  induction l with
  | nil => exact Nat.le_refl _
  | cons x r ih => unfold fnd; split <;> simp <;> omega
theorem fnd_lt (a b c : Int) (l : List Sl) : fnd a b c l < l.length ↔ anyHas a b c l = true := by
  induction l with
  | nil => simp [fnd, anyHas]
  | cons x r ih =>
    unfold fnd
    by_cases h : x.has a b c
    · simp [h, anyHas]
    · simp only [h, if_false, Bool.false_eq_true, List.length_cons, Nat.add_lt_add_iff_right, ih]
      simp [anyHas, h]
theorem fnd_at (a b c : Int) (l : List Sl) {x : Sl} (h : l[fnd a b c l]? = some x) : x.has a b c = true := by
  induction l with
  | nil => simp [fnd] at h
  | cons y r ih =>
    unfold fnd at h
    by_cases hy : y.has a b c
    · rw [if_pos hy] at h; simp at h; subst h; exact hy
    · rw [if_neg hy] at h; simp at h; exact ih h
theorem fnd_before (a b c : Int) (l : List Sl) (i : Nat) (hi : i < fnd a b c l) {x : Sl} (h : l[i]? = some x) : x.has a b c = false := by
  induction l generalizing i with
  | nil => simp [fnd] at hi
  | cons y r ih =>
    unfold fnd at hi
    by_cases hy : y.has a b c
    · rw [if_pos hy] at hi; omega
    · rw [if_neg hy] at hi
      cases i with
      | zero => simp at h; subst h; simpa using hy
      | succ i => simp at h; exact ih i (by omega) h
/-- what decides the search: the first slot that fits -/
theorem fnd_is (a b c : Int) (l : List Sl) (k : Nat) (hk : k ≤ l.length) (hb : ∀ i x, i < k → l[i]? = some x → x.has a b c = false) (ha : k < l.length → ∃ x, l[k]? = some x ∧ x.has a b c = true) : fnd a b c l = k := by
  induction l generalizing k with
  | nil => simp at hk; subst hk; rfl
  | cons y r ih =>
    cases k with
    | zero =>
      obtain ⟨x, hx, hh⟩ := ha (by simp)
      simp at hx; subst hx
      unfold fnd; rw [if_pos hh]
    | succ k =>
      have h0 := hb 0 y (by omega) (by simp)
      unfold fnd
      rw [if_neg (by simp [h0])]
      congr 1
      refine ih k (by simp at hk; omega) (fun i x hi hx => hb (i + 1) x (by omega) (by simpa using hx)) (fun h => ?_)
      obtain ⟨x, hx, hh⟩ := ha (by simp; omega)
      exact ⟨x, by simpa using hx, hh⟩

/-- the error of a slot, behind those in done, which end at e -/
def slotE (nxt : Int) (done : List Sl) (e : Int) (x : Sl) : Int :=
  if x.size = 0 ∨ ¬ IdOk x.node x.seq x.io then 2
  else if x.off < e ∨ nxt < x.off ∨ nxt - x.off < x.size then 19
  else if anyHas x.node x.seq x.io done = true then 9 else 0
def scan (nxt : Int) (done : List Sl) (e : Int) : List Sl → Int × Int
  | [] => (0, 0)
  | x :: r => if slotE nxt done e x = 0 then scan nxt (done ++ [x]) (x.off + x.size) r else (slotE nxt done e x, done.length)
/-- a ledger's error, and the number of the slot with it -/
def chk (s : Led) : Int × Int :=
  if 1125899906842624 < s.g then (2, 0)
  else if s.g < s.r ∨ s.g - s.r < s.n then (14, 0)
  else if 100 < s.sl.length then (5, 0)
  else scan s.n [] 0 s.sl
def okL (s : Led) : Prop := (chk s).1 = 0
instance (s : Led) : Decidable (okL s) := by unfold okL; exact inferInstance
def usab (s : Led) : Int := s.g - s.n - s.r
def flr (s : Led) : Int := match s.sl with | [] => s.n | x :: _ => x.off

/-- the numbers of a ledger fit their kinds -/
def Wf (s : Led) : Prop := (0 ≤ s.g ∧ s.g ≤ 18446744073709551615) ∧ (0 ≤ s.n ∧ s.n ≤ 18446744073709551615) ∧ (0 ≤ s.r ∧ s.r ≤ 18446744073709551615) ∧
  ∀ x ∈ s.sl, (0 ≤ x.off ∧ x.off ≤ 18446744073709551615) ∧ (0 ≤ x.size ∧ x.size ≤ 18446744073709551615) ∧ (0 ≤ x.seq ∧ x.seq ≤ 18446744073709551615)

/-- the results: a ledger, a number, an error -/
def grant (s : Led) (t : Int) : Led × Int × Int :=
  if ¬ okL s then (⟨0, 0, 0, []⟩, 0, (chk s).1) else if 1125899906842624 < t then (⟨0, 0, 0, []⟩, 0, 2)
  else if t ≤ s.g then (s, 0, 0) else ({ s with g := t }, t - s.g, 0)
def give (s : Led) (t : Int) : Led × Int × Int :=
  if ¬ okL s then (⟨0, 0, 0, []⟩, 0, (chk s).1) else if 1125899906842624 < t then (⟨0, 0, 0, []⟩, 0, 2)
  else if t ≤ s.r then (s, 0, 0) else if usab s < t - s.r then ({ s with r := s.r + usab s }, usab s, 0) else ({ s with r := t }, t - s.r, 0)
def offer (s : Led) (size node seq io : Int) : Led × Int × Int :=
  if ¬ okL s then (⟨0, 0, 0, []⟩, 0, (chk s).1)
  else if size = 0 ∨ ¬ IdOk node seq io then (⟨0, 0, 0, []⟩, 0, 2)
  else if anyHas node seq io s.sl = true then (⟨0, 0, 0, []⟩, 0, 9)
  else if s.sl.length = 100 then (⟨0, 0, 0, []⟩, 0, 5)
  else if usab s < size then (⟨0, 0, 0, []⟩, 0, 14)
  else ({ s with sl := s.sl ++ [⟨s.n, size, node, seq, io⟩], n := s.n + size }, s.n, 0)
def settle (s : Led) (off node seq io : Int) : Led × Int :=
  if ¬ okL s then (⟨0, 0, 0, []⟩, (chk s).1)
  else if ¬ IdOk node seq io then (⟨0, 0, 0, []⟩, 2)
  else match s.sl[fnd node seq io s.sl]? with
    | none => (⟨0, 0, 0, []⟩, 8)
    | some x => if x.off ≠ off then (⟨0, 0, 0, []⟩, 8) else ({ s with sl := s.sl.eraseIdx (fnd node seq io s.sl) }, 0)
end Go.Proofs.Ytdfppaafoecgmaa
