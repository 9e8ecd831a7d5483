/- Plain words: bundles, their errors. -/
namespace Go.Proofs.Ytcifngefclgefaa
set_option linter.unusedVariables false
set_option linter.unusedSimpArgs false

/-- a bundle -/
structure Bn where
  node : Int
  seq : Int
  off : Int
  dest : Int
  prio : Int
  born : Int
  life : Int
  total : Int
  data : ByteArray
def IdOk (node seq io : Int) : Prop := 1 ≤ node ∧ node ≤ 16 ∧ 0 ≤ io ∧ io ≤ 19999 ∧ seq ≤ 1099511627776
instance (a b c : Int) : Decidable (IdOk a b c) := by unfold IdOk; exact inferInstance
def idE (node seq io : Int) : Int := if IdOk node seq io then 0 else 2
/-- the fields are within their limits -/
def Fok (x : Bn) : Prop := (1 ≤ x.dest ∧ x.dest ≤ 16) ∧ (0 ≤ x.prio ∧ x.prio ≤ 2) ∧ (0 ≤ x.born ∧ x.born ≤ 1099511627776) ∧ (1 ≤ x.life ∧ x.life ≤ 1048576) ∧ (1 ≤ x.total ∧ x.total ≤ 20000)
instance (x : Bn) : Decidable (Fok x) := by unfold Fok; exact inferInstance
/-- the error of a bundle -/
def bE (x : Bn) : Int := if ¬ IdOk x.node x.seq x.off then 2 else if ¬ Fok x then 2 else if x.data.size = 0 then 11 else if 1000 < x.data.size then 4 else if x.total < x.off + x.data.size then 12 else 0
theorem idE_ne {a b c : Int} (h : ¬ IdOk a b c) : idE a b c = 2 := if_neg h
theorem idE_ok {a b c : Int} (h : IdOk a b c) : idE a b c = 0 := if_pos h
section
variable {x : Bn}
theorem bE_id (h : ¬ IdOk x.node x.seq x.off) : bE x = 2 := if_pos h
theorem bE_f (h : IdOk x.node x.seq x.off) (h2 : ¬ Fok x) : bE x = 2 := by unfold bE; rw [if_neg (fun c => c h), if_pos h2]
theorem bE_s (h : IdOk x.node x.seq x.off) (h2 : Fok x) (h3 : x.data.size = 0) : bE x = 11 := by unfold bE; rw [if_neg (fun c => c h), if_neg (fun c => c h2), if_pos h3]
theorem bE_l (h : IdOk x.node x.seq x.off) (h2 : Fok x) (h3 : ¬ x.data.size = 0) (h4 : 1000 < x.data.size) : bE x = 4 := by unfold bE; rw [if_neg (fun c => c h), if_neg (fun c => c h2), if_neg h3, if_pos h4]
theorem bE_t (h : IdOk x.node x.seq x.off) (h2 : Fok x) (h3 : ¬ x.data.size = 0) (h4 : ¬ 1000 < x.data.size) (h5 : x.total < x.off + x.data.size) : bE x = 12 := by unfold bE; rw [if_neg (fun c => c h), if_neg (fun c => c h2), if_neg h3, if_neg h4, if_pos h5]
theorem bE_0 (h : IdOk x.node x.seq x.off) (h2 : Fok x) (h3 : ¬ x.data.size = 0) (h4 : ¬ 1000 < x.data.size) (h5 : ¬ x.total < x.off + x.data.size) : bE x = 0 := by unfold bE; rw [if_neg (fun c => c h), if_neg (fun c => c h2), if_neg h3, if_neg h4, if_neg h5]
end
/-- a bundle is as Check wants it -/
structure Bok (x : Bn) : Prop where
  id : IdOk x.node x.seq x.off
  f : Fok x
  s : 1 ≤ x.data.size ∧ x.data.size ≤ 1000
  t : x.off + x.data.size ≤ x.total
theorem bok_of {x : Bn} (h : bE x = 0) : Bok x := by
  by_cases h1 : IdOk x.node x.seq x.off
  · by_cases h2 : Fok x
    · by_cases h3 : x.data.size = 0
      · rw [bE_s h1 h2 h3] at h; cases h
      · by_cases h4 : 1000 < x.data.size
        · rw [bE_l h1 h2 h3 h4] at h; cases h
        · by_cases h5 : x.total < x.off + x.data.size
          · rw [bE_t h1 h2 h3 h4 h5] at h; cases h
          · exact ⟨h1, h2, by omega, by omega⟩
    · rw [bE_f h1 h2] at h; cases h
  · rw [bE_id h1] at h; cases h
theorem bE_ok {x : Bn} (h : Bok x) : bE x = 0 := bE_0 h.id h.f (by have := h.s; omega) (by have := h.s; omega) (by have := h.t; omega)
/-- a limit -/
structure Lm where
  n : Int
  l : Int
  g : Int
def Lm.bad (x : Lm) : Bool := decide (x.n < x.l) || decide (x.g < x.n)
/-- no limit is broken from k on -/
def LmMid (L : List Lm) (k : Nat) : Prop := (L.drop k).any Lm.bad = L.any Lm.bad
theorem lm_drop {L : List Lm} {k : Nat} {x : Lm} (h : L[k]? = some x) : (L.drop k).any Lm.bad = (x.bad || (L.drop (k + 1)).any Lm.bad) := by
  obtain ⟨hk, rfl⟩ := List.getElem?_eq_some_iff.1 h
  rw [List.drop_eq_getElem_cons hk, List.any_cons]
theorem LmMid.next {L : List Lm} {k : Nat} {x : Lm} (h : LmMid L k) (hx : L[k]? = some x) (hp : x.bad = false) : LmMid L (k + 1) := by
  unfold LmMid at h ⊢
  rw [lm_drop hx, hp, Bool.false_or] at h
  exact h
theorem LmMid.hit {L : List Lm} {k : Nat} {x : Lm} (h : LmMid L k) (hx : L[k]? = some x) (hp : x.bad = true) : L.any Lm.bad = true := by
  unfold LmMid at h
  rw [lm_drop hx, hp, Bool.true_or] at h
  exact h.symm
theorem LmMid.done {L : List Lm} {k : Nat} (h : LmMid L k) (hk : L.length ≤ k) : L.any Lm.bad = false := by
  unfold LmMid at h
  rw [List.drop_of_length_le hk] at h
  exact h.symm
end Go.Proofs.Ytcifngefclgefaa
