/- Plain words: the reference's errors, what is missing, the message. -/
import Derived.Test.YtcifngefclgefaaW
namespace Go.Proofs.Ytcifngefclgefaa
set_option linter.unusedVariables false
set_option linter.unusedSimpArgs false

/-- two bundles agree, byte for byte -/
def agrB (x y : Bn) : Bool := (List.range (min (x.o + x.data.size) (y.o + y.data.size) - max x.o y.o)).all fun i => byt x.data (max x.o y.o + i - x.o) == byt y.data (max x.o y.o + i - y.o)
theorem agrB_iff {x y : Bn} : agrB x y = true ↔ agr x y := by
  unfold agrB
  rw [List.all_eq_true]
  constructor
  · intro h p h1 h2
    obtain ⟨a1, a2⟩ := h1
    obtain ⟨b1, b2⟩ := h2
    have := h (p - max x.o y.o) (List.mem_range.2 (by omega))
    rw [show max x.o y.o + (p - max x.o y.o) = p by omega] at this
    exact eq_of_beq this
  · intro h i hi
    have hi := List.mem_range.1 hi
    have := h (max x.o y.o + i) ⟨by omega, by omega⟩ ⟨by omega, by omega⟩
    unfold Bn.by at this
    rw [this]
    exact beq_self_eq_true _
/-- the error of bundle k as the reference finds it -/
def rErr (l : List Bn) (k : Nat) : Int :=
  if bE (bnAt l k) ≠ 0 then bE (bnAt l k) else if Bn.eqB (bnAt l k).kd (bnAt l 0).kd = false then 3 else if (List.range k).all (fun j => agrB (bnAt l j) (bnAt l k)) = false then 12 else 0
theorem rErr_eq {l : List Bn} {k : Nat} (hz : ∀ j, j < k → errL l j = 0) : errL l k = rErr l k := by
  unfold errL rErr
  have : fits (lays l k) (bnAt l k).o (bnAt l k).data = (List.range k).all (fun j => agrB (bnAt l j) (bnAt l k)) := by
    rw [Bool.eq_iff_iff, fits_agr (pw_of hz), List.all_eq_true]
    exact ⟨fun h j hj => agrB_iff.2 (h j (List.mem_range.1 hj)), fun h j hj => agrB_iff.1 (h j (List.mem_range.2 hj))⟩
  rw [this]
theorem rErr_z {l : List Bn} {k : Nat} (hz : ∀ j, j < k → rErr l j = 0) : ∀ j, j < k → errL l j = 0 := by
  intro j
  induction j using Nat.strongRecOn with
  | _ j ih =>
    intro hj
    rw [rErr_eq (fun i hi => ih i hi (by omega))]
    exact hz j hj
def rErrs (l : List Bn) : Int × Nat := if l.length = 0 then (8, 0) else fstE (rErr l) l.length 0
theorem rErrs_eq (l : List Bn) : rErrs l = laidE l := by
  unfold rErrs laidE
  by_cases h : l.length = 0
  · rw [if_pos h, if_pos h]
  · rw [if_neg h, if_neg h]
    exact (fstE_congr fun k hk hj => rErr_eq hj).symm
theorem rErr_ok {l : List Bn} {k : Nat} (h : rErr l k = 0) : Bok (bnAt l k) := by
  unfold rErr at h
  by_cases c : bE (bnAt l k) ≠ 0
  · rw [if_pos c] at h; exact absurd h c
  · exact bok_of (Decidable.not_not.1 c)
/-! what is missing -/
def mis (c : List Rg) : Nat → List Rg × Nat
  | 0 => ([], 0)
  | k + 1 => ((if (mis c k).2 < (rgAt c k).f then (mis c k).1 ++ [⟨(mis c k).2, (rgAt c k).f⟩] else (mis c k).1), (rgAt c k).t)
def misT (c : List Rg) (T : Nat) : List Rg := if (mis c c.length).2 < T then (mis c c.length).1 ++ [⟨(mis c c.length).2, T⟩] else (mis c c.length).1
theorem mis_congr {c d : List Rg} {n : Nat} (h : ∀ i, i < n → rgAt c i = rgAt d i) : mis c n = mis d n := by
  induction n with
  | zero => rfl
  | succ n ih =>
    rw [mis, mis, ih fun i hi => h i (by omega), h n (by omega)]
theorem rgAt_app {c : List Rg} {x : Rg} {i : Nat} (h : i < c.length) : rgAt (c ++ [x]) i = rgAt c i := by
  unfold rgAt
  rw [List.getD_eq_getElem?_getD, List.getD_eq_getElem?_getD, List.getElem?_append_left h]
theorem rgAt_end {c : List Rg} {x : Rg} : rgAt (c ++ [x]) c.length = x := by
  unfold rgAt
  rw [List.getD_eq_getElem?_getD, List.getElem?_append_right (Nat.le_refl _), Nat.sub_self]; rfl
theorem rgAt_set {c : List Rg} {x : Rg} {n i : Nat} (h : i ≠ n) : rgAt (c.set n x) i = rgAt c i := by
  unfold rgAt
  rw [List.getD_eq_getElem?_getD, List.getD_eq_getElem?_getD, List.getElem?_set_ne (Ne.symm h)]
theorem rgAt_set_self {c : List Rg} {x : Rg} {n : Nat} (h : n < c.length) : rgAt (c.set n x) n = x := by
  unfold rgAt
  rw [List.getD_eq_getElem?_getD, List.getElem?_set_self h]; rfl
theorem mis_addR {L : List Rg} {n : Nat} (hb : ∀ x ∈ L, x.f < x.t ∧ x.t ≤ n) :
    mis (addR L n) (addR L n).length = ((if (mis L L.length).2 < n then (mis L L.length).1 ++ [⟨(mis L L.length).2, n⟩] else (mis L L.length).1), n + 1) := by
  by_cases h : 0 < L.length ∧ (rgAt L (L.length - 1)).t = n
  · obtain ⟨m, hm⟩ : ∃ m, L.length = m + 1 := ⟨L.length - 1, by omega⟩
    have ht : (rgAt L m).t = n := by have := h.2; rwa [hm, Nat.add_sub_cancel] at this
    rw [addR_ext hm ht, List.length_set, hm]
    have e1 : mis (L.set m ⟨(rgAt L m).f, n + 1⟩) m = mis L m := mis_congr fun i hi => rgAt_set (by omega)
    rw [mis, mis, e1, rgAt_set_self (by omega)]
    dsimp only
    rw [if_neg (show ¬ (rgAt L m).t < n by omega)]
  · have e : addR L n = L ++ [⟨n, n + 1⟩] := by unfold addR; rw [if_neg h]
    rw [e, List.length_append, List.length_singleton, mis, rgAt_end]
    have e1 : mis (L ++ [⟨n, n + 1⟩]) L.length = mis L L.length := mis_congr fun i hi => rgAt_app hi
    rw [e1]
theorem mis_rgs (P : Nat → Bool) (n : Nat) : (mis (rgs P n) (rgs P n).length).2 ≤ n ∧ (∀ x ∈ (mis (rgs P n) (rgs P n).length).1, x.t < (mis (rgs P n) (rgs P n).length).2) ∧ misT (rgs P n) n = rgs (fun p => !P p) n := by
  induction n with
  | zero => exact ⟨Nat.le_refl _, fun x hx => (by cases hx), rfl⟩
  | succ n ih =>
    obtain ⟨h1, h2, h3⟩ := ih
    unfold misT at h3 ⊢
    by_cases c : P n = true
    · have e1 : rgs P (n + 1) = addR (rgs P n) n := by rw [rgs, if_pos c]
      have e2 : rgs (fun p => !P p) (n + 1) = rgs (fun p => !P p) n := by rw [rgs, if_neg (by simp [c])]
      rw [e1, e2, mis_addR (rgs_b P n).2, h3]
      refine ⟨Nat.le_refl _, fun x hx => ?_, ?_⟩
      · have := (rgs_b (fun p => !P p) n).2 x hx
        dsimp only
        omega
      · dsimp only
        rw [if_neg (Nat.lt_irrefl _)]
    · have e1 : rgs P (n + 1) = rgs P n := by rw [rgs, if_neg c]
      have e2 : rgs (fun p => !P p) (n + 1) = addR (rgs (fun p => !P p) n) n := by rw [rgs, if_pos (by simp [c])]
      rw [e1, e2]
      refine ⟨by omega, h2, ?_⟩
      obtain ⟨s1, s2, hs⟩ : ∃ s1 s2, mis (rgs P n) (rgs P n).length = (s1, s2) := ⟨_, _, rfl⟩
      rw [hs] at h1 h2 h3 ⊢
      dsimp only at h1 h2 h3 ⊢
      rw [if_pos (by omega), ← h3]
      by_cases d : s2 < n
      · rw [if_pos d, addR_ext (n := s1.length) (by simp) (by rw [rgAt_end])]
        rw [rgAt_end, List.set_append_right _ _ (Nat.le_refl _), Nat.sub_self]
        rfl
      · obtain rfl : s2 = n := by omega
        rw [if_neg d]
        unfold addR
        rw [if_neg]
        rintro ⟨q1, q2⟩
        have := h2 (rgAt s1 (s1.length - 1)) (List.mem_of_getElem? (rgAt_get (by omega)))
        omega
theorem rgs_empty {P : Nat → Bool} {n : Nat} : (rgs P n).length = 0 ↔ ∀ p, p < n → P p = false := by
  induction n with
  | zero => exact ⟨fun _ p hp => by omega, fun _ => rfl⟩
  | succ n ih =>
    rw [rgs]
    by_cases c : P n = true
    · rw [if_pos c]
      constructor
      · intro h
        exfalso
        unfold addR at h
        split at h
        · rw [List.length_set] at h; omega
        · simp at h
      · intro h
        have := h n (by omega)
        rw [c] at this; cases this
    · rw [if_neg c, ih]
      constructor
      · intro h p hp
        rcases Nat.lt_or_eq_of_le (Nat.le_of_lt_succ hp) with d | d
        · exact h p d
        · rw [d]; simpa using c
      · intro h p hp
        exact h p (by omega)
theorem rgs_congr {P Q : Nat → Bool} {n : Nat} (h : ∀ p, p < n → P p = Q p) : rgs P n = rgs Q n := by
  induction n with
  | zero => rfl
  | succ n ih => rw [rgs, rgs, ih fun p hp => h p (by omega), h n (by omega)]
/-- whether one of the first k bundles covers a byte -/
def cvd (l : List Bn) (k p : Nat) : Bool := (List.range k).any fun i => decide (cov (bnAt l i) p)
theorem cvd_succ (l : List Bn) (k p : Nat) : cvd l (k + 1) p = (cvd l k p || decide (cov (bnAt l k) p)) := by
  unfold cvd
  rw [List.range_succ, List.any_append]
  simp
theorem cvd_lays {l : List Bn} (h : LOk l) (p : Nat) : cvd l l.length p = (lays l l.length p).isSome := by
  rw [Bool.eq_iff_iff]
  unfold cvd
  rw [List.any_eq_true]
  constructor
  · rintro ⟨i, hi, hc⟩
    rw [lays_is h.ag (List.mem_range.1 hi) (of_decide_eq_true hc)]
    rfl
  · intro hs
    cases hc : lays l l.length p with
    | none => rw [hc] at hs; cases hs
    | some b =>
      obtain ⟨j, hj, h1, _⟩ := lays_some hc
      exact ⟨j, List.mem_range.2 hj, decide_eq_true h1⟩
theorem cov_rgs {l : List Bn} (h : LOk l) : rgsOf l true = (rgs (cvd l l.length) (bnAt l 0).total.toNat, 0) := by
  unfold rgsOf
  rw [laidE_ok h, if_neg (fun c => c rfl), rgs_congr (Q := cvd l l.length)]
  intro p _
  rw [cvd_lays h]
  simp
theorem mis_of {l : List Bn} (h : LOk l) : rgsOf l false = (misT (rgsOf l true).1 (bnAt l 0).total.toNat, 0) := by
  have h1 : rgsOf l true = (rgs (fun p => (lays l l.length p).isSome == true) (bnAt l 0).total.toNat, 0) := by
    unfold rgsOf
    rw [laidE_ok h, if_neg (fun c => c rfl)]
  have h2 : rgsOf l false = (rgs (fun p => (lays l l.length p).isSome == false) (bnAt l 0).total.toNat, 0) := by
    unfold rgsOf
    rw [laidE_ok h, if_neg (fun c => c rfl)]
  rw [h1, h2, (mis_rgs _ _).2.2, rgs_congr]
  intro p _
  cases (lays l l.length p).isSome <;> rfl
/-- joined: in words of what is missing -/
theorem join_mis {l : List Bn} (h : LOk l) : joinOf l = if 0 < (rgsOf l false).1.length then (noB, 8) else (⟨(bysOf (lays l l.length) (bnAt l 0).total.toNat).toArray⟩, 0) := by
  have e : rgsOf l false = (rgs (fun p => (lays l l.length p).isSome == false) (bnAt l 0).total.toNat, 0) := by
    unfold rgsOf
    rw [laidE_ok h, if_neg (fun c => c rfl)]
  rw [e]
  unfold joinOf
  rw [laidE_ok h, if_neg (fun c => c rfl)]
  dsimp only
  by_cases c : (List.range (bnAt l 0).total.toNat).any (fun p => (lays l l.length p).isNone) = true
  · rw [if_pos c, if_pos]
    refine Nat.pos_of_ne_zero fun hz => ?_
    obtain ⟨p, hp, hn⟩ := List.any_eq_true.1 c
    have := rgs_empty.1 hz p (List.mem_range.1 hp)
    cases hc : lays l l.length p with
    | none => rw [hc] at this; cases this
    | some b => rw [hc] at hn; cases hn
  · rw [if_neg c, if_neg]
    intro hz
    have : (rgs (fun p => (lays l l.length p).isSome == false) (bnAt l 0).total.toNat).length = 0 := rgs_empty.2 fun p hp => by
      cases hc : lays l l.length p with
      | none => exact absurd (List.any_eq_true.2 ⟨p, List.mem_range.2 hp, by rw [hc]; rfl⟩) c
      | some b => rfl
    omega
theorem bysOf_set (C : Nat → Option UInt8) (T q : Nat) (x : UInt8) : (bysOf C T).set q x = bysOf (putP C q x) T := by
  apply List.ext_getElem?
  intro i
  unfold bysOf putP
  rw [List.getElem?_set, List.getElem?_map, List.getElem?_map, List.length_map, List.length_range]
  by_cases hi : i < T
  · rw [List.getElem?_range hi]
    by_cases c : q = i
    · subst c
      rw [if_pos rfl, if_pos hi]; simp
    · rw [if_neg c]
      simp [Ne.symm c]
  · rw [List.getElem?_eq_none (by simp; omega)]
    by_cases c : q = i
    · subst c; rw [if_pos rfl, if_neg hi]; rfl
    · rw [if_neg c]; rfl
theorem bysOf_zero (T : Nat) : bysOf (fun _ => none) T = List.replicate T 0 := by
  unfold bysOf
  apply List.ext_getElem?
  intro i
  rw [List.getElem?_map, List.getElem?_replicate]
  by_cases hi : i < T
  · rw [List.getElem?_range hi, if_pos hi]; rfl
  · rw [List.getElem?_eq_none (by simp; omega), if_neg hi]; rfl
/-- cut anew, as the reference does it -/
theorem refit_cut {l : List Bn} {ms : ByteArray} (h : joinOf l = (ms, 0)) (z : Int) : refitOf l z = cutOf ⟨(bnAt l 0).node, (bnAt l 0).seq, 0, (bnAt l 0).dest, (bnAt l 0).prio, (bnAt l 0).born, (bnAt l 0).life, (bnAt l 0).total, (bnAt l 0).data⟩ ms z := by
  obtain ⟨hl, _, _⟩ := join_ok h
  have hs := join_size h
  have hb := hl.ok 0 (by have := hl.ne; omega)
  have ht := hb.f.2.2.2.2
  have e1 : refitOf l z = if z < 1 ∨ 1000 < z then ([], 2) else (fragsOf (bnAt l 0) ms z.toNat, 0) := by
    unfold refitOf
    rw [h, if_neg (fun c => c rfl)]
  have e2 : cutOf ⟨(bnAt l 0).node, (bnAt l 0).seq, 0, (bnAt l 0).dest, (bnAt l 0).prio, (bnAt l 0).born, (bnAt l 0).life, (bnAt l 0).total, (bnAt l 0).data⟩ ms z = if z < 1 ∨ 1000 < z ∨ (0 : Int) ≠ 0 then ([], 2) else if bE (frOf (bnAt l 0) ms z.toNat 0 0) ≠ 0 then ([], bE (frOf (bnAt l 0) ms z.toNat 0 0)) else (fragsOf (bnAt l 0) ms z.toNat, 0) := by
    unfold cutOf
    rw [if_neg (by omega), if_neg (by omega)]
    rfl
  rw [e1, e2]
  by_cases c : z < 1 ∨ 1000 < z
  · rw [if_pos c, if_pos (c.elim .inl (fun d => .inr (.inl d)))]
  · rw [if_neg c, if_neg (fun d => d.elim (fun e => c (.inl e)) (fun e => e.elim (fun g => c (.inr g)) (fun g => g rfl)))]
    have hz : bE (frOf (bnAt l 0) ms z.toNat 0 0) = 0 := by
      have hz := fr_size (h := bnAt l 0) (m := ms) (s := z.toNat) (i := 0) (by omega)
      refine bE_0 ?_ ?_ (by omega) (by omega) ?_
      · have hi := hb.id
        unfold IdOk at hi ⊢
        refine ⟨hi.1, hi.2.1, ?_, ?_, hi.2.2.2.2⟩
        · show 0 ≤ (((0 * z.toNat : Nat)) : Int); omega
        · show (((0 * z.toNat : Nat)) : Int) ≤ 19999; omega
      · have hf := hb.f
        exact ⟨hf.1, hf.2.1, hf.2.2.1, hf.2.2.2.1, by show 1 ≤ (ms.size : Int) ∧ (ms.size : Int) ≤ 20000; omega⟩
      · show ¬ (ms.size : Int) < (((0 * z.toNat : Nat)) : Int) + _
        rw [hz]; omega
    rw [if_neg (fun c => c hz)]
end Go.Proofs.Ytcifngefclgefaa
