/- Plain words: pieces of one message. -/
import Derived.Test.YtcifngefclgefaaP
namespace Go.Proofs.Ytcifngefclgefaa
set_option linter.unusedVariables false
set_option linter.unusedSimpArgs false

theorem errL_ok {l : List Bn} (h : LOk l) {k : Nat} (hk : k < l.length) : errL l k = 0 := by
  have hf := (fits_agr (l := l) (k := k) (fun a b ha hb => h.ag a b (by omega) (by omega)) (bnAt l k)).2 (fun j hj => h.ag j k (by omega) hk)
  unfold errL
  rw [if_neg (by rw [bE_ok (h.ok k hk)]; simp), if_neg (by rw [h.kd k hk, Bn.eqB_self]; simp), if_neg (by rw [hf]; simp)]
theorem laidE_ok {l : List Bn} (h : LOk l) : laidE l = (0, 0) := by
  rw [laidE_cons h.ne]
  have key : ∀ n k, k + n = l.length → fstE (errL l) n k = (0, 0) := by
    intro n
    induction n with
    | zero => intro k _; rfl
    | succ n ih =>
      intro k hk
      rw [fstE, if_neg (by rw [errL_ok h (by omega)]; simp)]
      exact ih (k + 1) (by omega)
  exact key l.length 0 (by omega)
/-- pieces of one message -/
structure Pcs (m : ByteArray) (l : List Bn) : Prop where
  ne : ¬ l.length = 0
  e : ∀ i, i < l.length → bE (bnAt l i) = 0
  k : ∀ i, i < l.length → (bnAt l i).kd = (bnAt l 0).kd
  t : ∀ i, i < l.length → (bnAt l i).total = m.size
  b : ∀ i p, i < l.length → cov (bnAt l i) p → p < m.size ∧ (bnAt l i).by p = byt m p
section
variable {m : ByteArray} {l : List Bn}
theorem Pcs.lok (h : Pcs m l) : LOk l := ⟨h.ne, fun k hk => bok_of (h.e k hk), h.k, fun a b ha hb p c1 c2 => ((h.b a p ha c1).2).trans ((h.b b p hb c2).2).symm⟩
theorem Pcs.tot (h : Pcs m l) : (bnAt l 0).total.toNat = m.size := by
  rw [h.t 0 (by have := h.ne; omega)]; rfl
theorem Pcs.at (h : Pcs m l) {i p : Nat} (hi : i < l.length) (hc : cov (bnAt l i) p) : lays l l.length p = some (byt m p) := by
  rw [lays_is h.lok.ag hi hc, (h.b i p hi hc).2]
theorem Pcs.some_iff (h : Pcs m l) (p : Nat) : (lays l l.length p).isSome = true ↔ ∃ i, i < l.length ∧ cov (bnAt l i) p := by
  constructor
  · intro hs
    cases hc : lays l l.length p with
    | none => rw [hc] at hs; cases hs
    | some b =>
      obtain ⟨j, hj, h1, _⟩ := lays_some hc
      exact ⟨j, hj, h1⟩
  · rintro ⟨i, hi, hc⟩
    rw [h.at hi hc]; rfl
theorem ba_range (m : ByteArray) : (List.range m.size).map (byt m) = m.data.toList := by
  apply List.ext_getElem
  · simp
  · intro i h1 h2
    have hi : i < m.size := by simpa using h1
    rw [List.getElem_map, List.getElem_range, byt_at hi]
    simp
    rfl
/-- the pieces join to the message -/
theorem Pcs.join (h : Pcs m l) (ha : ∀ p, p < m.size → ∃ i, i < l.length ∧ cov (bnAt l i) p) : joinOf l = (m, 0) := by
  have hl : ∀ p, p < m.size → lays l l.length p = some (byt m p) := fun p hp => by
    obtain ⟨i, hi, hc⟩ := ha p hp
    exact h.at hi hc
  unfold joinOf
  rw [laidE_ok h.lok, if_neg (fun c => c rfl), h.tot, if_neg]
  · have e : bysOf (lays l l.length) m.size = m.data.toList := by
      rw [← ba_range]
      unfold bysOf
      refine List.map_congr_left fun p hp => ?_
      rw [hl p (List.mem_range.1 hp)]; rfl
    rw [e]
  · intro c
    obtain ⟨p, hp, hn⟩ := List.any_eq_true.1 c
    rw [hl p (List.mem_range.1 hp)] at hn
    cases hn
/-- a byte is missing -/
theorem Pcs.miss (h : Pcs m l) {p : Nat} (hp : p < m.size) (hn : ∀ i, i < l.length → ¬ cov (bnAt l i) p) : joinOf l = (noB, 8) := by
  unfold joinOf
  rw [laidE_ok h.lok, if_neg (fun c => c rfl), h.tot, if_pos]
  exact List.any_eq_true.2 ⟨p, List.mem_range.2 hp, by rw [lays_none hn]; rfl⟩
theorem Pcs.rgs (h : Pcs m l) (cv : Bool) : rgsOf l cv = (rgs (fun p => (lays l l.length p).isSome == cv) m.size, 0) := by
  unfold rgsOf
  rw [laidE_ok h.lok, if_neg (fun c => c rfl), h.tot]
end
/-- one range -/
theorem rgs_one (P : Nat → Bool) (a b n : Nat) (hab : a < b) (hb : b ≤ n) (hP : ∀ p, p < n → (P p = true ↔ a ≤ p ∧ p < b)) : rgs P n = [⟨a, b⟩] := by
  have key : ∀ k, k ≤ n → rgs P k = if k ≤ a then [] else [⟨a, min k b⟩] := by
    intro k
    induction k with
    | zero => intro _; rw [if_pos (by omega)]; rfl
    | succ k ih =>
      intro hk
      have ih := ih (by omega)
      rw [rgs]
      by_cases c : P k = true
      · have hc := (hP k (by omega)).1 c
        rw [if_pos c, ih]
        by_cases d : k ≤ a
        · rw [if_pos d, if_neg (show ¬ k + 1 ≤ a by omega), addR_nil]
          have : k = a := by omega
          subst this
          rw [show min (k + 1) b = k + 1 by omega]; rfl
        · rw [if_neg d, if_neg (show ¬ k + 1 ≤ a by omega), addR_ext (n := 0) rfl (by show min k b = k; omega)]
          show [(⟨a, k + 1⟩ : Rg)] = _
          rw [show min (k + 1) b = k + 1 by omega]
      · have hc : ¬ (a ≤ k ∧ k < b) := fun x => c ((hP k (by omega)).2 x)
        rw [if_neg c, ih]
        by_cases d : k ≤ a
        · rw [if_pos d, if_pos (by omega)]
        · rw [if_neg d, if_neg (by omega), show min (k + 1) b = min k b by omega]
  rw [key n (Nat.le_refl _), if_neg (by omega), show min n b = b by omega]
/-! the fragments -/
theorem byt_ext {m : ByteArray} {a b p : Nat} (h1 : a ≤ p) (h2 : p < b) (hb : b ≤ m.size) : byt (m.extract a b) (p - a) = byt m p := by
  have hs : p - a < (m.extract a b).size := by rw [ByteArray.size_extract]; omega
  rw [byt_at hs, byt_at (by omega)]
  have e : (m.extract a b)[p - a] = (m.extract a b).data[p - a]'hs := rfl
  have e2 : m[p]'(by omega) = m.data[p]'(by show p < m.size; omega) := rfl
  rw [e, e2]
  simp only [ByteArray.data_extract, Array.getElem_extract]
  congr 1
  omega
section
variable {h : Bn} {m : ByteArray} {s : Nat}
theorem fr_o (i : Nat) : (frOf h m s i i).o = i * s := by
  show (((i * s : Nat) : Int)).toNat = _
  rw [Int.toNat_natCast]
theorem fr_size {i : Nat} (hi : i * s < m.size) : (frOf h m s i i).data.size = min (i * s + s) m.size - i * s := by
  show (m.extract _ _).size = _
  rw [ByteArray.size_extract]; omega
theorem fr_cov {i p : Nat} (hi : i * s < m.size) : cov (frOf h m s i i) p ↔ i * s ≤ p ∧ p < min (i * s + s) m.size := by
  unfold cov
  rw [fr_o, fr_size hi]
  omega
theorem fr_by {i p : Nat} (hi : i * s < m.size) (hc : cov (frOf h m s i i) p) : (frOf h m s i i).by p = byt m p := by
  have hc' := (fr_cov hi).1 hc
  unfold Bn.by
  rw [fr_o]
  exact byt_ext hc'.1 hc'.2 (Nat.min_le_right _ _)
/-- a list of fragments of one message -/
theorem pcs_of {l : List Bn} (hs : 1 ≤ s ∧ s ≤ 1000) (hM : m.size ≤ 20000) (h0 : bE (frOf h m s 0 0) = 0) (hne : ¬ l.length = 0) (hl : ∀ i, i < l.length → ∃ j, j * s < m.size ∧ bnAt l i = frOf h m s j j) : Pcs m l := by
  refine ⟨hne, fun i hi => ?_, fun i hi => ?_, fun i hi => ?_, fun i p hi hc => ?_⟩
  · obtain ⟨j, hj, e⟩ := hl i hi
    rw [e, fr_err h m s j hs hM hj, h0]
  · obtain ⟨j, hj, e⟩ := hl i hi
    obtain ⟨j', hj', e'⟩ := hl 0 (by omega)
    rw [e, e']; rfl
  · obtain ⟨j, hj, e⟩ := hl i hi
    rw [e]; rfl
  · obtain ⟨j, hj, e⟩ := hl i hi
    rw [e] at hc ⊢
    have hc' := (fr_cov hj).1 hc
    exact ⟨by omega, fr_by hj hc⟩
theorem fr_idx {p : Nat} (hs : 1 ≤ s) (hp : p < m.size) : p / s * s < m.size ∧ (p / s * s ≤ p ∧ p < min (p / s * s + s) m.size) := by
  have h1 := Nat.div_mul_le_self p s
  have h2 := Nat.lt_div_mul_add (a := p) (b := s) (by omega)
  omega
theorem frags_at {i : Nat} (hi : i < (m.size + s - 1) / s) : (fragsOf h m s)[i]? = some (frOf h m s i i) := by
  unfold fragsOf
  rw [List.getElem?_map, List.getElem?_range hi]; rfl
theorem fr_lt {i : Nat} (hs : 1 ≤ s) : i < (m.size + s - 1) / s ↔ i * s < m.size := by
  rw [Nat.lt_div_iff_mul_lt hs]
  have : s * i = i * s := Nat.mul_comm _ _
  omega
end
end Go.Proofs.Ytcifngefclgefaa
