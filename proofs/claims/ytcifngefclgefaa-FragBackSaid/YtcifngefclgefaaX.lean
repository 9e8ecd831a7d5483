/- Plain words: parts of a fragment. -/
import Derived.Test.YtcifngefclgefaaW
namespace Go.Proofs.Ytcifngefclgefaa
set_option linter.unusedVariables false
set_option linter.unusedSimpArgs false

/-- a part of a bundle -/
def ptOf (b : Bn) (p q : Nat) : Bn := { b with off := b.off + p, data := b.data.extract p q }
section
variable {h : Bn} {m : ByteArray} {s i : Nat}
theorem pt_o (p q : Nat) : (ptOf (frOf h m s i i) p q).o = i * s + p := by
  show (((i * s : Nat) : Int) + (p : Int)).toNat = _
  omega
theorem pt_size (hi : i * s < m.size) {p q : Nat} (hq : q ≤ (frOf h m s i i).data.size) (hp : p ≤ q) : (ptOf (frOf h m s i i) p q).data.size = q - p := by
  show ((frOf h m s i i).data.extract p q).size = _
  rw [ByteArray.size_extract]; omega
theorem pt_cov (hi : i * s < m.size) {p q x : Nat} (hq : q ≤ (frOf h m s i i).data.size) (hp : p ≤ q) : cov (ptOf (frOf h m s i i) p q) x ↔ i * s + p ≤ x ∧ x < i * s + q := by
  unfold cov
  rw [pt_o, pt_size hi hq hp]
  omega
theorem pt_by (hi : i * s < m.size) {p q x : Nat} (hq : q ≤ (frOf h m s i i).data.size) (hp : p ≤ q) (hc : cov (ptOf (frOf h m s i i) p q) x) : (ptOf (frOf h m s i i) p q).by x = byt m x := by
  have hc' := (pt_cov hi hq hp).1 hc
  have hz := fr_size (h := h) hi
  have hcf : cov (frOf h m s i i) x := (fr_cov hi).2 (by omega)
  rw [← fr_by hi hcf]
  unfold Bn.by
  rw [pt_o, fr_o]
  have := byt_ext (m := (frOf h m s i i).data) (a := p) (b := q) (p := x - i * s) (by omega) (by omega) hq
  rw [show x - i * s - p = x - (i * s + p) by omega] at this
  exact this
theorem pt_err (hs : 1 ≤ s ∧ s ≤ 1000) (hM : m.size ≤ 20000) (h0 : bE (frOf h m s 0 0) = 0) (hi : i * s < m.size) {p q : Nat} (hq : q ≤ (frOf h m s i i).data.size) (hp : p < q) : bE (ptOf (frOf h m s i i) p q) = 0 := by
  have hb := bok_of (by rw [fr_err h m s i hs hM hi, h0] : bE (frOf h m s i i) = 0)
  have hz := fr_size (h := h) hi
  have hsz := pt_size hi hq (Nat.le_of_lt hp)
  refine bE_0 ?_ hb.f (by omega) (by omega) ?_
  · have := hb.id
    show IdOk h.node h.seq (((i * s : Nat) : Int) + (p : Int))
    have h1 : IdOk h.node h.seq ((i * s : Nat) : Int) := this
    unfold IdOk at h1 ⊢
    omega
  · rw [hsz]
    show ¬ (m.size : Int) < ((i * s : Nat) : Int) + (p : Int) + _
    omega
theorem pt_part (hs : 1 ≤ s ∧ s ≤ 1000) (hM : m.size ≤ 20000) (h0 : bE (frOf h m s 0 0) = 0) (hi : i * s < m.size) {p q : Nat} (hq : q ≤ (frOf h m s i i).data.size) (hp : p < q) :
    partOf (frOf h m s i i) (((i * s : Nat) : Int) + p) (((i * s : Nat) : Int) + q) = (ptOf (frOf h m s i i) p q, 0) := by
  have hb : bE (frOf h m s i i) = 0 := by rw [fr_err h m s i hs hM hi, h0]
  have ho : (frOf h m s i i).off = ((i * s : Nat) : Int) := rfl
  unfold partOf
  rw [hb, if_neg (fun c => c rfl), if_neg (by rw [ho]; omega), ho]
  rw [show (((i * s : Nat) : Int) + p - ((i * s : Nat) : Int)).toNat = p by omega, show (((i * s : Nat) : Int) + q - ((i * s : Nat) : Int)).toNat = q by omega]
  rfl
theorem part_none (hs : 1 ≤ s ∧ s ≤ 1000) (hM : m.size ≤ 20000) (h0 : bE (frOf h m s 0 0) = 0) (hi : i * s < m.size) (f : Int) : partOf (frOf h m s i i) f f = (zBn, 2) := by
  have hb : bE (frOf h m s i i) = 0 := by rw [fr_err h m s i hs hM hi, h0]
  unfold partOf
  rw [hb, if_neg (fun c => c rfl), if_pos (.inr (.inl (by omega)))]
theorem two_cov (hs : 1 ≤ s ∧ s ≤ 1000) (hM : m.size ≤ 20000) (h0 : bE (frOf h m s 0 0) = 0) (hi : i * s < m.size) {r z : Nat} (hz : z = (frOf h m s i i).data.size) (hr : 0 < r) (hrz : r < z) :
    rgsOf [ptOf (frOf h m s i i) r z, ptOf (frOf h m s i i) 0 r] true = ([⟨i * s, i * s + z⟩], 0) := by
  have hsz := fr_size (h := h) hi
  have hp : Pcs m [ptOf (frOf h m s i i) r z, ptOf (frOf h m s i i) 0 r] := by
    refine ⟨by simp, fun k hk => ?_, fun k hk => ?_, fun k hk => ?_, fun k p hk hc => ?_⟩
    · match k, hk with
      | 0, _ => exact pt_err hs hM h0 hi (by omega) hrz
      | 1, _ => exact pt_err hs hM h0 hi (by omega) hr
    · match k, hk with
      | 0, _ => rfl
      | 1, _ => rfl
    · match k, hk with
      | 0, _ => rfl
      | 1, _ => rfl
    · match k, hk, hc with
      | 0, _, hc =>
        have := (pt_cov hi (by omega) (by omega)).1 hc
        exact ⟨by omega, pt_by hi (by omega) (by omega) hc⟩
      | 1, _, hc =>
        have := (pt_cov hi (by omega) (by omega)).1 hc
        exact ⟨by omega, pt_by hi (by omega) (by omega) hc⟩
  rw [hp.rgs, rgs_one _ (i * s) (i * s + z) m.size (by omega) (by omega)]
  intro p hpm
  rw [beq_iff_eq, hp.some_iff p]
  constructor
  · rintro ⟨k, hk, hc⟩
    match k, hk, hc with
    | 0, _, hc => have := (pt_cov hi (by omega) (by omega)).1 hc; omega
    | 1, _, hc => have := (pt_cov hi (by omega) (by omega)).1 hc; omega
  · intro hc
    by_cases d : p < i * s + r
    · exact ⟨1, by simp, (pt_cov hi (by omega) (by omega)).2 (by omega)⟩
    · exact ⟨0, by simp, (pt_cov hi (by omega) (by omega)).2 (by omega)⟩
theorem one_cov (hs : 1 ≤ s ∧ s ≤ 1000) (hM : m.size ≤ 20000) (h0 : bE (frOf h m s 0 0) = 0) (hi : i * s < m.size) {z : Nat} (hz : z = (frOf h m s i i).data.size) :
    rgsOf [frOf h m s i i] true = ([⟨i * s, i * s + z⟩], 0) := by
  have hsz := fr_size (h := h) hi
  have hp : Pcs m [frOf h m s i i] := pcs_of hs hM h0 (by simp) fun k hk => ⟨i, hi, by
    match k, hk with
    | 0, _ => rfl⟩
  rw [hp.rgs, rgs_one _ (i * s) (i * s + z) m.size (by omega) (by omega)]
  intro p hpm
  rw [beq_iff_eq, hp.some_iff p]
  constructor
  · rintro ⟨k, hk, hc⟩
    match k, hk, hc with
    | 0, _, hc => have := (fr_cov hi).1 hc; omega
  · intro hc
    exact ⟨0, by simp, (fr_cov hi).2 (by omega)⟩
theorem two_data (hi : i * s < m.size) {r z : Nat} (hz : z = (frOf h m s i i).data.size) (hrz : r ≤ z) : (frOf h m s i i).data.extract 0 r ++ (frOf h m s i i).data.extract r z = (frOf h m s i i).data := by
  subst hz
  simp [ByteArray.extract_append_extract, Nat.min_eq_left, Nat.max_eq_right, hrz]
end
end Go.Proofs.Ytcifngefclgefaa
