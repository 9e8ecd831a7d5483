/- Plain words: who always has heads is served by weight. -/
import Derived.Test.YthkfdfkjenhjmaaG3
namespace Go.Proofs.Ythkfdfkjenhjmaa
open Go.RowKit
set_option linter.unusedVariables false
set_option linter.unusedSimpArgs false

/-- how often a priority had its turn when the turn passed K times -/
def gts (K p : Nat) : Nat := (K + 1 + p) / 3
/-- what is known while the turn passes -/
structure FI (K : Nat) (W : List Int) (q : Int) (S : List Int) (s : List Int × Nat) : Prop where
  t : s.2 = (2 + 2 * K) % 3
  l : s.1.length = 3
  e : ∀ p, p < 3 → at0 S p + at0 s.1 p = (gts K p : Int) * (at0 W p * q)
  b0 : ∀ p, p < 3 → 0 ≤ at0 s.1 p
  b1 : ∀ p, p < 3 → p ≠ s.2 → at0 s.1 p < 1200
  b2 : ∀ p, p < 3 → at0 s.1 p < 1200 + at0 W p * q
section
variable {K : Nat} {W : List Int} {q : Int} {S H : List Int} {s : List Int × Nat}
theorem FI.sok (h : FI K W q S s) (hw : ∀ x ∈ W, 1 ≤ x ∧ x ≤ 100) (hW : W.length = 3) (h1 : 1 ≤ q) (h2 : q ≤ 300) : SOk s := by
  refine ⟨h.l, fun x hx => ?_, by rw [h.t]; omega⟩
  obtain ⟨i, hi, rfl⟩ := List.getElem_of_mem hx
  have hl := h.l
  have e : s.1[i] = at0 s.1 i := by unfold at0; rw [List.getD_eq_getElem?_getD, List.getElem?_eq_getElem hi]; rfl
  rw [e]
  have b := wq_b hw hW h1 h2 (p := i) (by omega)
  have := h.b2 i (by omega)
  have := h.b0 i (by omega)
  omega
theorem FI.step (h : FI K W q S s) (hw : ∀ x ∈ W, 1 ≤ x ∧ x ≤ 100) (hW : W.length = 3) (h1 : 1 ≤ q) (h2 : q ≤ 300) (hH : ∀ p, p < 3 → 1 ≤ at0 H p ∧ at0 H p ≤ 1200) (hn : ¬ stops H s) : FI (K + 1) W q S (step1 W q H s) := by
  have hs := h.sok hw hW h1 h2
  have ht := h.t
  have hu : (s.2 + 2) % 3 < 3 := Nat.mod_lt _ (by decide)
  have hz : ∀ p, p < 3 → at0 H p ≠ 0 := fun p hp => by have := hH p hp; omega
  have hlt : at0 s.1 s.2 < 1200 := by
    have a := hH s.2 hs.2.2
    rcases Int.lt_or_le (at0 s.1 s.2) (at0 H s.2) with c | c
    · omega
    · exact absurd ⟨hz _ hs.2.2, c⟩ hn
  have hall : ∀ p, p < 3 → at0 s.1 p < 1200 := fun p hp => by
    by_cases e : p = s.2
    · subst e; exact hlt
    · exact h.b1 p hp e
  have hv : ∀ p, p < 3 → at0 (step1 W q H s).1 p = at0 s.1 p + if p = (s.2 + 2) % 3 then at0 W p * q else 0 := fun p hp => by
    by_cases e : p = (s.2 + 2) % 3
    · rw [step1_mine hs e (hz p hp), if_pos e]
      have := hall p hp
      have := wq_b hw hW h1 h2 hp
      unfold mn
      rw [if_neg (by omega)]
    · rw [step1_other hs e (hz p hp), if_neg e, Int.add_zero]
  have hwq : ∀ p, p < 3 → 1 ≤ at0 W p * q ∧ at0 W p * q ≤ 30000 := fun p hp => wq_b hw hW h1 h2 hp
  refine ⟨?_, ?_, fun p hp => ?_, fun p hp => ?_, fun p hp hne => ?_, fun p hp => ?_⟩
  · rw [step1_turn, ht]; omega
  · exact (step1_ok hW hw h1 (by omega) hs).1
  · rw [hv p hp, ← Int.add_assoc, h.e p hp]
    by_cases e : p = (s.2 + 2) % 3
    · rw [if_pos e]
      have : gts (K + 1) p = gts K p + 1 := by unfold gts; rw [ht] at e; omega
      rw [this, Int.natCast_add, Int.add_mul]
      show _ = _ + 1 * _
      rw [Int.one_mul]
    · rw [if_neg e]
      have : gts (K + 1) p = gts K p := by unfold gts; rw [ht] at e; omega
      rw [this, Int.add_zero]
  · rw [hv p hp]
    have := h.b0 p hp
    have := hwq p hp
    split <;> omega
  · rw [step1_turn] at hne
    rw [hv p hp, if_neg hne, Int.add_zero]
    exact hall p hp
  · rw [hv p hp]
    have := hall p hp
    have := hwq p hp
    split <;> omega
theorem FI.pas (h : FI K W q S s) (hw : ∀ x ∈ W, 1 ≤ x ∧ x ≤ 100) (hW : W.length = 3) (h1 : 1 ≤ q) (h2 : q ≤ 300) (hH : ∀ p, p < 3 → 1 ≤ at0 H p ∧ at0 H p ≤ 1200) (n : Nat) (hn : ∀ k, k < n → ¬ stops H (pas W q H s k)) : FI (K + n) W q S (pas W q H s n) := by
  induction n with
  | zero => exact h
  | succ n ih => exact (ih (fun k hk => hn k (by omega))).step hw hW h1 h2 hH (hn n (by omega))
end
/-- what is known at the head of a round -/
structure FInv (i : Nat) (d : Dr) (H S : List Int) : Prop where
  ok : Ok d
  q3 : d.q ≤ 300
  h3 : H.length = 3
  s3 : S.length = 3
  hb : ∀ p, p < 3 → 1 ≤ at0 H p ∧ at0 H p ≤ 1200
  sb : ∀ p, p < 3 → 0 ≤ at0 S p ∧ at0 S p ≤ i * 1200
  r : ∃ K, FI K d.W d.q S (d.D, d.t.toNat)
section
variable {i : Nat} {d : Dr} {H S E1 : List Int} {pn : Nat}
theorem FInv.hok (h : FInv i d H S) : HOk H := by
  refine ⟨h.h3, fun x hx => ?_, 0, by decide, by have := h.hb 0 (by decide); omega⟩
  obtain ⟨i, hi, rfl⟩ := List.getElem_of_mem hx
  have hl := h.h3
  have e : H[i] = at0 H i := by unfold at0; rw [List.getD_eq_getElem?_getD, List.getElem?_eq_getElem hi]; rfl
  rw [e]
  have := h.hb i (by omega)
  omega
theorem FInv.start (h : Ok d) (hq : d.q ≤ 300) (hD : d.D = [0, 0, at0 d.W 2 * d.q]) (ht : d.t = 2) : FInv 0 d [100, 100, 100] [0, 0, 0] := by
  have e0 : ∀ p, p < 3 → at0 [0, 0, 0] p = 0 := fun p hp => by
    match p, hp with
    | 0, _ => rfl
    | 1, _ => rfl
    | 2, _ => rfl
  have hwq : ∀ p, p < 3 → 1 ≤ at0 d.W p * d.q ∧ at0 d.W p * d.q ≤ 30000 := fun p hp => wq_b h.w h.w3 h.q0 hq hp
  refine ⟨h, hq, rfl, rfl, fun p hp => ?_, fun p hp => ?_, 0, ?_, h.d3, fun p hp => ?_, fun p hp => ?_, fun p hp hne => ?_, fun p hp => ?_⟩
  · match p, hp with
    | 0, _ => exact ⟨by decide, by decide⟩
    | 1, _ => exact ⟨by decide, by decide⟩
    | 2, _ => exact ⟨by decide, by decide⟩
  · rw [e0 p hp]; exact ⟨by decide, by simp⟩
  · rw [ht]; rfl
  · rw [e0 p hp, hD]
    match p, hp with
    | 0, _ => show (0 : Int) + 0 = ((0 : Nat) : Int) * _; simp
    | 1, _ => show (0 : Int) + 0 = ((0 : Nat) : Int) * _; simp
    | 2, _ => show (0 : Int) + (at0 d.W 2 * d.q) = ((1 : Nat) : Int) * _; simp
  · show 0 ≤ at0 d.D p
    rw [hD]
    have := hwq 2 (by decide)
    match p, hp with
    | 0, _ => exact Int.le_refl 0
    | 1, _ => exact Int.le_refl 0
    | 2, _ => show 0 ≤ at0 d.W 2 * d.q; omega
  · show at0 d.D p < 1200
    have hne' : p ≠ d.t.toNat := hne
    rw [ht] at hne'
    rw [hD]
    match p, hp, hne' with
    | 0, _, _ => show (0 : Int) < 1200; decide
    | 1, _, _ => show (0 : Int) < 1200; decide
    | 2, _, c => exact absurd rfl c
  · show at0 d.D p < _
    have := hwq p hp
    rw [hD]
    match p, hp with
    | 0, _ => show (0 : Int) < _; omega
    | 1, _ => show (0 : Int) < _; omega
    | 2, _ => show at0 d.W 2 * d.q < 1200 + at0 d.W 2 * d.q; omega
theorem FInv.next (h : FInv i d H S) (hE : ends d H = (E1, pn)) (y : Int) (hy : 1 ≤ y ∧ y ≤ 1200) : FInv (i + 1) (srv d H) (H.set pn y) (S.set pn (at0 S pn + at0 H pn)) := by
  have hh := h.hok
  have hs := ok_sok h.ok
  obtain ⟨ht, hv⟩ := turns_serve h.ok hh
  obtain ⟨⟨e1, e2, e3⟩, st⟩ := ends_ok h.ok hh
  rw [hE] at e1 e2 e3 st
  dsimp only at e1 e2 e3
  obtain ⟨K, hK⟩ := h.r
  have hF := hK.pas h.ok.w h.ok.w3 h.ok.q0 h.q3 h.hb (turns d H) hv.2
  have hEE : pas d.W d.q H (d.D, d.t.toNat) (turns d H) = (E1, pn) := hE
  rw [hEE] at hF
  have sl := h.s3
  have hl := h.h3
  have hp := h.hb pn e3
  have hs' := h.sb pn e3
  have hst := st.2
  refine ⟨srv_ok h.ok hh, by rw [srv_is hE]; exact h.q3, by rw [List.length_set]; exact hl, by rw [List.length_set]; exact sl, fun p hp => ?_, fun p hp => ?_, K + turns d H, ?_⟩
  · rw [at0_set (by omega)]
    split
    · exact hy
    · exact h.hb p hp
  · rw [at0_set (by omega)]
    have := h.sb p hp
    rw [Int.natCast_add]
    split <;> omega
  · rw [srv_is hE]
    refine ⟨hF.t, by show (List.set _ _ _).length = 3; rw [List.length_set]; exact e1, fun p hp => ?_, fun p hp => ?_, fun p hp hne => ?_, fun p hp => ?_⟩
    · have := hF.e p hp
      show at0 (S.set pn _) p + at0 (E1.set pn _) p = _
      rw [at0_set (by omega), at0_set (by omega)]
      dsimp only at this
      split
      · rename_i e; subst e; rw [← this]; omega
      · exact this
    · show 0 ≤ at0 (E1.set pn _) p
      rw [at0_set (by omega)]
      have := hF.b0 p hp
      dsimp only at this hst
      split
      · omega
      · exact this
    · show at0 (E1.set pn _) p < 1200
      have hne' : p ≠ pn := hne
      rw [at0_set (by omega), if_neg (fun e => hne' e.symm)]
      exact hF.b1 p hp hne'
    · show at0 (E1.set pn _) p < 1200 + at0 d.W p * d.q
      rw [at0_set (by omega)]
      have := hF.b2 p hp
      dsimp only at this hst
      split
      · rename_i e; subst e; omega
      · exact this
theorem fair_alg {Sa Sb a b q ga gb Da Db : Int} (h1 : Sa + Da = ga * (a * q)) (h2 : Sb + Db = gb * (b * q)) (hg : ga - gb ≤ 1) (ha : 1 ≤ a) (hb : 1 ≤ b) (hq : 1 ≤ q) (hDa : 0 ≤ Da) (hDb : Db < 1200 + b * q) {m : Int} (hm : a ≤ m) : Sa * b - Sb * a ≤ 2 * q * a * b + 1200 * m := by
  have e1 : Sa = ga * (a * q) - Da := by omega
  have e2 : Sb = gb * (b * q) - Db := by omega
  have x1 : 0 ≤ Da * b := Int.mul_nonneg hDa (by omega)
  have x2 : Db * a ≤ (1200 + b * q) * a := Int.mul_le_mul_of_nonneg_right (by omega) (by omega)
  have x3 : 0 ≤ a * b * q := Int.mul_nonneg (Int.mul_nonneg (by omega) (by omega)) (by omega)
  have x4 : (ga - gb) * (a * b * q) ≤ 1 * (a * b * q) := Int.mul_le_mul_of_nonneg_right hg x3
  have e3 : Sa * b - Sb * a = (ga - gb) * (a * b * q) - Da * b + Db * a := by rw [e1, e2]; grind
  have e4 : (1200 + b * q) * a = 1200 * a + a * b * q := by grind
  have e5 : 2 * q * a * b = 2 * (a * b * q) := by grind
  rw [e3, e5]
  rw [e4] at x2
  omega
/-- the bound -/
theorem FInv.fair (h : FInv i d H S) {a b : Nat} (ha : a < 3) (hb : b < 3) {m : Int} (hm : at0 d.W a ≤ m) : at0 S a * at0 d.W b - at0 S b * at0 d.W a ≤ 2 * d.q * at0 d.W a * at0 d.W b + 1200 * m := by
  obtain ⟨K, hK⟩ := h.r
  have wa := h.ok.w _ (at0_mem (l := d.W) (i := a) (by rw [h.ok.w3]; exact ha))
  have wb := h.ok.w _ (at0_mem (l := d.W) (i := b) (by rw [h.ok.w3]; exact hb))
  have hg : (gts K a : Int) - gts K b ≤ 1 := by unfold gts; omega
  exact fair_alg (hK.e a ha) (hK.e b hb) hg wa.1 wb.1 h.ok.q0 (hK.b0 a ha) (hK.b2 b hb) hm
end
end Go.Proofs.Ythkfdfkjenhjmaa
