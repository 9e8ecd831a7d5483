/- Plain words: a priority without wants does not matter for the others. -/
import Derived.Test.YthkfdfkjenhjmaaN
namespace Go.Proofs.Ythkfdfkjenhjmaa
open Go.RowKit
set_option linter.unusedVariables false
set_option linter.unusedSimpArgs false

/-- lists that agree but at one place -/
def Agr (r : Nat) (a b : List Int) : Prop := a.length = 3 ∧ b.length = 3 ∧ ∀ p, p < 3 → p ≠ r → at0 a p = at0 b p
theorem Agr.set {r : Nat} {a b : List Int} (h : Agr r a b) (i : Nat) {x y : Int} (hxy : i ≠ r → x = y) : Agr r (a.set i x) (b.set i y) := by
  refine ⟨by rw [List.length_set]; exact h.1, by rw [List.length_set]; exact h.2.1, fun p hp hr => ?_⟩
  by_cases hi : i < 3
  · rw [at0_set (by rw [h.1]; exact hi), at0_set (by rw [h.2.1]; exact hi)]
    by_cases e : i = p
    · rw [if_pos e, if_pos e]; exact hxy (by omega)
    · rw [if_neg e, if_neg e]; exact h.2.2 p hp hr
  · rw [List.set_eq_of_length_le (by rw [h.1]; omega), List.set_eq_of_length_le (by rw [h.2.1]; omega)]
    exact h.2.2 p hp hr
section
variable {r : Nat} {W W' : List Int} {q : Int} {H : List Int} {s s' : List Int × Nat}
theorem agr_step (hW : Agr r W W') (hz : at0 H r = 0) (h : Agr r s.1 s'.1) (ht : s.2 = s'.2) : Agr r (step1 W q H s).1 (step1 W' q H s').1 ∧ (step1 W q H s).2 = (step1 W' q H s').2 := by
  refine ⟨?_, by rw [step1_turn, step1_turn, ht]⟩
  have hD : Agr r (if at0 H s.2 = 0 then s.1.set s.2 0 else s.1) (if at0 H s'.2 = 0 then s'.1.set s'.2 0 else s'.1) := by
    rw [← ht]
    split
    · exact h.set _ (fun _ => rfl)
    · exact h
  show Agr r (List.set (if at0 H s.2 = 0 then s.1.set s.2 0 else s.1) ((s.2 + 2) % 3) (if at0 H ((s.2 + 2) % 3) = 0 then 0 else mn 1099511627776 (at0 (if at0 H s.2 = 0 then s.1.set s.2 0 else s.1) ((s.2 + 2) % 3) + at0 W ((s.2 + 2) % 3) * q)))
    (List.set (if at0 H s'.2 = 0 then s'.1.set s'.2 0 else s'.1) ((s'.2 + 2) % 3) (if at0 H ((s'.2 + 2) % 3) = 0 then 0 else mn 1099511627776 (at0 (if at0 H s'.2 = 0 then s'.1.set s'.2 0 else s'.1) ((s'.2 + 2) % 3) + at0 W' ((s'.2 + 2) % 3) * q)))
  generalize (if at0 H s.2 = 0 then s.1.set s.2 0 else s.1) = X at hD ⊢
  generalize (if at0 H s'.2 = 0 then s'.1.set s'.2 0 else s'.1) = Y at hD ⊢
  rw [← ht]
  refine hD.set _ fun hr => ?_
  have hu : (s.2 + 2) % 3 < 3 := Nat.mod_lt _ (by decide)
  rw [hD.2.2 _ hu hr, hW.2.2 _ hu hr]
theorem agr_pas (hW : Agr r W W') (hz : at0 H r = 0) (h : Agr r s.1 s'.1) (ht : s.2 = s'.2) (k : Nat) : Agr r (pas W q H s k).1 (pas W' q H s' k).1 ∧ (pas W q H s k).2 = (pas W' q H s' k).2 := by
  induction k with
  | zero => exact ⟨h, ht⟩
  | succ k ih => exact agr_step hW hz ih.1 ih.2
theorem agr_stops (hz : at0 H r = 0) (h : Agr r s.1 s'.1) (ht : s.2 = s'.2) (h3 : s.2 < 3) : stops H s ↔ stops H s' := by
  unfold stops
  rw [← ht]
  by_cases e : s.2 = r
  · rw [e, hz]; simp
  · rw [h.2.2 _ h3 e]
end
/-- states that agree but in one priority's weight and deficit -/
structure Sim (r : Nat) (d x : Dr) : Prop where
  w : Agr r d.W x.W
  q : d.q = x.q
  t : d.t = x.t
  dd : Agr r d.D x.D
section
variable {r : Nat} {d x : Dr} {H : List Int}
theorem Sim.turns (h : Sim r d x) (hd : Ok d) (hz : at0 H r = 0) : Proofs.Ythkfdfkjenhjmaa.turns d H = Proofs.Ythkfdfkjenhjmaa.turns x H := by
  unfold Proofs.Ythkfdfkjenhjmaa.turns
  have ht3 : d.t.toNat < 3 := (ok_sok hd).2.2
  have hp := fun k => agr_pas (q := d.q) (H := H) (s := (d.D, d.t.toNat)) (s' := (x.D, x.t.toNat)) h.w hz h.dd (by show d.t.toNat = _; rw [h.t]) k
  have hs : ∀ k, stops H (pas d.W d.q H (d.D, d.t.toNat) k) ↔ stops H (pas x.W d.q H (x.D, x.t.toNat) k) := fun k => agr_stops hz (hp k).1 (hp k).2 (by rw [pas_turn k ht3]; omega)
  rw [← h.q]
  generalize 3603 = f
  generalize 0 = k
  induction f generalizing k with
  | zero => rfl
  | succ f ih =>
    rw [firstStop, firstStop]
    by_cases c : stops H (pas d.W d.q H (d.D, d.t.toNat) k)
    · rw [if_pos c, if_pos ((hs k).1 c)]
    · rw [if_neg c, if_neg (fun e => c ((hs k).2 e))]
      exact ih (k + 1)
theorem Sim.ends (h : Sim r d x) (hd : Ok d) (hz : at0 H r = 0) : Agr r (Proofs.Ythkfdfkjenhjmaa.ends d H).1 (Proofs.Ythkfdfkjenhjmaa.ends x H).1 ∧ (Proofs.Ythkfdfkjenhjmaa.ends d H).2 = (Proofs.Ythkfdfkjenhjmaa.ends x H).2 := by
  unfold Proofs.Ythkfdfkjenhjmaa.ends
  rw [← h.turns hd hz, ← h.q]
  exact agr_pas (q := d.q) (H := H) (s := (d.D, d.t.toNat)) (s' := (x.D, x.t.toNat)) h.w hz h.dd (by show d.t.toNat = _; rw [h.t]) _
theorem Sim.srv (h : Sim r d x) (hd : Ok d) (hz : at0 H r = 0) : Sim r (Proofs.Ythkfdfkjenhjmaa.srv d H) (Proofs.Ythkfdfkjenhjmaa.srv x H) := by
  obtain ⟨a, b⟩ := h.ends hd hz
  refine ⟨h.w, h.q, ?_, ?_⟩
  rotate_left
  · show Agr r (List.set _ _ _) (List.set _ _ _)
    rw [← b]
    have h3 : (Proofs.Ythkfdfkjenhjmaa.ends d H).2 < 3 ∨ ¬ (Proofs.Ythkfdfkjenhjmaa.ends d H).2 < 3 := by omega
    refine a.set _ fun hr => ?_
    rcases h3 with h3 | h3
    · rw [a.2.2 _ h3 hr]
    · have e : ∀ l : List Int, l.length = 3 → at0 l (Proofs.Ythkfdfkjenhjmaa.ends d H).2 = 0 := fun l hl => by
        unfold at0
        rw [List.getD_eq_getElem?_getD, List.getElem?_eq_none (by omega)]; rfl
      rw [e _ a.1, e _ a.2.1]
  · show ((Proofs.Ythkfdfkjenhjmaa.ends d H).2 : Int) = ((Proofs.Ythkfdfkjenhjmaa.ends x H).2 : Int)
    rw [b]
end
theorem Sim.ordL {r : Nat} (hr : r < 3) (l : List Wt) (f : Nat) : ∀ (d x : Dr) (Q : Nat → List Nat) (b : Int), Sim r d x → Ok d → Ok x → QOk l Q → Q r = [] → (Proofs.Ythkfdfkjenhjmaa.ordL l f d Q b).1 = (Proofs.Ythkfdfkjenhjmaa.ordL l f x Q b).1 ∧ Sim r (Proofs.Ythkfdfkjenhjmaa.ordL l f d Q b).2 (Proofs.Ythkfdfkjenhjmaa.ordL l f x Q b).2 := by
  induction f with
  | zero => intro d x Q b h _ _ _ _; exact ⟨rfl, h⟩
  | succ f ih =>
    intro d x Q b h hd hx hq hQ
    by_cases hz : hds l Q = [0, 0, 0]
    · rw [ordL_zero hz, ordL_zero hz]; exact ⟨rfl, h⟩
    · have h0 : at0 (hds l Q) r = 0 := by rw [hds_at hr, hQ]; rfl
      obtain ⟨hp, i, rr, hi⟩ := served_some hd hq hz
      obtain ⟨a, e⟩ := h.ends hd h0
      by_cases hb : b < at0 (hds l Q) (Proofs.Ythkfdfkjenhjmaa.ends d (hds l Q)).2
      · rw [ordL_stop hb, ordL_stop (by rw [← e]; exact hb)]; exact ⟨rfl, h⟩
      · have hne : (Proofs.Ythkfdfkjenhjmaa.ends d (hds l Q)).2 ≠ r := fun c => by rw [c, hQ] at hi; cases hi
        have := ih (Proofs.Ythkfdfkjenhjmaa.srv d (hds l Q)) (Proofs.Ythkfdfkjenhjmaa.srv x (hds l Q)) (pop Q (Proofs.Ythkfdfkjenhjmaa.ends d (hds l Q)).2) (b - at0 (hds l Q) (Proofs.Ythkfdfkjenhjmaa.ends d (hds l Q)).2) (h.srv hd h0) (srv_ok hd (hds_hok hq hz)) (srv_ok hx (hds_hok hq hz)) (hq.pop _) (by unfold pop; rw [if_neg (fun c => hne c.symm)]; exact hQ)
        rw [ordL_go hz hb f hi, ordL_go hz (by rw [← e]; exact hb) f (by rw [← e]; exact hi), ← e]
        exact ⟨by rw [this.1], this.2⟩
theorem absent {r : Nat} (hr : r < 3) {l : List Wt} {d x : Dr} (h : Sim r d x) (hd : Ok d) (hx : Ok x) (hl : l.any wtBad = false) (hn : ∀ w ∈ l, w.p ≠ r) :
    ∃ A y z, ord d l 1073741824 = (A, y, 0) ∧ ord x l 1073741824 = (A, z, 0) ∧ Sim r y z := by
  have hQ : que l l.length r = [] := by
    unfold que
    rw [List.filter_eq_nil_iff]
    intro i hi
    have hi := List.mem_range.1 hi
    have : wtAt l i ∈ l := by unfold wtAt; rw [List.getD_eq_getElem?_getD, List.getElem?_eq_getElem hi]; exact List.getElem_mem hi
    have := hn _ this
    simpa using this
  obtain ⟨a, b⟩ := Sim.ordL hr l l.length d x (que l l.length) 1073741824 h hd hx (que_ok hl) hQ
  refine ⟨(Proofs.Ythkfdfkjenhjmaa.ordL l l.length d (que l l.length) 1073741824).1, _, _, ?_, ?_, b⟩
  · unfold ord; rw [ordE_ok (chk_ok hd) hl (by decide), if_neg (by decide)]
  · unfold ord; rw [ordE_ok (chk_ok hx) hl (by decide), if_neg (by decide), a]
end Go.Proofs.Ythkfdfkjenhjmaa
