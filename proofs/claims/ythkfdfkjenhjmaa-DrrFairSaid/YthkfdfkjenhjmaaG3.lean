/- Plain words: what the turns gave, what was served. -/
import Derived.Test.YthkfdfkjenhjmaaL
namespace Go.Proofs.Ythkfdfkjenhjmaa
open Go.RowKit
set_option linter.unusedVariables false
set_option linter.unusedSimpArgs false

/-- what k turns behind turn t give, on top of G -/
def gvn (W : List Int) (q : Int) (t : Nat) (G : List Int) : Nat → List Int
  | 0 => G
  | k + 1 => (gvn W q t G k).set ((t + 2 * (k + 1)) % 3) (at0 (gvn W q t G k) ((t + 2 * (k + 1)) % 3) + at0 W ((t + 2 * (k + 1)) % 3) * q)
section
variable {W : List Int} {q : Int} {t : Nat} {G : List Int}
theorem gvn_len (k : Nat) : (gvn W q t G k).length = G.length := by
  induction k with
  | zero => rfl
  | succ k ih => rw [gvn, List.length_set, ih]
theorem gvn_step (hG : G.length = 3) (k : Nat) (p : Nat) : at0 (gvn W q t G (k + 1)) p = at0 (gvn W q t G k) p + if (t + 2 * (k + 1)) % 3 = p then at0 W p * q else 0 := by
  rw [gvn, at0_set (by rw [gvn_len, hG]; omega)]
  split
  · rename_i e; rw [e]
  · rw [Int.add_zero]
theorem wq_b (hw : ∀ x ∈ W, 1 ≤ x ∧ x ≤ 100) (hW : W.length = 3) (h1 : 1 ≤ q) (h2 : q ≤ 300) {p : Nat} (hp : p < 3) : 1 ≤ at0 W p * q ∧ at0 W p * q ≤ 30000 := by
  have bW := hw _ (at0_mem (l := W) (i := p) (by omega))
  have a := Int.mul_le_mul bW.1 h1 (by omega) (by omega)
  have b := Int.mul_le_mul bW.2 h2 (by omega) (by omega)
  omega
theorem gvn_b (hw : ∀ x ∈ W, 1 ≤ x ∧ x ≤ 100) (hW : W.length = 3) (h1 : 1 ≤ q) (h2 : q ≤ 300) (hG : G.length = 3) {B : Int} (hB : ∀ p, p < 3 → 0 ≤ at0 G p ∧ at0 G p ≤ B) (k : Nat) : ∀ p, p < 3 → at0 G p ≤ at0 (gvn W q t G k) p ∧ at0 (gvn W q t G k) p ≤ B + k * 30000 := by
  induction k with
  | zero => intro p hp; have := hB p hp; show at0 G p ≤ at0 G p ∧ at0 G p ≤ _; omega
  | succ k ih =>
    intro p hp
    have h := ih p hp
    have b := wq_b hw hW h1 h2 hp
    rw [gvn_step hG]
    split <;> omega
end
theorem step1_le {W : List Int} {q : Int} {H : List Int} {s : List Int × Nat} (hs : SOk s) (hW : W.length = 3) (hw : ∀ x ∈ W, 1 ≤ x ∧ x ≤ 100) (h1 : 1 ≤ q) {p : Nat} (hp : p < 3) : at0 (step1 W q H s).1 p ≤ at0 s.1 p + if (s.2 + 2) % 3 = p then at0 W p * q else 0 := by
  obtain ⟨a, b, c⟩ := hs
  have hu : (s.2 + 2) % 3 < 3 := Nat.mod_lt _ (by decide)
  have b0 : ∀ x, x < 3 → 0 ≤ at0 s.1 x := fun x hx => (b _ (at0_mem (by omega))).1
  have hD1 : ∀ x, x < 3 → at0 (if at0 H s.2 = 0 then s.1.set s.2 0 else s.1) x ≤ at0 s.1 x := by
    intro x hx
    split
    · rw [at0_set (by omega)]
      split
      · exact b0 x hx
      · exact Int.le_refl _
    · exact Int.le_refl _
  have hl : (if at0 H s.2 = 0 then s.1.set s.2 0 else s.1).length = 3 := by split <;> simp [a]
  have hw1 : 0 ≤ at0 W p * q := by
    have bW := hw _ (at0_mem (l := W) (i := p) (by omega))
    exact Int.mul_nonneg (by omega) (by omega)
  have hx := hD1 p hp
  have h0 := b0 p hp
  obtain ⟨D1, hD⟩ : ∃ D1, D1 = (if at0 H s.2 = 0 then s.1.set s.2 0 else s.1) := ⟨_, rfl⟩
  rw [← hD] at hx hl
  show at0 (List.set (if at0 H s.2 = 0 then s.1.set s.2 0 else s.1) _ (if at0 H ((s.2 + 2) % 3) = 0 then 0 else mn 1099511627776 (at0 (if at0 H s.2 = 0 then s.1.set s.2 0 else s.1) ((s.2 + 2) % 3) + at0 W ((s.2 + 2) % 3) * q))) p ≤ _
  rw [← hD, at0_set (by rw [hl]; exact hu)]
  by_cases e : (s.2 + 2) % 3 = p
  · rw [if_pos e, if_pos e, e]
    split
    · omega
    · unfold mn
      split
      · rename_i h; omega
      · omega
  · rw [if_neg e, if_neg e]; omega
theorem pas_le {W : List Int} {q : Int} {H D G : List Int} {t : Nat} (hs : SOk (D, t)) (hW : W.length = 3) (hw : ∀ x ∈ W, 1 ≤ x ∧ x ≤ 100) (h1 : 1 ≤ q) (h2 : q ≤ 1200) (hG : G.length = 3) {p : Nat} (hp : p < 3) (k : Nat) :
    at0 (pas W q H (D, t) k).1 p - at0 D p ≤ at0 (gvn W q t G k) p - at0 G p := by
  induction k with
  | zero => show at0 D p - at0 D p ≤ at0 G p - at0 G p; omega
  | succ k ih =>
    have hk := pas_ok (H := H) hW hw h1 h2 hs k
    have ht := pas_turn (W := W) (q := q) (H := H) k hs.2.2
    have := step1_le (H := H) hk hW hw h1 hp
    rw [ht] at this
    have e : ((t + 2 * k) % 3 + 2) % 3 = (t + 2 * (k + 1)) % 3 := by omega
    dsimp only at this
    rw [e] at this
    rw [gvn_step hG]
    show at0 (step1 W q H _).1 p - _ ≤ _
    omega

/-- what is known at the head of a round -/
structure GInv (i : Nat) (d : Dr) (G S : List Int) : Prop where
  ok : Ok d
  q3 : d.q ≤ 300
  g3 : G.length = 3
  s3 : S.length = 3
  b : ∀ p, p < 3 → 0 ≤ at0 S p ∧ at0 S p + at0 d.D p ≤ at0 G p ∧ at0 G p ≤ 30000 + (i : Int) * 120000000
theorem three3 {W : List Int} (h : W.length = 3) : ∀ p, p < 3 → at0 W p ∈ W := fun p hp => at0_mem (by omega)
theorem GInv.start {d : Dr} (h : Ok d) (hq : d.q ≤ 300) (hD : d.D = [0, 0, at0 d.W 2 * d.q]) : GInv 0 d d.D [0, 0, 0] := by
  refine ⟨h, hq, h.d3, rfl, fun p hp => ?_⟩
  have b := wq_b h.w h.w3 h.q0 hq (p := 2) (by decide)
  have e : at0 [0, 0, 0] p = 0 := by
    match p, hp with
    | 0, _ => rfl
    | 1, _ => rfl
    | 2, _ => rfl
  have e2 : at0 d.D p ≤ 30000 := by
    rw [hD]
    match p, hp with
    | 0, _ => show (0 : Int) ≤ 30000; decide
    | 1, _ => show (0 : Int) ≤ 30000; decide
    | 2, _ => exact b.2
  rw [e]
  omega
section
variable {i : Nat} {d : Dr} {G S H : List Int} {E1 : List Int} {pn : Nat}
theorem srv_is (hE : ends d H = (E1, pn)) : srv d H = ⟨d.W, d.q, E1.set pn (at0 E1 pn - at0 H pn), (pn : Int)⟩ := by unfold srv; rw [hE]; rfl
theorem nxt_is (h : Ok d) (hh : HOk H) (hE : ends d H = (E1, pn)) : nxt d H = ((pn : Int), srv d H, 0) := by
  have hl : lnE d H = 0 := by unfold lnE; rw [chk_ok h, if_neg (by decide), hdE_ok hh]
  unfold nxt
  rw [if_neg (fun e => e hl), srv_is hE, hE]; rfl
theorem trn_is (h : Ok d) (hh : HOk H) : trn d H = ((turns d H : Int), 0) := by
  have hl : lnE d H = 0 := by unfold lnE; rw [chk_ok h, if_neg (by decide), hdE_ok hh]
  unfold trn
  rw [if_neg (fun e => e hl)]
theorem ends_turn (h : Ok d) (hE : ends d H = (E1, pn)) : (d.t.toNat + 2 * turns d H) % 3 = pn := by
  have := pas_turn (W := d.W) (q := d.q) (H := H) (s := (d.D, d.t.toNat)) (turns d H) (ok_sok h).2.2
  unfold ends at hE
  rw [hE] at this
  exact this.symm
/-- what is known after the round -/
theorem GInv.next (h : GInv i d G S) (hh : HOk H) (hE : ends d H = (E1, pn)) (hi : i < 40) :
    (∀ p, p < 3 → at0 (S.set pn (at0 S pn + at0 H pn)) p + at0 (srv d H).D p ≤ at0 (gvn d.W d.q d.t.toNat G (turns d H)) p) ∧ GInv (i + 1) (srv d H) (gvn d.W d.q d.t.toNat G (turns d H)) (S.set pn (at0 S pn + at0 H pn)) := by
  have hs := ok_sok h.ok
  obtain ⟨ht, hv⟩ := turns_serve h.ok hh
  obtain ⟨⟨e1, e2, e3⟩, st⟩ := ends_ok h.ok hh
  rw [hE] at e1 e2 e3 st
  dsimp only at e1 e2 e3
  have hle : ∀ p, p < 3 → at0 E1 p - at0 d.D p ≤ at0 (gvn d.W d.q d.t.toNat G (turns d H)) p - at0 G p := fun p hp => by
    have := pas_le (H := H) (G := G) hs h.ok.w3 h.ok.w h.ok.q0 h.ok.q1 h.g3 hp (turns d H)
    unfold ends at hE
    rw [hE] at this
    exact this
  have hsum : ∀ p, p < 3 → at0 (S.set pn (at0 S pn + at0 H pn)) p + at0 (srv d H).D p ≤ at0 (gvn d.W d.q d.t.toNat G (turns d H)) p := fun p hp => by
    have a := h.b p hp
    have b := hle p hp
    rw [srv_is hE]
    dsimp only
    rw [at0_set (by rw [h.s3]; exact e3), at0_set (by rw [e1]; exact e3)]
    by_cases e : pn = p
    · subst e; rw [if_pos rfl, if_pos rfl]; omega
    · rw [if_neg e, if_neg e]; omega
  refine ⟨hsum, srv_ok h.ok hh, by rw [srv_is hE]; exact h.q3, by rw [gvn_len]; exact h.g3, by rw [List.length_set]; exact h.s3, fun p hp => ⟨?_, hsum p hp, ?_⟩⟩
  · have a := h.b p hp
    have hb := hh.b _ (at0_mem (l := H) (i := pn) (by rw [hh.l3]; exact e3))
    rw [at0_set (by rw [h.s3]; exact e3)]
    split
    · rename_i e; subst e; omega
    · exact a.1
  · have := (gvn_b (t := d.t.toNat) h.ok.w h.ok.w3 h.ok.q0 h.q3 h.g3 (B := 30000 + (i : Int) * 120000000) (fun p hp => ⟨by have a := h.b p hp; have c := h.ok.dd _ (at0_mem (l := d.D) (i := p) (by rw [h.ok.d3]; exact hp)); omega, (h.b p hp).2.2⟩) (turns d H) p hp).2
    rw [Int.natCast_add]
    omega
end
end Go.Proofs.Ythkfdfkjenhjmaa
