/- Plain: whether the credit inequality holds. The plain law of the pair's acts; no program in sight. -/
import Derived.Test.YtfgkkflbpfocjaaZc15
import Derived.Test.YtfgkkflbpfocjaaZc41
namespace Go.Proofs.Ytfgkkflbpfocjaa
set_option linter.unusedVariables false
set_option linter.unusedSimpArgs false

def slAtI (l : List Sl) (k : Nat) : Sl := l.getD k ⟨0, 0, 0, 0, 0⟩
theorem slAtI_get {l : List Sl} {i : Nat} (h : i < l.length) : l[i]? = some (slAtI l i) := by
  unfold slAtI
  rw [List.getD_eq_getElem?_getD, List.getElem?_eq_getElem h]; rfl
theorem slAtI_mem {l : List Sl} {i : Nat} (h : i < l.length) : slAtI l i ∈ l := List.mem_of_getElem? (slAtI_get h)
def tOf (r : Rec) (x : Sl) : Int := if cntB r x = true then x.size else 0
/-- what counts of the first k slots -/
def oSum (r : Rec) (l : List Sl) : Nat → Int
  | 0 => 0
  | k + 1 => oSum r l k + tOf r (slAtI l k)
theorem oSum_cons (r : Rec) (x : Sl) (l : List Sl) : ∀ k, oSum r (x :: l) (k + 1) = tOf r x + oSum r l k
  | 0 => by simp [oSum, slAtI]
  | k + 1 => by
    rw [oSum, oSum_cons r x l k, oSum]
    have : slAtI (x :: l) (k + 1) = slAtI l k := rfl
    rw [this]; omega
theorem oSum_all (r : Rec) : ∀ l : List Sl, oSum r l l.length = opn' r l
  | [] => rfl
  | x :: l => by rw [List.length_cons, oSum_cons, oSum_all r l]; rfl
def szSum : List Sl → Int
  | [] => 0
  | x :: l => x.size + szSum l
theorem szSum_le {n : Int} : ∀ (l done : List Sl) (e : Int), e ≤ n → Good n done e l → e + szSum l ≤ n
  | [], _, e, h, _ => by simp only [szSum]; omega
  | x :: l, done, e, h, hg => by
    obtain ⟨h1, h2⟩ := hg
    obtain ⟨_, _, h3, h4, h5, _⟩ := slotE_zero.1 h1
    have := szSum_le l _ (x.off + x.size) (by omega) h2
    simp only [szSum]
    omega
theorem opn_le (r : Rec) : ∀ l : List Sl, (∀ x ∈ l, 0 ≤ x.size) → 0 ≤ opn' r l ∧ opn' r l ≤ szSum l
  | [], _ => ⟨Int.le_refl _, Int.le_refl _⟩
  | x :: l, h => by
    obtain ⟨h1, h2⟩ := opn_le r l (fun y hy => h y (List.mem_cons_of_mem _ hy))
    have := h x (List.mem_cons_self ..)
    unfold opn' szSum
    split <;> omega
theorem oSum_mono {r : Rec} {l : List Sl} (h : ∀ x ∈ l, 0 ≤ x.size) {j : Nat} : ∀ k, j ≤ k → k ≤ l.length → oSum r l j ≤ oSum r l k
  | 0, hj, _ => by obtain rfl : j = 0 := by omega
                   exact Int.le_refl _
  | k + 1, hj, hk => by
    by_cases e : j = k + 1
    · subst e; exact Int.le_refl _
    · have := oSum_mono (r := r) (j := j) h k (by omega) (by omega)
      have hx := h (slAtI l k) (slAtI_mem (by omega))
      rw [oSum]; unfold tOf
      split <;> omega
theorem oSum_b {s : Led} {r : Rec} (hs : okL s) (hw : Wf s) {k : Nat} (hk : k ≤ s.sl.length) : 0 ≤ oSum r s.sl k ∧ oSum r s.sl k ≤ s.n := by
  have hp : ∀ x ∈ s.sl, 0 ≤ x.size := fun x hx => (hw.2.2.2 x hx).2.1.1
  have h1 := oSum_mono (r := r) hp k (Nat.zero_le k) hk
  have h2 := oSum_mono (r := r) hp s.sl.length hk (Nat.le_refl _)
  rw [oSum_all] at h2
  obtain ⟨_, h3⟩ := opn_le r s.sl hp
  have h4 := szSum_le s.sl [] 0 hw.2.1.1 ((okL_iff s).1 hs).2.2.2.2
  have : oSum r s.sl 0 = 0 := rfl
  omega
theorem good_pos {n : Int} : ∀ (l done : List Sl) (e : Int), Good n done e l → ∀ x ∈ l, x.size ≠ 0
  | [], _, _, _, _, h => by cases h
  | y :: l, done, e, hg, x, hx => by
    obtain ⟨h1, h2⟩ := hg
    rcases List.mem_cons.1 hx with rfl | hx
    · exact (slotE_zero.1 h1).1
    · exact good_pos l _ _ h2 x hx
theorem okL_pos {s : Led} (hs : okL s) : ∀ x ∈ s.sl, x.size ≠ 0 := good_pos _ _ _ ((okL_iff s).1 hs).2.2.2.2
/-- a state asked of a valid receiver for some bytes has no other error than that there is no such credit -/
theorem stE_err {r : Rec} (h : okR r) {off size : Int} (hs : size ≠ 0) : (stE r off size).2 = 0 ∨ (stE r off size).2 = 14 := by
  unfold stE
  rw [if_neg (by unfold okR at h; omega), if_neg hs]
  split
  · exact .inr rfl
  · exact .inl rfl

/-- whether the inequality holds, or which error -/
def holdE (s : Pr) (bs : Int) (r : Pr) (br : Int) : Bool × Int :=
  if chkP s ≠ 0 then (false, chkP s) else if chkP r ≠ 0 then (false, chkP r) else if ¬ bootOk bs then (false, 2) else if ¬ bootOk br then (false, 2)
  else if s.theirs = br ∧ r.theirs = bs then (decide (usab s.s + opn' r.r s.s.sl ≤ heldP r), 0) else if s.theirs < br ∧ r.theirs = bs ∧ r.sure = false then (decide (usab s.s ≤ heldP r), 0) else (true, 0)
end Go.Proofs.Ytfgkkflbpfocjaa

namespace Go.Proofs.Ytfgkkflbpfocjaa
set_option linter.unusedVariables false
set_option linter.unusedSimpArgs false

section
variable {i st : Int} {su : Bool} {ss : Led} {rt : Int} {ru : Bool} {ro : Int} {rr : Rec} {bs br : Int} {way : List Fr}
theorem offer_ok {s : Led} (hk : okL s) (hw : Wf s) {z node seq io k : Int} {s' : Led} (hz : 1 ≤ z) (hsq : 0 ≤ seq) (h : offer s z node seq io = (s', k, 0)) :
    s' = { s with sl := s.sl ++ [⟨s.n, z, node, seq, io⟩], n := s.n + z } ∧ z ≤ usab s ∧ okL { s with sl := s.sl ++ [⟨s.n, z, node, seq, io⟩], n := s.n + z } ∧ Wf { s with sl := s.sl ++ [⟨s.n, z, node, seq, io⟩], n := s.n + z } := by
  unfold offer at h
  rw [if_neg (fun c => c hk)] at h
  by_cases c1 : z = 0 ∨ ¬ IdOk node seq io
  · rw [if_pos c1] at h; injection h with _ h; injection h with _ h; cases h
  rw [if_neg c1] at h
  by_cases c2 : anyHas node seq io s.sl = true
  · rw [if_pos c2] at h; injection h with _ h; injection h with _ h; cases h
  rw [if_neg c2] at h
  by_cases c3 : s.sl.length = 100
  · rw [if_pos c3] at h; injection h with _ h; injection h with _ h; cases h
  rw [if_neg c3] at h
  by_cases c4 : usab s < z
  · rw [if_pos c4] at h; injection h with _ h; injection h with _ h; cases h
  rw [if_neg c4] at h
  injection h with e _
  obtain ⟨q1, q2, q3, q4, q5⟩ := (okL_iff s).1 hk
  obtain ⟨w1, w2, w3, w4⟩ := hw
  have hu : z ≤ s.g - s.n - s.r := by unfold usab at c4; omega
  have hid : IdOk node seq io := by
    by_cases c : IdOk node seq io
    · exact c
    · exact absurd (Or.inr c) c1
  have hsq2 := hid.2.2.2.2
  refine ⟨e.symm, by unfold usab; omega, (okL_iff _).2 ⟨q1, q2, by show s.n + z ≤ s.g - s.r; omega, by show (s.sl ++ [_]).length ≤ 100; rw [List.length_append, List.length_singleton]; omega, ?_⟩, w1, by show 0 ≤ s.n + z ∧ s.n + z ≤ _; omega, w3, fun x hx => ?_⟩
  · exact good_end q5 w2.1 (by show s.n ≤ s.n + z; omega) (slotE_zero.2 ⟨by show z ≠ 0; omega, hid, Int.le_refl _, by show s.n ≤ s.n + z; omega, by show z ≤ s.n + z - s.n; omega, by simpa using c2⟩)
  · rcases List.mem_append.1 hx with hx | hx
    · exact w4 x hx
    · have := List.mem_singleton.1 hx
      subst this
      exact ⟨by show 0 ≤ s.n ∧ s.n ≤ _; omega, by show 0 ≤ z ∧ z ≤ _; omega, by show 0 ≤ seq ∧ seq ≤ _; omega⟩
theorem Inv.offered (h : Inv i st su ss rt ru ro rr bs br way) (hi : i < 1000) {z node seq io k : Int} {s' : Led} (hz : 1 ≤ z) (hsq : 0 ≤ seq) (hst : 0 < st) (e : Go.Proofs.Ytfgkkflbpfocjaa.offer ss z node seq io = (s', k, 0)) : Inv (i + 1) st su s' rt ru ro rr bs br way := by
  obtain ⟨rfl, a, b, c⟩ := offer_ok h.os h.ws hz hsq e
  exact h.offer hi hst hz a b c
theorem Inv.mored (h : Inv i st su ss rt ru ro rr bs br way) (hi : i < 1000) (hrt : 0 < rt) (hru : ru = true) {z : Int} (hz : 1 ≤ z ∧ z ≤ 40) : rr.g + z ≤ 1125899906842624 ∧ Inv (i + 1) st su ss rt ru ro { rr with g := rr.g + z } bs br way := by
  have h1 := h.rg; have h2 := h.ro0; have h3 := h.i0
  have hb : rr.g + z ≤ 1125899906842624 := by omega
  refine ⟨hb, h.more hi hrt hru hz ?_⟩
  have e : moreR rr z = ({ rr with g := rr.g + z }, 0) := by
    unfold moreR
    rw [if_neg (fun c => c h.or), if_neg (by omega)]
  exact (moreR_ok e (by omega) h.rk).2
theorem Inv.holdsE (h : Inv i st su ss rt ru ro rr bs br way) : holdE (sP st su ss) bs (rP rt ru ro rr) br = (true, 0) := by
  unfold holdE
  rw [if_neg (fun c => c h.okS), if_neg (fun c => c h.okR'), if_neg (fun c => c h.bOk.1), if_neg (fun c => c h.bOk.2)]
  have e1 : (sP st su ss).theirs = st := rfl
  have e2 : (rP rt ru ro rr).theirs = rt := rfl
  rw [e1, e2, held_rP]
  by_cases c : rt = bs
  · have q := h.holds c
    by_cases d : st = br
    · rw [if_pos d] at q
      rw [if_pos ⟨d, c⟩]
      rw [decide_eq_true (show usab (sP st su ss).s + opn' (rP rt ru ro rr).r (sP st su ss).s.sl ≤ ro + resv rr from q)]
    · rw [if_neg d] at q
      rw [if_neg (fun x => d x.1)]
      by_cases f : st < br ∧ rt = bs ∧ (rP rt ru ro rr).sure = false
      · rw [if_pos f, decide_eq_true (show usab (sP st su ss).s ≤ ro + resv rr by show usab ss ≤ _; omega)]
      · rw [if_neg f]
  · rw [if_neg (fun x => c x.2), if_neg (fun x => c x.2.1)]
end
end Go.Proofs.Ytfgkkflbpfocjaa

