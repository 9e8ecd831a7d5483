/- The plain law of the pair's steps: meetings, greetings, grants, offers, data; no program in sight. -/
import Derived.Test.YtfgkkflbpfocjaaZc32
import Derived.Test.YtfgkkflbpfocjaaZc40
namespace Go.Proofs.Ytfgkkflbpfocjaa
set_option linter.unusedVariables false
set_option linter.unusedSimpArgs false

section
variable {i st : Int} {su : Bool} {ss : Led} {rt : Int} {ru : Bool} {ro : Int} {rr : Rec} {bs br : Int} {way : List Fr}
theorem Inv.bOk (h : Inv i st su ss rt ru ro rr bs br way) : bootOk bs ∧ bootOk br := by
  have h1 := h.i0; have h2 := h.bs1; have h3 := h.br1
  unfold bootOk
  omega
theorem Inv.metS (h : Inv i st su ss rt ru ro rr bs br way) (hy : WY way) {f : Fr} (hf : f ∈ way) (hto : f.to = 1) : metE (sP st su ss) bs f = 0 := by
  unfold metE
  rw [if_neg (fun c => c h.okS), if_neg (fun c => c h.bOk.1), if_neg (fun c => c (h.wfF hy hf).2.1), if_neg (fun c => c (h.from1 hf hto))]
theorem Inv.metR (h : Inv i st su ss rt ru ro rr bs br way) (hy : WY way) {f : Fr} (hf : f ∈ way) (hto : f.to = 2) : metE (rP rt ru ro rr) br f = 0 := by
  unfold metE
  rw [if_neg (fun c => c h.okR'), if_neg (fun c => c h.bOk.2), if_neg (fun c => c (h.wfF hy hf).2.1), if_neg (fun c => c (h.from2 hf hto))]
theorem fr_mine {f : Fr} (h : frE f = 0) : 1 ≤ f.mine := by
  unfold frE at h
  by_cases c1 : f.kind < 1 ∨ 7 < f.kind
  · rw [if_pos c1] at h; cases h
  rw [if_neg c1] at h
  by_cases c2 : f.out
  · rw [if_pos c2] at h; cases h
  unfold Fr.out at c2
  omega
/-- what the sender makes of a frame -/
theorem Inv.meetS (h : Inv i st su ss rt ru ro rr bs br way) (hy : WY way) {f : Fr} (hf : f ∈ way) (hto : f.to = 1) : ∃ st' su' ss' v ow, met (sP st su ss) bs f = (sP st' su' ss', v, ow) ∧ Inv i st' su' ss' rt ru ro rr bs br way ∧ (v = 3 → f.yours = bs ∧ f.mine = st' ∧ 0 < st') := by
  have hm := fr_mine (h.wfF hy hf).2.1
  have hts := h.ts
  unfold met
  have e1 : (sP st su ss).theirs = st := rfl
  rw [e1]
  by_cases c1 : f.mine < st
  · rw [if_pos c1]
    exact ⟨st, su, ss, 1, false, rfl, h, fun c => absurd c (by decide)⟩
  rw [if_neg c1]
  have key : ∃ st' su' ss', lrn (sP st su ss) f = sP st' su' ss' ∧ Inv i st' su' ss' rt ru ro rr bs br way ∧ f.mine = st' := by
    unfold lrn
    rw [e1]
    by_cases c : st < f.mine
    · rw [if_pos c]
      exact ⟨f.mine, false, zSend, rfl, h.learn_s hf hto c, rfl⟩
    · rw [if_neg c]
      exact ⟨st, su, ss, rfl, h, by omega⟩
  obtain ⟨st', su', ss', e, hI, e2⟩ := key
  rw [e]
  by_cases c2 : f.yours = bs
  · rw [if_neg (fun c => c c2)]
    exact ⟨st', true, ss', 3, _, rfl, hI.sure_s (by omega), fun _ => ⟨c2, e2, by omega⟩⟩
  · rw [if_pos c2]
    exact ⟨st', su', ss', 2, true, rfl, hI, fun c => absurd c (by decide)⟩
/-- what the receiver makes of a frame -/
theorem Inv.meetR (h : Inv i st su ss rt ru ro rr bs br way) (hy : WY way) {f : Fr} (hf : f ∈ way) (hto : f.to = 2) : ∃ rt' ru' ro' rr' v ow, met (rP rt ru ro rr) br f = (rP rt' ru' ro' rr', v, ow) ∧ Inv i st su ss rt' ru' ro' rr' bs br way ∧ (v = 3 → ru' = true ∧ f.yours = br ∧ f.mine = rt' ∧ 0 < rt') := by
  have hm := fr_mine (h.wfF hy hf).2.1
  unfold met
  have e1 : (rP rt ru ro rr).theirs = rt := rfl
  rw [e1]
  by_cases c1 : f.mine < rt
  · rw [if_pos c1]
    exact ⟨rt, ru, ro, rr, 1, false, rfl, h, fun c => absurd c (by decide)⟩
  rw [if_neg c1]
  have key : ∃ rt' ru' ro' rr', lrn (rP rt ru ro rr) f = rP rt' ru' ro' rr' ∧ Inv i st su ss rt' ru' ro' rr' bs br way ∧ f.mine = rt' := by
    unfold lrn
    rw [e1]
    by_cases c : rt < f.mine
    · rw [if_pos c]
      exact ⟨f.mine, false, 0, zRec, rfl, h.learn_r hf hto c, rfl⟩
    · rw [if_neg c]
      exact ⟨rt, ru, ro, rr, rfl, h, by omega⟩
  obtain ⟨rt', ru', ro', rr', e, hI, e2⟩ := key
  rw [e]
  by_cases c2 : f.yours = br
  · rw [if_neg (fun c => c c2)]
    exact ⟨rt', true, 0, rr', 3, _, rfl, hI.sure_r hf hto e2 c2 (by omega), fun _ => ⟨rfl, c2, e2, by omega⟩⟩
  · rw [if_pos c2]
    exact ⟨rt', ru', ro', rr', 2, true, rfl, hI, fun c => absurd c (by decide)⟩
/-- the sender takes a grant -/
theorem Inv.grantS (h : Inv i st su ss rt ru ro rr bs br way) (hy : WY way) {f : Fr} (hf : f ∈ way) (hto : f.to = 1) (hk : f.kind = 2) (hm : f.mine = st) (hyo : f.yours = bs) (hst : 0 < st) : (grant ss f.a).2.2 = 0 ∧ Inv i st su (grant ss f.a).1 rt ru ro rr bs br way := by
  have hE := (h.wfF hy hf).2.1
  have ha0 := (h.fr f hf).2.1
  have ha : f.a ≤ 1125899906842624 := by
    unfold frE at hE
    by_cases c1 : f.kind < 1 ∨ 7 < f.kind
    · omega
    rw [if_neg c1] at hE
    by_cases c2 : f.out
    · rw [if_pos c2] at hE; cases hE
    rw [if_neg c2] at hE
    by_cases c3 : f.aBig ∨ f.bBad
    · rw [if_pos c3] at hE; cases hE
    unfold Fr.aBig at c3
    omega
  unfold grant
  rw [if_neg (fun c => c h.os), if_neg (by omega)]
  by_cases c : f.a ≤ ss.g
  · rw [if_pos c]; exact ⟨rfl, h⟩
  · rw [if_neg c]
    obtain ⟨q1, q2, q3, q4, q5⟩ := (okL_iff ss).1 h.os
    obtain ⟨w1, w2, w3, w4⟩ := h.ws
    have hok : okL { ss with g := f.a } := (okL_iff _).2 ⟨ha, by show ss.r ≤ f.a; omega, by show ss.n ≤ f.a - ss.r; omega, q4, q5⟩
    exact ⟨rfl, h.granted hf hto hk hm hyo (by omega) hok ⟨by show 0 ≤ f.a ∧ f.a ≤ _; omega, w2, w3, w4⟩ hst⟩
theorem Inv.begS (h : Inv i st su ss rt ru ro rr bs br way) (kind : Int) : begE (sP st su ss) 1 bs kind = if kind ≠ 1 ∧ st = 0 then 13 else 0 := by
  unfold begE
  rw [if_neg (fun c => c h.okS), if_neg]
  · rfl
  · have e : (sP st su ss).node = 2 := rfl
    rw [e]
    have := h.bOk.1
    rintro (c | c | c | c)
    · omega
    · omega
    · omega
    · exact c this
theorem Inv.begR (h : Inv i st su ss rt ru ro rr bs br way) (kind : Int) : begE (rP rt ru ro rr) 2 br kind = if kind ≠ 1 ∧ rt = 0 then 13 else 0 := by
  unfold begE
  rw [if_neg (fun c => c h.okR'), if_neg]
  · rfl
  · have e : (rP rt ru ro rr).node = 1 := rfl
    rw [e]
    have := h.bOk.2
    rintro (c | c | c | c)
    · omega
    · omega
    · omega
    · exact c this
theorem Inv.bnS (h : Inv i st su ss rt ru ro rr bs br way) : ¬ ((1 : Int) < 1 ∨ (16 : Int) < 1 ∨ (1 : Int) = (sP st su ss).node ∨ ¬ bootOk bs) := by
  have e : (sP st su ss).node = 2 := rfl
  rw [e]
  have := h.bOk.1
  rintro (c | c | c | c)
  · omega
  · omega
  · omega
  · exact c this
theorem Inv.bnR (h : Inv i st su ss rt ru ro rr bs br way) : ¬ ((2 : Int) < 1 ∨ (16 : Int) < 2 ∨ (2 : Int) = (rP rt ru ro rr).node ∨ ¬ bootOk br) := by
  have e : (rP rt ru ro rr).node = 1 := rfl
  rw [e]
  have := h.bOk.2
  rintro (c | c | c | c)
  · omega
  · omega
  · omega
  · exact c this
theorem Inv.heldS (h : Inv i st su ss rt ru ro rr bs br way) : ¬ 1125899906842624 < heldP (sP st su ss) := by rw [held_sP]; decide
theorem Inv.heldR (h : Inv i st su ss rt ru ro rr bs br way) (hi : i < 1000) : ¬ 1125899906842624 < heldP (rP rt ru ro rr) := by
  rw [held_rP]
  have := h.resv0
  have := h.rg
  have := h.ro0
  omega
theorem WY.put (h : WY way) {f : Fr} (hf : 0 ≤ f.yours) : WY (way ++ [f]) := fun g hg => by
  rcases List.mem_append.1 hg with e | e
  · exact h g e
  · rw [List.mem_singleton] at e; rw [e]; exact hf
/-- data of a slot -/
theorem Inv.data_s (h : Inv i st su ss rt ru ro rr bs br way) {t : Sl} (ht : t ∈ ss.sl) {b : Bu.Bn} (hb : Bu.bE b = 0) : FrI st ss rt ro rr bs br ⟨3, 1, 2, bs, st, t.off, flr ss, 0, 0, 0, b⟩ := by
  have h1 := h.ts; have h2 := h.br1; have h3 := h.i0; have h4 := h.bs1
  have hf := flr_b h.os h.ws
  have hn := okL_n h.os h.ws
  obtain ⟨_, _, _, _, gd⟩ := (okL_iff ss).1 h.os
  have hto := good_off gd (fun x hx => (h.ws.2.2.2 x hx).2.1.1) ht
  have hts := (h.ws.2.2.2 t ht).2.1.1
  have hfl : flr ss ≤ t.off := by
    unfold flr
    cases hl : ss.sl with
    | nil => rw [hl] at ht; cases ht
    | cons y l =>
      rw [hl] at gd ht
      show y.off ≤ t.off
      rcases List.mem_cons.1 ht with e | e
      · rw [e]; exact Int.le_refl _
      · have hy := (h.ws.2.2.2 y (by rw [hl]; simp)).2.1.1
        have := good_off gd.2 (fun x hx => (h.ws.2.2.2 x (by rw [hl]; exact List.mem_cons_of_mem _ hx)).2.1.1) e
        omega
  refine ⟨?_, by show 0 ≤ t.off; omega, hf.1, .inr ⟨rfl, rfl, Int.le_refl _, Int.le_refl _, fun _ _ => ⟨fun _ => hf.2, fun e => ?_⟩⟩⟩
  · unfold frE
    rw [if_neg (by show ¬ ((3 : Int) < 1 ∨ (7 : Int) < 3); decide), if_neg (by show ¬ ((1 : Int) < 1 ∨ (16 : Int) < 1 ∨ (2 : Int) < 1 ∨ (16 : Int) < 2 ∨ (2 : Int) = 1 ∨ bs < 1 ∨ 1099511627776 < bs ∨ 1099511627776 < st); omega),
      if_neg (by show ¬ (((3 : Int) ≠ 1 ∧ 1125899906842624 < t.off) ∨ (((3 : Int) = 3 ∧ t.off < flr ss) ∨ ((3 : Int) = 4 ∧ 1125899906842624 < flr ss) ∨ ((3 : Int) = 6 ∧ (flr ss < 1 ∨ 3 < flr ss)))); omega), if_neg (by show ¬ (Bu.bE b ≠ 0); exact fun c => c hb), if_neg]
    intro c
    exact c ⟨fun e => absurd (show (3 : Int) = 1 from e) (by decide), fun e => absurd rfl e.1, fun _ => ⟨rfl, rfl, rfl⟩, fun e => absurd rfl e⟩
  · exact absurd e (by show ¬ (3 : Int) = 4; decide)
end
end Go.Proofs.Ytfgkkflbpfocjaa

