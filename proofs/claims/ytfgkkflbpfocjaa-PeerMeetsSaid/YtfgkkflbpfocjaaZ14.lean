/- The frames' reference: the check of a frame, whole. -/
import Derived.Test.YtfgkkflbpfocjaaZ13
import Derived.Test.YtfgkkflbpfocjaaZ6
namespace Go.Proofs.Ytfgkkflbpfocjaa
open Go.RowKit
set_option linter.unusedVariables false
set_option linter.unusedSimpArgs false

theorem zBn_iff (x : Bu.Bn) : x = zBn ↔ (0 = x.node ∧ 0 = x.seq ∧ 0 = x.off ∧ 0 = x.dest ∧ 0 = x.prio ∧ 0 = x.born ∧ 0 = x.life ∧ 0 = x.total ∧ (⟨#[]⟩ : ByteArray) = x.data) := by
  obtain ⟨a, b, c, d, e, f, g, h, s⟩ := x
  unfold zBn
  simp only [Bu.Bn.mk.injEq]
  constructor
  · rintro ⟨rfl, rfl, rfl, rfl, rfl, rfl, rfl, rfl, rfl⟩; exact ⟨rfl, rfl, rfl, rfl, rfl, rfl, rfl, rfl, rfl⟩
  · rintro ⟨rfl, rfl, rfl, rfl, rfl, rfl, rfl, rfl, rfl⟩; exact ⟨rfl, rfl, rfl, rfl, rfl, rfl, rfl, rfl, rfl⟩

theorem bare_1 (f : Fr) (h : f.kind = 1) : f.bare ↔ frEqB f.kind f.frm f.to f.mine f.yours 0 0 0 0 0 0 0 0 0 0 0 0 0 ⟨#[]⟩ f.kind f.frm f.to f.mine f.yours f.a f.b f.inode f.iseq f.ioff f.bn.node f.bn.seq f.bn.off f.bn.dest f.bn.prio f.bn.born f.bn.life f.bn.total f.bn.data = true := by
  rw [frEqB_iff]
  unfold Fr.bare
  have hz := zBn_iff f.bn
  constructor
  · rintro ⟨h1, h2, h3, h4⟩
    have a0 := h1 h
    have b0 := h2 (by omega)
    obtain ⟨i0, i1, i2⟩ := h3 (by omega)
    obtain ⟨z0, z1, z2, z3, z4, z5, z6, z7, z8⟩ := hz.1 (h4 (by omega))
    exact ⟨rfl, rfl, rfl, rfl, rfl, a0.symm, b0.symm, i0.symm, i1.symm, i2.symm, z0, z1, z2, z3, z4, z5, z6, z7, z8⟩
  · rintro ⟨_, _, _, _, _, e5, e6, e7, e8, e9, e10, e11, e12, e13, e14, e15, e16, e17, e18⟩
    exact ⟨fun hk => e5.symm, fun hk => e6.symm, fun hk => ⟨e7.symm, e8.symm, e9.symm⟩, fun hk => hz.2 ⟨e10, e11, e12, e13, e14, e15, e16, e17, e18⟩⟩

theorem bare_2 (f : Fr) (h : f.kind = 2 ∨ f.kind = 7) : f.bare ↔ frEqB f.kind f.frm f.to f.mine f.yours f.a 0 0 0 0 0 0 0 0 0 0 0 0 ⟨#[]⟩ f.kind f.frm f.to f.mine f.yours f.a f.b f.inode f.iseq f.ioff f.bn.node f.bn.seq f.bn.off f.bn.dest f.bn.prio f.bn.born f.bn.life f.bn.total f.bn.data = true := by
  rw [frEqB_iff]
  unfold Fr.bare
  have hz := zBn_iff f.bn
  constructor
  · rintro ⟨h1, h2, h3, h4⟩
    skip
    have b0 := h2 (by omega)
    obtain ⟨i0, i1, i2⟩ := h3 (by omega)
    obtain ⟨z0, z1, z2, z3, z4, z5, z6, z7, z8⟩ := hz.1 (h4 (by omega))
    exact ⟨rfl, rfl, rfl, rfl, rfl, rfl, b0.symm, i0.symm, i1.symm, i2.symm, z0, z1, z2, z3, z4, z5, z6, z7, z8⟩
  · rintro ⟨_, _, _, _, _, e5, e6, e7, e8, e9, e10, e11, e12, e13, e14, e15, e16, e17, e18⟩
    exact ⟨fun hk => absurd hk (by omega), fun hk => e6.symm, fun hk => ⟨e7.symm, e8.symm, e9.symm⟩, fun hk => hz.2 ⟨e10, e11, e12, e13, e14, e15, e16, e17, e18⟩⟩

theorem bare_3 (f : Fr) (h : f.kind = 3) : f.bare ↔ frEqB f.kind f.frm f.to f.mine f.yours f.a f.b 0 0 0 f.bn.node f.bn.seq f.bn.off f.bn.dest f.bn.prio f.bn.born f.bn.life f.bn.total f.bn.data f.kind f.frm f.to f.mine f.yours f.a f.b f.inode f.iseq f.ioff f.bn.node f.bn.seq f.bn.off f.bn.dest f.bn.prio f.bn.born f.bn.life f.bn.total f.bn.data = true := by
  rw [frEqB_iff]
  unfold Fr.bare
  have hz := zBn_iff f.bn
  constructor
  · rintro ⟨h1, h2, h3, h4⟩
    skip
    skip
    obtain ⟨i0, i1, i2⟩ := h3 (by omega)
    skip
    exact ⟨rfl, rfl, rfl, rfl, rfl, rfl, rfl, i0.symm, i1.symm, i2.symm, rfl, rfl, rfl, rfl, rfl, rfl, rfl, rfl, rfl⟩
  · rintro ⟨_, _, _, _, _, e5, e6, e7, e8, e9, e10, e11, e12, e13, e14, e15, e16, e17, e18⟩
    exact ⟨fun hk => absurd hk (by omega), fun hk => absurd hk (by omega), fun hk => ⟨e7.symm, e8.symm, e9.symm⟩, fun hk => absurd hk (by omega)⟩

theorem bare_4 (f : Fr) (h : f.kind = 4) : f.bare ↔ frEqB f.kind f.frm f.to f.mine f.yours f.a f.b 0 0 0 0 0 0 0 0 0 0 0 ⟨#[]⟩ f.kind f.frm f.to f.mine f.yours f.a f.b f.inode f.iseq f.ioff f.bn.node f.bn.seq f.bn.off f.bn.dest f.bn.prio f.bn.born f.bn.life f.bn.total f.bn.data = true := by
  rw [frEqB_iff]
  unfold Fr.bare
  have hz := zBn_iff f.bn
  constructor
  · rintro ⟨h1, h2, h3, h4⟩
    skip
    skip
    obtain ⟨i0, i1, i2⟩ := h3 (by omega)
    obtain ⟨z0, z1, z2, z3, z4, z5, z6, z7, z8⟩ := hz.1 (h4 (by omega))
    exact ⟨rfl, rfl, rfl, rfl, rfl, rfl, rfl, i0.symm, i1.symm, i2.symm, z0, z1, z2, z3, z4, z5, z6, z7, z8⟩
  · rintro ⟨_, _, _, _, _, e5, e6, e7, e8, e9, e10, e11, e12, e13, e14, e15, e16, e17, e18⟩
    exact ⟨fun hk => absurd hk (by omega), fun hk => absurd hk (by omega), fun hk => ⟨e7.symm, e8.symm, e9.symm⟩, fun hk => hz.2 ⟨e10, e11, e12, e13, e14, e15, e16, e17, e18⟩⟩

theorem bare_5 (f : Fr) (h : f.kind = 5) : f.bare ↔ frEqB f.kind f.frm f.to f.mine f.yours f.a 0 f.inode f.iseq f.ioff 0 0 0 0 0 0 0 0 ⟨#[]⟩ f.kind f.frm f.to f.mine f.yours f.a f.b f.inode f.iseq f.ioff f.bn.node f.bn.seq f.bn.off f.bn.dest f.bn.prio f.bn.born f.bn.life f.bn.total f.bn.data = true := by
  rw [frEqB_iff]
  unfold Fr.bare
  have hz := zBn_iff f.bn
  constructor
  · rintro ⟨h1, h2, h3, h4⟩
    skip
    have b0 := h2 (by omega)
    skip
    obtain ⟨z0, z1, z2, z3, z4, z5, z6, z7, z8⟩ := hz.1 (h4 (by omega))
    exact ⟨rfl, rfl, rfl, rfl, rfl, rfl, b0.symm, rfl, rfl, rfl, z0, z1, z2, z3, z4, z5, z6, z7, z8⟩
  · rintro ⟨_, _, _, _, _, e5, e6, e7, e8, e9, e10, e11, e12, e13, e14, e15, e16, e17, e18⟩
    exact ⟨fun hk => absurd hk (by omega), fun hk => e6.symm, fun hk => absurd hk (by omega), fun hk => hz.2 ⟨e10, e11, e12, e13, e14, e15, e16, e17, e18⟩⟩

theorem bare_6 (f : Fr) (h : f.kind = 6) : f.bare ↔ frEqB f.kind f.frm f.to f.mine f.yours f.a f.b f.inode f.iseq f.ioff 0 0 0 0 0 0 0 0 ⟨#[]⟩ f.kind f.frm f.to f.mine f.yours f.a f.b f.inode f.iseq f.ioff f.bn.node f.bn.seq f.bn.off f.bn.dest f.bn.prio f.bn.born f.bn.life f.bn.total f.bn.data = true := by
  rw [frEqB_iff]
  unfold Fr.bare
  have hz := zBn_iff f.bn
  constructor
  · rintro ⟨h1, h2, h3, h4⟩
    skip
    skip
    skip
    obtain ⟨z0, z1, z2, z3, z4, z5, z6, z7, z8⟩ := hz.1 (h4 (by omega))
    exact ⟨rfl, rfl, rfl, rfl, rfl, rfl, rfl, rfl, rfl, rfl, z0, z1, z2, z3, z4, z5, z6, z7, z8⟩
  · rintro ⟨_, _, _, _, _, e5, e6, e7, e8, e9, e10, e11, e12, e13, e14, e15, e16, e17, e18⟩
    exact ⟨fun hk => absurd hk (by omega), fun hk => absurd hk (by omega), fun hk => absurd hk (by omega), fun hk => hz.2 ⟨e10, e11, e12, e13, e14, e15, e16, e17, e18⟩⟩

theorem frE_end (f : Fr) (h1 : ¬ (f.kind < 1 ∨ 7 < f.kind)) (h2 : ¬ f.out) (h3 : ¬ (f.aBig ∨ f.bBad)) (h4 : f.inE = 0) : frE f = if f.bare then 0 else 3 := by
  unfold frE
  rw [if_neg h1, if_neg h2, if_neg h3, if_neg (by omega)]
  by_cases h : f.bare
  · rw [if_neg (by simpa using h), if_pos h]
  · rw [if_pos h, if_neg h]
theorem rfrCheck_any (f : Fr) (w : World) : Calls Try.prog 58 #[f.val] w (RetI .i64 (frE f) w) := by
  have WB := fun w => wrongB_any f w
  have HI := fun w => hasID_any f.kind w
  have HB := fun w => hasB_any f.kind w
  have CB := fun w => Bu.rCheck_any f.bn w
  have CI := fun w => Bu.rCheckID_any f.inode f.iseq f.ioff w
  have hE : frE f = if f.kind < 1 ∨ 7 < f.kind then 7 else if f.out then 2 else if f.aBig ∨ f.bBad then 2 else if f.inE ≠ 0 then f.inE else if ¬ f.bare then 3 else 0 := rfl
  unfold Fr.val at WB ⊢
  unfold Bu.Bn.val at CB
  by_cases k1 : f.kind < 1
  · rw [if_pos (by omega)] at hE
    rw [hE]
    exact rfc_k1 f.kind f.frm f.to f.mine f.yours f.a f.b f.inode f.iseq f.ioff f.bn.node f.bn.seq f.bn.off f.bn.dest f.bn.prio f.bn.born f.bn.life f.bn.total f.bn.data w k1
  by_cases k2 : 7 < f.kind
  · rw [if_pos (by omega)] at hE
    rw [hE]
    exact rfc_k2 f.kind f.frm f.to f.mine f.yours f.a f.b f.inode f.iseq f.ioff f.bn.node f.bn.seq f.bn.off f.bn.dest f.bn.prio f.bn.born f.bn.life f.bn.total f.bn.data w k1 k2
  have kk : ¬ (f.kind < 1 ∨ 7 < f.kind) := by omega
  rw [if_neg kk] at hE

  by_cases o0 : f.frm < 1
  · rw [if_pos (by unfold Fr.out; omega)] at hE
    rw [hE]
    exact rfc_o1 f.kind f.frm f.to f.mine f.yours f.a f.b f.inode f.iseq f.ioff f.bn.node f.bn.seq f.bn.off f.bn.dest f.bn.prio f.bn.born f.bn.life f.bn.total f.bn.data w k1 k2 o0
  by_cases o1 : f.frm > 16
  · rw [if_pos (by unfold Fr.out; omega)] at hE
    rw [hE]
    exact rfc_o2 f.kind f.frm f.to f.mine f.yours f.a f.b f.inode f.iseq f.ioff f.bn.node f.bn.seq f.bn.off f.bn.dest f.bn.prio f.bn.born f.bn.life f.bn.total f.bn.data w k1 k2 o0 o1
  by_cases o2 : f.to < 1
  · rw [if_pos (by unfold Fr.out; omega)] at hE
    rw [hE]
    exact rfc_o3 f.kind f.frm f.to f.mine f.yours f.a f.b f.inode f.iseq f.ioff f.bn.node f.bn.seq f.bn.off f.bn.dest f.bn.prio f.bn.born f.bn.life f.bn.total f.bn.data w k1 k2 o0 o1 o2
  by_cases o3 : f.to > 16
  · rw [if_pos (by unfold Fr.out; omega)] at hE
    rw [hE]
    exact rfc_o4 f.kind f.frm f.to f.mine f.yours f.a f.b f.inode f.iseq f.ioff f.bn.node f.bn.seq f.bn.off f.bn.dest f.bn.prio f.bn.born f.bn.life f.bn.total f.bn.data w k1 k2 o0 o1 o2 o3
  by_cases o4 : f.frm = f.to
  · rw [if_pos (by unfold Fr.out; omega)] at hE
    rw [hE]
    exact rfc_o5 f.kind f.frm f.to f.mine f.yours f.a f.b f.inode f.iseq f.ioff f.bn.node f.bn.seq f.bn.off f.bn.dest f.bn.prio f.bn.born f.bn.life f.bn.total f.bn.data w k1 k2 o0 o1 o2 o3 (eqk_t o4)
  by_cases o5 : f.mine < 1
  · rw [if_pos (by unfold Fr.out; omega)] at hE
    rw [hE]
    exact rfc_o6 f.kind f.frm f.to f.mine f.yours f.a f.b f.inode f.iseq f.ioff f.bn.node f.bn.seq f.bn.off f.bn.dest f.bn.prio f.bn.born f.bn.life f.bn.total f.bn.data w k1 k2 o0 o1 o2 o3 (eqk_f o4) o5
  by_cases o6 : f.mine > 1099511627776
  · rw [if_pos (by unfold Fr.out; omega)] at hE
    rw [hE]
    exact rfc_o7 f.kind f.frm f.to f.mine f.yours f.a f.b f.inode f.iseq f.ioff f.bn.node f.bn.seq f.bn.off f.bn.dest f.bn.prio f.bn.born f.bn.life f.bn.total f.bn.data w k1 k2 o0 o1 o2 o3 (eqk_f o4) o5 o6
  by_cases o7 : f.yours > 1099511627776
  · rw [if_pos (by unfold Fr.out; omega)] at hE
    rw [hE]
    exact rfc_o8 f.kind f.frm f.to f.mine f.yours f.a f.b f.inode f.iseq f.ioff f.bn.node f.bn.seq f.bn.off f.bn.dest f.bn.prio f.bn.born f.bn.life f.bn.total f.bn.data w k1 k2 o0 o1 o2 o3 (eqk_f o4) o5 o6 o7
  have ho : ¬ f.out := by unfold Fr.out; omega
  rw [if_neg ho] at hE
  by_cases ka : f.kind = 1
  · have hA : ¬ f.aBig := fun h => h.1 ka
    have hBd : ¬ f.bBad := by unfold Fr.bBad; omega
    have hab : ¬ (f.aBig ∨ f.bBad) := fun h => h.elim hA hBd
    rw [decide_eq_false hBd] at WB
    replace HI : ∀ w, Calls Try.prog 97 #[.int .i64 f.kind] w (fun e w' => e = .returned (.bool false) ∧ w = w') := fun w => by have := HI w; rwa [decide_eq_false (by omega)] at this
    have UB : ∀ w, Calls Try.prog 115 #[.int .i64 f.kind] w (fun e w' => e = .returned (.bool false) ∧ w = w') := fun w => by have := HB w; rwa [decide_eq_false (by omega)] at this
    have US := fun w => used_1001 f.kind f.frm f.to f.mine f.yours f.a f.b f.inode f.iseq f.ioff f.bn.node f.bn.seq f.bn.off f.bn.dest f.bn.prio f.bn.born f.bn.life f.bn.total f.bn.data w UB HI (eqk_t (by omega)) (nek_t (by omega))
    have NE := fun w => run_ne_fr f.kind f.frm f.to f.mine f.yours 0 0 0 0 0 0 0 0 0 0 0 0 0 ⟨#[]⟩ f.kind f.frm f.to f.mine f.yours f.a f.b f.inode f.iseq f.ioff f.bn.node f.bn.seq f.bn.off f.bn.dest f.bn.prio f.bn.born f.bn.life f.bn.total f.bn.data w
    have hb := bare_1 f ka
    rw [frE_end f kk ho hab (by unfold Fr.inE; rw [if_neg (by omega), if_neg (by omega)])]
    by_cases hba : f.bare
    · rw [if_pos hba]
      rw [hb.1 hba] at NE
      exact rfc_N1f f.kind f.frm f.to f.mine f.yours f.a f.b f.inode f.iseq f.ioff f.bn.node f.bn.seq f.bn.off f.bn.dest f.bn.prio f.bn.born f.bn.life f.bn.total f.bn.data w k1 k2 o0 o1 o2 o3 (eqk_f o4) o5 o6 o7 (nek_f ka) WB (eqk_f (by omega)) HI (.int .i64 f.kind) (.int .i64 f.frm) (.int .i64 f.to) (.int .u64 f.mine) (.int .u64 f.yours) (.int .u64 0) (.int .u64 0) (.int .i64 0) (.int .u64 0) (.int .i64 0) (.int .i64 0) (.int .u64 0) (.int .i64 0) (.int .i64 0) (.int .i64 0) (.int .i64 0) (.int .i64 0) (.int .i64 0) (.string ⟨#[]⟩) US NE
    · rw [if_neg hba]
      have hq : frEqB f.kind f.frm f.to f.mine f.yours 0 0 0 0 0 0 0 0 0 0 0 0 0 ⟨#[]⟩ f.kind f.frm f.to f.mine f.yours f.a f.b f.inode f.iseq f.ioff f.bn.node f.bn.seq f.bn.off f.bn.dest f.bn.prio f.bn.born f.bn.life f.bn.total f.bn.data = false := by
        cases hx : frEqB f.kind f.frm f.to f.mine f.yours 0 0 0 0 0 0 0 0 0 0 0 0 0 ⟨#[]⟩ f.kind f.frm f.to f.mine f.yours f.a f.b f.inode f.iseq f.ioff f.bn.node f.bn.seq f.bn.off f.bn.dest f.bn.prio f.bn.born f.bn.life f.bn.total f.bn.data with
        | true => exact absurd (hb.2 hx) hba
        | false => rfl
      rw [hq] at NE
      exact rfc_N1t f.kind f.frm f.to f.mine f.yours f.a f.b f.inode f.iseq f.ioff f.bn.node f.bn.seq f.bn.off f.bn.dest f.bn.prio f.bn.born f.bn.life f.bn.total f.bn.data w k1 k2 o0 o1 o2 o3 (eqk_f o4) o5 o6 o7 (nek_f ka) WB (eqk_f (by omega)) HI (.int .i64 f.kind) (.int .i64 f.frm) (.int .i64 f.to) (.int .u64 f.mine) (.int .u64 f.yours) (.int .u64 0) (.int .u64 0) (.int .i64 0) (.int .u64 0) (.int .i64 0) (.int .i64 0) (.int .u64 0) (.int .i64 0) (.int .i64 0) (.int .i64 0) (.int .i64 0) (.int .i64 0) (.int .i64 0) (.string ⟨#[]⟩) US NE
  by_cases a1 : f.a > 1125899906842624
  · rw [if_pos (.inl ⟨ka, a1⟩)] at hE
    rw [hE]
    exact rfc_a f.kind f.frm f.to f.mine f.yours f.a f.b f.inode f.iseq f.ioff f.bn.node f.bn.seq f.bn.off f.bn.dest f.bn.prio f.bn.born f.bn.life f.bn.total f.bn.data w k1 k2 o0 o1 o2 o3 (eqk_f o4) o5 o6 o7 (nek_t ka) a1
  have hA : ¬ f.aBig := fun h => a1 h.2
  by_cases hBd : f.bBad
  · rw [if_pos (.inr hBd)] at hE
    rw [hE]
    rw [decide_eq_true hBd] at WB
    exact rfc_bn f.kind f.frm f.to f.mine f.yours f.a f.b f.inode f.iseq f.ioff f.bn.node f.bn.seq f.bn.off f.bn.dest f.bn.prio f.bn.born f.bn.life f.bn.total f.bn.data w k1 k2 o0 o1 o2 o3 (eqk_f o4) o5 o6 o7 (nek_t ka) a1 WB
  have hab : ¬ (f.aBig ∨ f.bBad) := fun h => h.elim hA hBd
  rw [if_neg hab] at hE
  rw [decide_eq_false hBd] at WB
  by_cases k3 : f.kind = 3
  · replace HI : ∀ w, Calls Try.prog 97 #[.int .i64 f.kind] w (fun e w' => e = .returned (.bool false) ∧ w = w') := fun w => by have := HI w; rwa [decide_eq_false (by omega)] at this
    by_cases hbe : Bu.bE f.bn = 0
    · have CB0 : ∀ w, Calls Try.prog 96 #[_] w (RetI .i64 0 w) := fun w => by have := CB w; rwa [hbe] at this
      have UB : ∀ w, Calls Try.prog 115 #[.int .i64 f.kind] w (fun e w' => e = .returned (.bool true) ∧ w = w') := fun w => by have := HB w; rwa [decide_eq_true (by omega)] at this
      have US := fun w => used_0100 f.kind f.frm f.to f.mine f.yours f.a f.b f.inode f.iseq f.ioff f.bn.node f.bn.seq f.bn.off f.bn.dest f.bn.prio f.bn.born f.bn.life f.bn.total f.bn.data w UB HI (eqk_f (by omega)) (nek_f (by omega))
      have NE := fun w => run_ne_fr f.kind f.frm f.to f.mine f.yours f.a f.b 0 0 0 f.bn.node f.bn.seq f.bn.off f.bn.dest f.bn.prio f.bn.born f.bn.life f.bn.total f.bn.data f.kind f.frm f.to f.mine f.yours f.a f.b f.inode f.iseq f.ioff f.bn.node f.bn.seq f.bn.off f.bn.dest f.bn.prio f.bn.born f.bn.life f.bn.total f.bn.data w
      have hb := bare_3 f k3
      rw [frE_end f kk ho hab (by unfold Fr.inE; rw [if_pos k3]; exact hbe)]
      by_cases hba : f.bare
      · rw [if_pos hba]
        rw [hb.1 hba] at NE
        exact rfc_3f f.kind f.frm f.to f.mine f.yours f.a f.b f.inode f.iseq f.ioff f.bn.node f.bn.seq f.bn.off f.bn.dest f.bn.prio f.bn.born f.bn.life f.bn.total f.bn.data w k1 k2 o0 o1 o2 o3 (eqk_f o4) o5 o6 o7 (nek_t ka) a1 WB (eqk_t k3) HI CB0 (.int .i64 f.kind) (.int .i64 f.frm) (.int .i64 f.to) (.int .u64 f.mine) (.int .u64 f.yours) (.int .u64 f.a) (.int .u64 f.b) (.int .i64 0) (.int .u64 0) (.int .i64 0) (.int .i64 f.bn.node) (.int .u64 f.bn.seq) (.int .i64 f.bn.off) (.int .i64 f.bn.dest) (.int .i64 f.bn.prio) (.int .i64 f.bn.born) (.int .i64 f.bn.life) (.int .i64 f.bn.total) (.string f.bn.data) US NE
      · rw [if_neg hba]
        have hq : frEqB f.kind f.frm f.to f.mine f.yours f.a f.b 0 0 0 f.bn.node f.bn.seq f.bn.off f.bn.dest f.bn.prio f.bn.born f.bn.life f.bn.total f.bn.data f.kind f.frm f.to f.mine f.yours f.a f.b f.inode f.iseq f.ioff f.bn.node f.bn.seq f.bn.off f.bn.dest f.bn.prio f.bn.born f.bn.life f.bn.total f.bn.data = false := by
          cases hx : frEqB f.kind f.frm f.to f.mine f.yours f.a f.b 0 0 0 f.bn.node f.bn.seq f.bn.off f.bn.dest f.bn.prio f.bn.born f.bn.life f.bn.total f.bn.data f.kind f.frm f.to f.mine f.yours f.a f.b f.inode f.iseq f.ioff f.bn.node f.bn.seq f.bn.off f.bn.dest f.bn.prio f.bn.born f.bn.life f.bn.total f.bn.data with
          | true => exact absurd (hb.2 hx) hba
          | false => rfl
        rw [hq] at NE
        exact rfc_3t f.kind f.frm f.to f.mine f.yours f.a f.b f.inode f.iseq f.ioff f.bn.node f.bn.seq f.bn.off f.bn.dest f.bn.prio f.bn.born f.bn.life f.bn.total f.bn.data w k1 k2 o0 o1 o2 o3 (eqk_f o4) o5 o6 o7 (nek_t ka) a1 WB (eqk_t k3) HI CB0 (.int .i64 f.kind) (.int .i64 f.frm) (.int .i64 f.to) (.int .u64 f.mine) (.int .u64 f.yours) (.int .u64 f.a) (.int .u64 f.b) (.int .i64 0) (.int .u64 0) (.int .i64 0) (.int .i64 f.bn.node) (.int .u64 f.bn.seq) (.int .i64 f.bn.off) (.int .i64 f.bn.dest) (.int .i64 f.bn.prio) (.int .i64 f.bn.born) (.int .i64 f.bn.life) (.int .i64 f.bn.total) (.string f.bn.data) US NE
    · have hi : f.inE = Bu.bE f.bn := by unfold Fr.inE; rw [if_pos k3]
      rw [if_pos (by rw [hi]; exact hbe), hi] at hE
      rw [hE]
      exact rfc_3e f.kind f.frm f.to f.mine f.yours f.a f.b f.inode f.iseq f.ioff f.bn.node f.bn.seq f.bn.off f.bn.dest f.bn.prio f.bn.born f.bn.life f.bn.total f.bn.data w k1 k2 o0 o1 o2 o3 (eqk_f o4) o5 o6 o7 (nek_t ka) a1 WB (eqk_t k3) HI _ CB hbe
  by_cases k56 : f.kind = 5 ∨ f.kind = 6
  · replace HI : ∀ w, Calls Try.prog 97 #[.int .i64 f.kind] w (fun e w' => e = .returned (.bool true) ∧ w = w') := fun w => by have := HI w; rwa [decide_eq_true k56] at this
    by_cases hie : Bu.idE f.inode f.iseq f.ioff = 0
    · have CI0 : ∀ w, Calls Try.prog 82 #[_] w (RetI .i64 0 w) := fun w => by have := CI w; rwa [hie] at this
      rcases k56 with k5 | k6
      · skip
        have UB : ∀ w, Calls Try.prog 115 #[.int .i64 f.kind] w (fun e w' => e = .returned (.bool false) ∧ w = w') := fun w => by have := HB w; rwa [decide_eq_false (by omega)] at this
        have US := fun w => used_0011 f.kind f.frm f.to f.mine f.yours f.a f.b f.inode f.iseq f.ioff f.bn.node f.bn.seq f.bn.off f.bn.dest f.bn.prio f.bn.born f.bn.life f.bn.total f.bn.data w UB HI (eqk_f (by omega)) (nek_t (by omega))
        have NE := fun w => run_ne_fr f.kind f.frm f.to f.mine f.yours f.a 0 f.inode f.iseq f.ioff 0 0 0 0 0 0 0 0 ⟨#[]⟩ f.kind f.frm f.to f.mine f.yours f.a f.b f.inode f.iseq f.ioff f.bn.node f.bn.seq f.bn.off f.bn.dest f.bn.prio f.bn.born f.bn.life f.bn.total f.bn.data w
        have hb := bare_5 f k5
        rw [frE_end f kk ho hab (by unfold Fr.inE; rw [if_neg k3, if_pos (by omega)]; exact hie)]
        by_cases hba : f.bare
        · rw [if_pos hba]
          rw [hb.1 hba] at NE
          exact rfc_If f.kind f.frm f.to f.mine f.yours f.a f.b f.inode f.iseq f.ioff f.bn.node f.bn.seq f.bn.off f.bn.dest f.bn.prio f.bn.born f.bn.life f.bn.total f.bn.data w k1 k2 o0 o1 o2 o3 (eqk_f o4) o5 o6 o7 (nek_t ka) a1 WB (eqk_f k3) HI CI0 (.int .i64 f.kind) (.int .i64 f.frm) (.int .i64 f.to) (.int .u64 f.mine) (.int .u64 f.yours) (.int .u64 f.a) (.int .u64 0) (.int .i64 f.inode) (.int .u64 f.iseq) (.int .i64 f.ioff) (.int .i64 0) (.int .u64 0) (.int .i64 0) (.int .i64 0) (.int .i64 0) (.int .i64 0) (.int .i64 0) (.int .i64 0) (.string ⟨#[]⟩) US NE
        · rw [if_neg hba]
          have hq : frEqB f.kind f.frm f.to f.mine f.yours f.a 0 f.inode f.iseq f.ioff 0 0 0 0 0 0 0 0 ⟨#[]⟩ f.kind f.frm f.to f.mine f.yours f.a f.b f.inode f.iseq f.ioff f.bn.node f.bn.seq f.bn.off f.bn.dest f.bn.prio f.bn.born f.bn.life f.bn.total f.bn.data = false := by
            cases hx : frEqB f.kind f.frm f.to f.mine f.yours f.a 0 f.inode f.iseq f.ioff 0 0 0 0 0 0 0 0 ⟨#[]⟩ f.kind f.frm f.to f.mine f.yours f.a f.b f.inode f.iseq f.ioff f.bn.node f.bn.seq f.bn.off f.bn.dest f.bn.prio f.bn.born f.bn.life f.bn.total f.bn.data with
            | true => exact absurd (hb.2 hx) hba
            | false => rfl
          rw [hq] at NE
          exact rfc_It f.kind f.frm f.to f.mine f.yours f.a f.b f.inode f.iseq f.ioff f.bn.node f.bn.seq f.bn.off f.bn.dest f.bn.prio f.bn.born f.bn.life f.bn.total f.bn.data w k1 k2 o0 o1 o2 o3 (eqk_f o4) o5 o6 o7 (nek_t ka) a1 WB (eqk_f k3) HI CI0 (.int .i64 f.kind) (.int .i64 f.frm) (.int .i64 f.to) (.int .u64 f.mine) (.int .u64 f.yours) (.int .u64 f.a) (.int .u64 0) (.int .i64 f.inode) (.int .u64 f.iseq) (.int .i64 f.ioff) (.int .i64 0) (.int .u64 0) (.int .i64 0) (.int .i64 0) (.int .i64 0) (.int .i64 0) (.int .i64 0) (.int .i64 0) (.string ⟨#[]⟩) US NE
      · skip
        have UB : ∀ w, Calls Try.prog 115 #[.int .i64 f.kind] w (fun e w' => e = .returned (.bool true) ∧ w = w') := fun w => by have := HB w; rwa [decide_eq_true (by omega)] at this
        have US := fun w => used_0111 f.kind f.frm f.to f.mine f.yours f.a f.b f.inode f.iseq f.ioff f.bn.node f.bn.seq f.bn.off f.bn.dest f.bn.prio f.bn.born f.bn.life f.bn.total f.bn.data w UB HI (eqk_f (by omega)) (nek_t (by omega))
        have NE := fun w => run_ne_fr f.kind f.frm f.to f.mine f.yours f.a f.b f.inode f.iseq f.ioff 0 0 0 0 0 0 0 0 ⟨#[]⟩ f.kind f.frm f.to f.mine f.yours f.a f.b f.inode f.iseq f.ioff f.bn.node f.bn.seq f.bn.off f.bn.dest f.bn.prio f.bn.born f.bn.life f.bn.total f.bn.data w
        have hb := bare_6 f k6
        rw [frE_end f kk ho hab (by unfold Fr.inE; rw [if_neg k3, if_pos (by omega)]; exact hie)]
        by_cases hba : f.bare
        · rw [if_pos hba]
          rw [hb.1 hba] at NE
          exact rfc_If f.kind f.frm f.to f.mine f.yours f.a f.b f.inode f.iseq f.ioff f.bn.node f.bn.seq f.bn.off f.bn.dest f.bn.prio f.bn.born f.bn.life f.bn.total f.bn.data w k1 k2 o0 o1 o2 o3 (eqk_f o4) o5 o6 o7 (nek_t ka) a1 WB (eqk_f k3) HI CI0 (.int .i64 f.kind) (.int .i64 f.frm) (.int .i64 f.to) (.int .u64 f.mine) (.int .u64 f.yours) (.int .u64 f.a) (.int .u64 f.b) (.int .i64 f.inode) (.int .u64 f.iseq) (.int .i64 f.ioff) (.int .i64 0) (.int .u64 0) (.int .i64 0) (.int .i64 0) (.int .i64 0) (.int .i64 0) (.int .i64 0) (.int .i64 0) (.string ⟨#[]⟩) US NE
        · rw [if_neg hba]
          have hq : frEqB f.kind f.frm f.to f.mine f.yours f.a f.b f.inode f.iseq f.ioff 0 0 0 0 0 0 0 0 ⟨#[]⟩ f.kind f.frm f.to f.mine f.yours f.a f.b f.inode f.iseq f.ioff f.bn.node f.bn.seq f.bn.off f.bn.dest f.bn.prio f.bn.born f.bn.life f.bn.total f.bn.data = false := by
            cases hx : frEqB f.kind f.frm f.to f.mine f.yours f.a f.b f.inode f.iseq f.ioff 0 0 0 0 0 0 0 0 ⟨#[]⟩ f.kind f.frm f.to f.mine f.yours f.a f.b f.inode f.iseq f.ioff f.bn.node f.bn.seq f.bn.off f.bn.dest f.bn.prio f.bn.born f.bn.life f.bn.total f.bn.data with
            | true => exact absurd (hb.2 hx) hba
            | false => rfl
          rw [hq] at NE
          exact rfc_It f.kind f.frm f.to f.mine f.yours f.a f.b f.inode f.iseq f.ioff f.bn.node f.bn.seq f.bn.off f.bn.dest f.bn.prio f.bn.born f.bn.life f.bn.total f.bn.data w k1 k2 o0 o1 o2 o3 (eqk_f o4) o5 o6 o7 (nek_t ka) a1 WB (eqk_f k3) HI CI0 (.int .i64 f.kind) (.int .i64 f.frm) (.int .i64 f.to) (.int .u64 f.mine) (.int .u64 f.yours) (.int .u64 f.a) (.int .u64 f.b) (.int .i64 f.inode) (.int .u64 f.iseq) (.int .i64 f.ioff) (.int .i64 0) (.int .u64 0) (.int .i64 0) (.int .i64 0) (.int .i64 0) (.int .i64 0) (.int .i64 0) (.int .i64 0) (.string ⟨#[]⟩) US NE
    · have hi : f.inE = Bu.idE f.inode f.iseq f.ioff := by unfold Fr.inE; rw [if_neg k3, if_pos k56]
      rw [if_pos (by rw [hi]; exact hie), hi] at hE
      rw [hE]
      exact rfc_Ie f.kind f.frm f.to f.mine f.yours f.a f.b f.inode f.iseq f.ioff f.bn.node f.bn.seq f.bn.off f.bn.dest f.bn.prio f.bn.born f.bn.life f.bn.total f.bn.data w k1 k2 o0 o1 o2 o3 (eqk_f o4) o5 o6 o7 (nek_t ka) a1 WB (eqk_f k3) HI _ CI hie
  replace HI : ∀ w, Calls Try.prog 97 #[.int .i64 f.kind] w (fun e w' => e = .returned (.bool false) ∧ w = w') := fun w => by have := HI w; rwa [decide_eq_false k56] at this
  by_cases k4 : f.kind = 4
  · skip
    have UB : ∀ w, Calls Try.prog 115 #[.int .i64 f.kind] w (fun e w' => e = .returned (.bool true) ∧ w = w') := fun w => by have := HB w; rwa [decide_eq_true (by omega)] at this
    have US := fun w => used_0101 f.kind f.frm f.to f.mine f.yours f.a f.b f.inode f.iseq f.ioff f.bn.node f.bn.seq f.bn.off f.bn.dest f.bn.prio f.bn.born f.bn.life f.bn.total f.bn.data w UB HI (eqk_f (by omega)) (nek_t (by omega))
    have NE := fun w => run_ne_fr f.kind f.frm f.to f.mine f.yours f.a f.b 0 0 0 0 0 0 0 0 0 0 0 ⟨#[]⟩ f.kind f.frm f.to f.mine f.yours f.a f.b f.inode f.iseq f.ioff f.bn.node f.bn.seq f.bn.off f.bn.dest f.bn.prio f.bn.born f.bn.life f.bn.total f.bn.data w
    have hb := bare_4 f k4
    rw [frE_end f kk ho hab (by unfold Fr.inE; rw [if_neg k3, if_neg k56])]
    by_cases hba : f.bare
    · rw [if_pos hba]
      rw [hb.1 hba] at NE
      exact rfc_Nnf f.kind f.frm f.to f.mine f.yours f.a f.b f.inode f.iseq f.ioff f.bn.node f.bn.seq f.bn.off f.bn.dest f.bn.prio f.bn.born f.bn.life f.bn.total f.bn.data w k1 k2 o0 o1 o2 o3 (eqk_f o4) o5 o6 o7 (nek_t ka) a1 WB (eqk_f k3) HI (.int .i64 f.kind) (.int .i64 f.frm) (.int .i64 f.to) (.int .u64 f.mine) (.int .u64 f.yours) (.int .u64 f.a) (.int .u64 f.b) (.int .i64 0) (.int .u64 0) (.int .i64 0) (.int .i64 0) (.int .u64 0) (.int .i64 0) (.int .i64 0) (.int .i64 0) (.int .i64 0) (.int .i64 0) (.int .i64 0) (.string ⟨#[]⟩) US NE
    · rw [if_neg hba]
      have hq : frEqB f.kind f.frm f.to f.mine f.yours f.a f.b 0 0 0 0 0 0 0 0 0 0 0 ⟨#[]⟩ f.kind f.frm f.to f.mine f.yours f.a f.b f.inode f.iseq f.ioff f.bn.node f.bn.seq f.bn.off f.bn.dest f.bn.prio f.bn.born f.bn.life f.bn.total f.bn.data = false := by
        cases hx : frEqB f.kind f.frm f.to f.mine f.yours f.a f.b 0 0 0 0 0 0 0 0 0 0 0 ⟨#[]⟩ f.kind f.frm f.to f.mine f.yours f.a f.b f.inode f.iseq f.ioff f.bn.node f.bn.seq f.bn.off f.bn.dest f.bn.prio f.bn.born f.bn.life f.bn.total f.bn.data with
        | true => exact absurd (hb.2 hx) hba
        | false => rfl
      rw [hq] at NE
      exact rfc_Nnt f.kind f.frm f.to f.mine f.yours f.a f.b f.inode f.iseq f.ioff f.bn.node f.bn.seq f.bn.off f.bn.dest f.bn.prio f.bn.born f.bn.life f.bn.total f.bn.data w k1 k2 o0 o1 o2 o3 (eqk_f o4) o5 o6 o7 (nek_t ka) a1 WB (eqk_f k3) HI (.int .i64 f.kind) (.int .i64 f.frm) (.int .i64 f.to) (.int .u64 f.mine) (.int .u64 f.yours) (.int .u64 f.a) (.int .u64 f.b) (.int .i64 0) (.int .u64 0) (.int .i64 0) (.int .i64 0) (.int .u64 0) (.int .i64 0) (.int .i64 0) (.int .i64 0) (.int .i64 0) (.int .i64 0) (.int .i64 0) (.string ⟨#[]⟩) US NE
  · skip
    have UB : ∀ w, Calls Try.prog 115 #[.int .i64 f.kind] w (fun e w' => e = .returned (.bool false) ∧ w = w') := fun w => by have := HB w; rwa [decide_eq_false (by omega)] at this
    have US := fun w => used_0001 f.kind f.frm f.to f.mine f.yours f.a f.b f.inode f.iseq f.ioff f.bn.node f.bn.seq f.bn.off f.bn.dest f.bn.prio f.bn.born f.bn.life f.bn.total f.bn.data w UB HI (eqk_f (by omega)) (nek_t (by omega))
    have NE := fun w => run_ne_fr f.kind f.frm f.to f.mine f.yours f.a 0 0 0 0 0 0 0 0 0 0 0 0 ⟨#[]⟩ f.kind f.frm f.to f.mine f.yours f.a f.b f.inode f.iseq f.ioff f.bn.node f.bn.seq f.bn.off f.bn.dest f.bn.prio f.bn.born f.bn.life f.bn.total f.bn.data w
    have hb := bare_2 f (by omega)
    rw [frE_end f kk ho hab (by unfold Fr.inE; rw [if_neg k3, if_neg k56])]
    by_cases hba : f.bare
    · rw [if_pos hba]
      rw [hb.1 hba] at NE
      exact rfc_Nnf f.kind f.frm f.to f.mine f.yours f.a f.b f.inode f.iseq f.ioff f.bn.node f.bn.seq f.bn.off f.bn.dest f.bn.prio f.bn.born f.bn.life f.bn.total f.bn.data w k1 k2 o0 o1 o2 o3 (eqk_f o4) o5 o6 o7 (nek_t ka) a1 WB (eqk_f k3) HI (.int .i64 f.kind) (.int .i64 f.frm) (.int .i64 f.to) (.int .u64 f.mine) (.int .u64 f.yours) (.int .u64 f.a) (.int .u64 0) (.int .i64 0) (.int .u64 0) (.int .i64 0) (.int .i64 0) (.int .u64 0) (.int .i64 0) (.int .i64 0) (.int .i64 0) (.int .i64 0) (.int .i64 0) (.int .i64 0) (.string ⟨#[]⟩) US NE
    · rw [if_neg hba]
      have hq : frEqB f.kind f.frm f.to f.mine f.yours f.a 0 0 0 0 0 0 0 0 0 0 0 0 ⟨#[]⟩ f.kind f.frm f.to f.mine f.yours f.a f.b f.inode f.iseq f.ioff f.bn.node f.bn.seq f.bn.off f.bn.dest f.bn.prio f.bn.born f.bn.life f.bn.total f.bn.data = false := by
        cases hx : frEqB f.kind f.frm f.to f.mine f.yours f.a 0 0 0 0 0 0 0 0 0 0 0 0 ⟨#[]⟩ f.kind f.frm f.to f.mine f.yours f.a f.b f.inode f.iseq f.ioff f.bn.node f.bn.seq f.bn.off f.bn.dest f.bn.prio f.bn.born f.bn.life f.bn.total f.bn.data with
        | true => exact absurd (hb.2 hx) hba
        | false => rfl
      rw [hq] at NE
      exact rfc_Nnt f.kind f.frm f.to f.mine f.yours f.a f.b f.inode f.iseq f.ioff f.bn.node f.bn.seq f.bn.off f.bn.dest f.bn.prio f.bn.born f.bn.life f.bn.total f.bn.data w k1 k2 o0 o1 o2 o3 (eqk_f o4) o5 o6 o7 (nek_t ka) a1 WB (eqk_f k3) HI (.int .i64 f.kind) (.int .i64 f.frm) (.int .i64 f.to) (.int .u64 f.mine) (.int .u64 f.yours) (.int .u64 f.a) (.int .u64 0) (.int .i64 0) (.int .u64 0) (.int .i64 0) (.int .i64 0) (.int .u64 0) (.int .i64 0) (.int .i64 0) (.int .i64 0) (.int .i64 0) (.int .i64 0) (.int .i64 0) (.string ⟨#[]⟩) US NE

end Go.Proofs.Ytfgkkflbpfocjaa

