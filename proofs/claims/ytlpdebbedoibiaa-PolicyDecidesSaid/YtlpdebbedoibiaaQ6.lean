/- Contracts: the reference's answers. -/
import Derived.Test.YtlpdebbedoibiaaQ5
namespace Go.Proofs.Ytlpdebbedoibiaa
open Go.RowKit
set_option linter.unusedVariables false
set_option linter.unusedSimpArgs false

theorem ask_zero1 (l : List Cl) (a b : Int) : askE l [a, b, 0] = askE l [a, b] := by unfold askE tooBig; simp
theorem ask_zero2 (l : List Cl) (a : Int) : askE l [a, 0, 0] = askE l [a] := by unfold askE tooBig; simp
theorem low_ok {L : List Int} (hL : LevOk L) {v o : Int} (hv : 0 ≤ v) : LevOk (low v L o) := by
  intro y hy
  obtain ⟨i, hi⟩ := List.mem_iff_getElem?.1 hy
  have hil := (List.getElem?_eq_some_iff.1 hi).1
  rw [low_len] at hil
  have := low_dn hv (hL L[i] (List.getElem_mem hil)).1 (List.getElem?_eq_getElem hil) hi
  have := hL L[i] (List.getElem_mem hil)
  omega

set_option maxHeartbeats 2000000 in
theorem rFill_all (l : List Cl) (hw : ClWf l) (W A : Int) (hW : 0 ≤ W) (hA : 0 ≤ A) (v : Value) (w : World) (hS : ClAt w v l) :
    Calls Try.prog 24 #[v, .int .u64 W, .int .u64 A] w (RetX (FlS l W A) w) := by
  have HR := Lib.hid (rasks_any l W A 0 v w hS)
  have HS := Lib.hid hS
  clear hS
  by_cases hk : askE l [W, A] = 0
  · obtain ⟨hl, hL, _, hx⟩ := ask_ok hw hk
    have hW1 := hx W (by simp)
    have hA1 := hx A (by simp)
    have HK := Lib.hid hk
    have HL := Lib.hid hL
    clear hk hx hL
    go_enter Try.func24, Try.ntmps24
    go_wp2_with fail
    refine HR.out.mono ?_
    rintro e w1 ⟨rfl, hb1⟩
    rw [ask_zero1, HK.out]
    have HS1 := Lib.hid (HS.out.below hb1)
    have hB1 := hb1
    clear hb1
    go_wp2_with fail
    refine (levels_any l v w1 HS1.out (by omega)).mono ?_
    rintro e w2 ⟨A2, c2, rfl, hN2, hb2⟩
    have HN2 := Lib.hid hN2
    have HS2 := Lib.hid (HS1.out.below hb2)
    have hB2 := bnext hB1 hb2
    clear hN2 hb2 HS1 hB1
    go_wp2_with fail
    refine (levels_any l v w2 HS2.out (by omega)).mono ?_
    rintro e w3 ⟨A3, c3, rfl, hN3, hb3⟩
    have HN3 := Lib.hid hN3
    have HN2' := Lib.hid (HN2.out.below hb3)
    have HS3 := Lib.hid (HS2.out.below hb3)
    have hB3 := bnext hB2 hb3
    clear hN3 hb3 HS2 hB2 HN2
    go_wp2_with fail
    refine (filled_any (lev l) (by rw [lev_len]; exact hl) HL.out W A hW hW1 hA hA1 _ w3 HN3.out).mono ?_
    rintro e w4 ⟨v0, hu, A4, c4, rfl, hN4, hb4⟩
    have HU := Lib.hid hu
    have HN4 := Lib.hid hN4
    have HN2 := Lib.hid (HN2'.out.below hb4)
    have HS4 := Lib.hid (HS3.out.below hb4)
    have hB4 := bnext hB3 hb4
    have HYL := hidI (show (bump W v0 (lev l) (A - needs (lev l) v0)).length = l.length by rw [bump_len, lev_len])
    have HYO := hidI (show LevOk (bump W v0 (lev l) (A - needs (lev l) v0)) from bump_ok HL.out hu.1 hu.2.1 hW1)
    clear hu hN4 hb4 HS3 hB3 HN2' HN3
    obtain ⟨ys, hys⟩ : ∃ ys, bump W v0 (lev l) (A - needs (lev l) v0) = ys := ⟨_, rfl⟩
    rw [hys] at HN4 HYL HYO ⊢
    have HY := Lib.hid hys
    clear hys
    go_wp2_with fail
    refine (shares_any l hl (lev l) ys (lev_len l) HYL.out HL.out HYO.out _ _ _ w4 HS4.out HN2.out HN4.out).mono ?_
    rintro e w5 ⟨A5, c5, rfl, ho, hb5⟩
    have HO := Lib.hid ho
    clear ho
    go_wp2_with fail
    go_ret2
    exact ⟨_, 0, A5, c5, .inr ⟨HK.out, rfl, v0, HU.out, by rw [HY.out, shr_up l ys HYL.out]⟩, rfl, SlAt.own HO.out, bnext hB4 hb5⟩
  · have hne : (askE l [W, A] != 0) = true := by rw [bne_iff_ne]; exact hk
    have HK := Lib.hid hk
    clear hk
    go_enter Try.func24, Try.ntmps24
    go_wp2_with fail
    refine HR.out.mono ?_
    rintro e w1 ⟨rfl, hb1⟩
    rw [ask_zero1]
    go_wp2_with fail
    go_ret2
    exact ⟨[], _, none, 0, .inl ⟨HK.out, rfl, rfl⟩, rfl, SlAt.nil _ _, hb1⟩
set_option maxHeartbeats 2000000 in
theorem rLower_all (l : List Cl) (hw : ClWf l) (A : Int) (hA : 0 ≤ A) (v : Value) (w : World) (hS : ClAt w v l) :
    Calls Try.prog 25 #[v, .int .u64 A] w (RetX (LwS l A) w) := by
  have HR := Lib.hid (rasks_any l A 0 0 v w hS)
  have HS := Lib.hid hS
  clear hS
  by_cases hk : askE l [A] = 0
  · obtain ⟨hl, hL, _, hx⟩ := ask_ok hw hk
    have hA1 := hx A (by simp)
    have HK := Lib.hid hk
    have HL := Lib.hid hL
    clear hk hx hL
    go_enter Try.func25, Try.ntmps25
    go_wp2_with fail
    refine HR.out.mono ?_
    rintro e w1 ⟨rfl, hb1⟩
    rw [ask_zero2, HK.out]
    have HS1 := Lib.hid (HS.out.below hb1)
    have hB1 := hb1
    clear hb1
    go_wp2_with fail
    refine (levels_any l v w1 HS1.out (by omega)).mono ?_
    rintro e w2 ⟨A2, c2, rfl, hN2, hb2⟩
    have HN2 := Lib.hid hN2
    have HS2 := Lib.hid (HS1.out.below hb2)
    have hB2 := bnext hB1 hb2
    clear hN2 hb2 HS1 hB1
    go_wp2_with fail
    refine (lowered_any (lev l) (by rw [lev_len]; exact hl) HL.out A hA hA1 _ w2 HN2.out).mono ?_
    rintro e w4 ⟨v0, hu, A4, c4, rfl, hN4, hb4⟩
    have HU := Lib.hid hu
    have HN4 := Lib.hid hN4
    have HS4 := Lib.hid (HS2.out.below hb4)
    have hB4 := bnext hB2 hb4
    have HYL := hidI (show (low v0 (lev l) (A - gives (lev l) v0)).length = l.length by rw [low_len, lev_len])
    have HYO := hidI (show LevOk (low v0 (lev l) (A - gives (lev l) v0)) from low_ok HL.out hu.1)
    clear hu hN4 hb4 HS2 hB2 HN2
    obtain ⟨ys, hys⟩ : ∃ ys, low v0 (lev l) (A - gives (lev l) v0) = ys := ⟨_, rfl⟩
    rw [hys] at HN4 HYL HYO ⊢
    have HY := Lib.hid hys
    clear hys
    go_wp2_with fail
    refine (levels_any l v w4 HS4.out (by omega)).mono ?_
    rintro e w5 ⟨A5, c5, rfl, hN5, hb5⟩
    have HN5 := Lib.hid hN5
    have HN4' := Lib.hid (HN4.out.below hb5)
    have HS5 := Lib.hid (HS4.out.below hb5)
    have hB5 := bnext hB4 hb5
    clear hN5 hb5 HS4 hB4 HN4
    go_wp2_with fail
    refine (shares_any l hl ys (lev l) HYL.out (lev_len l) HYO.out HL.out _ _ _ w5 HS5.out HN4'.out HN5.out).mono ?_
    rintro e w6 ⟨A6, c6, rfl, ho, hb6⟩
    have HO := Lib.hid ho
    clear ho
    go_wp2_with fail
    go_ret2
    exact ⟨_, 0, A6, c6, .inr ⟨HK.out, rfl, v0, HU.out, by rw [HY.out, shr_down l ys HYL.out]⟩, rfl, SlAt.own HO.out, bnext hB5 hb6⟩
  · have hne : (askE l [A] != 0) = true := by rw [bne_iff_ne]; exact hk
    have HK := Lib.hid hk
    clear hk
    go_enter Try.func25, Try.ntmps25
    go_wp2_with fail
    refine HR.out.mono ?_
    rintro e w1 ⟨rfl, hb1⟩
    rw [ask_zero2]
    go_wp2_with fail
    go_ret2
    exact ⟨[], _, none, 0, .inl ⟨HK.out, rfl, rfl⟩, rfl, SlAt.nil _ _, hb1⟩
theorem act_wf {l : List Cl} (h : ClWf l) : ClWf (act l) := fun c hc => h c (List.mem_filter.1 hc).1
theorem cchk_act {l : List Cl} (h : (cchk l).1 = 0) : (cchk (act l)).1 = 0 := by
  unfold cchk at h ⊢
  split at h
  · exact absurd h (by decide)
  · rename_i h1
    have := act_len l
    rw [if_neg (by omega)]
    have hf : Well 0 (act l) := well_filter ((cscan_well 0 0 l).1 h) _
    rw [cscan_two 0 0 _ hf]
theorem ask_act {l : List Cl} {xs ys : List Int} (h : askE l xs = 0) (hy : ∀ y ∈ ys, y ≤ 1125899906842624) : askE (act l) ys = 0 := by
  have h0 : (cchk l).1 = 0 := by
    unfold askE at h
    split at h
    · rename_i h1; exact absurd h h1
    · rename_i h1
      by_cases h2 : (cchk l).1 = 0
      · exact h2
      · exact absurd h2 h1
  unfold askE
  rw [cchk_act h0, if_neg (by simp), if_neg]
  intro hb
  obtain ⟨x, h1, h2⟩ := List.any_eq_true.1 hb
  have := hy x h1
  simp at h2
  omega
set_option maxHeartbeats 2000000 in
theorem rGrants_all (l : List Cl) (hw : ClWf l) (F L W : Int) (hF : 0 ≤ F) (hL0 : 0 ≤ L) (hW : 0 ≤ W) (v : Value) (w : World) (hS : ClAt w v l) :
    Calls Try.prog 18 #[v, .int .u64 F, .int .u64 L, .int .u64 W] w (RetX (GrS l F L W) w) := by
  have HR := Lib.hid (rasks_any l F L W v w hS)
  have HS := Lib.hid hS
  clear hS
  by_cases hk : askE l [F, L, W] = 0
  · obtain ⟨hl, hL, _, hx⟩ := ask_ok hw hk
    have hW1 := hx W (by simp)
    have hF1 := hx F (by simp)
    have HK := Lib.hid hk
    have HL := Lib.hid (act_lev hL)
    clear hk hx hL
    by_cases hFL : F ≤ L
    · have HO : Hid (over F L = 0) := hidI (by unfold over mx; split <;> omega)
      go_enter Try.func18, Try.ntmps18
      go_wp2_with fail
      refine HR.out.mono ?_
      rintro e w1 ⟨rfl, hb1⟩
      rw [HK.out]
      go_wp2_with fail
      go_ret2
      exact ⟨[], 0, none, 0, .inr ⟨HK.out, rfl, by rw [HO.out]; exact upS_nil HL.out hW⟩, rfl, SlAt.nil _ _, hb1⟩
    · have HO : Hid (over F L = F - L) := hidI (by unfold over mx; split <;> omega)
      have HA := hidI (ask_act (ys := [W, F - L]) HK.out (by intro y hy; simp at hy; rcases hy with rfl | rfl <;> omega))
      go_enter Try.func18, Try.ntmps18
      go_wp2_with fail
      refine HR.out.mono ?_
      rintro e w1 ⟨rfl, hb1⟩
      rw [HK.out]
      have HS1 := Lib.hid (HS.out.below hb1)
      have hB1 := hb1
      clear hb1
      go_wp2_with fail
      refine (ractive_any l v w1 HS1.out (by omega)).mono ?_
      rintro e w2 ⟨A2, c2, rfl, ho2, hb2⟩
      have HC2 := hidI (show ClAt w2 (.slice A2 (act l).length c2) (act l) from SlAt.own ho2)
      have hB2 := bnext hB1 hb2
      clear ho2 hb2 HS1 hB1
      go_wp2_with fail
      refine (rFill_all (act l) (act_wf hw) W (F - L) hW (by omega) _ w2 HC2.out).mono ?_
      rintro e w3 ⟨S, er, A3, c3, hP, rfl, hT, hb3⟩
      rcases hP with ⟨hP, _⟩ | ⟨_, rfl, hP⟩
      · exact absurd HA.out hP
      · have HP := Lib.hid hP
        have HT := Lib.hid hT
        clear hP hT
        go_wp2_with fail
        go_ret2
        exact ⟨S, 0, A3, c3, .inr ⟨HK.out, rfl, by rw [HO.out]; exact HP.out⟩, rfl, HT.out, bnext hB2 hb3⟩
  · have hne : (askE l [F, L, W] != 0) = true := by rw [bne_iff_ne]; exact hk
    have HK := Lib.hid hk
    clear hk
    go_enter Try.func18, Try.ntmps18
    go_wp2_with fail
    refine HR.out.mono ?_
    rintro e w1 ⟨rfl, hb1⟩
    go_wp2_with fail
    go_ret2
    exact ⟨[], _, none, 0, .inl ⟨HK.out, rfl, rfl⟩, rfl, SlAt.nil _ _, hb1⟩
set_option maxHeartbeats 2000000 in
theorem rReclaims_all (l : List Cl) (hw : ClWf l) (F L : Int) (hF : 0 ≤ F) (hL0 : 0 ≤ L) (v : Value) (w : World) (hS : ClAt w v l) :
    Calls Try.prog 20 #[v, .int .u64 F, .int .u64 L] w (RetX (RcS l F L) w) := by
  have HR := Lib.hid (rasks_any l F L 0 v w hS)
  have HS := Lib.hid hS
  clear hS
  by_cases hk : askE l [F, L] = 0
  · obtain ⟨hl, hL, _, hx⟩ := ask_ok hw hk
    have hL1 := hx L (by simp)
    have HK := Lib.hid hk
    have HL := Lib.hid (act_lev hL)
    clear hk hx hL
    by_cases hFL : L ≤ F
    · have HO : Hid (over L F = 0) := hidI (by unfold over mx; split <;> omega)
      go_enter Try.func20, Try.ntmps20
      go_wp2_with fail
      refine HR.out.mono ?_
      rintro e w1 ⟨rfl, hb1⟩
      rw [ask_zero1, HK.out]
      go_wp2_with fail
      go_ret2
      exact ⟨[], 0, none, 0, .inr ⟨HK.out, rfl, by rw [HO.out]; exact dnS_nil HL.out⟩, rfl, SlAt.nil _ _, hb1⟩
    · have HO : Hid (over L F = L - F) := hidI (by unfold over mx; split <;> omega)
      have HA := hidI (ask_act (ys := [L - F]) HK.out (by intro y hy; simp at hy; omega))
      go_enter Try.func20, Try.ntmps20
      go_wp2_with fail
      refine HR.out.mono ?_
      rintro e w1 ⟨rfl, hb1⟩
      rw [ask_zero1, HK.out]
      have HS1 := Lib.hid (HS.out.below hb1)
      have hB1 := hb1
      clear hb1
      go_wp2_with fail
      refine (ractive_any l v w1 HS1.out (by omega)).mono ?_
      rintro e w2 ⟨A2, c2, rfl, ho2, hb2⟩
      have HC2 := hidI (show ClAt w2 (.slice A2 (act l).length c2) (act l) from SlAt.own ho2)
      have hB2 := bnext hB1 hb2
      clear ho2 hb2 HS1 hB1
      go_wp2_with fail
      refine (rLower_all (act l) (act_wf hw) (L - F) (by omega) _ w2 HC2.out).mono ?_
      rintro e w3 ⟨S, er, A3, c3, hP, rfl, hT, hb3⟩
      rcases hP with ⟨hP, _⟩ | ⟨_, rfl, hP⟩
      · exact absurd HA.out hP
      · have HP := Lib.hid hP
        have HT := Lib.hid hT
        clear hP hT
        go_wp2_with fail
        go_ret2
        exact ⟨S, 0, A3, c3, .inr ⟨HK.out, rfl, by rw [HO.out]; exact HP.out⟩, rfl, HT.out, bnext hB2 hb3⟩
  · have hne : (askE l [F, L] != 0) = true := by rw [bne_iff_ne]; exact hk
    have HK := Lib.hid hk
    clear hk
    go_enter Try.func20, Try.ntmps20
    go_wp2_with fail
    refine HR.out.mono ?_
    rintro e w1 ⟨rfl, hb1⟩
    rw [ask_zero1]
    go_wp2_with fail
    go_ret2
    exact ⟨[], _, none, 0, .inl ⟨HK.out, rfl, rfl⟩, rfl, SlAt.nil _ _, hb1⟩
end Go.Proofs.Ytlpdebbedoibiaa
