/- PolicyShares: the walk. -/
import Derived.Test.YtlpdebbedoibiaaQ7
namespace Go.Proofs.Ytlpdebbedoibiaa
open Go.RowKit
set_option linter.unusedVariables false
set_option linter.unusedSimpArgs false

set_option maxRecDepth 100000 in
set_option maxHeartbeats 8000000 in
theorem PolicyShares_t (l : List Cl) (hw : ClWf l) (W A : Int) (hW : 0 ≤ W) (hA : 0 ≤ A) (v : Value) (w : World) (hS : ClAt w v l) :
    Calls Try.prog 7 #[v, .int .u64 W, .int .u64 A] w (RetB true w) := by
  obtain ⟨Ad, c, rfl, hc1, hc2, _⟩ := id hS
  unfold maxLen at hc2
  have HS := Lib.hid hS
  clear hS
  by_cases h20 : l.length ≤ 20
  · have hi : (l.length : Int) ≤ 20 := by omega
    go_enter Try.func7, Try.ntmps7
    go_wp2_with fail
    refine (own_at l _ w HS.out (by omega)).mono ?_
    rintro e w1 ⟨A1, c1, rfl, hP, hb1⟩
    have S_1 := Lib.hid (HS.out.below hb1)
    clear HS
    have hB_1 := hb1
    have P_1 := Lib.hid (hP)
    clear hP
    clear hb1
    go_wp2_with fail
    refine (Check_any l _ w1 P_1.out).mono ?_
    rintro e w2 ⟨rfl, hb2⟩
    have S_2 := Lib.hid (S_1.out.below hb2)
    clear S_1
    have P_2 := Lib.hid (P_1.out.below hb2)
    clear P_1
    have hB_2 := bnext hB_1 hb2
    clear hB_1
    clear hb2
    go_wp2_with fail
    refine (rCheck_any l _ w2 S_2.out).mono ?_
    rintro e w3 ⟨rfl, hb3⟩
    have S_3 := Lib.hid (S_2.out.below hb3)
    clear S_2
    have P_3 := Lib.hid (P_2.out.below hb3)
    clear P_2
    have hB_3 := bnext hB_2 hb3
    clear hB_2
    clear hb3
    go_wp2_with fail
    refine (Fill_all l hw W A hW hA _ w3 P_3.out).mono ?_
    rintro e w4 ⟨S2, e2, A2, c2, hq2, rfl, hT, hb4⟩
    have HQ2 := Lib.hid hq2
    clear hq2
    have S_4 := Lib.hid (S_3.out.below hb4)
    clear S_3
    have P_4 := Lib.hid (P_3.out.below hb4)
    clear P_3
    have hB_4 := bnext hB_3 hb4
    clear hB_3
    have T_4 := Lib.hid (hT)
    clear hT
    clear hb4
    go_wp2_with fail
    refine (rFill_all l hw W A hW hA _ w4 S_4.out).mono ?_
    rintro e w5 ⟨S3, e3, A3, c3, hq3, rfl, hU, hb5⟩
    obtain ⟨hS23, he23⟩ := HQ2.out.uniq hq3
    subst he23
    obtain rfl : S2 = S3 := hS23
    clear hq3 HQ2
    have S_5 := Lib.hid (S_4.out.below hb5)
    clear S_4
    have P_5 := Lib.hid (P_4.out.below hb5)
    clear P_4
    have T_5 := Lib.hid (T_4.out.below hb5)
    clear T_4
    have hB_5 := bnext hB_4 hb5
    clear hB_4
    have U_5 := Lib.hid (hU)
    clear hU
    clear hb5
    go_wp2_with fail
    refine (same_t S2 _ _ w5 T_5.out U_5.out).mono ?_
    rintro e w6 ⟨rfl, hb6⟩
    clear T_5
    clear U_5
    have S_6 := Lib.hid (S_5.out.below hb6)
    clear S_5
    have P_6 := Lib.hid (P_5.out.below hb6)
    clear P_5
    have hB_6 := bnext hB_5 hb6
    clear hB_5
    clear hb6
    go_wp2_with fail
    refine (Lower_all l hw A hA _ w6 P_6.out).mono ?_
    rintro e w7 ⟨S4, e4, A4, c4, hq4, rfl, hT, hb7⟩
    have HQ4 := Lib.hid hq4
    clear hq4
    have S_7 := Lib.hid (S_6.out.below hb7)
    clear S_6
    have P_7 := Lib.hid (P_6.out.below hb7)
    clear P_6
    have hB_7 := bnext hB_6 hb7
    clear hB_6
    have T_7 := Lib.hid (hT)
    clear hT
    clear hb7
    go_wp2_with fail
    refine (rLower_all l hw A hA _ w7 S_7.out).mono ?_
    rintro e w8 ⟨S5, e5, A5, c5, hq5, rfl, hU, hb8⟩
    obtain ⟨hS45, he45⟩ := HQ4.out.uniq hq5
    subst he45
    obtain rfl : S4 = S5 := hS45
    clear hq5 HQ4
    have S_8 := Lib.hid (S_7.out.below hb8)
    clear S_7
    have P_8 := Lib.hid (P_7.out.below hb8)
    clear P_7
    have T_8 := Lib.hid (T_7.out.below hb8)
    clear T_7
    have hB_8 := bnext hB_7 hb8
    clear hB_7
    have U_8 := Lib.hid (hU)
    clear hU
    clear hb8
    go_wp2_with fail
    refine (Levels_all l hw W A hW hA _ w8 P_8.out).mono ?_
    rintro e w9 ⟨x1, y1, z1, hq6, rfl, hb9⟩
    have HQ6 := Lib.hid hq6
    clear hq6
    have S_9 := Lib.hid (S_8.out.below hb9)
    clear S_8
    have P_9 := Lib.hid (P_8.out.below hb9)
    clear P_8
    have T_9 := Lib.hid (T_8.out.below hb9)
    clear T_8
    have U_9 := Lib.hid (U_8.out.below hb9)
    clear U_8
    have hB_9 := bnext hB_8 hb9
    clear hB_8
    clear hb9
    go_wp2_with fail
    refine (rLevels_all l hw W A hW hA _ w9 S_9.out).mono ?_
    rintro e w10 ⟨x2, y2, z2, hq7, rfl, hb10⟩
    obtain ⟨hx, hy, hz⟩ := HQ6.out.uniq hq7
    subst hx
    subst hy
    subst hz
    clear hq7 HQ6
    have S_10 := Lib.hid (S_9.out.below hb10)
    clear S_9
    have P_10 := Lib.hid (P_9.out.below hb10)
    clear P_9
    have T_10 := Lib.hid (T_9.out.below hb10)
    clear T_9
    have U_10 := Lib.hid (U_9.out.below hb10)
    clear U_9
    have hB_10 := bnext hB_9 hb10
    clear hB_9
    clear hb10
    go_wp2_with fail
    refine (same_t S4 _ _ w10 T_10.out U_10.out).mono ?_
    rintro e w11 ⟨rfl, hb11⟩
    clear T_10
    clear U_10
    have S_11 := Lib.hid (S_10.out.below hb11)
    clear S_10
    have P_11 := Lib.hid (P_10.out.below hb11)
    clear P_10
    have hB_11 := bnext hB_10 hb11
    clear hB_10
    clear hb11
    go_wp2_with fail
    refine (sameClaims_t l _ _ w11 P_11.out S_11.out).mono ?_
    rintro e w12 ⟨rfl, hb12⟩
    have S_12 := Lib.hid (S_11.out.below hb12)
    clear S_11
    have P_12 := Lib.hid (P_11.out.below hb12)
    clear P_11
    have hB_12 := bnext hB_11 hb12
    clear hB_11
    clear hb12
    go_wp2_with fail
    refine (awake_t w12).mono ?_
    rintro e w13 ⟨rfl, hb13⟩
    have S_13 := Lib.hid (S_12.out.below hb13)
    clear S_12
    have P_13 := Lib.hid (P_12.out.below hb13)
    clear P_12
    have hB_13 := bnext hB_12 hb13
    clear hB_12
    clear hb13
    go_wp2_with fail
    go_ret
    exact ⟨rfl, hB_13⟩
  · have hi : (20 : Int) < l.length := by omega
    go_enter Try.func7, Try.ntmps7
    go_wp2_with fail
    refine (awake_t _).mono ?_
    rintro e w9 ⟨rfl, hb9⟩
    go_wp2_with fail
    go_ret
    exact ⟨rfl, hb9⟩
end Go.Proofs.Ytlpdebbedoibiaa
