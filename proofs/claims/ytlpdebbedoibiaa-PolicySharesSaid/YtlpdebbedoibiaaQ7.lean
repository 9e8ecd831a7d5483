/- Contract: the reference's least and greatest level; PolicyDecides and PolicyShares: the walks. -/
import Derived.Test.YtlpdebbedoibiaaQ6
namespace Go.Proofs.Ytlpdebbedoibiaa
open Go.RowKit
set_option linter.unusedVariables false
set_option linter.unusedSimpArgs false

set_option maxRecDepth 100000 in
set_option maxHeartbeats 4000000 in
theorem rLevels_all (l : List Cl) (hw : ClWf l) (W A : Int) (hW : 0 ≤ W) (hA : 0 ≤ A) (v : Value) (w : World) (hS : ClAt w v l) :
    Calls Try.prog 27 #[v, .int .u64 W, .int .u64 A] w (RetLv l W A w) := by
  have HR := Lib.hid (rasks_any l W A 0 v w hS)
  have HS := Lib.hid hS
  clear hS
  by_cases hk : askE l [W, A] = 0
  · obtain ⟨hl, hL, _, hx⟩ := ask_ok hw hk
    have hW1 := hx W (by simp)
    have hA1 := hx A (by simp)
    have HK := Lib.hid hk
    have HL := Lib.hid hL
    clear hk hx hL
    go_enter Try.func27, Try.ntmps27
    go_wp2_with fail
    refine HR.out.mono ?_
    rintro e w1 ⟨rfl, hb1⟩
    rw [ask_zero1, HK.out]
    have HS1 := Lib.hid (HS.out.below hb1)
    have hB1 := hb1
    clear hb1
    go_wp2_with fail
    refine (levels_any l v w1 HS1.out (by omega)).mono ?_
    rintro e w2 ⟨A2, c2, rfl, hN2, hb2⟩
    have HN2 := Lib.hid hN2
    have hB2 := bnext hB1 hb2
    clear hN2 hb2 HS1 hB1
    go_wp2_with fail
    refine (filled_any (lev l) (by rw [lev_len]; exact hl) HL.out W A hW hW1 hA hA1 _ w2 HN2.out).mono ?_
    rintro e w4 ⟨v0, hu, A4, c4, rfl, hN4, hb4⟩
    have HU := Lib.hid hu
    have hB4 := bnext hB2 hb4
    have hyl := (show (bump W v0 (lev l) (A - needs (lev l) v0)).length = l.length by rw [bump_len, lev_len])
    have HYR := hidI (show ∀ y ∈ bump W v0 (lev l) (A - needs (lev l) v0), 0 ≤ y ∧ y ≤ 1125899906842624 from bump_ok HL.out hu.1 hu.2.1 hW1)
    obtain ⟨ys, hys⟩ : ∃ ys, bump W v0 (lev l) (A - needs (lev l) v0) = ys := ⟨_, rfl⟩
    rw [hys] at hN4 hyl HYR ⊢
    have HN := Lib.hid hN4
    have HY := Lib.hid hys
    have hy16 : ys.length ≤ 16 := by omega
    obtain ⟨_, hc3, hc4⟩ := hN4.caps
    clear hu hb4 hB2 HN2 hys hN4 hyl
    go_wp2_with fail
    go_loopw [11, 12, 13] (fun p q a wr => ∃ k : Nat, k ≤ ys.length ∧ a = .int .i64 k ∧ p = .int .u64 (lo (ys.take k)) ∧ q = .int .u64 (top (ys.take k)) ∧ Below w4.heap.size w4 wr) (fun _ _ a _ => ys.length - (intOf a).toNat)
    case atStart => exact ⟨0, by omega, rfl, rfl, rfl, Below.refl _ _⟩
    case round =>
      obtain ⟨k, hk, rfl, rfl, rfl, hB⟩ := hrel
      by_cases hlt : k < ys.length
      · obtain ⟨y, hy⟩ : ∃ y, ys[k]? = some y := ⟨_, List.getElem?_eq_getElem hlt⟩
        obtain ⟨b, o, rfl, hb, d0⟩ := (HN.out.below hB).get hy
        have hi : (k : Int) < ys.length := by omega
        obtain ⟨hy0, hy1⟩ := HYR.out y (List.mem_of_getElem? hy)
        have hll := lo_rng (ys.take k) (m := 1125899906842624) (fun z hz => HYR.out z (List.mem_of_mem_take hz)) (by decide)
        have hhh := top_rng (ys.take k) (m := 1125899906842624) (fun z hz => HYR.out z (List.mem_of_mem_take hz)) (by decide)
        obtain ⟨hl0, hl1⟩ := hll
        obtain ⟨hh0, hh1⟩ := hhh
        have HLO := hidI (lo_snoc (ys.take k) y)
        have HHI := hidI (top_snoc (ys.take k) y)
        rw [← take_snoc' hy] at HLO HHI
        have HKE : Hid (ys.take k = [] ↔ k = 0) := hidI (by
          constructor
          · intro h
            have h2 : (ys.take k).length = 0 := by rw [h]; rfl
            rw [List.length_take] at h2
            omega
          · rintro rfl; rfl)
        clear hy
        generalize lo (ys.take k) = ll at *
        generalize top (ys.take k) = hh at *
        by_cases hk0 : k = 0
        · have HK0 := Lib.hid (HKE.out.2 hk0)
          have t0 : ((k : Int) == 0) = true := by rw [beq_iff_eq]; omega
          clear hk0
          by_cases c3 : hh < y
          · go_wp2_with fail
            go_roundw
            case rel => exact ⟨k + 1, by omega, by go_num, by rw [HLO.out, if_pos HK0.out], by rw [HHI.out, if_pos c3], hB⟩
            case measure => simp [intOf]; omega
          · go_wp2_with fail
            all_goals go_roundw
            case rel => exact ⟨k + 1, by omega, by go_num, by rw [HLO.out, if_pos HK0.out], by rw [HHI.out, if_neg c3], hB⟩
            case measure => simp [intOf]; omega
        · have HK0 : Hid (¬ ys.take k = []) := hidI (fun h => hk0 (HKE.out.1 h))
          have t0 : ((k : Int) == 0) = false := by rw [beq_eq_false_iff_ne]; omega
          clear hk0
          by_cases c2 : y < ll
          · by_cases c3 : hh < y
            · go_wp2_with fail
              go_roundw
              case rel => exact ⟨k + 1, by omega, by go_num, by rw [HLO.out, if_neg HK0.out, if_pos c2], by rw [HHI.out, if_pos c3], hB⟩
              case measure => simp [intOf]; omega
            · go_wp2_with fail
              all_goals go_roundw
              case rel => exact ⟨k + 1, by omega, by go_num, by rw [HLO.out, if_neg HK0.out, if_pos c2], by rw [HHI.out, if_neg c3], hB⟩
              case measure => simp [intOf]; omega
          · by_cases c3 : hh < y
            · go_wp2_with fail
              go_roundw
              case rel => exact ⟨k + 1, by omega, by go_num, by rw [HLO.out, if_neg HK0.out, if_neg c2], by rw [HHI.out, if_pos c3], hB⟩
              case measure => simp [intOf]; omega
            · go_wp2_with fail
              all_goals go_roundw
              case rel => exact ⟨k + 1, by omega, by go_num, by rw [HLO.out, if_neg HK0.out, if_neg c2], by rw [HHI.out, if_neg c3], hB⟩
              case measure => simp [intOf]; omega
      · obtain rfl : k = ys.length := by omega
        have HT : Hid (ys.take ys.length = ys) := hidI (List.take_of_length_le (Nat.le_refl _))
        rw [HT.out]
        go_wp2_with fail
        go_ret3
        exact ⟨_, _, 0, .inr ⟨HK.out, rfl, v0, HU.out, rfl, rfl⟩, by rw [HY.out]; rfl, bnext hB4 hB⟩
  · have hne : (askE l [W, A] != 0) = true := by rw [bne_iff_ne]; exact hk
    have HK := Lib.hid hk
    clear hk
    go_enter Try.func27, Try.ntmps27
    go_wp2_with fail
    refine HR.out.mono ?_
    rintro e w1 ⟨rfl, hb1⟩
    rw [ask_zero1]
    go_wp2_with fail
    go_ret3
    exact ⟨0, 0, _, .inl ⟨HK.out, rfl, rfl, rfl⟩, rfl, hb1⟩

/-- an own copy of claims -/
def OwnPost (l : List Cl) (w : World) (e : Ending) (w' : World) : Prop := ∃ A c, e = .returned (.slice A l.length c) ∧ ClAt w' (.slice A l.length c) l ∧ Below w.heap.size w w'
theorem own_at (l : List Cl) (v : Value) (w : World) (hS : ClAt w v l) (hl : l.length ≤ 1000) :
    Calls Try.prog 16 #[v] w (OwnPost l w) :=
  (own_any l v w hS hl).mono fun e w' ⟨A, c, he, ho, hb⟩ => ⟨A, c, he, SlAt.own ho, hb⟩

set_option maxRecDepth 100000 in
set_option maxHeartbeats 8000000 in
theorem PolicyDecides_t (l : List Cl) (hw : ClWf l) (F L W : Int) (hF : 0 ≤ F) (hL : 0 ≤ L) (hW : 0 ≤ W) (v : Value) (w : World) (hS : ClAt w v l) :
    Calls Try.prog 5 #[v, .int .u64 F, .int .u64 L, .int .u64 W] w (RetB true w) := by
  obtain ⟨Ad, c, rfl, hc1, hc2, _⟩ := id hS
  unfold maxLen at hc2
  have HS := Lib.hid hS
  clear hS
  by_cases h20 : l.length ≤ 20
  · have hi : (l.length : Int) ≤ 20 := by omega
    go_enter Try.func5, Try.ntmps5
    go_wp2_with fail
    refine (own_at l _ w HS.out (by omega)).mono ?_
    rintro e w1 ⟨A1, c1, rfl, hP, hb1⟩
    have HP := Lib.hid hP
    have HS1 := Lib.hid (HS.out.below hb1)
    have hB1 := hb1
    clear hP hb1
    go_wp2_with fail
    refine (Grants_all l hw F L W hF hL hW _ w1 HP.out).mono ?_
    rintro e w2 ⟨S2, e2, A2, c2, hq2, rfl, hT2, hb2⟩
    have HQ2 := Lib.hid hq2
    have HT2 := Lib.hid hT2
    have HS2 := Lib.hid (HS1.out.below hb2)
    have HP2 := Lib.hid (HP.out.below hb2)
    have hB2 := bnext hB1 hb2
    clear hq2 hT2 hb2 HS1 HP hB1
    go_wp2_with fail
    refine (rGrants_all l hw F L W hF hL hW _ w2 HS2.out).mono ?_
    rintro e w3 ⟨S3, e3, A3, c3, hq3, rfl, hT3, hb3⟩
    obtain ⟨hS23, he23⟩ := HQ2.out.uniq hq3
    subst he23
    obtain rfl : S2 = S3 := hS23
    have HT3 := Lib.hid hT3
    have HT2' := Lib.hid (HT2.out.below hb3)
    have HS3 := Lib.hid (HS2.out.below hb3)
    have HP3 := Lib.hid (HP2.out.below hb3)
    have hB3 := bnext hB2 hb3
    clear hq3 hT3 hb3 HS2 HP2 hB2 HQ2 HT2
    go_wp2_with fail
    refine (Reclaims_all l hw F L hF hL _ w3 HP3.out).mono ?_
    rintro e w4 ⟨S4, e4, A4, c4, hq4, rfl, hT4, hb4⟩
    have HQ4 := Lib.hid hq4
    have HT4 := Lib.hid hT4
    have HT2 := Lib.hid (HT2'.out.below hb4)
    have HT3' := Lib.hid (HT3.out.below hb4)
    have HS4 := Lib.hid (HS3.out.below hb4)
    have HP4 := Lib.hid (HP3.out.below hb4)
    have hB4 := bnext hB3 hb4
    clear hq4 hT4 hb4 HS3 HP3 hB3 HT2' HT3
    go_wp2_with fail
    refine (rReclaims_all l hw F L hF hL _ w4 HS4.out).mono ?_
    rintro e w5 ⟨S5, e5, A5, c5, hq5, rfl, hT5, hb5⟩
    obtain ⟨hS45, he45⟩ := HQ4.out.uniq hq5
    subst he45
    obtain rfl : S4 = S5 := hS45
    have HT5 := Lib.hid hT5
    have HT4' := Lib.hid (HT4.out.below hb5)
    have HT2' := Lib.hid (HT2.out.below hb5)
    have HT3 := Lib.hid (HT3'.out.below hb5)
    have HS5 := Lib.hid (HS4.out.below hb5)
    have HP5 := Lib.hid (HP4.out.below hb5)
    have hB5 := bnext hB4 hb5
    clear hq5 hT5 hb5 HS4 HP4 hB4 HT2 HT3' HQ4 HT4
    go_wp2_with fail
    refine (same_t S2 _ _ w5 HT2'.out HT3.out).mono ?_
    rintro e w6 ⟨rfl, hb6⟩
    have HT4 := Lib.hid (HT4'.out.below hb6)
    have HT5' := Lib.hid (HT5.out.below hb6)
    have HS6 := Lib.hid (HS5.out.below hb6)
    have HP6 := Lib.hid (HP5.out.below hb6)
    have hB6 := bnext hB5 hb6
    clear hb6 HS5 HP5 hB5 HT4' HT5 HT2' HT3
    go_wp2_with fail
    refine (same_t S4 _ _ w6 HT4.out HT5'.out).mono ?_
    rintro e w7 ⟨rfl, hb7⟩
    have HS7 := Lib.hid (HS6.out.below hb7)
    have HP7 := Lib.hid (HP6.out.below hb7)
    have hB7 := bnext hB6 hb7
    clear hb7 HS6 HP6 hB6 HT4 HT5'
    go_wp2_with fail
    refine (sameClaims_t l _ _ w7 HP7.out HS7.out).mono ?_
    rintro e w8 ⟨rfl, hb8⟩
    have hB8 := bnext hB7 hb8
    clear hb8 HS7 HP7 hB7
    go_wp2_with fail
    refine (awake_t _).mono ?_
    rintro e w9 ⟨rfl, hb9⟩
    go_wp2_with fail
    go_ret
    exact ⟨rfl, bnext hB8 hb9⟩
  · have hi : (20 : Int) < l.length := by omega
    go_enter Try.func5, Try.ntmps5
    go_wp2_with fail
    refine (awake_t _).mono ?_
    rintro e w9 ⟨rfl, hb9⟩
    go_wp2_with fail
    go_ret
    exact ⟨rfl, hb9⟩
end Go.Proofs.Ytlpdebbedoibiaa
