/- Contracts on the way to this seat's statements; what each theorem says stands in its type. -/
import Derived.Test.YtblfdikjimagjaaW6
namespace Go.Proofs.Ytblfdikjimagjaa
set_option linter.unusedVariables false
open Go.RowKit

set_option maxHeartbeats 400000 in
theorem RTime_any (f m s k : Int) (w : World) : Calls Try.prog 13 #[.int .i64 f, .int .i64 m, .int .i64 s, .int .i64 k] w (Ret2 (timeV f m s k) (timeE f m s k) w) := by
  by_cases hc : Okc f m
  · by_cases hs : Tick s
    · by_cases hk : Tick k
      · have k1 := hk.1
        have k2 := hk.2
        have s1 := hs.1
        have s2 := hs.2
        have h1 := hc.1
        have h3 := hc.2.2.1
        have h4 := hc.2.2.2
        have fin : ∀ v : Int, v = s + sm m f (k.toNat + 1) → (Ret2 (timeV f m s k) (timeE f m s k) w) (.returned (.tuple #[.int .i64 (if 1099511627776 < v then 0 else v), .int .i64 (if 1099511627776 < v then 2 else 0)])) w := by
          intro v hv
          have b := (sm_le_big hc (k.toNat + 1) (by omega)).1
          by_cases hx : 1099511627776 < v
          · have hto : ¬ TimeOk f m s k := fun h => by have := h.2.2.2.2; omega
            refine ⟨?_, Below.refl _ _⟩
            rw [if_pos hx, if_pos hx, show timeV f m s k = 0 from if_neg hto, show timeE f m s k = 2 from if_neg hto]
          · have hto : TimeOk f m s k := ⟨hc, hs, hk, by constructor <;> omega⟩
            refine ⟨?_, Below.refl _ _⟩
            rw [if_neg hx, if_neg hx, show timeV f m s k = _ from if_pos hto, show timeE f m s k = 0 from if_pos hto, hv]
        have FIN := Lib.hid fin
        clear fin
        go_enter Try.func13, Try.ntmps13
        go_wp2_with fail
        refine (rchk_ok hc _).mono ?_
        rintro e w' ⟨rfl, rfl⟩
        go_wp2_with fail
        refine (doubled_any f m _ hc).mono ?_
        rintro e w' ⟨D, rfl, hD, hDb, rfl⟩
        have HD := Lib.hid hD
        clear hD
        go_wp2_with fail
        go_loop [13, 14] (fun t a => ∃ i : Nat, (i : Int) ≤ k + 1 ∧ i ≤ D ∧ a = .int .i64 i ∧ t = .int .i64 (s + sm m f i)) (fun _ a => D - (intOf a).toNat)
        case atStart => exact ⟨0, by omega, by omega, rfl, by simp [sm]⟩
        case round =>
          obtain ⟨i, hik, hiD, rfl, rfl⟩ := hrel
          have hb := wv_bd h1 h3 i
          have hs := sm_le_big hc i (by omega)
          have bD := sm_le_big hc D (by omega)
          have bK := sm_le_big hc (k.toNat + 1) (by omega)
          have bKD : (D : Int) ≤ k → m * (k + 1 - D) = sm m f (k.toNat + 1) - sm m f D := fun h => by have := time_top hc k1 HD.out h; omega
          have BKD := Lib.hid bKD
          clear bKD
          by_cases hlt : (i : Int) ≤ k
          · by_cases hm : i < D
            · go_wp2_with (go_at_call 33; refine (rwait_i _ _ _ _ hc (by omega) (by omega)).mono ?_; rintro e w' ⟨rfl, rfl⟩)
              go_round
              case rel => exact ⟨i + 1, by omega, by omega, by go_num, by simp only [sm]; go_num⟩
              case measure => simp [intOf]; omega
            · have hkD : (D : Int) ≤ k := by omega
              have q := BKD.out hkD
              have q1 : 0 ≤ m * (k + 1 - D) := Int.mul_nonneg (by omega) (by omega)
              have q2 : m * (k + 1 - D) ≤ 109951162777700000 := by omega
              have q3 : s + sm m f D + m * (k + 1 - D) = s + sm m f (k.toNat + 1) := by omega
              have Q := Lib.hid q3
              clear q q3
              by_cases hx : 1099511627776 < s + sm m f D + m * (k + 1 - D)
              all_goals
                go_wp2_with fail
                go_ret2
                have r := FIN.out _ Q.out
                first | rw [if_pos hx, if_pos hx] at r | rw [if_neg (Int.not_lt.2 hx), if_neg (Int.not_lt.2 hx)] at r
                exact r
          · have hkD : ¬ (D : Int) ≤ k := by omega
            have q : s + sm m f i = s + sm m f (k.toNat + 1) := by rw [show i = k.toNat + 1 from by omega]
            have Q := Lib.hid q
            clear q
            by_cases hx : 1099511627776 < s + sm m f i
            all_goals
              go_wp2_with fail
              go_ret2
              have r := FIN.out _ Q.out
              first | rw [if_pos hx, if_pos hx] at r | rw [if_neg (Int.not_lt.2 hx), if_neg (Int.not_lt.2 hx)] at r
              exact r
      · have hto : ¬ TimeOk f m s k := fun h => hk h.2.2.1
        have H1 : Hid (timeV f m s k = 0) := if_neg hto
        have H2 : Hid (timeE f m s k = 2) := if_neg hto
        have s1 := hs.1
        have s2 := hs.2
        by_cases k1 : k < 0
        · go_enter Try.func13, Try.ntmps13
          go_wp2_with (first | (go_at_call 15; refine (rchk_ok hc _).mono ?_; rintro e w' ⟨rfl, rfl⟩))
          go_ret2
          exact ⟨by rw [H1.out, H2.out]; rfl, (by repeat (first | exact Below.refl _ _ | refine Below.drew ?_ | refine below_drewN ?_ _ | refine bal ?_ _ | refine bnext ?_ (by assumption) | refine bset ?_ (by simp) _))⟩
        · have k2 : 1099511627776 < k := by unfold Tick at hk; omega
          go_enter Try.func13, Try.ntmps13
          go_wp2_with (first | (go_at_call 15; refine (rchk_ok hc _).mono ?_; rintro e w' ⟨rfl, rfl⟩))
          go_ret2
          exact ⟨by rw [H1.out, H2.out]; rfl, (by repeat (first | exact Below.refl _ _ | refine Below.drew ?_ | refine below_drewN ?_ _ | refine bal ?_ _ | refine bnext ?_ (by assumption) | refine bset ?_ (by simp) _))⟩
    · have hto : ¬ TimeOk f m s k := fun h => hs h.2.1
      have H1 : Hid (timeV f m s k = 0) := if_neg hto
      have H2 : Hid (timeE f m s k = 2) := if_neg hto
      by_cases k1 : s < 0
      · go_enter Try.func13, Try.ntmps13
        go_wp2_with (first | (go_at_call 15; refine (rchk_ok hc _).mono ?_; rintro e w' ⟨rfl, rfl⟩))
        go_ret2
        exact ⟨by rw [H1.out, H2.out]; rfl, (by repeat (first | exact Below.refl _ _ | refine Below.drew ?_ | refine below_drewN ?_ _ | refine bal ?_ _ | refine bnext ?_ (by assumption) | refine bset ?_ (by simp) _))⟩
      · have k2 : 1099511627776 < s := by unfold Tick at hs; omega
        go_enter Try.func13, Try.ntmps13
        go_wp2_with (first | (go_at_call 15; refine (rchk_ok hc _).mono ?_; rintro e w' ⟨rfl, rfl⟩))
        go_ret2
        exact ⟨by rw [H1.out, H2.out]; rfl, (by repeat (first | exact Below.refl _ _ | refine Below.drew ?_ | refine below_drewN ?_ _ | refine bal ?_ _ | refine bnext ?_ (by assumption) | refine bset ?_ (by simp) _))⟩
  · have hto : ¬ TimeOk f m s k := fun h => hc h.1
    have H1 : Hid (timeV f m s k = 0) := if_neg hto
    have H2 : Hid (timeE f m s k = 2) := if_neg hto
    go_enter Try.func13, Try.ntmps13
    go_wp2_with (first | (go_at_call 15; refine (rchk_no hc _).mono ?_; rintro e w' ⟨rfl, rfl⟩))
    go_ret2
    exact ⟨by rw [H1.out, H2.out]; rfl, (by repeat (first | exact Below.refl _ _ | refine Below.drew ?_ | refine below_drewN ?_ _ | refine bal ?_ _ | refine bnext ?_ (by assumption) | refine bset ?_ (by simp) _))⟩
