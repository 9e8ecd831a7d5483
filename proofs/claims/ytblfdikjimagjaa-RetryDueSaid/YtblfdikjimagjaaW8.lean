/- Contracts on the way to this seat's statements; what each theorem says stands in its type. -/
import Derived.Test.YtblfdikjimagjaaW7
import Derived.Test.YtblfdikjimagjaaW5
namespace Go.Proofs.Ytblfdikjimagjaa
set_option linter.unusedVariables false
open Go.RowKit

set_option maxHeartbeats 400000 in
theorem span_yes {f m s n : Int} (h : Asked f m s n) (w : World) : Calls Try.prog 38 #[.int .i64 f, .int .i64 m, .int .i64 s, .int .i64 n] w fun e w' => e = .returned (.int .i64 0) ∧ w = w' := by
  obtain ⟨hc, hs, hn, hl⟩ := h
  have s1 := hs.1
  have s2 := hs.2
  have n1 := hn.1
  have n2 := hn.2
  go_enter Try.func38, Try.ntmps38
  go_wp2_with (go_at_call 15; refine (rchk_ok hc _).mono ?_; rintro e w' ⟨rfl, rfl⟩)
  go_ret
  exact ⟨rfl, rfl⟩

set_option maxHeartbeats 400000 in
theorem span_no {f m s n : Int} (h : ¬ Asked f m s n) (w : World) : Calls Try.prog 38 #[.int .i64 f, .int .i64 m, .int .i64 s, .int .i64 n] w fun e w' => e = .returned (.int .i64 2) ∧ w = w' := by
  by_cases hc : Okc f m
  · by_cases a : s < 0
    · go_enter Try.func38, Try.ntmps38
      go_wp2_with (go_at_call 15; refine (rchk_ok hc _).mono ?_; rintro e w' ⟨rfl, rfl⟩)
      go_ret
      exact ⟨rfl, rfl⟩
    · by_cases b : 1099511627776 < s
      · go_enter Try.func38, Try.ntmps38
        go_wp2_with (go_at_call 15; refine (rchk_ok hc _).mono ?_; rintro e w' ⟨rfl, rfl⟩)
        go_ret
        exact ⟨rfl, rfl⟩
      · by_cases c : n < s
        · go_enter Try.func38, Try.ntmps38
          go_wp2_with (go_at_call 15; refine (rchk_ok hc _).mono ?_; rintro e w' ⟨rfl, rfl⟩)
          go_ret
          exact ⟨rfl, rfl⟩
        · have d : 1099511627776 < n := by
            by_cases d : 1099511627776 < n
            · exact d
            · exact absurd ⟨hc, ⟨by omega, by omega⟩, ⟨by omega, by omega⟩, by omega⟩ h
          clear h
          go_enter Try.func38, Try.ntmps38
          go_wp2_with (go_at_call 15; refine (rchk_ok hc _).mono ?_; rintro e w' ⟨rfl, rfl⟩)
          go_ret
          exact ⟨rfl, rfl⟩
  · go_enter Try.func38, Try.ntmps38
    go_wp2_with (go_at_call 15; refine (rchk_no hc _).mono ?_; rintro e w' ⟨rfl, rfl⟩)
    go_ret
    exact ⟨rfl, rfl⟩

theorem cn_iff {f m T : Int} (hc : Okc f m) (h0 : 0 ≤ T) (i : Nat) : sm m f i ≤ T ↔ i ≤ cn m f T := by
  have a := cn_fits hc.1 hc.2.2.1 h0
  constructor
  · intro h
    by_cases e : i ≤ cn m f T
    · exact e
    · have := sm_le hc.1 hc.2.2.1 (show cn m f T + 1 ≤ i by omega)
      have := a.2
      omega
  · intro h
    exact Int.le_trans (sm_le hc.1 hc.2.2.1 h) a.1

theorem cn_top {f m T : Int} (hc : Okc f m) (h0 : 0 ≤ T) {D : Nat} (hD : Dbl m f D) (h : sm m f D ≤ T) : (D : Int) + (T - sm m f D) / m = cn m f T := by
  have a := fits_top hc.1 hc.2.2.1 hD.2 h
  rw [← a.2.2, fits_cn hc.1 hc.2.2.1 h0 a.1]

set_option maxHeartbeats 400000 in
theorem RCount_any (f m s n : Int) (w : World) : Calls Try.prog 21 #[.int .i64 f, .int .i64 m, .int .i64 s, .int .i64 n] w (Ret2 (cntV f m s n) (cntE f m s n) w) := by
  by_cases h : Asked f m s n
  · have H1 : Hid (cntV f m s n = cn m f (n - s)) := if_pos h
    have H2 : Hid (cntE f m s n = 0) := if_pos h
    have hc := h.1
    have s1 := h.2.1.1
    have s2 := h.2.1.2
    have n1 := h.2.2.1.1
    have n2 := h.2.2.1.2
    have sn := h.2.2.2
    have h1 := hc.1
    have h3 := hc.2.2.1
    have h4 := hc.2.2.2
    go_enter Try.func21, Try.ntmps21
    go_wp2_with fail
    refine (span_yes h _).mono ?_
    rintro e w' ⟨rfl, rfl⟩
    go_wp2_with fail
    refine (doubled_any f m _ hc).mono ?_
    rintro e w' ⟨D, rfl, hD, hDb, rfl⟩
    have HD := Lib.hid hD
    clear hD
    have bD := sm_le_big hc D (by omega)
    by_cases hx : s + sm m f D ≤ n
    · have q := cn_top hc (by omega) HD.out (show sm m f D ≤ n - s by omega)
      have Q := Lib.hid q
      clear q
      have q1 : 0 ≤ (n - s - sm m f D) / m := Int.ediv_nonneg (by omega) (by omega)
      have q2 : (n - s - sm m f D) / m ≤ n - s - sm m f D := Int.ediv_le_self _ (by omega)
      go_wp2_with fail
      go_ret2
      exact ⟨by rw [H1.out, H2.out, ← Q.out]; rfl, (by repeat (first | exact Below.refl _ _ | refine Below.drew ?_ | refine below_drewN ?_ _ | refine bal ?_ _ | refine bnext ?_ (by assumption) | refine bset ?_ (by simp) _))⟩
    · go_wp2_with fail
      go_loop [13, 14, 15] (fun c t a => ∃ i : Nat, i ≤ D ∧ a = .int .i64 i ∧ t = .int .i64 (s + sm m f i) ∧ ∃ j : Nat, c = .int .i64 j ∧ j ≤ i ∧ (j = i ∨ j = cn m f (n - s)) ∧ j ≤ cn m f (n - s)) (fun _ _ a => D - (intOf a).toNat)
      case atStart => exact ⟨0, by omega, rfl, by simp [sm], 0, rfl, by omega, .inl rfl, by omega⟩
      case round =>
        obtain ⟨i, hiD, rfl, rfl, j, rfl, hji, hjj, hjc⟩ := hrel
        have HJ := Lib.hid hjj
        clear hjj
        have hb := wv_bd h1 h3 i
        have hs := sm_le_big hc i (by omega)
        have hi1 := Lib.hid (cn_iff hc (show 0 ≤ n - s by omega) (i + 1))
        by_cases hm : i < D
        · by_cases ht : s + sm m f i + wv m f i ≤ n
          · go_wp2_with (go_at_call 33; refine (rwait_i _ _ _ _ hc (by omega) (by omega)).mono ?_; rintro e w' ⟨rfl, rfl⟩)
            have e : i + 1 ≤ cn m f (n - s) := hi1.out.1 (by simp only [sm]; omega)
            have e2 : j = i := by rcases HJ.out with h | h <;> omega
            go_round
            case rel => exact ⟨i + 1, by omega, by go_num, by simp only [sm]; go_num, j + 1, by go_num, by omega, .inl (by omega), by omega⟩
            case measure => simp [intOf]; omega
          · go_wp2_with (go_at_call 33; refine (rwait_i _ _ _ _ hc (by omega) (by omega)).mono ?_; rintro e w' ⟨rfl, rfl⟩)
            have e : ¬ i + 1 ≤ cn m f (n - s) := fun h => by have := hi1.out.2 h; simp only [sm] at this; omega
            have e2 : j = cn m f (n - s) := by rcases HJ.out with h | h <;> omega
            go_round
            case rel => exact ⟨i + 1, by omega, by go_num, by simp only [sm]; go_num, j, rfl, by omega, .inr e2, by omega⟩
            case measure => simp [intOf]; omega
        · obtain rfl : i = D := by omega
          have e : ¬ i ≤ cn m f (n - s) := fun h => by have := (cn_iff hc (show 0 ≤ n - s by omega) i).2 h; omega
          have e2 : j = cn m f (n - s) := by rcases HJ.out with h | h <;> omega
          have E2 := Lib.hid e2
          clear e2 e
          go_wp2_with fail
          go_ret2
          exact ⟨by rw [H1.out, H2.out, ← E2.out]; rfl, (by repeat (first | exact Below.refl _ _ | refine Below.drew ?_ | refine below_drewN ?_ _ | refine bal ?_ _ | refine bnext ?_ (by assumption) | refine bset ?_ (by simp) _))⟩
  · have H1 : Hid (cntV f m s n = 0) := if_neg h
    have H2 : Hid (cntE f m s n = 2) := if_neg h
    go_enter Try.func21, Try.ntmps21
    go_wp2_with (first | (go_at_call 38; refine (span_no h _).mono ?_; rintro e w' ⟨rfl, rfl⟩))
    go_ret2
    exact ⟨by rw [H1.out, H2.out]; rfl, (by repeat (first | exact Below.refl _ _ | refine Below.drew ?_ | refine below_drewN ?_ _ | refine bal ?_ _ | refine bnext ?_ (by assumption) | refine bset ?_ (by simp) _))⟩
