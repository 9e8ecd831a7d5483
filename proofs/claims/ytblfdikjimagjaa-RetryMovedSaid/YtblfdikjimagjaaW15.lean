/- Contracts on the way to this seat's statements; what each theorem says stands in its type. -/
import Derived.Test.YtblfdikjimagjaaW14
namespace Go.Proofs.Ytblfdikjimagjaa
set_option linter.unusedVariables false
open Go.RowKit

theorem chk_any (f m : Int) (w : World) : Calls Try.prog 14 #[.int .i64 f, .int .i64 m] w fun e w' => e = .returned (.int .i64 (chk f m)) ∧ w = w' := by
  by_cases h : Okc f m
  · rw [show chk f m = 0 from if_pos h]; exact chk_ok h w
  · rw [show chk f m = 2 from if_neg h]; exact chk_no h w
theorem rchk_any (f m : Int) (w : World) : Calls Try.prog 15 #[.int .i64 f, .int .i64 m] w fun e w' => e = .returned (.int .i64 (chk f m)) ∧ w = w' := by
  by_cases h : Okc f m
  · rw [show chk f m = 0 from if_pos h]; exact rchk_ok h w
  · rw [show chk f m = 2 from if_neg h]; exact rchk_no h w

set_option maxHeartbeats 1000000 in
theorem RetryWaits_walk (f m s k : Int) (w : World) : Calls Try.prog 3 #[.int .i64 f, .int .i64 m, .int .i64 s, .int .i64 k] w (RetT w) := by
  go_enter Try.func3, Try.ntmps3
  go_wp2_with (first
    | (go_at_call 10; refine (Wait_any _ _ _ _).mono ?_; rintro e w1 ⟨rfl, hb1⟩)
    | (go_at_call 11; refine (RWait_any _ _ _ _).mono ?_; rintro e w2 ⟨rfl, hb2⟩)
    | (go_at_call 12; refine (Time_any _ _ _ _ _).mono ?_; rintro e w3 ⟨rfl, hb3⟩)
    | (go_at_call 13; refine (RTime_any _ _ _ _ _).mono ?_; rintro e w4 ⟨rfl, hb4⟩)
    | (go_at_call 14; refine (chk_any _ _ _).mono ?_; rintro e w' ⟨rfl, rfl⟩)
    | (go_at_call 15; refine (rchk_any _ _ _).mono ?_; rintro e w' ⟨rfl, rfl⟩)
    | (go_at_call 16; refine (awake_t _).mono ?_; rintro e w5 ⟨rfl, hb5⟩))
  go_ret
  exact ⟨rfl, (by repeat (first | exact Below.refl _ _ | refine Below.drew ?_ | refine below_drewN ?_ _ | refine bal ?_ _ | refine bnext ?_ (by assumption) | refine bset ?_ (by simp) _))⟩

set_option maxHeartbeats 1000000 in
theorem RetryTimes_walk (f m s n : Int) (w : World) : Calls Try.prog 4 #[.int .i64 f, .int .i64 m, .int .i64 s, .int .i64 n] w (RetT w) := by
  have hl := timesL_le f m s n
  go_enter Try.func4, Try.ntmps4
  go_wp2_with fail
  refine (Times_any _ _ _ _ _).mono ?_
  rintro e w1 ⟨va, rfl, hown1, hb1⟩
  have ha := ints_own hown1
  go_wp2_with fail
  refine (RTimes_any _ _ _ _ _).mono ?_
  rintro e w2 ⟨vb, rfl, hown2, hb2⟩
  have hb := ints_own hown2
  go_wp2_with fail
  refine (same_any _ _ _ _ _ (ha.below hb2) hb (by omega) (by omega)).mono ?_
  rintro e w3 ⟨rfl, hb3⟩
  rw [beq_self_eq_true]
  go_wp2_with (go_at_call 16; refine (awake_t _).mono ?_; rintro e w5 ⟨rfl, hb5⟩)
  go_ret
  exact ⟨rfl, (by repeat (first | exact Below.refl _ _ | refine Below.drew ?_ | refine below_drewN ?_ _ | refine bal ?_ _ | refine bnext ?_ (by assumption) | refine bset ?_ (by simp) _))⟩

set_option maxHeartbeats 2000000 in
theorem RetryCounts_walk (f m s n : Int) (w : World) : Calls Try.prog 5 #[.int .i64 f, .int .i64 m, .int .i64 s, .int .i64 n] w (RetT w) := by
  go_enter Try.func5, Try.ntmps5
  go_wp2_with (first
    | (go_at_call 20; refine (Count_any _ _ _ _ _).mono ?_; rintro e w1 ⟨rfl, hb1⟩)
    | (go_at_call 21; refine (RCount_any _ _ _ _ _).mono ?_; rintro e w2 ⟨rfl, hb2⟩)
    | (go_at_call 22; refine (Due_any _ _ _ _ _).mono ?_; rintro e w3 ⟨rfl, hb3⟩)
    | (go_at_call 23; refine (RDue_any _ _ _ _ _).mono ?_; rintro e w4 ⟨rfl, hb4⟩)
    | (go_at_call 24; refine (Next_any _ _ _ _ _).mono ?_; rintro e w5 ⟨rfl, hb5⟩)
    | (go_at_call 25; refine (RNext_any _ _ _ _ _).mono ?_; rintro e w6 ⟨rfl, hb6⟩)
    | (go_at_call 16; refine (awake_t _).mono ?_; rintro e w7 ⟨rfl, hb7⟩))
  go_ret
  exact ⟨rfl, (by repeat (first | exact Below.refl _ _ | refine Below.drew ?_ | refine below_drewN ?_ _ | refine bal ?_ _ | refine bnext ?_ (by assumption) | refine bset ?_ (by simp) _))⟩

theorem ok4 : Okc 4 20 := by decide
theorem cn_is {T : Int} (n : Nat) (h0 : 0 ≤ T) (h : sm 20 4 n ≤ T ∧ T < sm 20 4 (n + 1)) : cn 20 4 T = n := (fits_cn (by decide) (by decide) h0 h).symm
theorem cntV_is (n : Int) (c : Nat) (a : Asked 4 20 100 n) (h : sm 20 4 c ≤ n - 100 ∧ n - 100 < sm 20 4 (c + 1)) : cntV 4 20 100 n = c := by
  rw [show cntV 4 20 100 n = _ from if_pos a, cn_is c (by have := a.2.2.2; omega) h]
theorem cntE_is (n : Int) (a : Asked 4 20 100 n) : cntE 4 20 100 n = 0 := if_pos a
theorem nextE_top (a : Asked 4 20 100 1099511627776) : nextE 4 20 100 1099511627776 = 8 := by
  rw [show nextE 4 20 100 1099511627776 = _ from if_pos a]
  have hf := (cn_fits (m := 20) (f := 4) (T := 1099511627776 - 100) (by decide) (by decide) (by decide)).2
  rw [if_neg]
  intro h
  have ht : ¬ TimeOk 4 20 100 (cn 20 4 (1099511627776 - 100)) := fun t => by
    have := t.2.2.2.2
    rw [Int.toNat_natCast] at this
    omega
  rw [show timeE 4 20 100 (cn 20 4 (1099511627776 - 100)) = _ from if_neg ht] at h
  exact absurd h (by decide)

set_option maxHeartbeats 4000000 in
theorem RetryKnown_walk (w : World) : Calls Try.prog 6 #[] w (RetT w) := by
  go_enter Try.func6, Try.ntmps6
  go_wp2_with fail
  refine (waits_t 0 4 _ (by decide +kernel) (by decide +kernel)).mono ?_
  rintro e w1 ⟨rfl, hb1⟩
  go_wp2_with fail
  refine (waits_t 2 16 _ (by decide +kernel) (by decide +kernel)).mono ?_
  rintro e w2 ⟨rfl, hb2⟩
  go_wp2_with fail
  refine (waits_t 3 20 _ (by decide +kernel) (by decide +kernel)).mono ?_
  rintro e w3 ⟨rfl, hb3⟩
  go_wp2_with fail
  refine (waits_t 4 20 _ (by decide +kernel) (by decide +kernel)).mono ?_
  rintro e w4 ⟨rfl, hb4⟩
  go_wp2_with fail
  refine (time_t 0 104 _ (by decide +kernel) (by decide +kernel)).mono ?_
  rintro e w5 ⟨rfl, hb5⟩
  go_wp2_with fail
  refine (time_t 2 128 _ (by decide +kernel) (by decide +kernel)).mono ?_
  rintro e w6 ⟨rfl, hb6⟩
  go_wp2_with fail
  refine (time_t 3 148 _ (by decide +kernel) (by decide +kernel)).mono ?_
  rintro e w7 ⟨rfl, hb7⟩
  go_wp2_with fail
  refine (time_t 4 168 _ (by decide +kernel) (by decide +kernel)).mono ?_
  rintro e w8 ⟨rfl, hb8⟩
  go_wp2_with fail
  refine (counts_t 103 0 _ (cntE_is _ (by decide)) (cntV_is _ 0 (by decide) (by decide +kernel))).mono ?_
  rintro e w9 ⟨rfl, hb9⟩
  go_wp2_with fail
  refine (counts_t 104 1 _ (cntE_is _ (by decide)) (cntV_is _ 1 (by decide) (by decide +kernel))).mono ?_
  rintro e w10 ⟨rfl, hb10⟩
  go_wp2_with fail
  refine (counts_t 147 3 _ (cntE_is _ (by decide)) (cntV_is _ 3 (by decide) (by decide +kernel))).mono ?_
  rintro e w11 ⟨rfl, hb11⟩
  go_wp2_with fail
  refine (counts_t 1000 46 _ (cntE_is _ (by decide)) (cntV_is _ 46 (by decide) (by decide +kernel))).mono ?_
  rintro e w12 ⟨rfl, hb12⟩
  go_wp2_with fail
  refine (next_t 100 104 _ (by decide +kernel) (by decide +kernel)).mono ?_
  rintro e w13 ⟨rfl, hb13⟩
  go_wp2_with fail
  refine (next_t 104 112 _ (by decide +kernel) (by decide +kernel)).mono ?_
  rintro e w14 ⟨rfl, hb14⟩
  go_wp2_with fail
  refine (next_t 147 148 _ (by decide +kernel) (by decide +kernel)).mono ?_
  rintro e w15 ⟨rfl, hb15⟩
  go_wp2_with fail
  refine (Due_any 4 20 100 113 _).mono ?_
  rintro e w16 ⟨rfl, hb16⟩
  rw [show dueV 4 20 100 113 = false by decide +kernel, show cntE 4 20 100 113 = 0 by decide +kernel]
  go_wp2_with fail
  refine (Due_any 4 20 100 100 _).mono ?_
  rintro e w17 ⟨rfl, hb17⟩
  rw [show dueV 4 20 100 100 = false by decide +kernel, show cntE 4 20 100 100 = 0 by decide +kernel]
  go_wp2_with fail
  refine (Next_any 4 20 100 1099511627776 _).mono ?_
  rintro e w18 ⟨rfl, hb18⟩
  rw [nextE_top (by decide)]
  go_wp2_with fail
  refine (Times_any 4 20 100 100 _).mono ?_
  rintro e w19 ⟨va, rfl, hown, hb19⟩
  rw [show timesE 4 20 100 100 = 0 by decide +kernel]
  rw [show timesL 4 20 100 100 = [] by decide +kernel] at hown
  obtain ⟨A, c, rfl, _⟩ := ints_own hown
  clear hown
  go_wp2_with fail
  refine (Count_any 4 20 100 99 _).mono ?_
  rintro e w20 ⟨rfl, hb20⟩
  rw [show cntE 4 20 100 99 = 2 by decide +kernel]
  go_wp2_with fail
  refine (awake_t _).mono ?_
  rintro e w21 ⟨rfl, hb21⟩
  go_wp2_with fail
  refine (chk_any _ _ _).mono ?_
  rintro e w22 ⟨rfl, rfl⟩
  rw [show chk 0 5 = 2 by decide]
  go_wp2_with fail
  refine (chk_any _ _ _).mono ?_
  rintro e w23 ⟨rfl, rfl⟩
  rw [show chk 4 3 = 2 by decide]
  go_wp2_with fail
  go_ret
  exact ⟨rfl, (by repeat (first | exact Below.refl _ _ | refine Below.drew ?_ | refine below_drewN ?_ _ | refine bal ?_ _ | refine bnext ?_ (by assumption) | refine bset ?_ (by simp) _))⟩
