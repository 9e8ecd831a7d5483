/- Contracts on the way to this seat's statements; what each theorem says stands in its type. -/
import Derived.Test.YtblfdikjimagjaaW4
namespace Go.Proofs.Ytblfdikjimagjaa
set_option linter.unusedVariables false
open Go.RowKit

theorem count_i (f m T : Int) (w : World) (ok : Okc f m) (h0 : 0 ≤ T) (h1 : T ≤ 1099511627776) :
    Calls Try.prog 37 #[.agg #[.int .i64 f, .int .i64 m], .int .i64 T] w (Ret2 (cn m f T) (T - sm m f (cn m f T)) w) :=
  (count_any f m T w ok.1 ok.2.1 ok.2.2.1 ok.2.2.2 h0 h1).mono fun e w' ⟨n, he, hf, hb⟩ => by
    rw [fits_cn ok.1 ok.2.2.1 h0 hf] at he
    exact ⟨he, hb⟩

set_option maxHeartbeats 400000 in
theorem Count_any (f m s n : Int) (w : World) : Calls Try.prog 20 #[.int .i64 f, .int .i64 m, .int .i64 s, .int .i64 n] w (Ret2 (cntV f m s n) (cntE f m s n) w) := by
  by_cases h : Asked f m s n
  · have H1 : Hid (cntV f m s n = cn m f (n - s)) := if_pos h
    have H2 : Hid (cntE f m s n = 0) := if_pos h
    have hc := h.1
    have s1 := h.2.1.1
    have n1 := h.2.2.1.1
    have n2 := h.2.2.1.2
    have sn := h.2.2.2
    go_enter Try.func20, Try.ntmps20
    go_wp2_with (first | (go_at_call 36; refine (asked_yes h _).mono ?_; rintro e w' ⟨rfl, rfl⟩) | (go_at_call 37; refine (count_i _ _ _ _ hc (by omega) (by omega)).mono ?_; rintro e w' ⟨rfl, hb⟩; have hcf := (bcell hb).1; have hff := (bcell hb).2; have hz := hb.size; try simp at hz))
    go_ret2
    exact ⟨by rw [H1.out, H2.out]; rfl, (by repeat (first | exact Below.refl _ _ | refine Below.drew ?_ | refine below_drewN ?_ _ | refine bal ?_ _ | refine bnext ?_ (by assumption) | refine bset ?_ (by simp) _))⟩
  · have H1 : Hid (cntV f m s n = 0) := if_neg h
    have H2 : Hid (cntE f m s n = 2) := if_neg h
    go_enter Try.func20, Try.ntmps20
    go_wp2_with (first | (go_at_call 36; refine (asked_no h _).mono ?_; rintro e w' ⟨rfl, rfl⟩))
    go_ret2
    exact ⟨by rw [H1.out, H2.out]; rfl, (by repeat (first | exact Below.refl _ _ | refine Below.drew ?_ | refine below_drewN ?_ _ | refine bal ?_ _ | refine bnext ?_ (by assumption) | refine bset ?_ (by simp) _))⟩

set_option maxHeartbeats 400000 in
theorem Due_any (f m s n : Int) (w : World) : Calls Try.prog 22 #[.int .i64 f, .int .i64 m, .int .i64 s, .int .i64 n] w (RetB (dueV f m s n) (cntE f m s n) w) := by
  by_cases h : Asked f m s n
  · have H1 : Hid (dueV f m s n = (decide (0 < cn m f (n - s)) && decide (sm m f (cn m f (n - s)) = n - s))) := if_pos h
    have H2 : Hid (cntE f m s n = 0) := if_pos h
    have hc := h.1
    have s1 := h.2.1.1
    have n1 := h.2.2.1.1
    have n2 := h.2.2.1.2
    have sn := h.2.2.2
    go_enter Try.func22, Try.ntmps22
    by_cases hp : 0 < cn m f (n - s)
    · by_cases hz : sm m f (cn m f (n - s)) = n - s
      · have hz' := Lib.hid hz
        have ht : (n - s - sm m f (cn m f (n - s)) == 0) = true := by simp [hz]
        have hp' : (0 : Int) < (cn m f (n - s) : Int) := by omega
        clear hz
        go_wp2_with (first | (go_at_call 36; refine (asked_yes h _).mono ?_; rintro e w' ⟨rfl, rfl⟩) | (go_at_call 37; refine (count_i _ _ _ _ hc (by omega) (by omega)).mono ?_; rintro e w' ⟨rfl, hb⟩; have hcf := (bcell hb).1; have hff := (bcell hb).2; have hz := hb.size; try simp at hz))
        go_ret2
        exact ⟨by rw [H1.out, H2.out, hz'.out]; simp [hp], (by repeat (first | exact Below.refl _ _ | refine Below.drew ?_ | refine below_drewN ?_ _ | refine bal ?_ _ | refine bnext ?_ (by assumption) | refine bset ?_ (by simp) _))⟩
      · have ht : (n - s - sm m f (cn m f (n - s)) == 0) = false := by simp; omega
        have hp' : (0 : Int) < (cn m f (n - s) : Int) := by omega
        have hz' := Lib.hid hz
        clear hz
        go_wp2_with (first | (go_at_call 36; refine (asked_yes h _).mono ?_; rintro e w' ⟨rfl, rfl⟩) | (go_at_call 37; refine (count_i _ _ _ _ hc (by omega) (by omega)).mono ?_; rintro e w' ⟨rfl, hb⟩; have hcf := (bcell hb).1; have hff := (bcell hb).2; have hz := hb.size; try simp at hz))
        go_ret2
        exact ⟨by rw [H1.out, H2.out]; simp [hz'.out], (by repeat (first | exact Below.refl _ _ | refine Below.drew ?_ | refine below_drewN ?_ _ | refine bal ?_ _ | refine bnext ?_ (by assumption) | refine bset ?_ (by simp) _))⟩
    · have hp' : ¬ (0 : Int) < (cn m f (n - s) : Int) := by omega
      go_wp2_with (first | (go_at_call 36; refine (asked_yes h _).mono ?_; rintro e w' ⟨rfl, rfl⟩) | (go_at_call 37; refine (count_i _ _ _ _ hc (by omega) (by omega)).mono ?_; rintro e w' ⟨rfl, hb⟩; have hcf := (bcell hb).1; have hff := (bcell hb).2; have hz := hb.size; try simp at hz))
      go_ret2
      exact ⟨by rw [H1.out, H2.out]; simp [hp], (by repeat (first | exact Below.refl _ _ | refine Below.drew ?_ | refine below_drewN ?_ _ | refine bal ?_ _ | refine bnext ?_ (by assumption) | refine bset ?_ (by simp) _))⟩
  · have H1 : Hid (dueV f m s n = false) := if_neg h
    have H2 : Hid (cntE f m s n = 2) := if_neg h
    go_enter Try.func22, Try.ntmps22
    go_wp2_with (first | (go_at_call 36; refine (asked_no h _).mono ?_; rintro e w' ⟨rfl, rfl⟩))
    go_ret2
    exact ⟨by rw [H1.out, H2.out]; rfl, (by repeat (first | exact Below.refl _ _ | refine Below.drew ?_ | refine below_drewN ?_ _ | refine bal ?_ _ | refine bnext ?_ (by assumption) | refine bset ?_ (by simp) _))⟩

set_option maxHeartbeats 400000 in
theorem Next_any (f m s n : Int) (w : World) : Calls Try.prog 24 #[.int .i64 f, .int .i64 m, .int .i64 s, .int .i64 n] w (Ret2 (nextV f m s n) (nextE f m s n) w) := by
  by_cases h : Asked f m s n
  · have C1 : Hid (cntV f m s n = cn m f (n - s)) := if_pos h
    have C2 : Hid (cntE f m s n = 0) := if_pos h
    have N1 : Hid (nextV f m s n = timeV f m s (cn m f (n - s))) := if_pos h
    have N2 : Hid (nextE f m s n = if timeE f m s (cn m f (n - s)) = 0 then 0 else 8) := if_pos h
    by_cases ht : TimeOk f m s (cn m f (n - s))
    · have T2 : Hid (timeE f m s (cn m f (n - s)) = 0) := if_pos ht
      go_enter Try.func24, Try.ntmps24
      go_wp2_with fail
      refine (Count_any f m s n _).mono ?_
      rintro e w' ⟨rfl, hb⟩
      rw [C1.out, C2.out]
      go_wp2_with fail
      refine (Time_any _ _ _ _ _).mono ?_
      rintro e w' ⟨rfl, hb⟩
      rw [T2.out]
      go_wp2
      go_ret2
      exact ⟨by rw [N1.out, N2.out, T2.out]; rfl, (by repeat (first | exact Below.refl _ _ | refine Below.drew ?_ | refine below_drewN ?_ _ | refine bal ?_ _ | refine bnext ?_ (by assumption) | refine bset ?_ (by simp) _))⟩
    · have T1 : Hid (timeV f m s (cn m f (n - s)) = 0) := if_neg ht
      have T2 : Hid (timeE f m s (cn m f (n - s)) = 2) := if_neg ht
      go_enter Try.func24, Try.ntmps24
      go_wp2_with fail
      refine (Count_any f m s n _).mono ?_
      rintro e w' ⟨rfl, hb⟩
      rw [C1.out, C2.out]
      go_wp2_with fail
      refine (Time_any _ _ _ _ _).mono ?_
      rintro e w' ⟨rfl, hb⟩
      rw [T2.out]
      go_wp2
      go_ret2
      exact ⟨by rw [N1.out, N2.out, T2.out, T1.out]; rfl, (by repeat (first | exact Below.refl _ _ | refine Below.drew ?_ | refine below_drewN ?_ _ | refine bal ?_ _ | refine bnext ?_ (by assumption) | refine bset ?_ (by simp) _))⟩
  · have C1 : Hid (cntV f m s n = 0) := if_neg h
    have C2 : Hid (cntE f m s n = 2) := if_neg h
    have N1 : Hid (nextV f m s n = 0) := if_neg h
    have N2 : Hid (nextE f m s n = 2) := if_neg h
    go_enter Try.func24, Try.ntmps24
    go_wp2_with fail
    refine (Count_any f m s n _).mono ?_
    rintro e w' ⟨rfl, hb⟩
    rw [C1.out, C2.out]
    go_wp2
    go_ret2
    exact ⟨by rw [N1.out, N2.out]; rfl, (by repeat (first | exact Below.refl _ _ | refine Below.drew ?_ | refine below_drewN ?_ _ | refine bal ?_ _ | refine bnext ?_ (by assumption) | refine bset ?_ (by simp) _))⟩
