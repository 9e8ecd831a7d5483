/- Contracts on the way to this seat's statements; what each theorem says stands in its type. -/
import Derived.Test.YtblfdikjimagjaaW8
namespace Go.Proofs.Ytblfdikjimagjaa
set_option linter.unusedVariables false
open Go.RowKit

theorem timeOk_last {f m s n : Int} (h : Asked f m s n) (hp : 0 < cn m f (n - s)) : TimeOk f m s ((cn m f (n - s) : Int) - 1) ∧ timeV f m s ((cn m f (n - s) : Int) - 1) = s + sm m f (cn m f (n - s)) := by
  have a := cn_fits h.1.1 h.1.2.2.1 (show 0 ≤ n - s by have := h.2.2.2; omega)
  have b := cn_le (m := m) (f := f) (show 0 ≤ n - s by have := h.2.2.2; omega)
  have c := (sm_bd h.1.1 h.1.2.2.1 (cn m f (n - s))).1
  have e : (((cn m f (n - s) : Nat) : Int) - 1).toNat + 1 = cn m f (n - s) := by omega
  have s1 := h.2.1.1
  have s2 := h.2.2.1.2
  have a1 := a.1
  have ok : TimeOk f m s ((cn m f (n - s) : Int) - 1) := ⟨h.1, h.2.1, ⟨by omega, by omega⟩, by rw [e]; constructor <;> omega⟩
  refine ⟨ok, ?_⟩
  rw [show timeV f m s ((cn m f (n - s) : Int) - 1) = _ from if_pos ok, e]

set_option maxHeartbeats 400000 in
theorem RDue_any (f m s n : Int) (w : World) : Calls Try.prog 23 #[.int .i64 f, .int .i64 m, .int .i64 s, .int .i64 n] w (RetB (dueV f m s n) (cntE f m s n) w) := by
  by_cases h : Asked f m s n
  · have C1 : Hid (cntV f m s n = cn m f (n - s)) := if_pos h
    have C2 : Hid (cntE f m s n = 0) := if_pos h
    have D1 : Hid (dueV f m s n = (decide (0 < cn m f (n - s)) && decide (sm m f (cn m f (n - s)) = n - s))) := if_pos h
    have s1 := h.2.1.1
    have n2 := h.2.2.1.2
    have sn := h.2.2.2
    have cb := cn_le (m := m) (f := f) (show 0 ≤ n - s by omega)
    by_cases hp : 0 < cn m f (n - s)
    · obtain ⟨t1, t2⟩ := timeOk_last h hp
      have T2 := Lib.hid t2
      clear t2
      go_enter Try.func23, Try.ntmps23
      go_wp2_with fail
      refine (RCount_any f m s n _).mono ?_
      rintro e w' ⟨rfl, hb⟩
      rw [C1.out, C2.out]
      go_wp2_with fail
      refine (RTime_any _ _ _ _ _).mono ?_
      rintro e w' ⟨rfl, hb⟩
      rw [T2.out]
      go_wp2
      go_ret2
      refine ⟨?_, (by repeat (first | exact Below.refl _ _ | refine Below.drew ?_ | refine below_drewN ?_ _ | refine bal ?_ _ | refine bnext ?_ (by assumption) | refine bset ?_ (by simp) _))⟩
      rw [D1.out, C2.out]
      have e : (s + sm m f (cn m f (n - s)) == n) = (decide (0 < cn m f (n - s)) && decide (sm m f (cn m f (n - s)) = n - s)) := by
        rw [Bool.eq_iff_iff]; simp [hp]; omega
      rw [← e]
      rfl
    · go_enter Try.func23, Try.ntmps23
      go_wp2_with fail
      refine (RCount_any f m s n _).mono ?_
      rintro e w' ⟨rfl, hb⟩
      rw [C1.out, C2.out]
      go_wp2_with fail
      go_ret2
      exact ⟨by rw [D1.out, C2.out]; simp [hp], (by repeat (first | exact Below.refl _ _ | refine Below.drew ?_ | refine below_drewN ?_ _ | refine bal ?_ _ | refine bnext ?_ (by assumption) | refine bset ?_ (by simp) _))⟩
  · have C1 : Hid (cntV f m s n = 0) := if_neg h
    have C2 : Hid (cntE f m s n = 2) := if_neg h
    have D1 : Hid (dueV f m s n = false) := if_neg h
    go_enter Try.func23, Try.ntmps23
    go_wp2_with fail
    refine (RCount_any f m s n _).mono ?_
    rintro e w' ⟨rfl, hb⟩
    rw [C1.out, C2.out]
    go_wp2_with fail
    go_ret2
    exact ⟨by rw [D1.out, C2.out]; rfl, (by repeat (first | exact Below.refl _ _ | refine Below.drew ?_ | refine below_drewN ?_ _ | refine bal ?_ _ | refine bnext ?_ (by assumption) | refine bset ?_ (by simp) _))⟩

set_option maxHeartbeats 400000 in
theorem RNext_any (f m s n : Int) (w : World) : Calls Try.prog 25 #[.int .i64 f, .int .i64 m, .int .i64 s, .int .i64 n] w (Ret2 (nextV f m s n) (nextE f m s n) w) := by
  by_cases h : Asked f m s n
  · have C1 : Hid (cntV f m s n = cn m f (n - s)) := if_pos h
    have C2 : Hid (cntE f m s n = 0) := if_pos h
    have N1 : Hid (nextV f m s n = timeV f m s (cn m f (n - s))) := if_pos h
    have N2 : Hid (nextE f m s n = if timeE f m s (cn m f (n - s)) = 0 then 0 else 8) := if_pos h
    by_cases ht : TimeOk f m s (cn m f (n - s))
    · have T2 : Hid (timeE f m s (cn m f (n - s)) = 0) := if_pos ht
      go_enter Try.func25, Try.ntmps25
      go_wp2_with fail
      refine (RCount_any f m s n _).mono ?_
      rintro e w' ⟨rfl, hb⟩
      rw [C1.out, C2.out]
      go_wp2_with fail
      refine (RTime_any _ _ _ _ _).mono ?_
      rintro e w' ⟨rfl, hb⟩
      rw [T2.out]
      go_wp2
      go_ret2
      exact ⟨by rw [N1.out, N2.out, T2.out]; rfl, (by repeat (first | exact Below.refl _ _ | refine Below.drew ?_ | refine below_drewN ?_ _ | refine bal ?_ _ | refine bnext ?_ (by assumption) | refine bset ?_ (by simp) _))⟩
    · have T1 : Hid (timeV f m s (cn m f (n - s)) = 0) := if_neg ht
      have T2 : Hid (timeE f m s (cn m f (n - s)) = 2) := if_neg ht
      go_enter Try.func25, Try.ntmps25
      go_wp2_with fail
      refine (RCount_any f m s n _).mono ?_
      rintro e w' ⟨rfl, hb⟩
      rw [C1.out, C2.out]
      go_wp2_with fail
      refine (RTime_any _ _ _ _ _).mono ?_
      rintro e w' ⟨rfl, hb⟩
      rw [T2.out]
      go_wp2
      go_ret2
      exact ⟨by rw [N1.out, N2.out, T2.out, T1.out]; rfl, (by repeat (first | exact Below.refl _ _ | refine Below.drew ?_ | refine below_drewN ?_ _ | refine bal ?_ _ | refine bnext ?_ (by assumption) | refine bset ?_ (by simp) _))⟩
  · have C1 : Hid (cntV f m s n = 0) := if_neg h
    have C2 : Hid (cntE f m s n = 2) := if_neg h
    have N1 : Hid (nextV f m s n = 0) := if_neg h
    have N2 : Hid (nextE f m s n = 2) := if_neg h
    go_enter Try.func25, Try.ntmps25
    go_wp2_with fail
    refine (RCount_any f m s n _).mono ?_
    rintro e w' ⟨rfl, hb⟩
    rw [C1.out, C2.out]
    go_wp2
    go_ret2
    exact ⟨by rw [N1.out, N2.out]; rfl, (by repeat (first | exact Below.refl _ _ | refine Below.drew ?_ | refine below_drewN ?_ _ | refine bal ?_ _ | refine bnext ?_ (by assumption) | refine bset ?_ (by simp) _))⟩
