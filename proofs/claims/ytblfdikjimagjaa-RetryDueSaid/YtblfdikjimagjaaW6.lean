/- Contracts on the way to this seat's statements; what each theorem says stands in its type. -/
import Derived.Test.YtblfdikjimagjaaW4
namespace Go.Proofs.Ytblfdikjimagjaa
set_option linter.unusedVariables false
open Go.RowKit

set_option maxHeartbeats 400000 in
theorem rwait_n (f m : Int) (N : Nat) (w : World) (hc : Okc f m) (hN : (N : Int) ≤ 1099511627777) :
    Calls Try.prog 33 #[.int .i64 f, .int .i64 m, .int .i64 N] w fun e w' => e = .returned (.int .i64 (wv m f N)) ∧ w = w' := by
  obtain ⟨h1, h2, h3, h4⟩ := hc
  go_enter Try.func33, Try.ntmps33
  go_wp2
  go_loop [7, 8] (fun x a => ∃ k : Nat, k ≤ N ∧ a = .int .i64 k ∧ x = .int .i64 (wv m f k)) (fun _ a => N - (intOf a).toNat)
  case atStart => exact ⟨0, Nat.zero_le _, rfl, rfl⟩
  case round =>
    obtain ⟨k, hk, rfl, rfl⟩ := hrel
    have hb := wv_bd h1 h3 k
    by_cases hlt : k < N
    · by_cases hm : wv m f k < m
      · by_cases hx : m < 2 * wv m f k
        all_goals
          go_wp2
          go_round
          case rel => exact ⟨k + 1, by omega, by go_num, by simp only [wv, nx]; first | rw [if_pos hx] | rw [if_neg hx]⟩
          case measure => simp [intOf]; omega
      · have e := wv_top h1 h3 (k := k) (by omega) (N - k)
        rw [show k + (N - k) = N from by omega] at e
        have E := Lib.hid e
        clear e
        go_wp2
        go_ret
        exact ⟨ret_int (by rw [E.out]; omega), rfl⟩
    · obtain rfl : k = N := by omega
      go_wp2
      go_ret
      exact ⟨rfl, rfl⟩

theorem rwait_i (f m n : Int) (w : World) (hc : Okc f m) (hn : 0 ≤ n) (hN : n ≤ 1099511627777) :
    Calls Try.prog 33 #[.int .i64 f, .int .i64 m, .int .i64 n] w fun e w' => e = .returned (.int .i64 (wv m f n.toNat)) ∧ w = w' := by
  obtain ⟨N, rfl⟩ := Int.eq_ofNat_of_zero_le hn
  exact rwait_n f m N w hc hN

set_option maxHeartbeats 400000 in
theorem RWait_any (f m k : Int) (w : World) : Calls Try.prog 11 #[.int .i64 f, .int .i64 m, .int .i64 k] w (Ret2 (waitV f m k) (waitE f m k) w) := by
  by_cases hc : Okc f m
  · by_cases hk : Tick k
    · have H1 : Hid (waitV f m k = wv m f k.toNat) := if_pos ⟨hc, hk⟩
      have H2 : Hid (waitE f m k = 0) := if_pos ⟨hc, hk⟩
      have k1 := hk.1
      have k2 := hk.2
      go_enter Try.func11, Try.ntmps11
      go_wp2_with (first | (go_at_call 15; refine (rchk_ok hc _).mono ?_; rintro e w' ⟨rfl, rfl⟩) | (go_at_call 33; refine (rwait_i _ _ _ _ hc (by omega) (by omega)).mono ?_; rintro e w' ⟨rfl, rfl⟩))
      go_ret2
      exact ⟨by rw [H1.out, H2.out]; rfl, (by repeat (first | exact Below.refl _ _ | refine Below.drew ?_ | refine below_drewN ?_ _ | refine bal ?_ _ | refine bnext ?_ (by assumption) | refine bset ?_ (by simp) _))⟩
    · have H1 : Hid (waitV f m k = 0) := if_neg (fun h => hk h.2)
      have H2 : Hid (waitE f m k = 2) := if_neg (fun h => hk h.2)
      by_cases k1 : k < 0
      · go_enter Try.func11, Try.ntmps11
        go_wp2_with (first | (go_at_call 15; refine (rchk_ok hc _).mono ?_; rintro e w' ⟨rfl, rfl⟩))
        go_ret2
        exact ⟨by rw [H1.out, H2.out]; rfl, (by repeat (first | exact Below.refl _ _ | refine Below.drew ?_ | refine below_drewN ?_ _ | refine bal ?_ _ | refine bnext ?_ (by assumption) | refine bset ?_ (by simp) _))⟩
      · have k2 : 1099511627776 < k := by unfold Tick at hk; omega
        go_enter Try.func11, Try.ntmps11
        go_wp2_with (first | (go_at_call 15; refine (rchk_ok hc _).mono ?_; rintro e w' ⟨rfl, rfl⟩))
        go_ret2
        exact ⟨by rw [H1.out, H2.out]; rfl, (by repeat (first | exact Below.refl _ _ | refine Below.drew ?_ | refine below_drewN ?_ _ | refine bal ?_ _ | refine bnext ?_ (by assumption) | refine bset ?_ (by simp) _))⟩
  · have H1 : Hid (waitV f m k = 0) := if_neg (fun h => hc h.1)
    have H2 : Hid (waitE f m k = 2) := if_neg (fun h => hc h.1)
    go_enter Try.func11, Try.ntmps11
    go_wp2_with (first | (go_at_call 15; refine (rchk_no hc _).mono ?_; rintro e w' ⟨rfl, rfl⟩))
    go_ret2
    exact ⟨by rw [H1.out, H2.out]; rfl, (by repeat (first | exact Below.refl _ _ | refine Below.drew ?_ | refine below_drewN ?_ _ | refine bal ?_ _ | refine bnext ?_ (by assumption) | refine bset ?_ (by simp) _))⟩

/-- the number of the first greatest wait -/
def Dbl (m f : Int) (D : Nat) : Prop := (∀ i, i < D → wv m f i < m) ∧ wv m f D = m
def DblPost (m f : Int) (w : World) (e : Ending) (w' : World) : Prop :=
  ∃ D : Nat, e = .returned (.tuple #[.int .i64 D, .int .i64 (sm m f D)]) ∧ Dbl m f D ∧ (D : Int) ≤ 100000 ∧ w = w'

set_option maxHeartbeats 400000 in
theorem doubled_any (f m : Int) (w : World) (hc : Okc f m) : Calls Try.prog 34 #[.int .i64 f, .int .i64 m] w (DblPost m f w) := by
  have ok := hc
  obtain ⟨h1, h2, h3, h4⟩ := hc
  go_enter Try.func34, Try.ntmps34
  go_wp2
  go_loop [6, 7] (fun a s => ∃ k : Nat, (∀ i, i < k → wv m f i < m) ∧ a = .int .i64 k ∧ s = .int .i64 (sm m f k)) (fun a _ => (m - intOf a).toNat)
  case atStart => exact ⟨0, fun i hi => absurd hi (by omega), rfl, rfl⟩
  case round =>
    obtain ⟨k, hi, rfl, rfl⟩ := hrel
    have hb := wv_bd h1 h3 k
    have hu := wv_up h1 k hi
    have hi := Lib.hid hi
    have hs := sm_le_big ok k (by omega)
    by_cases hm : wv m f k < m
    · go_wp2_with (go_at_call 33; refine (rwait_i _ _ _ _ ok (by omega) (by omega)).mono ?_; rintro e w' ⟨rfl, rfl⟩)
      go_round
      case rel => exact ⟨k + 1, fun i h => by
        by_cases e : i = k
        · rw [e]; exact hm
        · exact hi.out i (by omega), by go_num, by simp only [sm]⟩
      case measure => simp [intOf]; omega
    · go_wp2_with (go_at_call 33; refine (rwait_i _ _ _ _ ok (by omega) (by omega)).mono ?_; rintro e w' ⟨rfl, rfl⟩)
      go_ret2
      exact ⟨k, rfl, ⟨hi.out, by omega⟩, by omega, rfl⟩

theorem time_top {f m k : Int} (hc : Okc f m) (hk : 0 ≤ k) {D : Nat} (hD : Dbl m f D) (h : (D : Int) ≤ k) : sm m f D + m * (k + 1 - D) = sm m f (k.toNat + 1) := by
  have e := sm_top hc.1 hc.2.2.1 hD.2 (k.toNat + 1 - D)
  rw [show D + (k.toNat + 1 - D) = k.toNat + 1 from by omega, show ((k.toNat + 1 - D : Nat) : Int) = k + 1 - D from by omega] at e
  rw [e, Int.mul_comm]
