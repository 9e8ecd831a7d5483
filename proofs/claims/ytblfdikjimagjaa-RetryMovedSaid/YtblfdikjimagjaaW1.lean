/- Contracts on the way to this seat's statements; what each theorem says stands in its type. -/
import Derived.Test.YtblfdikjimagjaaRows
import Derived.Test.YtblfdikjimagjaaPlain
import Derived.WalkKit
import Derived.WalkSpells
import Derived.WalkLawsBesides
import Derived.Deep.QuietTactic
import Derived.BigQuiet
namespace Go.Proofs.Ytblfdikjimagjaa
set_option linter.unusedVariables false
open Go.RowKit

theorem check_ok (f m : Int) (w : World) (h1 : 1 ≤ f) (h2 : f ≤ 1000) (h3 : f ≤ m) (h4 : m ≤ 100000) :
    Calls Try.prog 14 #[.int .i64 f, .int .i64 m] w fun e w' => e = .returned (.int .i64 0) ∧ w = w' := by
  go_enter Try.func14, Try.ntmps14
  go_wp2
  go_ret
  exact ⟨rfl, rfl⟩

theorem check_no (f m : Int) (w : World) (h : ¬ (1 ≤ f ∧ f ≤ 1000 ∧ f ≤ m ∧ m ≤ 100000)) :
    Calls Try.prog 14 #[.int .i64 f, .int .i64 m] w fun e w' => e = .returned (.int .i64 2) ∧ w = w' := by
  by_cases a : f < 1
  · go_enter Try.func14, Try.ntmps14
    go_wp2
    go_ret
    exact ⟨rfl, rfl⟩
  · by_cases b : 1000 < f
    · go_enter Try.func14, Try.ntmps14
      go_wp2
      go_ret
      exact ⟨rfl, rfl⟩
    · by_cases c : m < f
      · go_enter Try.func14, Try.ntmps14
        go_wp2
        go_ret
        exact ⟨rfl, rfl⟩
      · have d : 100000 < m := by omega
        clear h
        go_enter Try.func14, Try.ntmps14
        go_wp2
        go_ret
        exact ⟨rfl, rfl⟩

theorem refcheck_ok (f m : Int) (w : World) (h1 : 1 ≤ f) (h2 : f ≤ 1000) (h3 : f ≤ m) (h4 : m ≤ 100000) :
    Calls Try.prog 15 #[.int .i64 f, .int .i64 m] w fun e w' => e = .returned (.int .i64 0) ∧ w = w' := by
  go_enter Try.func15, Try.ntmps15
  go_wp2
  go_ret
  exact ⟨rfl, rfl⟩

theorem refcheck_no (f m : Int) (w : World) (h : ¬ (1 ≤ f ∧ f ≤ 1000 ∧ f ≤ m ∧ m ≤ 100000)) :
    Calls Try.prog 15 #[.int .i64 f, .int .i64 m] w fun e w' => e = .returned (.int .i64 2) ∧ w = w' := by
  by_cases a : f < 1
  · go_enter Try.func15, Try.ntmps15
    go_wp2
    go_ret
    exact ⟨rfl, rfl⟩
  · by_cases b : 1000 < f
    · go_enter Try.func15, Try.ntmps15
      go_wp2
      go_ret
      exact ⟨rfl, rfl⟩
    · by_cases c : m < f
      · go_enter Try.func15, Try.ntmps15
        go_wp2
        go_ret
        exact ⟨rfl, rfl⟩
      · have d : 100000 < m := by omega
        clear h
        go_enter Try.func15, Try.ntmps15
        go_wp2
        go_ret
        exact ⟨rfl, rfl⟩

theorem tick_yes (n : Int) (w : World) (h1 : 0 ≤ n) (h2 : n ≤ 1099511627776) :
    Calls Try.prog 31 #[.int .i64 n] w fun e w' => e = .returned (.bool true) ∧ w = w' := by
  go_enter Try.func31, Try.ntmps31
  go_wp2
  go_ret
  exact ⟨rfl, rfl⟩
theorem ret_int {k : IntKind} {a b : Int} (h : a = b) : Ending.returned (.int k a) = .returned (.int k b) := by rw [h]
theorem ret_bool {a b : Bool} (h : a = b) : Ending.returned (.bool a) = .returned (.bool b) := by rw [h]
theorem tick_no (n : Int) (w : World) (h : n < 0 ∨ 1099511627776 < n) :
    Calls Try.prog 31 #[.int .i64 n] w fun e w' => e = .returned (.bool false) ∧ w = w' := by
  rcases h with h | h
  · go_enter Try.func31, Try.ntmps31
    go_wp2
    go_ret
    exact ⟨rfl, rfl⟩
  · have h' : 0 ≤ n := by omega
    have hd : decide (n ≤ 1099511627776) = false := by simp; omega
    go_enter Try.func31, Try.ntmps31
    go_wp2
    go_ret
    exact ⟨rfl, rfl⟩

set_option maxHeartbeats 400000 in
theorem sum_any (f m : Int) (N : Nat) (w : World) (h1 : 1 ≤ f) (h2 : f ≤ 1000) (h3 : f ≤ m) (h4 : m ≤ 100000) (hn2 : (N : Int) ≤ 1099511627777) :
    Calls Try.prog 32 #[.agg #[.int .i64 f, .int .i64 m], .int .i64 N] w fun e w' => e = .returned (.int .i64 (sm m f N)) ∧ Below w.heap.size w w' := by
  go_enter Try.func32, Try.ntmps32
  go_wp2
  go_quiet (fail)
  go_wp2
  go_loop [1, 5, 6] (fun a s x => ∃ k : Nat, k ≤ N ∧ a = .int .i64 ((N : Int) - k) ∧ s = .int .i64 (sm m f k) ∧ x = .int .i64 (wv m f k)) (fun a _ _ => (intOf a).toNat)
  case atStart => exact ⟨0, Nat.zero_le _, by simp, rfl, rfl⟩
  case round =>
    obtain ⟨k, hk, rfl, rfl, rfl⟩ := hrel
    have hb := wv_bd h1 h3 k
    have hs := sm_bd h1 h3 k
    have hkm : (k : Int) * m ≤ k * 100000 := Int.mul_le_mul_of_nonneg_left h4 (by omega)
    have p1 : 0 ≤ ((N : Int) - k) * m := Int.mul_nonneg (by omega) (by omega)
    have p2 : ((N : Int) - k) * m ≤ ((N : Int) - k) * 100000 := Int.mul_le_mul_of_nonneg_left h4 (by omega)
    by_cases hlt : k < N
    · by_cases hm : wv m f k < m
      · by_cases hx : m < 2 * wv m f k
        all_goals
          go_wp2
          go_round
          case rel => exact ⟨k + 1, by omega, by go_num, rfl, by simp only [wv, nx]; first | rw [if_pos hx] | rw [if_neg hx]⟩
          case measure => simp [intOf]; omega
      · go_wp2
        go_ret
        have e := sm_top h1 h3 (k := k) (by omega) (N - k)
        rw [show k + (N - k) = N from by omega, show ((N - k : Nat) : Int) = (N : Int) - k from by omega] at e
        exact ⟨ret_int e.symm, below_drewN ((Below.refl _ _).alloc (Nat.le_refl _) _) _⟩
    · go_wp2
      go_ret
      obtain rfl : k = N := by omega
      exact ⟨ret_int (by simp), below_drewN ((Below.refl _ _).alloc (Nat.le_refl _) _) _⟩
