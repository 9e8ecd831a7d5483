/- Contracts on the way to this seat's statements; what each theorem says stands in its type. -/
import Derived.Test.YtblfdikjimagjaaW1
import Derived.Lib.Hide
namespace Go.Proofs.Ytblfdikjimagjaa
set_option linter.unusedVariables false
open Go.RowKit

def CountPost (m f T : Int) (w : World) (e : Ending) (w' : World) : Prop :=
  ∃ n : Nat, e = .returned (.tuple #[.int .i64 n, .int .i64 (T - sm m f n)]) ∧ Fits m f T n ∧ Below w.heap.size w w'

theorem ret_two {k : IntKind} {a b c d : Int} (h : a = b) (h' : c = d) : Ending.returned (.tuple #[.int k a, .int k c]) = .returned (.tuple #[.int k b, .int k d]) := by rw [h, h']

set_option maxHeartbeats 400000 in
theorem count_any (f m T : Int) (w : World) (h1 : 1 ≤ f) (h2 : f ≤ 1000) (h3 : f ≤ m) (h4 : m ≤ 100000) (hT : 0 ≤ T) (hT2 : T ≤ 1099511627776) :
    Calls Try.prog 37 #[.agg #[.int .i64 f, .int .i64 m], .int .i64 T] w (CountPost m f T w) := by
  go_enter Try.func37, Try.ntmps37
  go_wp2
  go_step3
  go_wp2
  go_step3
  go_wp2
  go_loop [1, 4, 6] (fun a n x => ∃ k : Nat, a = .int .i64 (T - sm m f k) ∧ sm m f k ≤ T ∧ n = .int .i64 k ∧ x = .int .i64 (wv m f k)) (fun _ _ x => (m - intOf x).toNat)
  case atStart => exact ⟨0, by simp [sm], by simpa [sm] using hT, rfl, rfl⟩
  case round =>
    obtain ⟨k, rfl, hk, rfl, rfl⟩ := hrel
    have hb := wv_bd h1 h3 k
    have hs := (sm_bd h1 h3 k).1
    by_cases hm : wv m f k < m
    · by_cases ht : T - sm m f k < wv m f k
      · go_wp2
        go_ret2
        exact ⟨k, rfl, ⟨hk, by simp only [sm]; omega⟩, (Below.refl _ _).alloc (Nat.le_refl _) _⟩
      · by_cases hx : m < 2 * wv m f k
        all_goals
          go_wp2
          go_round
          case rel => exact ⟨k + 1, by simp only [sm]; go_num, by simp only [sm]; omega, by go_num, by simp only [wv, nx]; first | rw [if_pos hx] | rw [if_neg hx]⟩
          case measure => simp [intOf]; omega
    · obtain ⟨a, b, c⟩ := fits_top h1 h3 (T := T) (k := k) (by omega) hk
      have hm' : wv m f k = m := by omega
      have C := Lib.hid c
      have B := Lib.hid b
      have A := Lib.hid a
      have M := Lib.hid hm'
      have t0 : (T - sm m f k) / m ≤ T - sm m f k := Int.ediv_le_self _ (by omega)
      have t1 : 0 ≤ (T - sm m f k) / m := Int.ediv_nonneg (by omega) (by omega)
      have hmb : (wv m f k == m) = true := by simp [hm']
      clear a b c hm'
      go_wp2
      go_ret2
      exact ⟨_, ret_two C.out.symm B.out.symm, A.out, (Below.refl _ _).alloc (Nat.le_refl _) _⟩
