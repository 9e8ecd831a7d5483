/- Contracts on the way to this seat's statements; what each theorem says stands in its type. -/
import Derived.Test.YtblfdikjimagjaaW15
namespace Go.Proofs.Ytblfdikjimagjaa
set_option linter.unusedVariables false
open Go.RowKit

theorem tmod_emod {a n : Int} (hn : 1 ≤ n) : a % n = if a.tmod n < 0 then a.tmod n + n else a.tmod n := by
  have h3 := Int.tmod_add_mul_tdiv a n
  have b1 : a.tmod n < n := Int.tmod_lt_of_pos _ (by omega)
  have b2 : -n < a.tmod n := by
    have h := Int.lt_tmod_of_pos a (show 0 < n by omega)
    omega
  by_cases h : a.tmod n < 0
  · rw [if_pos h]
    have e : a = (a.tmod n + n) + n * (a.tdiv n - 1) := by rw [Int.mul_sub]; omega
    have e2 : a % n = ((a.tmod n + n) + n * (a.tdiv n - 1)) % n := by rw [← e]
    rw [e2, Int.add_mul_emod_self_left, Int.emod_eq_of_lt (by omega) (by omega)]
  · rw [if_neg h]
    have e2 : a % n = (a.tmod n + n * a.tdiv n) % n := by rw [h3]
    rw [e2, Int.add_mul_emod_self_left, Int.emod_eq_of_lt (by omega) (by omega)]

set_option maxHeartbeats 400000 in
theorem Mod_any (a n : Int) (w : World) (hn : 1 ≤ n) (hn2 : n ≤ 9223372036854775807) :
    Calls Try.prog 30 #[.int .i64 a, .int .i64 n] w fun e w' => e = .returned (.int .i64 (a % n)) ∧ w = w' := by
  have E := Lib.hid (tmod_emod (a := a) hn)
  have b1 : a.tmod n < n := Int.tmod_lt_of_pos _ (by omega)
  have b2 : -n < a.tmod n := by
    have h := Int.lt_tmod_of_pos a (show 0 < n by omega)
    omega
  by_cases h : a.tmod n < 0
  · go_enter Try.func30, Try.ntmps30
    go_wp2
    go_ret
    exact ⟨ret_int (by rw [E.out, if_pos h]), rfl⟩
  · go_enter Try.func30, Try.ntmps30
    go_wp2
    go_ret
    exact ⟨ret_int (by rw [E.out, if_neg (by omega)]), rfl⟩

section
variable {m f : Int} (h1 : 1 ≤ f) (h2 : f ≤ m)
include h1 h2
theorem wv_pow (k : Nat) : wv m f k = m ∨ f * 2 ^ k ≤ wv m f k := by
  induction k with
  | zero => right; simp [wv]
  | succ k ih =>
    rcases ih with h | h
    · left; exact wv_top h1 h2 h 1
    · by_cases e : m < 2 * wv m f k
      · left; show nx m (wv m f k) = m; unfold nx; rw [if_pos e]
      · right
        show _ ≤ nx m (wv m f k)
        unfold nx
        rw [if_neg e, Int.pow_succ, ← Int.mul_assoc]
        omega
theorem wv_23 (h3 : m ≤ 100000) : wv m f 23 = m := by
  rcases wv_pow h1 h2 23 with h | h
  · exact h
  · have := (wv_bd h1 h2 23).2
    have e : (2 : Int) ^ 23 = 8388608 := by decide
    rw [e] at h
    omega
end

/-- the wait before the one with number k; 0 before the first -/
def lw (m f : Int) : Nat → Int
  | 0 => 0
  | k + 1 => wv m f k

set_option maxHeartbeats 2000000 in
theorem RetryGrows_walk (a b c : Int) (w : World) : Calls Try.prog 7 #[.int .i64 a, .int .i64 b, .int .i64 c] w (RetT w) := by
  have a1 := Int.emod_nonneg a (show (1000 : Int) ≠ 0 by omega)
  have a2 := Int.emod_lt_of_pos a (show (0 : Int) < 1000 by omega)
  go_enter Try.func7, Try.ntmps7
  go_wp2_with fail
  refine (RetryKnown_walk _).mono ?_
  rintro e w1 ⟨rfl, hb1⟩
  go_wp2_with fail
  refine (Mod_any _ _ _ (by omega) (by omega)).mono ?_
  rintro e w' ⟨rfl, rfl⟩
  generalize a % 1000 = ra at *
  go_wp2_with fail
  generalize hF : 1 + ra = F at *
  have f1 : 1 ≤ F := by omega
  have f2 : F ≤ 1000 := by omega
  clear hF a1 a2
  refine (Mod_any _ _ _ (by omega) (by omega)).mono ?_
  rintro e w' ⟨rfl, rfl⟩
  have b1 := Int.emod_nonneg b (show (100001 - F : Int) ≠ 0 by omega)
  have b2 := Int.emod_lt_of_pos b (show (0 : Int) < 100001 - F by omega)
  generalize b % (100001 - F) = rb at *
  go_wp2_with fail
  generalize hM : F + rb = M at *
  have m1 : F ≤ M := by omega
  have m2 : M ≤ 100000 := by omega
  clear hM b1 b2
  refine (Mod_any _ _ _ (by omega) (by omega)).mono ?_
  rintro e w' ⟨rfl, rfl⟩
  have c1 := Int.emod_nonneg c (show (1073741824 : Int) ≠ 0 by omega)
  have c2 := Int.emod_lt_of_pos c (show (0 : Int) < 1073741824 by omega)
  generalize c % 1073741824 = S at *
  have ok : Okc F M := ⟨f1, f2, m1, m2⟩
  have OK := Lib.hid ok
  clear ok
  go_wp2_with fail
  go_loopw [10, 11, 12] (fun t l i wr => ∃ k : Nat, k ≤ 24 ∧ i = .int .i64 k ∧ t = .int .i64 (S + sm M F k) ∧ l = .int .i64 (lw M F k) ∧ Below w.heap.size w wr) (fun _ _ i _ => 24 - (intOf i).toNat)
  case atStart => exact ⟨0, by omega, rfl, by simp [sm], rfl, (by repeat (first | exact Below.refl _ _ | refine Below.drew ?_ | refine below_drewN ?_ _ | refine bal ?_ _ | refine bnext ?_ (by assumption) | refine bset ?_ (by simp) _))⟩
  case round =>
    obtain ⟨k, hk, rfl, rfl, rfl, hB⟩ := hrel
    have hs := sm_bd f1 m1 k
    have hs2 : (k : Int) * M ≤ k * 100000 := Int.mul_le_mul_of_nonneg_left m2 (by omega)
    have hw := wv_bd f1 m1 k
    have hl : lw M F k ≤ wv M F k := by
      cases k with
      | zero => show (0 : Int) ≤ _; omega
      | succ k => exact wv_mono f1 m1 k
    by_cases hlt : k < 24
    · have tok : TimeOk F M S k := ⟨OK.out, ⟨by omega, by omega⟩, ⟨by omega, by omega⟩, by
        rw [Int.toNat_natCast]; show Tick (S + (sm M F k + wv M F k)); constructor <;> omega⟩
      have tv : timeV F M S k = S + sm M F k + wv M F k := by
        rw [show timeV F M S k = _ from if_pos tok, Int.toNat_natCast]; show S + (sm M F k + wv M F k) = _; omega
      have te : timeE F M S k = 0 := if_pos tok
      have wv' : waitV F M k = wv M F k := by rw [show waitV F M k = _ from if_pos ⟨OK.out, by omega, by omega⟩, Int.toNat_natCast]
      have we : waitE F M k = 0 := if_pos ⟨OK.out, by omega, by omega⟩
      have TV := Lib.hid tv
      have TE := Lib.hid te
      have WV := Lib.hid wv'
      have WE := Lib.hid we
      have t1 : (S + sm M F k + wv M F k - (S + sm M F k) != wv M F k) = false := by rw [bne_eq_false_iff_eq]; omega
      clear tok tv te wv' we
      go_wp2_with fail
      refine (Time_any _ _ _ _ _).mono ?_
      rintro e w2 ⟨rfl, hb2⟩
      rw [TV.out, TE.out]
      go_wp2_with fail
      refine (Wait_any _ _ _ _).mono ?_
      rintro e w3 ⟨rfl, hb3⟩
      rw [WV.out, WE.out]
      go_wp2_with fail
      go_roundw
      case rel => exact ⟨k + 1, by omega, by go_num, by simp only [sm]; go_num, rfl, (by repeat (first | exact Below.refl _ _ | refine Below.drew ?_ | refine below_drewN ?_ _ | refine bal ?_ _ | refine bnext ?_ (by assumption) | refine bset ?_ (by simp) _))⟩
      case measure => simp [intOf]; omega
    · obtain rfl : k = 24 := by omega
      have e : lw M F 24 = M := wv_23 f1 m1 m2
      have E := Lib.hid e
      have t2 : (lw M F 24 == M) = true := by rw [beq_iff_eq]; exact e
      clear e
      go_wp2_with fail
      go_ret
      exact ⟨rfl, (by repeat (first | exact Below.refl _ _ | refine Below.drew ?_ | refine below_drewN ?_ _ | refine bal ?_ _ | refine bnext ?_ (by assumption) | refine bset ?_ (by simp) _))⟩
