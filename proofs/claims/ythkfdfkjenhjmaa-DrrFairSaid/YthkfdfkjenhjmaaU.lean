/- Contracts: a rest that is never negative, sizes. -/
import Derived.Test.YthkfdfkjenhjmaaK
namespace Go.Proofs.Ythkfdfkjenhjmaa
open Go.RowKit
set_option linter.unusedVariables false
set_option linter.unusedSimpArgs false

theorem tmod_emod {a n : Int} (hn : 1 ≤ n) : a % n = if a.tmod n < 0 then a.tmod n + n else a.tmod n := by
  have h3 : a.tmod n + n * a.tdiv n = a := Int.tmod_add_mul_tdiv a n
  have b1 : a.tmod n < n := Int.tmod_lt_of_pos _ (by omega)
  have b2 : -n < a.tmod n := by
    have h := Int.lt_tmod_of_pos a (show 0 < n by omega)
    omega
  by_cases h : a.tmod n < 0
  · rw [if_pos h]
    have e : a = (a.tmod n + n) + n * (a.tdiv n - 1) := by rw [Int.mul_sub]; omega
    have e2 : a % n = ((a.tmod n + n) + n * (a.tdiv n - 1)) % n := by rw [← e]
    rw [e2, Int.add_mul_emod_self_left, Int.emod_eq_of_lt (by omega) (by omega)]
  · rw [if_neg h]
    have e2 : a % n = (a.tmod n + n * a.tdiv n) % n := by rw [h3]
    rw [e2, Int.add_mul_emod_self_left, Int.emod_eq_of_lt (by omega) (by omega)]

set_option maxHeartbeats 400000 in
theorem Mod_any (a n : Int) (w : World) (hn : 1 ≤ n) (hn2 : n ≤ 9223372036854775807) :
    Calls Try.prog 33 #[.int .i64 a, .int .i64 n] w fun e w' => e = .returned (.int .i64 (a % n)) ∧ w = w' := by
  have E := Lib.hid (tmod_emod (a := a) hn)
  have b1 : a.tmod n < n := Int.tmod_lt_of_pos _ (by omega)
  have b2 : -n < a.tmod n := by
    have h := Int.lt_tmod_of_pos a (show 0 < n by omega)
    omega
  by_cases h : a.tmod n < 0
  · go_enter Try.func33, Try.ntmps33
    go_wp2
    go_ret
    exact ⟨ret_int (by rw [E.out, if_pos h]), rfl⟩
  · go_enter Try.func33, Try.ntmps33
    go_wp2
    go_ret
    exact ⟨ret_int (by rw [E.out, if_neg (by omega)]), rfl⟩
/-- heads that are as they should be, the last of them there -/
def RetH (w : World) (e : Ending) (w' : World) : Prop := ∃ a b c, e = .returned (.slice (some ⟨w.heap.size, 0, none⟩) 3 3) ∧ (0 ≤ a ∧ a ≤ 1200) ∧ (0 ≤ b ∧ b ≤ 1200) ∧ (1 ≤ c ∧ c ≤ 1200) ∧ IntAt w' (.slice (some ⟨w.heap.size, 0, none⟩) 3 3) [a, b, c] ∧ Below w.heap.size w w'

set_option maxRecDepth 100000 in
set_option maxHeartbeats 2000000 in
theorem sizes_any (x : Int) (w : World) : Calls Try.prog 32 #[.int .i64 x] w (RetH w) := by
  obtain ⟨m, hm⟩ : ∃ m, x % 1073741824 = m := ⟨_, rfl⟩
  have hm0 : 0 ≤ m ∧ m < 1073741824 := by omega
  have HM := Lib.hid hm
  clear hm
  obtain ⟨a, ha⟩ : ∃ a, m.tmod 1201 = a := ⟨_, rfl⟩
  have ha0 : 0 ≤ a ∧ a ≤ 1200 := by rw [← ha, Int.tmod_eq_emod_of_nonneg hm0.1]; omega
  obtain ⟨q, hq⟩ : ∃ q, m.tdiv 1201 = q := ⟨_, rfl⟩
  have hq0 : 0 ≤ q ∧ q ≤ 1073741824 := by rw [← hq, Int.tdiv_eq_ediv_of_nonneg hm0.1]; omega
  obtain ⟨b, hb⟩ : ∃ b, q.tmod 1201 = b := ⟨_, rfl⟩
  have hb0 : 0 ≤ b ∧ b ≤ 1200 := by rw [← hb, Int.tmod_eq_emod_of_nonneg hq0.1]; omega
  obtain ⟨r, hr⟩ : ∃ r, m.tdiv 3001 = r := ⟨_, rfl⟩
  have hr0 : 0 ≤ r ∧ r ≤ 1073741824 := by rw [← hr, Int.tdiv_eq_ediv_of_nonneg hm0.1]; omega
  obtain ⟨c, hc⟩ : ∃ c, r.tmod 1200 = c := ⟨_, rfl⟩
  have hc0 : 0 ≤ c ∧ c < 1200 := by rw [← hc, Int.tmod_eq_emod_of_nonneg hr0.1]; omega
  obtain ⟨y, hy⟩ : ∃ y, m.tmod 3 = y := ⟨_, rfl⟩
  obtain ⟨z, hz⟩ : ∃ z, m.tmod 7 = z := ⟨_, rfl⟩
  have hcw : IntKind.i64.wrap (1 + c) = 1 + c := IntWalk.i64_in _ (by omega)
  by_cases h1 : y = 0 <;> by_cases h2 : z < 3
  all_goals
    first | have t1 : (y == 0) = true := by simpa using h1 | have t1 : (y == 0) = false := by simpa using h1
    go_enter Try.func32, Try.ntmps32
    go_wp2_with fail
    refine (Mod_any _ _ _ (by decide) (by decide)).mono ?_
    rintro e w1 ⟨rfl, rfl⟩
    rw [HM.out]
    go_wp2_with fail
    refine bodyPost_ret (v := .slice (some ⟨w.heap.size, 0, none⟩) 3 3) (by simp [results, Try.results32, go_sem]) rfl ?_
    first
      | exact ⟨0, 0, 1 + c, rfl, by omega, by omega, by omega, lit_at (t := 3) (L := [0, 0, 1 + c]) (Blk.new _ _ _) 3 rfl (by decide), (by repeat (first | with_reducible exact Below.refl _ _ | with_reducible refine Below.drew ?_ | with_reducible refine below_drewN ?_ _ | with_reducible refine bal ?_ _ | with_reducible refine bset ?_ (by first | (simp; done) | (simp; omega)) _ | with_reducible refine bnext ?_ (by assumption) | with_reducible assumption))⟩
      | exact ⟨0, b, 1 + c, rfl, by omega, by omega, by omega, lit_at (t := 3) (L := [0, b, 1 + c]) (Blk.new _ _ _) 3 rfl (by decide), (by repeat (first | with_reducible exact Below.refl _ _ | with_reducible refine Below.drew ?_ | with_reducible refine below_drewN ?_ _ | with_reducible refine bal ?_ _ | with_reducible refine bset ?_ (by first | (simp; done) | (simp; omega)) _ | with_reducible refine bnext ?_ (by assumption) | with_reducible assumption))⟩
      | exact ⟨a, 0, 1 + c, rfl, by omega, by omega, by omega, lit_at (t := 3) (L := [a, 0, 1 + c]) (Blk.new _ _ _) 3 rfl (by decide), (by repeat (first | with_reducible exact Below.refl _ _ | with_reducible refine Below.drew ?_ | with_reducible refine below_drewN ?_ _ | with_reducible refine bal ?_ _ | with_reducible refine bset ?_ (by first | (simp; done) | (simp; omega)) _ | with_reducible refine bnext ?_ (by assumption) | with_reducible assumption))⟩
      | exact ⟨a, b, 1 + c, rfl, by omega, by omega, by omega, lit_at (t := 3) (L := [a, b, 1 + c]) (Blk.new _ _ _) 3 rfl (by decide), (by repeat (first | with_reducible exact Below.refl _ _ | with_reducible refine Below.drew ?_ | with_reducible refine below_drewN ?_ _ | with_reducible refine bal ?_ _ | with_reducible refine bset ?_ (by first | (simp; done) | (simp; omega)) _ | with_reducible refine bnext ?_ (by assumption) | with_reducible assumption))⟩
end Go.Proofs.Ythkfdfkjenhjmaa
