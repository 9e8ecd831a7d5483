/- Contracts on the way to this seat's statements; what each theorem says stands in its type. -/
import Derived.Test.YtblfdikjimagjaaW3
namespace Go.Proofs.Ytblfdikjimagjaa
set_option linter.unusedVariables false
open Go.RowKit

theorem sm_le_big {f m : Int} (ok : Okc f m) (n : Nat) (hn : (n : Int) ≤ 1099511627777) : 0 ≤ sm m f n ∧ sm m f n ≤ 109951162777700000 := by
  have a := sm_bd ok.1 ok.2.2.1 n
  have b : (n : Int) * m ≤ n * 100000 := Int.mul_le_mul_of_nonneg_left ok.2.2.2 (by omega)
  omega

set_option maxHeartbeats 400000 in
theorem Time_any (f m s k : Int) (w : World) : Calls Try.prog 12 #[.int .i64 f, .int .i64 m, .int .i64 s, .int .i64 k] w (Ret2 (timeV f m s k) (timeE f m s k) w) := by
  by_cases hc : Okc f m
  · by_cases hs : Tick s
    · by_cases hk : Tick k
      · have k1 := hk.1
        have k2 := hk.2
        have s1 := hs.1
        have s2 := hs.2
        have p1 : 0 ≤ k + 1 := by omega
        have p2 : k + 1 ≤ 1099511627777 := by omega
        have b := sm_le_big hc (k + 1).toNat (by omega)
        have b1 := b.1
        have b2 := b.2
        clear b
        have ek : (k + 1).toNat = k.toNat + 1 := by omega
        have EK := Lib.hid ek
        clear ek
        by_cases ht : Tick (s + sm m f (k + 1).toNat)
        · have hto : TimeOk f m s k := ⟨hc, hs, hk, by rw [← EK.out]; exact ht⟩
          have H1 : Hid (timeV f m s k = s + sm m f (k.toNat + 1)) := if_pos hto
          have H2 : Hid (timeE f m s k = 0) := if_pos hto
          go_enter Try.func12, Try.ntmps12
          go_wp2_with (first | (go_at_call 14; refine (chk_ok hc _).mono ?_; rintro e w' ⟨rfl, rfl⟩) | (go_at_call 31; refine (tk_ok (by assumption) _).mono ?_; rintro e w' ⟨rfl, rfl⟩) | (go_at_call 32; refine (sum_i _ _ _ _ hc (by assumption) (by assumption)).mono ?_; rintro e w' ⟨rfl, hb⟩; have hcf := (bcell hb).1; have hff := (bcell hb).2; have hz := hb.size; try simp at hz))
          go_ret2
          refine ⟨?_, (by repeat (first | exact Below.refl _ _ | refine Below.drew ?_ | refine below_drewN ?_ _ | refine bal ?_ _ | refine bnext ?_ (by assumption) | refine bset ?_ (by simp) _))⟩
          rw [H1.out, H2.out, ← EK.out]
          rfl
        · have hto : ¬ TimeOk f m s k := fun h => ht (by rw [EK.out]; exact h.2.2.2)
          have H1 : Hid (timeV f m s k = 0) := if_neg hto
          have H2 : Hid (timeE f m s k = 2) := if_neg hto
          go_enter Try.func12, Try.ntmps12
          go_wp2_with (first | (go_at_call 14; refine (chk_ok hc _).mono ?_; rintro e w' ⟨rfl, rfl⟩) | (go_at_call 31; first | (refine (tk_ok (by assumption) _).mono ?_; rintro e w' ⟨rfl, rfl⟩) | (refine (tk_no (by assumption) _).mono ?_; rintro e w' ⟨rfl, rfl⟩)) | (go_at_call 32; refine (sum_i _ _ _ _ hc (by assumption) (by assumption)).mono ?_; rintro e w' ⟨rfl, hb⟩; have hcf := (bcell hb).1; have hff := (bcell hb).2; have hz := hb.size; try simp at hz))
          go_ret2
          refine ⟨?_, (by repeat (first | exact Below.refl _ _ | refine Below.drew ?_ | refine below_drewN ?_ _ | refine bal ?_ _ | refine bnext ?_ (by assumption) | refine bset ?_ (by simp) _))⟩
          rw [H1.out, H2.out]
          rfl
      · have hto : ¬ TimeOk f m s k := fun h => hk h.2.2.1
        have H1 : Hid (timeV f m s k = 0) := if_neg hto
        have H2 : Hid (timeE f m s k = 2) := if_neg hto
        go_enter Try.func12, Try.ntmps12
        go_wp2_with fail
        refine (chk_ok hc _).mono ?_
        rintro e w' ⟨rfl, rfl⟩
        go_wp2_with fail
        refine (tk_ok hs _).mono ?_
        rintro e w' ⟨rfl, rfl⟩
        go_wp2_with fail
        refine (tk_no hk _).mono ?_
        rintro e w' ⟨rfl, rfl⟩
        go_wp2
        go_ret2
        exact ⟨by rw [H1.out, H2.out]; rfl, (by repeat (first | exact Below.refl _ _ | refine Below.drew ?_ | refine below_drewN ?_ _ | refine bal ?_ _ | refine bnext ?_ (by assumption) | refine bset ?_ (by simp) _))⟩
    · have hto : ¬ TimeOk f m s k := fun h => hs h.2.1
      have H1 : Hid (timeV f m s k = 0) := if_neg hto
      have H2 : Hid (timeE f m s k = 2) := if_neg hto
      go_enter Try.func12, Try.ntmps12
      go_wp2_with (first | (go_at_call 14; refine (chk_ok hc _).mono ?_; rintro e w' ⟨rfl, rfl⟩) | (go_at_call 31; refine (tk_no hs _).mono ?_; rintro e w' ⟨rfl, rfl⟩))
      go_ret2
      exact ⟨by rw [H1.out, H2.out]; rfl, (by repeat (first | exact Below.refl _ _ | refine Below.drew ?_ | refine below_drewN ?_ _ | refine bal ?_ _ | refine bnext ?_ (by assumption) | refine bset ?_ (by simp) _))⟩
  · have hto : ¬ TimeOk f m s k := fun h => hc h.1
    have H1 : Hid (timeV f m s k = 0) := if_neg hto
    have H2 : Hid (timeE f m s k = 2) := if_neg hto
    go_enter Try.func12, Try.ntmps12
    go_wp2_with (first | (go_at_call 14; refine (chk_no hc _).mono ?_; rintro e w' ⟨rfl, rfl⟩))
    go_ret2
    exact ⟨by rw [H1.out, H2.out]; rfl, (by repeat (first | exact Below.refl _ _ | refine Below.drew ?_ | refine below_drewN ?_ _ | refine bal ?_ _ | refine bnext ?_ (by assumption) | refine bset ?_ (by simp) _))⟩

set_option maxHeartbeats 400000 in
theorem asked_yes {f m s n : Int} (h : Asked f m s n) (w : World) : Calls Try.prog 36 #[.int .i64 f, .int .i64 m, .int .i64 s, .int .i64 n] w fun e w' => e = .returned (.bool true) ∧ w = w' := by
  obtain ⟨hc, hs, hn, hl⟩ := h
  go_enter Try.func36, Try.ntmps36
  go_wp2_with fail
  refine (chk_ok hc _).mono ?_
  rintro e w' ⟨rfl, rfl⟩
  go_wp2_with fail
  refine (tk_ok hs _).mono ?_
  rintro e w' ⟨rfl, rfl⟩
  go_wp2_with fail
  refine (tk_ok hn _).mono ?_
  rintro e w' ⟨rfl, rfl⟩
  go_wp2
  go_ret
  exact ⟨rfl, rfl⟩

set_option maxHeartbeats 400000 in
theorem asked_no {f m s n : Int} (h : ¬ Asked f m s n) (w : World) : Calls Try.prog 36 #[.int .i64 f, .int .i64 m, .int .i64 s, .int .i64 n] w fun e w' => e = .returned (.bool false) ∧ w = w' := by
  by_cases hc : Okc f m
  · by_cases hs : Tick s
    · by_cases hn : Tick n
      · have hl : n < s := by
          by_cases e : n < s
          · exact e
          · exact absurd ⟨hc, hs, hn, by omega⟩ h
        clear h
        have hd : decide (s ≤ n) = false := by simp; omega
        go_enter Try.func36, Try.ntmps36
        go_wp2_with fail
        refine (chk_ok hc _).mono ?_
        rintro e w' ⟨rfl, rfl⟩
        go_wp2_with fail
        refine (tk_ok hs _).mono ?_
        rintro e w' ⟨rfl, rfl⟩
        go_wp2_with fail
        refine (tk_ok hn _).mono ?_
        rintro e w' ⟨rfl, rfl⟩
        go_wp2
        go_ret
        exact ⟨rfl, rfl⟩
      · go_enter Try.func36, Try.ntmps36
        go_wp2_with fail
        refine (chk_ok hc _).mono ?_
        rintro e w' ⟨rfl, rfl⟩
        go_wp2_with fail
        refine (tk_ok hs _).mono ?_
        rintro e w' ⟨rfl, rfl⟩
        go_wp2_with fail
        refine (tk_no hn _).mono ?_
        rintro e w' ⟨rfl, rfl⟩
        go_wp2
        go_ret
        exact ⟨rfl, rfl⟩
    · go_enter Try.func36, Try.ntmps36
      go_wp2_with (first | (go_at_call 14; refine (chk_ok hc _).mono ?_; rintro e w' ⟨rfl, rfl⟩) | (go_at_call 31; refine (tk_no hs _).mono ?_; rintro e w' ⟨rfl, rfl⟩))
      go_ret
      exact ⟨rfl, rfl⟩
  · go_enter Try.func36, Try.ntmps36
    go_wp2_with (first | (go_at_call 14; refine (chk_no hc _).mono ?_; rintro e w' ⟨rfl, rfl⟩))
    go_ret
    exact ⟨rfl, rfl⟩
