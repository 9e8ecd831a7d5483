/- Contracts on the way to this seat's statements; what each theorem says stands in its type. -/
import Derived.Test.YtblfdikjimagjaaW12
import Derived.Test.YtblfdikjimagjaaW10
import Derived.Maps.AppendAt
namespace Go.Proofs.Ytblfdikjimagjaa
set_option linter.unusedVariables false
open Go.RowKit

def timesL (f m s n : Int) : List Int := if Asked f m s n ∧ cn m f (n - s) ≤ 1000 then tl f m s (rng (cn m f (n - s))) else []
def timesE (f m s n : Int) : Int := if Asked f m s n then (if cn m f (n - s) ≤ 1000 then 0 else 8) else 2

set_option maxHeartbeats 1000000 in
theorem Times_any (f m s n : Int) (w : World) :
    Calls Try.prog 17 #[.int .i64 f, .int .i64 m, .int .i64 s, .int .i64 n] w (TimesPost (timesL f m s n) (timesE f m s n) w) := by
  by_cases h : Asked f m s n
  · by_cases hle : cn m f (n - s) ≤ 1000
    · rw [show timesL f m s n = _ from if_pos ⟨h, hle⟩, show timesE f m s n = _ from if_pos h, if_pos hle]
      exact Times_yes f m s n w h hle
    · rw [show timesL f m s n = _ from if_neg (fun e => hle e.2), show timesE f m s n = _ from if_pos h, if_neg hle]
      have C1 : Hid (cntV f m s n = cn m f (n - s)) := if_pos h
      have C2 : Hid (cntE f m s n = 0) := if_pos h
      have hgt : (1000 : Int) < cn m f (n - s) := by omega
      go_enter Try.func17, Try.ntmps17
      go_wp2_with fail
      refine (Count_any f m s n _).mono ?_
      rintro e w' ⟨rfl, hb⟩
      rw [C1.out, C2.out]
      go_wp2
      go_ret2
      exact ⟨_, rfl, World.ownsRow_nil _ _ _ _, (by repeat (first | exact Below.refl _ _ | refine Below.drew ?_ | refine below_drewN ?_ _ | refine bal ?_ _ | refine bnext ?_ (by assumption) | refine bset ?_ (by simp) _))⟩
  · rw [show timesL f m s n = _ from if_neg (fun e => h e.1), show timesE f m s n = _ from if_neg h]
    have C1 : Hid (cntV f m s n = 0) := if_neg h
    have C2 : Hid (cntE f m s n = 2) := if_neg h
    go_enter Try.func17, Try.ntmps17
    go_wp2_with fail
    refine (Count_any f m s n _).mono ?_
    rintro e w' ⟨rfl, hb⟩
    rw [C1.out, C2.out]
    go_wp2
    go_ret2
    exact ⟨_, rfl, World.ownsRow_nil _ _ _ _, (by repeat (first | exact Below.refl _ _ | refine Below.drew ?_ | refine below_drewN ?_ _ | refine bal ?_ _ | refine bnext ?_ (by assumption) | refine bset ?_ (by simp) _))⟩

set_option maxRecDepth 100000 in
set_option maxHeartbeats 1000000 in
theorem RTimes_yes (f m s n : Int) (w : World) (h : Asked f m s n) (hle : cn m f (n - s) ≤ 1000) :
    Calls Try.prog 18 #[.int .i64 f, .int .i64 m, .int .i64 s, .int .i64 n] w (TimesPost (tl f m s (rng (cn m f (n - s)))) 0 w) := by
  have C1 : Hid (cntV f m s n = cn m f (n - s)) := if_pos h
  have C2 : Hid (cntE f m s n = 0) := if_pos h
  obtain ⟨N, hN⟩ : ∃ N, cn m f (n - s) = N := ⟨_, rfl⟩
  rw [hN] at hle C1 ⊢
  clear hN h
  obtain ⟨i0, hi, hz0, hz1, hz2⟩ := info_parts info3
  go_enter Try.func18, Try.ntmps18
  go_wp2_with fail
  refine (RCount_any f m s n _).mono ?_
  rintro e w1 ⟨rfl, hb⟩
  rw [C1.out, C2.out]
  clear C1 C2
  go_wp2_with fail
  go_loopw [12, 13] (fun o i wr => ∃ k : Nat, k ≤ N ∧ i = .int .i64 k ∧ wr.ownsRow w.heap.size 3 1 o k ((tl f m s (rng k)).map (Value.int .i64)) ∧ Below w.heap.size w wr) (fun _ i _ => N - (intOf i).toNat)
  case atStart => exact ⟨0, Nat.zero_le _, rfl, World.ownsRow_nil _ _ _ _, (by repeat (first | exact Below.refl _ _ | refine Below.drew ?_ | refine below_drewN ?_ _ | refine bal ?_ _ | refine bnext ?_ (by assumption) | refine bset ?_ (by simp) _))⟩
  case round =>
    obtain ⟨k, hk, rfl, hown, hB⟩ := hrel
    by_cases hlt : k < N
    · have ht := tl_len f m s (rng k)
      go_wp2_with (first
        | (go_at_call 13; refine (RTime_any _ _ _ _ _).mono ?_; rintro e w4 ⟨rfl, hb4⟩; have hrow4 := own_below hb4 hown; have hz4 := hb4.size)
        | (at_builtin; refine wpList_append_own _ rfl _ _ 29 rfl w.heap.size 3 i0 (.int .i64 0) 1 8 Try.underlying29 hi hz0 hz1 hz2 rfl (by decide) _ _ _ rfl (hrow4.alloc _) ⟨w4.heap.size, 0, none⟩ 1 1 [.int .i64 (timeV f m s k)] rfl rfl (cell_one_new _ _ _) (by simp [Value.oneCell']) (by unfold maxLen; omega) (by omega) (by have := hB.size; simp; omega) ?_; intro v' w1' hown' hgrow _))
      have hBf : Below w.heap.size w w1' := (bal (bnext hB hb4) _).grown hgrow (by have := hB.size; simp; omega) (fun g e => ((hrow4.alloc (.cells #[.int .i64 (timeV f m s k)] 3)).lt g e).1)
      clear hb
      go_roundw
      case rel => exact ⟨k + 1, by omega, by go_num, by rw [rng_succ, tl_snoc, List.map_append]; exact hown', hBf⟩
      case measure => simp [intOf]; omega
    · obtain rfl : k = N := by omega
      go_wp2_with fail
      go_ret2
      exact ⟨_, rfl, by rw [tl_len, rng_len]; exact hown, hB⟩

set_option maxHeartbeats 1000000 in
theorem RTimes_any (f m s n : Int) (w : World) :
    Calls Try.prog 18 #[.int .i64 f, .int .i64 m, .int .i64 s, .int .i64 n] w (TimesPost (timesL f m s n) (timesE f m s n) w) := by
  by_cases h : Asked f m s n
  · by_cases hle : cn m f (n - s) ≤ 1000
    · rw [show timesL f m s n = _ from if_pos ⟨h, hle⟩, show timesE f m s n = _ from if_pos h, if_pos hle]
      exact RTimes_yes f m s n w h hle
    · rw [show timesL f m s n = _ from if_neg (fun e => hle e.2), show timesE f m s n = _ from if_pos h, if_neg hle]
      have C1 : Hid (cntV f m s n = cn m f (n - s)) := if_pos h
      have C2 : Hid (cntE f m s n = 0) := if_pos h
      have hgt : (1000 : Int) < cn m f (n - s) := by omega
      go_enter Try.func18, Try.ntmps18
      go_wp2_with fail
      refine (RCount_any f m s n _).mono ?_
      rintro e w' ⟨rfl, hb⟩
      rw [C1.out, C2.out]
      go_wp2
      go_ret2
      exact ⟨_, rfl, World.ownsRow_nil _ _ _ _, (by repeat (first | exact Below.refl _ _ | refine Below.drew ?_ | refine below_drewN ?_ _ | refine bal ?_ _ | refine bnext ?_ (by assumption) | refine bset ?_ (by simp) _))⟩
  · rw [show timesL f m s n = _ from if_neg (fun e => h e.1), show timesE f m s n = _ from if_neg h]
    have C1 : Hid (cntV f m s n = 0) := if_neg h
    have C2 : Hid (cntE f m s n = 2) := if_neg h
    go_enter Try.func18, Try.ntmps18
    go_wp2_with fail
    refine (RCount_any f m s n _).mono ?_
    rintro e w' ⟨rfl, hb⟩
    rw [C1.out, C2.out]
    go_wp2
    go_ret2
    exact ⟨_, rfl, World.ownsRow_nil _ _ _ _, (by repeat (first | exact Below.refl _ _ | refine Below.drew ?_ | refine below_drewN ?_ _ | refine bal ?_ _ | refine bnext ?_ (by assumption) | refine bset ?_ (by simp) _))⟩

theorem timesL_le (f m s n : Int) : (timesL f m s n).length ≤ 1000 := by
  unfold timesL
  split
  · rename_i h; rw [tl_len, rng_len]; exact h.2
  · simp

theorem ints_own {w : World} {base : Nat} {v : Value} {xs : List Int} (h : w.ownsRow base 3 1 v xs.length (xs.map (.int .i64))) : IntsAt w v xs := by
  by_cases h0 : xs = []
  · subst h0
    rcases h.2 with ⟨rfl, _⟩ | ⟨g, cap, cur, rfl, hg, hh, _⟩
    · exact ⟨none, 0, rfl, by simp, fun h => absurd h (by simp)⟩
    · exact ⟨_, cap, rfl, by simp, fun h => absurd h (by simp)⟩
  · have hp : 0 < xs.length := List.length_pos_iff.2 h0
    rcases h.2 with ⟨rfl, hnil⟩ | ⟨g, cap, cur, rfl, hg, hh, hcap, hm, hsz, hcur⟩
    · omega
    · refine ⟨some ⟨g, 0, none⟩, cap, rfl, by omega, fun _ => ⟨g, 0, rfl, ?_, fun k x hx => ?_⟩⟩
      · exact (Array.getElem?_eq_some_iff.1 hh).1
      · have := h.cells (g := g) rfl k (.int .i64 x) (by rw [List.getElem?_map, hx]; rfl)
        by_cases hk : k = 0
        · subst hk; simpa [Addr.add] using this
        · simpa [Addr.add, hk] using this
