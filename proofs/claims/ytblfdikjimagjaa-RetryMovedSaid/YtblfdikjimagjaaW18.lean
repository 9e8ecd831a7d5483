/- Contracts on the way to this seat's statements; what each theorem says stands in its type. -/
import Derived.Test.YtblfdikjimagjaaW17
namespace Go.Proofs.Ytblfdikjimagjaa
set_option linter.unusedVariables false
open Go.RowKit

theorem timeV_bd (f m s k : Int) : 0 ≤ timeV f m s k ∧ timeV f m s k ≤ 1099511627776 := by
  unfold timeV
  split
  · rename_i h; exact h.2.2.2
  · omega
theorem timesL_bd {f m s n x : Int} (h : x ∈ timesL f m s n) : 0 ≤ x ∧ x ≤ 1099511627776 := by
  unfold timesL at h
  split at h
  · obtain ⟨k, _, rfl⟩ := List.mem_map.1 h
    exact timeV_bd f m s k
  · simp at h

theorem moved {f m S B : Int} (ok : Okc f m) (s1 : 0 ≤ S) (s2 : S ≤ 1073741824) (b1 : 0 ≤ B) (b2 : B ≤ 1073741824) :
    timesL f m (S + B) (S + B + 5000) = (timesL f m S (S + 5000)).map (· + B) ∧ timesE f m (S + B) (S + B + 5000) = timesE f m S (S + 5000) := by
  have A1 : Asked f m S (S + 5000) := ⟨ok, ⟨by omega, by omega⟩, ⟨by omega, by omega⟩, by omega⟩
  have A2 : Asked f m (S + B) (S + B + 5000) := ⟨ok, ⟨by omega, by omega⟩, ⟨by omega, by omega⟩, by omega⟩
  have e1 : S + 5000 - S = 5000 := by omega
  have e2 : S + B + 5000 - (S + B) = 5000 := by omega
  refine ⟨?_, by unfold timesE; rw [if_pos A1, if_pos A2, e1, e2]⟩
  unfold timesL
  rw [e1, e2]
  by_cases hc : cn m f 5000 ≤ 1000
  · rw [if_pos ⟨A2, hc⟩, if_pos ⟨A1, hc⟩]
    unfold tl
    rw [List.map_map]
    refine List.map_congr_left fun k hk => ?_
    obtain ⟨i, hi, rfl⟩ := List.mem_map.1 hk
    have hi := List.mem_range.1 hi
    have a := (cn_iff ok (T := 5000) (by omega) (i + 1)).2 (by omega)
    have b := (sm_bd ok.1 ok.2.2.1 (i + 1)).1
    have t1 : TimeOk f m S (i : Int) := ⟨ok, ⟨by omega, by omega⟩, ⟨by omega, by omega⟩, by rw [Int.toNat_natCast]; constructor <;> omega⟩
    have t2 : TimeOk f m (S + B) (i : Int) := ⟨ok, ⟨by omega, by omega⟩, ⟨by omega, by omega⟩, by rw [Int.toNat_natCast]; constructor <;> omega⟩
    show timeV f m (S + B) (i : Int) = timeV f m S (i : Int) + B
    rw [show timeV f m (S + B) (i : Int) = _ from if_pos t2, show timeV f m S (i : Int) = _ from if_pos t1]
    omega
  · rw [if_neg (fun h => hc h.2), if_neg (fun h => hc h.2)]
    rfl

set_option maxRecDepth 100000 in
set_option maxHeartbeats 4000000 in
theorem RetryMoved_walk (a b c d : Int) (w : World) : Calls Try.prog 9 #[.int .i64 a, .int .i64 b, .int .i64 c, .int .i64 d] w (RetT w) := by
  have a1 := Int.emod_nonneg a (show (1000 : Int) ≠ 0 by omega)
  have a2 := Int.emod_lt_of_pos a (show (0 : Int) < 1000 by omega)
  have c1 := Int.emod_nonneg c (show (1073741824 : Int) ≠ 0 by omega)
  have c2 := Int.emod_lt_of_pos c (show (0 : Int) < 1073741824 by omega)
  have d1 := Int.emod_nonneg d (show (1073741824 : Int) ≠ 0 by omega)
  have d2 := Int.emod_lt_of_pos d (show (0 : Int) < 1073741824 by omega)
  go_enter Try.func9, Try.ntmps9
  go_wp2_with fail
  refine (RetryKnown_walk _).mono ?_
  rintro e w1 ⟨rfl, hb1⟩
  go_wp2_with fail
  refine (Mod_any _ _ _ (by omega) (by omega)).mono ?_
  rintro e w' ⟨rfl, rfl⟩
  generalize a % 1000 = ra at *
  go_wp2_with fail
  generalize hF : 1 + ra = F at *
  have f1 : 1 ≤ F := by omega
  have f2 : F ≤ 1000 := by omega
  clear hF a1 a2
  refine (Mod_any _ _ _ (by omega) (by omega)).mono ?_
  rintro e w' ⟨rfl, rfl⟩
  have b1 := Int.emod_nonneg b (show (100001 - F : Int) ≠ 0 by omega)
  have b2 := Int.emod_lt_of_pos b (show (0 : Int) < 100001 - F by omega)
  generalize b % (100001 - F) = rb at *
  go_wp2_with fail
  generalize hM : F + rb = M at *
  have m1 : F ≤ M := by omega
  have m2 : M ≤ 100000 := by omega
  clear hM b1 b2
  have ok : Okc F M := ⟨f1, f2, m1, m2⟩
  have OK := Lib.hid ok
  clear ok
  refine (Mod_any _ _ _ (by omega) (by omega)).mono ?_
  rintro e w' ⟨rfl, rfl⟩
  generalize c % 1073741824 = S at *
  go_wp2_with fail
  refine (Mod_any _ _ _ (by omega) (by omega)).mono ?_
  rintro e w' ⟨rfl, rfl⟩
  generalize d % 1073741824 = B at *
  have MV := Lib.hid (moved OK.out c1 (Int.le_of_lt c2) d1 (Int.le_of_lt d2))
  have BD := Lib.hid (fun x => @timesL_bd F M S (S + 5000) x)
  have BL := timesL_le F M S (S + 5000)
  go_wp2_with fail
  refine (Times_any _ _ _ _ _).mono ?_
  rintro e w2 ⟨va, rfl, hown1, hb2⟩
  have ha := ints_own hown1
  go_wp2_with fail
  refine (Times_any _ _ _ _ _).mono ?_
  rintro e w3 ⟨vb, rfl, hown2, hb3⟩
  have hb := ints_own hown2
  rw [MV.out.1] at hb
  rw [MV.out.2]
  have ha := ha.below hb3
  clear hown1 hown2
  generalize timesE F M S (S + 5000) = er at *
  generalize timesL F M S (S + 5000) = xs at *
  clear MV
  obtain ⟨A1, p1, rfl, hp1, hA1⟩ := ha
  obtain ⟨A2, p2, rfl, hp2, hA2⟩ := hb
  rw [List.length_map] at hp2 hA2 ⊢
  by_cases h0 : 0 < xs.length
  · obtain ⟨ba, oa, rfl, _, hcA⟩ := hA1 h0
    obtain ⟨bb, ob, rfl, _, hcB⟩ := hA2 h0
    have HCA := Lib.hid hcA
    have HCB := Lib.hid hcB
    clear hA1 hA2 hcA hcB
    go_wp2_with fail
    go_loopw [16] (fun i wr => ∃ k : Nat, k ≤ xs.length ∧ i = .int .i64 k ∧ ∃ n, wr = w3.drewN n) (fun i _ => xs.length - (intOf i).toNat)
    case atStart => exact ⟨0, by omega, rfl, 0, rfl⟩
    case round =>
      obtain ⟨k, hk, rfl, n, rfl⟩ := hrel
      by_cases hlt : k < xs.length
      · obtain ⟨x, hx⟩ : ∃ x, xs[k]? = some x := ⟨_, List.getElem?_eq_getElem hlt⟩
        have cA := HCA.out k x hx
        have cB := HCB.out k (x + B) (by rw [List.getElem?_map, hx]; rfl)
        have bx := BD.out x (List.mem_of_getElem? hx)
        have i1 : (k : Int) < xs.length := by omega
        have t1 : (x + B != x + B) = false := by simp
        clear hx
        go_wp2_with fail
        have wr : IntKind.i64.wrap (x + B) = x + B := IntWalk.i64_in _ (by omega)
        go_quiet (fail)
        clear wr
        go_wp2_with fail
        go_roundw
        case rel => exact ⟨k + 1, by omega, by go_num, _, rfl⟩
        case measure => simp [intOf]; omega
      · have hk' : xs.length ≤ k := by omega
        go_wp2_with fail
        go_ret
        exact ⟨rfl, (by repeat (first | exact Below.refl _ _ | refine Below.drew ?_ | refine below_drewN ?_ _ | refine bal ?_ _ | refine bnext ?_ (by assumption) | refine bset ?_ (by simp) _))⟩
  · have h0' : xs.length = 0 := by omega
    clear hA1 hA2
    obtain rfl : xs = [] := List.eq_nil_of_length_eq_zero h0'
    go_wp2_with fail
    go_loopw [16] (fun i wr => i = .int .i64 0 ∧ wr = w3) (fun i _ => 0)
    case atStart => exact ⟨rfl, rfl⟩
    case round =>
      obtain ⟨rfl, rfl⟩ := hrel
      go_wp2_with fail
      go_ret
      exact ⟨rfl, (by repeat (first | exact Below.refl _ _ | refine Below.drew ?_ | refine below_drewN ?_ _ | refine bal ?_ _ | refine bnext ?_ (by assumption) | refine bset ?_ (by simp) _))⟩
