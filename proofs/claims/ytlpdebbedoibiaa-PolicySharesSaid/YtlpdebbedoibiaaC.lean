/- Contracts: whether a level needs too much; the search. -/
import Derived.Test.YtlpdebbedoibiaaB
import Derived.Deep.RegionHeld3
namespace Go.Proofs.Ytlpdebbedoibiaa
open Go.RowKit
set_option linter.unusedVariables false
set_option linter.unusedSimpArgs false

set_option maxRecDepth 100000 in
set_option maxHeartbeats 2000000 in
theorem over_any (l : List Cl) (hl : l.length ≤ 16) (hL : LevOk (lev l)) (n amount : Int) (h0 : 0 ≤ n) (h1 : n < 1125899906842624) (b0 b1 b2 : Nat) (v : Value) (w : World) (c0 : w.cell? ⟨b0, 0, none⟩ = some v) (hb0 : b0 < w.heap.size) (hS : ClAt w v l)
    (c1 : w.cell? ⟨b1, 0, none⟩ = some (.func (.func 43) #[] #[.pointer (some ⟨b0, 0, none⟩)])) (hb1 : b1 < w.heap.size) (c2 : w.cell? ⟨b2, 0, none⟩ = some (.int .u64 amount)) (hb2 : b2 < w.heap.size) :
    Calls Try.prog 45 #[.int .i64 n, .pointer (some ⟨b1, 0, none⟩), .pointer (some ⟨b2, 0, none⟩)] w (RetB (decide (amount < needs (lev l) (n + 1))) w) := by
  have hN := fun (w' : World) (hB : Below w.heap.size w w') => needs_any l hl hL (n + 1) (by omega) (by omega) b0 v w' ((hB.cell (p := ⟨b0, 0, none⟩) hb0).trans c0) (Nat.lt_of_lt_of_le hb0 hB.size) (hS.below hB)
  have HN := Lib.hid hN
  clear hN hS c0
  have hn1 : n + 1 ≤ 1125899906842624 := by omega
  have hn2 : (0 : Int) ≤ n + 1 := by omega
  have WR : IntKind.u64.wrap (n + 1) = n + 1 := IntWalk.u64_in _ (by omega)
  have WR2 : IntKind.u64.wrap n = n := IntWalk.u64_in _ (by omega)
  go_enter Try.func45, Try.ntmps45
  go_wp2_with fail
  go_region_held3 (fun w' => w'.cell? ⟨b1, 0, none⟩ = some (.func (.func 43) #[] #[.pointer (some ⟨b0, 0, none⟩)]) ∧ w'.cell? ⟨b2, 0, none⟩ = some (.int .u64 amount)) (first | go_keep | exact ⟨(hcf _ _ hb1).trans c1, (hcf _ _ hb2).trans c2⟩)
    (first | (go_at_call 43; refine (HN.out _ ?_).mono ?_; exact (by repeat (first | with_reducible exact Below.refl _ _ | with_reducible refine Below.drew ?_ | with_reducible refine below_drewN ?_ _ | with_reducible refine bal ?_ _ | with_reducible refine bset ?_ (by first | (simp; done) | (simp; omega)) _ | with_reducible refine bnext ?_ (by assumption) | with_reducible assumption)); rintro e w2 ⟨rfl, hb3⟩; have hcf := (bcell hb3).1))
  all_goals
    have hB : Below w.heap.size w w2 := (by repeat (first | with_reducible exact Below.refl _ _ | with_reducible refine Below.drew ?_ | with_reducible refine below_drewN ?_ _ | with_reducible refine bal ?_ _ | with_reducible refine bset ?_ (by first | (simp; done) | (simp; omega)) _ | with_reducible refine bnext ?_ (by assumption) | with_reducible assumption))
    clear hcf
    clear WR WR2
    go_wp2_with fail
    go_ret
    exact ⟨rfl, hB⟩

def FoundPost (n : Int) (f : Int → Bool) (w : World) (e : Ending) (w' : World) : Prop := ∃ i, (0 ≤ i ∧ i ≤ n ∧ (0 < i → f (i - 1) = false) ∧ (i < n → f i = true)) ∧ e = .returned (.int .i64 i) ∧ Below w.heap.size w w'
def Srch (n : Int) (f : Int → Bool) (i j : Int) : Prop := 0 ≤ i ∧ i ≤ j ∧ j ≤ n ∧ (0 < i → f (i - 1) = false) ∧ (j < n → f j = true)

set_option maxRecDepth 100000 in
set_option maxHeartbeats 2000000 in
theorem Search_up (n : Int) (h0 : 0 ≤ n) (h1 : n ≤ 1125899906842624) (p q : Value) (f : Int → Bool) (w : World)
    (hf : ∀ (m : Int) (w' : World), 0 ≤ m → m < n → Below w.heap.size w w' → Calls Try.prog 45 #[.int .i64 m, p, q] w' (RetB (f m) w')) :
    Calls Try.prog 44 #[.int .i64 n, .func (.func 45) #[] #[p, q]] w (FoundPost n f w) := by
  have HF := Lib.hid hf
  clear hf
  go_enter Try.func44, Try.ntmps44
  go_wp2_with fail
  go_loopw [5, 6] (fun a c wr => ∃ i j : Int, Srch n f i j ∧ a = .int .i64 i ∧ c = .int .i64 j ∧ Below w.heap.size w wr) (fun a c _ => (intOf c - intOf a).toNat)
  case atStart => exact ⟨0, n, ⟨by omega, h0, by omega, fun h => absurd h (by omega), fun h => absurd h (by omega)⟩, rfl, rfl, Below.refl _ _⟩
  case round =>
    obtain ⟨i, j, hS, rfl, rfl, hB⟩ := hrel
    have HS := Lib.hid hS
    obtain ⟨hi0, hij, hjn, _, _⟩ := hS
    by_cases hlt : i < j
    · go_wp2_with fail
      have hm0 : 0 ≤ (i + j) / 2 := by omega
      have hm1 : (i + j) / 2 < n := by omega
      have hm2 : i ≤ (i + j) / 2 := by omega
      have hm3 : (i + j) / 2 < j := by omega
      generalize (i + j) / 2 = m at *
      refine (HF.out m _ hm0 hm1 hB).mono ?_
      rintro e w1 ⟨rfl, hb1⟩
      have hB1 : Below w.heap.size w w1 := bnext hB hb1
      by_cases hfm : f m = true
      · have F1 := Lib.hid hfm
        rw [F1.out]
        clear hfm
        go_wp2_with fail
        go_roundw
        case rel => exact ⟨i, m, ⟨hi0, hm2, by omega, HS.out.2.2.2.1, fun _ => F1.out⟩, rfl, rfl, hB1⟩
        case measure => simp [intOf]; omega
      · have hfm' : f m = false := by simpa using hfm
        have F1 := Lib.hid hfm'
        rw [F1.out]
        clear hfm hfm'
        go_wp2_with fail
        go_roundw
        case rel => exact ⟨m + 1, j, ⟨by omega, by omega, hjn, fun _ => by rw [Int.add_sub_cancel]; exact F1.out, HS.out.2.2.2.2⟩, by go_num, rfl, hB1⟩
        case measure => simp [intOf]; omega
    · obtain rfl : i = j := by omega
      go_wp2_with fail
      go_ret
      exact ⟨i, ⟨hi0, hjn, HS.out.2.2.2.1, HS.out.2.2.2.2⟩, rfl, hB⟩
set_option maxRecDepth 100000 in
set_option maxHeartbeats 2000000 in
theorem Search_dn (n : Int) (h0 : 0 ≤ n) (h1 : n ≤ 1125899906842624) (p q : Value) (f : Int → Bool) (w : World)
    (hf : ∀ (m : Int) (w' : World), 0 ≤ m → m < n → Below w.heap.size w w' → Calls Try.prog 48 #[.int .i64 m, p, q] w' (RetB (f m) w')) :
    Calls Try.prog 44 #[.int .i64 n, .func (.func 48) #[] #[p, q]] w (FoundPost n f w) := by
  have HF := Lib.hid hf
  clear hf
  go_enter Try.func44, Try.ntmps44
  go_wp2_with fail
  go_loopw [5, 6] (fun a c wr => ∃ i j : Int, Srch n f i j ∧ a = .int .i64 i ∧ c = .int .i64 j ∧ Below w.heap.size w wr) (fun a c _ => (intOf c - intOf a).toNat)
  case atStart => exact ⟨0, n, ⟨by omega, h0, by omega, fun h => absurd h (by omega), fun h => absurd h (by omega)⟩, rfl, rfl, Below.refl _ _⟩
  case round =>
    obtain ⟨i, j, hS, rfl, rfl, hB⟩ := hrel
    have HS := Lib.hid hS
    obtain ⟨hi0, hij, hjn, _, _⟩ := hS
    by_cases hlt : i < j
    · go_wp2_with fail
      have hm0 : 0 ≤ (i + j) / 2 := by omega
      have hm1 : (i + j) / 2 < n := by omega
      have hm2 : i ≤ (i + j) / 2 := by omega
      have hm3 : (i + j) / 2 < j := by omega
      generalize (i + j) / 2 = m at *
      refine (HF.out m _ hm0 hm1 hB).mono ?_
      rintro e w1 ⟨rfl, hb1⟩
      have hB1 : Below w.heap.size w w1 := bnext hB hb1
      by_cases hfm : f m = true
      · have F1 := Lib.hid hfm
        rw [F1.out]
        clear hfm
        go_wp2_with fail
        go_roundw
        case rel => exact ⟨i, m, ⟨hi0, hm2, by omega, HS.out.2.2.2.1, fun _ => F1.out⟩, rfl, rfl, hB1⟩
        case measure => simp [intOf]; omega
      · have hfm' : f m = false := by simpa using hfm
        have F1 := Lib.hid hfm'
        rw [F1.out]
        clear hfm hfm'
        go_wp2_with fail
        go_roundw
        case rel => exact ⟨m + 1, j, ⟨by omega, by omega, hjn, fun _ => by rw [Int.add_sub_cancel]; exact F1.out, HS.out.2.2.2.2⟩, by go_num, rfl, hB1⟩
        case measure => simp [intOf]; omega
    · obtain rfl : i = j := by omega
      go_wp2_with fail
      go_ret
      exact ⟨i, ⟨hi0, hjn, HS.out.2.2.2.1, HS.out.2.2.2.2⟩, rfl, hB⟩
end Go.Proofs.Ytlpdebbedoibiaa
