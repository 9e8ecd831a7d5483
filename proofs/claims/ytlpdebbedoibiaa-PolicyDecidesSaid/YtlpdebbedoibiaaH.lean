/- Contracts: lists of shares; the chapter's examples that every statement asks. -/
import Derived.Test.YtlpdebbedoibiaaG
import Derived.Deep.DrawnRows
namespace Go.Proofs.Ytlpdebbedoibiaa
open Go.RowKit
set_option linter.unusedVariables false
set_option linter.unusedSimpArgs false

set_option maxRecDepth 100000 in
set_option maxHeartbeats 2000000 in
theorem list_any (xs : List Int) (n : Nat) (hn : xs.length = 2 * n) (hp : ∀ x ∈ xs, 0 ≤ x ∧ x ≤ 1125899906842624) (v : Value) (w : World) (hS : SlAt w 1 v xs.length (ints xs)) (hl : n ≤ 1000) :
    Calls Try.prog 30 #[v] w (RetSh (lst xs) w) := by
  obtain ⟨A, c, rfl, hc1, hc2, hR⟩ := hS
  unfold maxLen at hc2
  have HR := Lib.hid hR
  have HP := Lib.hid hp
  have HN := Lib.hid hn
  have hlen : (xs.length : Int) ≤ 2000 := by omega
  clear hR hp hn
  go_enter Try.func30, Try.ntmps30
  go_wp2_with fail
  go_loopw [3, 4] (fun s a wr => ∃ k : Nat, k ≤ n ∧ a = .int .i64 (2 * k : Nat) ∧ OwnSh w wr s (lst (xs.take (2 * k))) ∧ Below w.heap.size w wr) (fun _ a _ => 2 * n - (intOf a).toNat)
  case atStart => exact ⟨0, by omega, rfl, World.ownsRow_nil _ _ _ _, Below.refl _ _⟩
  case round =>
    obtain ⟨k, hk, rfl, hO, hB⟩ := hrel
    obtain ⟨A1, c1, rfl⟩ := own_form hO
    have hz := hB.size
    have HO := Lib.hid hO
    clear hO
    by_cases hlt : k < n
    · obtain ⟨x, hx⟩ : ∃ x, xs[2 * k]? = some x := ⟨_, List.getElem?_eq_getElem (by have := HN.out; omega)⟩
      obtain ⟨y, hy⟩ : ∃ y, xs[2 * k + 1]? = some y := ⟨_, List.getElem?_eq_getElem (by have := HN.out; omega)⟩
      have hx' : (ints xs)[2 * k]? = some (.int .i64 x) := by unfold ints; rw [List.getElem?_map, hx]; rfl
      have hy' : (ints xs)[2 * k + 1]? = some (.int .i64 y) := by unfold ints; rw [List.getElem?_map, hy]; rfl
      obtain ⟨b, o, rfl, hb, q0⟩ := reads_at HR.out hx'
      obtain ⟨b', o', e', _, q1⟩ := reads_at HR.out hy'
      cases e'
      have d0 := (hB.cell (p := ⟨b, o + 2 * k, none⟩) hb).trans q0
      have d1 := (hB.cell (p := ⟨b, o + (2 * k + 1), none⟩) hb).trans q1
      obtain ⟨hy0, hy1⟩ := HP.out y (List.mem_of_getElem? hy)
      have HT : Hid (lst (xs.take (2 * (k + 1))) = lst (xs.take (2 * k)) ++ [⟨x, y⟩]) := hidI (by
        obtain ⟨hk1, rfl⟩ := List.getElem?_eq_some_iff.1 hx
        obtain ⟨hk2, rfl⟩ := List.getElem?_eq_some_iff.1 hy
        rw [show 2 * (k + 1) = 2 * k + 1 + 1 by omega, List.take_succ_eq_append_getElem hk2, List.take_succ_eq_append_getElem hk1, List.append_assoc]
        exact lst_app _ _ _ k (by rw [List.length_take]; omega))
      have hll : (lst (xs.take (2 * k))).length = k := lst_len _ k (by rw [List.length_take]; have := HN.out; omega)
      have hi : (2 * k : Nat) < (xs.length : Int) - 1 := by have := HN.out; omega
      have hi2 : ((2 * k : Nat) : Int) + 1 < (xs.length : Int) := by omega
      have hi0 : (0 : Int) ≤ ((2 * k : Nat) : Int) := by omega
      have hi3 : ((2 * k : Nat) : Int) < (xs.length : Int) := by omega
      have HLL := Lib.hid hll
      obtain ⟨kk, hkk⟩ : ∃ kk, 2 * k = kk := ⟨_, rfl⟩
      have HKK := Lib.hid hkk
      rw [hkk] at q0 q1 d0 d1 hi hi0 hi2 hi3 HO HLL HT
      rw [hkk]
      have W1 : IntKind.i64.wrap ((kk : Int) + 1) = (kk : Int) + 1 := IntWalk.i64_in _ (by omega)
      have W2 : IntKind.u64.wrap y = y := IntWalk.u64_in _ (by omega)
      have hi4 : (0 : Int) ≤ (kk : Int) + 1 := by omega
      have hNat : ((kk : Int) + 1).toNat = kk + 1 := by omega
      clear hx hy hx' hy' hll hkk
      go_wp2_with fail
      go_region_held3 (fun w' => w'.cell? ⟨b, o + kk, none⟩ = some (.int .i64 x) ∧ w'.cell? ⟨b, o + (kk + 1), none⟩ = some (.int .i64 y)) (first | go_keep | exact ⟨(hB2.cell (p := ⟨b, o + kk, none⟩) hb).trans q0, (hB2.cell (p := ⟨b, o + (kk + 1), none⟩) hb).trans q1⟩)
        ((refine step_app (f := Sh.cells) (by rfl) _ _ 28 (by rfl) w.heap.size 58 2 16 infoSh rfl (by decide) Try.underlying28 sh2 sh_one _ w w.heap.size ⟨x, y⟩ (lst (xs.take kk)) _ wr.heap.size (by rfl) (by rfl) (by first | exact (Blk.new _ _ _).drew | exact Blk.new _ _ _) (by first | exact (HO.out.alloc _).drew | exact HO.out.alloc _) (by exact (by repeat (first | with_reducible exact Below.refl _ _ | with_reducible refine Below.drew ?_ | with_reducible refine below_drewN ?_ _ | with_reducible refine bal ?_ _ | with_reducible refine bset ?_ (by first | (simp; done) | (simp; omega)) _ | with_reducible refine bnext ?_ (by assumption) | with_reducible assumption))) (Nat.le_refl _) (by simp; omega) (by rw [HLL.out]; omega) (by rw [HLL.out]; unfold maxLen; omega) ?_; intro A2 c2 w2 hown hB2 _; have HO2 := Lib.hid hown; clear hown))
      clear W1 W2
      go_wp2_with fail
      go_roundw
      case rel => exact ⟨k + 1, by omega, by rw [show 2 * (k + 1) = kk + 2 from by have := HKK.out; omega]; go_num, by rw [HT.out]; exact HO2.out, hB2⟩
      case measure => have := HKK.out; simp [intOf]; omega
    · obtain rfl : k = n := by omega
      have HT : Hid (xs.take (2 * k) = xs) := hidI (List.take_of_length_le (by have := HN.out; omega))
      have hi : ¬ ((2 * k : Nat) : Int) + 1 < xs.length := by have := HN.out; omega
      obtain ⟨kk, hkk⟩ : ∃ kk, 2 * k = kk := ⟨_, rfl⟩
      rw [hkk] at hi HT HO
      rw [hkk]
      have hk2 : (kk : Int) ≤ 2000 := by omega
      clear hkk
      go_wp2_with fail
      go_ret
      exact ⟨A1, c1, by rw [HT.out]; rfl, by have := HO.out; rwa [HT.out] at this, hB⟩
end Go.Proofs.Ytlpdebbedoibiaa
