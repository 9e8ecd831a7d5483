/- Contracts on the way to this seat's statements; what each theorem says stands in its type. -/
import Derived.Test.YtblfdikjimagjaaW9
namespace Go.Proofs.Ytblfdikjimagjaa
set_option linter.unusedVariables false
open Go.RowKit

/-- the slice value reads as the numbers xs -/
def IntsAt (w : World) (v : Value) (xs : List Int) : Prop :=
  ∃ A c, v = .slice A xs.length c ∧ xs.length ≤ c ∧ (0 < xs.length → ∃ b o, A = some ⟨b, o, none⟩ ∧ b < w.heap.size ∧ ∀ k x, xs[k]? = some x → w.cell? ⟨b, o + k, none⟩ = some (.int .i64 x))

theorem ret_b {a b : Bool} (h : a = b) : Ending.returned (.bool a) = .returned (.bool b) := by rw [h]

set_option maxHeartbeats 400000 in
theorem same_any (va vb : Value) (xs ys : List Int) (w : World) (ha : IntsAt w va xs) (hb : IntsAt w vb ys) (hx : xs.length ≤ 100000) (hy : ys.length ≤ 100000) :
    Calls Try.prog 19 #[va, vb] w fun e w' => e = .returned (.bool (xs == ys)) ∧ Below w.heap.size w w' := by
  obtain ⟨A, c, rfl, hc, hA⟩ := ha
  obtain ⟨B, d, rfl, hd, hB⟩ := hb
  by_cases hl : xs.length = ys.length
  · by_cases h0 : xs.length = 0
    · have e1 : xs = [] := List.eq_nil_of_length_eq_zero h0
      have e2 : ys = [] := List.eq_nil_of_length_eq_zero (by omega)
      subst e1 e2
      clear hA hB
      go_enter Try.func19, Try.ntmps19
      go_wp2
      go_loopw [5] (fun a wr => a = .int .i64 0 ∧ wr = w) (fun _ _ => 0)
      case atStart => exact ⟨rfl, rfl⟩
      case round =>
        obtain ⟨rfl, rfl⟩ := hrel
        go_wp2
        go_ret
        exact ⟨rfl, Below.refl _ _⟩
    · obtain ⟨ba, oa, rfl, _, hcA⟩ := hA (by omega)
      obtain ⟨bb, ob, rfl, _, hcB⟩ := hB (by omega)
      clear hA hB
      have hlt : (ys.length : Int) = xs.length := by omega
      have HL := Lib.hid hl
      have hle : ys.length ≤ xs.length := by omega
      have hge : xs.length ≤ ys.length := by omega
      have hne : ((xs.length : Int) != (ys.length : Int)) = false := by rw [hlt]; simp
      have HCA := Lib.hid hcA
      have HCB := Lib.hid hcB
      clear hl hlt hcA hcB
      go_enter Try.func19, Try.ntmps19
      go_wp2
      go_loopw [5] (fun a wr => ∃ k : Nat, k ≤ xs.length ∧ a = .int .i64 k ∧ (∀ i, i < k → xs[i]? = ys[i]?) ∧ ∃ n, wr = w.drewN n) (fun a _ => xs.length - (intOf a).toNat)
      case atStart => exact ⟨0, Nat.zero_le _, rfl, fun i hi => absurd hi (by omega), 0, rfl⟩
      case round =>
        obtain ⟨k, hk, rfl, hall, n, rfl⟩ := hrel
        have HALL := Lib.hid hall
        clear hall
        by_cases hlt : k < xs.length
        · obtain ⟨x, hx1⟩ : ∃ x, xs[k]? = some x := ⟨_, List.getElem?_eq_getElem hlt⟩
          obtain ⟨y, hy1⟩ : ∃ y, ys[k]? = some y := ⟨_, List.getElem?_eq_getElem (by omega)⟩
          have cA := HCA.out k x hx1
          have cB := HCB.out k y hy1
          have X := Lib.hid hx1
          have Y := Lib.hid hy1
          have hlt2 : k < ys.length := by omega
          have i1 : (k : Int) < xs.length := by omega
          have i2 : (k : Int) < ys.length := by omega
          clear hx1 hy1
          by_cases hxy : x = y
          · subst hxy
            go_wp2
            go_quiet (fail)
            go_wp2
            go_roundw
            case rel => exact ⟨k + 1, by omega, by go_num, fun i hi => by
              by_cases e : i = k
              · rw [e, X.out, Y.out]
              · exact HALL.out i (by omega), _, rfl⟩
            case measure => simp [intOf]; omega
          · have hb1 : (x != y) = true := by simp [hxy]
            go_wp2
            go_quiet (fail)
            go_wp2
            go_ret
            exact ⟨ret_b (by
              symm
              rw [beq_eq_false_iff_ne]
              intro e
              have a := X.out
              rw [e, Y.out] at a
              exact hxy (by injection a with a; exact a.symm)), (by repeat (first | exact Below.refl _ _ | refine Below.drew ?_ | refine below_drewN ?_ _ | refine bal ?_ _ | refine bnext ?_ (by assumption) | refine bset ?_ (by simp) _))⟩
        · have e : k = xs.length := by omega
          have E := Lib.hid e
          clear e
          go_wp2
          go_ret
          exact ⟨ret_b (by
            symm
            rw [beq_iff_eq]
            refine List.ext_getElem? fun i => ?_
            by_cases hi : i < xs.length
            · exact HALL.out i (by rw [E.out]; exact hi)
            · rw [List.getElem?_eq_none (by omega), List.getElem?_eq_none (by omega)]), (by repeat (first | exact Below.refl _ _ | refine Below.drew ?_ | refine below_drewN ?_ _ | refine bal ?_ _ | refine bnext ?_ (by assumption) | refine bset ?_ (by simp) _))⟩
  · have hne : ((xs.length : Int) != (ys.length : Int)) = true := by rw [bne_iff_ne]; omega
    clear hA hB
    have HL := Lib.hid hl
    clear hl
    go_enter Try.func19, Try.ntmps19
    go_wp2
    go_ret
    exact ⟨ret_b (by
      symm
      rw [beq_eq_false_iff_ne]
      intro e
      exact HL.out (by rw [e])), (by repeat (first | exact Below.refl _ _ | refine Below.drew ?_ | refine below_drewN ?_ _ | refine bal ?_ _ | refine bnext ?_ (by assumption) | refine bset ?_ (by simp) _))⟩
