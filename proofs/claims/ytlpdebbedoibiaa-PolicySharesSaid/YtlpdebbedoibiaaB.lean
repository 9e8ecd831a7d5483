/- Contracts: checks with numbers, what is needed, filters. -/
import Derived.Test.YtlpdebbedoibiaaA
import Derived.Test.YtlpdebbedoibiaaApp
namespace Go.Proofs.Ytlpdebbedoibiaa
open Go.RowKit
set_option linter.unusedVariables false
set_option linter.unusedSimpArgs false

def nums (xs : List Int) : List Value := xs.map (.int .u64)
def tooBig (xs : List Int) : Bool := xs.any fun x => decide (1125899906842624 < x)
def askE (l : List Cl) (xs : List Int) : Int := if (cchk l).1 ≠ 0 then (cchk l).1 else if tooBig xs = true then 2 else 0

set_option maxRecDepth 100000 in
set_option maxHeartbeats 2000000 in
theorem asked_any (l : List Cl) (xs : List Int) (v u : Value) (w : World) (hS : ClAt w v l) (hN : SlAt w 1 u xs.length (nums xs)) :
    Calls Try.prog 33 #[v, u] w (RetI .i64 (askE l xs) w) := by
  obtain ⟨A, c, rfl, hc1, hc2, hR⟩ := hN
  unfold maxLen at hc2
  have HC := Lib.hid (Check_any l v w hS)
  have HR := Lib.hid hR
  clear hS hR
  go_enter Try.func33, Try.ntmps33
  go_wp2_with fail
  refine HC.out.mono ?_
  rintro e w1 ⟨rfl, hb1⟩
  by_cases h0 : (cchk l).1 = 0
  · have E : Hid (askE l xs = if tooBig xs = true then 2 else 0) := if_neg (fun h => h h0)
    rw [h0]
    clear h0
    go_wp2_with fail
    go_loopw [19] (fun a wr => ∃ k : Nat, k ≤ xs.length ∧ a = .int .i64 k ∧ (tooBig (xs.take k) = false) ∧ Below w.heap.size w wr) (fun a _ => xs.length - (intOf a).toNat)
    case atStart => exact ⟨0, by omega, rfl, rfl, hb1⟩
    case round =>
      obtain ⟨k, hk, rfl, hM, hB⟩ := hrel
      have HM := Lib.hid hM
      clear hM
      by_cases hlt : k < xs.length
      · obtain ⟨x, hx⟩ : ∃ x, xs[k]? = some x := ⟨_, List.getElem?_eq_getElem hlt⟩
        have hx' : (nums xs)[k]? = some (.int .u64 x) := by unfold nums; rw [List.getElem?_map, hx]; rfl
        obtain ⟨b, o, rfl, hb, d0⟩ := reads_at (HR.out.keep hB.size fun b o h => hB.cell (p := ⟨b, o, none⟩) h) hx'
        have HT := hidI (List.take_succ_eq_append_getElem hlt)
        have HG : Hid (xs[k] = x) := hidI (by have := List.getElem?_eq_getElem hlt; rw [hx] at this; injection this with h; exact h.symm)
        have hi : (k : Int) < xs.length := by omega
        have HX := Lib.hid hx
        clear hx hx'
        by_cases c1 : 1125899906842624 < x
        · have F : Hid (tooBig xs = true) := hidI (List.any_eq_true.2 ⟨x, List.mem_of_getElem? HX.out, by simpa using c1⟩)
          go_wp2_with fail
          go_ret
          exact ⟨by rw [E.out, if_pos F.out]; rfl, (by repeat (first | with_reducible exact Below.refl _ _ | with_reducible refine Below.drew ?_ | with_reducible refine below_drewN ?_ _ | with_reducible refine bal ?_ _ | with_reducible refine bset ?_ (by first | (simp; done) | (simp; omega)) _ | with_reducible refine bnext ?_ (by assumption) | with_reducible assumption))⟩
        · have F : Hid (tooBig (xs.take (k + 1)) = false) := hidI (by
            rw [HT.out, HG.out]
            have := HM.out
            unfold tooBig at this ⊢
            rw [List.any_append, this]
            simp
            omega)
          go_wp2_with fail
          go_roundw
          case rel => exact ⟨k + 1, by omega, by go_num, F.out, hB⟩
          case measure => simp [intOf]; omega
      · obtain rfl : k = xs.length := by omega
        have F : Hid (¬ tooBig xs = true) := hidI (by have := HM.out; rw [List.take_of_length_le (Nat.le_refl _)] at this; simp [this])
        go_wp2_with fail
        go_ret
        exact ⟨by rw [E.out, if_neg F.out]; rfl, hB⟩
  · have E : Hid (askE l xs = (cchk l).1) := if_pos h0
    have hne : ((cchk l).1 != 0) = true := by rw [bne_iff_ne]; exact h0
    clear h0
    go_wp2_with fail
    go_ret
    exact ⟨by rw [E.out]; rfl, hb1⟩

/-- the levels are numbers of credit -/
def LevOk (L : List Int) : Prop := ∀ x ∈ L, 0 ≤ x ∧ x ≤ 1125899906842624
theorem lev_get {l : List Cl} {k : Nat} {x : Cl} (h : l[k]? = some x) : (lev l)[k]? = some x.res := by unfold lev; rw [List.getElem?_map, h]; rfl
theorem needs_app (a b : List Int) (v : Int) : needs (a ++ b) v = needs a v + needs b v := by simp [needs]
theorem gives_app (a b : List Int) (v : Int) : gives (a ++ b) v = gives a v + gives b v := by simp [gives]
theorem lev_take {l : List Cl} {k : Nat} {x : Cl} (h : l[k]? = some x) : lev (l.take (k + 1)) = lev (l.take k) ++ [x.res] := by
  obtain ⟨hk, rfl⟩ := List.getElem?_eq_some_iff.1 h
  rw [List.take_succ_eq_append_getElem hk]
  unfold lev
  rw [List.map_append]
  rfl

set_option maxRecDepth 100000 in
set_option maxHeartbeats 2000000 in
theorem needs_any (l : List Cl) (hl : l.length ≤ 16) (hL : LevOk (lev l)) (level : Int) (h0 : 0 ≤ level) (h1 : level ≤ 1125899906842624) (b : Nat) (v : Value) (w : World) (hb : w.cell? ⟨b, 0, none⟩ = some v) (hbl : b < w.heap.size) (hS : ClAt w v l) :
    Calls Try.prog 43 #[.int .u64 level, .pointer (some ⟨b, 0, none⟩)] w (RetI .u64 (needs (lev l) level) w) := by
  obtain ⟨A, c, rfl, hc1, hc2, hR⟩ := hS
  unfold maxLen at hc2
  have HR := Lib.hid hR
  have HL := Lib.hid hL
  clear hR hL
  go_enter Try.func43, Try.ntmps43
  go_wp2_with fail
  go_loopw [4, 9] (fun s a wr => ∃ k : Nat, k ≤ l.length ∧ a = .int .i64 k ∧ s = .int .u64 (needs (lev (l.take k)) level) ∧ Below w.heap.size w wr) (fun _ a _ => l.length - (intOf a).toNat)
  case atStart => exact ⟨0, by omega, rfl, rfl, Below.refl _ _⟩
  case round =>
    obtain ⟨k, hk, rfl, rfl, hB⟩ := hrel
    by_cases hlt : k < l.length
    · obtain ⟨x, hx⟩ : ∃ x, l[k]? = some x := ⟨_, List.getElem?_eq_getElem hlt⟩
      have hR := HR.out.keep hB.size fun b o h => hB.cell (p := ⟨b, o, none⟩) h
      obtain ⟨b, o, rfl, hb, d0, d1, d2, d3⟩ := reads_fl4 cl4 hR rfl hx (by rfl : x.cells = [_, _, _, _])
      have hxr := HL.out x.res (List.mem_of_getElem? (lev_get hx))
      obtain ⟨hx0, hx1⟩ := hxr
      have HT : Hid (needs (lev (l.take (k + 1))) level = needs (lev (l.take k)) level + (mx x.res level - x.res)) := hidI (by rw [lev_take hx, needs_app]; simp)
      have hn0 := needs_nonneg (lev (l.take k)) level
      have hn1 : needs (lev (l.take k)) level ≤ 18014398509481984 := by
        have := needs_bd (lev (l.take k)) level 1125899906842624 (fun x hx => (HL.out x (by unfold lev at hx ⊢; exact List.mem_of_mem_take (by rwa [List.map_take] at hx))).1) h0 h1
        have e : ((lev (l.take k)).length : Int) ≤ 16 := by unfold lev; rw [List.length_map, List.length_take]; omega
        have : ((lev (l.take k)).length : Int) * 1125899906842624 ≤ 16 * 1125899906842624 := Int.mul_le_mul_of_nonneg_right e (by decide)
        omega
      have hi : (k : Int) < l.length := by omega
      clear hx hR
      generalize needs (lev (l.take k)) level = s at *
      by_cases c1 : x.res < level
      · have HM : Hid (mx x.res level = level) := if_pos c1
        go_wp2_with fail
        go_roundw
        case rel => exact ⟨k + 1, by omega, by go_num, by rw [HT.out, HM.out], (by repeat (first | with_reducible exact Below.refl _ _ | with_reducible refine Below.drew ?_ | with_reducible refine below_drewN ?_ _ | with_reducible refine bal ?_ _ | with_reducible refine bset ?_ (by first | (simp; done) | (simp; omega)) _ | with_reducible refine bnext ?_ (by assumption) | with_reducible assumption))⟩
        case measure => simp [intOf]; omega
      · have HM : Hid (mx x.res level = x.res) := if_neg c1
        have c1' : level ≤ x.res := by omega
        go_wp2_with fail
        all_goals go_roundw
        case rel => exact ⟨k + 1, by omega, by go_num, by rw [HT.out, HM.out]; simp, (by repeat (first | with_reducible exact Below.refl _ _ | with_reducible refine Below.drew ?_ | with_reducible refine below_drewN ?_ _ | with_reducible refine bal ?_ _ | with_reducible refine bset ?_ (by first | (simp; done) | (simp; omega)) _ | with_reducible refine bnext ?_ (by assumption) | with_reducible assumption))⟩
        case measure => simp [intOf]; omega
    · obtain rfl : k = l.length := by omega
      have HT : Hid (l.take l.length = l) := hidI (List.take_of_length_le (Nat.le_refl _))
      go_wp2_with fail
      go_ret
      exact ⟨by rw [HT.out]; rfl, hB⟩
end Go.Proofs.Ytlpdebbedoibiaa
