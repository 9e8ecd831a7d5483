/- Contracts: what is given, and whether it is too much. -/
import Derived.Test.YtlpdebbedoibiaaE
namespace Go.Proofs.Ytlpdebbedoibiaa
open Go.RowKit
set_option linter.unusedVariables false
set_option linter.unusedSimpArgs false

set_option maxRecDepth 100000 in
set_option maxHeartbeats 2000000 in
theorem gives_any (l : List Cl) (hl : l.length ≤ 16) (hL : LevOk (lev l)) (level : Int) (h0 : 0 ≤ level) (h1 : level ≤ 1125899906842624) (b : Nat) (v : Value) (w : World) (hb : w.cell? ⟨b, 0, none⟩ = some v) (hbl : b < w.heap.size) (hS : ClAt w v l) :
    Calls Try.prog 47 #[.int .u64 level, .pointer (some ⟨b, 0, none⟩)] w (RetI .u64 (gives (lev l) level) w) := by
  obtain ⟨A, c, rfl, hc1, hc2, hR⟩ := hS
  unfold maxLen at hc2
  have HR := Lib.hid hR
  have HL := Lib.hid hL
  clear hR hL
  go_enter Try.func47, Try.ntmps47
  go_wp2_with fail
  go_loopw [4, 9] (fun s a wr => ∃ k : Nat, k ≤ l.length ∧ a = .int .i64 k ∧ s = .int .u64 (gives (lev (l.take k)) level) ∧ Below w.heap.size w wr) (fun _ a _ => l.length - (intOf a).toNat)
  case atStart => exact ⟨0, by omega, rfl, rfl, Below.refl _ _⟩
  case round =>
    obtain ⟨k, hk, rfl, rfl, hB⟩ := hrel
    by_cases hlt : k < l.length
    · obtain ⟨x, hx⟩ : ∃ x, l[k]? = some x := ⟨_, List.getElem?_eq_getElem hlt⟩
      have hR := HR.out.keep hB.size fun b o h => hB.cell (p := ⟨b, o, none⟩) h
      obtain ⟨b, o, rfl, hb, d0, d1, d2, d3⟩ := reads_fl4 cl4 hR rfl hx (by rfl : x.cells = [_, _, _, _])
      have hxr := HL.out x.res (List.mem_of_getElem? (lev_get hx))
      obtain ⟨hx0, hx1⟩ := hxr
      have HT : Hid (gives (lev (l.take (k + 1))) level = gives (lev (l.take k)) level + (x.res - mn x.res level)) := hidI (by rw [lev_take hx, gives_app]; simp)
      have hn0 := gives_nonneg (lev (l.take k)) level
      have hn1 : gives (lev (l.take k)) level ≤ 18014398509481984 := by
        have := gives_bd (lev (l.take k)) level 1125899906842624 (fun x hx => HL.out x (by unfold lev at hx ⊢; exact List.mem_of_mem_take (by rwa [List.map_take] at hx))) h0
        have e : ((lev (l.take k)).length : Int) ≤ 16 := by unfold lev; rw [List.length_map, List.length_take]; omega
        have : ((lev (l.take k)).length : Int) * 1125899906842624 ≤ 16 * 1125899906842624 := Int.mul_le_mul_of_nonneg_right e (by decide)
        omega
      have hi : (k : Int) < l.length := by omega
      clear hx hR
      generalize gives (lev (l.take k)) level = s at *
      by_cases c1 : level < x.res
      · have HM : Hid (mn x.res level = level) := if_pos c1
        go_wp2_with fail
        go_roundw
        case rel => exact ⟨k + 1, by omega, by go_num, by rw [HT.out, HM.out], (by repeat (first | with_reducible exact Below.refl _ _ | with_reducible refine Below.drew ?_ | with_reducible refine below_drewN ?_ _ | with_reducible refine bal ?_ _ | with_reducible refine bset ?_ (by first | (simp; done) | (simp; omega)) _ | with_reducible refine bnext ?_ (by assumption) | with_reducible assumption))⟩
        case measure => simp [intOf]; omega
      · have HM : Hid (mn x.res level = x.res) := if_neg c1
        have c1' : x.res ≤ level := by omega
        go_wp2_with fail
        all_goals go_roundw
        case rel => exact ⟨k + 1, by omega, by go_num, by rw [HT.out, HM.out]; simp, (by repeat (first | with_reducible exact Below.refl _ _ | with_reducible refine Below.drew ?_ | with_reducible refine below_drewN ?_ _ | with_reducible refine bal ?_ _ | with_reducible refine bset ?_ (by first | (simp; done) | (simp; omega)) _ | with_reducible refine bnext ?_ (by assumption) | with_reducible assumption))⟩
        case measure => simp [intOf]; omega
    · obtain rfl : k = l.length := by omega
      have HT : Hid (l.take l.length = l) := hidI (List.take_of_length_le (Nat.le_refl _))
      go_wp2_with fail
      go_ret
      exact ⟨by rw [HT.out]; rfl, hB⟩
set_option maxRecDepth 100000 in
set_option maxHeartbeats 2000000 in
theorem under_any (l : List Cl) (hl : l.length ≤ 16) (hL : LevOk (lev l)) (n amount : Int) (h0 : 0 ≤ n) (h1 : n < 1125899906842624) (b0 b1 b2 : Nat) (v : Value) (w : World) (c0 : w.cell? ⟨b0, 0, none⟩ = some v) (hb0 : b0 < w.heap.size) (hS : ClAt w v l)
    (c1 : w.cell? ⟨b1, 0, none⟩ = some (.func (.func 47) #[] #[.pointer (some ⟨b0, 0, none⟩)])) (hb1 : b1 < w.heap.size) (c2 : w.cell? ⟨b2, 0, none⟩ = some (.int .u64 amount)) (hb2 : b2 < w.heap.size) :
    Calls Try.prog 48 #[.int .i64 n, .pointer (some ⟨b1, 0, none⟩), .pointer (some ⟨b2, 0, none⟩)] w (RetB (decide (gives (lev l) n ≤ amount)) w) := by
  have hN := fun (w' : World) (hB : Below w.heap.size w w') => gives_any l hl hL n (by omega) (by omega) b0 v w' ((hB.cell (p := ⟨b0, 0, none⟩) hb0).trans c0) (Nat.lt_of_lt_of_le hb0 hB.size) (hS.below hB)
  have HN := Lib.hid hN
  clear hN hS c0
  have WR2 : IntKind.u64.wrap n = n := IntWalk.u64_in _ (by omega)
  go_enter Try.func48, Try.ntmps48
  go_wp2_with fail
  go_region_held3 (fun w' => w'.cell? ⟨b1, 0, none⟩ = some (.func (.func 47) #[] #[.pointer (some ⟨b0, 0, none⟩)]) ∧ w'.cell? ⟨b2, 0, none⟩ = some (.int .u64 amount)) (first | go_keep | exact ⟨(hcf _ _ hb1).trans c1, (hcf _ _ hb2).trans c2⟩)
    (first | (go_at_call 47; refine (HN.out _ ?_).mono ?_; exact (by repeat (first | with_reducible exact Below.refl _ _ | with_reducible refine Below.drew ?_ | with_reducible refine below_drewN ?_ _ | with_reducible refine bal ?_ _ | with_reducible refine bset ?_ (by first | (simp; done) | (simp; omega)) _ | with_reducible refine bnext ?_ (by assumption) | with_reducible assumption)); rintro e w2 ⟨rfl, hb3⟩; have hcf := (bcell hb3).1))
  all_goals
    have hB : Below w.heap.size w w2 := (by repeat (first | with_reducible exact Below.refl _ _ | with_reducible refine Below.drew ?_ | with_reducible refine below_drewN ?_ _ | with_reducible refine bal ?_ _ | with_reducible refine bset ?_ (by first | (simp; done) | (simp; omega)) _ | with_reducible refine bnext ?_ (by assumption) | with_reducible assumption))
    clear hcf
    clear WR2
    go_wp2_with fail
    go_ret
    exact ⟨rfl, hB⟩

end Go.Proofs.Ytlpdebbedoibiaa
