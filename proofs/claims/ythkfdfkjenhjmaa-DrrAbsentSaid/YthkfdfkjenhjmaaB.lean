/- Contracts: the error of a state. -/
import Derived.Test.YthkfdfkjenhjmaaA
namespace Go.Proofs.Ythkfdfkjenhjmaa
open Go.RowKit
set_option linter.unusedVariables false
set_option linter.unusedSimpArgs false

/-- the value of a state -/
def drv (vW vD : Value) (d : Dr) : Value := .agg #[vW, .int .i64 d.q, vD, .int .i64 d.t]
def DrV (w : World) (v : Value) (d : Dr) : Prop := ∃ vW vD, v = .agg #[vW, .int .i64 d.q, vD, .int .i64 d.t] ∧ IntAt w vW d.W ∧ IntAt w vD d.D
theorem DrV.below {w w' : World} {v : Value} {d : Dr} (h : DrV w v d) (hb : Below w.heap.size w w') : DrV w' v d := by
  obtain ⟨a, b, e, h1, h2⟩ := h
  exact ⟨a, b, e, h1.below hb, h2.below hb⟩
theorem DrV.alloc {w : World} {v : Value} {d : Dr} (h : DrV w v d) (o : Obj) : DrV (w.alloc o) v d := h.below ((Below.refl _ _).alloc (Nat.le_refl _) o)
theorem DrV.drew {w : World} {v : Value} {d : Dr} (h : DrV w v d) : DrV w.drew v d := h

theorem chk_len1 {d : Dr} (h : d.W.length ≠ 3 ∨ d.D.length ≠ 3) : chk d = 3 := if_pos h
theorem chk_wg {d : Dr} (h1 : d.W.length = 3) (h2 : d.D.length = 3) (h : wgE d.W d.q ≠ 0) : chk d = wgE d.W d.q := by
  unfold chk; rw [if_neg (by omega), if_pos h]
theorem chk_any {d : Dr} (h1 : d.W.length = 3) (h2 : d.D.length = 3) (h : wgE d.W d.q = 0) (h3 : d.D.any dbad = true) : chk d = 2 := by
  unfold chk; rw [if_neg (by omega), if_neg (by omega), if_pos h3]
theorem chk_turn {d : Dr} (h1 : d.W.length = 3) (h2 : d.D.length = 3) (h : wgE d.W d.q = 0) (h3 : d.D.any dbad = false) (h4 : d.t < 0 ∨ 3 ≤ d.t) : chk d = 2 := by
  unfold chk; rw [if_neg (by omega), if_neg (by omega), h3, if_neg (by decide), if_pos h4]
theorem chk_zero {d : Dr} (h1 : d.W.length = 3) (h2 : d.D.length = 3) (h : wgE d.W d.q = 0) (h3 : d.D.any dbad = false) (h4 : ¬ (d.t < 0 ∨ 3 ≤ d.t)) : chk d = 0 := by
  unfold chk; rw [if_neg (by omega), if_neg (by omega), h3, if_neg (by decide), if_neg h4]

set_option maxRecDepth 100000 in
set_option maxHeartbeats 4000000 in
theorem Check_any (d : Dr) (v : Value) (w : World) (hS : DrV w v d) :
    Calls Try.prog 15 #[v] w (RetI (chk d) w) := by
  obtain ⟨W, q, D, t⟩ := d
  obtain ⟨vW, vD, rfl, hW, hD⟩ := hS
  obtain ⟨A, c, rfl, _, hc2, _⟩ := id hW
  obtain ⟨A', c', rfl, _, hc2', _⟩ := id hD
  unfold maxLen at hc2 hc2'
  have HW := Lib.hid hW
  have HD := Lib.hid hD
  clear hW hD
  dsimp only at *
  by_cases h1 : W.length = 3
  · have t1 : ((W.length : Int) != 3) = false := by rw [h1]; rfl
    by_cases h2 : D.length = 3
    · have t2 : ((D.length : Int) != 3) = false := by rw [h2]; rfl
      have H1 := Lib.hid h1
      have H2 := Lib.hid h2
      have hd3 : D.length ≤ 3 := by omega
      clear h1 h2
      go_enter Try.func15, Try.ntmps15
      go_wp2_with fail
      refine (weighed_any W q _ _ (HW.out.alloc _)).mono ?_
      rintro e w1 ⟨rfl, hb1⟩
      have hB1 : Below w.heap.size w w1 := bnext (bal (Below.refl _ _) _) hb1
      obtain ⟨c0, c1, c2, c3⟩ := ((Blk.new w 24 #[.slice A W.length c, .int .i64 q, .slice A' D.length c', .int .i64 t]).below hb1).c4
      have HD1 := Lib.hid ((HD.out.alloc (.cells #[.slice A W.length c, .int .i64 q, .slice A' D.length c', .int .i64 t] 24)).below hb1)
      clear hb1
      by_cases h3 : wgE W q = 0
      · have H3 := Lib.hid h3
        have t3 : (wgE W q != 0) = false := by rw [h3]; rfl
        clear h3
        go_wp2_with fail
        go_loop [27] (fun a => ∃ k : Nat, k ≤ D.length ∧ a = .int .i64 k ∧ AnyMid dbad D k) (fun a => D.length - (intOf a).toNat)
        case atStart => exact ⟨0, by omega, rfl, rfl⟩
        case round =>
          obtain ⟨k, hk, rfl, hM⟩ := hrel
          have HM := Lib.hid hM
          clear hM
          by_cases hlt : k < D.length
          · obtain ⟨x, hx⟩ : ∃ x, D[k]? = some x := ⟨_, List.getElem?_eq_getElem hlt⟩
            obtain ⟨A2, c2', e2, _, _, hR⟩ := HD1.out
            cases e2
            obtain ⟨b, o, rfl, hb, d0⟩ := reads_at hR (ints_get hx)
            have hi : (k : Int) < D.length := by omega
            have HX := Lib.hid hx
            clear hx hR
            by_cases x1 : x < 0
            · have F : Hid (chk ⟨W, q, D, t⟩ = 2) := Lib.hid (chk_any H1.out H2.out H3.out (HM.out.hit HX.out (by simp [dbad, x1])))
              go_wp2_with fail
              go_ret
              exact ⟨by rw [F.out]; rfl, hB1⟩
            · by_cases x2 : 1099511627776 < x
              · have F : Hid (chk ⟨W, q, D, t⟩ = 2) := Lib.hid (chk_any H1.out H2.out H3.out (HM.out.hit HX.out (by simp [dbad, x2])))
                go_wp2_with fail
                go_ret
                exact ⟨by rw [F.out]; rfl, hB1⟩
              · have F : Hid (AnyMid dbad D (k + 1)) := Lib.hid (HM.out.next HX.out (by simp [dbad]; omega))
                go_wp2_with fail
                go_round
                case rel => exact ⟨k + 1, by omega, by go_num, F.out⟩
                case measure => simp [intOf]; omega
          · obtain rfl : k = D.length := by omega
            have F : Hid (D.any dbad = false) := Lib.hid (HM.out.done (Nat.le_refl _))
            by_cases x1 : t < 0
            · have G : Hid (chk ⟨W, q, D, t⟩ = 2) := Lib.hid (chk_turn H1.out H2.out H3.out F.out (.inl x1))
              go_wp2_with fail
              go_ret
              exact ⟨by rw [G.out]; rfl, hB1⟩
            · by_cases x2 : 3 ≤ t
              · have G : Hid (chk ⟨W, q, D, t⟩ = 2) := Lib.hid (chk_turn H1.out H2.out H3.out F.out (.inr x2))
                go_wp2_with fail
                go_ret
                exact ⟨by rw [G.out]; rfl, hB1⟩
              · have G : Hid (chk ⟨W, q, D, t⟩ = 0) := Lib.hid (chk_zero H1.out H2.out H3.out F.out (by show ¬ (t < 0 ∨ 3 ≤ t); omega))
                go_wp2_with fail
                go_ret
                exact ⟨by rw [G.out]; rfl, hB1⟩
      · have H3 := Lib.hid (chk_wg (d := ⟨W, q, D, t⟩) H1.out H2.out h3)
        have t3 : (wgE W q != 0) = true := by simpa using h3
        clear h3
        go_wp2_with fail
        go_ret
        exact ⟨by rw [H3.out]; rfl, hB1⟩
    · have t2 : ((D.length : Int) != 3) = true := by simp; omega
      have F : Hid (chk ⟨W, q, D, t⟩ = 3) := Lib.hid (chk_len1 (.inr h2))
      clear h1 h2
      go_enter Try.func15, Try.ntmps15
      go_wp2_with fail
      go_ret
      exact ⟨by rw [F.out]; rfl, (by repeat (first | with_reducible exact Below.refl _ _ | with_reducible refine Below.drew ?_ | with_reducible refine below_drewN ?_ _ | with_reducible refine bal ?_ _ | with_reducible refine bset ?_ (by first | (simp; done) | (simp; omega)) _ | with_reducible refine bnext ?_ (by assumption) | with_reducible assumption))⟩
  · have t1 : ((W.length : Int) != 3) = true := by simp; omega
    have F : Hid (chk ⟨W, q, D, t⟩ = 3) := Lib.hid (chk_len1 (.inl h1))
    clear h1
    go_enter Try.func15, Try.ntmps15
    go_wp2_with fail
    go_ret
    exact ⟨by rw [F.out]; rfl, (by repeat (first | with_reducible exact Below.refl _ _ | with_reducible refine Below.drew ?_ | with_reducible refine below_drewN ?_ _ | with_reducible refine bal ?_ _ | with_reducible refine bset ?_ (by first | (simp; done) | (simp; omega)) _ | with_reducible refine bnext ?_ (by assumption) | with_reducible assumption))⟩

set_option maxRecDepth 100000 in
set_option maxHeartbeats 4000000 in
theorem rCheck_any (d : Dr) (v : Value) (w : World) (hS : DrV w v d) :
    Calls Try.prog 16 #[v] w (RetI (chk d) w) := by
  obtain ⟨W, q, D, t⟩ := d
  obtain ⟨vW, vD, rfl, hW, hD⟩ := hS
  obtain ⟨A, c, rfl, _, hc2, _⟩ := id hW
  obtain ⟨A', c', rfl, _, hc2', _⟩ := id hD
  unfold maxLen at hc2 hc2'
  have HW := Lib.hid hW
  have HD := Lib.hid hD
  clear hW hD
  dsimp only at *
  by_cases h1 : W.length = 3
  · have t1 : ((W.length : Int) != 3) = false := by rw [h1]; rfl
    by_cases h2 : D.length = 3
    · have t2 : ((D.length : Int) != 3) = false := by rw [h2]; rfl
      have H1 := Lib.hid h1
      have H2 := Lib.hid h2
      have hd3 : D.length ≤ 3 := by omega
      clear h1 h2
      go_enter Try.func16, Try.ntmps16
      go_wp2_with fail
      refine (rweighed_any W q _ _ (HW.out.alloc _)).mono ?_
      rintro e w1 ⟨rfl, hb1⟩
      have hB1 : Below w.heap.size w w1 := bnext (bal (Below.refl _ _) _) hb1
      have k1 := Lib.hid ((Blk.new w 24 #[.slice A W.length c, .int .i64 q, .slice A' D.length c', .int .i64 t]).below hb1)
      have hl1 := k1.out.lt
      have HD1 := Lib.hid ((HD.out.alloc (.cells #[.slice A W.length c, .int .i64 q, .slice A' D.length c', .int .i64 t] 24)).below hb1)
      clear hb1
      by_cases h3 : wgE W q = 0
      · have H3 := Lib.hid h3
        have t3 : (wgE W q != 0) = false := by rw [h3]; rfl
        clear h3
        go_wp2_with fail
        go_loopw [4] (fun a wr => ∃ k : Nat, k ≤ 3 ∧ a = .int .i64 k ∧ AnyMid dbad D k ∧ Below w1.heap.size w1 wr) (fun a _ => 3 - (intOf a).toNat)
        case atStart => exact ⟨0, by omega, rfl, rfl, Below.refl _ _⟩
        case round =>
          obtain ⟨k, hk, rfl, hM, hB⟩ := hrel
          have HM := Lib.hid hM
          obtain ⟨c0, c1, c2, c3⟩ := (k1.out.below hB).c4
          have hBw := bnext hB1 hB
          clear hM
          by_cases hlt : k < 3
          · have hltD : k < D.length := by rw [H2.out]; exact hlt
            obtain ⟨x, hx⟩ : ∃ x, D[k]? = some x := ⟨_, List.getElem?_eq_getElem hltD⟩
            obtain ⟨A2, c2', e2, _, _, hR⟩ := HD1.out.below hB
            cases e2
            obtain ⟨b, o, rfl, hb, d0⟩ := reads_at hR (ints_get hx)
            have hi : (k : Int) < D.length := by omega
            have hi3 : (k : Int) < 3 := by omega
            have HX := Lib.hid hx
            clear hx hR
            by_cases x1 : x < 0
            · have F : Hid (chk ⟨W, q, D, t⟩ = 2) := Lib.hid (chk_any H1.out H2.out H3.out (HM.out.hit HX.out (by simp [dbad, x1])))
              go_wp2_with fail
              go_ret
              exact ⟨by rw [F.out]; rfl, hBw⟩
            · by_cases x2 : 1099511627776 < x
              · have F : Hid (chk ⟨W, q, D, t⟩ = 2) := Lib.hid (chk_any H1.out H2.out H3.out (HM.out.hit HX.out (by simp [dbad, x2])))
                go_wp2_with fail
                go_ret
                exact ⟨by rw [F.out]; rfl, hBw⟩
              · have F : Hid (AnyMid dbad D (k + 1)) := Lib.hid (HM.out.next HX.out (by simp [dbad]; omega))
                go_wp2_with fail
                go_roundw
                case rel => exact ⟨k + 1, by omega, by go_num, F.out, hB⟩
                case measure => simp [intOf]; omega
          · obtain rfl : k = 3 := by omega
            have F : Hid (D.any dbad = false) := Lib.hid (HM.out.done (by rw [H2.out]; exact Nat.le_refl _))
            by_cases x1 : t < 0
            · have G : Hid (chk ⟨W, q, D, t⟩ = 2) := Lib.hid (chk_turn H1.out H2.out H3.out F.out (.inl x1))
              go_wp2_with fail
              go_ret
              exact ⟨by rw [G.out]; rfl, hBw⟩
            · by_cases x2 : 2 < t
              · have G : Hid (chk ⟨W, q, D, t⟩ = 2) := Lib.hid (chk_turn H1.out H2.out H3.out F.out (.inr (by show 3 ≤ t; omega)))
                go_wp2_with fail
                go_ret
                exact ⟨by rw [G.out]; rfl, hBw⟩
              · have G : Hid (chk ⟨W, q, D, t⟩ = 0) := Lib.hid (chk_zero H1.out H2.out H3.out F.out (by show ¬ (t < 0 ∨ 3 ≤ t); omega))
                go_wp2_with fail
                go_ret
                exact ⟨by rw [G.out]; rfl, hBw⟩
      · have H3 := Lib.hid (chk_wg (d := ⟨W, q, D, t⟩) H1.out H2.out h3)
        have t3 : (wgE W q != 0) = true := by simpa using h3
        clear h3
        go_wp2_with fail
        go_ret
        exact ⟨by rw [H3.out]; rfl, hB1⟩
    · have t2 : ((D.length : Int) != 3) = true := by simp; omega
      have F : Hid (chk ⟨W, q, D, t⟩ = 3) := Lib.hid (chk_len1 (.inr h2))
      clear h1 h2
      go_enter Try.func16, Try.ntmps16
      go_wp2_with fail
      go_ret
      exact ⟨by rw [F.out]; rfl, (by repeat (first | with_reducible exact Below.refl _ _ | with_reducible refine Below.drew ?_ | with_reducible refine below_drewN ?_ _ | with_reducible refine bal ?_ _ | with_reducible refine bset ?_ (by first | (simp; done) | (simp; omega)) _ | with_reducible refine bnext ?_ (by assumption) | with_reducible assumption))⟩
  · have t1 : ((W.length : Int) != 3) = true := by simp; omega
    have F : Hid (chk ⟨W, q, D, t⟩ = 3) := Lib.hid (chk_len1 (.inl h1))
    clear h1
    go_enter Try.func16, Try.ntmps16
    go_wp2_with fail
    go_ret
    exact ⟨by rw [F.out]; rfl, (by repeat (first | with_reducible exact Below.refl _ _ | with_reducible refine Below.drew ?_ | with_reducible refine below_drewN ?_ _ | with_reducible refine bal ?_ _ | with_reducible refine bset ?_ (by first | (simp; done) | (simp; omega)) _ | with_reducible refine bnext ?_ (by assumption) | with_reducible assumption))⟩
end Go.Proofs.Ythkfdfkjenhjmaa
