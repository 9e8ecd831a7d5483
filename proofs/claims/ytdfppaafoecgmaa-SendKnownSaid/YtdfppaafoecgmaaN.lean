/- Contracts: the reference's check of a slot. -/
import Derived.Test.YtdfppaafoecgmaaE
import Derived.Test.YtdfppaafoecgmaaPlain2
namespace Go.Proofs.Ytdfppaafoecgmaa
open Go.RowKit
set_option linter.unusedVariables false
set_option linter.unusedSimpArgs false

theorem hidI' {p : Prop} (h : p) : Hid p := h
theorem anyHas_take {a b c : Int} {l : List Sl} {i : Nat} (h : ∀ k y, k < i → l[k]? = some y → y.has a b c = false) : anyHas a b c (l.take i) = false := by
  unfold anyHas
  rw [List.any_eq_false]
  intro y hy
  obtain ⟨k, hk⟩ := List.mem_iff_getElem?.1 hy
  have hk1 := (List.getElem?_eq_some_iff.1 hk).1
  rw [List.length_take] at hk1
  rw [List.getElem?_take, if_pos (by omega)] at hk
  rw [h k y (by omega) hk]
  decide
theorem anyHas_hit {a b c : Int} {l : List Sl} {i k : Nat} {y : Sl} (hk : k < i) (hy : l[k]? = some y) (h : y.has a b c = true) : anyHas a b c (l.take i) = true := by
  unfold anyHas
  rw [List.any_eq_true]
  exact ⟨y, List.mem_iff_getElem?.2 ⟨k, by rw [List.getElem?_take, if_pos hk]; exact hy⟩, h⟩

set_option maxRecDepth 100000 in
set_option maxHeartbeats 8000000 in
theorem rslot_any (g n r : Int) (l : List Sl) (i : Nat) (x : Sl) (e : Int) (hx : l[i]? = some x) (hn0 : 0 ≤ n) (hn1 : n ≤ 18446744073709551615) (hw : 0 ≤ x.off ∧ x.off ≤ 18446744073709551615 ∧ 0 ≤ x.size) (h0 : i = 0 → e = 0)
    (hp : ∀ p, 0 < i → l[i - 1]? = some p → p.off + p.size = e) (he0 : 0 ≤ e) (he1 : e ≤ 18446744073709551615) (v : Value) (w : World) (hS : SlAt w 5 v l.length (flat l)) :
    Calls Try.prog 41 #[.agg #[.int .u64 g, .int .u64 n, .int .u64 r, v], .int .i64 i] w (RetI .i64 (slotE n (l.take i) e x) w) := by
  obtain ⟨A, c, rfl, hc1, hc2, hR⟩ := id hS
  have hil : i < l.length := (List.getElem?_eq_some_iff.1 hx).1
  obtain ⟨b, o, rfl, hbl, x0, x1, x2, x3, x4⟩ := slot_cells hR rfl hx
  obtain ⟨xo, xz, xn, xq, xi⟩ := x
  dsimp only at *
  have hii : (i : Int) < l.length := by omega
  have HS := Lib.hid hS
  clear hS
  go_enter Try.func41, Try.ntmps41
  by_cases hz : xz = 0
  · have E : Hid (slotE n (l.take i) e ⟨xo, xz, xn, xq, xi⟩ = 2) := by show (if _ then _ else _) = _; rw [if_pos (.inl hz)]
    go_wp2_with fail
    go_ret
    exact ⟨ret_int E.out.symm, (by repeat (first | with_reducible exact Below.refl _ _ | with_reducible refine Below.drew ?_ | with_reducible refine below_drewN ?_ _ | with_reducible refine bal ?_ _ | with_reducible refine bset ?_ (by first | (simp; done) | (simp; omega)) _ | with_reducible refine bnext ?_ (by assumption) | with_reducible assumption))⟩
  · by_cases hid : IdOk xn xq xi
    · have ID : Hid (idE xn xq xi = 0) := if_pos hid
      have C1 : Hid (¬ (xz = 0 ∨ ¬ IdOk xn xq xi)) := by rintro (h | h); exact hz h; exact h hid
      clear hid
      go_wp2_with fail
      refine (rCheckID_any _ _ _ _).mono ?_
      rintro e' w1 ⟨rfl, hb1⟩
      rw [ID.out]
      have hB1 : Below w.heap.size w w1 := bnext (bal (bal (Below.refl _ _) _) _) hb1
      have k0 := ((Blk.new w 26 #[.int .u64 g, .int .u64 n, .int .u64 r, .slice (some ⟨b, o, none⟩) l.length c]).alloc (.cells #[.int .u64 xo, .int .u64 xz, .int .i64 xn, .int .u64 xq, .int .i64 xi] 44)).below hb1
      have k1 := (Blk.new1 w (.cells #[.int .u64 g, .int .u64 n, .int .u64 r, .slice (some ⟨b, o, none⟩) l.length c] 26) 44 #[.int .u64 xo, .int .u64 xz, .int .i64 xn, .int .u64 xq, .int .i64 xi]).below hb1
      have hs1 := ((HS.out.alloc (.cells #[.int .u64 g, .int .u64 n, .int .u64 r, .slice (some ⟨b, o, none⟩) l.length c] 26)).alloc (.cells #[.int .u64 xo, .int .u64 xz, .int .i64 xn, .int .u64 xq, .int .i64 xi] 44)).below hb1
      obtain ⟨_, _, e1, _, _, hR1⟩ := hs1
      cases e1
      obtain ⟨d0, d1, d2, d3⟩ := k0.c4
      obtain ⟨f0, f1, f2, f3, f4⟩ := k1.c5
      have K0' := Lib.hid k0
      have K1' := Lib.hid k1
      clear x0 x1 x2 x3 x4 k0 k1
      have hlt1 : w.heap.size + 1 < w1.heap.size := by have := hb1.size; simp at this; omega
      by_cases c1 : n < xo
      · have E : Hid (slotE n (l.take i) e ⟨xo, xz, xn, xq, xi⟩ = 19) := by show (if _ then _ else if xo < e ∨ n < xo ∨ n - xo < xz then _ else _) = _; rw [if_neg C1.out, if_pos (.inr (.inl c1))]
        have t1 : decide (n < xo) = true := by simpa using c1
        go_wp2_with fail
        go_quiet (fail)
        go_wp2_with fail
        go_ret
        exact ⟨ret_int E.out.symm, (by repeat (first | with_reducible exact Below.refl _ _ | with_reducible refine Below.drew ?_ | with_reducible refine below_drewN ?_ _ | with_reducible refine bal ?_ _ | with_reducible refine bset ?_ (by first | (simp; done) | (simp; omega)) _ | with_reducible refine bnext ?_ (by assumption) | with_reducible assumption))⟩
      · have t1 : decide (n < xo) = false := by simpa using c1
        have c1' : xo ≤ n := by omega
        clear c1
        by_cases c2 : n - xo < xz
        · have E : Hid (slotE n (l.take i) e ⟨xo, xz, xn, xq, xi⟩ = 19) := by show (if _ then _ else if xo < e ∨ n < xo ∨ n - xo < xz then _ else _) = _; rw [if_neg C1.out, if_pos (.inr (.inr c2))]
          have t2 : decide (n - xo < xz) = true := by simpa using c2
          go_wp2_with fail
          go_quiet (fail)
          go_wp2_with fail
          go_ret
          exact ⟨ret_int E.out.symm, (by repeat (first | with_reducible exact Below.refl _ _ | with_reducible refine Below.drew ?_ | with_reducible refine below_drewN ?_ _ | with_reducible refine bal ?_ _ | with_reducible refine bset ?_ (by first | (simp; done) | (simp; omega)) _ | with_reducible refine bnext ?_ (by assumption) | with_reducible assumption))⟩
        · have t2 : decide (n - xo < xz) = false := by simpa using c2
          have c2' : xz ≤ n - xo := by omega
          clear c2
          have HX : Hid (l[i]? = some ⟨xo, xz, xn, xq, xi⟩) := hx
          clear hx
          rcases i with _ | j
          · have h00 : e = 0 := h0 rfl
            have E0 : ∀ b, anyHas xn xq xi (l.take 0) = b → slotE n (l.take 0) e ⟨xo, xz, xn, xq, xi⟩ = if b = true then 9 else 0 := by
              rintro _ rfl
              show (if _ then _ else if xo < e ∨ n < xo ∨ n - xo < xz then _ else _) = _
              rw [if_neg C1.out, if_neg (by omega)]
            have E : Hid (slotE n (l.take 0) e ⟨xo, xz, xn, xq, xi⟩ = 0) := by rw [E0 false rfl]; rfl
            clear hp h0 E0
            subst h00
            rw [show ((0 : Nat) : Int) = 0 from rfl]
            go_wp2_with fail
            go_quiet (fail)
            go_wp2_with fail
            go_loopw [6] (fun a wr => a = .int .i64 0 ∧ Below w.heap.size w wr) (fun a _ => (intOf a).toNat)
            case atStart => exact ⟨rfl, (by repeat (first | with_reducible exact Below.refl _ _ | with_reducible refine Below.drew ?_ | with_reducible refine below_drewN ?_ _ | with_reducible refine bal ?_ _ | with_reducible refine bset ?_ (by first | (simp; done) | (simp; omega)) _ | with_reducible refine bnext ?_ (by assumption) | with_reducible assumption))⟩
            case round =>
              obtain ⟨rfl, hB⟩ := hrel
              go_wp2_with fail
              go_ret
              exact ⟨ret_int E.out.symm, hB⟩
          · obtain ⟨p, hpi⟩ : ∃ p, l[j]? = some p := ⟨_, List.getElem?_eq_getElem (by omega)⟩
            have hpe : p.off + p.size = e := hp p (by omega) hpi
            obtain ⟨b', o', eb, _, p0, p1, _⟩ := slot_cells hR1 rfl hpi
            cases eb
            have hj0 : (j : Int) < l.length := by omega
            have hj1 : (0 : Int) ≤ (j : Int) := by omega
            have hlm : l.length ≤ 9223372036854775807 := by unfold maxLen at hc2; omega
            have WJ : IntKind.i64.wrap (j : Int) = (j : Int) := IntWalk.i64_in _ (by omega)
            have WN : IntKind.u64.wrap (n - xo) = n - xo := IntWalk.u64_in _ (by omega)
            have WP : IntKind.u64.wrap (p.off + p.size) = p.off + p.size := IntWalk.u64_in _ (by omega)
            by_cases c3 : xo < e
            · have E : Hid (slotE n (l.take (j + 1)) e ⟨xo, xz, xn, xq, xi⟩ = 19) := by show (if _ then _ else if xo < e ∨ n < xo ∨ n - xo < xz then _ else _) = _; rw [if_neg C1.out, if_pos (.inl c3)]
              have t3 : decide (xo < p.off + p.size) = true := by rw [hpe]; simpa using c3
              have t4 : decide (0 < (j : Int) + 1) = true := by simp
              clear hpi hp h0 hpe
              go_wp2_with fail
              go_quiet (fail)
              clear WP WN WJ
              go_wp2_with fail
              go_ret
              exact ⟨ret_int E.out.symm, (by repeat (first | with_reducible exact Below.refl _ _ | with_reducible refine Below.drew ?_ | with_reducible refine below_drewN ?_ _ | with_reducible refine bal ?_ _ | with_reducible refine bset ?_ (by first | (simp; done) | (simp; omega)) _ | with_reducible refine bnext ?_ (by assumption) | with_reducible assumption))⟩
            · have E0 : ∀ b, anyHas xn xq xi (l.take (j + 1)) = b → slotE n (l.take (j + 1)) e ⟨xo, xz, xn, xq, xi⟩ = if b = true then 9 else 0 := by
                rintro _ rfl
                show (if _ then _ else if xo < e ∨ n < xo ∨ n - xo < xz then _ else _) = _
                rw [if_neg C1.out, if_neg (by omega)]
              have HE0 := Lib.hid E0
              have t3 : decide (xo < p.off + p.size) = false := by rw [hpe]; simpa using c3
              have t4 : decide (0 < (j : Int) + 1) = true := by simp
              have HR1 := Lib.hid hR1
              clear hpi hp h0 E0 hpe hR1
              go_wp2_with fail
              go_quiet (fail)
              clear WP WN WJ
              go_wp2_with fail
              have hfx : Below w1.heap.size w1 (w1.drewN nq) := below_drewN (Below.refl _ _) nq
              clear p0 p1 t3 t4
              go_loopw [6] (fun a wr => ∃ k : Nat, k ≤ j + 1 ∧ a = .int .i64 k ∧ (∀ q y, q < k → l[q]? = some y → y.has xn xq xi = false) ∧ Below w1.heap.size w1 wr) (fun a _ => j + 1 - (intOf a).toNat)
              case atStart => exact ⟨0, by omega, rfl, fun q y h => by omega, hfx⟩
              case round =>
                clear hfx d0 d1 d2 d3 f0 f1 f2 f3 f4
                obtain ⟨k, hk, rfl, hno, hB⟩ := hrel
                have HNO := Lib.hid hno
                have k0' := K0'.out.below hB
                have k1' := K1'.out.below hB
                obtain ⟨d0, d1, d2, d3⟩ := k0'.c4
                obtain ⟨f0, f1, f2, f3, f4⟩ := k1'.c5
                clear hno k0' k1'
                by_cases hkj : k < j + 1
                · obtain ⟨y, hy⟩ : ∃ y, l[k]? = some y := ⟨_, List.getElem?_eq_getElem (by omega)⟩
                  obtain ⟨b2, o2, eb, _, y0, y1, y2, y3, y4⟩ := slot_cells (HR1.out.keep hB.size fun b o h => hB.cell (p := ⟨b, o, none⟩) h) rfl hy
                  cases eb
                  have hkl : (k : Int) < l.length := by omega
                  have hk0 : (0 : Int) ≤ (k : Int) := by omega
                  have hkj' : (k : Int) < (j : Int) + 1 := by omega
                  by_cases hh : y.has xn xq xi = true
                  · have E := hidI' (HE0.out true (anyHas_hit hkj hy hh))
                    have he : ∀ w, (binOp .eql 41 (.agg #[.int .i64 y.node, .int .u64 y.seq, .int .i64 y.io]) (.agg #[.int .i64 xn, .int .u64 xq, .int .i64 xi])).run Try.prog w = .ok (.bool true) w := fun w => by rw [run_eql_id]; unfold Sl.has at hh; rw [hh]
                    clear hy hh
                    go_wp2_with fail
                    go_quiet (fail)
                    go_wp2_with fail
                    go_ret
                    exact ⟨by rw [E.out]; rfl, below_drewN (bnext hB1 hB) _⟩
                  · have hh' : y.has xn xq xi = false := by simpa using hh
                    have he : ∀ w, (binOp .eql 41 (.agg #[.int .i64 y.node, .int .u64 y.seq, .int .i64 y.io]) (.agg #[.int .i64 xn, .int .u64 xq, .int .i64 xi])).run Try.prog w = .ok (.bool false) w := fun w => by rw [run_eql_id]; unfold Sl.has at hh'; rw [hh']
                    have HNO2 : Hid (∀ q z, q < k + 1 → l[q]? = some z → z.has xn xq xi = false) := hidI' (fun q z hq hz => by
                      by_cases hqk : q = k
                      · subst hqk; rw [hy] at hz; cases hz; exact hh'
                      · exact HNO.out q z (by omega) hz)
                    clear hy hh hh'
                    go_wp2_with fail
                    go_quiet (fail)
                    go_wp2_with fail
                    go_roundw
                    case rel => exact ⟨k + 1, by omega, by go_num, HNO2.out, below_drewN hB _⟩
                    case measure => simp [intOf]; omega
                · obtain rfl : k = j + 1 := by omega
                  have E := hidI' (HE0.out false (anyHas_take HNO.out))
                  go_wp2_with fail
                  go_ret
                  exact ⟨by rw [E.out]; rfl, bnext hB1 hB⟩
    · have ID : Hid (idE xn xq xi = 2) := if_neg hid
      have E : Hid (slotE n (l.take i) e ⟨xo, xz, xn, xq, xi⟩ = 2) := by show (if _ then _ else _) = _; rw [if_pos (.inr hid)]
      clear hid
      go_wp2_with fail
      refine (rCheckID_any _ _ _ _).mono ?_
      rintro e' w1 ⟨rfl, hb1⟩
      rw [ID.out]
      go_wp2_with fail
      go_ret
      exact ⟨ret_int E.out.symm, (by repeat (first | with_reducible exact Below.refl _ _ | with_reducible refine Below.drew ?_ | with_reducible refine below_drewN ?_ _ | with_reducible refine bal ?_ _ | with_reducible refine bset ?_ (by first | (simp; done) | (simp; omega)) _ | with_reducible refine bnext ?_ (by assumption) | with_reducible assumption))⟩
end Go.Proofs.Ytdfppaafoecgmaa
