/- Contracts: an opened ledger, what is usable, the floor. -/
import Derived.Test.YtdfppaafoecgmaaC
import Derived.Test.YtdfppaafoecgmaaD
import Derived.Test.YtdfppaafoecgmaaBlk
namespace Go.Proofs.Ytdfppaafoecgmaa
open Go.RowKit
set_option linter.unusedVariables false
set_option linter.unusedSimpArgs false

theorem okL_len {s : Led} (h : okL s) : s.sl.length ≤ 100 := by
  unfold okL chk at h
  split at h
  · exact absurd h (by decide)
  · split at h
    · exact absurd h (by decide)
    · split at h
      · exact absurd h (by decide)
      · omega
theorem okL_nums {s : Led} (h : okL s) : s.g ≤ 1125899906842624 ∧ s.r ≤ s.g ∧ s.n ≤ s.g - s.r := by
  unfold okL chk at h
  split at h
  · exact absurd h (by decide)
  · split at h
    · exact absurd h (by decide)
    · omega

set_option maxHeartbeats 1000000 in
theorem opened_any (s : Led) (hw : Wf s) (v : Value) (w : World) (hS : SlAt w 5 v s.sl.length (flat s.sl)) :
    Calls Try.prog 35 #[.agg #[.int .u64 s.g, .int .u64 s.n, .int .u64 s.r, v]] w (OpenPost s w) := by
  obtain ⟨A, c, rfl, hc1, hc2, _⟩ := id hS
  have HS := Lib.hid hS
  have HW := Lib.hid hw
  clear hS hw
  by_cases hk : okL s
  · have K : Hid ((chk s).1 = 0) := hk
    have O : Hid (opn s = s) := if_pos hk
    have hlen := okL_len hk
    clear hk
    go_enter Try.func35, Try.ntmps35
    go_wp2_with fail
    refine (Check_any s HW.out _ _ ((HS.out.alloc _).alloc _)).mono ?_
    rintro e w1 ⟨rfl, hb1⟩
    rw [K.out]
    have hB1 : Below w.heap.size w w1 := bnext (bal (bal (Below.refl _ _) _) _) hb1
    have k0 := ((Blk.new w 26 _).alloc _).below hb1
    have k1 := (Blk.new1 w _ 58 _).below hb1
    have HS1 := Lib.hid (((HS.out.alloc _).alloc _).below hb1)
    obtain ⟨c0, c1, c2, c3⟩ := k0.c4
    have K0 := Lib.hid k0
    have K1 := Lib.hid k1
    have hz := hb1.size
    simp at hz
    clear k0 k1 hb1
    go_wp2_with fail
    refine (Clone_any _ s.sl _ HS1.out (by omega)).mono ?_
    rintro e w2 ⟨v', rfl, hown, hb2⟩
    obtain ⟨A', c', ev, _⟩ := SlAt.own hown
    subst ev
    have k0 := K0.out.below hb2
    have k1 := K1.out.below hb2
    obtain ⟨c0, c1, c2, c3⟩ := k0.c4
    obtain ⟨g0, g1, g2, g3⟩ := k0.f4
    obtain ⟨d0, d1, d2, d3⟩ := k1.c4
    obtain ⟨f0, f1, f2, f3⟩ := k1.f4
    have hz2 := hb2.size
    have HO := Lib.hid hown
    clear k0 k1 hown
    go_wp2_with fail
    refine bodyPost_ret (v := .tuple #[.agg #[.int .u64 s.g, .int .u64 s.n, .int .u64 s.r, .slice A' s.sl.length c'], .int .i64 0]) (by simp [results, Try.results35, go_sem, c0, d0, d1, d2, d3]) rfl ⟨.slice A' s.sl.length c', ?_, ?_, ?_⟩
    · rw [O.out, K.out]
    · rw [O.out]
      have h1 := ownsRow_setCell_below HO.out (a := ⟨w.heap.size, 3, none⟩) (by show w.heap.size < w1.heap.size; omega) (.slice A' s.sl.length c')
      have h2 := ownsRow_setCell_below h1 (a := ⟨w.heap.size + 1, 0, none⟩) (by show w.heap.size + 1 < w1.heap.size; omega) (.int .u64 s.g)
      have h3 := ownsRow_setCell_below h2 (a := ⟨w.heap.size + 1, 1, none⟩) (by show w.heap.size + 1 < w1.heap.size; omega) (.int .u64 s.n)
      have h4 := ownsRow_setCell_below h3 (a := ⟨w.heap.size + 1, 2, none⟩) (by show w.heap.size + 1 < w1.heap.size; omega) (.int .u64 s.r)
      have h5 := ownsRow_setCell_below h4 (a := ⟨w.heap.size + 1, 3, none⟩) (by show w.heap.size + 1 < w1.heap.size; omega) (.slice A' s.sl.length c')
      exact own_mono h5 hB1.size
    · exact (by repeat (first | with_reducible exact Below.refl _ _ | with_reducible refine Below.drew ?_ | with_reducible refine below_drewN ?_ _ | with_reducible refine bal ?_ _ | with_reducible refine bset ?_ (by first | (simp; done) | (simp; omega)) _ | with_reducible refine bnext ?_ (by assumption) | with_reducible assumption))
  · have K := Lib.hid hk
    have O : Hid (opn s = ⟨0, 0, 0, []⟩) := if_neg hk
    have hne : ((chk s).1 != 0) = true := by rw [bne_iff_ne]; exact hk
    clear hk
    go_enter Try.func35, Try.ntmps35
    go_wp2_with fail
    refine (Check_any s HW.out _ _ ((HS.out.alloc _).alloc _)).mono ?_
    rintro e w1 ⟨rfl, hb1⟩
    have hB1 : Below w.heap.size w w1 := bnext (bal (bal (Below.refl _ _) _) _) hb1
    have k1 := (Blk.new1 w _ 58 _).below hb1
    obtain ⟨d0, d1, d2, d3⟩ := k1.c4
    obtain ⟨f0, f1, f2, f3⟩ := k1.f4
    clear hb1 k1
    go_wp2_with fail
    refine bodyPost_ret (v := .tuple #[.agg #[.int .u64 0, .int .u64 0, .int .u64 0, .slice none 0 0], .int .i64 (chk s).1]) (by simp [results, Try.results35, go_sem, d0, d1, d2, d3]) rfl ⟨.slice none 0 0, ?_, ?_, ?_⟩
    · rw [O.out]
    · rw [O.out]; exact World.ownsRow_nil _ _ _ _
    · exact (by repeat (first | with_reducible exact Below.refl _ _ | with_reducible refine Below.drew ?_ | with_reducible refine below_drewN ?_ _ | with_reducible refine bal ?_ _ | with_reducible refine bset ?_ (by first | (simp; done) | (simp; omega)) _ | with_reducible refine bnext ?_ (by assumption) | with_reducible assumption))

set_option maxHeartbeats 1000000 in
theorem lusable_any (g n r : Int) (v : Value) (w : World) (hg : g ≤ 18446744073709551615) (hn : 0 ≤ n) (hr : 0 ≤ r) (h : n + r ≤ g) (hv : ∃ A l c, v = .slice A l c) :
    Calls Try.prog 42 #[.agg #[.int .u64 g, .int .u64 n, .int .u64 r, v]] w (RetI .u64 (g - n - r) w) := by
  obtain ⟨A, l, c, rfl⟩ := hv
  go_enter Try.func42, Try.ntmps42
  go_wp2
  go_ret
  exact ⟨rfl, (by repeat (first | with_reducible exact Below.refl _ _ | with_reducible refine Below.drew ?_ | with_reducible refine below_drewN ?_ _ | with_reducible refine bal ?_ _ | with_reducible refine bset ?_ (by first | (simp; done) | (simp; omega)) _ | with_reducible refine bnext ?_ (by assumption) | with_reducible assumption))⟩

set_option maxHeartbeats 1000000 in
theorem lfloor_any (s : Led) (v : Value) (w : World) (hS : SlAt w 5 v s.sl.length (flat s.sl)) :
    Calls Try.prog 44 #[.agg #[.int .u64 s.g, .int .u64 s.n, .int .u64 s.r, v]] w (RetI .u64 (flr s) w) := by
  obtain ⟨g, n, r, l⟩ := s
  have hS1 := hS.alloc (.cells #[.int .u64 g, .int .u64 n, .int .u64 r, v] 58)
  obtain ⟨A, c, rfl, _⟩ := hS
  cases l with
  | nil =>
    clear hS1
    go_enter Try.func44, Try.ntmps44
    go_wp2
    go_ret
    exact ⟨rfl, (by repeat (first | with_reducible exact Below.refl _ _ | with_reducible refine Below.drew ?_ | with_reducible refine below_drewN ?_ _ | with_reducible refine bal ?_ _ | with_reducible refine bset ?_ (by first | (simp; done) | (simp; omega)) _ | with_reducible refine bnext ?_ (by assumption) | with_reducible assumption))⟩
  | cons x l =>
    obtain ⟨A', c', e, _, _, hR⟩ := hS1
    cases e
    obtain ⟨b, o, rfl, hb, d0, _⟩ := slot_cells hR rfl (k := 0) (x := x) rfl
    rw [Nat.zero_mul, Nat.add_zero] at d0
    have hl : (0 : Int) < ((x :: l).length : Int) := by simp only [List.length_cons]; omega
    simp only [List.length_cons] at d0
    clear hR
    go_enter Try.func44, Try.ntmps44
    go_wp2
    go_ret
    exact ⟨rfl, (by repeat (first | with_reducible exact Below.refl _ _ | with_reducible refine Below.drew ?_ | with_reducible refine below_drewN ?_ _ | with_reducible refine bal ?_ _ | with_reducible refine bset ?_ (by first | (simp; done) | (simp; omega)) _ | with_reducible refine bnext ?_ (by assumption) | with_reducible assumption))⟩

def usE (s : Led) : Int := if okL s then usab s else 0
def flE (s : Led) : Int := if okL s then flr s else 0
theorem usab_opn (s : Led) : (opn s).g - (opn s).n - (opn s).r = usE s := by
  unfold opn usE; split <;> rfl
theorem flr_opn (s : Led) : flr (opn s) = flE s := by
  unfold opn flE; split <;> rfl
theorem opn_nums (s : Led) (hw : Wf s) : (0 ≤ (opn s).g ∧ (opn s).g ≤ 1125899906842624) ∧ 0 ≤ (opn s).n ∧ 0 ≤ (opn s).r ∧ (opn s).n + (opn s).r ≤ (opn s).g := by
  unfold opn
  split
  · rename_i h
    have := okL_nums h
    have a := hw.1
    have b := hw.2.1
    have c := hw.2.2.1
    omega
  · simp

set_option maxHeartbeats 1000000 in
theorem Usable_any (s : Led) (hw : Wf s) (v : Value) (w : World) (hS : SlAt w 5 v s.sl.length (flat s.sl)) :
    Calls Try.prog 16 #[.agg #[.int .u64 s.g, .int .u64 s.n, .int .u64 s.r, v]] w (Ret2 .u64 .i64 (usE s) (chk s).1 w) := by
  have N := Lib.hid (opn_nums s hw)
  have U := Lib.hid (usab_opn s)
  obtain ⟨A, c, rfl, hc1, hc2, _⟩ := id hS
  have HS := Lib.hid hS
  have HW := Lib.hid hw
  clear hS hw
  go_enter Try.func16, Try.ntmps16
  go_wp2_with fail
  refine (opened_any s HW.out _ _ (HS.out.alloc _)).mono ?_
  rintro e w1 ⟨v', rfl, hown, hb1⟩
  obtain ⟨A', c', ev, _⟩ := SlAt.own hown
  subst ev
  clear hown
  generalize (opn s).g = og at *
  generalize (opn s).n = on at *
  generalize (opn s).r = or' at *
  generalize (opn s).sl.length = ol at *
  go_wp2_with fail
  refine (lusable_any og on or' _ _ (by have := N.out; omega) (by have := N.out; omega) (by have := N.out; omega) (by have := N.out; omega) ⟨_, _, _, rfl⟩).mono ?_
  rintro e w2 ⟨rfl, hb2⟩
  rw [U.out]
  go_wp2_with fail
  go_ret2
  exact ⟨rfl, (by repeat (first | with_reducible exact Below.refl _ _ | with_reducible refine Below.drew ?_ | with_reducible refine below_drewN ?_ _ | with_reducible refine bal ?_ _ | with_reducible refine bset ?_ (by first | (simp; done) | (simp; omega)) _ | with_reducible refine bnext ?_ (by assumption) | with_reducible assumption))⟩

set_option maxHeartbeats 1000000 in
theorem Floor_any (s : Led) (hw : Wf s) (v : Value) (w : World) (hS : SlAt w 5 v s.sl.length (flat s.sl)) :
    Calls Try.prog 18 #[.agg #[.int .u64 s.g, .int .u64 s.n, .int .u64 s.r, v]] w (Ret2 .u64 .i64 (flE s) (chk s).1 w) := by
  have U := Lib.hid (flr_opn s)
  obtain ⟨A, c, rfl, hc1, hc2, _⟩ := id hS
  have HS := Lib.hid hS
  have HW := Lib.hid hw
  clear hS hw
  go_enter Try.func18, Try.ntmps18
  go_wp2_with fail
  refine (opened_any s HW.out _ _ (HS.out.alloc _)).mono ?_
  rintro e w1 ⟨v', rfl, hown, hb1⟩
  have hs1 := SlAt.own hown
  obtain ⟨A', c', ev, _⟩ := id hs1
  subst ev
  have HS1 := Lib.hid (hs1.alloc (.cells #[.int .u64 (opn s).g, .int .u64 (opn s).n, .int .u64 (opn s).r, .slice A' (opn s).sl.length c'] 58))
  clear hown hs1
  go_wp2_with fail
  refine (lfloor_any (opn s) _ _ HS1.out).mono ?_
  rintro e w2 ⟨rfl, hb2⟩
  rw [U.out]
  go_wp2_with fail
  go_ret2
  exact ⟨rfl, (by repeat (first | with_reducible exact Below.refl _ _ | with_reducible refine Below.drew ?_ | with_reducible refine below_drewN ?_ _ | with_reducible refine bal ?_ _ | with_reducible refine bset ?_ (by first | (simp; done) | (simp; omega)) _ | with_reducible refine bnext ?_ (by assumption) | with_reducible assumption))⟩
end Go.Proofs.Ytdfppaafoecgmaa
