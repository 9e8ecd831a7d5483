/- Contracts: the reference's grant, giving back, and search. -/
import Derived.Test.YtdfppaafoecgmaaN2
import Derived.Test.YtdfppaafoecgmaaG
namespace Go.Proofs.Ytdfppaafoecgmaa
open Go.RowKit
set_option linter.unusedVariables false
set_option linter.unusedSimpArgs false

set_option maxRecDepth 100000 in
set_option maxHeartbeats 2000000 in
theorem rGrant_any (s : Led) (hw : Wf s) (t : Int) (v : Value) (w : World) (hS : SlAt w 5 v s.sl.length (flat s.sl)) :
    Calls Try.prog 20 #[.agg #[.int .u64 s.g, .int .u64 s.n, .int .u64 s.r, v], .int .u64 t] w (LedPost (grant s t) w) := by
  obtain ⟨A, c, rfl, hc1, hc2, _⟩ := id hS
  have HS := Lib.hid hS
  have HW := Lib.hid hw
  have K0 := Lib.hid ((Blk.new w 26 #[.int .u64 s.g, .int .u64 s.n, .int .u64 s.r, .slice A s.sl.length c]).alloc (.cells #[.int .u64 0, .int .u64 0, .int .u64 0, .slice none 0 0] 26))
  have K1 := Lib.hid (Blk.new1 w (.cells #[.int .u64 s.g, .int .u64 s.n, .int .u64 s.r, .slice A s.sl.length c] 26) 26 #[.int .u64 0, .int .u64 0, .int .u64 0, .slice none 0 0])
  clear hS hw
  by_cases hk : okL s
  · have hn := okL_nums hk
    have hl := okL_len hk
    have hg0 := HW.out.1.1
    have HK := Lib.hid hk
    have K : Hid ((chk s).1 = 0) := hk
    clear hk
    go_enter Try.func20, Try.ntmps20
    go_wp2_with fail
    refine (rCheck_any s HW.out _ _ ((HS.out.alloc _).alloc _)).mono ?_
    rintro e w1 ⟨rfl, hb1⟩
    rw [K.out]
    have hB1 : Below w.heap.size w w1 := bnext (bal (bal (Below.refl _ _) _) _) hb1
    have HS1 := Lib.hid (HS.out.below hB1)
    have k0 := K0.out.below hb1
    have k1 := K1.out.below hb1
    clear K0 K1
    have K0 := Lib.hid k0
    have K1 := Lib.hid k1
    obtain ⟨c0, c1, c2, c3⟩ := k0.c4
    obtain ⟨d0, d1, d2, d3⟩ := k1.c4
    obtain ⟨f0, f1, f2, f3⟩ := k1.f4
    have hlt := k1.lt
    clear hb1 k1 k0
    by_cases ht : 1125899906842624 < t
    · have G : Hid (grant s t = (⟨0, 0, 0, []⟩, 0, 2)) := by show (if _ then _ else _) = _; rw [if_neg (fun h => h HK.out), if_pos ht]
      go_wp2_with fail
      refine bodyPost_ret (v := .tuple #[.agg #[.int .u64 0, .int .u64 0, .int .u64 0, .slice none 0 0], .int .u64 0, .int .i64 2]) (by simp [results, Try.results20, go_sem, d0, d1, d2, d3]) rfl ⟨.slice none 0 0, ?_, ?_, ?_⟩
      · rw [G.out]
      · rw [G.out]; exact World.ownsRow_nil _ _ _ _
      · exact (by repeat (first | with_reducible exact Below.refl _ _ | with_reducible refine Below.drew ?_ | with_reducible refine below_drewN ?_ _ | with_reducible refine bal ?_ _ | with_reducible refine bset ?_ (by first | (simp; done) | (simp; omega)) _ | with_reducible refine bnext ?_ (by assumption) | with_reducible assumption))
    · have HT := Lib.hid ht
      go_wp2_with fail
      refine (rown_any s.g s.n s.r s.sl _ w1 HS1.out (by omega)).mono ?_
      rintro e w2 ⟨A', c', rfl, hown, hb2⟩
      have hB2 : Below w.heap.size w w2 := bnext hB1 hb2
      clear c0 c1 c2 c3 d0 d1 d2 d3 f0 f1 f2 f3
      have k0 := K0.out.below hb2
      have k1 := K1.out.below hb2
      obtain ⟨c0, c1, c2, c3⟩ := k0.c4
      obtain ⟨d0, d1, d2, d3⟩ := k1.c4
      obtain ⟨f0, f1, f2, f3⟩ := k1.f4
      have hlt2 := k1.lt
      have hlt3 : w.heap.size < w2.heap.size := by omega
      have hne : ¬ w.heap.size + 1 = w2.heap.size := by omega
      have hne0 : ¬ w.heap.size = w2.heap.size := by omega
      have HO := Lib.hid (own_mono hown (show w.heap.size + 2 ≤ _ by omega))
      clear hown hb2 k0 k1
      by_cases hg : t ≤ s.g
      · have G : Hid (grant s t = (s, 0, 0)) := by show (if _ then _ else _) = _; rw [if_neg (fun h => h HK.out), if_neg (by have := HT.out; omega), if_pos hg]
        go_wp2_with fail
        refine bodyPost_ret (v := .tuple #[.agg #[.int .u64 s.g, .int .u64 s.n, .int .u64 s.r, .slice A' s.sl.length c'], .int .u64 0, .int .i64 0]) (by simp [results, Try.results20, go_sem, d0, d1, d2, d3, hne, hlt2]) rfl ⟨.slice A' s.sl.length c', ?_, ?_, ?_⟩
        · rw [G.out]
        · rw [G.out]
          refine own_mono (base := w.heap.size + 2) ?_ (by omega)
          repeat (first | with_reducible exact HO.out | with_reducible refine World.ownsRow.drew ?_ | with_reducible refine World.ownsRow.alloc ?_ _ | with_reducible refine ownsRow_setCell_below ?_ (by simp) _)
        · exact (by repeat (first | with_reducible exact Below.refl _ _ | with_reducible refine Below.drew ?_ | with_reducible refine below_drewN ?_ _ | with_reducible refine bal ?_ _ | with_reducible refine bset ?_ (by first | (simp; done) | (simp; omega)) _ | with_reducible refine bnext ?_ (by assumption) | with_reducible assumption))
      · have hg' : s.g < t := by omega
        have G : Hid (grant s t = ({ s with g := t }, t - s.g, 0)) := by show (if _ then _ else _) = _; rw [if_neg (fun h => h HK.out), if_neg (by have := HT.out; omega), if_neg hg]
        have WR : IntKind.u64.wrap (t - s.g) = t - s.g := IntWalk.u64_in _ (by omega)
        clear hg
        go_upto_region 10 with fail
        go_region
        all_goals
          clear WR
          go_wp2_with fail
          refine bodyPost_ret (v := .tuple #[.agg #[.int .u64 t, .int .u64 s.n, .int .u64 s.r, .slice A' s.sl.length c'], .int .u64 (t - s.g), .int .i64 0]) (by simp [results, Try.results20, go_sem, d0, d1, d2, d3, hne, hlt2]) rfl ⟨.slice A' s.sl.length c', ?_, ?_, ?_⟩
          · rw [G.out]
          · rw [G.out]
            refine own_mono (base := w.heap.size + 2) ?_ (by omega)
            repeat (first | with_reducible exact HO.out | with_reducible refine World.ownsRow.drew ?_ | with_reducible refine World.ownsRow.alloc ?_ _ | with_reducible refine ownsRow_setCell_below ?_ (by simp) _)
          · exact (by repeat (first | with_reducible exact Below.refl _ _ | with_reducible refine Below.drew ?_ | with_reducible refine below_drewN ?_ _ | with_reducible refine bal ?_ _ | with_reducible refine bset ?_ (by first | (simp; done) | (simp; omega)) _ | with_reducible refine bnext ?_ (by assumption) | with_reducible assumption))
  · have K : Hid ((chk s).1 ≠ 0) := hk
    have hne : ((chk s).1 != 0) = true := by rw [bne_iff_ne]; exact hk
    have heq : ((chk s).1 == 0) = false := by rw [beq_eq_false_iff_ne]; exact hk
    have G : Hid (grant s t = (⟨0, 0, 0, []⟩, 0, (chk s).1)) := if_pos hk
    clear hk
    go_enter Try.func20, Try.ntmps20
    go_wp2_with fail
    refine (rCheck_any s HW.out _ _ ((HS.out.alloc _).alloc _)).mono ?_
    rintro e w1 ⟨rfl, hb1⟩
    have hB1 : Below w.heap.size w w1 := bnext (bal (bal (Below.refl _ _) _) _) hb1
    have k1 := K1.out.below hb1
    obtain ⟨d0, d1, d2, d3⟩ := k1.c4
    obtain ⟨f0, f1, f2, f3⟩ := k1.f4
    have hlt := k1.lt
    clear hb1 k1
    go_wp2_with fail
    refine bodyPost_ret (v := .tuple #[.agg #[.int .u64 0, .int .u64 0, .int .u64 0, .slice none 0 0], .int .u64 0, .int .i64 (chk s).1]) (by simp [results, Try.results20, go_sem, d0, d1, d2, d3]) rfl ⟨.slice none 0 0, ?_, ?_, ?_⟩
    · rw [G.out]
    · rw [G.out]; exact World.ownsRow_nil _ _ _ _
    · exact (by repeat (first | with_reducible exact Below.refl _ _ | with_reducible refine Below.drew ?_ | with_reducible refine below_drewN ?_ _ | with_reducible refine bal ?_ _ | with_reducible refine bset ?_ (by first | (simp; done) | (simp; omega)) _ | with_reducible refine bnext ?_ (by assumption) | with_reducible assumption))

set_option maxRecDepth 100000 in
set_option maxHeartbeats 2000000 in
theorem rGive_any (s : Led) (hw : Wf s) (t : Int) (v : Value) (w : World) (hS : SlAt w 5 v s.sl.length (flat s.sl)) :
    Calls Try.prog 22 #[.agg #[.int .u64 s.g, .int .u64 s.n, .int .u64 s.r, v], .int .u64 t] w (LedPost (give s t) w) := by
  obtain ⟨A, c, rfl, hc1, hc2, _⟩ := id hS
  have HS := Lib.hid hS
  have HW := Lib.hid hw
  have K0 := Lib.hid ((Blk.new w 26 #[.int .u64 s.g, .int .u64 s.n, .int .u64 s.r, .slice A s.sl.length c]).alloc (.cells #[.int .u64 0, .int .u64 0, .int .u64 0, .slice none 0 0] 26))
  have K1 := Lib.hid (Blk.new1 w (.cells #[.int .u64 s.g, .int .u64 s.n, .int .u64 s.r, .slice A s.sl.length c] 26) 26 #[.int .u64 0, .int .u64 0, .int .u64 0, .slice none 0 0])
  clear hS hw
  by_cases hk : okL s
  · have hn := okL_nums hk
    have hl := okL_len hk
    have hg0 := HW.out.1.1
    have HK := Lib.hid hk
    have K : Hid ((chk s).1 = 0) := hk
    clear hk
    go_enter Try.func22, Try.ntmps22
    go_wp2_with fail
    refine (rCheck_any s HW.out _ _ ((HS.out.alloc _).alloc _)).mono ?_
    rintro e w1 ⟨rfl, hb1⟩
    rw [K.out]
    have hB1 : Below w.heap.size w w1 := bnext (bal (bal (Below.refl _ _) _) _) hb1
    have HS1 := Lib.hid (HS.out.below hB1)
    have k0 := K0.out.below hb1
    have k1 := K1.out.below hb1
    clear K0 K1
    have K0 := Lib.hid k0
    have K1 := Lib.hid k1
    obtain ⟨c0, c1, c2, c3⟩ := k0.c4
    obtain ⟨d0, d1, d2, d3⟩ := k1.c4
    obtain ⟨f0, f1, f2, f3⟩ := k1.f4
    have hlt := k1.lt
    clear hb1 k1 k0
    by_cases ht : 1125899906842624 < t
    · have G : Hid (give s t = (⟨0, 0, 0, []⟩, 0, 2)) := by show (if _ then _ else _) = _; rw [if_neg (fun h => h HK.out), if_pos ht]
      go_wp2_with fail
      refine bodyPost_ret (v := .tuple #[.agg #[.int .u64 0, .int .u64 0, .int .u64 0, .slice none 0 0], .int .u64 0, .int .i64 2]) (by simp [results, Try.results22, go_sem, d0, d1, d2, d3]) rfl ⟨.slice none 0 0, ?_, ?_, ?_⟩
      · rw [G.out]
      · rw [G.out]; exact World.ownsRow_nil _ _ _ _
      · exact (by repeat (first | with_reducible exact Below.refl _ _ | with_reducible refine Below.drew ?_ | with_reducible refine below_drewN ?_ _ | with_reducible refine bal ?_ _ | with_reducible refine bset ?_ (by first | (simp; done) | (simp; omega)) _ | with_reducible refine bnext ?_ (by assumption) | with_reducible assumption))
    · have HT := Lib.hid ht
      go_wp2_with fail
      refine (rown_any s.g s.n s.r s.sl _ w1 HS1.out (by omega)).mono ?_
      rintro e w2 ⟨A', c', rfl, hown, hb2⟩
      have hB2 : Below w.heap.size w w2 := bnext hB1 hb2
      clear c0 c1 c2 c3 d0 d1 d2 d3 f0 f1 f2 f3
      have k0 := K0.out.below hb2
      have k1 := K1.out.below hb2
      obtain ⟨c0, c1, c2, c3⟩ := k0.c4
      obtain ⟨d0, d1, d2, d3⟩ := k1.c4
      obtain ⟨f0, f1, f2, f3⟩ := k1.f4
      have hlt2 := k1.lt
      have hlt3 : w.heap.size < w2.heap.size := by omega
      have hne : ¬ w.heap.size + 1 = w2.heap.size := by omega
      have hne0 : ¬ w.heap.size = w2.heap.size := by omega
      have HO := Lib.hid (own_mono hown (show w.heap.size + 2 ≤ _ by omega))
      have K02 := Lib.hid k0
      have K12 := Lib.hid k1
      clear hown k0 k1
      by_cases hg : t ≤ s.r
      · have G : Hid (give s t = (s, 0, 0)) := by show (if _ then _ else _) = _; rw [if_neg (fun h => h HK.out), if_neg (by have := HT.out; omega), if_pos hg]
        go_wp2_with fail
        refine bodyPost_ret (v := .tuple #[.agg #[.int .u64 s.g, .int .u64 s.n, .int .u64 s.r, .slice A' s.sl.length c'], .int .u64 0, .int .i64 0]) (by simp [results, Try.results22, go_sem, d0, d1, d2, d3, hne, hlt2]) rfl ⟨.slice A' s.sl.length c', ?_, ?_, ?_⟩
        · rw [G.out]
        · rw [G.out]
          refine own_mono (base := w.heap.size + 2) ?_ (by omega)
          repeat (first | with_reducible exact HO.out | with_reducible refine World.ownsRow.drew ?_ | with_reducible refine World.ownsRow.alloc ?_ _ | with_reducible refine ownsRow_setCell_below ?_ (by simp) _)
        · exact (by repeat (first | with_reducible exact Below.refl _ _ | with_reducible refine Below.drew ?_ | with_reducible refine below_drewN ?_ _ | with_reducible refine bal ?_ _ | with_reducible refine bset ?_ (by first | (simp; done) | (simp; omega)) _ | with_reducible refine bnext ?_ (by assumption) | with_reducible assumption))
      · have hg' : s.r < t := by omega
        have hr1 := HW.out.2.2.1.2
        have hr0 := HW.out.2.2.1.1
        have hn0 := HW.out.2.1.1
        have hg1 := HW.out.1.2
        have WR : IntKind.u64.wrap (t - s.r) = t - s.r := IntWalk.u64_in _ (by omega)
        have KO := Lib.hid (Blk.new w2 26 #[.int .u64 s.g, .int .u64 s.n, .int .u64 s.r, .slice A' s.sl.length c'])
        have HOx := Lib.hid (HO.out.alloc (.cells #[.int .u64 s.g, .int .u64 s.n, .int .u64 s.r, .slice A' s.sl.length c'] 26))
        have K0x := Lib.hid (K02.out.alloc (.cells #[.int .u64 s.g, .int .u64 s.n, .int .u64 s.r, .slice A' s.sl.length c'] 26))
        have K1x := Lib.hid (K12.out.alloc (.cells #[.int .u64 s.g, .int .u64 s.n, .int .u64 s.r, .slice A' s.sl.length c'] 26))
        obtain ⟨u, hu⟩ : ∃ u, s.g - s.n - s.r = u := ⟨_, rfl⟩
        have hu' : usab s = u := hu
        have hu0 : 0 ≤ u := by omega
        have hu1 : u + s.r ≤ 18446744073709551615 := by omega
        have U := Lib.hid hu
        have U' := Lib.hid hu'
        clear hu hu' hg
        go_wp2_with fail
        refine (rusable_any s.g s.n s.r _ _ (by omega) (by omega) (by omega) (by omega) ⟨_, _, _, rfl⟩).mono ?_
        rintro e w3 ⟨rfl, hb3⟩
        rw [U.out]
        have hB3 : Below w.heap.size w w3 := bnext (bal hB2 _) hb3
        have k03 := K0x.out.below hb3
        have k13 := K1x.out.below hb3
        have ko3 := KO.out.below hb3
        have HO3 := Lib.hid (own_below hb3 HOx.out)
        have K03 := Lib.hid k03
        have K13 := Lib.hid k13
        have KO3 := Lib.hid ko3
        clear c0 c1 c2 c3 d0 d1 d2 d3 f0 f1 f2 f3 KO HOx K0x K1x
        obtain ⟨c0, c1, c2, c3⟩ := k03.c4
        obtain ⟨d0, d1, d2, d3⟩ := k13.c4
        obtain ⟨f0, f1, f2, f3⟩ := k13.f4
        obtain ⟨e0, e1, e2, e3⟩ := ko3.c4
        obtain ⟨h0, h1, h2, h3⟩ := ko3.f4
        have hl1 := k13.lt
        have hl2 := ko3.lt
        clear k03 k13 ko3
        by_cases hm : u < t - s.r
        · have G : Hid (give s t = ({ s with r := s.r + u }, u, 0)) := by
            show (if _ then _ else _) = _
            rw [if_neg (fun h => h HK.out), if_neg (by have := HT.out; omega)]
            show (if _ then _ else _) = _
            rw [if_neg (by omega), if_pos (by rw [U'.out]; exact hm), U'.out]
          have WA : IntKind.u64.wrap (s.r + u) = s.r + u := IntWalk.u64_in _ (by omega)
          go_wp2_with fail
          refine (rusable_any s.g s.n s.r _ _ (by omega) (by omega) (by omega) (by omega) ⟨_, _, _, rfl⟩).mono ?_
          rintro e w4 ⟨rfl, hb4⟩
          rw [U.out]
          have hB4 : Below w.heap.size w w4 := bnext hB3 hb4
          have k04 := K03.out.below hb4
          have k14 := K13.out.below hb4
          have ko4 := KO3.out.below hb4
          have HO4 := Lib.hid (own_below hb4 HO3.out)
          have KO4 := Lib.hid ko4
          clear c0 c1 c2 c3 d0 d1 d2 d3 f0 f1 f2 f3 e0 e1 e2 e3 h0 h1 h2 h3
          obtain ⟨c0, c1, c2, c3⟩ := k04.c4
          obtain ⟨d0, d1, d2, d3⟩ := k14.c4
          obtain ⟨f0, f1, f2, f3⟩ := k14.f4
          obtain ⟨e0, e1, e2, e3⟩ := ko4.c4
          obtain ⟨h0, h1, h2, h3⟩ := ko4.f4
          have hl1 := k14.lt
          have hl2 := ko4.lt
          clear k04 k14 ko4 hb4 hb3 hb2
          go_wp2_with fail
          refine bodyPost_ret (v := .tuple #[.agg #[.int .u64 s.g, .int .u64 s.n, .int .u64 (s.r + u), .slice A' s.sl.length c'], .int .u64 u, .int .i64 0]) (by simp [results, Try.results22, go_sem, d0, d1, d2, d3, e0, e1, e2, e3, hne, hlt2]) rfl ⟨.slice A' s.sl.length c', ?_, ?_, ?_⟩
          · rw [G.out]
          · rw [G.out]
            refine own_mono (base := w.heap.size + 2) ?_ (by omega)
            have p0 := ho_far (a := ⟨w2.heap.size, 2, none⟩) HO4.out KO4.out (by decide) (.int .u64 (s.r + u))
            repeat (first | with_reducible exact p0 | with_reducible refine World.ownsRow.drew ?_ | with_reducible refine World.ownsRow.alloc ?_ _ | with_reducible refine ownsRow_setCell_below ?_ (by simp) _)
          · exact (by repeat (first | with_reducible exact Below.refl _ _ | with_reducible refine Below.drew ?_ | with_reducible refine below_drewN ?_ _ | with_reducible refine bal ?_ _ | with_reducible refine bset ?_ (by first | (simp; done) | (simp; omega)) _ | with_reducible refine bnext ?_ (by assumption) | with_reducible assumption))
        · have hm' : t - s.r ≤ u := by omega
          have G : Hid (give s t = ({ s with r := t }, t - s.r, 0)) := by
            show (if _ then _ else _) = _
            rw [if_neg (fun h => h HK.out), if_neg (by have := HT.out; omega)]
            show (if _ then _ else _) = _
            rw [if_neg (by omega), if_neg (by rw [U'.out]; exact hm)]
          have WA : IntKind.u64.wrap (s.r + (t - s.r)) = t := by rw [show s.r + (t - s.r) = t by omega]; exact IntWalk.u64_in _ (by omega)
          clear hm
          go_wp2_with fail
          refine bodyPost_ret (v := .tuple #[.agg #[.int .u64 s.g, .int .u64 s.n, .int .u64 t, .slice A' s.sl.length c'], .int .u64 (t - s.r), .int .i64 0]) (by simp [results, Try.results22, go_sem, d0, d1, d2, d3, e0, e1, e2, e3, hne, hlt2]) rfl ⟨.slice A' s.sl.length c', ?_, ?_, ?_⟩
          · rw [G.out]
          · rw [G.out]
            refine own_mono (base := w.heap.size + 2) ?_ (by omega)
            have p0 := ho_far (a := ⟨w2.heap.size, 2, none⟩) HO3.out KO3.out (by decide) (.int .u64 t)
            repeat (first | with_reducible exact p0 | with_reducible refine World.ownsRow.drew ?_ | with_reducible refine World.ownsRow.alloc ?_ _ | with_reducible refine ownsRow_setCell_below ?_ (by simp) _)
          · exact (by repeat (first | with_reducible exact Below.refl _ _ | with_reducible refine Below.drew ?_ | with_reducible refine below_drewN ?_ _ | with_reducible refine bal ?_ _ | with_reducible refine bset ?_ (by first | (simp; done) | (simp; omega)) _ | with_reducible refine bnext ?_ (by assumption) | with_reducible assumption))
  · have K : Hid ((chk s).1 ≠ 0) := hk
    have hne : ((chk s).1 != 0) = true := by rw [bne_iff_ne]; exact hk
    have heq : ((chk s).1 == 0) = false := by rw [beq_eq_false_iff_ne]; exact hk
    have G : Hid (give s t = (⟨0, 0, 0, []⟩, 0, (chk s).1)) := if_pos hk
    clear hk
    go_enter Try.func22, Try.ntmps22
    go_wp2_with fail
    refine (rCheck_any s HW.out _ _ ((HS.out.alloc _).alloc _)).mono ?_
    rintro e w1 ⟨rfl, hb1⟩
    have hB1 : Below w.heap.size w w1 := bnext (bal (bal (Below.refl _ _) _) _) hb1
    have k1 := K1.out.below hb1
    obtain ⟨d0, d1, d2, d3⟩ := k1.c4
    obtain ⟨f0, f1, f2, f3⟩ := k1.f4
    have hlt := k1.lt
    clear hb1 k1
    go_wp2_with fail
    refine bodyPost_ret (v := .tuple #[.agg #[.int .u64 0, .int .u64 0, .int .u64 0, .slice none 0 0], .int .u64 0, .int .i64 (chk s).1]) (by simp [results, Try.results22, go_sem, d0, d1, d2, d3]) rfl ⟨.slice none 0 0, ?_, ?_, ?_⟩
    · rw [G.out]
    · rw [G.out]; exact World.ownsRow_nil _ _ _ _
    · exact (by repeat (first | with_reducible exact Below.refl _ _ | with_reducible refine Below.drew ?_ | with_reducible refine below_drewN ?_ _ | with_reducible refine bal ?_ _ | with_reducible refine bset ?_ (by first | (simp; done) | (simp; omega)) _ | with_reducible refine bnext ?_ (by assumption) | with_reducible assumption))

set_option maxRecDepth 100000 in
set_option maxHeartbeats 2000000 in
theorem rfind_any (g n r : Int) (node seq io : Int) (l : List Sl) (v : Value) (w : World) (hS : SlAt w 5 v l.length (flat l)) :
    Calls Try.prog 47 #[.agg #[.int .u64 g, .int .u64 n, .int .u64 r, v], .agg #[.int .i64 node, .int .u64 seq, .int .i64 io]] w (RetI .i64 (idx node seq io l) w) := by
  obtain ⟨A, c, rfl, hc1, hc2, hR⟩ := id hS
  have HS := Lib.hid hS
  clear hS hR
  unfold maxLen at hc2
  go_enter Try.func47, Try.ntmps47
  go_wp2_with fail
  obtain ⟨W, hW⟩ : ∃ W, (w.alloc (.cells #[.int .u64 g, .int .u64 n, .int .u64 r, .slice A l.length c] 26)).alloc (.cells #[.int .i64 node, .int .u64 seq, .int .i64 io] 41) = W := ⟨_, rfl⟩
  have hBW : Below w.heap.size w W := by rw [← hW]; exact bal (bal (Below.refl _ _) _) _
  have K0 : Hid (Blk W w.heap.size 26 #[.int .u64 g, .int .u64 n, .int .u64 r, .slice A l.length c]) := by rw [← hW]; exact Lib.hid ((Blk.new _ _ _).alloc _)
  have K1 : Hid (Blk W (w.heap.size + 1) 41 #[.int .i64 node, .int .u64 seq, .int .i64 io]) := by rw [← hW]; exact Lib.hid (Blk.new1 _ _ _ _)
  have HSW : Hid (SlAt W 5 (.slice A l.length c) l.length (flat l)) := Lib.hid (HS.out.below hBW)
  clear HS
  rw [hW]
  clear hW
  go_loopw [5] (fun a wr => ∃ k : Nat, k ≤ l.length ∧ a = .int .i64 k ∧ (∀ q y, q < k → l[q]? = some y → y.has node seq io = false) ∧ Below W.heap.size W wr) (fun a _ => l.length - (intOf a).toNat)
  case atStart => exact ⟨0, by omega, rfl, fun q y h => by omega, Below.refl _ _⟩
  case round =>
    obtain ⟨k, hk, rfl, hno, hB⟩ := hrel
    have HNO := Lib.hid hno
    have k0 := K0.out.below hB
    have k1 := K1.out.below hB
    obtain ⟨c0, c1, c2, c3⟩ := k0.c4
    obtain ⟨d0, d1, d2⟩ := k1.c3
    clear hno k0 k1
    by_cases hkl : k < l.length
    · obtain ⟨y, hy⟩ : ∃ y, l[k]? = some y := ⟨_, List.getElem?_eq_getElem hkl⟩
      obtain ⟨_, _, e1, _, _, hR1⟩ := HSW.out.below hB
      cases e1
      obtain ⟨b, o, rfl, _, y0, y1, y2, y3, y4⟩ := slot_cells hR1 rfl hy
      have hkl' : (k : Int) < l.length := by omega
      have hk0 : (0 : Int) ≤ (k : Int) := by omega
      clear hR1
      by_cases hh : y.has node seq io = true
      · have E : Hid (idx node seq io l = k) := by
          have hf : fnd node seq io l = k := fnd_is _ _ _ _ _ hk HNO.out fun _ => ⟨y, hy, hh⟩
          show (if _ then _ else _) = _
          rw [hf, if_pos hkl]
        have he : ∀ w, (binOp .eql 41 (.agg #[.int .i64 y.node, .int .u64 y.seq, .int .i64 y.io]) (.agg #[.int .i64 node, .int .u64 seq, .int .i64 io])).run Try.prog w = .ok (.bool true) w := fun w => by rw [run_eql_id]; unfold Sl.has at hh; rw [hh]
        clear hy hh
        go_wp2_with fail
        go_quiet (fail)
        go_wp2_with fail
        go_ret
        exact ⟨by rw [E.out]; rfl, below_drewN (bnext hBW hB) _⟩
      · have hh' : y.has node seq io = false := by simpa using hh
        have he : ∀ w, (binOp .eql 41 (.agg #[.int .i64 y.node, .int .u64 y.seq, .int .i64 y.io]) (.agg #[.int .i64 node, .int .u64 seq, .int .i64 io])).run Try.prog w = .ok (.bool false) w := fun w => by rw [run_eql_id]; unfold Sl.has at hh'; rw [hh']
        have HNO2 : Hid (∀ q z, q < k + 1 → l[q]? = some z → z.has node seq io = false) := hidI' (fun q z hq hz => by
          by_cases hqk : q = k
          · subst hqk; rw [hy] at hz; cases hz; exact hh'
          · exact HNO.out q z (by omega) hz)
        clear hy hh hh'
        go_wp2_with fail
        go_quiet (fail)
        go_wp2_with fail
        go_roundw
        case rel => exact ⟨k + 1, by omega, by go_num, HNO2.out, below_drewN hB _⟩
        case measure => simp [intOf]; omega
    · obtain rfl : k = l.length := by omega
      have E : Hid (idx node seq io l = -1) := by
        have hf : fnd node seq io l = l.length := fnd_is _ _ _ _ _ hk HNO.out fun h => absurd h (by omega)
        show (if _ then _ else _) = _
        rw [hf, if_neg (by omega)]
      go_wp2_with fail
      go_ret
      exact ⟨by rw [E.out]; rfl, bnext hBW hB⟩
end Go.Proofs.Ytdfppaafoecgmaa
