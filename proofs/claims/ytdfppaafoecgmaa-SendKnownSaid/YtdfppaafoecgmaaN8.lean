/- Contract: the program's settling. -/
import Derived.Test.YtdfppaafoecgmaaN7
namespace Go.Proofs.Ytdfppaafoecgmaa
open Go.RowKit
set_option linter.unusedVariables false
set_option linter.unusedSimpArgs false

set_option maxRecDepth 100000 in
set_option maxHeartbeats 4000000 in
theorem Settle_any (s : Led) (hw : Wf s) (off node seq io : Int) (v : Value) (w : World) (hS : SlAt w 5 v s.sl.length (flat s.sl)) :
    Calls Try.prog 27 #[.agg #[.int .u64 s.g, .int .u64 s.n, .int .u64 s.r, v], .int .u64 off, .agg #[.int .i64 node, .int .u64 seq, .int .i64 io]] w (SetPost (settle s off node seq io) w) := by
  obtain ⟨g, n, r, l⟩ := s
  obtain ⟨A, c, rfl, hc1, hc2, _⟩ := id hS
  have hB0 : Below w.heap.size w (((w.alloc (.cells #[.int .u64 g, .int .u64 n, .int .u64 r, .slice A l.length c] 26)).alloc (.cells #[.int .i64 node, .int .u64 seq, .int .i64 io] 41)).alloc (.cells #[.int .u64 0, .int .u64 0, .int .u64 0, .slice none 0 0] 26)) := bal (bal (bal (Below.refl _ _) _) _) _
  have HS := Lib.hid (hS.below hB0)
  have HW := Lib.hid hw
  have K0 := Lib.hid (((Blk.new w 26 #[.int .u64 g, .int .u64 n, .int .u64 r, .slice A l.length c]).alloc (.cells #[.int .i64 node, .int .u64 seq, .int .i64 io] 41)).alloc (.cells #[.int .u64 0, .int .u64 0, .int .u64 0, .slice none 0 0] 26))
  have KI := Lib.hid ((Blk.new1 w (.cells #[.int .u64 g, .int .u64 n, .int .u64 r, .slice A l.length c] 26) 41 #[.int .i64 node, .int .u64 seq, .int .i64 io]).alloc (.cells #[.int .u64 0, .int .u64 0, .int .u64 0, .slice none 0 0] 26))
  have KR := Lib.hid (Blk.new2 w (.cells #[.int .u64 g, .int .u64 n, .int .u64 r, .slice A l.length c] 26) (.cells #[.int .i64 node, .int .u64 seq, .int .i64 io] 41) 26 #[.int .u64 0, .int .u64 0, .int .u64 0, .slice none 0 0])
  unfold maxLen at hc2
  clear hS hw
  dsimp only at *
  by_cases hk : okL ⟨g, n, r, l⟩
  · have HK := Lib.hid hk
    clear hk
    by_cases hid : IdOk node seq io
    · have HI := Lib.hid hid
      have ID : Hid (idE node seq io = 0) := if_pos hid
      clear hid
      go_enter Try.func27, Try.ntmps27
      go_wp2_with fail
      refine (opened_ok ⟨g, n, r, l⟩ HW.out _ _ HS.out HK.out).mono ?_
      rintro e w1 ⟨A1, q1, rfl, hown, hb1⟩
      have HO := Lib.hid (own_mono hown (show w.heap.size + 3 ≤ _ by simp))
      clear hown
      have hB1 : Below w.heap.size w w1 := bnext hB0 hb1
      have k0 := (K0.out).below hb1
      have ki := (KI.out).below hb1
      have kr := (KR.out).below hb1
      obtain ⟨c0, c1, c2, c3⟩ := k0.c4
      obtain ⟨i0, i1, i2⟩ := ki.c3
      obtain ⟨d0, d1, d2, d3⟩ := kr.c4
      obtain ⟨f0, f1, f2, f3⟩ := kr.f4
      have hlt0 := k0.lt
      have hlt1 := ki.lt
      have hlt2 := kr.lt
      clear K0 KI KR
      have K0 := Lib.hid k0
      have KI := Lib.hid ki
      have KR := Lib.hid kr
      clear k0 ki kr
      have hlw : w.heap.size + 3 ≤ w1.heap.size := by omega
      have hnel : ¬ w.heap.size + 1 + 1 = w1.heap.size := by omega
      go_wp2_with fail
      refine (CheckID_any _ _ _ _).mono ?_
      rintro e w2 ⟨rfl, hb2⟩
      rw [ID.out]
      have hB2 : Below w.heap.size w w2 := bnext (bal hB1 _) hb2
      clear c0 c1 c2 c3 i0 i1 i2 d0 d1 d2 d3 f0 f1 f2 f3 hlt0 hlt1 hlt2
      have k0 := (K0.out.alloc (.cells #[.int .u64 g, .int .u64 n, .int .u64 r, .slice A1 l.length q1] 58)).below hb2
      have ki := (KI.out.alloc (.cells #[.int .u64 g, .int .u64 n, .int .u64 r, .slice A1 l.length q1] 58)).below hb2
      have kr := (KR.out.alloc (.cells #[.int .u64 g, .int .u64 n, .int .u64 r, .slice A1 l.length q1] 58)).below hb2
      have ho := own_below hb2 (HO.out.alloc (.cells #[.int .u64 g, .int .u64 n, .int .u64 r, .slice A1 l.length q1] 58))
      have kl := (Blk.new w1 58 #[.int .u64 g, .int .u64 n, .int .u64 r, .slice A1 l.length q1]).below hb2
      obtain ⟨l0, l1, l2, l3⟩ := kl.c4
      obtain ⟨m0, m1, m2, m3⟩ := kl.f4
      have hlt3 := kl.lt
      obtain ⟨c0, c1, c2, c3⟩ := k0.c4
      obtain ⟨i0, i1, i2⟩ := ki.c3
      obtain ⟨d0, d1, d2, d3⟩ := kr.c4
      obtain ⟨f0, f1, f2, f3⟩ := kr.f4
      have hlt0 := k0.lt
      have hlt1 := ki.lt
      have hlt2 := kr.lt
      clear K0 KI KR HO
      have K0 := Lib.hid k0
      have KI := Lib.hid ki
      have KR := Lib.hid kr
      clear k0 ki kr
      have HO := Lib.hid ho
      have KL := Lib.hid kl
      clear ho kl
      by_cases ha : anyHas node seq io l = true
      · obtain ⟨k, x, hf, hx, hl, hkl, hh, hG⟩ := find3_some (s := ⟨g, n, r, l⟩) HK.out HI.out ha
        have HX : Hid (idx node seq io l = k) := hx
        have HF : Hid (fnd node seq io l = k) := hf
        have HL : Hid (l[k]? = some x) := hl
        have hkn : k < l.length := hkl
        have hkl' : (k : Int) < l.length := by omega
        have hk0 : (0 : Int) ≤ (k : Int) := by omega
        have hk1 : ¬ (k : Int) < 0 := by omega
        clear hf hx hl hkl hh hG ha
        go_wp2_with fail
        refine (slot_any g n r _ node seq io l _ (SlAt.own HO.out)).mono ?_
        rintro e w3 ⟨rfl, hb3⟩
        rw [HX.out]
        have hB3 : Below w.heap.size w w3 := bnext hB2 hb3
        clear c0 c1 c2 c3 i0 i1 i2 d0 d1 d2 d3 f0 f1 f2 f3 hlt0 hlt1 hlt2 l0 l1 l2 l3 m0 m1 m2 m3 hlt3
        have k0 := (K0.out).below hb3
        have ki := (KI.out).below hb3
        have kr := (KR.out).below hb3
        have ho := own_below hb3 (HO.out)
        have kl := KL.out.below hb3
        obtain ⟨l0, l1, l2, l3⟩ := kl.c4
        obtain ⟨m0, m1, m2, m3⟩ := kl.f4
        have hlt3 := kl.lt
        obtain ⟨c0, c1, c2, c3⟩ := k0.c4
        obtain ⟨i0, i1, i2⟩ := ki.c3
        obtain ⟨d0, d1, d2, d3⟩ := kr.c4
        obtain ⟨f0, f1, f2, f3⟩ := kr.f4
        have hlt0 := k0.lt
        have hlt1 := ki.lt
        have hlt2 := kr.lt
        clear K0 KI KR HO KL
        have K0 := Lib.hid k0
        have KI := Lib.hid ki
        have KR := Lib.hid kr
        clear k0 ki kr
        have HO := Lib.hid ho
        have KL := Lib.hid kl
        clear ho kl
        obtain ⟨_, _, e1, _, _, hR1⟩ := SlAt.own HO.out
        cases e1
        obtain ⟨N, hN⟩ : ∃ N, l.length = N + 1 := ⟨l.length - 1, by omega⟩
        obtain ⟨gg, cap, e2⟩ : ∃ gg cap, Value.slice A1 l.length q1 = .slice (some ⟨gg, 0, none⟩) l.length cap := by
          have h := HO.out
          rw [hN] at h ⊢
          exact ownsRow_succ h
        cases e2
        obtain ⟨b, o, e3, hbl, y0, y1, y2, y3, y4⟩ := slot_cells hR1 rfl HL.out
        cases e3
        clear hR1
        rw [Nat.zero_add] at y0
        clear y1 y2 y3 y4
        by_cases hoff : x.off = off
        · have G : Hid (settle ⟨g, n, r, l⟩ off node seq io = (⟨g, n, r, l.eraseIdx k⟩, 0)) := settle_ok HK.out HI.out HF.out HL.out hoff
          have t1 : (x.off != off) = false := by rw [hoff]; simp
          have hlm : l.length ≤ 9223372036854775807 := by omega
          have WK : IntKind.i64.wrap ((k : Int) + 1) = (k : Int) + 1 := IntWalk.i64_in _ (by omega)
          have D := Delete_any (w.heap.size + 3) gg q1 N l hN k (by omega) w3 (by rw [← hN]; exact HO.out)
          rw [← hN] at D
          have HD := Lib.hid D
          have EN : Hid ((l.eraseIdx k).length = N) := by show _ = _; rw [List.length_eraseIdx_of_lt hkn]; omega
          clear D hoff hN
          go_wp2_with fail
          refine HD.out.mono ?_
          rintro e w4 ⟨rfl, hown4, hgrow⟩
          have k04 := K0.out.grown hgrow (blk_ne_own HO.out K0.out (by decide))
          have kr4 := KR.out.grown hgrow (blk_ne_own HO.out KR.out (by decide))
          have kl4 := KL.out.grown hgrow (blk_ne_own HO.out KL.out (by decide))
          have hB4 : Below w.heap.size w w4 := hB3.grown hgrow (by omega) (fun q e => by have := (HO.out.lt q e).1; omega)
          clear c0 c1 c2 c3 i0 i1 i2 d0 d1 d2 d3 f0 f1 f2 f3 hlt0 hlt1 hlt2 l0 l1 l2 l3 m0 m1 m2 m3 hlt3
          obtain ⟨d0, d1, d2, d3⟩ := kr4.c4
          obtain ⟨f0, f1, f2, f3⟩ := kr4.f4
          obtain ⟨l0, l1, l2, l3⟩ := kl4.c4
          obtain ⟨m0, m1, m2, m3⟩ := kl4.f4
          have hlt2 := kr4.lt
          have hlt3 := kl4.lt
          have HO4 := Lib.hid hown4
          have KL4 := Lib.hid kl4
          have P1 := Lib.hid (ho_far (a := ⟨w1.heap.size, 3, none⟩) HO4.out KL4.out (by decide) (.slice (some ⟨gg, 0, none⟩) N q1))
          clear k04 kr4 kl4 hown4 hgrow WK
          go_wp2_with fail
          refine bodyPost_ret (v := .tuple #[.agg #[.int .u64 g, .int .u64 n, .int .u64 r, .slice (some ⟨gg, 0, none⟩) N q1], .int .i64 0]) (by simp [results, Try.results27, go_sem, d0, d1, d2, d3, l0, l1, l2, l3, hnel]) rfl ⟨.slice (some ⟨gg, 0, none⟩) N q1, ?_, ?_, ?_⟩
          · rw [G.out]
          · rw [G.out]
            refine own_mono (base := w.heap.size + 3) ?_ (by omega)
            have q := P1.out
            dsimp only
            rw [EN.out]
            repeat (first | with_reducible exact q | with_reducible refine World.ownsRow.drew ?_ | with_reducible refine World.ownsRow.alloc ?_ _ | with_reducible refine ownsRow_setCell_below ?_ (by simp; done) _)
          · exact (by repeat (first | with_reducible exact Below.refl _ _ | with_reducible refine Below.drew ?_ | with_reducible refine below_drewN ?_ _ | with_reducible refine bal ?_ _ | with_reducible refine bset ?_ (by first | (simp; done) | (simp; omega)) _ | with_reducible refine bnext ?_ (by assumption) | with_reducible assumption))
        · have G : Hid (settle ⟨g, n, r, l⟩ off node seq io = (zLed, 8)) := settle_off HK.out HI.out HF.out HL.out hoff
          have t1 : (x.off != off) = true := by rw [bne_iff_ne]; exact hoff
          clear hoff hN
          go_wp2_with fail
          refine bodyPost_ret (v := .tuple #[.agg #[.int .u64 0, .int .u64 0, .int .u64 0, .slice none 0 0], .int .i64 8]) (by simp [results, Try.results27, go_sem, d0, d1, d2, d3, hnel, hlt2]) rfl ⟨.slice none 0 0, ?_, ?_, ?_⟩
          · rw [G.out]; rfl
          · rw [G.out]; exact World.ownsRow_nil _ _ _ _
          · exact (by repeat (first | with_reducible exact Below.refl _ _ | with_reducible refine Below.drew ?_ | with_reducible refine below_drewN ?_ _ | with_reducible refine bal ?_ _ | with_reducible refine bset ?_ (by first | (simp; done) | (simp; omega)) _ | with_reducible refine bnext ?_ (by assumption) | with_reducible assumption))
      · have hid' : idx node seq io l < 0 := idx_neg (by simpa using ha)
        have G : Hid (settle ⟨g, n, r, l⟩ off node seq io = (zLed, 8)) := settle_none HK.out HI.out ha
        clear ha
        go_wp2_with fail
        refine (slot_any g n r _ node seq io l _ (SlAt.own HO.out)).mono ?_
        rintro e w3 ⟨rfl, hb3⟩
        have hB3 : Below w.heap.size w w3 := bnext hB2 hb3
        clear c0 c1 c2 c3 i0 i1 i2 d0 d1 d2 d3 f0 f1 f2 f3 hlt0 hlt1 hlt2 l0 l1 l2 l3 m0 m1 m2 m3 hlt3
        have k0 := (K0.out).below hb3
        have ki := (KI.out).below hb3
        have kr := (KR.out).below hb3
        have ho := own_below hb3 (HO.out)
        have kl := KL.out.below hb3
        obtain ⟨l0, l1, l2, l3⟩ := kl.c4
        obtain ⟨m0, m1, m2, m3⟩ := kl.f4
        have hlt3 := kl.lt
        obtain ⟨c0, c1, c2, c3⟩ := k0.c4
        obtain ⟨i0, i1, i2⟩ := ki.c3
        obtain ⟨d0, d1, d2, d3⟩ := kr.c4
        obtain ⟨f0, f1, f2, f3⟩ := kr.f4
        have hlt0 := k0.lt
        have hlt1 := ki.lt
        have hlt2 := kr.lt
        clear K0 KI KR HO KL
        have K0 := Lib.hid k0
        have KI := Lib.hid ki
        have KR := Lib.hid kr
        clear k0 ki kr
        have HO := Lib.hid ho
        have KL := Lib.hid kl
        clear ho kl
        go_wp2_with fail
        refine bodyPost_ret (v := .tuple #[.agg #[.int .u64 0, .int .u64 0, .int .u64 0, .slice none 0 0], .int .i64 8]) (by simp [results, Try.results27, go_sem, d0, d1, d2, d3, hnel, hlt2]) rfl ⟨.slice none 0 0, ?_, ?_, ?_⟩
        · rw [G.out]; rfl
        · rw [G.out]; exact World.ownsRow_nil _ _ _ _
        · exact (by repeat (first | with_reducible exact Below.refl _ _ | with_reducible refine Below.drew ?_ | with_reducible refine below_drewN ?_ _ | with_reducible refine bal ?_ _ | with_reducible refine bset ?_ (by first | (simp; done) | (simp; omega)) _ | with_reducible refine bnext ?_ (by assumption) | with_reducible assumption))
    · have ID : Hid (idE node seq io = 2) := if_neg hid
      have G : Hid (settle ⟨g, n, r, l⟩ off node seq io = (zLed, 2)) := settle_id HK.out hid
      clear hid
      go_enter Try.func27, Try.ntmps27
      go_wp2_with fail
      refine (opened_ok ⟨g, n, r, l⟩ HW.out _ _ HS.out HK.out).mono ?_
      rintro e w1 ⟨A1, q1, rfl, hown, hb1⟩
      have HO := Lib.hid (own_mono hown (show w.heap.size + 3 ≤ _ by simp))
      clear hown
      have hB1 : Below w.heap.size w w1 := bnext hB0 hb1
      have k0 := (K0.out).below hb1
      have ki := (KI.out).below hb1
      have kr := (KR.out).below hb1
      obtain ⟨c0, c1, c2, c3⟩ := k0.c4
      obtain ⟨i0, i1, i2⟩ := ki.c3
      obtain ⟨d0, d1, d2, d3⟩ := kr.c4
      obtain ⟨f0, f1, f2, f3⟩ := kr.f4
      have hlt0 := k0.lt
      have hlt1 := ki.lt
      have hlt2 := kr.lt
      clear K0 KI KR
      have K0 := Lib.hid k0
      have KI := Lib.hid ki
      have KR := Lib.hid kr
      clear k0 ki kr
      have hlw : w.heap.size + 3 ≤ w1.heap.size := by omega
      have hnel : ¬ w.heap.size + 1 + 1 = w1.heap.size := by omega
      go_wp2_with fail
      refine (CheckID_any _ _ _ _).mono ?_
      rintro e w2 ⟨rfl, hb2⟩
      rw [ID.out]
      have hB2 : Below w.heap.size w w2 := bnext (bal hB1 _) hb2
      clear c0 c1 c2 c3 i0 i1 i2 d0 d1 d2 d3 f0 f1 f2 f3 hlt0 hlt1 hlt2
      have k0 := (K0.out.alloc (.cells #[.int .u64 g, .int .u64 n, .int .u64 r, .slice A1 l.length q1] 58)).below hb2
      have ki := (KI.out.alloc (.cells #[.int .u64 g, .int .u64 n, .int .u64 r, .slice A1 l.length q1] 58)).below hb2
      have kr := (KR.out.alloc (.cells #[.int .u64 g, .int .u64 n, .int .u64 r, .slice A1 l.length q1] 58)).below hb2
      have ho := own_below hb2 (HO.out.alloc (.cells #[.int .u64 g, .int .u64 n, .int .u64 r, .slice A1 l.length q1] 58))
      have kl := (Blk.new w1 58 #[.int .u64 g, .int .u64 n, .int .u64 r, .slice A1 l.length q1]).below hb2
      obtain ⟨l0, l1, l2, l3⟩ := kl.c4
      obtain ⟨m0, m1, m2, m3⟩ := kl.f4
      have hlt3 := kl.lt
      obtain ⟨c0, c1, c2, c3⟩ := k0.c4
      obtain ⟨i0, i1, i2⟩ := ki.c3
      obtain ⟨d0, d1, d2, d3⟩ := kr.c4
      obtain ⟨f0, f1, f2, f3⟩ := kr.f4
      have hlt0 := k0.lt
      have hlt1 := ki.lt
      have hlt2 := kr.lt
      clear K0 KI KR HO
      have K0 := Lib.hid k0
      have KI := Lib.hid ki
      have KR := Lib.hid kr
      clear k0 ki kr
      have HO := Lib.hid ho
      have KL := Lib.hid kl
      clear ho kl
      go_wp2_with fail
      refine bodyPost_ret (v := .tuple #[.agg #[.int .u64 0, .int .u64 0, .int .u64 0, .slice none 0 0], .int .i64 2]) (by simp [results, Try.results27, go_sem, d0, d1, d2, d3, hnel, hlt2]) rfl ⟨.slice none 0 0, ?_, ?_, ?_⟩
      · rw [G.out]; rfl
      · rw [G.out]; exact World.ownsRow_nil _ _ _ _
      · exact (by repeat (first | with_reducible exact Below.refl _ _ | with_reducible refine Below.drew ?_ | with_reducible refine below_drewN ?_ _ | with_reducible refine bal ?_ _ | with_reducible refine bset ?_ (by first | (simp; done) | (simp; omega)) _ | with_reducible refine bnext ?_ (by assumption) | with_reducible assumption))
  · have hne : ((chk ⟨g, n, r, l⟩).1 != 0) = true := by rw [bne_iff_ne]; exact hk
    have heq : ((chk ⟨g, n, r, l⟩).1 == 0) = false := by rw [beq_eq_false_iff_ne]; exact hk
    have HK := Lib.hid hk
    have G : Hid (settle ⟨g, n, r, l⟩ off node seq io = (zLed, (chk ⟨g, n, r, l⟩).1)) := settle_no hk
    clear hk
    go_enter Try.func27, Try.ntmps27
    go_wp2_with fail
    refine (opened_no ⟨g, n, r, l⟩ HW.out _ _ HS.out HK.out).mono ?_
    rintro e w1 ⟨A1, q1, rfl, hb1⟩
    clear HK
    have hB1 : Below w.heap.size w w1 := bnext hB0 hb1
    have k0 := (K0.out).below hb1
    have ki := (KI.out).below hb1
    have kr := (KR.out).below hb1
    obtain ⟨c0, c1, c2, c3⟩ := k0.c4
    obtain ⟨i0, i1, i2⟩ := ki.c3
    obtain ⟨d0, d1, d2, d3⟩ := kr.c4
    obtain ⟨f0, f1, f2, f3⟩ := kr.f4
    have hlt0 := k0.lt
    have hlt1 := ki.lt
    have hlt2 := kr.lt
    clear K0 KI KR
    have K0 := Lib.hid k0
    have KI := Lib.hid ki
    have KR := Lib.hid kr
    clear k0 ki kr
    have hnel : ¬ w.heap.size + 1 + 1 = w1.heap.size := by omega
    generalize (chk ⟨g, n, r, l⟩).1 = er at *
    go_wp2_with fail
    refine bodyPost_ret (v := .tuple #[.agg #[.int .u64 0, .int .u64 0, .int .u64 0, .slice none 0 0], .int .i64 er]) (by simp [results, Try.results27, go_sem, d0, d1, d2, d3, hnel, hlt2]) rfl ⟨.slice none 0 0, ?_, ?_, ?_⟩
    · rw [G.out]; rfl
    · rw [G.out]; exact World.ownsRow_nil _ _ _ _
    · exact (by repeat (first | with_reducible exact Below.refl _ _ | with_reducible refine Below.drew ?_ | with_reducible refine below_drewN ?_ _ | with_reducible refine bal ?_ _ | with_reducible refine bset ?_ (by first | (simp; done) | (simp; omega)) _ | with_reducible refine bnext ?_ (by assumption) | with_reducible assumption))
end Go.Proofs.Ytdfppaafoecgmaa
