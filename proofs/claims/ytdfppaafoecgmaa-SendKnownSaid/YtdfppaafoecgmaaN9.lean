/- Contract: the reference's settling. -/
import Derived.Test.YtdfppaafoecgmaaN8
namespace Go.Proofs.Ytdfppaafoecgmaa
open Go.RowKit
set_option linter.unusedVariables false
set_option linter.unusedSimpArgs false

set_option maxRecDepth 100000 in
set_option maxHeartbeats 8000000 in
theorem rSettle_any (s : Led) (hw : Wf s) (off node seq io : Int) (v : Value) (w : World) (hS : SlAt w 5 v s.sl.length (flat s.sl)) :
    Calls Try.prog 28 #[.agg #[.int .u64 s.g, .int .u64 s.n, .int .u64 s.r, v], .int .u64 off, .agg #[.int .i64 node, .int .u64 seq, .int .i64 io]] w (SetPost (settle s off node seq io) w) := by
  obtain ⟨g, n, r, l⟩ := s
  obtain ⟨A, c, rfl, hc1, hc2, _⟩ := id hS
  have hB0 : Below w.heap.size w (((w.alloc (.cells #[.int .u64 g, .int .u64 n, .int .u64 r, .slice A l.length c] 26)).alloc (.cells #[.int .i64 node, .int .u64 seq, .int .i64 io] 41)).alloc (.cells #[.int .u64 0, .int .u64 0, .int .u64 0, .slice none 0 0] 26)) := bal (bal (bal (Below.refl _ _) _) _) _
  have HS := Lib.hid (hS.below hB0)
  have HW := Lib.hid hw
  have K0 := Lib.hid (((Blk.new w 26 #[.int .u64 g, .int .u64 n, .int .u64 r, .slice A l.length c]).alloc (.cells #[.int .i64 node, .int .u64 seq, .int .i64 io] 41)).alloc (.cells #[.int .u64 0, .int .u64 0, .int .u64 0, .slice none 0 0] 26))
  have KI := Lib.hid ((Blk.new1 w (.cells #[.int .u64 g, .int .u64 n, .int .u64 r, .slice A l.length c] 26) 41 #[.int .i64 node, .int .u64 seq, .int .i64 io]).alloc (.cells #[.int .u64 0, .int .u64 0, .int .u64 0, .slice none 0 0] 26))
  have KR := Lib.hid (Blk.new2 w (.cells #[.int .u64 g, .int .u64 n, .int .u64 r, .slice A l.length c] 26) (.cells #[.int .i64 node, .int .u64 seq, .int .i64 io] 41) 26 #[.int .u64 0, .int .u64 0, .int .u64 0, .slice none 0 0])
  unfold maxLen at hc2
  clear hS hw
  dsimp only at *
  by_cases hk : okL ⟨g, n, r, l⟩
  · have HK := Lib.hid hk
    have hlen : l.length ≤ 100 := okL_len hk
    clear hk
    by_cases hid : IdOk node seq io
    · have HI := Lib.hid hid
      clear hid
      by_cases ha : anyHas node seq io l = true
      · obtain ⟨k, x, hf, hx, hl, hkl, hh, hG⟩ := find3_some (s := ⟨g, n, r, l⟩) HK.out HI.out ha
        have G3 := Lib.hid hG
        by_cases hoff : x.off = off
        · have G : Hid (settle ⟨g, n, r, l⟩ off node seq io = (⟨g, n, r, fil node seq io l⟩, 0)) := by
            show _ = _
            rw [settle_ok HK.out HI.out hf hl hoff]
            show ((⟨g, n, r, l.eraseIdx k⟩ : Led), (0 : Int)) = _
            have e : l.eraseIdx k = fil node seq io l := settle_fil HK.out hf
            rw [e]
          have t1 : (x.off != off) = false := by rw [hoff]; simp
          clear hf hx hl hkl hh hG ha hoff
          go_enter Try.func28, Try.ntmps28
          go_wp2_with fail
          refine (rFind_any ⟨g, n, r, l⟩ HW.out node seq io _ _ HS.out).mono ?_
          rintro e w1 ⟨rfl, hb1⟩
          rw [G3.out]
          dsimp only [zSl]
          have hB1 : Below w.heap.size w w1 := bnext hB0 hb1
          have k0 := (K0.out).below hb1
          have ki := (KI.out).below hb1
          have kr := (KR.out).below hb1
          have hs := (HS.out).below hb1
          obtain ⟨c0, c1, c2, c3⟩ := k0.c4
          obtain ⟨i0, i1, i2⟩ := ki.c3
          obtain ⟨d0, d1, d2, d3⟩ := kr.c4
          obtain ⟨f0, f1, f2, f3⟩ := kr.f4
          have hlt0 := k0.lt
          have hlt1 := ki.lt
          have hlt2 := kr.lt
          clear K0 KI KR HS
          have K0 := Lib.hid k0
          have KI := Lib.hid ki
          have KR := Lib.hid kr
          have HS := Lib.hid hs
          clear k0 ki kr hs
          go_wp2_with fail
          refine (rown_any g n r l _ _ (HS.out.alloc _) (by omega)).mono ?_
          rintro e w2 ⟨A2, c2', rfl, _, hb2⟩
          have hB2 : Below w.heap.size w w2 := bnext (bal hB1 _) hb2
          clear c0 c1 c2 c3 i0 i1 i2 d0 d1 d2 d3 f0 f1 f2 f3 hlt0 hlt1 hlt2
          have k0 := (K0.out.alloc (.cells #[.int .u64 x.off, .int .u64 x.size, .int .i64 x.node, .int .u64 x.seq, .int .i64 x.io] 44)).below hb2
          have ki := (KI.out.alloc (.cells #[.int .u64 x.off, .int .u64 x.size, .int .i64 x.node, .int .u64 x.seq, .int .i64 x.io] 44)).below hb2
          have kr := (KR.out.alloc (.cells #[.int .u64 x.off, .int .u64 x.size, .int .i64 x.node, .int .u64 x.seq, .int .i64 x.io] 44)).below hb2
          have hs := (HS.out.alloc _).below hb2
          obtain ⟨c0, c1, c2, c3⟩ := k0.c4
          obtain ⟨i0, i1, i2⟩ := ki.c3
          obtain ⟨d0, d1, d2, d3⟩ := kr.c4
          obtain ⟨f0, f1, f2, f3⟩ := kr.f4
          have hlt0 := k0.lt
          have hlt1 := ki.lt
          have hlt2 := kr.lt
          clear K0 KI KR HS
          have K0 := Lib.hid k0
          have KI := Lib.hid ki
          have KR := Lib.hid kr
          have HS := Lib.hid hs
          clear k0 ki kr hs
          have hz2 : w.heap.size + 3 ≤ w2.heap.size := by omega
          have hneo : ¬ w.heap.size + 1 + 1 = w2.heap.size := by omega
          clear t1 hb1 hb2
          go_wp2_with fail
          go_loopw [12] (fun a wr => ∃ (k : Nat) (Ar : Option Addr) (cr : Nat), k ≤ l.length ∧ a = .int .i64 k ∧ Blk wr w2.heap.size 26 #[.int .u64 g, .int .u64 n, .int .u64 r, .slice Ar (fil node seq io (l.take k)).length cr] ∧ wr.ownsRow (w2.heap.size + 1) 44 5 (.slice Ar (fil node seq io (l.take k)).length cr) (fil node seq io (l.take k)).length (flat (fil node seq io (l.take k))) ∧ Below w2.heap.size w2 wr) (fun a _ => l.length - (intOf a).toNat)
          case atStart => exact ⟨0, none, 0, by omega, rfl, Blk.new _ _ _, World.ownsRow_nil _ _ _ _, bal (Below.refl _ _) _⟩
          case round =>
            clear c0 c1 c2 c3 i0 i1 i2 d0 d1 d2 d3 f0 f1 f2 f3 hlt0 hlt1 hlt2
            obtain ⟨k, Ar, cr, hk, rfl, ko, ho, hB⟩ := hrel
            have k0 := K0.out.below hB
            have ki := KI.out.below hB
            have kr := KR.out.below hB
            have hs := HS.out.below hB
            have HO := Lib.hid ho
            have KO := Lib.hid ko
            have hLk := fil_len node seq io l k
            obtain ⟨c0, c1, c2, c3⟩ := k0.c4
            obtain ⟨i0, i1, i2⟩ := ki.c3
            obtain ⟨d0, d1, d2, d3⟩ := kr.c4
            obtain ⟨f0, f1, f2, f3⟩ := kr.f4
            have hlt0 := k0.lt
            have hlt1 := ki.lt
            have hlt2 := kr.lt
            obtain ⟨l0, l1, l2, l3⟩ := ko.c4
            have hlt3 := ko.lt
            have hsz : w2.heap.size ≤ wr.heap.size := hB.size
            clear ko ho k0 ki kr
            by_cases hkl : k < l.length
            · obtain ⟨y, hy⟩ : ∃ y, l[k]? = some y := ⟨_, List.getElem?_eq_getElem hkl⟩
              obtain ⟨_, _, e1, _, _, hR1⟩ := hs
              cases e1
              obtain ⟨b, o, rfl, hbl, y0, y1, y2, y3, y4⟩ := slot_cells hR1 rfl hy
              have FT := Lib.hid (fil_take node seq io l hy)
              have HR1 := Lib.hid hR1
              have HY := Lib.hid hy
              have hkl' : (k : Int) < l.length := by omega
              have hk0 : (0 : Int) ≤ (k : Int) := by omega
              clear hR1 hy
              by_cases hh : y.has node seq io = true
              · have E : Hid (fil node seq io (l.take (k + 1)) = fil node seq io (l.take k)) := hidI' (by rw [FT.out, if_pos hh])
                have he : ∀ w, (binOp .neq 41 (.agg #[.int .i64 y.node, .int .u64 y.seq, .int .i64 y.io]) (.agg #[.int .i64 node, .int .u64 seq, .int .i64 io])).run Try.prog w = .ok (.bool false) w := fun w => by rw [run_neq_id]; unfold Sl.has at hh; rw [hh]; rfl
                clear hh
                go_wp2_with fail
                go_quiet (fail)
                go_wp2_with fail
                go_roundw
                case rel => exact ⟨k + 1, Ar, cr, by omega, by go_num, by rw [E.out]; exact KO.out, by rw [E.out]; exact HO.out, below_drewN hB _⟩
                case measure => simp [intOf]; omega
              · have hh' : y.has node seq io = false := by simpa using hh
                have E : Hid (fil node seq io (l.take (k + 1)) = fil node seq io (l.take k) ++ [y]) := hidI' (by rw [FT.out, if_neg hh])
                have he : ∀ w, (binOp .neq 41 (.agg #[.int .i64 y.node, .int .u64 y.seq, .int .i64 y.io]) (.agg #[.int .i64 node, .int .u64 seq, .int .i64 io])).run Try.prog w = .ok (.bool true) w := fun w => by rw [run_neq_id]; unfold Sl.has at hh'; rw [hh']; rfl
                clear hh hh' FT
                generalize fil node seq io (l.take k) = L at *
                go_wp2_with fail
                go_quiet (fail)
                go_upto_region 12 with fail
                have koq : Blk (wr.drewN nq) w2.heap.size 26 #[.int .u64 g, .int .u64 n, .int .u64 r, .slice Ar L.length cr] := KO.out
                have hoq : (wr.drewN nq).ownsRow (w2.heap.size + 1) 44 5 (.slice Ar L.length cr) L.length (flat L) := HO.out
                have hBq := below_drewN hB nq
                have hz3 : (wr.drewN nq).heap.size = wr.heap.size := rfl
                have hRq : Reads (wr.drewN nq) 5 (some ⟨b, o, none⟩) l.length (flat l) := HR1.out
                clear c0 c1 c2 c3 i0 i1 i2 d0 d1 d2 d3 f0 f1 f2 f3 hlt0 hlt1 hlt2 l0 l1 l2 l3 y0 y1 y2 y3 y4 KO HO HR1 hlt3 he hB hbl hsz
                generalize wr.drewN nq = wq at *
                clear hz3
                have k0 := K0.out.below hBq
                have ki := KI.out.below hBq
                have kr := KR.out.below hBq
                obtain ⟨c0, c1, c2, c3⟩ := k0.c4
                obtain ⟨i0, i1, i2⟩ := ki.c3
                obtain ⟨d0, d1, d2, d3⟩ := kr.c4
                obtain ⟨f0, f1, f2, f3⟩ := kr.f4
                have hlt0 := k0.lt
                have hlt1 := ki.lt
                have hlt2 := kr.lt
                obtain ⟨l0, l1, l2, l3⟩ := koq.c4
                obtain ⟨m0, m1, m2, m3⟩ := koq.f4
                have hlt3 := koq.lt
                have hsz : w2.heap.size ≤ wq.heap.size := hBq.size
                obtain ⟨_, _, e1, hbl, y0, y1, y2, y3, y4⟩ := slot_cells hRq rfl HY.out
                cases e1
                have HOA := Lib.hid (hoq.alloc (.cells #[.int .u64 y.off, .int .u64 y.size, .int .i64 y.node, .int .u64 y.seq, .int .i64 y.io] 44))
                have KOA := Lib.hid (koq.alloc (.cells #[.int .u64 y.off, .int .u64 y.size, .int .i64 y.node, .int .u64 y.seq, .int .i64 y.io] 44))
                have hBA : Below w2.heap.size w2 (wq.alloc (.cells #[.int .u64 y.off, .int .u64 y.size, .int .i64 y.node, .int .u64 y.seq, .int .i64 y.io] 44)) := bal hBq _
                have NW : Hid (∀ j u, [Value.int .u64 y.off, .int .u64 y.size, .int .i64 y.node, .int .u64 y.seq, .int .i64 y.io][j]? = some u → (wq.alloc (.cells #[.int .u64 y.off, .int .u64 y.size, .int .i64 y.node, .int .u64 y.seq, .int .i64 y.io] 44)).cell? ((⟨wq.heap.size, 0, none⟩ : Addr).add j) = some u) := hidI' (fun j u hj => by rw [← hj]; exact newadd _ _ _ _)
                obtain ⟨ii, hi, hq0, hq1, hq2⟩ := info_parts infoSlot
                clear koq hoq hRq k0 ki kr
                go_region_law (refine step_append_own (by rfl) _ _ 24 (by rfl) (w2.heap.size + 1) 44 ii zslot 5 40 Try.underlying24 hi hq0 hq1 hq2 rfl (by decide) (.slice Ar L.length cr) L.length (flat L) (by rfl) HOA.out.drew ⟨wq.heap.size, 0, none⟩ 1 1 [.int .u64 y.off, .int .u64 y.size, .int .i64 y.node, .int .u64 y.seq, .int .i64 y.io] (by rfl) rfl NW.out (by intro x hx; simp at hx; rcases hx with rfl | rfl | rfl | rfl | rfl <;> rfl) (by unfold maxLen; omega) (by omega) (by simp; omega) ?_; intro v5 w5 hown5 hgrow5 _; obtain ⟨g5, cap5, rfl⟩ := ownsRow_succ hown5; have ko5 := KOA.out.drew.grown hgrow5 (blk_ne_own HOA.out KOA.out (by decide)); obtain ⟨p0, p1, p2, p3⟩ := ko5.c4; obtain ⟨s0, s1, s2, s3⟩ := ko5.f4; have hB5 : Below w2.heap.size w2 w5 := (bdr hBA).grown hgrow5 (by simp; omega) (fun k e => by have := (HOA.out.lt k e).1; omega); have HO5 := Lib.hid hown5; have KO5 := Lib.hid ko5; clear hown5 hgrow5 ko5)
                all_goals
                  go_wp2_with fail
                  go_roundw
                  case rel =>
                    refine ⟨k + 1, some ⟨g5, 0, none⟩, cap5, by omega, by go_num, ?_, ?_, bset hB5 (by simp) _⟩
                    · rw [E.out, List.length_append, List.length_singleton]
                      simpa using KO5.out.set 3 (.slice (some ⟨g5, 0, none⟩) (L.length + 1) cap5)
                    · rw [E.out, List.length_append, List.length_singleton, flat_snoc]
                      exact ho_far (a := ⟨w2.heap.size, 3, none⟩) HO5.out KO5.out (by decide) _
                  case measure => simp [intOf]; omega
            · obtain rfl : k = l.length := by omega
              have E : Hid (fil node seq io (l.take l.length) = fil node seq io l) := by show _ = _; rw [List.take_length]
              have KOE := KO.out
              have HOE := HO.out
              rw [E.out] at KOE HOE l3 hLk
              have HO' := Lib.hid HOE
              generalize fil node seq io l = L at *
              clear KOE HOE KO HO hs
              go_wp2_with fail
              refine bodyPost_ret (v := .tuple #[.agg #[.int .u64 g, .int .u64 n, .int .u64 r, .slice Ar L.length cr], .int .i64 0]) (by simp [results, Try.results28, go_sem, d0, d1, d2, d3, l0, l1, l2, l3, hneo]) rfl ⟨.slice Ar L.length cr, ?_, ?_, ?_⟩
              · rw [G.out]
              · rw [G.out]
                refine own_mono (base := w2.heap.size + 1) ?_ (by omega)
                have q := HO'.out
                repeat (first | with_reducible exact q | with_reducible refine World.ownsRow.drew ?_ | with_reducible refine World.ownsRow.alloc ?_ _ | with_reducible refine ownsRow_setCell_below ?_ (by simp; omega) _)
              · have hBr : Below w.heap.size w wr := bnext hB2 hB
                exact (by repeat (first | with_reducible exact Below.refl _ _ | with_reducible refine Below.drew ?_ | with_reducible refine below_drewN ?_ _ | with_reducible refine bal ?_ _ | with_reducible refine bset ?_ (by first | (simp; done) | (simp; omega)) _ | with_reducible refine bnext ?_ (by assumption) | with_reducible assumption))
        · have G : Hid (settle ⟨g, n, r, l⟩ off node seq io = (zLed, 8)) := settle_off HK.out HI.out hf hl hoff
          have t1 : (x.off != off) = true := by rw [bne_iff_ne]; exact hoff
          clear hf hx hl hkl hh hG ha hoff
          go_enter Try.func28, Try.ntmps28
          go_wp2_with fail
          refine (rFind_any ⟨g, n, r, l⟩ HW.out node seq io _ _ HS.out).mono ?_
          rintro e w1 ⟨rfl, hb1⟩
          rw [G3.out]
          dsimp only [zSl]
          have hB1 : Below w.heap.size w w1 := bnext hB0 hb1
          have k0 := (K0.out).below hb1
          have ki := (KI.out).below hb1
          have kr := (KR.out).below hb1
          have hs := (HS.out).below hb1
          obtain ⟨c0, c1, c2, c3⟩ := k0.c4
          obtain ⟨i0, i1, i2⟩ := ki.c3
          obtain ⟨d0, d1, d2, d3⟩ := kr.c4
          obtain ⟨f0, f1, f2, f3⟩ := kr.f4
          have hlt0 := k0.lt
          have hlt1 := ki.lt
          have hlt2 := kr.lt
          clear K0 KI KR HS
          have K0 := Lib.hid k0
          have KI := Lib.hid ki
          have KR := Lib.hid kr
          have HS := Lib.hid hs
          clear k0 ki kr hs
          go_wp2_with fail
          refine bodyPost_ret (v := .tuple #[.agg #[.int .u64 0, .int .u64 0, .int .u64 0, .slice none 0 0], .int .i64 8]) (by simp [results, Try.results28, go_sem, d0, d1, d2, d3, hlt2]) rfl ⟨.slice none 0 0, ?_, ?_, ?_⟩
          · rw [G.out]; rfl
          · rw [G.out]; exact World.ownsRow_nil _ _ _ _
          · exact (by repeat (first | with_reducible exact Below.refl _ _ | with_reducible refine Below.drew ?_ | with_reducible refine below_drewN ?_ _ | with_reducible refine bal ?_ _ | with_reducible refine bset ?_ (by first | (simp; done) | (simp; omega)) _ | with_reducible refine bnext ?_ (by assumption) | with_reducible assumption))
      · have G3 : Hid (find3 ⟨g, n, r, l⟩ node seq io = (zSl, false, 0)) := find3_none HK.out HI.out ha
        have G : Hid (settle ⟨g, n, r, l⟩ off node seq io = (zLed, 8)) := settle_none HK.out HI.out ha
        clear ha
        go_enter Try.func28, Try.ntmps28
        go_wp2_with fail
        refine (rFind_any ⟨g, n, r, l⟩ HW.out node seq io _ _ HS.out).mono ?_
        rintro e w1 ⟨rfl, hb1⟩
        rw [G3.out]
        dsimp only [zSl]
        have hB1 : Below w.heap.size w w1 := bnext hB0 hb1
        have k0 := (K0.out).below hb1
        have ki := (KI.out).below hb1
        have kr := (KR.out).below hb1
        have hs := (HS.out).below hb1
        obtain ⟨c0, c1, c2, c3⟩ := k0.c4
        obtain ⟨i0, i1, i2⟩ := ki.c3
        obtain ⟨d0, d1, d2, d3⟩ := kr.c4
        obtain ⟨f0, f1, f2, f3⟩ := kr.f4
        have hlt0 := k0.lt
        have hlt1 := ki.lt
        have hlt2 := kr.lt
        clear K0 KI KR HS
        have K0 := Lib.hid k0
        have KI := Lib.hid ki
        have KR := Lib.hid kr
        have HS := Lib.hid hs
        clear k0 ki kr hs
        go_wp2_with fail
        refine bodyPost_ret (v := .tuple #[.agg #[.int .u64 0, .int .u64 0, .int .u64 0, .slice none 0 0], .int .i64 8]) (by simp [results, Try.results28, go_sem, d0, d1, d2, d3, hlt2]) rfl ⟨.slice none 0 0, ?_, ?_, ?_⟩
        · rw [G.out]; rfl
        · rw [G.out]; exact World.ownsRow_nil _ _ _ _
        · exact (by repeat (first | with_reducible exact Below.refl _ _ | with_reducible refine Below.drew ?_ | with_reducible refine below_drewN ?_ _ | with_reducible refine bal ?_ _ | with_reducible refine bset ?_ (by first | (simp; done) | (simp; omega)) _ | with_reducible refine bnext ?_ (by assumption) | with_reducible assumption))
    · have G3 : Hid (find3 ⟨g, n, r, l⟩ node seq io = (zSl, false, 2)) := find3_id HK.out hid
      have G : Hid (settle ⟨g, n, r, l⟩ off node seq io = (zLed, 2)) := settle_id HK.out hid
      clear hid
      go_enter Try.func28, Try.ntmps28
      go_wp2_with fail
      refine (rFind_any ⟨g, n, r, l⟩ HW.out node seq io _ _ HS.out).mono ?_
      rintro e w1 ⟨rfl, hb1⟩
      rw [G3.out]
      dsimp only [zSl]
      have hB1 : Below w.heap.size w w1 := bnext hB0 hb1
      have k0 := (K0.out).below hb1
      have ki := (KI.out).below hb1
      have kr := (KR.out).below hb1
      have hs := (HS.out).below hb1
      obtain ⟨c0, c1, c2, c3⟩ := k0.c4
      obtain ⟨i0, i1, i2⟩ := ki.c3
      obtain ⟨d0, d1, d2, d3⟩ := kr.c4
      obtain ⟨f0, f1, f2, f3⟩ := kr.f4
      have hlt0 := k0.lt
      have hlt1 := ki.lt
      have hlt2 := kr.lt
      clear K0 KI KR HS
      have K0 := Lib.hid k0
      have KI := Lib.hid ki
      have KR := Lib.hid kr
      have HS := Lib.hid hs
      clear k0 ki kr hs
      go_wp2_with fail
      refine bodyPost_ret (v := .tuple #[.agg #[.int .u64 0, .int .u64 0, .int .u64 0, .slice none 0 0], .int .i64 2]) (by simp [results, Try.results28, go_sem, d0, d1, d2, d3, hlt2]) rfl ⟨.slice none 0 0, ?_, ?_, ?_⟩
      · rw [G.out]; rfl
      · rw [G.out]; exact World.ownsRow_nil _ _ _ _
      · exact (by repeat (first | with_reducible exact Below.refl _ _ | with_reducible refine Below.drew ?_ | with_reducible refine below_drewN ?_ _ | with_reducible refine bal ?_ _ | with_reducible refine bset ?_ (by first | (simp; done) | (simp; omega)) _ | with_reducible refine bnext ?_ (by assumption) | with_reducible assumption))
  · have hne : ((chk ⟨g, n, r, l⟩).1 != 0) = true := by rw [bne_iff_ne]; exact hk
    have G3 : Hid (find3 ⟨g, n, r, l⟩ node seq io = (zSl, false, (chk ⟨g, n, r, l⟩).1)) := find3_no hk
    have G : Hid (settle ⟨g, n, r, l⟩ off node seq io = (zLed, (chk ⟨g, n, r, l⟩).1)) := settle_no hk
    clear hk
    generalize (chk ⟨g, n, r, l⟩).1 = er at *
    go_enter Try.func28, Try.ntmps28
    go_wp2_with fail
    refine (rFind_any ⟨g, n, r, l⟩ HW.out node seq io _ _ HS.out).mono ?_
    rintro e w1 ⟨rfl, hb1⟩
    rw [G3.out]
    dsimp only [zSl]
    have hB1 : Below w.heap.size w w1 := bnext hB0 hb1
    have k0 := (K0.out).below hb1
    have ki := (KI.out).below hb1
    have kr := (KR.out).below hb1
    have hs := (HS.out).below hb1
    obtain ⟨c0, c1, c2, c3⟩ := k0.c4
    obtain ⟨i0, i1, i2⟩ := ki.c3
    obtain ⟨d0, d1, d2, d3⟩ := kr.c4
    obtain ⟨f0, f1, f2, f3⟩ := kr.f4
    have hlt0 := k0.lt
    have hlt1 := ki.lt
    have hlt2 := kr.lt
    clear K0 KI KR HS
    have K0 := Lib.hid k0
    have KI := Lib.hid ki
    have KR := Lib.hid kr
    have HS := Lib.hid hs
    clear k0 ki kr hs
    go_wp2_with fail
    refine bodyPost_ret (v := .tuple #[.agg #[.int .u64 0, .int .u64 0, .int .u64 0, .slice none 0 0], .int .i64 er]) (by simp [results, Try.results28, go_sem, d0, d1, d2, d3, hlt2]) rfl ⟨.slice none 0 0, ?_, ?_, ?_⟩
    · rw [G.out]; rfl
    · rw [G.out]; exact World.ownsRow_nil _ _ _ _
    · exact (by repeat (first | with_reducible exact Below.refl _ _ | with_reducible refine Below.drew ?_ | with_reducible refine below_drewN ?_ _ | with_reducible refine bal ?_ _ | with_reducible refine bset ?_ (by first | (simp; done) | (simp; omega)) _ | with_reducible refine bnext ?_ (by assumption) | with_reducible assumption))
end Go.Proofs.Ytdfppaafoecgmaa
