/- Contracts: the reference's search, and the program's. -/
import Derived.Test.YtdfppaafoecgmaaN4
namespace Go.Proofs.Ytdfppaafoecgmaa
open Go.RowKit
set_option linter.unusedVariables false
set_option linter.unusedSimpArgs false

def zSl : Sl := ⟨0, 0, 0, 0, 0⟩
/-- the slot, whether there is one, the error -/
def find3 (s : Led) (node seq io : Int) : Sl × Bool × Int :=
  if ¬ okL s then (zSl, false, (chk s).1) else if ¬ IdOk node seq io then (zSl, false, 2)
  else match s.sl[fnd node seq io s.sl]? with
    | none => (zSl, false, 0)
    | some x => (x, true, 0)
def FindPost (res : Sl × Bool × Int) (w : World) (e : Ending) (w' : World) : Prop :=
  e = .returned (.tuple #[.agg #[.int .u64 res.1.off, .int .u64 res.1.size, .int .i64 res.1.node, .int .u64 res.1.seq, .int .i64 res.1.io], .bool res.2.1, .int .i64 res.2.2]) ∧ Below w.heap.size w w'
section
variable {s : Led} {node seq io : Int}
theorem find3_no (h : ¬ okL s) : find3 s node seq io = (zSl, false, (chk s).1) := if_pos h
theorem find3_id (h : okL s) (hi : ¬ IdOk node seq io) : find3 s node seq io = (zSl, false, 2) := by unfold find3; rw [if_neg (fun f => f h), if_pos hi]
theorem find3_none (h : okL s) (hi : IdOk node seq io) (ha : ¬ anyHas node seq io s.sl = true) : find3 s node seq io = (zSl, false, 0) := by
  unfold find3
  rw [if_neg (fun f => f h), if_neg (fun f => f hi)]
  have hn : s.sl[fnd node seq io s.sl]? = none := by
    rw [List.getElem?_eq_none_iff]
    have := fnd_lt node seq io s.sl
    by_cases hl : fnd node seq io s.sl < s.sl.length
    · exact absurd (this.1 hl) ha
    · omega
  rw [hn]
theorem find3_some (h : okL s) (hi : IdOk node seq io) (ha : anyHas node seq io s.sl = true) : ∃ (k : Nat) (x : Sl), fnd node seq io s.sl = k ∧ idx node seq io s.sl = k ∧ s.sl[k]? = some x ∧ k < s.sl.length ∧ x.has node seq io = true ∧ find3 s node seq io = (x, true, 0) := by
  have hl := (fnd_lt node seq io s.sl).2 ha
  have hx : s.sl[fnd node seq io s.sl]? = some s.sl[fnd node seq io s.sl] := List.getElem?_eq_getElem hl
  refine ⟨_, _, rfl, if_pos hl, hx, hl, fnd_at _ _ _ _ hx, ?_⟩
  unfold find3
  rw [if_neg (fun f => f h), if_neg (fun f => f hi), hx]
end

theorem opened_no' (s : Led) (hw : Wf s) (v : Value) (w : World) (hS : SlAt w 5 v s.sl.length (flat s.sl)) (hk : ¬ okL s) :
    Calls Try.prog 35 #[.agg #[.int .u64 s.g, .int .u64 s.n, .int .u64 s.r, v]] w (fun e w' => ∃ A c, e = .returned (.tuple #[.agg #[.int .u64 0, .int .u64 0, .int .u64 0, .slice A 0 c], .int .i64 (chk s).1]) ∧ OwnL w w' (.slice A 0 c) [] ∧ Below w.heap.size w w') :=
  (opened_any s hw v w hS).mono fun e w' ⟨v', he, ho, hb⟩ => by
    rw [show opn s = ⟨0, 0, 0, []⟩ from if_neg hk] at he ho
    obtain ⟨A, c, rfl, _⟩ := id (SlAt.own ho)
    exact ⟨A, c, he, ho, hb⟩

set_option maxRecDepth 100000 in
set_option maxHeartbeats 4000000 in
theorem rFind_any (s : Led) (hw : Wf s) (node seq io : Int) (v : Value) (w : World) (hS : SlAt w 5 v s.sl.length (flat s.sl)) :
    Calls Try.prog 26 #[.agg #[.int .u64 s.g, .int .u64 s.n, .int .u64 s.r, v], .agg #[.int .i64 node, .int .u64 seq, .int .i64 io]] w (FindPost (find3 s node seq io) w) := by
  obtain ⟨g, n, r, l⟩ := s
  obtain ⟨A, c, rfl, hc1, hc2, _⟩ := id hS
  have hB0 : Below w.heap.size w (((w.alloc (.cells #[.int .u64 g, .int .u64 n, .int .u64 r, .slice A l.length c] 26)).alloc (.cells #[.int .i64 node, .int .u64 seq, .int .i64 io] 41)).alloc (.cells #[.int .u64 0, .int .u64 0, .int .i64 0, .int .u64 0, .int .i64 0] 44)) := bal (bal (bal (Below.refl _ _) _) _) _
  have HS := Lib.hid (hS.below hB0)
  have HW := Lib.hid hw
  have K0 := Lib.hid (((Blk.new w 26 #[.int .u64 g, .int .u64 n, .int .u64 r, .slice A l.length c]).alloc (.cells #[.int .i64 node, .int .u64 seq, .int .i64 io] 41)).alloc (.cells #[.int .u64 0, .int .u64 0, .int .i64 0, .int .u64 0, .int .i64 0] 44))
  have KI := Lib.hid ((Blk.new1 w (.cells #[.int .u64 g, .int .u64 n, .int .u64 r, .slice A l.length c] 26) 41 #[.int .i64 node, .int .u64 seq, .int .i64 io]).alloc (.cells #[.int .u64 0, .int .u64 0, .int .i64 0, .int .u64 0, .int .i64 0] 44))
  have KR := Lib.hid (Blk.new2 w (.cells #[.int .u64 g, .int .u64 n, .int .u64 r, .slice A l.length c] 26) (.cells #[.int .i64 node, .int .u64 seq, .int .i64 io] 41) 44 #[.int .u64 0, .int .u64 0, .int .i64 0, .int .u64 0, .int .i64 0])
  unfold maxLen at hc2
  clear hS hw
  dsimp only at *
  by_cases hk : okL ⟨g, n, r, l⟩
  · have HK := Lib.hid hk
    have K : Hid ((chk ⟨g, n, r, l⟩).1 = 0) := hk
    clear hk
    by_cases hid : IdOk node seq io
    · have HI := Lib.hid hid
      have ID : Hid (idE node seq io = 0) := if_pos hid
      clear hid
      go_enter Try.func26, Try.ntmps26
      go_wp2_with fail
      refine (rCheck_any ⟨g, n, r, l⟩ HW.out _ _ HS.out).mono ?_
      rintro e w1 ⟨rfl, hb1⟩
      rw [K.out]
      have hB1 : Below w.heap.size w w1 := bnext hB0 hb1
      have k0 := K0.out.below hb1
      have ki := KI.out.below hb1
      have kr := KR.out.below hb1
      have hs := HS.out.below hb1
      obtain ⟨c0, c1, c2, c3⟩ := k0.c4
      obtain ⟨i0, i1, i2⟩ := ki.c3
      obtain ⟨d0, d1, d2, d3, d4⟩ := kr.c5
      obtain ⟨f0, f1, f2, f3, f4⟩ := kr.f5
      have hlt0 := k0.lt
      have hlt1 := ki.lt
      have hlt2 := kr.lt
      clear K0 KI KR HS
      have K0 := Lib.hid k0
      have KI := Lib.hid ki
      have KR := Lib.hid kr
      have HS := Lib.hid hs
      clear k0 ki kr hs
      go_wp2_with fail
      refine (rCheckID_any _ _ _ _).mono ?_
      rintro e w2 ⟨rfl, hb2⟩
      rw [ID.out]
      have hB2 : Below w.heap.size w w2 := bnext hB1 hb2
      clear c0 c1 c2 c3 i0 i1 i2 d0 d1 d2 d3 d4 f0 f1 f2 f3 f4 hlt0 hlt1 hlt2
      have k0 := K0.out.below hb2
      have ki := KI.out.below hb2
      have kr := KR.out.below hb2
      have hs := HS.out.below hb2
      obtain ⟨c0, c1, c2, c3⟩ := k0.c4
      obtain ⟨i0, i1, i2⟩ := ki.c3
      obtain ⟨d0, d1, d2, d3, d4⟩ := kr.c5
      obtain ⟨f0, f1, f2, f3, f4⟩ := kr.f5
      have hlt0 := k0.lt
      have hlt1 := ki.lt
      have hlt2 := kr.lt
      clear K0 KI KR HS
      have K0 := Lib.hid k0
      have KI := Lib.hid ki
      have KR := Lib.hid kr
      have HS := Lib.hid hs
      clear k0 ki kr hs
      by_cases ha : anyHas node seq io l = true
      · obtain ⟨k, x, hf, hx, hl, hkl, hh, hG⟩ := find3_some (s := ⟨g, n, r, l⟩) HK.out HI.out ha
        have G := Lib.hid hG
        have HX : Hid (idx node seq io l = k) := hx
        have HL : Hid (l[k]? = some x) := hl
        have hkl' : (k : Int) < l.length := by have : k < l.length := hkl; omega
        have hk0 : (0 : Int) ≤ (k : Int) := by omega
        clear hf hx hl hkl hh hG ha
        go_wp2_with fail
        refine (rfind_any g n r node seq io l _ _ HS.out).mono ?_
        rintro e w3 ⟨rfl, hb3⟩
        rw [HX.out]
        have hB3 : Below w.heap.size w w3 := bnext hB2 hb3
        clear c0 c1 c2 c3 i0 i1 i2 d0 d1 d2 d3 d4 f0 f1 f2 f3 f4 hlt0 hlt1 hlt2
        have k0 := K0.out.below hb3
        have ki := KI.out.below hb3
        have kr := KR.out.below hb3
        have hs := HS.out.below hb3
        obtain ⟨c0, c1, c2, c3⟩ := k0.c4
        obtain ⟨i0, i1, i2⟩ := ki.c3
        obtain ⟨d0, d1, d2, d3, d4⟩ := kr.c5
        obtain ⟨f0, f1, f2, f3, f4⟩ := kr.f5
        have hlt0 := k0.lt
        have hlt1 := ki.lt
        have hlt2 := kr.lt
        clear K0 KI KR HS
        have K0 := Lib.hid k0
        have KI := Lib.hid ki
        have KR := Lib.hid kr
        have HS := Lib.hid hs
        clear k0 ki kr hs
        obtain ⟨_, _, e1, _, _, hR1⟩ := HS.out
        cases e1
        obtain ⟨b, o, rfl, hbl, y0, y1, y2, y3, y4⟩ := slot_cells hR1 rfl HL.out
        clear hR1
        go_wp2_with fail
        refine bodyPost_ret (v := .tuple #[.agg #[.int .u64 x.off, .int .u64 x.size, .int .i64 x.node, .int .u64 x.seq, .int .i64 x.io], .bool true, .int .i64 0]) (by simp [results, Try.results26, go_sem, d0, d1, d2, d3, d4]) rfl ⟨?_, ?_⟩
        · rw [G.out]
        · exact (by repeat (first | with_reducible exact Below.refl _ _ | with_reducible refine Below.drew ?_ | with_reducible refine below_drewN ?_ _ | with_reducible refine bal ?_ _ | with_reducible refine bset ?_ (by first | (simp; done) | (simp; omega)) _ | with_reducible refine bnext ?_ (by assumption) | with_reducible assumption))
      · have hid' : idx node seq io l < 0 := idx_neg (by simpa using ha)
        have G : Hid (find3 ⟨g, n, r, l⟩ node seq io = (zSl, false, 0)) := find3_none HK.out HI.out ha
        clear ha
        go_wp2_with fail
        refine (rfind_any g n r node seq io l _ _ HS.out).mono ?_
        rintro e w3 ⟨rfl, hb3⟩
        have hB3 : Below w.heap.size w w3 := bnext hB2 hb3
        clear c0 c1 c2 c3 i0 i1 i2 d0 d1 d2 d3 d4 f0 f1 f2 f3 f4 hlt0 hlt1 hlt2
        have k0 := K0.out.below hb3
        have ki := KI.out.below hb3
        have kr := KR.out.below hb3
        have hs := HS.out.below hb3
        obtain ⟨c0, c1, c2, c3⟩ := k0.c4
        obtain ⟨i0, i1, i2⟩ := ki.c3
        obtain ⟨d0, d1, d2, d3, d4⟩ := kr.c5
        obtain ⟨f0, f1, f2, f3, f4⟩ := kr.f5
        have hlt0 := k0.lt
        have hlt1 := ki.lt
        have hlt2 := kr.lt
        clear K0 KI KR HS
        have K0 := Lib.hid k0
        have KI := Lib.hid ki
        have KR := Lib.hid kr
        have HS := Lib.hid hs
        clear k0 ki kr hs
        go_wp2_with fail
        refine bodyPost_ret (v := .tuple #[.agg #[.int .u64 0, .int .u64 0, .int .i64 0, .int .u64 0, .int .i64 0], .bool false, .int .i64 0]) (by simp [results, Try.results26, go_sem, d0, d1, d2, d3, d4]) rfl ⟨?_, ?_⟩
        · rw [G.out]; rfl
        · exact (by repeat (first | with_reducible exact Below.refl _ _ | with_reducible refine Below.drew ?_ | with_reducible refine below_drewN ?_ _ | with_reducible refine bal ?_ _ | with_reducible refine bset ?_ (by first | (simp; done) | (simp; omega)) _ | with_reducible refine bnext ?_ (by assumption) | with_reducible assumption))
    · have HI := Lib.hid hid
      have ID : Hid (idE node seq io = 2) := if_neg hid
      have G : Hid (find3 ⟨g, n, r, l⟩ node seq io = (zSl, false, 2)) := find3_id HK.out hid
      clear hid
      go_enter Try.func26, Try.ntmps26
      go_wp2_with fail
      refine (rCheck_any ⟨g, n, r, l⟩ HW.out _ _ HS.out).mono ?_
      rintro e w1 ⟨rfl, hb1⟩
      rw [K.out]
      have hB1 : Below w.heap.size w w1 := bnext hB0 hb1
      have k0 := K0.out.below hb1
      have ki := KI.out.below hb1
      have kr := KR.out.below hb1
      have hs := HS.out.below hb1
      obtain ⟨c0, c1, c2, c3⟩ := k0.c4
      obtain ⟨i0, i1, i2⟩ := ki.c3
      obtain ⟨d0, d1, d2, d3, d4⟩ := kr.c5
      obtain ⟨f0, f1, f2, f3, f4⟩ := kr.f5
      have hlt0 := k0.lt
      have hlt1 := ki.lt
      have hlt2 := kr.lt
      clear K0 KI KR HS
      have K0 := Lib.hid k0
      have KI := Lib.hid ki
      have KR := Lib.hid kr
      have HS := Lib.hid hs
      clear k0 ki kr hs
      go_wp2_with fail
      refine (rCheckID_any _ _ _ _).mono ?_
      rintro e w2 ⟨rfl, hb2⟩
      rw [ID.out]
      have hB2 : Below w.heap.size w w2 := bnext hB1 hb2
      clear c0 c1 c2 c3 i0 i1 i2 d0 d1 d2 d3 d4 f0 f1 f2 f3 f4 hlt0 hlt1 hlt2
      have k0 := K0.out.below hb2
      have ki := KI.out.below hb2
      have kr := KR.out.below hb2
      have hs := HS.out.below hb2
      obtain ⟨c0, c1, c2, c3⟩ := k0.c4
      obtain ⟨i0, i1, i2⟩ := ki.c3
      obtain ⟨d0, d1, d2, d3, d4⟩ := kr.c5
      obtain ⟨f0, f1, f2, f3, f4⟩ := kr.f5
      have hlt0 := k0.lt
      have hlt1 := ki.lt
      have hlt2 := kr.lt
      clear K0 KI KR HS
      have K0 := Lib.hid k0
      have KI := Lib.hid ki
      have KR := Lib.hid kr
      have HS := Lib.hid hs
      clear k0 ki kr hs
      go_wp2_with fail
      refine bodyPost_ret (v := .tuple #[.agg #[.int .u64 0, .int .u64 0, .int .i64 0, .int .u64 0, .int .i64 0], .bool false, .int .i64 2]) (by simp [results, Try.results26, go_sem, d0, d1, d2, d3, d4]) rfl ⟨?_, ?_⟩
      · rw [G.out]; rfl
      · exact (by repeat (first | with_reducible exact Below.refl _ _ | with_reducible refine Below.drew ?_ | with_reducible refine below_drewN ?_ _ | with_reducible refine bal ?_ _ | with_reducible refine bset ?_ (by first | (simp; done) | (simp; omega)) _ | with_reducible refine bnext ?_ (by assumption) | with_reducible assumption))
  · have hne : ((chk ⟨g, n, r, l⟩).1 != 0) = true := by rw [bne_iff_ne]; exact hk
    have heq : ((chk ⟨g, n, r, l⟩).1 == 0) = false := by rw [beq_eq_false_iff_ne]; exact hk
    have G : Hid (find3 ⟨g, n, r, l⟩ node seq io = (zSl, false, (chk ⟨g, n, r, l⟩).1)) := find3_no hk
    clear hk
    go_enter Try.func26, Try.ntmps26
    go_wp2_with fail
    refine (rCheck_any ⟨g, n, r, l⟩ HW.out _ _ HS.out).mono ?_
    rintro e w1 ⟨rfl, hb1⟩
    have hB1 : Below w.heap.size w w1 := bnext hB0 hb1
    have k0 := K0.out.below hb1
    have ki := KI.out.below hb1
    have kr := KR.out.below hb1
    have hs := HS.out.below hb1
    obtain ⟨c0, c1, c2, c3⟩ := k0.c4
    obtain ⟨i0, i1, i2⟩ := ki.c3
    obtain ⟨d0, d1, d2, d3, d4⟩ := kr.c5
    obtain ⟨f0, f1, f2, f3, f4⟩ := kr.f5
    have hlt0 := k0.lt
    have hlt1 := ki.lt
    have hlt2 := kr.lt
    clear K0 KI KR HS
    have K0 := Lib.hid k0
    have KI := Lib.hid ki
    have KR := Lib.hid kr
    have HS := Lib.hid hs
    clear k0 ki kr hs
    generalize (chk ⟨g, n, r, l⟩).1 = er at *
    go_wp2_with fail
    refine bodyPost_ret (v := .tuple #[.agg #[.int .u64 0, .int .u64 0, .int .i64 0, .int .u64 0, .int .i64 0], .bool false, .int .i64 er]) (by simp [results, Try.results26, go_sem, d0, d1, d2, d3, d4]) rfl ⟨?_, ?_⟩
    · rw [G.out]; rfl
    · exact (by repeat (first | with_reducible exact Below.refl _ _ | with_reducible refine Below.drew ?_ | with_reducible refine below_drewN ?_ _ | with_reducible refine bal ?_ _ | with_reducible refine bset ?_ (by first | (simp; done) | (simp; omega)) _ | with_reducible refine bnext ?_ (by assumption) | with_reducible assumption))

set_option maxRecDepth 100000 in
set_option maxHeartbeats 4000000 in
theorem Find_any (s : Led) (hw : Wf s) (node seq io : Int) (v : Value) (w : World) (hS : SlAt w 5 v s.sl.length (flat s.sl)) :
    Calls Try.prog 25 #[.agg #[.int .u64 s.g, .int .u64 s.n, .int .u64 s.r, v], .agg #[.int .i64 node, .int .u64 seq, .int .i64 io]] w (FindPost (find3 s node seq io) w) := by
  obtain ⟨g, n, r, l⟩ := s
  obtain ⟨A, c, rfl, hc1, hc2, _⟩ := id hS
  have hB0 : Below w.heap.size w (((w.alloc (.cells #[.int .u64 g, .int .u64 n, .int .u64 r, .slice A l.length c] 26)).alloc (.cells #[.int .i64 node, .int .u64 seq, .int .i64 io] 41)).alloc (.cells #[.int .u64 0, .int .u64 0, .int .i64 0, .int .u64 0, .int .i64 0] 44)) := bal (bal (bal (Below.refl _ _) _) _) _
  have HS := Lib.hid (hS.below hB0)
  have HW := Lib.hid hw
  have K0 := Lib.hid (((Blk.new w 26 #[.int .u64 g, .int .u64 n, .int .u64 r, .slice A l.length c]).alloc (.cells #[.int .i64 node, .int .u64 seq, .int .i64 io] 41)).alloc (.cells #[.int .u64 0, .int .u64 0, .int .i64 0, .int .u64 0, .int .i64 0] 44))
  have KI := Lib.hid ((Blk.new1 w (.cells #[.int .u64 g, .int .u64 n, .int .u64 r, .slice A l.length c] 26) 41 #[.int .i64 node, .int .u64 seq, .int .i64 io]).alloc (.cells #[.int .u64 0, .int .u64 0, .int .i64 0, .int .u64 0, .int .i64 0] 44))
  have KR := Lib.hid (Blk.new2 w (.cells #[.int .u64 g, .int .u64 n, .int .u64 r, .slice A l.length c] 26) (.cells #[.int .i64 node, .int .u64 seq, .int .i64 io] 41) 44 #[.int .u64 0, .int .u64 0, .int .i64 0, .int .u64 0, .int .i64 0])
  unfold maxLen at hc2
  clear hS hw
  dsimp only at *
  by_cases hk : okL ⟨g, n, r, l⟩
  · have HK := Lib.hid hk
    clear hk
    by_cases hid : IdOk node seq io
    · have HI := Lib.hid hid
      have ID : Hid (idE node seq io = 0) := if_pos hid
      clear hid
      go_enter Try.func25, Try.ntmps25
      go_wp2_with fail
      refine (opened_ok ⟨g, n, r, l⟩ HW.out _ _ HS.out HK.out).mono ?_
      rintro e w1 ⟨A1, q1, rfl, hown, hb1⟩
      have HO := Lib.hid hown
      clear hown
      have hB1 : Below w.heap.size w w1 := bnext hB0 hb1
      have k0 := K0.out.below hb1
      have ki := KI.out.below hb1
      have kr := KR.out.below hb1
      have hs := HS.out.below hb1
      obtain ⟨c0, c1, c2, c3⟩ := k0.c4
      obtain ⟨i0, i1, i2⟩ := ki.c3
      obtain ⟨d0, d1, d2, d3, d4⟩ := kr.c5
      obtain ⟨f0, f1, f2, f3, f4⟩ := kr.f5
      have hlt0 := k0.lt
      have hlt1 := ki.lt
      have hlt2 := kr.lt
      clear K0 KI KR HS
      have K0 := Lib.hid k0
      have KI := Lib.hid ki
      have KR := Lib.hid kr
      have HS := Lib.hid hs
      clear k0 ki kr hs
      go_wp2_with fail
      refine (CheckID_any _ _ _ _).mono ?_
      rintro e w2 ⟨rfl, hb2⟩
      rw [ID.out]
      have hB2 : Below w.heap.size w w2 := bnext (bal hB1 _) hb2
      clear c0 c1 c2 c3 i0 i1 i2 d0 d1 d2 d3 d4 f0 f1 f2 f3 f4 hlt0 hlt1 hlt2
      have k0 := (K0.out.alloc (.cells #[.int .u64 g, .int .u64 n, .int .u64 r, .slice A1 l.length q1] 58)).below hb2
      have ki := (KI.out.alloc (.cells #[.int .u64 g, .int .u64 n, .int .u64 r, .slice A1 l.length q1] 58)).below hb2
      have kr := (KR.out.alloc (.cells #[.int .u64 g, .int .u64 n, .int .u64 r, .slice A1 l.length q1] 58)).below hb2
      have ho := own_below hb2 (HO.out.alloc (.cells #[.int .u64 g, .int .u64 n, .int .u64 r, .slice A1 l.length q1] 58))
      have kl := (Blk.new w1 58 #[.int .u64 g, .int .u64 n, .int .u64 r, .slice A1 l.length q1]).below hb2
      obtain ⟨c0, c1, c2, c3⟩ := k0.c4
      obtain ⟨i0, i1, i2⟩ := ki.c3
      obtain ⟨d0, d1, d2, d3, d4⟩ := kr.c5
      obtain ⟨f0, f1, f2, f3, f4⟩ := kr.f5
      have hlt0 := k0.lt
      have hlt1 := ki.lt
      have hlt2 := kr.lt
      obtain ⟨l0, l1, l2, l3⟩ := kl.c4
      have hlt3 := kl.lt
      clear K0 KI KR HO
      have K0 := Lib.hid k0
      have KI := Lib.hid ki
      have KR := Lib.hid kr
      have HO := Lib.hid ho
      have KL := Lib.hid kl
      clear k0 ki kr ho kl
      by_cases ha : anyHas node seq io l = true
      · obtain ⟨k, x, hf, hx, hl, hkl, hh, hG⟩ := find3_some (s := ⟨g, n, r, l⟩) HK.out HI.out ha
        have G := Lib.hid hG
        have HX : Hid (idx node seq io l = k) := hx
        have HL : Hid (l[k]? = some x) := hl
        have hkl' : (k : Int) < l.length := by have : k < l.length := hkl; omega
        have hk0 : (0 : Int) ≤ (k : Int) := by omega
        clear hf hx hl hkl hh hG ha
        go_wp2_with fail
        refine (slot_any g n r _ node seq io l _ (SlAt.own HO.out)).mono ?_
        rintro e w3 ⟨rfl, hb3⟩
        rw [HX.out]
        have hB3 : Below w.heap.size w w3 := bnext hB2 hb3
        clear c0 c1 c2 c3 i0 i1 i2 d0 d1 d2 d3 d4 f0 f1 f2 f3 f4 hlt0 hlt1 hlt2 l0 l1 l2 l3 hlt3
        have k0 := (K0.out).below hb3
        have ki := (KI.out).below hb3
        have kr := (KR.out).below hb3
        have ho := own_below hb3 (HO.out)
        have kl := KL.out.below hb3
        obtain ⟨c0, c1, c2, c3⟩ := k0.c4
        obtain ⟨i0, i1, i2⟩ := ki.c3
        obtain ⟨d0, d1, d2, d3, d4⟩ := kr.c5
        obtain ⟨f0, f1, f2, f3, f4⟩ := kr.f5
        have hlt0 := k0.lt
        have hlt1 := ki.lt
        have hlt2 := kr.lt
        obtain ⟨l0, l1, l2, l3⟩ := kl.c4
        have hlt3 := kl.lt
        clear K0 KI KR HO KL
        have K0 := Lib.hid k0
        have KI := Lib.hid ki
        have KR := Lib.hid kr
        have HO := Lib.hid ho
        have KL := Lib.hid kl
        clear k0 ki kr ho kl
        obtain ⟨_, _, e1, _, _, hR1⟩ := SlAt.own HO.out
        cases e1
        obtain ⟨b, o, rfl, hbl, y0, y1, y2, y3, y4⟩ := slot_cells hR1 rfl HL.out
        clear hR1
        go_wp2_with fail
        refine bodyPost_ret (v := .tuple #[.agg #[.int .u64 x.off, .int .u64 x.size, .int .i64 x.node, .int .u64 x.seq, .int .i64 x.io], .bool true, .int .i64 0]) (by simp [results, Try.results25, go_sem, d0, d1, d2, d3, d4]) rfl ⟨?_, ?_⟩
        · rw [G.out]
        · exact (by repeat (first | with_reducible exact Below.refl _ _ | with_reducible refine Below.drew ?_ | with_reducible refine below_drewN ?_ _ | with_reducible refine bal ?_ _ | with_reducible refine bset ?_ (by first | (simp; done) | (simp; omega)) _ | with_reducible refine bnext ?_ (by assumption) | with_reducible assumption))
      · have hid' : idx node seq io l < 0 := idx_neg (by simpa using ha)
        have hid2 : ¬ 0 ≤ idx node seq io l := by omega
        have G : Hid (find3 ⟨g, n, r, l⟩ node seq io = (zSl, false, 0)) := find3_none HK.out HI.out ha
        clear ha
        go_wp2_with fail
        refine (slot_any g n r _ node seq io l _ (SlAt.own HO.out)).mono ?_
        rintro e w3 ⟨rfl, hb3⟩
        have hB3 : Below w.heap.size w w3 := bnext hB2 hb3
        clear c0 c1 c2 c3 i0 i1 i2 d0 d1 d2 d3 d4 f0 f1 f2 f3 f4 hlt0 hlt1 hlt2 l0 l1 l2 l3 hlt3
        have k0 := (K0.out).below hb3
        have ki := (KI.out).below hb3
        have kr := (KR.out).below hb3
        have ho := own_below hb3 (HO.out)
        have kl := KL.out.below hb3
        obtain ⟨c0, c1, c2, c3⟩ := k0.c4
        obtain ⟨i0, i1, i2⟩ := ki.c3
        obtain ⟨d0, d1, d2, d3, d4⟩ := kr.c5
        obtain ⟨f0, f1, f2, f3, f4⟩ := kr.f5
        have hlt0 := k0.lt
        have hlt1 := ki.lt
        have hlt2 := kr.lt
        obtain ⟨l0, l1, l2, l3⟩ := kl.c4
        have hlt3 := kl.lt
        clear K0 KI KR HO KL
        have K0 := Lib.hid k0
        have KI := Lib.hid ki
        have KR := Lib.hid kr
        have HO := Lib.hid ho
        have KL := Lib.hid kl
        clear k0 ki kr ho kl
        go_wp2_with fail
        refine bodyPost_ret (v := .tuple #[.agg #[.int .u64 0, .int .u64 0, .int .i64 0, .int .u64 0, .int .i64 0], .bool false, .int .i64 0]) (by simp [results, Try.results25, go_sem, d0, d1, d2, d3, d4]) rfl ⟨?_, ?_⟩
        · rw [G.out]; rfl
        · exact (by repeat (first | with_reducible exact Below.refl _ _ | with_reducible refine Below.drew ?_ | with_reducible refine below_drewN ?_ _ | with_reducible refine bal ?_ _ | with_reducible refine bset ?_ (by first | (simp; done) | (simp; omega)) _ | with_reducible refine bnext ?_ (by assumption) | with_reducible assumption))
    · have HI := Lib.hid hid
      have ID : Hid (idE node seq io = 2) := if_neg hid
      have G : Hid (find3 ⟨g, n, r, l⟩ node seq io = (zSl, false, 2)) := find3_id HK.out hid
      clear hid
      go_enter Try.func25, Try.ntmps25
      go_wp2_with fail
      refine (opened_ok ⟨g, n, r, l⟩ HW.out _ _ HS.out HK.out).mono ?_
      rintro e w1 ⟨A1, q1, rfl, hown, hb1⟩
      have HO := Lib.hid hown
      clear hown
      have hB1 : Below w.heap.size w w1 := bnext hB0 hb1
      have k0 := K0.out.below hb1
      have ki := KI.out.below hb1
      have kr := KR.out.below hb1
      have hs := HS.out.below hb1
      obtain ⟨c0, c1, c2, c3⟩ := k0.c4
      obtain ⟨i0, i1, i2⟩ := ki.c3
      obtain ⟨d0, d1, d2, d3, d4⟩ := kr.c5
      obtain ⟨f0, f1, f2, f3, f4⟩ := kr.f5
      have hlt0 := k0.lt
      have hlt1 := ki.lt
      have hlt2 := kr.lt
      clear K0 KI KR HS
      have K0 := Lib.hid k0
      have KI := Lib.hid ki
      have KR := Lib.hid kr
      have HS := Lib.hid hs
      clear k0 ki kr hs
      go_wp2_with fail
      refine (CheckID_any _ _ _ _).mono ?_
      rintro e w2 ⟨rfl, hb2⟩
      rw [ID.out]
      have hB2 : Below w.heap.size w w2 := bnext (bal hB1 _) hb2
      clear c0 c1 c2 c3 i0 i1 i2 d0 d1 d2 d3 d4 f0 f1 f2 f3 f4 hlt0 hlt1 hlt2
      have k0 := (K0.out.alloc (.cells #[.int .u64 g, .int .u64 n, .int .u64 r, .slice A1 l.length q1] 58)).below hb2
      have ki := (KI.out.alloc (.cells #[.int .u64 g, .int .u64 n, .int .u64 r, .slice A1 l.length q1] 58)).below hb2
      have kr := (KR.out.alloc (.cells #[.int .u64 g, .int .u64 n, .int .u64 r, .slice A1 l.length q1] 58)).below hb2
      have ho := own_below hb2 (HO.out.alloc (.cells #[.int .u64 g, .int .u64 n, .int .u64 r, .slice A1 l.length q1] 58))
      have kl := (Blk.new w1 58 #[.int .u64 g, .int .u64 n, .int .u64 r, .slice A1 l.length q1]).below hb2
      obtain ⟨c0, c1, c2, c3⟩ := k0.c4
      obtain ⟨i0, i1, i2⟩ := ki.c3
      obtain ⟨d0, d1, d2, d3, d4⟩ := kr.c5
      obtain ⟨f0, f1, f2, f3, f4⟩ := kr.f5
      have hlt0 := k0.lt
      have hlt1 := ki.lt
      have hlt2 := kr.lt
      obtain ⟨l0, l1, l2, l3⟩ := kl.c4
      have hlt3 := kl.lt
      clear K0 KI KR HO
      have K0 := Lib.hid k0
      have KI := Lib.hid ki
      have KR := Lib.hid kr
      have HO := Lib.hid ho
      have KL := Lib.hid kl
      clear k0 ki kr ho kl
      go_wp2_with fail
      refine (slot_any g n r _ node seq io l _ (SlAt.own HO.out)).mono ?_
      rintro e w3 ⟨rfl, hb3⟩
      generalize idx node seq io l = ix at *
      have hB3 : Below w.heap.size w w3 := bnext hB2 hb3
      clear c0 c1 c2 c3 i0 i1 i2 d0 d1 d2 d3 d4 f0 f1 f2 f3 f4 hlt0 hlt1 hlt2 l0 l1 l2 l3 hlt3
      have k0 := (K0.out).below hb3
      have ki := (KI.out).below hb3
      have kr := (KR.out).below hb3
      have ho := own_below hb3 (HO.out)
      have kl := KL.out.below hb3
      obtain ⟨c0, c1, c2, c3⟩ := k0.c4
      obtain ⟨i0, i1, i2⟩ := ki.c3
      obtain ⟨d0, d1, d2, d3, d4⟩ := kr.c5
      obtain ⟨f0, f1, f2, f3, f4⟩ := kr.f5
      have hlt0 := k0.lt
      have hlt1 := ki.lt
      have hlt2 := kr.lt
      obtain ⟨l0, l1, l2, l3⟩ := kl.c4
      have hlt3 := kl.lt
      clear K0 KI KR HO KL
      have K0 := Lib.hid k0
      have KI := Lib.hid ki
      have KR := Lib.hid kr
      have HO := Lib.hid ho
      have KL := Lib.hid kl
      clear k0 ki kr ho kl
      go_wp2_with fail
      refine bodyPost_ret (v := .tuple #[.agg #[.int .u64 0, .int .u64 0, .int .i64 0, .int .u64 0, .int .i64 0], .bool false, .int .i64 2]) (by simp [results, Try.results25, go_sem, d0, d1, d2, d3, d4]) rfl ⟨?_, ?_⟩
      · rw [G.out]; rfl
      · exact (by repeat (first | with_reducible exact Below.refl _ _ | with_reducible refine Below.drew ?_ | with_reducible refine below_drewN ?_ _ | with_reducible refine bal ?_ _ | with_reducible refine bset ?_ (by first | (simp; done) | (simp; omega)) _ | with_reducible refine bnext ?_ (by assumption) | with_reducible assumption))
  · have hne : ((chk ⟨g, n, r, l⟩).1 != 0) = true := by rw [bne_iff_ne]; exact hk
    have heq : ((chk ⟨g, n, r, l⟩).1 == 0) = false := by rw [beq_eq_false_iff_ne]; exact hk
    have HK := Lib.hid hk
    have G : Hid (find3 ⟨g, n, r, l⟩ node seq io = (zSl, false, (chk ⟨g, n, r, l⟩).1)) := find3_no hk
    clear hk
    go_enter Try.func25, Try.ntmps25
    go_wp2_with fail
    refine (opened_no' ⟨g, n, r, l⟩ HW.out _ _ HS.out HK.out).mono ?_
    rintro e w1 ⟨A1, q1, rfl, hown, hb1⟩
    have HO := Lib.hid hown
    clear hown HK
    have hB1 : Below w.heap.size w w1 := bnext hB0 hb1
    have k0 := K0.out.below hb1
    have ki := KI.out.below hb1
    have kr := KR.out.below hb1
    have hs := HS.out.below hb1
    obtain ⟨c0, c1, c2, c3⟩ := k0.c4
    obtain ⟨i0, i1, i2⟩ := ki.c3
    obtain ⟨d0, d1, d2, d3, d4⟩ := kr.c5
    obtain ⟨f0, f1, f2, f3, f4⟩ := kr.f5
    have hlt0 := k0.lt
    have hlt1 := ki.lt
    have hlt2 := kr.lt
    clear K0 KI KR HS
    have K0 := Lib.hid k0
    have KI := Lib.hid ki
    have KR := Lib.hid kr
    have HS := Lib.hid hs
    clear k0 ki kr hs
    generalize (chk ⟨g, n, r, l⟩).1 = er at *
    go_wp2_with fail
    refine (slot_any 0 0 0 _ node seq io [] _ (SlAt.own (HO.out.alloc _))).mono ?_
    rintro e w2 ⟨rfl, hb2⟩
    generalize idx node seq io [] = ix at *
    have hB2 : Below w.heap.size w w2 := bnext (bal hB1 _) hb2
    clear c0 c1 c2 c3 i0 i1 i2 d0 d1 d2 d3 d4 f0 f1 f2 f3 f4 hlt0 hlt1 hlt2
    have k0 := (K0.out.alloc (.cells #[.int .u64 0, .int .u64 0, .int .u64 0, .slice A1 0 q1] 58)).below hb2
    have ki := (KI.out.alloc (.cells #[.int .u64 0, .int .u64 0, .int .u64 0, .slice A1 0 q1] 58)).below hb2
    have kr := (KR.out.alloc (.cells #[.int .u64 0, .int .u64 0, .int .u64 0, .slice A1 0 q1] 58)).below hb2
    have ho := own_below hb2 (HO.out.alloc (.cells #[.int .u64 0, .int .u64 0, .int .u64 0, .slice A1 0 q1] 58))
    have kl := (Blk.new w1 58 #[.int .u64 0, .int .u64 0, .int .u64 0, .slice A1 0 q1]).below hb2
    obtain ⟨c0, c1, c2, c3⟩ := k0.c4
    obtain ⟨i0, i1, i2⟩ := ki.c3
    obtain ⟨d0, d1, d2, d3, d4⟩ := kr.c5
    obtain ⟨f0, f1, f2, f3, f4⟩ := kr.f5
    have hlt0 := k0.lt
    have hlt1 := ki.lt
    have hlt2 := kr.lt
    obtain ⟨l0, l1, l2, l3⟩ := kl.c4
    have hlt3 := kl.lt
    clear K0 KI KR HO
    have K0 := Lib.hid k0
    have KI := Lib.hid ki
    have KR := Lib.hid kr
    have HO := Lib.hid ho
    have KL := Lib.hid kl
    clear k0 ki kr ho kl
    go_wp2_with fail
    refine bodyPost_ret (v := .tuple #[.agg #[.int .u64 0, .int .u64 0, .int .i64 0, .int .u64 0, .int .i64 0], .bool false, .int .i64 er]) (by simp [results, Try.results25, go_sem, d0, d1, d2, d3, d4]) rfl ⟨?_, ?_⟩
    · rw [G.out]; rfl
    · exact (by repeat (first | with_reducible exact Below.refl _ _ | with_reducible refine Below.drew ?_ | with_reducible refine below_drewN ?_ _ | with_reducible refine bal ?_ _ | with_reducible refine bset ?_ (by first | (simp; done) | (simp; omega)) _ | with_reducible refine bnext ?_ (by assumption) | with_reducible assumption))
end Go.Proofs.Ytdfppaafoecgmaa
