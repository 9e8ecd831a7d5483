/- Contracts: copies of states. -/
import Derived.Test.YthkfdfkjenhjmaaD
namespace Go.Proofs.Ythkfdfkjenhjmaa
open Go.RowKit
set_option linter.unusedVariables false
set_option linter.unusedSimpArgs false

theorem blk_grown {w w' : World} {g : Nat} {t : TypeId} {cs : Array Value} {row : Option Nat} (h : Blk w g t cs) (hb : w.grownBy w' row) (hr : ∀ k, row = some k → k ≠ g) : Blk w' g t cs := (hb.block g h.lt (fun e => hr g e.symm rfl)).trans h
theorem made0 (w : World) (base : Nat) (hb : base ≤ w.heap.size) : OwnI (w.alloc (.cells #[] 3)) base (.slice (some ⟨w.heap.size, 0, none⟩) 0 0) [] := World.ownsRow_made (base := base) (e := 3) (size := 1) w #[] 0 hb (by unfold maxLen; omega) rfl

set_option maxRecDepth 100000 in
set_option maxHeartbeats 4000000 in
theorem rcopied_any (d : Dr) (v : Value) (w : World) (hS : DrV w v d) (hl : lt20 d) :
    Calls Try.prog 42 #[v] w (RetDr d w) := by
  obtain ⟨W, q, D, t⟩ := d
  obtain ⟨hlW, hlD⟩ := hl
  obtain ⟨vW, vD, rfl, hW, hD⟩ := hS
  obtain ⟨A, c, rfl, _⟩ := id hW
  obtain ⟨A', c', rfl, _⟩ := id hD
  have HW := Lib.hid hW
  have HD := Lib.hid hD
  clear hW hD
  dsimp only at *
  have b0 := Lib.hid (((Blk.new w 24 #[.slice A W.length c, .int .i64 q, .slice A' D.length c', .int .i64 t]).alloc (.cells #[.slice none 0 0, .int .i64 0, .slice none 0 0, .int .i64 0] 24)).alloc (.cells #[] 3))
  have r0 := Lib.hid ((Blk.new1 w (.cells #[.slice A W.length c, .int .i64 q, .slice A' D.length c', .int .i64 t] 24) 24 #[.slice none 0 0, .int .i64 0, .slice none 0 0, .int .i64 0]).alloc (.cells #[] 3))
  have HO : Hid (OwnI (((w.alloc (.cells #[.slice A W.length c, .int .i64 q, .slice A' D.length c', .int .i64 t] 24)).alloc (.cells #[.slice none 0 0, .int .i64 0, .slice none 0 0, .int .i64 0] 24)).alloc (.cells #[] 3)) (w.heap.size + 2) (.slice (some ⟨w.heap.size + 1 + 1, 0, none⟩) 0 0) []) := Lib.hid (by have := made0 ((w.alloc (.cells #[.slice A W.length c, .int .i64 q, .slice A' D.length c', .int .i64 t] 24)).alloc (.cells #[.slice none 0 0, .int .i64 0, .slice none 0 0, .int .i64 0] 24)) (w.heap.size + 2) (by simp); simpa using this)
  go_enter Try.func42, Try.ntmps42
  go_upto_region 2 with (first | (at_builtin; refine wpList_app_all (f := one) rfl _ _ 22 rfl (w.heap.size + 2) 3 1 8 infoI rfl (by decide) Try.underlying22 one1 one_one _ w w.heap.size [] W _ _ (by rfl) (by rfl) (HW.out.below (by repeat (first | with_reducible exact Below.refl _ _ | with_reducible refine Below.drew ?_ | with_reducible refine below_drewN ?_ _ | with_reducible refine bal ?_ _ | with_reducible refine bset ?_ (by first | (simp; done) | (simp; omega)) _ | with_reducible refine bnext ?_ (by assumption) | with_reducible assumption))) HO.out (by repeat (first | with_reducible exact Below.refl _ _ | with_reducible refine Below.drew ?_ | with_reducible refine below_drewN ?_ _ | with_reducible refine bal ?_ _ | with_reducible refine bset ?_ (by first | (simp; done) | (simp; omega)) _ | with_reducible refine bnext ?_ (by assumption) | with_reducible assumption)) (by first | omega | (simp; done) | (simp; omega)) (by first | omega | (simp; done) | (simp; omega)) (by simp; omega) (by unfold maxLen; simp; omega) ?_; intro A8 c8 w8 hown8 hB8 hg8; have HO1 : Hid (OwnI w8 (w.heap.size + 2) (.slice A8 W.length c8) W) := Lib.hid (by simpa [OwnI] using hown8); have b1 := blk_grown b0.out hg8 (fun k e => by simp [Value.ownBlock] at e; omega); have r1 := blk_grown r0.out hg8 (fun k e => by simp [Value.ownBlock] at e; omega); have hz1 : w.heap.size + 2 ≤ w8.heap.size := (by have := r1.lt; omega); have hlb := b1.lt; have hlr := r1.lt; have B1 := Lib.hid b1; have R1 := Lib.hid r1; obtain ⟨x0, x1, x2, x3⟩ := b1.c4; obtain ⟨f0, f1, f2, f3⟩ := b1.f4; clear hown8 hg8 b1 r1))
  have s1 : OwnI ((w8.setCell ⟨w.heap.size, 0, none⟩ (.slice A8 W.length c8)).alloc (.cells #[] 3)) (w.heap.size + 2) (.slice A8 W.length c8) W := OwnI.alloc (ownsRow_setCell_below HO1.out (by show w.heap.size < w.heap.size + 2; omega) _) _
  have HO2 := Lib.hid s1
  have B2 := Lib.hid ((B1.out.set 0 (.slice A8 W.length c8)).alloc (.cells #[] 3))
  have R2 := Lib.hid ((R1.out.far (p := ⟨w.heap.size, 0, none⟩) (by show w.heap.size + 1 ≠ w.heap.size; omega) (.slice A8 W.length c8)).alloc (.cells #[] 3))
  have hE : OwnI ((w8.setCell ⟨w.heap.size, 0, none⟩ (.slice A8 W.length c8)).alloc (.cells #[] 3)) w8.heap.size (.slice (some ⟨w8.heap.size, 0, none⟩) 0 0) [] := by
    have := made0 (w8.setCell ⟨w.heap.size, 0, none⟩ (.slice A8 W.length c8)) w8.heap.size (by simp)
    simpa using this
  have HE := Lib.hid hE
  have hk2 : (Value.slice A8 W.length c8).ownBlock = none ∨ (Value.slice A8 W.length c8).ownBlock ≠ (Value.slice (some ⟨w8.heap.size, 0, none⟩) 0 0).ownBlock := by
    right
    intro e
    have := (World.ownsRow.lt HO1.out _ e).2
    dsimp only at this
    omega
  clear s1 hE
  have hB8' : Below w.heap.size w (w8.setCell ⟨w.heap.size, 0, none⟩ (.slice A8 W.length c8)) := bset hB8 (Nat.le_refl _) _
  go_wp2_with (first | (at_builtin; refine wpList_app_all (f := one) rfl _ _ 22 rfl w8.heap.size 3 1 8 infoI rfl (by decide) Try.underlying22 one1 one_one _ w w.heap.size [] D _ _ (by rfl) (by rfl) (HD.out.below (by repeat (first | with_reducible exact Below.refl _ _ | with_reducible refine Below.drew ?_ | with_reducible refine below_drewN ?_ _ | with_reducible refine bal ?_ _ | with_reducible refine bset ?_ (by first | (simp; done) | (simp; omega)) _ | with_reducible refine bnext ?_ (by assumption) | with_reducible assumption))) HE.out (by repeat (first | with_reducible exact Below.refl _ _ | with_reducible refine Below.drew ?_ | with_reducible refine below_drewN ?_ _ | with_reducible refine bal ?_ _ | with_reducible refine bset ?_ (by first | (simp; done) | (simp; omega)) _ | with_reducible refine bnext ?_ (by assumption) | with_reducible assumption)) (by first | omega | (simp; done) | (simp; omega)) (by first | omega | (simp; done) | (simp; omega)) (by simp; omega) (by unfold maxLen; simp; omega) ?_; intro A9 c9 w9 hown9 hB9 hg9; have HO3 : Hid (OwnI w9 w8.heap.size (.slice A9 D.length c9) D) := Lib.hid (by simpa [OwnI] using hown9); have b3 := blk_grown B2.out hg9 (fun k e => by simp [Value.ownBlock] at e; omega); have r3 := blk_grown R2.out hg9 (fun k e => by simp [Value.ownBlock] at e; omega); have o3 := World.ownsRow.kept HO2.out hg9 hk2; have B3 := Lib.hid b3; have R3 := Lib.hid r3; have O3 := Lib.hid o3; obtain ⟨x0, x1, x2, x3⟩ := b3.c4; obtain ⟨f0, f1, f2, f3⟩ := b3.f4; obtain ⟨y0, y1, y2, y3⟩ := r3.c4; obtain ⟨g0, g1, g2, g3⟩ := r3.f4; have hz3 := hg9.size; simp at hz3; clear hown9 hg9 b3 r3 o3))
  have AP : Apart (.slice A8 W.length c8) (.slice A9 D.length c9) := by
    intro g a b
    have x := (World.ownsRow.lt HO1.out g a).2
    have y := (World.ownsRow.lt HO3.out g b).1
    omega
  refine bodyPost_ret (v := .agg #[.slice A8 W.length c8, .int .i64 q, .slice A9 D.length c9, .int .i64 t]) (by simp [results, Try.results42, go_sem, x0, x1, x2, x3, y0, y1, y2, y3]) rfl ⟨A8, c8, A9, c9, rfl, ?_, ?_, AP, (by repeat (first | with_reducible exact Below.refl _ _ | with_reducible refine Below.drew ?_ | with_reducible refine below_drewN ?_ _ | with_reducible refine bal ?_ _ | with_reducible refine bset ?_ (by first | (simp; done) | (simp; omega)) _ | with_reducible refine bnext ?_ (by assumption) | with_reducible assumption))⟩
  · refine own_mono (base := w.heap.size + 2) ?_ (by omega)
    repeat (first | with_reducible exact O3.out | with_reducible refine ownsRow_setCell_below ?_ (by simp) _)
  · refine own_mono (base := w.heap.size + 2) ?_ (by omega)
    have HO3' := own_mono (base' := w.heap.size + 2) HO3.out hz1
    repeat (first | with_reducible exact HO3' | with_reducible refine ownsRow_setCell_below ?_ (by simp) _)

set_option maxRecDepth 100000 in
set_option maxHeartbeats 4000000 in
theorem clone_any (d : Dr) (v : Value) (w : World) (hS : DrV w v d) (hl : lt20 d) :
    Calls Try.prog 38 #[v] w (RetDr d w) := by
  obtain ⟨W, q, D, t⟩ := d
  obtain ⟨hlW, hlD⟩ := hl
  obtain ⟨vW, vD, rfl, hW, hD⟩ := hS
  obtain ⟨A, c, rfl, _⟩ := id hW
  obtain ⟨A', c', rfl, _⟩ := id hD
  have HW := Lib.hid hW
  have HD := Lib.hid hD
  clear hW hD
  dsimp only at *
  go_enter Try.func38, Try.ntmps38
  go_upto_region 1 with fail
  go_cut [] (fun wx => ∃ A8 c8 A9 c9, Blk wx w.heap.size 60 #[.slice A8 W.length c8, .int .i64 q, .slice A9 D.length c9, .int .i64 t] ∧ Blk wx (w.heap.size + 1) 24 #[.slice none 0 0, .int .i64 0, .slice none 0 0, .int .i64 0] ∧
    OwnI wx (w.heap.size + 2) (.slice A8 W.length c8) W ∧ OwnI wx (w.heap.size + 2) (.slice A9 D.length c9) D ∧ Apart (.slice A8 W.length c8) (.slice A9 D.length c9) ∧ Below w.heap.size w wx)
  case first =>
    have b0 := Lib.hid ((Blk.new w 60 #[.slice A W.length c, .int .i64 q, .slice A' D.length c', .int .i64 t]).alloc (.cells #[.slice none 0 0, .int .i64 0, .slice none 0 0, .int .i64 0] 24))
    have r0 := Lib.hid (Blk.new1 w (.cells #[.slice A W.length c, .int .i64 q, .slice A' D.length c', .int .i64 t] 60) 24 #[.slice none 0 0, .int .i64 0, .slice none 0 0, .int .i64 0])
    obtain ⟨x0, x1, x2, x3⟩ := b0.out.c4
    obtain ⟨f0, f1, f2, f3⟩ := b0.out.f4
    have KB := b0
    have KR := r0
    go_region_with (first
      | (go_at_call_of 43 (Value.slice A W.length c); refine (Clone_any W _ _ (HW.out.below (by repeat (first | with_reducible exact Below.refl _ _ | with_reducible refine Below.drew ?_ | with_reducible refine below_drewN ?_ _ | with_reducible refine bal ?_ _ | with_reducible refine bset ?_ (by first | (simp; done) | (simp; omega)) _ | with_reducible refine bnext ?_ (by assumption) | with_reducible assumption))) hlW).mono ?_; rintro e wn ⟨A8, c8, rfl, ho8, hbn⟩; have hB8 : Below w.heap.size w wn := (by repeat (first | with_reducible exact Below.refl _ _ | with_reducible refine Below.drew ?_ | with_reducible refine below_drewN ?_ _ | with_reducible refine bal ?_ _ | with_reducible refine bset ?_ (by first | (simp; done) | (simp; omega)) _ | with_reducible refine bnext ?_ (by assumption) | with_reducible assumption)); have hz0 : w.heap.size + 2 ≤ wn.heap.size := (by have := hbn.size; (try simp at this); omega); have kb : Blk wn w.heap.size 60 #[.slice A W.length c, .int .i64 q, .slice A' D.length c', .int .i64 t] := (by refine Blk.below ?_ hbn; repeat (first | with_reducible exact KB.out | with_reducible refine Blk.drew ?_)); have kr : Blk wn (w.heap.size + 1) 24 #[.slice none 0 0, .int .i64 0, .slice none 0 0, .int .i64 0] := (by refine Blk.below ?_ hbn; repeat (first | with_reducible exact KR.out | with_reducible refine Blk.drew ?_)); clear x0 x1 x2 x3 f0 f1 f2 f3 KB KR; have KB := Lib.hid kb; have KR := Lib.hid kr; obtain ⟨x0, x1, x2, x3⟩ := kb.c4; obtain ⟨f0, f1, f2, f3⟩ := kb.f4; clear kb kr; have O8 := Lib.hid (OwnI.mono (base' := w.heap.size + 2) ho8 (by simp)); clear ho8 hbn)
      | (go_at_call_of 43 (Value.slice A' D.length c'); refine (Clone_any D _ _ (HD.out.below (by repeat (first | with_reducible exact Below.refl _ _ | with_reducible refine Below.drew ?_ | with_reducible refine below_drewN ?_ _ | with_reducible refine bal ?_ _ | with_reducible refine bset ?_ (by first | (simp; done) | (simp; omega)) _ | with_reducible refine bnext ?_ (by assumption) | with_reducible assumption))) hlD).mono ?_; rintro e wm ⟨A9, c9, rfl, ho9, hbm⟩; have hB9 : Below w.heap.size w wm := (by repeat (first | with_reducible exact Below.refl _ _ | with_reducible refine Below.drew ?_ | with_reducible refine below_drewN ?_ _ | with_reducible refine bal ?_ _ | with_reducible refine bset ?_ (by first | (simp; done) | (simp; omega)) _ | with_reducible refine bnext ?_ (by assumption) | with_reducible assumption)); have ap : Apart (.slice A8 W.length c8) (.slice A9 D.length c9) := (by refine apart_new (base := w.heap.size + 2) (l := W) ?_ ho9; repeat (first | with_reducible exact O8.out | with_reducible refine OwnI.drew ?_)); have o8 : OwnI wm (w.heap.size + 2) (.slice A8 W.length c8) W := (by refine OwnI.below ?_ hbm; repeat (first | with_reducible exact O8.out | with_reducible refine OwnI.drew ?_)); have hz2 : w.heap.size + 2 ≤ wm.heap.size := (by have := hbm.size; (try simp at this); omega); have kb : Blk wm w.heap.size 60 #[.slice A W.length c, .int .i64 q, .slice A' D.length c', .int .i64 t] := (by refine Blk.below ?_ hbm; repeat (first | with_reducible exact KB.out | with_reducible refine Blk.drew ?_)); have kr : Blk wm (w.heap.size + 1) 24 #[.slice none 0 0, .int .i64 0, .slice none 0 0, .int .i64 0] := (by refine Blk.below ?_ hbm; repeat (first | with_reducible exact KR.out | with_reducible refine Blk.drew ?_)); clear x0 x1 x2 x3 f0 f1 f2 f3 KB KR; have KB := Lib.hid kb; have KR := Lib.hid kr; obtain ⟨x0, x1, x2, x3⟩ := kb.c4; obtain ⟨f0, f1, f2, f3⟩ := kb.f4; clear kb kr; have O9 := Lib.hid (OwnI.mono (base' := w.heap.size + 2) ho9 (by first | omega | (simp; omega))); have AP := Lib.hid ap; have O8' := Lib.hid o8; clear ho9 hbm ap o8))
    all_goals
      go_wp2_with fail
      go_meet
      refine ⟨A8, c8, A9, c9, ?_, ?_, ?_, ?_, AP.out, (by repeat (first | with_reducible exact Below.refl _ _ | with_reducible refine Below.drew ?_ | with_reducible refine below_drewN ?_ _ | with_reducible refine bal ?_ _ | with_reducible refine bset ?_ (by first | (simp; done) | (simp; omega)) _ | with_reducible refine bnext ?_ (by assumption) | with_reducible assumption))⟩
      · first | exact (KB.out.set 0 _).set 2 _ | exact (KB.out.set 2 _).set 0 _
      · exact (KR.out.far (p := ⟨w.heap.size, _, none⟩) (by show w.heap.size + 1 ≠ w.heap.size; omega) _).far (by show w.heap.size + 1 ≠ w.heap.size; omega) _
      · repeat (first | with_reducible exact O8'.out | with_reducible refine OwnI.low ?_ (by first | (simp; done) | (simp; omega)) _)
      · repeat (first | with_reducible exact O9.out | with_reducible refine OwnI.low ?_ (by first | (simp; done) | (simp; omega)) _)
  case rest =>
    obtain ⟨A8, c8, A9, c9, kb, kr, o8, o9, AP, hB⟩ := hcut
    have O8 := Lib.hid o8
    have O9 := Lib.hid o9
    have hlb := kb.lt
    have hlr := kr.lt
    obtain ⟨x0, x1, x2, x3⟩ := kb.c4
    obtain ⟨y0, y1, y2, y3⟩ := kr.c4
    obtain ⟨g0, g1, g2, g3⟩ := kr.f4
    clear kb kr o8 o9
    go_wp2_with fail
    refine bodyPost_ret (v := .agg #[.slice A8 W.length c8, .int .i64 q, .slice A9 D.length c9, .int .i64 t]) (by simp [results, Try.results38, go_sem, x0, x1, x2, x3, y0, y1, y2, y3]) rfl ⟨A8, c8, A9, c9, rfl, ?_, ?_, AP, (by repeat (first | with_reducible exact Below.refl _ _ | with_reducible refine Below.drew ?_ | with_reducible refine below_drewN ?_ _ | with_reducible refine bal ?_ _ | with_reducible refine bset ?_ (by first | (simp; done) | (simp; omega)) _ | with_reducible refine bnext ?_ (by assumption) | with_reducible assumption))⟩
    · refine OwnI.mono (base := w.heap.size + 2) ?_ (by omega)
      repeat (first | with_reducible exact O8.out | with_reducible refine OwnI.low ?_ (by first | (simp; done) | (simp; omega)) _)
    · refine OwnI.mono (base := w.heap.size + 2) ?_ (by omega)
      repeat (first | with_reducible exact O9.out | with_reducible refine OwnI.low ?_ (by first | (simp; done) | (simp; omega)) _)
end Go.Proofs.Ythkfdfkjenhjmaa
