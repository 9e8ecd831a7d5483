/- Contracts: first states. -/
import Derived.Test.YthkfdfkjenhjmaaI
namespace Go.Proofs.Ythkfdfkjenhjmaa
open Go.RowKit
set_option linter.unusedVariables false
set_option linter.unusedSimpArgs false

/-- the first state, or the error -/
def newD (W : List Int) (q : Int) : Dr × Int := if W.length ≠ 3 then (zDr, 3) else if wgE W q ≠ 0 then (zDr, wgE W q) else (⟨W, q, [0, 0, at0 W 2 * q], 2⟩, 0)
theorem newD_ok {W : List Int} {q : Int} (h3 : W.length = 3) (h : wgE W q = 0) : newD W q = (⟨W, q, [0, 0, at0 W 2 * q], 2⟩, 0) := by
  unfold newD; rw [if_neg (by omega), if_neg (by omega)]
theorem newD_wg {W : List Int} {q : Int} (h3 : W.length = 3) (h : wgE W q ≠ 0) : newD W q = (zDr, wgE W q) := by
  unfold newD; rw [if_neg (by omega), if_pos h]
theorem Blk.new' (w : World) (t : TypeId) (cs : Array Value) {g : Nat} (hg : w.heap.size = g) : Blk (w.alloc (.cells cs t)) g t cs := by subst hg; exact Blk.new w t cs
theorem lit_at {w : World} {g : Nat} {t : TypeId} {L : List Int} (h : Blk w g t (ints L).toArray) (n : Nat) (hn : n = L.length) (hm : n ≤ 100000) : IntAt w (.slice (some ⟨g, 0, none⟩) n n) L := by
  subst hn
  refine ⟨_, _, rfl, Nat.le_refl _, by unfold maxLen; omega, by rw [ints_len, Nat.mul_one], fun _ => ⟨g, 0, rfl, h.lt, fun j u hj => ?_⟩⟩
  rw [Nat.zero_add, h.cell, List.getElem?_toArray, hj]

/-- a first state, laid -/
def NewMid (w : World) (W : List Int) (q : Int) (wx : World) : Prop := ∃ g B1 k1, Blk wx w.heap.size 24 #[.slice B1 W.length k1, .int .i64 q, .slice (some ⟨g, 0, none⟩) 3 3, .int .i64 2] ∧ Blk wx g 3 #[.int .i64 0, .int .i64 0, .int .i64 (at0 W 2 * q)] ∧
  OwnI wx (w.heap.size + 1) (.slice B1 W.length k1) W ∧ Below w.heap.size w wx
theorem NewMid.was {w wn : World} {W : List Int} {q : Int} {g : Nat} {B1 : Option Addr} {k1 base : Nat} (h : Hid (Blk wn w.heap.size 24 #[.slice none 0 0, .int .i64 0, .slice none 0 0, .int .i64 0])) (hl : Blk wn g 3 #[.int .i64 0, .int .i64 0, .int .i64 (at0 W 2 * q)])
    (ho : Hid (OwnI wn base (.slice B1 W.length k1) W)) (hb : Below w.heap.size w wn) (hB : w.heap.size + 1 ≤ base) (hg : g ≠ w.heap.size) :
    NewMid w W q ((((wn.setCell ⟨w.heap.size, 0, none⟩ (.slice B1 W.length k1)).setCell ⟨w.heap.size, 1, none⟩ (.int .i64 q)).setCell ⟨w.heap.size, 2, none⟩ (.slice (some ⟨g, 0, none⟩) 3 3)).setCell ⟨w.heap.size, 3, none⟩ (.int .i64 2)) := by
  refine ⟨g, B1, k1, (((h.out.set 0 _).set 1 _).set 2 _).set 3 _, ?_, ?_, (by repeat (first | with_reducible exact Below.refl _ _ | with_reducible refine Below.drew ?_ | with_reducible refine below_drewN ?_ _ | with_reducible refine bal ?_ _ | with_reducible refine bset ?_ (by first | (simp; done) | (simp; omega)) _ | with_reducible refine bnext ?_ (by assumption) | with_reducible assumption))⟩
  · exact (((hl.far (p := ⟨w.heap.size, 0, none⟩) hg _).far (p := ⟨w.heap.size, 1, none⟩) hg _).far (p := ⟨w.heap.size, 2, none⟩) hg _).far (p := ⟨w.heap.size, 3, none⟩) hg _
  · have oo := OwnI.mono (base' := w.heap.size + 1) ho.out hB
    repeat (first | with_reducible exact oo | with_reducible refine OwnI.low ?_ (by simp) _)
theorem NewMid.alloc {w wn : World} {W : List Int} {q : Int} {B1 : Option Addr} {k1 base : Nat} (h : Hid (Blk wn w.heap.size 24 #[.slice none 0 0, .int .i64 0, .slice none 0 0, .int .i64 0]))
    (ho : Hid (OwnI wn base (.slice B1 W.length k1) W)) (hb : Below w.heap.size w wn) (hB : w.heap.size + 1 ≤ base) (hg : ¬ w.heap.size = wn.heap.size) :
    NewMid w W q (((((wn.setCell ⟨w.heap.size, 0, none⟩ (.slice B1 W.length k1)).setCell ⟨w.heap.size, 1, none⟩ (.int .i64 q)).setCell ⟨w.heap.size, 2, none⟩ (.slice (some ⟨wn.heap.size, 0, none⟩) 3 3)).setCell ⟨w.heap.size, 3, none⟩ (.int .i64 2)).alloc (.cells #[.int .i64 0, .int .i64 0, .int .i64 (at0 W 2 * q)] 3)) := by
  refine ⟨wn.heap.size, B1, k1, Blk.alloc ((((h.out.set 0 _).set 1 _).set 2 _).set 3 _) _, Blk.new' _ _ _ (by simp), ?_, (by repeat (first | with_reducible exact Below.refl _ _ | with_reducible refine Below.drew ?_ | with_reducible refine below_drewN ?_ _ | with_reducible refine bal ?_ _ | with_reducible refine bset ?_ (by first | (simp; done) | (simp; omega)) _ | with_reducible refine bnext ?_ (by assumption) | with_reducible assumption))⟩
  have oo := OwnI.mono (base' := w.heap.size + 1) ho.out hB
  refine OwnI.alloc ?_ _
  repeat (first | with_reducible exact oo | with_reducible refine OwnI.low ?_ (by simp) _)
set_option maxRecDepth 100000 in
set_option maxHeartbeats 8000000 in
theorem New_any (W : List Int) (q : Int) (v : Value) (w : World) (hW : IntAt w v W) :
    Calls Try.prog 25 #[v, .int .i64 q] w (RetDE (newD W q).1 (newD W q).2 w) := by
  obtain ⟨A, c, rfl, _, hc2, hR⟩ := id hW
  unfold maxLen at hc2
  have HW := Lib.hid hW
  have HR := Lib.hid hR
  clear hW hR
  by_cases h3 : W.length = 3
  · have t1 : ((W.length : Int) != 3) = false := by rw [h3]; rfl
    by_cases hk : wgE W q = 0
    · have t2 : (wgE W q != 0) = false := by rw [hk]; rfl
      obtain ⟨hw, hq0, hq1⟩ := wgE_zero hk
      have HE : Hid (newD W q = (⟨W, q, [0, 0, at0 W 2 * q], 2⟩, 0)) := Lib.hid (newD_ok h3 hk)
      obtain ⟨b, o, rfl, hb, d0⟩ := reads_at HR.out (ints_get (at0_get (l := W) (i := 2) (by omega)))
      have bW := hw _ (at0_mem (l := W) (i := 2) (by omega))
      have mb1 : 1 ≤ at0 W 2 * q := by
        have := Int.mul_le_mul bW.1 hq0 (by omega) (by omega)
        omega
      have mb2 : at0 W 2 * q ≤ 120000 := by
        have := Int.mul_le_mul bW.2 hq1 (by omega) (by omega)
        omega
      have WM : IntKind.i64.wrap (at0 W 2 * q) = at0 W 2 * q := IntWalk.i64_in _ (by omega)
      have hi2 : (2 : Int) < W.length := by omega
      have hlW : W.length ≤ 100000 := by omega
      have H3 := Lib.hid h3
      clear hk hw mb1 mb2 h3
      go_enter Try.func25, Try.ntmps25
      go_wp2_with fail
      refine (weighed_any W q _ _ (HW.out.alloc _)).mono ?_
      rintro e w1 ⟨rfl, hb1⟩
      have r1 := (Blk.new w 24 #[.slice none 0 0, .int .i64 0, .slice none 0 0, .int .i64 0]).below hb1
      have hB1 : Below w.heap.size w w1 := bnext (bal (Below.refl w.heap.size w) _) hb1
      have hlr1 := r1.lt
      have KR := Lib.hid r1
      have d1 := (hB1.cell (p := ⟨b, o + 2, none⟩) hb).trans d0
      obtain ⟨y0, y1, y2, y3⟩ := r1.c4
      obtain ⟨g0, g1, g2, g3⟩ := r1.f4
      have qb : ¬ w.heap.size = w1.heap.size := by omega
      have qb' : ¬ w1.heap.size = w.heap.size := by omega
      have q1 : ¬ b = w.heap.size := by omega
      have q2 : ¬ w.heap.size = b := by omega
      have q3 : b < w1.heap.size := by omega
      have q4 : ¬ b = w1.heap.size := by omega
      have d0' := d0
      have D0 := Lib.hid d0'
      clear hb1 r1 d0 d0'
      go_upto_region 6 with fail
      go_cut [5] (fun s5 wx => s5 = .int .i64 0 ∧ NewMid w W q wx)
      case first =>
        go_region_held3 (fun w' => w'.cell? ⟨b, o + 2, none⟩ = some (.int .i64 (at0 W 2))) (go_keep)
          (first
            | (go_at_call 43; refine (Clone_any W _ _ (HW.out.below (by repeat (first | with_reducible exact Below.refl _ _ | with_reducible refine Below.drew ?_ | with_reducible refine below_drewN ?_ _ | with_reducible refine bal ?_ _ | with_reducible refine bset ?_ (by first | (simp; done) | (simp; omega)) _ | with_reducible refine bnext ?_ (by assumption) | with_reducible assumption))) hlW).mono ?_; rintro e wn ⟨B1, k1, rfl, ho, hbn⟩; have hBn : Below w.heap.size w wn := (by repeat (first | with_reducible exact Below.refl _ _ | with_reducible refine Below.drew ?_ | with_reducible refine below_drewN ?_ _ | with_reducible refine bal ?_ _ | with_reducible refine bset ?_ (by first | (simp; done) | (simp; omega)) _ | with_reducible refine bnext ?_ (by assumption) | with_reducible assumption)); have O1 := Lib.hid ho; have kr : Blk wn w.heap.size 24 #[.slice none 0 0, .int .i64 0, .slice none 0 0, .int .i64 0] := (by refine Blk.below ?_ hbn; repeat (first | with_reducible exact KR.out | with_reducible refine Blk.alloc ?_ _ | with_reducible refine Blk.drew ?_)); (try have kl : Blk wn w1.heap.size 3 #[.int .i64 0, .int .i64 0, .int .i64 (at0 W 2 * q)] := (by refine Blk.below ?_ hbn; first | with_reducible exact Blk.new _ _ _ | with_reducible exact Blk.drew (Blk.new _ _ _) | exact Blk.new w1.drew _ _)); have d2 := (hBn.cell (p := ⟨b, o + 2, none⟩) hb).trans D0.out; have hzn := hbn.size; (try simp at hzn); have KR2 := Lib.hid kr; clear y0 y1 y2 y3 g0 g1 g2 g3 d1; obtain ⟨y0, y1, y2, y3⟩ := kr.c4; obtain ⟨g0, g1, g2, g3⟩ := kr.f4; have d1 := d2; have hlr := kr.lt; have q5 : b < wn.heap.size := (by omega); have q6 : ¬ b = wn.heap.size := (by omega); have qb3 : ¬ w.heap.size = wn.heap.size := (by omega); have qb4 : ¬ wn.heap.size = w.heap.size := (by omega)))
        all_goals
          have hbz := hBn.size
          go_wp2_with fail
          go_meet
          refine ⟨rfl, ?_⟩
          first
            | ((with_reducible refine NewMid.alloc KR2 O1 hBn ?_ qb3) <;> first | omega | (simp; omega))
            | ((with_reducible refine NewMid.was KR2 kl O1 hBn ?_ ?_) <;> first | omega | (simp; omega))
            | ((with_reducible refine NewMid.was KR2 kl2 O1 hBn ?_ ?_) <;> first | omega | (simp; omega))
      case rest =>
        obtain ⟨rfl, g, B1, k1, kb, kl, o1, hB⟩ := hcut
        have O1 := Lib.hid o1
        have KL := Lib.hid kl
        clear y0 y1 y2 y3 g0 g1 g2 g3
        obtain ⟨y0, y1, y2, y3⟩ := kb.c4
        clear kb kl o1
        go_wp2_with fail
        refine bodyPost_ret (v := .tuple #[.agg #[.slice B1 W.length k1, .int .i64 q, .slice (some ⟨g, 0, none⟩) 3 3, .int .i64 2], .int .i64 0]) (by simp [results, Try.results25, go_sem, y0, y1, y2, y3]) rfl ?_
        rw [HE.out]
        exact ⟨_, rfl, ⟨_, _, rfl, O1.out.at, lit_at (t := 3) (L := [0, 0, at0 W 2 * q]) KL.out 3 rfl (by decide)⟩, hB⟩
    · have t2 : (wgE W q != 0) = true := by simpa using hk
      have HE : Hid (newD W q = (zDr, wgE W q)) := Lib.hid (newD_wg h3 hk)
      clear hk h3
      go_enter Try.func25, Try.ntmps25
      go_wp2_with fail
      refine (weighed_any W q _ _ (HW.out.alloc _)).mono ?_
      rintro e w1 ⟨rfl, hb1⟩
      have r1 := (Blk.new w 24 #[.slice none 0 0, .int .i64 0, .slice none 0 0, .int .i64 0]).below hb1
      have hB1 : Below w.heap.size w w1 := bnext (bal (Below.refl w.heap.size w) _) hb1
      have hlr1 := r1.lt
      obtain ⟨y0, y1, y2, y3⟩ := r1.c4
      obtain ⟨g0, g1, g2, g3⟩ := r1.f4
      clear hb1 r1
      go_wp2_with fail
      refine bodyPost_ret (v := .tuple #[.agg #[.slice none 0 0, .int .i64 0, .slice none 0 0, .int .i64 0], .int .i64 (wgE W q)]) (by simp [results, Try.results25, go_sem, y0, y1, y2, y3]) rfl ?_
      rw [HE.out]
      exact ⟨_, rfl, zDr_v _, (by repeat (first | with_reducible exact Below.refl _ _ | with_reducible refine Below.drew ?_ | with_reducible refine below_drewN ?_ _ | with_reducible refine bal ?_ _ | with_reducible refine bset ?_ (by first | (simp; done) | (simp; omega)) _ | with_reducible refine bnext ?_ (by assumption) | with_reducible assumption))⟩
  · have t1 : ((W.length : Int) != 3) = true := by simp; omega
    have HE : Hid (newD W q = (zDr, 3)) := Lib.hid (if_pos h3)
    clear h3
    go_enter Try.func25, Try.ntmps25
    go_wp2_with fail
    refine bodyPost_ret (v := .tuple #[.agg #[.slice none 0 0, .int .i64 0, .slice none 0 0, .int .i64 0], .int .i64 3]) (by simp [results, Try.results25, go_sem]) rfl ?_
    rw [HE.out]
    exact ⟨_, rfl, zDr_v _, (by repeat (first | with_reducible exact Below.refl _ _ | with_reducible refine Below.drew ?_ | with_reducible refine below_drewN ?_ _ | with_reducible refine bal ?_ _ | with_reducible refine bset ?_ (by first | (simp; done) | (simp; omega)) _ | with_reducible refine bnext ?_ (by assumption) | with_reducible assumption))⟩
end Go.Proofs.Ythkfdfkjenhjmaa
