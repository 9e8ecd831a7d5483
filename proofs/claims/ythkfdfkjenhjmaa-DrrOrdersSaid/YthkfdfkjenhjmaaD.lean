/- Contracts: copies. -/
import Derived.Test.YthkfdfkjenhjmaaC
import Derived.Test.YthkfdfkjenhjmaaApp2
import Derived.Lib.SliceRun
import Derived.Deep.DeepCutAuto
import Derived.Deep.RegionHeld3
import Derived.Deep.RegionLaw
namespace Go.Proofs.Ythkfdfkjenhjmaa
open Go.RowKit
set_option linter.unusedVariables false
set_option linter.unusedSimpArgs false

theorem infoI : (Try.prog.info? 3).map (fun i => (i.zero, i.size, i.bytes)) = some (some (.int .i64 0), 1, 8) := by kernel_rfl
theorem one_one (x : Int) : ∀ u ∈ one x, u.oneCell' = true := by
  intro u hu
  simp [one] at hu
  subst hu
  rfl
/-- numbers in a slice of the call's own -/
def OwnI (w : World) (base : Nat) (v : Value) (l : List Int) : Prop := w.ownsRow base 3 1 v l.length (ints l)
theorem OwnI.at {w : World} {base : Nat} {v : Value} {l : List Int} (h : OwnI w base v l) : IntAt w v l := SlAt.own h
theorem OwnI.form {w : World} {base : Nat} {v : Value} {l : List Int} (h : OwnI w base v l) : ∃ A c, v = .slice A l.length c := by
  obtain ⟨A, c, rfl, _⟩ := SlAt.own h
  exact ⟨A, c, rfl⟩
theorem OwnI.below {w w' : World} {base : Nat} {v : Value} {l : List Int} (h : OwnI w base v l) (hb : Below w.heap.size w w') : OwnI w' base v l := own_below hb h
theorem OwnI.alloc {w : World} {base : Nat} {v : Value} {l : List Int} (h : OwnI w base v l) (o : Obj) : OwnI (w.alloc o) base v l := World.ownsRow.alloc h o
theorem OwnI.drew {w : World} {base : Nat} {v : Value} {l : List Int} (h : OwnI w base v l) : OwnI w.drew base v l := World.ownsRow.drew h
theorem OwnI.mono {w : World} {base base' : Nat} {v : Value} {l : List Int} (h : OwnI w base v l) (hb : base' ≤ base) : OwnI w base' v l := own_mono h hb
theorem OwnI.far {w : World} {base : Nat} {v : Value} {l : List Int} (h : OwnI w base v l) (p : Addr) (hp : v.ownBlock ≠ some p.block) (u : Value) : OwnI (w.setCell p u) base v l := by
  have hk := Below.heap_setCell w p u
  refine World.ownsRow.kept (row := some p.block) h ⟨rfl, rfl, rfl, by rw [World.size_setCell]; exact Nat.le_refl _, fun k _ hn => hk k (fun e => hn (by rw [e]))⟩ ?_
  unfold OwnI at h
  by_cases hv : v.ownBlock = none
  · exact .inl hv
  · exact .inr hp
theorem OwnI.low {w : World} {base : Nat} {v : Value} {l : List Int} (h : OwnI w base v l) {a : Addr} (ha : a.block < base) (u : Value) : OwnI (w.setCell a u) base v l := ownsRow_setCell_below h ha u
def Apart (v u : Value) : Prop := ∀ g, v.ownBlock = some g → u.ownBlock ≠ some g
theorem Apart.symm {v u : Value} (h : Apart v u) : Apart u v := fun g a b => h g b a
theorem apart_new {w : World} {base : Nat} {v u : Value} {l m : List Int} (h : OwnI w base v l) {w' : World} (h' : OwnI w' w.heap.size u m) : Apart v u := by
  intro g a b
  have x := (World.ownsRow.lt h g a).2
  have y := (World.ownsRow.lt h' g b).1
  omega

def RetSl (l : List Int) (w : World) (e : Ending) (w' : World) : Prop := ∃ A c, e = .returned (.slice A l.length c) ∧ OwnI w' w.heap.size (.slice A l.length c) l ∧ Below w.heap.size w w'

set_option maxHeartbeats 1000000 in
theorem Clone_any (l : List Int) (v : Value) (w : World) (hS : IntAt w v l) (hl : l.length ≤ 100000) :
    Calls Try.prog 43 #[v] w (RetSl l w) := by
  have he := fun (w : World) (a : Option Addr) (n c : Nat) => Lib.run_eql_slice_nil w 22 3 a n c 0 0 Try.underlying22
  obtain ⟨A, c, rfl, hc1, hc2, hR⟩ := id hS
  have HS := Lib.hid hS
  clear hS
  cases A with
  | none =>
    have h0 : l.length = 0 := by
      rcases Nat.eq_zero_or_pos l.length with h | h
      · exact h
      · obtain ⟨b, o, e, _⟩ := hR.2 h
        cases e
    have hn : l = [] := List.eq_nil_of_length_eq_zero h0
    subst hn
    clear h0 hR
    go_enter Try.func43, Try.ntmps43
    go_wp2_with fail
    go_ret
    exact ⟨none, 0, rfl, World.ownsRow_nil _ _ _ _, Below.refl _ _⟩
  | some ad =>
    have HO : Hid (OwnI (w.alloc (.cells #[] 3)) w.heap.size (.slice (some ⟨w.heap.size, 0, none⟩) 0 0) []) := Lib.hid (World.ownsRow_made (base := w.heap.size) (e := 3) (size := 1) w #[] 0 (Nat.le_refl _) (by unfold maxLen; omega) rfl)
    clear hR
    go_enter Try.func43, Try.ntmps43
    go_wp2_with (first
      | (at_builtin; refine wpList_app_all (f := one) rfl _ _ 22 rfl w.heap.size 3 1 8 infoI rfl (by decide) Try.underlying22 one1 one_one _ w w.heap.size [] l _ _ (by rfl) (by rfl) (HS.out.alloc _) HO.out (by repeat (first | with_reducible exact Below.refl _ _ | with_reducible refine Below.drew ?_ | with_reducible refine below_drewN ?_ _ | with_reducible refine bal ?_ _ | with_reducible refine bset ?_ (by first | (simp; done) | (simp; omega)) _ | with_reducible refine bnext ?_ (by assumption) | with_reducible assumption)) (Nat.le_refl _) (by simp) (by simp; omega) (by unfold maxLen; simp; omega) ?_; intro A2 c2 w2 hown hB2 _; have HO2 := Lib.hid hown; clear hown))
    go_ret
    exact ⟨A2, c2, by simp, by have := HO2.out; simpa [OwnI] using this, hB2⟩

set_option maxHeartbeats 1000000 in
theorem OwnInts_any (l : List Int) (v : Value) (w : World) (hS : IntAt w v l) (hl : l.length ≤ 100000) :
    Calls Try.prog 14 #[v] w (RetSl l w) := by
  obtain ⟨A, c, rfl, hc1, hc2, hR⟩ := id hS
  have HS := Lib.hid hS
  clear hS
  have HO : Hid (OwnI (w.alloc (.cells #[] 3)) w.heap.size (.slice (some ⟨w.heap.size, 0, none⟩) 0 0) []) := Lib.hid (World.ownsRow_made (base := w.heap.size) (e := 3) (size := 1) w #[] 0 (Nat.le_refl _) (by unfold maxLen; omega) rfl)
  clear hR
  go_enter Try.func14, Try.ntmps14
  go_wp2_with (first
    | (at_builtin; refine wpList_app_all (f := one) rfl _ _ 22 rfl w.heap.size 3 1 8 infoI rfl (by decide) Try.underlying22 one1 one_one _ w w.heap.size [] l _ _ (by rfl) (by rfl) (HS.out.alloc _) HO.out (by repeat (first | with_reducible exact Below.refl _ _ | with_reducible refine Below.drew ?_ | with_reducible refine below_drewN ?_ _ | with_reducible refine bal ?_ _ | with_reducible refine bset ?_ (by first | (simp; done) | (simp; omega)) _ | with_reducible refine bnext ?_ (by assumption) | with_reducible assumption)) (Nat.le_refl _) (by simp) (by simp; omega) (by unfold maxLen; simp; omega) ?_; intro A2 c2 w2 hown hB2 _; have HO2 := Lib.hid hown; clear hown))
  go_ret
  exact ⟨A2, c2, by simp, by have := HO2.out; simpa [OwnI] using this, hB2⟩

/-- a state in memory of the call's own -/
def RetDr (d : Dr) (w : World) (e : Ending) (w' : World) : Prop := ∃ A c A' c', e = .returned (.agg #[.slice A d.W.length c, .int .i64 d.q, .slice A' d.D.length c', .int .i64 d.t]) ∧
  OwnI w' w.heap.size (.slice A d.W.length c) d.W ∧ OwnI w' w.heap.size (.slice A' d.D.length c') d.D ∧ Apart (.slice A d.W.length c) (.slice A' d.D.length c') ∧ Below w.heap.size w w'
def lt20 (d : Dr) : Prop := d.W.length ≤ 100000 ∧ d.D.length ≤ 100000

set_option maxRecDepth 100000 in
set_option maxHeartbeats 4000000 in
theorem own_any (d : Dr) (v : Value) (w : World) (hS : DrV w v d) (hl : lt20 d) :
    Calls Try.prog 13 #[v] w (RetDr d w) := by
  obtain ⟨W, q, D, t⟩ := d
  obtain ⟨hlW, hlD⟩ := hl
  obtain ⟨vW, vD, rfl, hW, hD⟩ := hS
  obtain ⟨A, c, rfl, _⟩ := id hW
  obtain ⟨A', c', rfl, _⟩ := id hD
  have HW := Lib.hid hW
  have HD := Lib.hid hD
  clear hW hD
  dsimp only at *
  go_enter Try.func13, Try.ntmps13
  go_wp2_with fail
  refine (OwnInts_any W _ _ ((HW.out.alloc _).alloc _) hlW).mono ?_
  rintro e w1 ⟨A1, k1, rfl, ho1, hb1⟩
  have HO1 := Lib.hid ho1
  have b1 := Lib.hid (((Blk.new w 24 #[.slice A W.length c, .int .i64 q, .slice A' D.length c', .int .i64 t]).alloc (.cells #[.slice none 0 0, .int .i64 0, .slice none 0 0, .int .i64 0] 24)).below hb1)
  have r1 := Lib.hid ((Blk.new1 w (.cells #[.slice A W.length c, .int .i64 q, .slice A' D.length c', .int .i64 t] 24) 24 #[.slice none 0 0, .int .i64 0, .slice none 0 0, .int .i64 0]).below hb1)
  have hB1 : Below w.heap.size w w1 := bnext (bal (bal (Below.refl _ _) _) _) hb1
  have hlt1 := b1.out.lt
  have hlr1 := r1.out.lt
  have hz1 : w.heap.size + 2 ≤ w1.heap.size := by omega
  obtain ⟨x0, x1, x2, x3⟩ := b1.out.c4
  obtain ⟨f0, f1, f2, f3⟩ := b1.out.f4
  clear ho1 hb1
  go_wp2_with fail
  refine (OwnInts_any D _ _ (HD.out.below (by repeat (first | with_reducible exact Below.refl _ _ | with_reducible refine Below.drew ?_ | with_reducible refine below_drewN ?_ _ | with_reducible refine bal ?_ _ | with_reducible refine bset ?_ (by first | (simp; done) | (simp; omega)) _ | with_reducible refine bnext ?_ (by assumption) | with_reducible assumption))) hlD).mono ?_
  rintro e w2 ⟨A2, k2, rfl, ho2, hb2⟩
  have hB2 : Below w.heap.size w w2 := bnext (bset hB1 (Nat.le_refl _) _) hb2
  have b2 := Lib.hid ((b1.out.set 0 (.slice A1 W.length k1)).below hb2)
  have r2 := Lib.hid ((r1.out.far (p := ⟨w.heap.size, 0, none⟩) (by show w.heap.size + 1 ≠ w.heap.size; omega) (.slice A1 W.length k1)).below hb2)
  have HO1' : OwnI (w1.setCell ⟨w.heap.size, 0, none⟩ (.slice A1 W.length k1)) (w.heap.size + 2) (.slice A1 W.length k1) W := ownsRow_setCell_below (own_mono HO1.out (by simp)) (by show w.heap.size < w.heap.size + 2; omega) _
  have AP := Lib.hid (apart_new HO1' ho2)
  have HO12 := Lib.hid (own_below hb2 HO1')
  have HO2 := Lib.hid (own_mono (base' := w.heap.size + 2) ho2 (by simpa using hz1))
  clear x0 x1 x2 x3 f0 f1 f2 f3
  have hz2 : w1.heap.size ≤ w2.heap.size := by simpa using hb2.size
  obtain ⟨x0, x1, x2, x3⟩ := b2.out.c4
  obtain ⟨f0, f1, f2, f3⟩ := b2.out.f4
  obtain ⟨y0, y1, y2, y3⟩ := r2.out.c4
  obtain ⟨g0, g1, g2, g3⟩ := r2.out.f4
  clear ho2 hb2 HO1'
  go_wp2_with fail
  refine bodyPost_ret (v := .agg #[.slice A1 W.length k1, .int .i64 q, .slice A2 D.length k2, .int .i64 t]) (by simp [results, Try.results13, go_sem, x0, x1, x2, x3, y0, y1, y2, y3]) rfl ⟨A1, k1, A2, k2, rfl, ?_, ?_, AP.out, (by repeat (first | with_reducible exact Below.refl _ _ | with_reducible refine Below.drew ?_ | with_reducible refine below_drewN ?_ _ | with_reducible refine bal ?_ _ | with_reducible refine bset ?_ (by first | (simp; done) | (simp; omega)) _ | with_reducible refine bnext ?_ (by assumption) | with_reducible assumption))⟩
  · refine own_mono (base := w.heap.size + 2) ?_ (by omega)
    repeat (first | with_reducible exact HO12.out | with_reducible refine ownsRow_setCell_below ?_ (by simp) _)
  · refine own_mono (base := w.heap.size + 2) ?_ (by omega)
    repeat (first | with_reducible exact HO2.out | with_reducible refine ownsRow_setCell_below ?_ (by simp) _)
end Go.Proofs.Ythkfdfkjenhjmaa
