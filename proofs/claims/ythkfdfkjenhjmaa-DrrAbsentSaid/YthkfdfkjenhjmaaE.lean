/- A state in memory, its rows; equal numbers. -/
import Derived.Test.YthkfdfkjenhjmaaD2
import Derived.StillTailTactics
namespace Go.Proofs.Ythkfdfkjenhjmaa
open Go.RowKit
set_option linter.unusedVariables false
set_option linter.unusedSimpArgs false

/-- three numbers in block g -/
def Row3 (w : World) (B g c : Nat) (D : List Int) : Prop := w.ownsRow B 3 1 (.slice (some ⟨g, 0, none⟩) 3 c) 3 (ints D)
section
variable {w w' : World} {B g c : Nat} {D : List Int}
theorem Row3.len (h : Row3 w B g c D) : D.length = 3 := by
  have := h.1
  rw [ints_len] at this
  omega
theorem Row3.lt (h : Row3 w B g c D) : B ≤ g ∧ g < w.heap.size := World.ownsRow.lt h g rfl
theorem Row3.cell (h : Row3 w B g c D) (p : Nat) (hp : p < 3) : w.cell? ⟨g, p, none⟩ = some (.int .i64 (at0 D p)) := by
  have := own_cell one1 h p 0 (at0_get (by rw [h.len]; exact hp)) (by decide)
  simpa [one] using this
theorem Row3.frozen (h : Row3 w B g c D) (p : Nat) : w.frozen? ⟨g, p, none⟩ = false := World.ownsRow.frozenAt h p
theorem Row3.set (h : Row3 w B g c D) (p : Nat) (hp : p < 3) (x : Int) : Row3 (w.setCell ⟨g, p, none⟩ (.int .i64 x)) B g c (D.set p x) := by
  have := own_store one1 h p 0 (y := x) (u := .int .i64 x) (at0_get (by rw [h.len]; exact hp)) (by decide) rfl
  simpa [Row3] using this
theorem Row3.far (h : Row3 w B g c D) {p : Addr} (hp : g ≠ p.block) (u : Value) : Row3 (w.setCell p u) B g c D := by
  have hk := Below.heap_setCell w p u
  refine World.ownsRow.kept (row := some p.block) h ⟨rfl, rfl, rfl, by rw [World.size_setCell]; exact Nat.le_refl _, fun k _ hn => hk k (fun e => hn (by rw [e]))⟩ (.inr ?_)
  simp [Value.ownBlock]
  exact hp
theorem Row3.below (h : Row3 w B g c D) (hb : Below w.heap.size w w') : Row3 w' B g c D := own_below hb h
theorem Row3.alloc (h : Row3 w B g c D) (o : Obj) : Row3 (w.alloc o) B g c D := World.ownsRow.alloc h o
theorem Row3.drew (h : Row3 w B g c D) : Row3 w.drew B g c D := World.ownsRow.drew h
theorem Row3.drewN (h : Row3 w B g c D) (n : Nat) : Row3 (w.drewN n) B g c D := h
theorem Row3.mono {B' : Nat} (h : Row3 w B g c D) (hb : B' ≤ B) : Row3 w B' g c D := own_mono h hb
theorem Row3.at (h : Row3 w B g c D) : IntAt w (.slice (some ⟨g, 0, none⟩) 3 c) D := by
  have := SlAt.own h
  unfold IntAt
  rw [h.len]
  exact this
theorem Row3.own (h : Row3 w B g c D) : OwnI w B (.slice (some ⟨g, 0, none⟩) D.length c) D := by
  unfold OwnI
  rw [h.len]
  exact h
theorem row3_of {A : Option Addr} (h : OwnI w B (.slice A D.length c) D) (h3 : D.length = 3) : ∃ g, A = some ⟨g, 0, none⟩ ∧ Row3 w B g c D := by
  unfold OwnI at h
  rw [h3] at h
  rcases h.2 with ⟨e, _⟩ | ⟨g, cap, cur, e, _⟩
  · simp at e
  · cases e
    exact ⟨g, rfl, h⟩
end
/-- a state in memory of the call's own -/
structure DrAt (w : World) (B ga gw cw gd cd : Nat) (W : List Int) (q : Int) (D : List Int) (t : Int) : Prop where
  blk : Blk w ga 24 #[.slice (some ⟨gw, 0, none⟩) 3 cw, .int .i64 q, .slice (some ⟨gd, 0, none⟩) 3 cd, .int .i64 t]
  rW : Row3 w B gw cw W
  rD : Row3 w B gd cd D
  n1 : gw ≠ gd
  n2 : ga ≠ gw
  n3 : ga ≠ gd
  hB : B ≤ ga
section
variable {w w' : World} {B ga gw cw gd cd : Nat} {W : List Int} {q : Int} {D : List Int} {t : Int}
theorem DrAt.below (h : DrAt w B ga gw cw gd cd W q D t) (hb : Below w.heap.size w w') : DrAt w' B ga gw cw gd cd W q D t := ⟨h.blk.below hb, h.rW.below hb, h.rD.below hb, h.n1, h.n2, h.n3, h.hB⟩
theorem DrAt.alloc (h : DrAt w B ga gw cw gd cd W q D t) (o : Obj) : DrAt (w.alloc o) B ga gw cw gd cd W q D t := ⟨h.blk.alloc o, h.rW.alloc o, h.rD.alloc o, h.n1, h.n2, h.n3, h.hB⟩
theorem DrAt.drew (h : DrAt w B ga gw cw gd cd W q D t) : DrAt w.drew B ga gw cw gd cd W q D t := ⟨h.blk.drew, h.rW.drew, h.rD.drew, h.n1, h.n2, h.n3, h.hB⟩
theorem DrAt.drewN (h : DrAt w B ga gw cw gd cd W q D t) (n : Nat) : DrAt (w.drewN n) B ga gw cw gd cd W q D t := ⟨h.blk.drewN n, h.rW.drewN n, h.rD.drewN n, h.n1, h.n2, h.n3, h.hB⟩
theorem DrAt.setD (h : DrAt w B ga gw cw gd cd W q D t) (p : Nat) (hp : p < 3) (x : Int) : DrAt (w.setCell ⟨gd, p, none⟩ (.int .i64 x)) B ga gw cw gd cd W q (D.set p x) t :=
  ⟨h.blk.far h.n3 _, h.rW.far h.n1 _, h.rD.set p hp x, h.n1, h.n2, h.n3, h.hB⟩
theorem DrAt.setT (h : DrAt w B ga gw cw gd cd W q D t) (t' : Int) : DrAt (w.setCell ⟨ga, 3, none⟩ (.int .i64 t')) B ga gw cw gd cd W q D t' :=
  ⟨h.blk.set 3 _, h.rW.far h.n2.symm _, h.rD.far h.n3.symm _, h.n1, h.n2, h.n3, h.hB⟩
end
theorem arr3 {w : World} {g : Nat} {t : TypeId} {H : List Int} (h : Blk w g t (ints H).toArray) (h3 : H.length = 3) (p : Nat) (hp : p < 3) : w.cell? ⟨g, p, none⟩ = some (.int .i64 (at0 H p)) := by
  rw [h.cell, List.getElem?_toArray, ints_get (at0_get (by rw [h3]; exact hp))]

set_option maxRecDepth 100000 in
set_option maxHeartbeats 2000000 in
theorem SameInts_eq (l : List Int) (v u : Value) (w : World) (hV : IntAt w v l) (hU : IntAt w u l) :
    Calls Try.prog 24 #[v, u] w (RetB true w) := by
  obtain ⟨A, c, rfl, _, hc2, hR⟩ := hV
  obtain ⟨A', c', rfl, _, _, hR'⟩ := hU
  unfold maxLen at hc2
  have HR := Lib.hid hR
  have HR' := Lib.hid hR'
  clear hR hR'
  have t1 : ((l.length : Int) != l.length) = false := by simp
  go_enter Try.func24, Try.ntmps24
  go_wp2_with fail
  go_loopw [5] (fun a wr => ∃ k : Nat, k ≤ l.length ∧ a = .int .i64 k ∧ Below w.heap.size w wr) (fun a _ => l.length - (intOf a).toNat)
  case atStart => exact ⟨0, by omega, rfl, Below.refl _ _⟩
  case round =>
    obtain ⟨k, hk, rfl, hB⟩ := hrel
    by_cases hlt : k < l.length
    · obtain ⟨x, hx⟩ : ∃ x, l[k]? = some x := ⟨_, List.getElem?_eq_getElem hlt⟩
      obtain ⟨b, o, rfl, hb, d0⟩ := reads_at (HR.out.keep hB.size fun b o h => hB.cell (p := ⟨b, o, none⟩) h) (ints_get hx)
      obtain ⟨b', o', rfl, hb', d1⟩ := reads_at (HR'.out.keep hB.size fun b o h => hB.cell (p := ⟨b, o, none⟩) h) (ints_get hx)
      have hi : (k : Int) < l.length := by omega
      have t2 : (x != x) = false := by simp
      clear hx
      go_wp2_with fail
      go_quiet (fail)
      go_wp2_with fail
      go_roundw
      case rel => exact ⟨k + 1, by omega, by go_num, (by repeat (first | with_reducible exact Below.refl _ _ | with_reducible refine Below.drew ?_ | with_reducible refine below_drewN ?_ _ | with_reducible refine bal ?_ _ | with_reducible refine bset ?_ (by first | (simp; done) | (simp; omega)) _ | with_reducible refine bnext ?_ (by assumption) | with_reducible assumption))⟩
      case measure => simp [intOf]; omega
    · obtain rfl : k = l.length := by omega
      go_wp2_with fail
      go_ret
      exact ⟨rfl, hB⟩
end Go.Proofs.Ythkfdfkjenhjmaa
