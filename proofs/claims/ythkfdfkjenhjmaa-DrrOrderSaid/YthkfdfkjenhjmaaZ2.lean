/- What the reference's order knows of its cells. -/
import Derived.Test.YthkfdfkjenhjmaaZ
import Derived.Test.YthkfdfkjenhjmaaN
import Derived.Laws.OwnMore
namespace Go.Proofs.Ythkfdfkjenhjmaa
open Go.RowKit
set_option linter.unusedVariables false
set_option linter.unusedSimpArgs false

/-- the heads of which k are laid -/
theorem hkk_3 (l : List Wt) (Q : Nat → List Nat) : hkk l Q 3 = hds l Q := rfl
theorem hkk_len (l : List Wt) (Q : Nat → List Nat) (k : Nat) : (hkk l Q k).length = 3 := rfl
theorem hkk_same {l : List Wt} {Q : Nat → List Nat} {k : Nat} (hk : k < 3) (h : hsz l (Q k) = 0) : hkk l Q (k + 1) = hkk l Q k := by
  rw [← hkk_set l Q k hk, h]
  match k, hk with
  | 0, _ => rfl
  | 1, _ => rfl
  | 2, _ => rfl
def oneB (x : Bool) : List Value := [.bool x]
theorem oneB1 (x : Bool) : (oneB x).length = 1 := rfl
theorem bools_fl (T : List Bool) : bools T = fl oneB T := by
  induction T with
  | nil => rfl
  | cons x T ih => rw [fl_cons, ← ih]; rfl
/-- marks in a slice of the call's own -/
def OwnB (w : World) (base g : Nat) (T : List Bool) : Prop := w.ownsRow base 4 1 (.slice (some ⟨g, 0, none⟩) T.length T.length) T.length (bools T)
section
variable {w w' : World} {base g : Nat} {T : List Bool}
theorem OwnB.below (h : OwnB w base g T) (hb : Below w.heap.size w w') : OwnB w' base g T := own_below hb h
theorem OwnB.alloc (h : OwnB w base g T) (o : Obj) : OwnB (w.alloc o) base g T := World.ownsRow.alloc h o
theorem OwnB.drew (h : OwnB w base g T) : OwnB w.drew base g T := World.ownsRow.drew h
theorem OwnB.far (h : OwnB w base g T) {p : Addr} (hp : g ≠ p.block) (u : Value) : OwnB (w.setCell p u) base g T := by
  have hk := Below.heap_setCell w p u
  refine World.ownsRow.kept (row := some p.block) h ⟨rfl, rfl, rfl, by rw [World.size_setCell]; exact Nat.le_refl _, fun k _ hn => hk k (fun e => hn (by rw [e]))⟩ (.inr ?_)
  simp [Value.ownBlock]
  exact hp
theorem OwnB.lt (h : OwnB w base g T) : base ≤ g ∧ g < w.heap.size := World.ownsRow.lt h g rfl
theorem OwnB.at (h : OwnB w base g T) : BoolAt w (.slice (some ⟨g, 0, none⟩) T.length T.length) T := SlAt.own h
theorem OwnB.frozen (h : OwnB w base g T) (p : Nat) : w.frozen? ⟨g, p, none⟩ = false := World.ownsRow.frozenAt h p
theorem OwnB.cell (h : OwnB w base g T) (p : Nat) (hp : p < T.length) : w.cell? ⟨g, p, none⟩ = some (.bool (T.getD p false)) := by
  rw [World.ownsRow.cellAt h p (by omega)]
  exact bools_get hp
theorem OwnB.set (h : OwnB w base g T) (p : Nat) (hp : p < T.length) (x : Bool) : OwnB (w.setCell ⟨g, p, none⟩ (.bool x)) base g (T.set p x) := by
  unfold OwnB at h ⊢
  rw [bools_fl] at h ⊢
  have := own_store oneB1 h p 0 (y := x) (u := .bool x) (List.getElem?_eq_getElem hp) (by decide) rfl
  rw [List.length_set]
  simpa using this
end
theorem infoB : (Try.prog.info? 4).map (fun i => (i.zero, i.size, i.bytes)) = some (some (.bool false), 1, 1) := by kernel_rfl
theorem mkB (n : Nat) : (madeCells #[.bool false] n).toList = bools (List.replicate n false) := by
  refine List.ext_getElem? fun i => ?_
  unfold madeCells bools
  by_cases h : i < n
  · simp [h, Nat.mod_one]
  · simp [h]
theorem mkBool (w : World) (n : Nat) (hn : n ≤ 100000) : (Instr.makeSlice 72 (.int .i64 (n : Int)) (.int .i64 (n : Int))).run Try.prog w = .ok (.slice (some ⟨w.heap.size, 0, none⟩) n n) (w.alloc (.cells (madeCells #[.bool false] n) 4)) := by
  obtain ⟨i0, hi, hz0, hz1, hz2⟩ := info_parts infoB
  have := run_make (P := Try.prog) w 72 4 i0 (.bool false) Try.underlying72 hi hz0 .i64 .i64 n n (by omega) (Int.le_refl _) (by rw [hz2]; omega) (by omega)
  rw [hz1] at this
  simpa [Value.cells] using this
theorem mkOwnB (w : World) (n base : Nat) (hn : n ≤ 100000) (hb : base ≤ w.heap.size) : OwnB (w.alloc (.cells (madeCells #[.bool false] n) 4)) base w.heap.size (List.replicate n false) := by
  have := World.ownsRow_lit (base := base) (e := 4) (size := 1) w (madeCells #[.bool false] n) n hb (by unfold maxLen; omega) (by rw [size_madeCells, Nat.mul_one])
  unfold OwnB
  rw [List.length_replicate, ← mkB]
  exact this

/-- what the reference's order knows of its cells -/
structure RK (w wx : World) (g3 g7 gT base : Nat) (T : List Bool) (vo : Value) (out : List Nat) (d : Dr) (gw cw gd cd : Nat) : Prop where
  b3 : Blk wx g3 24 #[.slice (some ⟨gw, 0, none⟩) 3 cw, .int .i64 d.q, .slice (some ⟨gd, 0, none⟩) 3 cd, .int .i64 d.t]
  rW : Row3 wx base gw cw d.W
  rD : Row3 wx base gd cd d.D
  b7 : Blk wx g7 24 #[.slice none 0 0, .int .i64 0, .slice none 0 0, .int .i64 0]
  bt : OwnB wx base gT T
  bo : OwnI wx base vo (nums out)
  hB : Below w.heap.size w wx
  n1 : gw ≠ gT
  n2 : gd ≠ gT
  n4 : ∀ k, vo.ownBlock = some k → k ≠ gw ∧ k ≠ gd ∧ k ≠ gT
  l3 : g3 < base
  l7 : g7 < base
  n5 : g3 ≠ g7
  k3 : w.heap.size ≤ g3
  k7 : w.heap.size ≤ g7
section
variable {w wx wy : World} {g3 g7 gT base gw cw gd cd : Nat} {T : List Bool} {vo : Value} {out : List Nat} {d : Dr}
theorem RK.below (h : RK w wx g3 g7 gT base T vo out d gw cw gd cd) (hb : Below wx.heap.size wx wy) : RK w wy g3 g7 gT base T vo out d gw cw gd cd :=
  ⟨h.b3.below hb, h.rW.below hb, h.rD.below hb, h.b7.below hb, h.bt.below hb, h.bo.below hb, bnext h.hB hb, h.n1, h.n2, h.n4, h.l3, h.l7, h.n5, h.k3, h.k7⟩
theorem RK.alloc (h : RK w wx g3 g7 gT base T vo out d gw cw gd cd) (o : Obj) : RK w (wx.alloc o) g3 g7 gT base T vo out d gw cw gd cd := h.below ((Below.refl _ _).alloc (Nat.le_refl _) o)
theorem RK.drew (h : RK w wx g3 g7 gT base T vo out d gw cw gd cd) : RK w wx.drew g3 g7 gT base T vo out d gw cw gd cd := h.below ((Below.refl _ _).drew)
theorem RK.v (h : RK w wx g3 g7 gT base T vo out d gw cw gd cd) : DrV wx (.agg #[.slice (some ⟨gw, 0, none⟩) 3 cw, .int .i64 d.q, .slice (some ⟨gd, 0, none⟩) 3 cd, .int .i64 d.t]) d := ⟨_, _, rfl, h.rW.at, h.rD.at⟩
theorem RK.setT (h : RK w wx g3 g7 gT base T vo out d gw cw gd cd) (i : Nat) (hi : i < T.length) (x : Bool) : RK w (wx.setCell ⟨gT, i, none⟩ (.bool x)) g3 g7 gT base (T.set i x) vo out d gw cw gd cd := by
  have l3 := h.l3
  have l7 := h.l7
  have lT := h.bt.lt
  have k3 := h.k3
  exact ⟨h.b3.far (by show g3 ≠ gT; omega) _, h.rW.far h.n1 _, h.rD.far h.n2 _, h.b7.far (by show g7 ≠ gT; omega) _, h.bt.set i hi x, h.bo.far _ (fun e => (h.n4 _ e).2.2 rfl) _, bset h.hB (by show w.heap.size ≤ gT; omega) _, h.n1, h.n2, h.n4, h.l3, h.l7, h.n5, h.k3, h.k7⟩
theorem RK.app (h : RK w wx g3 g7 gT base T vo out d gw cw gd cd) {v' : Value} {out' : List Nat} (hg : wx.grownBy wy vo.ownBlock) (hv : ∀ k, v'.ownBlock = some k → vo.ownBlock = some k ∨ (k ≠ gw ∧ k ≠ gd ∧ k ≠ gT)) (ho : OwnI wy base v' (nums out')) : RK w wy g3 g7 gT base T v' out' d gw cw gd cd := by
  have l3 := h.l3
  have l7 := h.l7
  have lT := h.bt.lt
  have k3 := h.k3
  have lo : ∀ k, vo.ownBlock = some k → base ≤ k := fun k hk => (World.ownsRow.lt h.bo k hk).1
  have lw := h.rW.lt
  have ld := h.rD.lt
  have own : ∀ {b e s n : Nat} {v : Value} {xs : List Value}, wx.ownsRow b e s v n xs → (∀ g, v.ownBlock = some g → vo.ownBlock ≠ some g) → wy.ownsRow b e s v n xs := fun {b e s n v xs} ho hn => by
    refine World.ownsRow.kept ho hg ?_
    cases hv : v.ownBlock with
    | none => exact .inl rfl
    | some g => exact .inr (fun e => hn g hv e.symm)
  refine ⟨blk_grown h.b3 hg (fun k hk => by have := lo k hk; omega), own h.rW (fun g e c => ?_), own h.rD (fun g e c => ?_), blk_grown h.b7 hg (fun k hk => by have := lo k hk; omega), own h.bt (fun g e c => ?_), ho, h.hB.grown hg (by have := h.hB.size; omega) (fun k hk => by have := lo k hk; omega), h.n1, h.n2, fun k hk => ?_, h.l3, h.l7, h.n5, h.k3, h.k7⟩
  · have := (h.n4 g c).1
    simp [Value.ownBlock] at e
    exact this e.symm
  · have := (h.n4 g c).2.1
    simp [Value.ownBlock] at e
    exact this e.symm
  · have := (h.n4 g c).2.2
    simp [Value.ownBlock] at e
    exact this e.symm
  · rcases hv k hk with a | a
    · exact h.n4 k a
    · exact a
theorem RK.app1 (h : RK w wx g3 g7 gT base T vo out d gw cw gd cd) {i n c9 : Nat} {A9 : Option Addr} (hg : (wx.alloc (.cells (one (i : Int)).toArray 3)).grownBy wy vo.ownBlock) (hv : ∀ k, (Value.slice A9 n c9).ownBlock = some k → vo.ownBlock = some k ∨ wx.heap.size ≤ k)
    (ho : wy.ownsRow base 3 1 (.slice A9 n c9) (nums out ++ [(i : Int)]).length (fl one (nums out ++ [(i : Int)]))) : RK w wy g3 g7 gT base T (.slice A9 n c9) (out ++ [i]) d gw cw gd cd := by
  have e1 : nums (out ++ [i]) = nums out ++ [(i : Int)] := by simp [nums]
  have lT := h.bt.lt
  have lw := h.rW.lt
  have ld := h.rD.lt
  refine (h.alloc (.cells (one (i : Int)).toArray 3)).app (out' := out ++ [i]) hg (fun k e => ?_) ?_
  · rcases hv k e with a | a
    · exact .inl a
    · exact .inr ⟨by omega, by omega, by omega⟩
  · rw [e1]
    unfold OwnI
    rw [List.length_append, List.length_singleton] at ho ⊢
    exact ho
/-- another state in its place -/
theorem RK.state (h : RK w wx g3 g7 gT base T vo out d gw cw gd cd) {d' : Dr} {gw' cw' gd' cd' : Nat} (hW : Row3 wx base gw' cw' d'.W) (hD : Row3 wx base gd' cd' d'.D) (n1 : gw' ≠ gT) (n2 : gd' ≠ gT) (n4 : ∀ k, vo.ownBlock = some k → k ≠ gw' ∧ k ≠ gd') :
    RK w ((((wx.setCell ⟨g3, 0, none⟩ (.slice (some ⟨gw', 0, none⟩) 3 cw')).setCell ⟨g3, 1, none⟩ (.int .i64 d'.q)).setCell ⟨g3, 2, none⟩ (.slice (some ⟨gd', 0, none⟩) 3 cd')).setCell ⟨g3, 3, none⟩ (.int .i64 d'.t)) g3 g7 gT base T vo out d' gw' cw' gd' cd' := by
  have l3 := h.l3
  have l7 := h.l7
  have n5 := h.n5
  have lT := h.bt.lt
  have lw := hW.lt
  have ld := hD.lt
  have k3 := h.k3
  refine ⟨(((h.b3.set 0 _).set 1 _).set 2 _).set 3 _, ?_, ?_, ?_, ?_, ?_, bset (bset (bset (bset h.hB k3 _) k3 _) k3 _) k3 _, n1, n2, fun k hk => ⟨(n4 k hk).1, (n4 k hk).2, (h.n4 k hk).2.2⟩, h.l3, h.l7, h.n5, h.k3, h.k7⟩
  · repeat (first | with_reducible exact hW | with_reducible refine Row3.far ?_ (by show gw' ≠ g3; omega) _)
  · repeat (first | with_reducible exact hD | with_reducible refine Row3.far ?_ (by show gd' ≠ g3; omega) _)
  · repeat (first | with_reducible exact h.b7 | with_reducible refine Blk.far ?_ (by show g7 ≠ g3; omega) _)
  · repeat (first | with_reducible exact h.bt | with_reducible refine OwnB.far ?_ (by show gT ≠ g3; omega) _)
  · repeat (first | with_reducible exact h.bo | with_reducible refine OwnI.low ?_ (by show g3 < base; omega) _)
end
end Go.Proofs.Ythkfdfkjenhjmaa
