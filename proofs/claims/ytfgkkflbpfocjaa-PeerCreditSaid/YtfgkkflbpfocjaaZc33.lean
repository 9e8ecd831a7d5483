/- Two peers, two boots and the frames under way in one block: what is loaded from it, what is stored into it. -/
import Derived.Test.YtfgkkflbpfocjaaZc32
import Derived.Test.YtfgkkflbpfocjaaZc29
namespace Go.Proofs.Ytfgkkflbpfocjaa
open Go.RowKit
set_option linter.unusedVariables false
set_option linter.unusedSimpArgs false

def Fr.cells (f : Fr) : List Value := [.int .i64 f.kind, .int .i64 f.frm, .int .i64 f.to, .int .u64 f.mine, .int .u64 f.yours, .int .u64 f.a, .int .u64 f.b, .int .i64 f.inode, .int .u64 f.iseq, .int .i64 f.ioff, .int .i64 f.bn.node, .int .u64 f.bn.seq, .int .i64 f.bn.off, .int .i64 f.bn.dest, .int .i64 f.bn.prio, .int .i64 f.bn.born, .int .i64 f.bn.life, .int .i64 f.bn.total, .string f.bn.data]
theorem fr19 (x : Fr) : x.cells.length = 19 := rfl
theorem fr_val (x : Fr) : x.val = .agg x.cells.toArray := rfl
theorem fr_one : ∀ x : Fr, ∀ u ∈ x.cells, u.oneCell' = true := by
  intro x u hu
  simp [Fr.cells] at hu
  rcases hu with rfl | rfl | rfl | rfl | rfl | rfl | rfl | rfl | rfl | rfl | rfl | rfl | rfl | rfl | rfl | rfl | rfl | rfl | rfl <;> rfl
theorem infoFr : (Try.prog.info? 51).map (fun i => (i.zero, i.size, i.bytes)) = some (some zFr.val, 19, 160) := by kernel_rfl
/-- the cells of a pair -/
def mkP (S R : Array Value) (bs br : Int) (Vw : Value) : Array Value := S ++ R ++ #[.int .u64 bs, .int .u64 br, Vw]
section
variable {S R : Array Value} {bs br : Int} {Vw : Value}
theorem mkP_size (hS : S.size = 13) (hR : R.size = 13) : (mkP S R bs br Vw).size = 29 := by simp [mkP, hS, hR]
theorem mkP_s (hS : S.size = 13) {i : Nat} (hi : i < 13) : (mkP S R bs br Vw)[i]? = S[i]? := by
  unfold mkP
  rw [Array.append_assoc, Array.getElem?_append_left (by omega)]
theorem mkP_r (hS : S.size = 13) (hR : R.size = 13) {i : Nat} (hi : i < 13) : (mkP S R bs br Vw)[13 + i]? = R[i]? := by
  unfold mkP
  rw [Array.append_assoc, Array.getElem?_append_right (by omega), Array.getElem?_append_left (by omega), hS, Nat.add_sub_cancel_left]
theorem mkP_e (hS : S.size = 13) (hR : R.size = 13) (i : Nat) : (mkP S R bs br Vw)[26 + i]? = (#[Value.int .u64 bs, .int .u64 br, Vw])[i]? := by
  unfold mkP
  rw [Array.getElem?_append_right (by simp [hS, hR])]
  congr 1
  simp [hS, hR]
theorem wr_ext {C D : Array Value} (h : C.size = D.size) (l : List Value) (o : Nat) (hl : o + l.length ≤ D.size) (h1 : ∀ i, i < l.length → D[o + i]? = l[i]?) (h2 : ∀ i, i < D.size → ¬ (o ≤ i ∧ i < o + l.length) → C[i]? = D[i]?) : writeL C o l = D := by
  refine Array.ext_getElem? fun i => ?_
  by_cases hi : i < C.size
  · rw [writeL_get _ _ _ _ hi]
    by_cases h3 : o ≤ i ∧ i < o + l.length
    · rw [if_pos h3, ← h1 (i - o) (by omega), show o + (i - o) = i by omega]
    · rw [if_neg h3]; exact h2 i (by omega) h3
  · rw [Array.getElem?_eq_none (by rw [writeL_size]; omega), Array.getElem?_eq_none (by omega)]
theorem mkP_eq {S' R' : Array Value} {bs' br' : Int} {Vw' : Value} (hS : S.size = 13) (hR : R.size = 13) (hS' : S'.size = 13) (hR' : R'.size = 13) {i : Nat} (hi : i < 29)
    (h1 : i < 13 → S[i]? = S'[i]?) (h2 : 13 ≤ i → i < 26 → R[i - 13]? = R'[i - 13]?) (h3 : i = 26 → bs = bs') (h4 : i = 27 → br = br') (h5 : i = 28 → Vw = Vw') : (mkP S R bs br Vw)[i]? = (mkP S' R' bs' br' Vw')[i]? := by
  by_cases c1 : i < 13
  · rw [mkP_s hS c1, mkP_s hS' c1]; exact h1 c1
  · by_cases c2 : i < 26
    · have e : i = 13 + (i - 13) := by omega
      rw [e, mkP_r hS hR (by omega), mkP_r hS' hR' (by omega)]
      exact h2 (by omega) c2
    · have e : i = 26 + (i - 26) := by omega
      rw [e, mkP_e hS hR, mkP_e hS' hR']
      by_cases c3 : i = 26
      · subst c3; rw [h3 rfl]; rfl
      · by_cases c4 : i = 27
        · subst c4; rw [h4 rfl]; rfl
        · obtain rfl : i = 28 := by omega
          rw [h5 rfl]; rfl
theorem wr_s {S' : Array Value} (hS : S.size = 13) (hR : R.size = 13) (hS' : S'.size = 13) : writeL (mkP S R bs br Vw) 0 S'.toList = mkP S' R bs br Vw := by
  refine wr_ext (by rw [mkP_size hS hR, mkP_size hS' hR]) _ _ (by rw [mkP_size hS' hR]; simp; omega) (fun i hi => ?_) fun i hi hn => ?_
  · have hi : i < 13 := by simpa [hS'] using hi
    rw [Nat.zero_add, mkP_s hS' hi]; simp
  · rw [mkP_size hS' hR] at hi
    have hn : ¬ i < 13 := by simpa [hS'] using hn
    exact mkP_eq hS hR hS' hR hi (fun c => absurd c hn) (fun _ _ => rfl) (fun _ => rfl) (fun _ => rfl) (fun _ => rfl)
theorem wr_r {R' : Array Value} (hS : S.size = 13) (hR : R.size = 13) (hR' : R'.size = 13) : writeL (mkP S R bs br Vw) 13 R'.toList = mkP S R' bs br Vw := by
  refine wr_ext (by rw [mkP_size hS hR, mkP_size hS hR']) _ _ (by rw [mkP_size hS hR']; simp; omega) (fun i hi => ?_) fun i hi hn => ?_
  · have hi : i < 13 := by simpa [hR'] using hi
    rw [mkP_r hS hR' hi]; simp
  · rw [mkP_size hS hR'] at hi
    have hn : 13 ≤ i → ¬ i < 13 + 13 := by simpa [hR'] using hn
    exact mkP_eq hS hR hS hR' hi (fun _ => rfl) (fun a b => absurd b (hn a)) (fun _ => rfl) (fun _ => rfl) (fun _ => rfl)
/-- a part of a peer is set: as a whole peer -/
theorem wr_part {o : Nat} {l : List Value} (hS : S.size = 13) (hR : R.size = 13) (hl : o + l.length ≤ 13) : writeL (mkP S R bs br Vw) o l = mkP (writeL S o l) R bs br Vw := by
  refine wr_ext (by rw [mkP_size hS hR, mkP_size (by rw [writeL_size, hS]) hR]) _ _ (by rw [mkP_size (by rw [writeL_size, hS]) hR]; omega) (fun i hi => ?_) fun i hi hn => ?_
  · rw [mkP_s (by rw [writeL_size, hS]) (by omega), writeL_get _ _ _ _ (by omega), if_pos (by omega), Nat.add_sub_cancel_left]
  · rw [mkP_size (by rw [writeL_size, hS]) hR] at hi
    exact mkP_eq hS hR (by rw [writeL_size, hS]) hR hi (fun c => by rw [writeL_get _ _ _ _ (by omega), if_neg hn]) (fun _ _ => rfl) (fun _ => rfl) (fun _ => rfl) (fun _ => rfl)
theorem wr_partR {o : Nat} {l : List Value} (hS : S.size = 13) (hR : R.size = 13) (hl : o + l.length ≤ 13) : writeL (mkP S R bs br Vw) (13 + o) l = mkP S (writeL R o l) bs br Vw := by
  refine wr_ext (by rw [mkP_size hS hR, mkP_size hS (by rw [writeL_size, hR])]) _ _ (by rw [mkP_size hS (by rw [writeL_size, hR])]; omega) (fun i hi => ?_) fun i hi hn => ?_
  · rw [Nat.add_assoc, mkP_r hS (by rw [writeL_size, hR]) (by omega), writeL_get _ _ _ _ (by omega), if_pos (by omega), Nat.add_sub_cancel_left]
  · rw [mkP_size hS (by rw [writeL_size, hR])] at hi
    exact mkP_eq hS hR hS (by rw [writeL_size, hR]) hi (fun _ => rfl) (fun a b => by rw [writeL_get _ _ _ _ (by omega), if_neg (by omega)]) (fun _ => rfl) (fun _ => rfl) (fun _ => rfl)
theorem wr_bs {b : Int} (hS : S.size = 13) (hR : R.size = 13) : (mkP S R bs br Vw).setIfInBounds 26 (.int .u64 b) = mkP S R b br Vw := by
  have := wr_ext (C := mkP S R bs br Vw) (D := mkP S R b br Vw) (by rw [mkP_size hS hR, mkP_size hS hR]) [.int .u64 b] 26 (by rw [mkP_size hS hR]; exact Nat.le_of_ble_eq_true rfl) (fun i hi => by
    obtain rfl : i = 0 := by simpa using hi
    rw [mkP_e hS hR]; rfl) (fun i hi hn => by
    rw [mkP_size hS hR] at hi
    simp at hn
    exact mkP_eq hS hR hS hR hi (fun _ => rfl) (fun _ _ => rfl) (fun c => by omega) (fun _ => rfl) (fun _ => rfl))
  exact this
theorem wr_br {b : Int} (hS : S.size = 13) (hR : R.size = 13) : (mkP S R bs br Vw).setIfInBounds 27 (.int .u64 b) = mkP S R bs b Vw := by
  have := wr_ext (C := mkP S R bs br Vw) (D := mkP S R bs b Vw) (by rw [mkP_size hS hR, mkP_size hS hR]) [.int .u64 b] 27 (by rw [mkP_size hS hR]; exact Nat.le_of_ble_eq_true rfl) (fun i hi => by
    obtain rfl : i = 0 := by simpa using hi
    exact (mkP_e hS hR 1).trans rfl) (fun i hi hn => by
    rw [mkP_size hS hR] at hi
    simp at hn
    exact mkP_eq hS hR hS hR hi (fun _ => rfl) (fun _ _ => rfl) (fun _ => rfl) (fun c => by omega) (fun _ => rfl))
  exact this
theorem wr_w {V : Value} (hS : S.size = 13) (hR : R.size = 13) : (mkP S R bs br Vw).setIfInBounds 28 V = mkP S R bs br V := by
  have := wr_ext (C := mkP S R bs br Vw) (D := mkP S R bs br V) (by rw [mkP_size hS hR, mkP_size hS hR]) [V] 28 (by rw [mkP_size hS hR]; exact Nat.le_of_ble_eq_true rfl) (fun i hi => by
    obtain rfl : i = 0 := by simpa using hi
    exact (mkP_e hS hR 2).trans rfl) (fun i hi hn => by
    rw [mkP_size hS hR] at hi
    simp at hn
    exact mkP_eq hS hR hS hR hi (fun _ => rfl) (fun _ _ => rfl) (fun _ => rfl) (fun _ => rfl) (fun c => by omega))
  exact this
end
theorem PrN.size {X : Nat → Prop} {w : World} {C : Array Value} {p : Pr} (h : PrN X w (.agg C) p) : C.size = 13 := by
  obtain ⟨_, _, _, _, _, _, e, _⟩ := h
  cases e; rfl
theorem PrN.one {X : Nat → Prop} {w : World} {C : Array Value} {p : Pr} (h : PrN X w (.agg C) p) : C.all (·.oneCell') = true := by
  obtain ⟨_, _, _, _, _, _, e, _⟩ := h
  cases e; kernel_rfl
def Xp (xb : Nat) (Vw : Value) (E : Nat → Prop) : Nat → Prop := fun b => b = xb ∨ Vw.ownBlock = some b ∨ E b
def NoE : Nat → Prop := fun _ => False
/-- the pair lies in block xb; its rows lie in none of E -/
structure PX (E : Nat → Prop) (w : World) (xb : Nat) (S R : Array Value) (bs br : Int) (Vw : Value) (p q : Pr) (way : List Fr) : Prop where
  b : Blk w xb 42 (mkP S R bs br Vw)
  s : PrN (Xp xb Vw E) w (.agg S) p
  r : PrN (Xp xb Vw E) w (.agg R) q
  o : w.ownsRow (xb + 1) 51 19 Vw way.length (fl Fr.cells way)
  ne : ∀ g, E g → g ≠ xb ∧ Vw.ownBlock ≠ some g
section
variable {E : Nat → Prop} {w w' : World} {xb : Nat} {S R : Array Value} {bs br : Int} {Vw : Value} {p q : Pr} {way : List Fr}
theorem PX.below (h : PX E w xb S R bs br Vw p q way) (hb : Below w.heap.size w w') : PX E w' xb S R bs br Vw p q way :=
  ⟨h.b.below hb, h.s.below hb, h.r.below hb, own_below hb h.o, h.ne⟩
theorem PX.alloc (h : PX E w xb S R bs br Vw p q way) (o : Obj) : PX E (w.alloc o) xb S R bs br Vw p q way := h.below ((Below.refl _ _).alloc (Nat.le_refl _) o)
theorem PX.drew (h : PX E w xb S R bs br Vw p q way) : PX E w.drew xb S R bs br Vw p q way := h.below (Below.refl _ _).drew
theorem PX.drewN (h : PX E w xb S R bs br Vw p q way) (n : Nat) : PX E (w.drewN n) xb S R bs br Vw p q way := h.below (below_drewN (Below.refl _ _) n)
theorem PX.noE (h : PX E w xb S R bs br Vw p q way) : PX NoE w xb S R bs br Vw p q way :=
  ⟨h.b, h.s.more (fun b _ hb => by rcases hb with a | a | a; exact .inl a; exact .inr (.inl a); exact absurd a id), h.r.more (fun b _ hb => by rcases hb with a | a | a; exact .inl a; exact .inr (.inl a); exact absurd a id), h.o, fun _ c => absurd c id⟩
theorem PX.lt (h : PX E w xb S R bs br Vw p q way) : xb < w.heap.size := h.b.lt
/-- a new block is none of the pair's -/
theorem PX.allocE (h : PX NoE w xb S R bs br Vw p q way) (o : Obj) : PX (fun g => g = w.heap.size) (w.alloc o) xb S R bs br Vw p q way := by
  have hX : ∀ b, b < w.heap.size → Xp xb Vw (fun g => g = w.heap.size) b → Xp xb Vw NoE b := fun b hb c => by
    rcases c with a | a | a
    · exact .inl a
    · exact .inr (.inl a)
    · exact absurd a (by omega)
  have hb := (Below.refl w.heap.size w).alloc (Nat.le_refl _) o
  refine ⟨h.b.alloc o, (h.s.more hX).below hb, (h.r.more hX).below hb, h.o.alloc o, ?_⟩
  rintro g rfl
  refine ⟨by have := h.lt; omega, fun c => ?_⟩
  have := (h.o.lt _ c).2
  omega
theorem PX.far (h : PX E w xb S R bs br Vw p q way) {g : Nat} (hg : E g) (l : List Value) (o : Nat) : PX E (w.setCells g o l) xb S R bs br Vw p q way := by
  refine ⟨h.b.farAll (fun c => (h.ne g hg).1 c.symm) l o, h.s.setCells (.inr (.inr hg)) l o, h.r.setCells (.inr (.inr hg)) l o, ?_, h.ne⟩
  have key : ∀ (l : List Value) (o : Nat) {w : World}, w.ownsRow (xb + 1) 51 19 Vw way.length (fl Fr.cells way) → (w.setCells g o l).ownsRow (xb + 1) 51 19 Vw way.length (fl Fr.cells way) := by
    intro l
    induction l with
    | nil => intro o w h; exact h
    | cons v r ih =>
      intro o w h'
      refine ih (o + 1) (h'.kept (row := some g) ⟨rfl, rfl, rfl, by simp [World.setCell], fun k _ hk => Below.heap_setCell _ _ _ _ (fun e => hk (by rw [e]))⟩ (.inr (h.ne g hg).2))
  exact key l o h.o
theorem PX.keepO (h : PX E w xb S R bs br Vw p q way) : ∀ (l : List Value) (o : Nat), (w.setCells xb o l).ownsRow (xb + 1) 51 19 Vw way.length (fl Fr.cells way) := by
  have hk : Vw.ownBlock ≠ some xb := fun c => by have := (h.o.lt _ c).1; omega
  have key : ∀ (l : List Value) (o : Nat) {w : World}, w.ownsRow (xb + 1) 51 19 Vw way.length (fl Fr.cells way) → (w.setCells xb o l).ownsRow (xb + 1) 51 19 Vw way.length (fl Fr.cells way) := by
    intro l
    induction l with
    | nil => intro o w h; exact h
    | cons v r ih =>
      intro o w h'
      exact ih (o + 1) (h'.kept (row := some xb) ⟨rfl, rfl, rfl, by simp [World.setCell], fun k _ hk => Below.heap_setCell _ _ _ _ (fun e => hk (by rw [e]))⟩ (.inr hk))
  exact fun l o => key l o h.o
/-- a peer is stored -/
theorem PX.setS (h : PX E w xb S R bs br Vw p q way) {S' : Array Value} {p' : Pr} (hs : PrN (Xp xb Vw E) w (.agg S') p') : PX E (w.setCells xb 0 S'.toList) xb S' R bs br Vw p' q way := by
  have k := Blk.setCells S'.toList 0 h.b
  rw [wr_s h.s.size h.r.size hs.size] at k
  exact ⟨k, hs.setCells (.inl rfl) _ _, h.r.setCells (.inl rfl) _ _, h.keepO _ _, h.ne⟩
theorem PX.setR (h : PX E w xb S R bs br Vw p q way) {R' : Array Value} {q' : Pr} (hr : PrN (Xp xb Vw E) w (.agg R') q') : PX E (w.setCells xb 13 R'.toList) xb S R' bs br Vw p q' way := by
  have k := Blk.setCells R'.toList 13 h.b
  rw [wr_r h.s.size h.r.size hr.size] at k
  exact ⟨k, h.s.setCells (.inl rfl) _ _, hr.setCells (.inl rfl) _ _, h.keepO _ _, h.ne⟩
/-- a part of a peer is stored -/
theorem PX.partS (h : PX E w xb S R bs br Vw p q way) {o : Nat} {l : List Value} (hl : o + l.length ≤ 13) {S' : Array Value} (e : writeL S o l = S') {p' : Pr} (hs : PrN (Xp xb Vw E) w (.agg S') p') : PX E (w.setCells xb o l) xb S' R bs br Vw p' q way := by
  have k := Blk.setCells l o h.b
  rw [wr_part h.s.size h.r.size hl, e] at k
  exact ⟨k, hs.setCells (.inl rfl) _ _, h.r.setCells (.inl rfl) _ _, h.keepO _ _, h.ne⟩
theorem PX.partR (h : PX E w xb S R bs br Vw p q way) {o : Nat} {l : List Value} (hl : o + l.length ≤ 13) {R' : Array Value} (e : writeL R o l = R') {q' : Pr} (hr : PrN (Xp xb Vw E) w (.agg R') q') : PX E (w.setCells xb (13 + o) l) xb S R' bs br Vw p q' way := by
  have k := Blk.setCells l (13 + o) h.b
  rw [wr_partR h.s.size h.r.size hl, e] at k
  exact ⟨k, h.s.setCells (.inl rfl) _ _, hr.setCells (.inl rfl) _ _, h.keepO _ _, h.ne⟩
theorem PX.setBs (h : PX E w xb S R bs br Vw p q way) (b : Int) : PX E (w.setCell ⟨xb, 26, none⟩ (.int .u64 b)) xb S R b br Vw p q way := by
  have k := h.b.set 26 (.int .u64 b)
  rw [wr_bs h.s.size h.r.size] at k
  exact ⟨k, h.s.set (g := xb) (.inl rfl) 26 _, h.r.set (g := xb) (.inl rfl) 26 _, h.keepO [_] 26, h.ne⟩
theorem PX.setBr (h : PX E w xb S R bs br Vw p q way) (b : Int) : PX E (w.setCell ⟨xb, 27, none⟩ (.int .u64 b)) xb S R bs b Vw p q way := by
  have k := h.b.set 27 (.int .u64 b)
  rw [wr_br h.s.size h.r.size] at k
  exact ⟨k, h.s.set (g := xb) (.inl rfl) 27 _, h.r.set (g := xb) (.inl rfl) 27 _, h.keepO [_] 27, h.ne⟩
theorem PX.there (h : PX E w xb S R bs br Vw p q way) (o n : Nat) (hn : o + n ≤ 29) : w.there xb o n := h.b.there o n (by rw [mkP_size h.s.size h.r.size]; exact hn)
theorem PX.rngS (h : PX E w xb S R bs br Vw p q way) : w.rangeAt xb 0 S.toList := fun j v hv => by
  have hj : j < 13 := by have := (List.getElem?_eq_some_iff.1 hv).1; rw [Array.length_toList, h.s.size] at this; exact this
  rw [Nat.zero_add, h.b.cell, mkP_s h.s.size hj, ← hv]; simp
theorem PX.rngR (h : PX E w xb S R bs br Vw p q way) : w.rangeAt xb 13 R.toList := fun j v hv => by
  have hj : j < 13 := by have := (List.getElem?_eq_some_iff.1 hv).1; rw [Array.length_toList, h.r.size] at this; exact this
  rw [h.b.cell, mkP_r h.s.size h.r.size hj, ← hv]; simp
theorem PX.cS (h : PX E w xb S R bs br Vw p q way) {i : Nat} (hi : i < 13) : w.cell? ⟨xb, i, none⟩ = S[i]? := by rw [h.b.cell, mkP_s h.s.size hi]
theorem PX.cR (h : PX E w xb S R bs br Vw p q way) {i : Nat} (hi : i < 13) : w.cell? ⟨xb, 13 + i, none⟩ = R[i]? := by rw [h.b.cell, mkP_r h.s.size h.r.size hi]
theorem PX.c26 (h : PX E w xb S R bs br Vw p q way) : w.cell? ⟨xb, 26, none⟩ = some (.int .u64 bs) := by rw [h.b.cell, mkP_e h.s.size h.r.size 0]; rfl
theorem PX.c27 (h : PX E w xb S R bs br Vw p q way) : w.cell? ⟨xb, 27, none⟩ = some (.int .u64 br) := by rw [h.b.cell, mkP_e h.s.size h.r.size 1]; rfl
theorem PX.c28 (h : PX E w xb S R bs br Vw p q way) : w.cell? ⟨xb, 28, none⟩ = some Vw := by rw [h.b.cell, mkP_e h.s.size h.r.size 2]; rfl
theorem PX.fz (h : PX E w xb S R bs br Vw p q way) (i : Nat) : w.frozen? ⟨xb, i, none⟩ = false := h.b.frozen i
theorem PX.ofB (h : PX E w xb S R bs br Vw p q way) {w0 : World} {V : Value} {p' : Pr} (hp : PrB w0.heap.size w V p') (h0 : xb < w0.heap.size) (h1 : ∀ b, Vw.ownBlock = some b → b < w0.heap.size) (h2 : ∀ b, E b → b < w0.heap.size) : PrN (Xp xb Vw E) w V p' :=
  .ofB hp fun b hb c => by
    rcases c with a | a | a
    · omega
    · have := h1 b a; omega
    · have := h2 b a; omega
end
end Go.Proofs.Ytfgkkflbpfocjaa

