/- The canvas: pages of bytes; contract: the page of a byte. -/
import Derived.Test.YtcifngefclgefaaC
import Derived.Test.YtcifngefclgefaaOnly
namespace Go.Proofs.Ytcifngefclgefaa
open Go.RowKit
set_option linter.unusedVariables false
set_option linter.unusedSimpArgs false

/-- a page's cells -/
def pgc (P : Nat → Option UInt8) : Array Value := ((List.range 1024).map (fun k => Value.int .u8 ((P k).getD 0).toNat) ++ (List.range 1024).map (fun k => Value.bool (P k).isSome)).toArray
theorem pgc_byte (P : Nat → Option UInt8) {k : Nat} (h : k < 1024) : (pgc P)[k]? = some (.int .u8 ((P k).getD 0).toNat) := by
  unfold pgc
  rw [List.getElem?_toArray, List.getElem?_append_left (by simp [h])]
  simp [h]
theorem pgc_has (P : Nat → Option UInt8) {k : Nat} (h : k < 1024) : (pgc P)[1024 + k]? = some (.bool (P k).isSome) := by
  unfold pgc
  rw [List.getElem?_toArray, List.getElem?_append_right (by simp)]
  simp [h]
theorem pgc_size (P : Nat → Option UInt8) : (pgc P).size = 2048 := by simp [pgc]
theorem pgc_congr {P Q : Nat → Option UInt8} (h : ∀ k, k < 1024 → P k = Q k) : pgc P = pgc Q := by
  apply Array.ext_getElem?
  intro i
  by_cases h1 : i < 1024
  · rw [pgc_byte _ h1, pgc_byte _ h1, h i h1]
  · by_cases h2 : i < 2048
    · obtain ⟨j, rfl⟩ : ∃ j, i = 1024 + j := ⟨i - 1024, by omega⟩
      have hj : j < 1024 := by omega
      rw [pgc_has _ hj, pgc_has _ hj, h j hj]
    · rw [Array.getElem?_eq_none (by rw [pgc_size]; omega), Array.getElem?_eq_none (by rw [pgc_size]; omega)]
/-- one more byte -/
def putP (P : Nat → Option UInt8) (k : Nat) (x : UInt8) : Nat → Option UInt8 := fun j => if j = k then some x else P j
theorem pgc_set (P : Nat → Option UInt8) {k : Nat} (h : k < 1024) (x : UInt8) : ((pgc P).setIfInBounds (1024 + k) (.bool true)).setIfInBounds k (.int .u8 x.toNat) = pgc (putP P k x) := by
  apply Array.ext_getElem?
  intro i
  rw [Array.getElem?_setIfInBounds, Array.getElem?_setIfInBounds, Array.size_setIfInBounds, pgc_size]
  by_cases h1 : i < 1024
  · rw [pgc_byte _ h1, pgc_byte _ h1]
    by_cases e : k = i
    · subst e; rw [if_pos rfl, if_pos (by omega)]; simp [putP]
    · rw [if_neg e, if_neg (by omega)]; simp [putP, fun c => e (Eq.symm c)]
      rw [if_neg (fun c => e c.symm)]
  · by_cases h2 : i < 2048
    · obtain ⟨j, rfl⟩ : ∃ j, i = 1024 + j := ⟨i - 1024, by omega⟩
      have hj : j < 1024 := by omega
      rw [pgc_has _ hj, pgc_has _ hj, if_neg (by omega)]
      by_cases e : k = j
      · subst e; rw [if_pos rfl, if_pos (by omega)]; simp [putP]
      · rw [if_neg (by omega)]; simp [putP]
        rw [if_neg (fun c => e c.symm)]
    · rw [if_neg (by omega), if_neg (by omega), Array.getElem?_eq_none (by rw [pgc_size]; omega), Array.getElem?_eq_none (by rw [pgc_size]; omega)]
/-- a canvas' cells -/
def cvc (G : Nat → Option Nat) : Array Value := ((List.range 20).map fun j => Value.pointer ((G j).map fun g => ⟨g, 0, none⟩)).toArray
theorem cvc_at (G : Nat → Option Nat) {j : Nat} (h : j < 20) : (cvc G)[j]? = some (.pointer ((G j).map fun g => ⟨g, 0, none⟩)) := by
  unfold cvc
  rw [List.getElem?_toArray]
  simp [h]
def putG (G : Nat → Option Nat) (k g : Nat) : Nat → Option Nat := fun j => if j = k then some g else G j
theorem cvc_set (G : Nat → Option Nat) (k g : Nat) : (cvc G).setIfInBounds k (.pointer (some ⟨g, 0, none⟩)) = cvc (putG G k g) := by
  apply Array.ext_getElem?
  intro i
  rw [Array.getElem?_setIfInBounds]
  have hs : (cvc G).size = 20 := by simp [cvc]
  rw [hs]
  by_cases h1 : i < 20
  · rw [cvc_at _ h1, cvc_at _ h1]
    by_cases e : k = i
    · subst e; rw [if_pos rfl, if_pos h1]; simp [putG]
    · rw [if_neg e]; unfold putG; rw [if_neg (fun c => e c.symm)]
  · rw [Array.getElem?_eq_none (xs := cvc (putG G k g)) (by simp [cvc]; omega), Array.getElem?_eq_none (xs := cvc G) (by rw [hs]; omega)]
    split
    · rw [if_neg (by omega)]
    · rfl
theorem buildPage (w : World) : (Instr.build 73 #[]).run Try.prog w = .ok (.agg (pgc fun _ => none)) w := by kernel_rfl
theorem buildCanvas (w : World) : (Instr.build 86 #[]).run Try.prog w = .ok (.agg (cvc fun _ => none)) w := by kernel_rfl
theorem zeroPage (w : World) : (zeroValue 73).run Try.prog w = .ok (.agg (pgc fun _ => none)) w := by kernel_rfl
theorem zeroCanvas (w : World) : (zeroValue 86).run Try.prog w = .ok (.agg (cvc fun _ => none)) w := by kernel_rfl
theorem boxPage (w : World) (cs : Array Value) : (Instr.box 73 (.agg cs)).run Try.prog w = .ok (.pointer (some ⟨w.heap.size, 0, none⟩)) (w.alloc (.cells cs 73)) := by
  go_simp
theorem boxCanvas (w : World) (cs : Array Value) : (Instr.box 86 (.agg cs)).run Try.prog w = .ok (.pointer (some ⟨w.heap.size, 0, none⟩)) (w.alloc (.cells cs 86)) := by
  go_simp
/-- a canvas, with its pages -/
structure CanG (w : World) (gc : Nat) (G : Nat → Option Nat) (C : Nat → Option UInt8) : Prop where
  b : Blk w gc 86 (cvc G)
  pg : ∀ j g, j < 20 → G j = some g → gc < g ∧ Blk w g 73 (pgc fun k => C (j * 1024 + k))
  inj : ∀ i j g, i < 20 → j < 20 → G i = some g → G j = some g → i = j
  no : ∀ j, j < 20 → G j = none → ∀ k, k < 1024 → C (j * 1024 + k) = none
section
variable {w w' : World} {gc : Nat} {G : Nat → Option Nat} {C : Nat → Option UInt8}
theorem CanG.below (h : CanG w gc G C) (hb : Below w.heap.size w w') : CanG w' gc G C := ⟨h.b.below hb, fun j g hj hg => ⟨(h.pg j g hj hg).1, (h.pg j g hj hg).2.below hb⟩, h.inj, h.no⟩
theorem CanG.alloc (h : CanG w gc G C) (o : Obj) : CanG (w.alloc o) gc G C := h.below ((Below.refl _ _).alloc (Nat.le_refl _) o)
theorem CanG.drew (h : CanG w gc G C) : CanG w.drew gc G C := h.below (Below.refl _ _).drew
theorem CanG.drewN (h : CanG w gc G C) (n : Nat) : CanG (w.drewN n) gc G C := h.below (below_drewN (Below.refl _ _) n)
theorem CanG.only {S : Nat → Prop} (h : CanG w gc G C) (ho : Only S w w') (hS : ∀ k, S k → k < gc) : CanG w' gc G C :=
  ⟨h.b.only ho (fun e => by have := hS _ e; omega), fun j g hj hg => ⟨(h.pg j g hj hg).1, (h.pg j g hj hg).2.only ho (fun e => by have := hS _ e; have := (h.pg j g hj hg).1; omega)⟩, h.inj, h.no⟩
theorem CanG.new (w : World) : CanG (w.alloc (.cells (cvc fun _ => none) 86)) w.heap.size (fun _ => none) (fun _ => none) :=
  ⟨Blk.new _ _ _, fun j g hj hg => (by cases hg), fun i j g hi hj hg _ => (by cases hg), fun j hj hg k hk => rfl⟩
/-- a new page -/
theorem CanG.page (h : CanG w gc G C) (j : Nat) (hj : j < 20) (hn : G j = none) : CanG ((w.setCell ⟨gc, j, none⟩ (.pointer (some ⟨w.heap.size, 0, none⟩))).alloc (.cells (pgc fun _ => none) 73)) gc (putG G j w.heap.size) C := by
  have hl := h.b.lt
  refine ⟨?_, fun i g hi hg => ?_, fun a b g ha hb hga hgb => ?_, fun i hi hg k hk => ?_⟩
  · have := (h.b.set j (.pointer (some ⟨w.heap.size, 0, none⟩))).alloc (.cells (pgc fun _ => none) 73)
    rwa [cvc_set] at this
  · unfold putG at hg
    by_cases e : i = j
    · subst e
      rw [if_pos rfl] at hg
      cases hg
      refine ⟨hl, ?_⟩
      have := Blk.new (w.setCell ⟨gc, i, none⟩ (.pointer (some ⟨w.heap.size, 0, none⟩))) 73 (pgc fun _ => none)
      rw [World.size_setCell] at this
      have e : pgc (fun k => C (i * 1024 + k)) = pgc (fun _ => none) := pgc_congr fun k hk => h.no i hi hn k hk
      rw [e]; exact this
    · rw [if_neg e] at hg
      obtain ⟨h1, h2⟩ := h.pg i g hi hg
      exact ⟨h1, (h2.far (by show g ≠ gc; omega) _).alloc _⟩
  · unfold putG at hga hgb
    by_cases ea : a = j
    · by_cases eb : b = j
      · omega
      · rw [if_pos ea] at hga; rw [if_neg eb] at hgb
        cases hga
        have := (h.pg b _ hb hgb).2.lt
        omega
    · by_cases eb : b = j
      · rw [if_neg ea] at hga; rw [if_pos eb] at hgb
        cases hgb
        have := (h.pg a _ ha hga).2.lt
        omega
      · rw [if_neg ea] at hga; rw [if_neg eb] at hgb
        exact h.inj a b g ha hb hga hgb
  · unfold putG at hg
    by_cases e : i = j
    · rw [if_pos e] at hg; cases hg
    · rw [if_neg e] at hg; exact h.no i hi hg k hk
/-- a byte laid -/
theorem CanG.put (h : CanG w gc G C) (j k g : Nat) (hj : j < 20) (hk : k < 1024) (hg : G j = some g) (x : UInt8) : CanG ((w.setCell ⟨g, 1024 + k, none⟩ (.bool true)).setCell ⟨g, k, none⟩ (.int .u8 x.toNat)) gc G (putP C (j * 1024 + k) x) := by
  obtain ⟨hlt, hb⟩ := h.pg j g hj hg
  refine ⟨(h.b.far (by show gc ≠ g; omega) _).far (by show gc ≠ g; omega) _, fun i g' hi hg' => ?_, h.inj, fun i hi hg' m hm => ?_⟩
  · obtain ⟨h1, h2⟩ := h.pg i g' hi hg'
    refine ⟨h1, ?_⟩
    by_cases e : g' = g
    · subst e
      have : i = j := h.inj i j g' hi hj hg' hg
      subst this
      have h3 := (hb.set (1024 + k) (.bool true)).set k (.int .u8 x.toNat)
      rw [pgc_set _ hk] at h3
      have e : (putP (fun m => C (i * 1024 + m)) k x) = fun m => putP C (i * 1024 + k) x (i * 1024 + m) := by
        funext m
        unfold putP
        by_cases c : m = k
        · rw [if_pos c, if_pos (by omega)]
        · rw [if_neg c, if_neg (by omega)]
      rwa [e] at h3
    · have hij : i ≠ j := fun c => by subst c; rw [hg] at hg'; cases hg'; exact e rfl
      have e2 : pgc (fun m => putP C (j * 1024 + k) x (i * 1024 + m)) = pgc (fun m => C (i * 1024 + m)) := pgc_congr fun m hm => by unfold putP; rw [if_neg (by omega)]
      rw [e2]
      exact (h2.far (by show g' ≠ g; exact e) _).far (by show g' ≠ g; exact e) _
  · have hij : i ≠ j := fun c => by subst c; rw [hg] at hg'; cases hg'
    unfold putP
    rw [if_neg (by omega)]
    exact h.no i hi hg' m hm
theorem CanG.has (h : CanG w gc G C) (j k g : Nat) (hj : j < 20) (hk : k < 1024) (hg : G j = some g) : w.cell? ⟨g, 1024 + k, none⟩ = some (.bool (C (j * 1024 + k)).isSome) ∧ w.cell? ⟨g, k, none⟩ = some (.int .u8 ((C (j * 1024 + k)).getD 0).toNat) ∧ w.frozen? ⟨g, 1024 + k, none⟩ = false ∧ w.frozen? ⟨g, k, none⟩ = false := by
  obtain ⟨_, hb⟩ := h.pg j g hj hg
  exact ⟨by rw [hb.cell, pgc_has _ hk], by rw [hb.cell, pgc_byte _ hk], hb.frozen _, hb.frozen _⟩
end
end Go.Proofs.Ytcifngefclgefaa
