/- Plain words: ranges of bytes; rows apart from the canvas. -/
import Derived.Test.YtcifngefclgefaaH
import Derived.Test.YtcifngefclgefaaApp3
namespace Go.Proofs.Ytcifngefclgefaa
open Go.RowKit
set_option linter.unusedVariables false
set_option linter.unusedSimpArgs false

structure Rg where
  f : Nat
  t : Nat
deriving DecidableEq
def Rg.cells (x : Rg) : List Value := [.int .u64 (x.f : Int), .int .u64 (x.t : Int)]
theorem rg2 (x : Rg) : x.cells.length = 2 := rfl
theorem rg_one : ∀ x : Rg, ∀ u ∈ x.cells, u.oneCell' = true := by intro x u hu; simp [Rg.cells] at hu; rcases hu with rfl | rfl <;> rfl
theorem infoRg : (Try.prog.info? 50).map (fun i => (i.zero, i.size, i.bytes)) = some (some (.agg #[.int .u64 0, .int .u64 0]), 2, 16) := by kernel_rfl
def RgAt (w : World) (v : Value) (L : List Rg) : Prop := SlAt w 2 v L.length (fl Rg.cells L)
def OwnR (w : World) (base : Nat) (v : Value) (L : List Rg) : Prop := w.ownsRow base 50 2 v L.length (fl Rg.cells L)
theorem OwnR.at {w : World} {base : Nat} {v : Value} {L : List Rg} (h : OwnR w base v L) : RgAt w v L := SlAt.own h
theorem OwnR.form {w : World} {base : Nat} {v : Value} {L : List Rg} (h : OwnR w base v L) : ∃ A c, v = .slice A L.length c := by
  obtain ⟨A, c, rfl, _⟩ := SlAt.own h
  exact ⟨A, c, rfl⟩
theorem OwnR.block {w : World} {base c : Nat} {A : Option Addr} {L : List Rg} (h : OwnR w base (.slice A L.length c) L) (h0 : 0 < L.length) : ∃ g, A = some ⟨g, 0, none⟩ := by
  rcases h.2 with ⟨e, _⟩ | ⟨g, cap, cur, e, _⟩
  · simp at e; omega
  · cases e
    exact ⟨g, rfl⟩
def rgAt (L : List Rg) (i : Nat) : Rg := L.getD i ⟨0, 0⟩
theorem rgAt_get {L : List Rg} {i : Nat} (h : i < L.length) : L[i]? = some (rgAt L i) := by
  unfold rgAt; rw [List.getD_eq_getElem?_getD, List.getElem?_eq_getElem h]; rfl
/-- one more byte -/
def addR (L : List Rg) (k : Nat) : List Rg := if 0 < L.length ∧ (rgAt L (L.length - 1)).t = k then L.set (L.length - 1) ⟨(rgAt L (L.length - 1)).f, k + 1⟩ else L ++ [⟨k, k + 1⟩]
/-- the ranges of the bytes below k that P holds of -/
def rgs (P : Nat → Bool) : Nat → List Rg
  | 0 => []
  | k + 1 => if P k = true then addR (rgs P k) k else rgs P k
theorem rgs_b (P : Nat → Bool) (k : Nat) : (rgs P k).length ≤ k ∧ ∀ x ∈ rgs P k, x.f < x.t ∧ x.t ≤ k := by
  induction k with
  | zero => exact ⟨Nat.le_refl _, fun x hx => by cases hx⟩
  | succ k ih =>
    rw [rgs]
    split
    · unfold addR
      split
      · rename_i h
        refine ⟨by rw [List.length_set]; omega, fun x hx => ?_⟩
        rcases List.mem_or_eq_of_mem_set hx with h1 | h1
        · have := ih.2 x h1; omega
        · subst h1
          have := ih.2 (rgAt (rgs P k) ((rgs P k).length - 1)) (List.mem_of_getElem? (rgAt_get (by omega)))
          dsimp only
          omega
      · refine ⟨by rw [List.length_append, List.length_singleton]; omega, fun x hx => ?_⟩
        rcases List.mem_append.1 hx with h1 | h1
        · have := ih.2 x h1; omega
        · rw [List.mem_singleton] at h1; subst h1; dsimp only; omega
    · exact ⟨by omega, fun x hx => by have := ih.2 x hx; omega⟩
/-- a row of elements of another type is no block of this one -/
theorem row_apart {w : World} {base : Nat} {e t : TypeId} {k n : Nat} {v : Value} {xs : List Value} {g : Nat} {cs : Array Value} (h : w.ownsRow base e k v n xs) (hb : Blk w g t cs) (ht : e ≠ t) : v.ownBlock ≠ some g := by
  intro hg
  rcases h.2 with ⟨rfl, _⟩ | ⟨g', cap, cur, rfl, _, hh, _⟩
  · cases hg
  · simp [Value.ownBlock] at hg
    subst hg
    unfold Blk at hb
    rw [hb] at hh
    simp at hh
    exact ht hh.2.symm
section
variable {w w' : World} {gc : Nat} {G : Nat → Option Nat} {C : Nat → Option UInt8}
theorem CanG.apart (h : CanG w gc G C) {base : Nat} {e : TypeId} {k n : Nat} {v : Value} {xs : List Value} (hr : w.ownsRow base e k v n xs) (h1 : e ≠ 86) (h2 : e ≠ 73) : v.ownBlock ≠ some gc ∧ ∀ j g, j < 20 → G j = some g → v.ownBlock ≠ some g :=
  ⟨row_apart hr h.b h1, fun j g hj hg => row_apart hr (h.pg j g hj hg).2 h2⟩
theorem CanG.grown (h : CanG w gc G C) {row : Option Nat} (hg : w.grownBy w' row) (hr : row ≠ some gc ∧ ∀ j g, j < 20 → G j = some g → row ≠ some g) : CanG w' gc G C := by
  refine ⟨(hg.block gc h.b.lt (fun e => hr.1 e.symm)).trans h.b, fun j g hj hgj => ?_, h.inj, h.no⟩
  obtain ⟨a, b⟩ := h.pg j g hj hgj
  exact ⟨a, (hg.block g b.lt (fun e => hr.2 j g hj hgj e.symm)).trans b⟩
theorem CanG.far (h : CanG w gc G C) {p : Addr} (hr : some p.block ≠ some gc ∧ ∀ j g, j < 20 → G j = some g → some p.block ≠ some g) (u : Value) : CanG (w.setCell p u) gc G C :=
  ⟨h.b.far (fun e => hr.1 (by rw [e])) u, fun j g hj hg => ⟨(h.pg j g hj hg).1, (h.pg j g hj hg).2.far (fun e => hr.2 j g hj hg (by rw [e])) u⟩, h.inj, h.no⟩
end
/-- the ranges that a list of bundles covers, or that it does not cover; the error -/
def rgsOf (l : List Bn) (cv : Bool) : List Rg × Int := if (laidE l).1 ≠ 0 then ([], (laidE l).1) else (rgs (fun p => (lays l l.length p).isSome == cv) (bnAt l 0).total.toNat, 0)
def RetRg (L : List Rg) (er : Int) (w : World) (e : Ending) (w' : World) : Prop := ∃ v, e = .returned (.tuple #[v, .int .i64 er]) ∧ RgAt w' v L ∧ Below w.heap.size w w'
def RetLd (l : List Bn) (a : Int) (b : Nat) (w : World) (e : Ending) (w' : World) : Prop := ∃ gc G C, e = .returned (.tuple #[.pointer (some ⟨gc, 0, none⟩), .int .i64 a, .int .i64 (b : Int)]) ∧ CanG w' gc G C ∧ (a = 0 → C = lays l l.length) ∧ w.heap.size ≤ gc ∧ Below w.heap.size w w'
theorem laid_to {l : List Bn} {a : Int} {b : Nat} (h : laidE l = (a, b)) (v : Value) (w : World) (hV : BnAt w v l) (hl : l.length ≤ 100000) : Calls Try.prog 36 #[v] w (RetLd l a b w) := by
  refine (laid_any l v w hV hl).mono ?_
  rintro e w' ⟨gc, G, C, h1, h2⟩
  rw [h] at h1 h2
  exact ⟨gc, G, C, h1, h2⟩
def RetII (a b : Int) (w : World) (e : Ending) (w' : World) : Prop := e = .returned (.tuple #[.int .i64 a, .int .i64 b]) ∧ Below w.heap.size w w'

set_option maxRecDepth 100000 in
set_option maxHeartbeats 2000000 in
theorem fCheck_any (l : List Bn) (v : Value) (w : World) (hV : BnAt w v l) (hl : l.length ≤ 100000) :
    Calls Try.prog 16 #[v] w (RetII (laidE l).1 ((laidE l).2 : Int) w) := by
  have HV := Lib.hid hV
  obtain ⟨A, c, rfl, _, hc2, hR⟩ := hV
  clear hR
  obtain ⟨a, b, hab⟩ : ∃ a b, laidE l = (a, b) := ⟨_, _, rfl⟩
  have C := Lib.hid (laid_to hab _ w HV.out hl)
  rw [hab]
  clear hab
  go_enter Try.func16, Try.ntmps16
  go_wp2_with fail
  refine C.out.mono ?_
  rintro e w1 ⟨gc, G, C', rfl, _, _, _, hb1⟩
  clear C
  go_wp2_with fail
  go_ret2
  exact ⟨rfl, hb1⟩
end Go.Proofs.Ytcifngefclgefaa
