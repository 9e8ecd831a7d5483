/- Small facts on worlds that every walk of this seat uses. -/
import Derived.Test.YtcifngefclgefaaRows
import Derived.WalkKit
import Derived.WalkSpells
import Derived.WalkLawsBesides
import Derived.Deep.QuietTactic
import Derived.BigQuiet
import Derived.Deep.RegionWith
import Derived.IntWalk
import Derived.Lib.Hide
import Derived.Laws.Rows
import Derived.OwnWalk
import Derived.RangeFuncBox
namespace Go.Proofs.Ytcifngefclgefaa
open Go.RowKit
set_option linter.unusedVariables false
set_option linter.unusedSimpArgs false

theorem bcell {W w1 : World} (hb : Below W.heap.size W w1) : (∀ b o, b < W.heap.size → w1.cell? ⟨b, o, none⟩ = W.cell? ⟨b, o, none⟩) ∧ (∀ b o, b < W.heap.size → w1.frozen? ⟨b, o, none⟩ = W.frozen? ⟨b, o, none⟩) :=
  ⟨fun b o h => hb.cell (p := ⟨b, o, none⟩) h, fun b o h => hb.frozen (p := ⟨b, o, none⟩) h⟩
theorem bnext {w W w' : World} (h : Below w.heap.size w W) (hb : Below W.heap.size W w') : Below w.heap.size w w' := h.trans (hb.mono h.size)
theorem bal {w W : World} (h : Below w.heap.size w W) (o : Obj) : Below w.heap.size w (W.alloc o) := h.alloc h.size o
theorem bset {w W : World} (h : Below w.heap.size w W) {p : Addr} (hp : w.heap.size ≤ p.block) (u : Value) : Below w.heap.size w (W.setCell p u) := h.setCell hp u
theorem bdr {w W : World} (h : Below w.heap.size w W) : Below w.heap.size w W.drew := h.drew
theorem ret_int {k : IntKind} {a b : Int} (h : a = b) : Ending.returned (.int k a) = .returned (.int k b) := by rw [h]
theorem ret_bool {a b : Bool} (h : a = b) : Ending.returned (.bool a) = .returned (.bool b) := by rw [h]
theorem grown_of_below {W W' : World} (h : Below W.heap.size W W') : W.grownBy W' none := ⟨h.os, h.tape, h.output, h.size, fun k hk _ => h.block k hk⟩
theorem own_below {W W' : World} (h : Below W.heap.size W W') {base : Nat} {e : TypeId} {size n : Nat} {v : Value} {xs : List Value} (hr : W.ownsRow base e size v n xs) : W'.ownsRow base e size v n xs := by
  refine hr.kept (grown_of_below h) ?_
  rcases hr.2 with ⟨rfl, _⟩ | ⟨g, cap, cur, rfl, _⟩
  · exact .inl rfl
  · exact .inr (by simp [Value.ownBlock])
theorem own_mono {w : World} {base base' : Nat} {e : TypeId} {size n : Nat} {v : Value} {xs : List Value} (h : w.ownsRow base e size v n xs) (hb : base' ≤ base) : w.ownsRow base' e size v n xs := by
  obtain ⟨h1, h2⟩ := h
  refine ⟨h1, ?_⟩
  rcases h2 with h2 | ⟨g, cap, cur, a, b, c⟩
  · exact .inl h2
  · exact .inr ⟨g, cap, cur, a, by omega, c⟩
theorem newcell (w : World) (cs : Array Value) (t : TypeId) (i : Nat) : (w.alloc (.cells cs t)).cell? ⟨w.heap.size, i, none⟩ = cs[i]? := cell_of_row _ w.heap.size i cs t (0, 0) (World.alloc_heap_new w _)
theorem oldcell {w : World} (o : Obj) {b : Nat} (h : b < w.heap.size) (i : Nat) : (w.alloc o).cell? ⟨b, i, none⟩ = w.cell? ⟨b, i, none⟩ := World.cell?_alloc_lt w o ⟨b, i, none⟩ h

/-- the slice value reads as the cells xs, size cells an element -/
def Reads (w : World) (size : Nat) (A : Option Addr) (n : Nat) (xs : List Value) : Prop :=
  xs.length = n * size ∧ (0 < n → ∃ b o, A = some ⟨b, o, none⟩ ∧ b < w.heap.size ∧ ∀ j u, xs[j]? = some u → w.cell? ⟨b, o + j, none⟩ = some u)
/-- the slice value v reads as the cells xs -/
def SlAt (w : World) (size : Nat) (v : Value) (n : Nat) (xs : List Value) : Prop := ∃ A c, v = .slice A n c ∧ n ≤ c ∧ c ≤ maxLen ∧ Reads w size A n xs

theorem Reads.keep {w w' : World} {size n : Nat} {A : Option Addr} {xs : List Value} (h : Reads w size A n xs) (hs : w.heap.size ≤ w'.heap.size) (hb : ∀ b o, b < w.heap.size → w'.cell? ⟨b, o, none⟩ = w.cell? ⟨b, o, none⟩) : Reads w' size A n xs := by
  refine ⟨h.1, fun hn => ?_⟩
  obtain ⟨b, o, rfl, hlt, hx⟩ := h.2 hn
  exact ⟨b, o, rfl, by omega, fun j u hj => (hb _ _ hlt).trans (hx j u hj)⟩
theorem SlAt.keep {w w' : World} {size n : Nat} {v : Value} {xs : List Value} (h : SlAt w size v n xs) (hs : w.heap.size ≤ w'.heap.size) (hb : ∀ b o, b < w.heap.size → w'.cell? ⟨b, o, none⟩ = w.cell? ⟨b, o, none⟩) : SlAt w' size v n xs := by
  obtain ⟨A, c, rfl, h1, h2, h3⟩ := h
  exact ⟨A, c, rfl, h1, h2, h3.keep hs hb⟩
theorem SlAt.below {w w' : World} {size n : Nat} {v : Value} {xs : List Value} (h : SlAt w size v n xs) (hb : Below w.heap.size w w') : SlAt w' size v n xs := h.keep hb.size (bcell hb).1
theorem SlAt.alloc {w : World} {size n : Nat} {v : Value} {xs : List Value} (h : SlAt w size v n xs) (o : Obj) : SlAt (w.alloc o) size v n xs := h.below ((Below.refl _ _).alloc (Nat.le_refl _) o)
theorem SlAt.drew {w : World} {size n : Nat} {v : Value} {xs : List Value} (h : SlAt w size v n xs) : SlAt w.drew size v n xs := h
theorem SlAt.drewN {w : World} {size n : Nat} {v : Value} {xs : List Value} (h : SlAt w size v n xs) (k : Nat) : SlAt (w.drewN k) size v n xs := h
theorem SlAt.nil (w : World) (size : Nat) : SlAt w size (.slice none 0 0) 0 [] := ⟨none, 0, rfl, Nat.le_refl _, Nat.zero_le _, by simp, fun h => absurd h (by omega)⟩
theorem SlAt.own {w : World} {base : Nat} {e : TypeId} {size n : Nat} {v : Value} {xs : List Value} (h : w.ownsRow base e size v n xs) : SlAt w size v n xs := by
  rcases h.2 with ⟨rfl, rfl⟩ | ⟨g, cap, cur, rfl, hg, hh, hcap, hm, hsz, hcur⟩
  · exact ⟨none, 0, rfl, Nat.le_refl _, Nat.zero_le _, h.1, fun h => absurd h (by omega)⟩
  · refine ⟨some ⟨g, 0, none⟩, cap, rfl, hcap, hm, h.1, fun _ => ⟨g, 0, rfl, (Array.getElem?_eq_some_iff.1 hh).1, fun k x hx => ?_⟩⟩
    have := h.cells (g := g) rfl k x hx
    by_cases hk : k = 0
    · subst hk; simpa [Addr.add] using this
    · simpa [Addr.add, hk] using this
theorem SlAt.lit (w : World) (e : TypeId) (size n : Nat) (cs : Array Value) (h : cs.size = n * size) (hm : n ≤ maxLen) : SlAt (w.alloc (.cells cs e)) size (.slice (some ⟨w.heap.size, 0, none⟩) n n) n cs.toList := by
  refine ⟨_, n, rfl, Nat.le_refl _, hm, by simpa using h, fun _ => ⟨_, _, rfl, by simp, fun k x hk => ?_⟩⟩
  rw [Nat.zero_add, newcell]
  simpa using hk
end Go.Proofs.Ytcifngefclgefaa
