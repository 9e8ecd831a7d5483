/- Small facts on worlds that every walk of this seat uses. The plain model of a sender's ledger: which ledgers are valid, and what the calls make of one; no program in sight. Contracts: IDs, and the search for a slot. -/
import Derived.Test.YtfgkkflbpfocjaaRows
import Derived.WalkKit
import Derived.WalkSpells
import Derived.WalkLawsBesides
import Derived.Deep.QuietTactic
import Derived.BigQuiet
import Derived.Deep.RegionWith
import Derived.IntWalk
import Derived.Lib.Hide
import Derived.Laws.Rows
import Derived.OwnWalk
import Derived.RangeFuncBox
import Derived.Laws.EntriesVeiled
import Derived.Laws.StructEq
namespace Go.Proofs.Ytfgkkflbpfocjaa
open Go.RowKit
set_option linter.unusedVariables false
set_option linter.unusedSimpArgs false

theorem bcell {W w1 : World} (hb : Below W.heap.size W w1) : (∀ b o, b < W.heap.size → w1.cell? ⟨b, o, none⟩ = W.cell? ⟨b, o, none⟩) ∧ (∀ b o, b < W.heap.size → w1.frozen? ⟨b, o, none⟩ = W.frozen? ⟨b, o, none⟩) :=
  ⟨fun b o h => hb.cell (p := ⟨b, o, none⟩) h, fun b o h => hb.frozen (p := ⟨b, o, none⟩) h⟩
theorem bnext {w W w' : World} (h : Below w.heap.size w W) (hb : Below W.heap.size W w') : Below w.heap.size w w' := h.trans (hb.mono h.size)
theorem bal {w W : World} (h : Below w.heap.size w W) (o : Obj) : Below w.heap.size w (W.alloc o) := h.alloc h.size o
theorem bset {w W : World} (h : Below w.heap.size w W) {p : Addr} (hp : w.heap.size ≤ p.block) (u : Value) : Below w.heap.size w (W.setCell p u) := h.setCell hp u
theorem bdr {w W : World} (h : Below w.heap.size w W) : Below w.heap.size w W.drew := h.drew
theorem ret_int {k : IntKind} {a b : Int} (h : a = b) : Ending.returned (.int k a) = .returned (.int k b) := by rw [h]
theorem ret_bool {a b : Bool} (h : a = b) : Ending.returned (.bool a) = .returned (.bool b) := by rw [h]
theorem grown_of_below {W W' : World} (h : Below W.heap.size W W') : W.grownBy W' none := ⟨h.os, h.tape, h.output, h.size, fun k hk _ => h.block k hk⟩
theorem own_below {W W' : World} (h : Below W.heap.size W W') {base : Nat} {e : TypeId} {size n : Nat} {v : Value} {xs : List Value} (hr : W.ownsRow base e size v n xs) : W'.ownsRow base e size v n xs := by
  refine hr.kept (grown_of_below h) ?_
  rcases hr.2 with ⟨rfl, _⟩ | ⟨g, cap, cur, rfl, _⟩
  · exact .inl rfl
  · exact .inr (by simp [Value.ownBlock])
theorem own_mono {w : World} {base base' : Nat} {e : TypeId} {size n : Nat} {v : Value} {xs : List Value} (h : w.ownsRow base e size v n xs) (hb : base' ≤ base) : w.ownsRow base' e size v n xs := by
  obtain ⟨h1, h2⟩ := h
  refine ⟨h1, ?_⟩
  rcases h2 with h2 | ⟨g, cap, cur, a, b, c⟩
  · exact .inl h2
  · exact .inr ⟨g, cap, cur, a, by omega, c⟩
theorem newcell (w : World) (cs : Array Value) (t : TypeId) (i : Nat) : (w.alloc (.cells cs t)).cell? ⟨w.heap.size, i, none⟩ = cs[i]? := cell_of_row _ w.heap.size i cs t (0, 0) (World.alloc_heap_new w _)
theorem oldcell {w : World} (o : Obj) {b : Nat} (h : b < w.heap.size) (i : Nat) : (w.alloc o).cell? ⟨b, i, none⟩ = w.cell? ⟨b, i, none⟩ := World.cell?_alloc_lt w o ⟨b, i, none⟩ h

/-- the slice value reads as the cells xs, size cells an element -/
def Reads (w : World) (size : Nat) (A : Option Addr) (n : Nat) (xs : List Value) : Prop :=
  xs.length = n * size ∧ (0 < n → ∃ b o, A = some ⟨b, o, none⟩ ∧ b < w.heap.size ∧ ∀ j u, xs[j]? = some u → w.cell? ⟨b, o + j, none⟩ = some u)
/-- the slice value v reads as the cells xs -/
def SlAt (w : World) (size : Nat) (v : Value) (n : Nat) (xs : List Value) : Prop := ∃ A c, v = .slice A n c ∧ n ≤ c ∧ c ≤ maxLen ∧ Reads w size A n xs

theorem Reads.keep {w w' : World} {size n : Nat} {A : Option Addr} {xs : List Value} (h : Reads w size A n xs) (hs : w.heap.size ≤ w'.heap.size) (hb : ∀ b o, b < w.heap.size → w'.cell? ⟨b, o, none⟩ = w.cell? ⟨b, o, none⟩) : Reads w' size A n xs := by
  refine ⟨h.1, fun hn => ?_⟩
  obtain ⟨b, o, rfl, hlt, hx⟩ := h.2 hn
  exact ⟨b, o, rfl, by omega, fun j u hj => (hb _ _ hlt).trans (hx j u hj)⟩
theorem SlAt.keep {w w' : World} {size n : Nat} {v : Value} {xs : List Value} (h : SlAt w size v n xs) (hs : w.heap.size ≤ w'.heap.size) (hb : ∀ b o, b < w.heap.size → w'.cell? ⟨b, o, none⟩ = w.cell? ⟨b, o, none⟩) : SlAt w' size v n xs := by
  obtain ⟨A, c, rfl, h1, h2, h3⟩ := h
  exact ⟨A, c, rfl, h1, h2, h3.keep hs hb⟩
theorem SlAt.below {w w' : World} {size n : Nat} {v : Value} {xs : List Value} (h : SlAt w size v n xs) (hb : Below w.heap.size w w') : SlAt w' size v n xs := h.keep hb.size (bcell hb).1
theorem SlAt.alloc {w : World} {size n : Nat} {v : Value} {xs : List Value} (h : SlAt w size v n xs) (o : Obj) : SlAt (w.alloc o) size v n xs := h.below ((Below.refl _ _).alloc (Nat.le_refl _) o)
theorem SlAt.drew {w : World} {size n : Nat} {v : Value} {xs : List Value} (h : SlAt w size v n xs) : SlAt w.drew size v n xs := h
theorem SlAt.drewN {w : World} {size n : Nat} {v : Value} {xs : List Value} (h : SlAt w size v n xs) (k : Nat) : SlAt (w.drewN k) size v n xs := h
theorem SlAt.nil (w : World) (size : Nat) : SlAt w size (.slice none 0 0) 0 [] := ⟨none, 0, rfl, Nat.le_refl _, Nat.zero_le _, by simp, fun h => absurd h (by omega)⟩
theorem SlAt.own {w : World} {base : Nat} {e : TypeId} {size n : Nat} {v : Value} {xs : List Value} (h : w.ownsRow base e size v n xs) : SlAt w size v n xs := by
  rcases h.2 with ⟨rfl, rfl⟩ | ⟨g, cap, cur, rfl, hg, hh, hcap, hm, hsz, hcur⟩
  · exact ⟨none, 0, rfl, Nat.le_refl _, Nat.zero_le _, h.1, fun h => absurd h (by omega)⟩
  · refine ⟨some ⟨g, 0, none⟩, cap, rfl, hcap, hm, h.1, fun _ => ⟨g, 0, rfl, (Array.getElem?_eq_some_iff.1 hh).1, fun k x hx => ?_⟩⟩
    have := h.cells (g := g) rfl k x hx
    by_cases hk : k = 0
    · subst hk; simpa [Addr.add] using this
    · simpa [Addr.add, hk] using this
end Go.Proofs.Ytfgkkflbpfocjaa

namespace Go.Proofs.Ytfgkkflbpfocjaa
set_option linter.unusedVariables false
set_option linter.unusedSimpArgs false

/-- a slot: offset, size, and the bundle's ID (node, sequence number, offset) -/
structure Sl where
  off : Int
  size : Int
  node : Int
  seq : Int
  io : Int
deriving DecidableEq
/-- a ledger: granted, next, returned, slots -/
structure Led where
  g : Int
  n : Int
  r : Int
  sl : List Sl
deriving DecidableEq

def IdOk (node seq io : Int) : Prop := 1 ≤ node ∧ node ≤ 16 ∧ 0 ≤ io ∧ io ≤ 19999 ∧ seq ≤ 1099511627776
instance (a b c : Int) : Decidable (IdOk a b c) := by unfold IdOk; exact inferInstance
def idE (node seq io : Int) : Int := if IdOk node seq io then 0 else 2

/-- the same bundle -/
def Sl.has (x : Sl) (node seq io : Int) : Bool := x.node == node && x.seq == seq && x.io == io
def Sl.same (x y : Sl) : Bool := x.has y.node y.seq y.io

/-- the number of the first slot for a bundle; the number of slots if there is none -/
def fnd (node seq io : Int) : List Sl → Nat
  | [] => 0
  | x :: r => if x.has node seq io then 0 else fnd node seq io r + 1
def anyHas (node seq io : Int) (l : List Sl) : Bool := l.any fun x => x.has node seq io

theorem fnd_lt (a b c : Int) (l : List Sl) : fnd a b c l < l.length ↔ anyHas a b c l = true := by
  induction l with
  | nil => simp [fnd, anyHas]
  | cons x r ih =>
    unfold fnd
    by_cases h : x.has a b c
    · simp [h, anyHas]
    · simp only [h, if_false, Bool.false_eq_true, List.length_cons, Nat.add_lt_add_iff_right, ih]
      simp [anyHas, h]
theorem fnd_at (a b c : Int) (l : List Sl) {x : Sl} (h : l[fnd a b c l]? = some x) : x.has a b c = true := by
  induction l with
  | nil => simp [fnd] at h
  | cons y r ih =>
    unfold fnd at h
    by_cases hy : y.has a b c
    · rw [if_pos hy] at h; simp at h; subst h; exact hy
    · rw [if_neg hy] at h; simp at h; exact ih h
theorem fnd_before (a b c : Int) (l : List Sl) (i : Nat) (hi : i < fnd a b c l) {x : Sl} (h : l[i]? = some x) : x.has a b c = false := by
  induction l generalizing i with
  | nil => simp [fnd] at hi
  | cons y r ih =>
    unfold fnd at hi
    by_cases hy : y.has a b c
    · rw [if_pos hy] at hi; omega
    · rw [if_neg hy] at hi
      cases i with
      | zero => simp at h; subst h; simpa using hy
      | succ i => simp at h; exact ih i (by omega) h
/-- what decides the search: the first slot that fits -/
theorem fnd_is (a b c : Int) (l : List Sl) (k : Nat) (hk : k ≤ l.length) (hb : ∀ i x, i < k → l[i]? = some x → x.has a b c = false) (ha : k < l.length → ∃ x, l[k]? = some x ∧ x.has a b c = true) : fnd a b c l = k := by
  induction l generalizing k with
  | nil => simp at hk; subst hk; rfl
  | cons y r ih =>
    cases k with
    | zero =>
      obtain ⟨x, hx, hh⟩ := ha (by simp)
      simp at hx; subst hx
      unfold fnd; rw [if_pos hh]
    | succ k =>
      have h0 := hb 0 y (by omega) (by simp)
      unfold fnd
      rw [if_neg (by simp [h0])]
      congr 1
      refine ih k (by simp at hk; omega) (fun i x hi hx => hb (i + 1) x (by omega) (by simpa using hx)) (fun h => ?_)
      obtain ⟨x, hx, hh⟩ := ha (by simp; omega)
      exact ⟨x, by simpa using hx, hh⟩

/-- the error of a slot, behind those in done, which end at e -/
def slotE (nxt : Int) (done : List Sl) (e : Int) (x : Sl) : Int :=
  if x.size = 0 ∨ ¬ IdOk x.node x.seq x.io then 2
  else if x.off < e ∨ nxt < x.off ∨ nxt - x.off < x.size then 19
  else if anyHas x.node x.seq x.io done = true then 9 else 0
def scan (nxt : Int) (done : List Sl) (e : Int) : List Sl → Int × Int
  | [] => (0, 0)
  | x :: r => if slotE nxt done e x = 0 then scan nxt (done ++ [x]) (x.off + x.size) r else (slotE nxt done e x, done.length)
/-- a ledger's error, and the number of the slot with it -/
def chk (s : Led) : Int × Int :=
  if 1125899906842624 < s.g then (2, 0)
  else if s.g < s.r ∨ s.g - s.r < s.n then (14, 0)
  else if 100 < s.sl.length then (5, 0)
  else scan s.n [] 0 s.sl
def okL (s : Led) : Prop := (chk s).1 = 0
instance (s : Led) : Decidable (okL s) := by unfold okL; exact inferInstance
def usab (s : Led) : Int := s.g - s.n - s.r
def flr (s : Led) : Int := match s.sl with | [] => s.n | x :: _ => x.off

/-- the numbers of a ledger fit their kinds -/
def Wf (s : Led) : Prop := (0 ≤ s.g ∧ s.g ≤ 18446744073709551615) ∧ (0 ≤ s.n ∧ s.n ≤ 18446744073709551615) ∧ (0 ≤ s.r ∧ s.r ≤ 18446744073709551615) ∧
  ∀ x ∈ s.sl, (0 ≤ x.off ∧ x.off ≤ 18446744073709551615) ∧ (0 ≤ x.size ∧ x.size ≤ 18446744073709551615) ∧ (0 ≤ x.seq ∧ x.seq ≤ 18446744073709551615)

/-- the results: a ledger, a number, an error -/
def grant (s : Led) (t : Int) : Led × Int × Int :=
  if ¬ okL s then (⟨0, 0, 0, []⟩, 0, (chk s).1) else if 1125899906842624 < t then (⟨0, 0, 0, []⟩, 0, 2)
  else if t ≤ s.g then (s, 0, 0) else ({ s with g := t }, t - s.g, 0)
def give (s : Led) (t : Int) : Led × Int × Int :=
  if ¬ okL s then (⟨0, 0, 0, []⟩, 0, (chk s).1) else if 1125899906842624 < t then (⟨0, 0, 0, []⟩, 0, 2)
  else if t ≤ s.r then (s, 0, 0) else if usab s < t - s.r then ({ s with r := s.r + usab s }, usab s, 0) else ({ s with r := t }, t - s.r, 0)
def offer (s : Led) (size node seq io : Int) : Led × Int × Int :=
  if ¬ okL s then (⟨0, 0, 0, []⟩, 0, (chk s).1)
  else if size = 0 ∨ ¬ IdOk node seq io then (⟨0, 0, 0, []⟩, 0, 2)
  else if anyHas node seq io s.sl = true then (⟨0, 0, 0, []⟩, 0, 9)
  else if s.sl.length = 100 then (⟨0, 0, 0, []⟩, 0, 5)
  else if usab s < size then (⟨0, 0, 0, []⟩, 0, 14)
  else ({ s with sl := s.sl ++ [⟨s.n, size, node, seq, io⟩], n := s.n + size }, s.n, 0)
end Go.Proofs.Ytfgkkflbpfocjaa

namespace Go.Proofs.Ytfgkkflbpfocjaa
open Go.RowKit
set_option linter.unusedVariables false
set_option linter.unusedSimpArgs false

def Sl.cells (x : Sl) : List Value := [.int .u64 x.off, .int .u64 x.size, .int .i64 x.node, .int .u64 x.seq, .int .i64 x.io]
def flat (l : List Sl) : List Value := l.flatMap Sl.cells
theorem flat_len (l : List Sl) : (flat l).length = l.length * 5 := by
  induction l with
  | nil => rfl
  | cons x l ih => simp [flat, Sl.cells] at *; omega
theorem flat_get (l : List Sl) (k : Nat) {x : Sl} (h : l[k]? = some x) (j : Nat) (hj : j < 5) : (flat l)[k * 5 + j]? = x.cells[j]? := by
  induction l generalizing k with
  | nil => simp at h
  | cons y l ih =>
    cases k with
    | zero =>
      simp at h; subst h
      show (y.cells ++ flat l)[0 * 5 + j]? = _
      rw [List.getElem?_append_left (by simp [Sl.cells]; omega)]
      simp
    | succ k =>
      simp at h
      show (y.cells ++ flat l)[(k + 1) * 5 + j]? = _
      rw [List.getElem?_append_right (by simp [Sl.cells]; omega)]
      have : (k + 1) * 5 + j - y.cells.length = k * 5 + j := by simp [Sl.cells]; omega
      rw [this]
      exact ih k h

/-- the ledger's value -/
def LedAt (w : World) (V : Value) (s : Led) : Prop := ∃ v, V = .agg #[.int .u64 s.g, .int .u64 s.n, .int .u64 s.r, v] ∧ SlAt w 5 v s.sl.length (flat s.sl)

def RetI (k : IntKind) (a : Int) (w : World) (e : Ending) (w' : World) : Prop := e = .returned (.int k a) ∧ Below w.heap.size w w'
def RetB (a : Bool) (w : World) (e : Ending) (w' : World) : Prop := e = .returned (.bool a) ∧ Below w.heap.size w w'

set_option maxHeartbeats 1000000 in
theorem within_two (b : Nat) (x l h y m k : Int) (w : World) (c0 : w.cell? ⟨b, 0, none⟩ = some (.int .i64 x)) (c1 : w.cell? ⟨b, 1, none⟩ = some (.int .i64 l)) (c2 : w.cell? ⟨b, 2, none⟩ = some (.int .i64 h))
    (c3 : w.cell? ⟨b, 3, none⟩ = some (.int .i64 y)) (c4 : w.cell? ⟨b, 4, none⟩ = some (.int .i64 m)) (c5 : w.cell? ⟨b, 5, none⟩ = some (.int .i64 k)) (hb : b < w.heap.size) :
    Calls Try.prog 114 #[.slice (some ⟨b, 0, none⟩) 2 2] w (RetB (decide ((l ≤ x ∧ x ≤ h) ∧ (m ≤ y ∧ y ≤ k))) w) := by
  go_enter Try.func114, Try.ntmps114
  go_wp2
  go_loopw [7] (fun a wr => ∃ i : Nat, i ≤ 2 ∧ a = .int .i64 i ∧ (1 ≤ i → l ≤ x ∧ x ≤ h) ∧ (2 ≤ i → m ≤ y ∧ y ≤ k) ∧ Below w.heap.size w wr) (fun a _ => 2 - (intOf a).toNat)
  case atStart => exact ⟨0, by omega, rfl, fun h => by omega, fun h => by omega, Below.refl _ _⟩
  case round =>
    obtain ⟨i, hi, rfl, h1, h2, hB⟩ := hrel
    have d0 := (hB.cell (p := ⟨b, 0, none⟩) hb).trans c0
    have d1 := (hB.cell (p := ⟨b, 1, none⟩) hb).trans c1
    have d2 := (hB.cell (p := ⟨b, 2, none⟩) hb).trans c2
    have d3 := (hB.cell (p := ⟨b, 3, none⟩) hb).trans c3
    have d4 := (hB.cell (p := ⟨b, 4, none⟩) hb).trans c4
    have d5 := (hB.cell (p := ⟨b, 5, none⟩) hb).trans c5
    have hz := hB.size
    clear c0 c1 c2 c3 c4 c5
    have H1 := Lib.hid h1
    have H2 := Lib.hid h2
    clear h1 h2
    by_cases e0 : i = 0
    · subst e0
      by_cases p : l ≤ x
      · by_cases q : x ≤ h
        · go_wp2
          go_roundw
          case rel => exact ⟨1, by omega, rfl, fun _ => ⟨p, q⟩, fun h => by omega, (by repeat (first | with_reducible exact Below.refl _ _ | with_reducible refine Below.drew ?_ | with_reducible refine below_drewN ?_ _ | with_reducible refine bal ?_ _ | with_reducible refine bset ?_ (by first | (simp; done) | (simp; omega)) _ | with_reducible refine bnext ?_ (by assumption) | with_reducible assumption))⟩
          case measure => simp [intOf]
        · go_wp2
          go_ret
          exact ⟨ret_bool (by simp; omega), (by repeat (first | with_reducible exact Below.refl _ _ | with_reducible refine Below.drew ?_ | with_reducible refine below_drewN ?_ _ | with_reducible refine bal ?_ _ | with_reducible refine bset ?_ (by first | (simp; done) | (simp; omega)) _ | with_reducible refine bnext ?_ (by assumption) | with_reducible assumption))⟩
      · go_wp2
        go_ret
        exact ⟨ret_bool (by simp; omega), (by repeat (first | with_reducible exact Below.refl _ _ | with_reducible refine Below.drew ?_ | with_reducible refine below_drewN ?_ _ | with_reducible refine bal ?_ _ | with_reducible refine bset ?_ (by first | (simp; done) | (simp; omega)) _ | with_reducible refine bnext ?_ (by assumption) | with_reducible assumption))⟩
    · by_cases e1 : i = 1
      · subst e1
        by_cases p : m ≤ y
        · by_cases q : y ≤ k
          · go_wp2
            go_roundw
            case rel => exact ⟨2, by omega, rfl, fun _ => H1.out (by omega), fun _ => ⟨p, q⟩, (by repeat (first | with_reducible exact Below.refl _ _ | with_reducible refine Below.drew ?_ | with_reducible refine below_drewN ?_ _ | with_reducible refine bal ?_ _ | with_reducible refine bset ?_ (by first | (simp; done) | (simp; omega)) _ | with_reducible refine bnext ?_ (by assumption) | with_reducible assumption))⟩
            case measure => simp [intOf]
          · go_wp2
            go_ret
            exact ⟨ret_bool (by simp; omega), (by repeat (first | with_reducible exact Below.refl _ _ | with_reducible refine Below.drew ?_ | with_reducible refine below_drewN ?_ _ | with_reducible refine bal ?_ _ | with_reducible refine bset ?_ (by first | (simp; done) | (simp; omega)) _ | with_reducible refine bnext ?_ (by assumption) | with_reducible assumption))⟩
        · go_wp2
          go_ret
          exact ⟨ret_bool (by simp; omega), (by repeat (first | with_reducible exact Below.refl _ _ | with_reducible refine Below.drew ?_ | with_reducible refine below_drewN ?_ _ | with_reducible refine bal ?_ _ | with_reducible refine bset ?_ (by first | (simp; done) | (simp; omega)) _ | with_reducible refine bnext ?_ (by assumption) | with_reducible assumption))⟩
      · obtain rfl : i = 2 := by omega
        go_wp2
        go_ret
        exact ⟨ret_bool (by have a := H1.out (by omega); have b := H2.out (by omega); simp; omega), (by repeat (first | with_reducible exact Below.refl _ _ | with_reducible refine Below.drew ?_ | with_reducible refine below_drewN ?_ _ | with_reducible refine bal ?_ _ | with_reducible refine bset ?_ (by first | (simp; done) | (simp; omega)) _ | with_reducible refine bnext ?_ (by assumption) | with_reducible assumption))⟩

theorem newcell1 (w : World) (o : Obj) (cs : Array Value) (t : TypeId) (i : Nat) : ((w.alloc o).alloc (.cells cs t)).cell? ⟨w.heap.size + 1, i, none⟩ = cs[i]? := by
  have := newcell (w.alloc o) cs t i
  rwa [World.size_alloc] at this

set_option maxHeartbeats 1000000 in
theorem CheckID_any (node seq io : Int) (w : World) :
    Calls Try.prog 91 #[.agg #[.int .i64 node, .int .u64 seq, .int .i64 io]] w (RetI .i64 (idE node seq io) w) := by
  by_cases h : (1 ≤ node ∧ node ≤ 16) ∧ (0 ≤ io ∧ io ≤ 19999)
  · have H := Lib.hid h
    have D : Hid (decide ((1 ≤ node ∧ node ≤ 16) ∧ (0 ≤ io ∧ io ≤ 19999)) = true) := by show decide _ = true; simpa using h
    clear h
    by_cases hs : seq ≤ 1099511627776
    · have R : Hid (idE node seq io = 0) := if_pos ⟨H.out.1.1, H.out.1.2, H.out.2.1, H.out.2.2, hs⟩
      go_enter Try.func91, Try.ntmps91
      go_wp2_with fail
      refine (within_two (w.heap.size + 1) node 1 16 io 0 19999 _ ?_ ?_ ?_ ?_ ?_ ?_ (by simp)).mono ?_
      all_goals first | (rw [newcell1]; rfl) | skip
      rintro e w1 ⟨rfl, hb1⟩
      rw [D.out]
      have hcf := (bcell hb1).1
      have hz := hb1.size
      simp at hz
      go_wp2
      go_ret
      exact ⟨ret_int R.out.symm, (by repeat (first | with_reducible exact Below.refl _ _ | with_reducible refine Below.drew ?_ | with_reducible refine below_drewN ?_ _ | with_reducible refine bal ?_ _ | with_reducible refine bset ?_ (by first | (simp; done) | (simp; omega)) _ | with_reducible refine bnext ?_ (by assumption) | with_reducible assumption))⟩
    · have R : Hid (idE node seq io = 2) := if_neg (fun h => hs h.2.2.2.2)
      go_enter Try.func91, Try.ntmps91
      go_wp2_with fail
      refine (within_two (w.heap.size + 1) node 1 16 io 0 19999 _ ?_ ?_ ?_ ?_ ?_ ?_ (by simp)).mono ?_
      all_goals first | (rw [newcell1]; rfl) | skip
      rintro e w1 ⟨rfl, hb1⟩
      rw [D.out]
      have hcf := (bcell hb1).1
      have hz := hb1.size
      simp at hz
      go_wp2
      go_ret
      exact ⟨ret_int R.out.symm, (by repeat (first | with_reducible exact Below.refl _ _ | with_reducible refine Below.drew ?_ | with_reducible refine below_drewN ?_ _ | with_reducible refine bal ?_ _ | with_reducible refine bset ?_ (by first | (simp; done) | (simp; omega)) _ | with_reducible refine bnext ?_ (by assumption) | with_reducible assumption))⟩
  · have D : Hid (decide ((1 ≤ node ∧ node ≤ 16) ∧ (0 ≤ io ∧ io ≤ 19999)) = false) := by show decide _ = false; simpa using h
    have R : Hid (idE node seq io = 2) := if_neg (fun e => h ⟨⟨e.1, e.2.1⟩, e.2.2.1, e.2.2.2.1⟩)
    clear h
    go_enter Try.func91, Try.ntmps91
    go_wp2_with fail
    refine (within_two (w.heap.size + 1) node 1 16 io 0 19999 _ ?_ ?_ ?_ ?_ ?_ ?_ (by simp)).mono ?_
    all_goals first | (rw [newcell1]; rfl) | skip
    rintro e w1 ⟨rfl, hb1⟩
    rw [D.out]
    go_wp2
    go_ret
    exact ⟨ret_int R.out.symm, (by repeat (first | with_reducible exact Below.refl _ _ | with_reducible refine Below.drew ?_ | with_reducible refine below_drewN ?_ _ | with_reducible refine bal ?_ _ | with_reducible refine bset ?_ (by first | (simp; done) | (simp; omega)) _ | with_reducible refine bnext ?_ (by assumption) | with_reducible assumption))⟩

set_option maxHeartbeats 1000000 in
theorem rCheckID_any (node seq io : Int) (w : World) :
    Calls Try.prog 82 #[.agg #[.int .i64 node, .int .u64 seq, .int .i64 io]] w (RetI .i64 (idE node seq io) w) := by
  by_cases a : 1 ≤ node
  · by_cases b : node ≤ 16
    · by_cases c : seq ≤ 1099511627776
      · by_cases d : 0 ≤ io
        · by_cases f : io ≤ 19999
          · have R : Hid (idE node seq io = 0) := if_pos ⟨a, b, d, f, c⟩
            go_enter Try.func82, Try.ntmps82
            go_wp2
            go_ret
            exact ⟨ret_int R.out.symm, (by repeat (first | with_reducible exact Below.refl _ _ | with_reducible refine Below.drew ?_ | with_reducible refine below_drewN ?_ _ | with_reducible refine bal ?_ _ | with_reducible refine bset ?_ (by first | (simp; done) | (simp; omega)) _ | with_reducible refine bnext ?_ (by assumption) | with_reducible assumption))⟩
          · have R : Hid (idE node seq io = 2) := if_neg (fun e => f e.2.2.2.1)
            have f' : 20000 ≤ io := by omega
            go_enter Try.func82, Try.ntmps82
            go_wp2
            go_ret
            exact ⟨ret_int R.out.symm, (by repeat (first | with_reducible exact Below.refl _ _ | with_reducible refine Below.drew ?_ | with_reducible refine below_drewN ?_ _ | with_reducible refine bal ?_ _ | with_reducible refine bset ?_ (by first | (simp; done) | (simp; omega)) _ | with_reducible refine bnext ?_ (by assumption) | with_reducible assumption))⟩
        · have R : Hid (idE node seq io = 2) := if_neg (fun e => d e.2.2.1)
          go_enter Try.func82, Try.ntmps82
          go_wp2
          go_ret
          exact ⟨ret_int R.out.symm, (by repeat (first | with_reducible exact Below.refl _ _ | with_reducible refine Below.drew ?_ | with_reducible refine below_drewN ?_ _ | with_reducible refine bal ?_ _ | with_reducible refine bset ?_ (by first | (simp; done) | (simp; omega)) _ | with_reducible refine bnext ?_ (by assumption) | with_reducible assumption))⟩
      · have R : Hid (idE node seq io = 2) := if_neg (fun e => c e.2.2.2.2)
        go_enter Try.func82, Try.ntmps82
        go_wp2
        go_ret
        exact ⟨ret_int R.out.symm, (by repeat (first | with_reducible exact Below.refl _ _ | with_reducible refine Below.drew ?_ | with_reducible refine below_drewN ?_ _ | with_reducible refine bal ?_ _ | with_reducible refine bset ?_ (by first | (simp; done) | (simp; omega)) _ | with_reducible refine bnext ?_ (by assumption) | with_reducible assumption))⟩
    · have R : Hid (idE node seq io = 2) := if_neg (fun e => b e.2.1)
      go_enter Try.func82, Try.ntmps82
      go_wp2
      go_ret
      exact ⟨ret_int R.out.symm, (by repeat (first | with_reducible exact Below.refl _ _ | with_reducible refine Below.drew ?_ | with_reducible refine below_drewN ?_ _ | with_reducible refine bal ?_ _ | with_reducible refine bset ?_ (by first | (simp; done) | (simp; omega)) _ | with_reducible refine bnext ?_ (by assumption) | with_reducible assumption))⟩
  · have R : Hid (idE node seq io = 2) := if_neg (fun e => a e.1)
    go_enter Try.func82, Try.ntmps82
    go_wp2
    go_ret
    exact ⟨ret_int R.out.symm, (by repeat (first | with_reducible exact Below.refl _ _ | with_reducible refine Below.drew ?_ | with_reducible refine below_drewN ?_ _ | with_reducible refine bal ?_ _ | with_reducible refine bset ?_ (by first | (simp; done) | (simp; omega)) _ | with_reducible refine bnext ?_ (by assumption) | with_reducible assumption))⟩

theorem run_eql_id (a b c d e f : Int) (w : World) : (binOp .eql 47 (.agg #[.int .i64 a, .int .u64 b, .int .i64 c]) (.agg #[.int .i64 d, .int .u64 e, .int .i64 f])).run Try.prog w = .ok (.bool (a == d && b == e && c == f)) w := by
  go_simp
  by_cases h1 : a = d <;> by_cases h2 : b = e <;> by_cases h3 : c = f <;> simp [h1, h2, h3]

set_option maxHeartbeats 1000000 in
theorem is_any (n s o : Int) (x : Sl) (w : World) :
    Calls Try.prog 117 #[.agg #[.int .i64 n, .int .u64 s, .int .i64 o], .agg #[.int .u64 x.off, .int .u64 x.size, .int .i64 x.node, .int .u64 x.seq, .int .i64 x.io]] w (RetB (x.has n s o) w) := by
  have he := run_eql_id
  go_enter Try.func117, Try.ntmps117
  go_wp2
  go_ret
  exact ⟨rfl, (by repeat (first | with_reducible exact Below.refl _ _ | with_reducible refine Below.drew ?_ | with_reducible refine below_drewN ?_ _ | with_reducible refine bal ?_ _ | with_reducible refine bset ?_ (by first | (simp; done) | (simp; omega)) _ | with_reducible refine bnext ?_ (by assumption) | with_reducible assumption))⟩
end Go.Proofs.Ytfgkkflbpfocjaa

