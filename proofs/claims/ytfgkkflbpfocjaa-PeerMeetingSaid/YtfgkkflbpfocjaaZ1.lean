/- Small facts on worlds that every walk of this seat uses. Rows of structs, laid flat; reading one of them. Arguments that are slices of structs, opened to their cells. The plain model of a sender's ledger: which ledgers are valid, and what the calls make of one; no program in sight. Contracts: IDs, and the search for a slot. Contracts: the search for a slot. Contract: the check of a ledger. Contracts: copies of slots, an opened ledger, what is usable, the floor. Blocks that are known whole. Contracts: an opened ledger, what is usable, the floor. Appending one element to a row of the call's own. Appending a whole slice to a row of the call's own. The plain model of a receiver's ledger: which ledgers are valid, what is reserved, the state of a range; no program in sight. Plain words: bundles, their errors. The plain model of frames and peers; no program in sight. -/
import Derived.Test.YtfgkkflbpfocjaaRows
import Derived.WalkKit
import Derived.WalkSpells
import Derived.WalkLawsBesides
import Derived.Deep.QuietTactic
import Derived.BigQuiet
import Derived.Deep.RegionWith
import Derived.IntWalk
import Derived.Lib.Hide
import Derived.Laws.Rows
import Derived.OwnWalk
import Derived.RangeFuncBox
import Derived.Deep.Slices
import Derived.Deep.Fields
import Derived.ChangeSame
import Derived.ProofKit
import Derived.OpenShut
import Derived.ChangeOld
import Derived.Laws.EntriesVeiled
import Derived.Laws.StructEq
import Derived.Laws.AppendOwnNone
import Derived.Lib.SliceRun
namespace Go.Proofs.Ytfgkkflbpfocjaa
open Go.RowKit
set_option linter.unusedVariables false
set_option linter.unusedSimpArgs false

theorem bcell {W w1 : World} (hb : Below W.heap.size W w1) : (∀ b o, b < W.heap.size → w1.cell? ⟨b, o, none⟩ = W.cell? ⟨b, o, none⟩) ∧ (∀ b o, b < W.heap.size → w1.frozen? ⟨b, o, none⟩ = W.frozen? ⟨b, o, none⟩) :=
  ⟨fun b o h => hb.cell (p := ⟨b, o, none⟩) h, fun b o h => hb.frozen (p := ⟨b, o, none⟩) h⟩
theorem bnext {w W w' : World} (h : Below w.heap.size w W) (hb : Below W.heap.size W w') : Below w.heap.size w w' := h.trans (hb.mono h.size)
theorem bal {w W : World} (h : Below w.heap.size w W) (o : Obj) : Below w.heap.size w (W.alloc o) := h.alloc h.size o
theorem bset {w W : World} (h : Below w.heap.size w W) {p : Addr} (hp : w.heap.size ≤ p.block) (u : Value) : Below w.heap.size w (W.setCell p u) := h.setCell hp u
theorem bdr {w W : World} (h : Below w.heap.size w W) : Below w.heap.size w W.drew := h.drew
theorem ret_int {k : IntKind} {a b : Int} (h : a = b) : Ending.returned (.int k a) = .returned (.int k b) := by rw [h]
theorem ret_bool {a b : Bool} (h : a = b) : Ending.returned (.bool a) = .returned (.bool b) := by rw [h]
theorem grown_of_below {W W' : World} (h : Below W.heap.size W W') : W.grownBy W' none := ⟨h.os, h.tape, h.output, h.size, fun k hk _ => h.block k hk⟩
theorem own_below {W W' : World} (h : Below W.heap.size W W') {base : Nat} {e : TypeId} {size n : Nat} {v : Value} {xs : List Value} (hr : W.ownsRow base e size v n xs) : W'.ownsRow base e size v n xs := by
  refine hr.kept (grown_of_below h) ?_
  rcases hr.2 with ⟨rfl, _⟩ | ⟨g, cap, cur, rfl, _⟩
  · exact .inl rfl
  · exact .inr (by simp [Value.ownBlock])
theorem own_mono {w : World} {base base' : Nat} {e : TypeId} {size n : Nat} {v : Value} {xs : List Value} (h : w.ownsRow base e size v n xs) (hb : base' ≤ base) : w.ownsRow base' e size v n xs := by
  obtain ⟨h1, h2⟩ := h
  refine ⟨h1, ?_⟩
  rcases h2 with h2 | ⟨g, cap, cur, a, b, c⟩
  · exact .inl h2
  · exact .inr ⟨g, cap, cur, a, by omega, c⟩
theorem newcell (w : World) (cs : Array Value) (t : TypeId) (i : Nat) : (w.alloc (.cells cs t)).cell? ⟨w.heap.size, i, none⟩ = cs[i]? := cell_of_row _ w.heap.size i cs t (0, 0) (World.alloc_heap_new w _)
theorem oldcell {w : World} (o : Obj) {b : Nat} (h : b < w.heap.size) (i : Nat) : (w.alloc o).cell? ⟨b, i, none⟩ = w.cell? ⟨b, i, none⟩ := World.cell?_alloc_lt w o ⟨b, i, none⟩ h

/-- the slice value reads as the cells xs, size cells an element -/
def Reads (w : World) (size : Nat) (A : Option Addr) (n : Nat) (xs : List Value) : Prop :=
  xs.length = n * size ∧ (0 < n → ∃ b o, A = some ⟨b, o, none⟩ ∧ b < w.heap.size ∧ ∀ j u, xs[j]? = some u → w.cell? ⟨b, o + j, none⟩ = some u)
/-- the slice value v reads as the cells xs -/
def SlAt (w : World) (size : Nat) (v : Value) (n : Nat) (xs : List Value) : Prop := ∃ A c, v = .slice A n c ∧ n ≤ c ∧ c ≤ maxLen ∧ Reads w size A n xs

theorem Reads.keep {w w' : World} {size n : Nat} {A : Option Addr} {xs : List Value} (h : Reads w size A n xs) (hs : w.heap.size ≤ w'.heap.size) (hb : ∀ b o, b < w.heap.size → w'.cell? ⟨b, o, none⟩ = w.cell? ⟨b, o, none⟩) : Reads w' size A n xs := by
  refine ⟨h.1, fun hn => ?_⟩
  obtain ⟨b, o, rfl, hlt, hx⟩ := h.2 hn
  exact ⟨b, o, rfl, by omega, fun j u hj => (hb _ _ hlt).trans (hx j u hj)⟩
theorem SlAt.keep {w w' : World} {size n : Nat} {v : Value} {xs : List Value} (h : SlAt w size v n xs) (hs : w.heap.size ≤ w'.heap.size) (hb : ∀ b o, b < w.heap.size → w'.cell? ⟨b, o, none⟩ = w.cell? ⟨b, o, none⟩) : SlAt w' size v n xs := by
  obtain ⟨A, c, rfl, h1, h2, h3⟩ := h
  exact ⟨A, c, rfl, h1, h2, h3.keep hs hb⟩
theorem SlAt.below {w w' : World} {size n : Nat} {v : Value} {xs : List Value} (h : SlAt w size v n xs) (hb : Below w.heap.size w w') : SlAt w' size v n xs := h.keep hb.size (bcell hb).1
theorem SlAt.alloc {w : World} {size n : Nat} {v : Value} {xs : List Value} (h : SlAt w size v n xs) (o : Obj) : SlAt (w.alloc o) size v n xs := h.below ((Below.refl _ _).alloc (Nat.le_refl _) o)
theorem SlAt.drew {w : World} {size n : Nat} {v : Value} {xs : List Value} (h : SlAt w size v n xs) : SlAt w.drew size v n xs := h
theorem SlAt.drewN {w : World} {size n : Nat} {v : Value} {xs : List Value} (h : SlAt w size v n xs) (k : Nat) : SlAt (w.drewN k) size v n xs := h
theorem SlAt.nil (w : World) (size : Nat) : SlAt w size (.slice none 0 0) 0 [] := ⟨none, 0, rfl, Nat.le_refl _, Nat.zero_le _, by simp, fun h => absurd h (by omega)⟩
theorem SlAt.own {w : World} {base : Nat} {e : TypeId} {size n : Nat} {v : Value} {xs : List Value} (h : w.ownsRow base e size v n xs) : SlAt w size v n xs := by
  rcases h.2 with ⟨rfl, rfl⟩ | ⟨g, cap, cur, rfl, hg, hh, hcap, hm, hsz, hcur⟩
  · exact ⟨none, 0, rfl, Nat.le_refl _, Nat.zero_le _, h.1, fun h => absurd h (by omega)⟩
  · refine ⟨some ⟨g, 0, none⟩, cap, rfl, hcap, hm, h.1, fun _ => ⟨g, 0, rfl, (Array.getElem?_eq_some_iff.1 hh).1, fun k x hx => ?_⟩⟩
    have := h.cells (g := g) rfl k x hx
    by_cases hk : k = 0
    · subst hk; simpa [Addr.add] using this
    · simpa [Addr.add, hk] using this
theorem SlAt.lit (w : World) (e : TypeId) (size n : Nat) (cs : Array Value) (h : cs.size = n * size) (hm : n ≤ maxLen) : SlAt (w.alloc (.cells cs e)) size (.slice (some ⟨w.heap.size, 0, none⟩) n n) n cs.toList := by
  refine ⟨_, n, rfl, Nat.le_refl _, hm, by simpa using h, fun _ => ⟨_, _, rfl, by simp, fun k x hk => ?_⟩⟩
  rw [Nat.zero_add, newcell]
  simpa using hk
end Go.Proofs.Ytfgkkflbpfocjaa

namespace Go.Proofs.Ytfgkkflbpfocjaa
open Go.RowKit
set_option linter.unusedVariables false
set_option linter.unusedSimpArgs false

/-- a list laid flat, element by element -/
def fl {α : Type} (f : α → List Value) (l : List α) : List Value := l.flatMap f
section
variable {α : Type} {f : α → List Value} {k : Nat}
theorem fl_nil : fl f [] = [] := rfl
theorem fl_cons (x : α) (l : List α) : fl f (x :: l) = f x ++ fl f l := by simp [fl]
theorem fl_app (a b : List α) : fl f (a ++ b) = fl f a ++ fl f b := by simp [fl]
theorem fl_one (x : α) : fl f [x] = f x := by simp [fl]
theorem fl_len (hf : ∀ x, (f x).length = k) (l : List α) : (fl f l).length = l.length * k := by
  induction l with
  | nil => simp [fl]
  | cons x l ih => rw [fl_cons, List.length_append, ih, hf, List.length_cons, Nat.succ_mul, Nat.add_comm]
theorem fl_get (hf : ∀ x, (f x).length = k) (l : List α) (i : Nat) {x : α} (h : l[i]? = some x) (j : Nat) (hj : j < k) : (fl f l)[i * k + j]? = (f x)[j]? := by
  induction l generalizing i with
  | nil => simp at h
  | cons y l ih =>
    rw [fl_cons]
    cases i with
    | zero =>
      simp at h; subst h
      rw [List.getElem?_append_left (by rw [hf]; omega), Nat.zero_mul, Nat.zero_add]
    | succ i =>
      simp at h
      rw [List.getElem?_append_right (by rw [hf, Nat.succ_mul]; omega), hf, Nat.succ_mul, show i * k + k + j - k = i * k + j by omega]
      exact ih i h
theorem fl_one_cell (h1 : ∀ x, ∀ u ∈ f x, u.oneCell' = true) (l : List α) : ∀ u ∈ fl f l, u.oneCell' = true := by
  intro u hu
  obtain ⟨x, _, hx⟩ := List.mem_flatMap.1 hu
  exact h1 x u hx
/-- the cells of one element -/
theorem reads_fl (hf : ∀ x, (f x).length = k) {w : World} {A : Option Addr} {n : Nat} {l : List α} (h : Reads w k A n (fl f l)) (hn : n = l.length) {i : Nat} {x : α} (hx : l[i]? = some x) :
    ∃ b o, A = some ⟨b, o, none⟩ ∧ b < w.heap.size ∧ ∀ j u, (f x)[j]? = some u → w.cell? ⟨b, o + i * k + j, none⟩ = some u := by
  have hi : i < l.length := (List.getElem?_eq_some_iff.1 hx).1
  obtain ⟨b, o, rfl, hb, hc⟩ := h.2 (by omega)
  refine ⟨b, o, rfl, hb, fun j u hu => ?_⟩
  have hj : j < k := by have := (List.getElem?_eq_some_iff.1 hu).1; rwa [hf] at this
  have := hc (i * k + j) u (by rw [fl_get hf l i hx j hj]; exact hu)
  rwa [← Nat.add_assoc] at this
theorem reads_fl2 (hf : ∀ x, (f x).length = 2) {w : World} {A : Option Addr} {n : Nat} {l : List α} (h : Reads w 2 A n (fl f l)) (hn : n = l.length) {i : Nat} {x : α} {p q : Value} (hx : l[i]? = some x) (hp : f x = [p, q]) :
    ∃ b o, A = some ⟨b, o, none⟩ ∧ b < w.heap.size ∧ w.cell? ⟨b, o + i * 2, none⟩ = some p ∧ w.cell? ⟨b, o + i * 2 + 1, none⟩ = some q := by
  obtain ⟨b, o, e, hb, hc⟩ := reads_fl hf h hn hx
  rw [hp] at hc
  exact ⟨b, o, e, hb, hc 0 p rfl, hc 1 q rfl⟩
theorem reads_fl3 (hf : ∀ x, (f x).length = 3) {w : World} {A : Option Addr} {n : Nat} {l : List α} (h : Reads w 3 A n (fl f l)) (hn : n = l.length) {i : Nat} {x : α} {p q r : Value} (hx : l[i]? = some x) (hp : f x = [p, q, r]) :
    ∃ b o, A = some ⟨b, o, none⟩ ∧ b < w.heap.size ∧ w.cell? ⟨b, o + i * 3, none⟩ = some p ∧ w.cell? ⟨b, o + i * 3 + 1, none⟩ = some q ∧ w.cell? ⟨b, o + i * 3 + 2, none⟩ = some r := by
  obtain ⟨b, o, e, hb, hc⟩ := reads_fl hf h hn hx
  rw [hp] at hc
  exact ⟨b, o, e, hb, hc 0 p rfl, hc 1 q rfl, hc 2 r rfl⟩
theorem reads_fl4 (hf : ∀ x, (f x).length = 4) {w : World} {A : Option Addr} {n : Nat} {l : List α} (h : Reads w 4 A n (fl f l)) (hn : n = l.length) {i : Nat} {x : α} {p q r s : Value} (hx : l[i]? = some x) (hp : f x = [p, q, r, s]) :
    ∃ b o, A = some ⟨b, o, none⟩ ∧ b < w.heap.size ∧ w.cell? ⟨b, o + i * 4, none⟩ = some p ∧ w.cell? ⟨b, o + i * 4 + 1, none⟩ = some q ∧ w.cell? ⟨b, o + i * 4 + 2, none⟩ = some r ∧ w.cell? ⟨b, o + i * 4 + 3, none⟩ = some s := by
  obtain ⟨b, o, e, hb, hc⟩ := reads_fl hf h hn hx
  rw [hp] at hc
  exact ⟨b, o, e, hb, hc 0 p rfl, hc 1 q rfl, hc 2 r rfl, hc 3 s rfl⟩
end
/-- one of a row of one-cell elements -/
theorem reads_at {w : World} {A : Option Addr} {n : Nat} {xs : List Value} (h : Reads w 1 A n xs) {i : Nat} {u : Value} (hx : xs[i]? = some u) : ∃ b o, A = some ⟨b, o, none⟩ ∧ b < w.heap.size ∧ w.cell? ⟨b, o + i, none⟩ = some u := by
  have hi := (List.getElem?_eq_some_iff.1 hx).1
  have hl := h.1
  obtain ⟨b, o, e, hb, hc⟩ := h.2 (by omega)
  exact ⟨b, o, e, hb, hc i u hx⟩
/-- what append reads of its second slice -/
theorem reads_add' {w : World} {size n : Nat} {b o : Nat} {xs : List Value} (h : Reads w size (some ⟨b, o, none⟩) n xs) : ∀ j u, xs[j]? = some u → w.cell? ((⟨b, o, none⟩ : Addr).add j) = some u := by
  intro j u hj
  have hn : 0 < n := by
    have := (List.getElem?_eq_some_iff.1 hj).1
    have := h.1
    rcases Nat.eq_zero_or_pos n with h0 | h0
    · subst h0; omega
    · exact h0
  obtain ⟨b', o', e, hb, hc⟩ := h.2 hn
  cases e
  have := hc j u hj
  by_cases h0 : j = 0
  · subst h0; simpa [Addr.add] using this
  · simpa [Addr.add, h0] using this
/-- a slice of a slice -/
theorem SlAt.cut {w : World} {k : Nat} {α : Type} {f : α → List Value} (hf : ∀ x, (f x).length = k) {b o n c : Nat} {l : List α} (h : SlAt w k (.slice (some ⟨b, o, none⟩) n c) n (fl f l)) (hn : n = l.length) {i j : Nat} (hij : i ≤ j) (hj : j ≤ n) (hk : 0 < k) :
    SlAt w k (.slice (some ⟨b, o + i * k, none⟩) (j - i) (c - i)) (j - i) (fl f ((l.take j).drop i)) := by
  obtain ⟨A', c', e, h1, h2, h3⟩ := h
  cases e
  have hl : ((l.take j).drop i).length = j - i := by rw [List.length_drop, List.length_take]; omega
  refine ⟨_, _, rfl, by omega, by omega, by rw [fl_len hf, hl], fun hp => ?_⟩
  obtain ⟨b', o', e, hb, hc⟩ := h3.2 (by omega)
  cases e
  refine ⟨b, o + i * k, rfl, hb, fun m u hm => ?_⟩
  have hm0 := (List.getElem?_eq_some_iff.1 hm).1
  rw [fl_len hf, hl] at hm0
  have hq := Nat.div_add_mod m k
  have hmod := Nat.mod_lt m hk
  have hdiv : m / k < j - i := (Nat.div_lt_iff_lt_mul hk).2 hm0
  obtain ⟨x, hx⟩ : ∃ x, ((l.take j).drop i)[m / k]? = some x := ⟨_, List.getElem?_eq_getElem (by omega)⟩
  have hx' : l[i + m / k]? = some x := by
    rw [List.getElem?_drop, List.getElem?_take, if_pos (by omega)] at hx
    exact hx
  have e1 : m = m / k * k + m % k := by rw [Nat.mul_comm]; omega
  rw [e1, fl_get hf _ _ hx _ hmod] at hm
  have := hc ((i + m / k) * k + m % k) u (by rw [fl_get hf l _ hx' _ hmod]; exact hm)
  rw [Nat.add_mul] at this
  have e2 : o + i * k + m = o + (i * k + m / k * k + m % k) := by omega
  rw [e2]
  exact this
end Go.Proofs.Ytfgkkflbpfocjaa

namespace Go.Proofs.Ytfgkkflbpfocjaa
open Go.RowKit Go.ChangeShapes Go.WideShapes Go.Deep
set_option linter.unusedVariables false
set_option linter.unusedSimpArgs false

section
variable {H : Type} {enc : TypeId × Value → H} {P : Program} {w : World} {base : Nat} {spare : Nat → Bool} {held : Bool}
theorem open_slice_fields {t e : TypeId} {fs : Array Field} {fuel : Nat} {cs : List Value} {x : DataW H × List MemPlace} (ht : P.underlying t = some (.slice e)) (he : P.underlying e = some (.struct fs))
    (hone : oneCellFields P fs = true) (hC : P.cellsOf e = fs.size) (h : DataW.trod enc P w base spare held fuel t cs = some x) :
    (cs = [.slice none 0 0] ∧ x = (.nil, [])) ∨
    ∃ (a : Addr) (len cap m : Nat) (D : Nat → DataW H) (Pl : Nat → List MemPlace), cs = [.slice (some a) len cap] ∧ base ≤ a.block ∧ len ≤ cap ∧ cap ≤ maxLen ∧ m = (if spare a.block then cap else len) ∧
      x = (.slice ((List.range len).map D) ((List.range (m - len)).map fun j => D (len + j)), MemPlace.row a (m * fs.size) ++ (List.range m).flatMap Pl) ∧
      ∀ i, i < m → ∃ (ys : List (DataW H × List MemPlace)) (n : Nat), D i = .agg (ys.map (·.1)) ∧ Pl i = ys.flatMap (·.2) ∧ ys.length = fs.size ∧
        ∀ (j : Nat) (f : Field), fs[j]? = some f → ∃ (v : Value) (y : DataW H × List MemPlace), w.cell? (a.add (i * fs.size + j)) = some v ∧ ys[j]? = some y ∧ DataW.trod enc P w base spare held n f.type [v] = some y := by
  rcases open_slice ht h with h0 | ⟨a, len, cap, m, n, D, Pl, hcs, hb, hl, hm, hmm, hx, hi⟩
  · exact .inl h0
  · refine .inr ⟨a, len, cap, m, D, Pl, hcs, hb, hl, hm, hmm, by rw [hC] at hx; exact hx, fun i him => ?_⟩
    obtain ⟨cs', hc, ht'⟩ := hi i him
    rw [hC] at hc
    obtain ⟨ys, n', hn', hy, hlen, hyl, hf⟩ := DataW.trod_struct he ht'
    obtain ⟨_, hcl, hat⟩ := World.cells?_some hc
    simp only [Prod.mk.injEq] at hy
    refine ⟨ys, n', hy.1, hy.2, hyl, fun j f hj => ?_⟩
    obtain ⟨ho, hk⟩ := hone_of hone j f hj
    have hjl : j < fs.size := (Array.getElem?_eq_some_iff.1 hj).1
    have hcell := hat j hjl
    have hv : cs'[j]? = some (cs'[j]'(by omega)) := List.getElem?_eq_getElem (by omega)
    have h1 := hf j f hj
    rw [ho, hk] at h1
    have hone' : (cs'.drop j).take 1 = [cs'[j]'(by omega)] := by
      rw [List.drop_eq_getElem_cons (by omega)]
      rfl
    rw [hone'] at h1
    have hys : ys[j]? = some (ys[j]'(by omega)) := List.getElem?_eq_getElem (by omega)
    refine ⟨_, _, ?_, hys, h1.trans hys⟩
    rw [← Go.Deep.add_add, hcell, hv]
end

/-- a list of things that there are -/
theorem list_of {α : Type} {P : Nat → α → Prop} (n : Nat) (h : ∀ i, i < n → ∃ c, P i c) : ∃ l : List α, l.length = n ∧ ∀ i c, l[i]? = some c → P i c := by
  induction n with
  | zero => exact ⟨[], rfl, fun i c hc => by simp at hc⟩
  | succ n ih =>
    obtain ⟨l, hl, hP⟩ := ih (fun i hi => h i (by omega))
    obtain ⟨c, hc⟩ := h n (by omega)
    refine ⟨l ++ [c], by simp [hl], fun i d hd => ?_⟩
    by_cases hi : i < l.length
    · rw [List.getElem?_append_left hi] at hd
      exact hP i d hd
    · have h2 := (List.getElem?_eq_some_iff.1 hd).1
      rw [List.length_append, List.length_singleton] at h2
      have : i = n := by omega
      subst this
      rw [List.getElem?_append_right (by omega), hl, Nat.sub_self] at hd
      simp at hd
      subst hd
      exact hc
theorem add_at (b o k : Nat) : ((⟨b, o, none⟩ : Addr).add k) = ⟨b, o + k, none⟩ := by
  unfold Addr.add; split <;> simp_all
theorem spot_none {w : World} {a : Addr} {u : Value} (h : w.cell? a = some u) : a.spot = none := by
  cases hs : a.spot with
  | none => rfl
  | some j =>
    exfalso
    unfold World.cell? at h
    split at h
    · simp [hs] at h
    · cases h
theorem spot_add {a : Addr} {k : Nat} (h : (a.add k).spot = none) : a.spot = none ∨ k ≠ 0 := by
  by_cases hk : k = 0
  · left; subst hk; simpa [Addr.add] using h
  · exact .inr hk
/-- cells read as a row of elements -/
theorem reads_of {α : Type} {f : α → List Value} {k : Nat} (hf : ∀ x, (f x).length = k) (hk : 0 < k) {w : World} {a : Addr} {l : List α} (hc : ∀ i x, l[i]? = some x → ∀ j u, (f x)[j]? = some u → w.cell? (a.add (i * k + j)) = some u) : Reads w k (some a) l.length (fl f l) := by
  refine ⟨fl_len hf l, fun hn => ?_⟩
  obtain ⟨x, hx⟩ : ∃ x, l[0]? = some x := ⟨_, List.getElem?_eq_getElem hn⟩
  obtain ⟨u, hu⟩ : ∃ u, (f x)[0]? = some u := ⟨_, List.getElem?_eq_getElem (by rw [hf]; exact hk)⟩
  have h0 := hc 0 x hx 0 u hu
  rw [Nat.zero_mul, Nat.zero_add] at h0
  have e0 : a.add 0 = a := by simp [Addr.add]
  rw [e0] at h0
  have hs := spot_none h0
  obtain ⟨b, o, s⟩ := a
  dsimp only at hs
  subst hs
  refine ⟨b, o, rfl, World.block_lt_of_cell? w _ h0, fun m v hm => ?_⟩
  have hm0 := (List.getElem?_eq_some_iff.1 hm).1
  rw [fl_len hf] at hm0
  have hmod := Nat.mod_lt m hk
  have hdiv : m / k < l.length := (Nat.div_lt_iff_lt_mul hk).2 hm0
  obtain ⟨y, hy⟩ : ∃ y, l[m / k]? = some y := ⟨_, List.getElem?_eq_getElem hdiv⟩
  have e1 : m = m / k * k + m % k := by have := Nat.div_add_mod m k; rw [Nat.mul_comm]; omega
  rw [e1, fl_get hf _ _ hy _ hmod] at hm
  have := hc _ y hy _ v hm
  rw [add_at, ← e1] at this
  exact this
/-- an integer argument -/
theorem open_u64 {H : Type} {enc : TypeId × Value → H} {P : Program} {w : World} {base : Nat} {t : TypeId} {v : Value} {d : DataW H} {p : List MemPlace} (ht : P.underlying t = some (.int .u64)) (hv : Value.okWide P w .any base t v) (h : DataW.Trod enc P w 0 (fun _ => true) true t v d p) :
    ∃ a : Int, v = .int .u64 a ∧ 0 ≤ a ∧ a ≤ 18446744073709551615 := by
  obtain ⟨a, rfl, _, _, hw⟩ := open_int ht hv h
  refine ⟨a, rfl, ?_⟩
  simp [Lit.wf, IntKind.min, IntKind.max, IntKind.signed, IntKind.bits] at hw
  omega
theorem open_i64 {H : Type} {enc : TypeId × Value → H} {P : Program} {w : World} {base : Nat} {t : TypeId} {v : Value} {d : DataW H} {p : List MemPlace} (ht : P.underlying t = some (.int .i64)) (hv : Value.okWide P w .any base t v) (h : DataW.Trod enc P w 0 (fun _ => true) true t v d p) :
    ∃ a : Int, v = .int .i64 a ∧ -9223372036854775808 ≤ a ∧ a ≤ 9223372036854775807 := by
  obtain ⟨a, rfl, _, _, hw⟩ := open_int ht hv h
  refine ⟨a, rfl, ?_⟩
  simp [Lit.wf, IntKind.min, IntKind.max, IntKind.signed, IntKind.bits] at hw
  omega
theorem wf_u64 {n : Int} (hw : (Lit.int .u64 n).wf = true) : 0 ≤ n ∧ n ≤ 18446744073709551615 := by
  simp [Lit.wf, IntKind.min, IntKind.max, IntKind.signed, IntKind.bits] at hw
  omega
end Go.Proofs.Ytfgkkflbpfocjaa

namespace Go.Proofs.Ytfgkkflbpfocjaa
set_option linter.unusedVariables false
set_option linter.unusedSimpArgs false

/-- a slot: offset, size, and the bundle's ID (node, sequence number, offset) -/
structure Sl where
  off : Int
  size : Int
  node : Int
  seq : Int
  io : Int
deriving DecidableEq
/-- a ledger: granted, next, returned, slots -/
structure Led where
  g : Int
  n : Int
  r : Int
  sl : List Sl
deriving DecidableEq

def IdOk (node seq io : Int) : Prop := 1 ≤ node ∧ node ≤ 16 ∧ 0 ≤ io ∧ io ≤ 19999 ∧ seq ≤ 1099511627776
instance (a b c : Int) : Decidable (IdOk a b c) := by unfold IdOk; exact inferInstance
def idE (node seq io : Int) : Int := if IdOk node seq io then 0 else 2

/-- the same bundle -/
def Sl.has (x : Sl) (node seq io : Int) : Bool := x.node == node && x.seq == seq && x.io == io
def Sl.same (x y : Sl) : Bool := x.has y.node y.seq y.io

/-- the number of the first slot for a bundle; the number of slots if there is none -/
def fnd (node seq io : Int) : List Sl → Nat
  | [] => 0
  | x :: r => if x.has node seq io then 0 else fnd node seq io r + 1
def anyHas (node seq io : Int) (l : List Sl) : Bool := l.any fun x => x.has node seq io

theorem fnd_le (a b c : Int) (l : List Sl) : fnd a b c l ≤ l.length := by
  induction l with
  | nil => exact Nat.le_refl _
  | cons x r ih => unfold fnd; split <;> simp <;> omega
theorem fnd_lt (a b c : Int) (l : List Sl) : fnd a b c l < l.length ↔ anyHas a b c l = true := by
  induction l with
  | nil => simp [fnd, anyHas]
  | cons x r ih =>
    unfold fnd
    by_cases h : x.has a b c
    · simp [h, anyHas]
    · simp only [h, if_false, Bool.false_eq_true, List.length_cons, Nat.add_lt_add_iff_right, ih]
      simp [anyHas, h]
theorem fnd_at (a b c : Int) (l : List Sl) {x : Sl} (h : l[fnd a b c l]? = some x) : x.has a b c = true := by
  induction l with
  | nil => simp [fnd] at h
  | cons y r ih =>
    unfold fnd at h
    by_cases hy : y.has a b c
    · rw [if_pos hy] at h; simp at h; subst h; exact hy
    · rw [if_neg hy] at h; simp at h; exact ih h
theorem fnd_before (a b c : Int) (l : List Sl) (i : Nat) (hi : i < fnd a b c l) {x : Sl} (h : l[i]? = some x) : x.has a b c = false := by
  induction l generalizing i with
  | nil => simp [fnd] at hi
  | cons y r ih =>
    unfold fnd at hi
    by_cases hy : y.has a b c
    · rw [if_pos hy] at hi; omega
    · rw [if_neg hy] at hi
      cases i with
      | zero => simp at h; subst h; simpa using hy
      | succ i => simp at h; exact ih i (by omega) h
/-- what decides the search: the first slot that fits -/
theorem fnd_is (a b c : Int) (l : List Sl) (k : Nat) (hk : k ≤ l.length) (hb : ∀ i x, i < k → l[i]? = some x → x.has a b c = false) (ha : k < l.length → ∃ x, l[k]? = some x ∧ x.has a b c = true) : fnd a b c l = k := by
  induction l generalizing k with
  | nil => simp at hk; subst hk; rfl
  | cons y r ih =>
    cases k with
    | zero =>
      obtain ⟨x, hx, hh⟩ := ha (by simp)
      simp at hx; subst hx
      unfold fnd; rw [if_pos hh]
    | succ k =>
      have h0 := hb 0 y (by omega) (by simp)
      unfold fnd
      rw [if_neg (by simp [h0])]
      congr 1
      refine ih k (by simp at hk; omega) (fun i x hi hx => hb (i + 1) x (by omega) (by simpa using hx)) (fun h => ?_)
      obtain ⟨x, hx, hh⟩ := ha (by simp; omega)
      exact ⟨x, by simpa using hx, hh⟩

/-- the error of a slot, behind those in done, which end at e -/
def slotE (nxt : Int) (done : List Sl) (e : Int) (x : Sl) : Int :=
  if x.size = 0 ∨ ¬ IdOk x.node x.seq x.io then 2
  else if x.off < e ∨ nxt < x.off ∨ nxt - x.off < x.size then 19
  else if anyHas x.node x.seq x.io done = true then 9 else 0
def scan (nxt : Int) (done : List Sl) (e : Int) : List Sl → Int × Int
  | [] => (0, 0)
  | x :: r => if slotE nxt done e x = 0 then scan nxt (done ++ [x]) (x.off + x.size) r else (slotE nxt done e x, done.length)
/-- a ledger's error, and the number of the slot with it -/
def chk (s : Led) : Int × Int :=
  if 1125899906842624 < s.g then (2, 0)
  else if s.g < s.r ∨ s.g - s.r < s.n then (14, 0)
  else if 100 < s.sl.length then (5, 0)
  else scan s.n [] 0 s.sl
def okL (s : Led) : Prop := (chk s).1 = 0
instance (s : Led) : Decidable (okL s) := by unfold okL; exact inferInstance
def usab (s : Led) : Int := s.g - s.n - s.r
def flr (s : Led) : Int := match s.sl with | [] => s.n | x :: _ => x.off

/-- the numbers of a ledger fit their kinds -/
def Wf (s : Led) : Prop := (0 ≤ s.g ∧ s.g ≤ 18446744073709551615) ∧ (0 ≤ s.n ∧ s.n ≤ 18446744073709551615) ∧ (0 ≤ s.r ∧ s.r ≤ 18446744073709551615) ∧
  ∀ x ∈ s.sl, (0 ≤ x.off ∧ x.off ≤ 18446744073709551615) ∧ (0 ≤ x.size ∧ x.size ≤ 18446744073709551615) ∧ (0 ≤ x.seq ∧ x.seq ≤ 18446744073709551615)

/-- the results: a ledger, a number, an error -/
def grant (s : Led) (t : Int) : Led × Int × Int :=
  if ¬ okL s then (⟨0, 0, 0, []⟩, 0, (chk s).1) else if 1125899906842624 < t then (⟨0, 0, 0, []⟩, 0, 2)
  else if t ≤ s.g then (s, 0, 0) else ({ s with g := t }, t - s.g, 0)
def give (s : Led) (t : Int) : Led × Int × Int :=
  if ¬ okL s then (⟨0, 0, 0, []⟩, 0, (chk s).1) else if 1125899906842624 < t then (⟨0, 0, 0, []⟩, 0, 2)
  else if t ≤ s.r then (s, 0, 0) else if usab s < t - s.r then ({ s with r := s.r + usab s }, usab s, 0) else ({ s with r := t }, t - s.r, 0)
def offer (s : Led) (size node seq io : Int) : Led × Int × Int :=
  if ¬ okL s then (⟨0, 0, 0, []⟩, 0, (chk s).1)
  else if size = 0 ∨ ¬ IdOk node seq io then (⟨0, 0, 0, []⟩, 0, 2)
  else if anyHas node seq io s.sl = true then (⟨0, 0, 0, []⟩, 0, 9)
  else if s.sl.length = 100 then (⟨0, 0, 0, []⟩, 0, 5)
  else if usab s < size then (⟨0, 0, 0, []⟩, 0, 14)
  else ({ s with sl := s.sl ++ [⟨s.n, size, node, seq, io⟩], n := s.n + size }, s.n, 0)
def settle (s : Led) (off node seq io : Int) : Led × Int :=
  if ¬ okL s then (⟨0, 0, 0, []⟩, (chk s).1)
  else if ¬ IdOk node seq io then (⟨0, 0, 0, []⟩, 2)
  else match s.sl[fnd node seq io s.sl]? with
    | none => (⟨0, 0, 0, []⟩, 8)
    | some x => if x.off ≠ off then (⟨0, 0, 0, []⟩, 8) else ({ s with sl := s.sl.eraseIdx (fnd node seq io s.sl) }, 0)
end Go.Proofs.Ytfgkkflbpfocjaa

namespace Go.Proofs.Ytfgkkflbpfocjaa
open Go.RowKit
set_option linter.unusedVariables false
set_option linter.unusedSimpArgs false

def Sl.cells (x : Sl) : List Value := [.int .u64 x.off, .int .u64 x.size, .int .i64 x.node, .int .u64 x.seq, .int .i64 x.io]
def flat (l : List Sl) : List Value := l.flatMap Sl.cells
theorem flat_len (l : List Sl) : (flat l).length = l.length * 5 := by
  induction l with
  | nil => rfl
  | cons x l ih => simp [flat, Sl.cells] at *; omega
theorem flat_get (l : List Sl) (k : Nat) {x : Sl} (h : l[k]? = some x) (j : Nat) (hj : j < 5) : (flat l)[k * 5 + j]? = x.cells[j]? := by
  induction l generalizing k with
  | nil => simp at h
  | cons y l ih =>
    cases k with
    | zero =>
      simp at h; subst h
      show (y.cells ++ flat l)[0 * 5 + j]? = _
      rw [List.getElem?_append_left (by simp [Sl.cells]; omega)]
      simp
    | succ k =>
      simp at h
      show (y.cells ++ flat l)[(k + 1) * 5 + j]? = _
      rw [List.getElem?_append_right (by simp [Sl.cells]; omega)]
      have : (k + 1) * 5 + j - y.cells.length = k * 5 + j := by simp [Sl.cells]; omega
      rw [this]
      exact ih k h

/-- the ledger's value -/
def LedAt (w : World) (V : Value) (s : Led) : Prop := ∃ v, V = .agg #[.int .u64 s.g, .int .u64 s.n, .int .u64 s.r, v] ∧ SlAt w 5 v s.sl.length (flat s.sl)

def RetI (k : IntKind) (a : Int) (w : World) (e : Ending) (w' : World) : Prop := e = .returned (.int k a) ∧ Below w.heap.size w w'
def RetB (a : Bool) (w : World) (e : Ending) (w' : World) : Prop := e = .returned (.bool a) ∧ Below w.heap.size w w'

set_option maxHeartbeats 1000000 in
theorem within_two (b : Nat) (x l h y m k : Int) (w : World) (c0 : w.cell? ⟨b, 0, none⟩ = some (.int .i64 x)) (c1 : w.cell? ⟨b, 1, none⟩ = some (.int .i64 l)) (c2 : w.cell? ⟨b, 2, none⟩ = some (.int .i64 h))
    (c3 : w.cell? ⟨b, 3, none⟩ = some (.int .i64 y)) (c4 : w.cell? ⟨b, 4, none⟩ = some (.int .i64 m)) (c5 : w.cell? ⟨b, 5, none⟩ = some (.int .i64 k)) (hb : b < w.heap.size) :
    Calls Try.prog 114 #[.slice (some ⟨b, 0, none⟩) 2 2] w (RetB (decide ((l ≤ x ∧ x ≤ h) ∧ (m ≤ y ∧ y ≤ k))) w) := by
  go_enter Try.func114, Try.ntmps114
  go_wp2
  go_loopw [7] (fun a wr => ∃ i : Nat, i ≤ 2 ∧ a = .int .i64 i ∧ (1 ≤ i → l ≤ x ∧ x ≤ h) ∧ (2 ≤ i → m ≤ y ∧ y ≤ k) ∧ Below w.heap.size w wr) (fun a _ => 2 - (intOf a).toNat)
  case atStart => exact ⟨0, by omega, rfl, fun h => by omega, fun h => by omega, Below.refl _ _⟩
  case round =>
    obtain ⟨i, hi, rfl, h1, h2, hB⟩ := hrel
    have d0 := (hB.cell (p := ⟨b, 0, none⟩) hb).trans c0
    have d1 := (hB.cell (p := ⟨b, 1, none⟩) hb).trans c1
    have d2 := (hB.cell (p := ⟨b, 2, none⟩) hb).trans c2
    have d3 := (hB.cell (p := ⟨b, 3, none⟩) hb).trans c3
    have d4 := (hB.cell (p := ⟨b, 4, none⟩) hb).trans c4
    have d5 := (hB.cell (p := ⟨b, 5, none⟩) hb).trans c5
    have hz := hB.size
    clear c0 c1 c2 c3 c4 c5
    have H1 := Lib.hid h1
    have H2 := Lib.hid h2
    clear h1 h2
    by_cases e0 : i = 0
    · subst e0
      by_cases p : l ≤ x
      · by_cases q : x ≤ h
        · go_wp2
          go_roundw
          case rel => exact ⟨1, by omega, rfl, fun _ => ⟨p, q⟩, fun h => by omega, (by repeat (first | with_reducible exact Below.refl _ _ | with_reducible refine Below.drew ?_ | with_reducible refine below_drewN ?_ _ | with_reducible refine bal ?_ _ | with_reducible refine bset ?_ (by first | (simp; done) | (simp; omega)) _ | with_reducible refine bnext ?_ (by assumption) | with_reducible assumption))⟩
          case measure => simp [intOf]
        · go_wp2
          go_ret
          exact ⟨ret_bool (by simp; omega), (by repeat (first | with_reducible exact Below.refl _ _ | with_reducible refine Below.drew ?_ | with_reducible refine below_drewN ?_ _ | with_reducible refine bal ?_ _ | with_reducible refine bset ?_ (by first | (simp; done) | (simp; omega)) _ | with_reducible refine bnext ?_ (by assumption) | with_reducible assumption))⟩
      · go_wp2
        go_ret
        exact ⟨ret_bool (by simp; omega), (by repeat (first | with_reducible exact Below.refl _ _ | with_reducible refine Below.drew ?_ | with_reducible refine below_drewN ?_ _ | with_reducible refine bal ?_ _ | with_reducible refine bset ?_ (by first | (simp; done) | (simp; omega)) _ | with_reducible refine bnext ?_ (by assumption) | with_reducible assumption))⟩
    · by_cases e1 : i = 1
      · subst e1
        by_cases p : m ≤ y
        · by_cases q : y ≤ k
          · go_wp2
            go_roundw
            case rel => exact ⟨2, by omega, rfl, fun _ => H1.out (by omega), fun _ => ⟨p, q⟩, (by repeat (first | with_reducible exact Below.refl _ _ | with_reducible refine Below.drew ?_ | with_reducible refine below_drewN ?_ _ | with_reducible refine bal ?_ _ | with_reducible refine bset ?_ (by first | (simp; done) | (simp; omega)) _ | with_reducible refine bnext ?_ (by assumption) | with_reducible assumption))⟩
            case measure => simp [intOf]
          · go_wp2
            go_ret
            exact ⟨ret_bool (by simp; omega), (by repeat (first | with_reducible exact Below.refl _ _ | with_reducible refine Below.drew ?_ | with_reducible refine below_drewN ?_ _ | with_reducible refine bal ?_ _ | with_reducible refine bset ?_ (by first | (simp; done) | (simp; omega)) _ | with_reducible refine bnext ?_ (by assumption) | with_reducible assumption))⟩
        · go_wp2
          go_ret
          exact ⟨ret_bool (by simp; omega), (by repeat (first | with_reducible exact Below.refl _ _ | with_reducible refine Below.drew ?_ | with_reducible refine below_drewN ?_ _ | with_reducible refine bal ?_ _ | with_reducible refine bset ?_ (by first | (simp; done) | (simp; omega)) _ | with_reducible refine bnext ?_ (by assumption) | with_reducible assumption))⟩
      · obtain rfl : i = 2 := by omega
        go_wp2
        go_ret
        exact ⟨ret_bool (by have a := H1.out (by omega); have b := H2.out (by omega); simp; omega), (by repeat (first | with_reducible exact Below.refl _ _ | with_reducible refine Below.drew ?_ | with_reducible refine below_drewN ?_ _ | with_reducible refine bal ?_ _ | with_reducible refine bset ?_ (by first | (simp; done) | (simp; omega)) _ | with_reducible refine bnext ?_ (by assumption) | with_reducible assumption))⟩

theorem newcell1 (w : World) (o : Obj) (cs : Array Value) (t : TypeId) (i : Nat) : ((w.alloc o).alloc (.cells cs t)).cell? ⟨w.heap.size + 1, i, none⟩ = cs[i]? := by
  have := newcell (w.alloc o) cs t i
  rwa [World.size_alloc] at this
theorem newcell2 (w : World) (o o' : Obj) (cs : Array Value) (t : TypeId) (i : Nat) : (((w.alloc o).alloc o').alloc (.cells cs t)).cell? ⟨w.heap.size + 1 + 1, i, none⟩ = cs[i]? := by
  have := newcell ((w.alloc o).alloc o') cs t i
  rwa [World.size_alloc, World.size_alloc] at this

set_option maxHeartbeats 1000000 in
theorem CheckID_any (node seq io : Int) (w : World) :
    Calls Try.prog 91 #[.agg #[.int .i64 node, .int .u64 seq, .int .i64 io]] w (RetI .i64 (idE node seq io) w) := by
  by_cases h : (1 ≤ node ∧ node ≤ 16) ∧ (0 ≤ io ∧ io ≤ 19999)
  · have H := Lib.hid h
    have D : Hid (decide ((1 ≤ node ∧ node ≤ 16) ∧ (0 ≤ io ∧ io ≤ 19999)) = true) := by show decide _ = true; simpa using h
    clear h
    by_cases hs : seq ≤ 1099511627776
    · have R : Hid (idE node seq io = 0) := if_pos ⟨H.out.1.1, H.out.1.2, H.out.2.1, H.out.2.2, hs⟩
      go_enter Try.func91, Try.ntmps91
      go_wp2_with fail
      refine (within_two (w.heap.size + 1) node 1 16 io 0 19999 _ ?_ ?_ ?_ ?_ ?_ ?_ (by simp)).mono ?_
      all_goals first | (rw [newcell1]; rfl) | skip
      rintro e w1 ⟨rfl, hb1⟩
      rw [D.out]
      have hcf := (bcell hb1).1
      have hz := hb1.size
      simp at hz
      go_wp2
      go_ret
      exact ⟨ret_int R.out.symm, (by repeat (first | with_reducible exact Below.refl _ _ | with_reducible refine Below.drew ?_ | with_reducible refine below_drewN ?_ _ | with_reducible refine bal ?_ _ | with_reducible refine bset ?_ (by first | (simp; done) | (simp; omega)) _ | with_reducible refine bnext ?_ (by assumption) | with_reducible assumption))⟩
    · have R : Hid (idE node seq io = 2) := if_neg (fun h => hs h.2.2.2.2)
      go_enter Try.func91, Try.ntmps91
      go_wp2_with fail
      refine (within_two (w.heap.size + 1) node 1 16 io 0 19999 _ ?_ ?_ ?_ ?_ ?_ ?_ (by simp)).mono ?_
      all_goals first | (rw [newcell1]; rfl) | skip
      rintro e w1 ⟨rfl, hb1⟩
      rw [D.out]
      have hcf := (bcell hb1).1
      have hz := hb1.size
      simp at hz
      go_wp2
      go_ret
      exact ⟨ret_int R.out.symm, (by repeat (first | with_reducible exact Below.refl _ _ | with_reducible refine Below.drew ?_ | with_reducible refine below_drewN ?_ _ | with_reducible refine bal ?_ _ | with_reducible refine bset ?_ (by first | (simp; done) | (simp; omega)) _ | with_reducible refine bnext ?_ (by assumption) | with_reducible assumption))⟩
  · have D : Hid (decide ((1 ≤ node ∧ node ≤ 16) ∧ (0 ≤ io ∧ io ≤ 19999)) = false) := by show decide _ = false; simpa using h
    have R : Hid (idE node seq io = 2) := if_neg (fun e => h ⟨⟨e.1, e.2.1⟩, e.2.2.1, e.2.2.2.1⟩)
    clear h
    go_enter Try.func91, Try.ntmps91
    go_wp2_with fail
    refine (within_two (w.heap.size + 1) node 1 16 io 0 19999 _ ?_ ?_ ?_ ?_ ?_ ?_ (by simp)).mono ?_
    all_goals first | (rw [newcell1]; rfl) | skip
    rintro e w1 ⟨rfl, hb1⟩
    rw [D.out]
    go_wp2
    go_ret
    exact ⟨ret_int R.out.symm, (by repeat (first | with_reducible exact Below.refl _ _ | with_reducible refine Below.drew ?_ | with_reducible refine below_drewN ?_ _ | with_reducible refine bal ?_ _ | with_reducible refine bset ?_ (by first | (simp; done) | (simp; omega)) _ | with_reducible refine bnext ?_ (by assumption) | with_reducible assumption))⟩

set_option maxHeartbeats 1000000 in
theorem rCheckID_any (node seq io : Int) (w : World) :
    Calls Try.prog 82 #[.agg #[.int .i64 node, .int .u64 seq, .int .i64 io]] w (RetI .i64 (idE node seq io) w) := by
  by_cases a : 1 ≤ node
  · by_cases b : node ≤ 16
    · by_cases c : seq ≤ 1099511627776
      · by_cases d : 0 ≤ io
        · by_cases f : io ≤ 19999
          · have R : Hid (idE node seq io = 0) := if_pos ⟨a, b, d, f, c⟩
            go_enter Try.func82, Try.ntmps82
            go_wp2
            go_ret
            exact ⟨ret_int R.out.symm, (by repeat (first | with_reducible exact Below.refl _ _ | with_reducible refine Below.drew ?_ | with_reducible refine below_drewN ?_ _ | with_reducible refine bal ?_ _ | with_reducible refine bset ?_ (by first | (simp; done) | (simp; omega)) _ | with_reducible refine bnext ?_ (by assumption) | with_reducible assumption))⟩
          · have R : Hid (idE node seq io = 2) := if_neg (fun e => f e.2.2.2.1)
            have f' : 20000 ≤ io := by omega
            go_enter Try.func82, Try.ntmps82
            go_wp2
            go_ret
            exact ⟨ret_int R.out.symm, (by repeat (first | with_reducible exact Below.refl _ _ | with_reducible refine Below.drew ?_ | with_reducible refine below_drewN ?_ _ | with_reducible refine bal ?_ _ | with_reducible refine bset ?_ (by first | (simp; done) | (simp; omega)) _ | with_reducible refine bnext ?_ (by assumption) | with_reducible assumption))⟩
        · have R : Hid (idE node seq io = 2) := if_neg (fun e => d e.2.2.1)
          go_enter Try.func82, Try.ntmps82
          go_wp2
          go_ret
          exact ⟨ret_int R.out.symm, (by repeat (first | with_reducible exact Below.refl _ _ | with_reducible refine Below.drew ?_ | with_reducible refine below_drewN ?_ _ | with_reducible refine bal ?_ _ | with_reducible refine bset ?_ (by first | (simp; done) | (simp; omega)) _ | with_reducible refine bnext ?_ (by assumption) | with_reducible assumption))⟩
      · have R : Hid (idE node seq io = 2) := if_neg (fun e => c e.2.2.2.2)
        go_enter Try.func82, Try.ntmps82
        go_wp2
        go_ret
        exact ⟨ret_int R.out.symm, (by repeat (first | with_reducible exact Below.refl _ _ | with_reducible refine Below.drew ?_ | with_reducible refine below_drewN ?_ _ | with_reducible refine bal ?_ _ | with_reducible refine bset ?_ (by first | (simp; done) | (simp; omega)) _ | with_reducible refine bnext ?_ (by assumption) | with_reducible assumption))⟩
    · have R : Hid (idE node seq io = 2) := if_neg (fun e => b e.2.1)
      go_enter Try.func82, Try.ntmps82
      go_wp2
      go_ret
      exact ⟨ret_int R.out.symm, (by repeat (first | with_reducible exact Below.refl _ _ | with_reducible refine Below.drew ?_ | with_reducible refine below_drewN ?_ _ | with_reducible refine bal ?_ _ | with_reducible refine bset ?_ (by first | (simp; done) | (simp; omega)) _ | with_reducible refine bnext ?_ (by assumption) | with_reducible assumption))⟩
  · have R : Hid (idE node seq io = 2) := if_neg (fun e => a e.1)
    go_enter Try.func82, Try.ntmps82
    go_wp2
    go_ret
    exact ⟨ret_int R.out.symm, (by repeat (first | with_reducible exact Below.refl _ _ | with_reducible refine Below.drew ?_ | with_reducible refine below_drewN ?_ _ | with_reducible refine bal ?_ _ | with_reducible refine bset ?_ (by first | (simp; done) | (simp; omega)) _ | with_reducible refine bnext ?_ (by assumption) | with_reducible assumption))⟩

theorem run_eql_id (a b c d e f : Int) (w : World) : (binOp .eql 47 (.agg #[.int .i64 a, .int .u64 b, .int .i64 c]) (.agg #[.int .i64 d, .int .u64 e, .int .i64 f])).run Try.prog w = .ok (.bool (a == d && b == e && c == f)) w := by
  go_simp
  by_cases h1 : a = d <;> by_cases h2 : b = e <;> by_cases h3 : c = f <;> simp [h1, h2, h3]

set_option maxHeartbeats 1000000 in
theorem is_any (n s o : Int) (x : Sl) (w : World) :
    Calls Try.prog 117 #[.agg #[.int .i64 n, .int .u64 s, .int .i64 o], .agg #[.int .u64 x.off, .int .u64 x.size, .int .i64 x.node, .int .u64 x.seq, .int .i64 x.io]] w (RetB (x.has n s o) w) := by
  have he := run_eql_id
  go_enter Try.func117, Try.ntmps117
  go_wp2
  go_ret
  exact ⟨rfl, (by repeat (first | with_reducible exact Below.refl _ _ | with_reducible refine Below.drew ?_ | with_reducible refine below_drewN ?_ _ | with_reducible refine bal ?_ _ | with_reducible refine bset ?_ (by first | (simp; done) | (simp; omega)) _ | with_reducible refine bnext ?_ (by assumption) | with_reducible assumption))⟩
end Go.Proofs.Ytfgkkflbpfocjaa

namespace Go.Proofs.Ytfgkkflbpfocjaa
open Go.RowKit
set_option linter.unusedVariables false
set_option linter.unusedSimpArgs false

/-- the five cells of a slot -/
theorem slot_cells {w : World} {A : Option Addr} {n : Nat} {l : List Sl} (h : Reads w 5 A n (flat l)) (hn : n = l.length) {k : Nat} {x : Sl} (hx : l[k]? = some x) :
    ∃ b o, A = some ⟨b, o, none⟩ ∧ b < w.heap.size ∧ w.cell? ⟨b, o + k * 5, none⟩ = some (.int .u64 x.off) ∧ w.cell? ⟨b, o + k * 5 + 1, none⟩ = some (.int .u64 x.size) ∧ w.cell? ⟨b, o + k * 5 + 2, none⟩ = some (.int .i64 x.node) ∧
      w.cell? ⟨b, o + k * 5 + 3, none⟩ = some (.int .u64 x.seq) ∧ w.cell? ⟨b, o + k * 5 + 4, none⟩ = some (.int .i64 x.io) := by
  have hk : k < l.length := (List.getElem?_eq_some_iff.1 hx).1
  obtain ⟨b, o, rfl, hb, hc⟩ := h.2 (by omega)
  refine ⟨b, o, rfl, hb, ?_, ?_, ?_, ?_, ?_⟩
  · exact hc (k * 5) _ (by have := flat_get l k hx 0 (by omega); rw [Nat.add_zero] at this; rw [this]; rfl)
  · have := hc (k * 5 + 1) _ (by rw [flat_get l k hx 1 (by omega)]; rfl); rwa [← Nat.add_assoc] at this
  · have := hc (k * 5 + 2) _ (by rw [flat_get l k hx 2 (by omega)]; rfl); rwa [← Nat.add_assoc] at this
  · have := hc (k * 5 + 3) _ (by rw [flat_get l k hx 3 (by omega)]; rfl); rwa [← Nat.add_assoc] at this
  · have := hc (k * 5 + 4) _ (by rw [flat_get l k hx 4 (by omega)]; rfl); rwa [← Nat.add_assoc] at this

def idx (n s o : Int) (l : List Sl) : Int := if fnd n s o l < l.length then (fnd n s o l : Int) else -1

set_option maxHeartbeats 1000000 in
theorem idx_any (n s o : Int) (v : Value) (l : List Sl) (w : World) (hS : SlAt w 5 v l.length (flat l)) :
    Calls Try.prog 116 #[v, .func (.func 117) #[.agg #[.int .i64 n, .int .u64 s, .int .i64 o]] #[]] w (RetI .i64 (idx n s o l) w) := by
  obtain ⟨A, c, rfl, h1, h2, hR⟩ := hS
  unfold maxLen at h2
  go_enter Try.func116, Try.ntmps116
  go_wp2
  go_loopw [5, 8] (fun i5 a wr => ∃ k : Nat, k ≤ l.length ∧ a = .int .i64 k ∧ k ≤ fnd n s o l ∧ Below w.heap.size w wr) (fun _ a _ => l.length - (intOf a).toNat)
  case atStart => exact ⟨0, by omega, rfl, by omega, Below.refl _ _⟩
  case round =>
    obtain ⟨k, hk, rfl, hf, hB⟩ := hrel
    have HF := Lib.hid hf
    clear hf
    by_cases hlt : k < l.length
    · obtain ⟨x, hx⟩ : ∃ x, l[k]? = some x := ⟨_, List.getElem?_eq_getElem hlt⟩
      obtain ⟨b, of, rfl, hb, d0, d1, d2, d3, d4⟩ := slot_cells (hR.keep hB.size fun b o h => hB.cell (p := ⟨b, o, none⟩) h) rfl hx
      have HX := Lib.hid hx
      clear hx
      have hi : (k : Int) < l.length := by omega
      by_cases hh : x.has n s o = true
      · have e : fnd n s o l = k := by
          have a := HF.out
          by_cases e : k < fnd n s o l
          · have := fnd_before n s o l k e HX.out
            rw [hh] at this
            cases this
          · omega
        have E : Hid (idx n s o l = k) := by show (if fnd n s o l < l.length then (fnd n s o l : Int) else -1) = k; rw [e, if_pos hlt]
        clear e
        have HH := Lib.hid hh
        clear hh
        go_wp2_with fail
        refine (is_any n s o x _).mono ?_
        rintro e w1 ⟨rfl, hb1⟩
        rw [HH.out]
        go_wp2_with fail
        go_ret
        exact ⟨ret_int E.out.symm, (by repeat (first | with_reducible exact Below.refl _ _ | with_reducible refine Below.drew ?_ | with_reducible refine below_drewN ?_ _ | with_reducible refine bal ?_ _ | with_reducible refine bset ?_ (by first | (simp; done) | (simp; omega)) _ | with_reducible refine bnext ?_ (by assumption) | with_reducible assumption))⟩
      · have e : k + 1 ≤ fnd n s o l := by
          have a := HF.out
          by_cases e : k = fnd n s o l
          · have hx := HX.out
            rw [e] at hx
            exact absurd (fnd_at n s o l hx) hh
          · omega
        have E := Lib.hid e
        have hh' : x.has n s o = false := by simpa using hh
        have HH := Lib.hid hh'
        clear hh hh' e
        go_wp2_with fail
        refine (is_any n s o x _).mono ?_
        rintro e w1 ⟨rfl, hb1⟩
        rw [HH.out]
        go_wp2_with fail
        go_roundw
        case rel => exact ⟨k + 1, by omega, by go_num, E.out, (by repeat (first | with_reducible exact Below.refl _ _ | with_reducible refine Below.drew ?_ | with_reducible refine below_drewN ?_ _ | with_reducible refine bal ?_ _ | with_reducible refine bset ?_ (by first | (simp; done) | (simp; omega)) _ | with_reducible refine bnext ?_ (by assumption) | with_reducible assumption))⟩
        case measure => simp [intOf]; omega
    · have e : k = l.length := by omega
      have E : Hid (idx n s o l = -1) := by
        show (if fnd n s o l < l.length then (fnd n s o l : Int) else -1) = -1
        have := HF.out
        rw [if_neg (by omega)]
      clear e
      have hi : ¬ (k : Int) < l.length := by omega
      go_wp2_with fail
      go_ret
      exact ⟨ret_int E.out.symm, (by repeat (first | with_reducible exact Below.refl _ _ | with_reducible refine Below.drew ?_ | with_reducible refine below_drewN ?_ _ | with_reducible refine bal ?_ _ | with_reducible refine bset ?_ (by first | (simp; done) | (simp; omega)) _ | with_reducible refine bnext ?_ (by assumption) | with_reducible assumption))⟩

set_option maxHeartbeats 1000000 in
theorem slot_any (g nx r : Int) (v : Value) (n s o : Int) (l : List Sl) (w : World) (hS : SlAt w 5 v l.length (flat l)) :
    Calls Try.prog 102 #[.agg #[.int .u64 g, .int .u64 nx, .int .u64 r, v], .agg #[.int .i64 n, .int .u64 s, .int .i64 o]] w (RetI .i64 (idx n s o l) w) := by
  have hS' := hS
  obtain ⟨A, c, rfl, _⟩ := hS'
  have H := Lib.hid hS
  clear hS
  go_enter Try.func102, Try.ntmps102
  go_wp2_with fail
  refine (idx_any n s o _ l _ ((H.out.alloc _).alloc _)).mono ?_
  rintro e w1 ⟨rfl, hb1⟩
  go_wp2_with fail
  go_ret
  exact ⟨rfl, (by repeat (first | with_reducible exact Below.refl _ _ | with_reducible refine Below.drew ?_ | with_reducible refine below_drewN ?_ _ | with_reducible refine bal ?_ _ | with_reducible refine bset ?_ (by first | (simp; done) | (simp; omega)) _ | with_reducible refine bnext ?_ (by assumption) | with_reducible assumption))⟩
end Go.Proofs.Ytfgkkflbpfocjaa

namespace Go.Proofs.Ytfgkkflbpfocjaa
open Go.RowKit
set_option linter.unusedVariables false
set_option linter.unusedSimpArgs false

def Ret2 (k1 k2 : IntKind) (a b : Int) (w : World) (e : Ending) (w' : World) : Prop := e = .returned (.tuple #[.int k1 a, .int k2 b]) ∧ Below w.heap.size w w'

theorem rule1 (b : Nat) (g : Int) (w : World) (c0 : w.cell? ⟨b, 0, none⟩ = some (.int .u64 g)) :
    Calls Try.prog 99 #[.pointer (some ⟨b, 0, none⟩)] w fun e w' => e = .returned (.bool (decide (g ≤ 1125899906842624))) ∧ w = w' := by
  go_enter Try.func99, Try.ntmps99
  go_wp2
  go_ret
  exact ⟨rfl, rfl⟩
theorem rule2_t (b : Nat) (g n r : Int) (w : World) (c0 : w.cell? ⟨b, 0, none⟩ = some (.int .u64 g)) (c1 : w.cell? ⟨b, 1, none⟩ = some (.int .u64 n)) (c2 : w.cell? ⟨b, 2, none⟩ = some (.int .u64 r))
    (hg : g ≤ 18446744073709551615) (hr : 0 ≤ r) (h1 : r ≤ g) (h2 : n ≤ g - r) :
    Calls Try.prog 100 #[.pointer (some ⟨b, 0, none⟩)] w fun e w' => e = .returned (.bool true) ∧ w = w' := by
  go_enter Try.func100, Try.ntmps100
  go_wp2
  go_ret
  exact ⟨rfl, rfl⟩
theorem rule2_f (b : Nat) (g n r : Int) (w : World) (c0 : w.cell? ⟨b, 0, none⟩ = some (.int .u64 g)) (c1 : w.cell? ⟨b, 1, none⟩ = some (.int .u64 n)) (c2 : w.cell? ⟨b, 2, none⟩ = some (.int .u64 r))
    (hg : g ≤ 18446744073709551615) (hr : 0 ≤ r) (h1 : g < r ∨ g - r < n) :
    Calls Try.prog 100 #[.pointer (some ⟨b, 0, none⟩)] w fun e w' => e = .returned (.bool false) ∧ w = w' := by
  by_cases h : g < r
  · clear h1
    have hd : decide (r ≤ g) = false := by simp; omega
    go_enter Try.func100, Try.ntmps100
    go_wp2
    go_ret
    exact ⟨rfl, rfl⟩
  · have h2 : g - r < n := by omega
    clear h1
    have hd : decide (n ≤ g - r) = false := by simp; omega
    have hd' : decide (r ≤ g) = true := by simp; omega
    go_enter Try.func100, Try.ntmps100
    go_wp2
    go_ret
    exact ⟨rfl, rfl⟩
theorem rule3 (b : Nat) (A : Option Addr) (n c : Nat) (w : World) (c0 : w.cell? ⟨b, 3, none⟩ = some (.slice A n c)) :
    Calls Try.prog 101 #[.pointer (some ⟨b, 0, none⟩)] w fun e w' => e = .returned (.bool (decide ((n : Int) ≤ 100))) ∧ w = w' := by
  go_enter Try.func101, Try.ntmps101
  go_wp2
  go_ret
  exact ⟨rfl, rfl⟩

theorem slAt_take {w : World} {A : Option Addr} {n c : Nat} {l : List Sl} (h : SlAt w 5 (.slice A n c) n (flat l)) (hn : n = l.length) {k : Nat} (hk : k ≤ n) : SlAt w 5 (.slice A k c) (l.take k).length (flat (l.take k)) := by
  obtain ⟨A', c', e, h1, h2, h3, h4⟩ := h
  cases e
  have hl : (l.take k).length = k := by rw [List.length_take]; omega
  refine ⟨A, c, by rw [hl], by omega, h2, flat_len _, fun hp => ?_⟩
  obtain ⟨b, o, rfl, hb, hc⟩ := h4 (by omega)
  refine ⟨b, o, rfl, hb, fun j u hj => hc j u ?_⟩
  have hf : flat l = flat (l.take k) ++ flat (l.drop k) := by
    conv => lhs; rw [← List.take_append_drop k l]
    simp only [flat, List.flatMap_append]
  rw [hf, List.getElem?_append_left (by
    have := (List.getElem?_eq_some_iff.1 hj).1
    exact this)]
  exact hj
theorem idx_neg {n s o : Int} {l : List Sl} (h : anyHas n s o l = false) : idx n s o l < 0 := by
  have := fnd_lt n s o l
  unfold idx
  rw [if_neg (by rw [this, h]; simp)]
  omega
theorem idx_pos {n s o : Int} {l : List Sl} (h : anyHas n s o l = true) : 0 ≤ idx n s o l := by
  have := fnd_lt n s o l
  unfold idx
  rw [if_pos (this.2 h)]
  omega
theorem scan_cons {n E : Int} {l : List Sl} {k : Nat} {x : Sl} (h : l[k]? = some x) :
    scan n (l.take k) E (l.drop k) = if slotE n (l.take k) E x = 0 then scan n (l.take (k + 1)) (x.off + x.size) (l.drop (k + 1)) else (slotE n (l.take k) E x, (k : Int)) := by
  obtain ⟨hk, rfl⟩ := List.getElem?_eq_some_iff.1 h
  rw [List.drop_eq_getElem_cons hk, scan, List.take_succ_eq_append_getElem hk, List.length_take, Nat.min_eq_left (by omega)]

set_option maxRecDepth 100000 in
set_option maxHeartbeats 4000000 in
theorem Check_any (s : Led) (hw : Wf s) (v : Value) (w : World) (hS : SlAt w 5 v s.sl.length (flat s.sl)) :
    Calls Try.prog 60 #[.agg #[.int .u64 s.g, .int .u64 s.n, .int .u64 s.r, v]] w (Ret2 .i64 .i64 (chk s).1 (chk s).2 w) := by
  obtain ⟨g, n, r, l⟩ := s
  obtain ⟨⟨hg0, hg1⟩, ⟨hn0, hn1⟩, ⟨hr0, hr1⟩, hl⟩ := hw
  have HL := Lib.hid hl
  clear hl
  have hS' := hS
  obtain ⟨A, c, rfl, hc1, hc2, _⟩ := hS'
  have HS := Lib.hid hS
  clear hS
  unfold maxLen at hc2
  dsimp only at *
  go_enter Try.func60, Try.ntmps60
  go_wp2_with fail
  obtain ⟨W0, hW0⟩ : ∃ W0, (w.alloc (.cells #[.int .u64 g, .int .u64 n, .int .u64 r, .slice A l.length c] 25)).alloc (.cells #[.int .i64 2, .func (.func 99) #[] #[.pointer (some ⟨w.heap.size, 0, none⟩)], .int .i64 14, .func (.func 100) #[] #[.pointer (some ⟨w.heap.size, 0, none⟩)], .int .i64 5, .func (.func 101) #[] #[.pointer (some ⟨w.heap.size, 0, none⟩)]] 141) = W0 := ⟨_, rfl⟩
  have hB0 : Below w.heap.size w W0 := by rw [← hW0]; exact bal (bal (Below.refl _ _) _) _
  have hz0 : w.heap.size + 1 < W0.heap.size := by rw [← hW0]; simp
  have HS0 : Hid (SlAt W0 5 (.slice A l.length c) l.length (flat l)) := Lib.hid (HS.out.below hB0)
  have s0 : W0.cell? ⟨w.heap.size, 0, none⟩ = some (.int .u64 g) := by rw [← hW0, oldcell _ (by simp), newcell]; rfl
  have s1 : W0.cell? ⟨w.heap.size, 1, none⟩ = some (.int .u64 n) := by rw [← hW0, oldcell _ (by simp), newcell]; rfl
  have s2 : W0.cell? ⟨w.heap.size, 2, none⟩ = some (.int .u64 r) := by rw [← hW0, oldcell _ (by simp), newcell]; rfl
  have s3 : W0.cell? ⟨w.heap.size, 3, none⟩ = some (.slice A l.length c) := by rw [← hW0, oldcell _ (by simp), newcell]; rfl
  have r0 : W0.cell? ⟨w.heap.size + 1, 0, none⟩ = some (.int .i64 2) := by rw [← hW0, newcell1]; rfl
  have r1 : W0.cell? ⟨w.heap.size + 1, 1, none⟩ = some (.func (.func 99) #[] #[.pointer (some ⟨w.heap.size, 0, none⟩)]) := by rw [← hW0, newcell1]; rfl
  have r2 : W0.cell? ⟨w.heap.size + 1, 2, none⟩ = some (.int .i64 14) := by rw [← hW0, newcell1]; rfl
  have r3 : W0.cell? ⟨w.heap.size + 1, 3, none⟩ = some (.func (.func 100) #[] #[.pointer (some ⟨w.heap.size, 0, none⟩)]) := by rw [← hW0, newcell1]; rfl
  have r4 : W0.cell? ⟨w.heap.size + 1, 4, none⟩ = some (.int .i64 5) := by rw [← hW0, newcell1]; rfl
  have r5 : W0.cell? ⟨w.heap.size + 1, 5, none⟩ = some (.func (.func 101) #[] #[.pointer (some ⟨w.heap.size, 0, none⟩)]) := by rw [← hW0, newcell1]; rfl
  rw [hW0]
  clear hW0 HS
  go_loopw [17] (fun a wr => ∃ i : Nat, i ≤ 3 ∧ a = .int .i64 i ∧ (1 ≤ i → g ≤ 1125899906842624) ∧ (2 ≤ i → r ≤ g ∧ n ≤ g - r) ∧ (3 ≤ i → l.length ≤ 100) ∧ Below W0.heap.size W0 wr) (fun a _ => 3 - (intOf a).toNat)
  case atStart => exact ⟨0, by omega, rfl, fun h => by omega, fun h => by omega, fun h => by omega, Below.refl _ _⟩
  case round =>
    obtain ⟨i, hi, rfl, h1, h2, h3, hB⟩ := hrel
    have hz := hB.size
    have q0 := (hB.cell (p := ⟨w.heap.size, 0, none⟩) (by show w.heap.size < _; omega)).trans s0
    have q1 := (hB.cell (p := ⟨w.heap.size, 1, none⟩) (by show w.heap.size < _; omega)).trans s1
    have q2 := (hB.cell (p := ⟨w.heap.size, 2, none⟩) (by show w.heap.size < _; omega)).trans s2
    have q3 := (hB.cell (p := ⟨w.heap.size, 3, none⟩) (by show w.heap.size < _; omega)).trans s3
    have t0 := (hB.cell (p := ⟨w.heap.size + 1, 0, none⟩) hz0).trans r0
    have t1 := (hB.cell (p := ⟨w.heap.size + 1, 1, none⟩) hz0).trans r1
    have t2 := (hB.cell (p := ⟨w.heap.size + 1, 2, none⟩) hz0).trans r2
    have t3 := (hB.cell (p := ⟨w.heap.size + 1, 3, none⟩) hz0).trans r3
    have t4 := (hB.cell (p := ⟨w.heap.size + 1, 4, none⟩) hz0).trans r4
    have t5 := (hB.cell (p := ⟨w.heap.size + 1, 5, none⟩) hz0).trans r5
    have HSr : Hid (SlAt wr 5 (.slice A l.length c) l.length (flat l)) := Lib.hid (HS0.out.below hB)
    have hBw : Below w.heap.size w wr := bnext hB0 hB
    clear s0 s1 s2 s3 r0 r1 r2 r3 r4 r5 HS0
    have H1 := Lib.hid h1
    have H2 := Lib.hid h2
    have H3 := Lib.hid h3
    clear h1 h2 h3
    have hzw : w.heap.size < wr.heap.size := by omega
    by_cases e0 : i = 0
    · subst e0
      go_wp2_with fail
      refine (rule1 w.heap.size g _ ((oldcell _ hzw 0).trans q0)).mono ?_
      rintro e w' ⟨rfl, rfl⟩
      by_cases hg : g ≤ 1125899906842624
      · have D : Hid (decide (g ≤ 1125899906842624) = true) := by show decide _ = true; simpa using hg
        rw [D.out]
        go_wp2_with fail
        go_roundw
        case rel => exact ⟨1, by omega, rfl, fun _ => hg, fun h => by omega, fun h => by omega, bal hB _⟩
        case measure => simp [intOf]
      · have D : Hid (decide (g ≤ 1125899906842624) = false) := by show decide _ = false; simpa using hg
        rw [D.out]
        have R : Hid (chk ⟨g, n, r, l⟩ = (2, 0)) := if_pos (by show 1125899906842624 < g; omega)
        go_wp2_with fail
        go_ret2
        exact ⟨by rw [R.out]; rfl, bal hBw _⟩
    · by_cases e1 : i = 1
      · subst e1
        by_cases hr : r ≤ g ∧ n ≤ g - r
        · go_wp2_with fail
          refine (rule2_t w.heap.size g n r _ ((oldcell _ hzw 0).trans q0) ((oldcell _ hzw 1).trans q1) ((oldcell _ hzw 2).trans q2) hg1 hr0 hr.1 hr.2).mono ?_
          rintro e w' ⟨rfl, rfl⟩
          go_wp2_with fail
          go_roundw
          case rel => exact ⟨2, by omega, rfl, fun _ => H1.out (by omega), fun _ => hr, fun h => by omega, bal hB _⟩
          case measure => simp [intOf]
        · have hr' : g < r ∨ g - r < n := by omega
          have R : Hid (chk ⟨g, n, r, l⟩ = (14, 0)) := by
            show (if _ then _ else _) = _
            rw [if_neg (by have := H1.out (by omega); show ¬ 1125899906842624 < g; omega), if_pos hr']
          have HR := Lib.hid hr'
          clear hr hr'
          go_wp2_with fail
          refine (rule2_f w.heap.size g n r _ ((oldcell _ hzw 0).trans q0) ((oldcell _ hzw 1).trans q1) ((oldcell _ hzw 2).trans q2) hg1 hr0 HR.out).mono ?_
          rintro e w' ⟨rfl, rfl⟩
          go_wp2_with fail
          go_ret2
          exact ⟨by rw [R.out]; rfl, bal hBw _⟩
      · by_cases e2 : i = 2
        · subst e2
          go_wp2_with fail
          refine (rule3 w.heap.size A l.length c _ ((oldcell _ hzw 3).trans q3)).mono ?_
          rintro e w' ⟨rfl, rfl⟩
          by_cases hg : (l.length : Int) ≤ 100
          · have D : Hid (decide ((l.length : Int) ≤ 100) = true) := by show decide _ = true; simpa using hg
            rw [D.out]
            have hg' : l.length ≤ 100 := by omega
            clear hg
            go_wp2_with fail
            go_roundw
            case rel => exact ⟨3, by omega, rfl, fun _ => H1.out (by omega), fun _ => H2.out (by omega), fun _ => hg', bal hB _⟩
            case measure => simp [intOf]
          · have D : Hid (decide ((l.length : Int) ≤ 100) = false) := by show decide _ = false; simpa using hg
            rw [D.out]
            have R : Hid (chk ⟨g, n, r, l⟩ = (5, 0)) := by
              have a := H1.out (by omega)
              have b := H2.out (by omega)
              show (if _ then _ else _) = _
              rw [if_neg (by show ¬ 1125899906842624 < g; omega), if_neg (by show ¬ (g < r ∨ g - r < n); omega), if_pos (by show 100 < l.length; omega)]
            go_wp2_with fail
            go_ret2
            exact ⟨by rw [R.out]; rfl, bal hBw _⟩
        · obtain rfl : i = 3 := by omega
          have R : Hid (chk ⟨g, n, r, l⟩ = scan n [] 0 l) := by
            have a := H1.out (by omega)
            have b := H2.out (by omega)
            have c := H3.out (by omega)
            show (if _ then _ else _) = _
            rw [if_neg (by show ¬ 1125899906842624 < g; omega), if_neg (by show ¬ (g < r ∨ g - r < n); omega), if_neg (by show ¬ 100 < l.length; omega)]
          have hlen : l.length ≤ 100 := H3.out (by omega)
          clear t0 t1 t2 t3 t4 t5 H1 H2 H3 hB
          rw [show ((3 : Nat) : Int) = 3 from rfl]
          go_wp2_with fail
          obtain ⟨wo, rfl⟩ : ∃ wo : World, wo = wr := ⟨_, rfl⟩
          go_loopw [6, 31] (fun e a wr => ∃ (k : Nat) (E : Int), k ≤ l.length ∧ a = .int .i64 k ∧ e = .int .u64 E ∧ 0 ≤ E ∧ E ≤ 18446744073709551615 ∧ scan n (l.take k) E (l.drop k) = scan n [] 0 l ∧ Below wo.heap.size wo wr) (fun _ a _ => l.length - (intOf a).toNat)
          case atStart => exact ⟨0, 0, by omega, rfl, rfl, by omega, by omega, rfl, Below.refl _ _⟩
          case round =>
            obtain ⟨k, E, hk, rfl, rfl, hE0, hE1, hsc, hB⟩ := hrel
            have HSC := Lib.hid hsc
            clear hsc
            have hzo : w.heap.size < wr.heap.size := by have := hB.size; omega
            have u1 := (hB.cell (p := ⟨w.heap.size, 1, none⟩) hzw).trans q1
            have u3 := (hB.cell (p := ⟨w.heap.size, 3, none⟩) hzw).trans q3
            have HSz : Hid (SlAt wr 5 (.slice A l.length c) l.length (flat l)) := Lib.hid (HSr.out.below hB)
            by_cases hlt : k < l.length
            · obtain ⟨x, hx⟩ : ∃ x, l[k]? = some x := ⟨_, List.getElem?_eq_getElem hlt⟩
              have hxw := HL.out x (List.mem_of_getElem? hx)
              have x1 := hxw.1.1
              have x2 := hxw.1.2
              have x3 := hxw.2.1.1
              have x4 := hxw.2.1.2
              have HC := Lib.hid (scan_cons (n := n) (E := E) hx)
              obtain ⟨A', c', ea, _, _, hR⟩ := HSz.out
              cases ea
              obtain ⟨b, of, rfl, hb, d0, d1, d2, d3, d4⟩ := slot_cells hR rfl hx
              have hi : (k : Int) < l.length := by omega
              clear hx hxw hR
              by_cases c1 : x.size = 0
              · have F : Hid (chk ⟨g, n, r, l⟩ = (2, (k : Int))) := by
                  rw [R.out, ← HSC.out, HC.out]
                  have : slotE n (l.take k) E x = 2 := if_pos (.inl c1)
                  rw [this, if_neg (by decide)]; rfl
                have t1 : (x.size == 0) = true := by simp [c1]
                have hBf : Below w.heap.size w wr := bnext hBw hB
                clear c1 u1 u3
                go_wp2_with fail
                go_ret2
                exact ⟨by rw [F.out]; rfl, bal hBf _⟩
              · have t1 : (x.size == 0) = false := by simp [c1]
                by_cases c2 : IdOk x.node x.seq x.io
                · have ID : Hid (idE x.node x.seq x.io = 0) := if_pos c2
                  have N1 : Hid (¬ (x.size = 0 ∨ ¬ IdOk x.node x.seq x.io)) := fun h => h.elim c1 (fun h => h c2)
                  clear c1 c2
                  go_wp2_with fail
                  refine (CheckID_any _ _ _ _).mono ?_
                  rintro e w1 ⟨rfl, hb1⟩
                  rw [ID.out]
                  have hcf := (bcell hb1).1
                  have hzz := hb1.size
                  rw [World.size_alloc] at hzz
                  have k0 : w1.cell? ⟨wr.heap.size, 0, none⟩ = some (.int .u64 x.off) := by rw [hcf _ _ (by simp), newcell]; rfl
                  have k1 : w1.cell? ⟨wr.heap.size, 1, none⟩ = some (.int .u64 x.size) := by rw [hcf _ _ (by simp), newcell]; rfl
                  have k2 : w1.cell? ⟨wr.heap.size, 2, none⟩ = some (.int .i64 x.node) := by rw [hcf _ _ (by simp), newcell]; rfl
                  have k3 : w1.cell? ⟨wr.heap.size, 3, none⟩ = some (.int .u64 x.seq) := by rw [hcf _ _ (by simp), newcell]; rfl
                  have k4 : w1.cell? ⟨wr.heap.size, 4, none⟩ = some (.int .i64 x.io) := by rw [hcf _ _ (by simp), newcell]; rfl
                  have u1' : w1.cell? ⟨w.heap.size, 1, none⟩ = some (.int .u64 n) := by rw [hcf _ _ (by simp; omega), oldcell _ hzo]; exact u1
                  have u3' : w1.cell? ⟨w.heap.size, 3, none⟩ = some (.slice (some ⟨b, of, none⟩) l.length c) := by rw [hcf _ _ (by simp; omega), oldcell _ hzo]; exact u3
                  have hBf : Below w.heap.size w w1 := bnext (bal (bnext hBw hB) _) hb1
                  have hBo : Below wo.heap.size wo w1 := bnext (bal hB _) hb1
                  clear hcf u1 u3 d0 d1 d2 d3 d4
                  by_cases c3 : x.off < E ∨ n < x.off ∨ n - x.off < x.size
                  · have F : Hid (chk ⟨g, n, r, l⟩ = (19, (k : Int))) := by
                      rw [R.out, ← HSC.out, HC.out]
                      have : slotE n (l.take k) E x = 19 := by unfold slotE; rw [if_neg N1.out, if_pos c3]
                      rw [this, if_neg (by decide)]; rfl
                    by_cases c4 : x.off < E
                    · clear c3
                      go_wp2_with fail
                      go_ret2
                      exact ⟨by rw [F.out]; rfl, hBf⟩
                    · by_cases c5 : n < x.off
                      · clear c3
                        go_wp2_with fail
                        go_ret2
                        exact ⟨by rw [F.out]; rfl, hBf⟩
                      · have c6 : n - x.off < x.size := by omega
                        clear c3
                        go_wp2_with fail
                        go_ret2
                        exact ⟨by rw [F.out]; rfl, hBf⟩
                  · have N2 : Hid (¬ (x.off < E ∨ n < x.off ∨ n - x.off < x.size)) := c3
                    have c4 : E ≤ x.off := by omega
                    have c5 : x.off ≤ n := by omega
                    have c6 : x.size ≤ n - x.off := by omega
                    clear c3
                    have HST : SlAt w1 5 (.slice (some ⟨b, of, none⟩) k c) (l.take k).length (flat (l.take k)) := slAt_take ((HSz.out.alloc _).below hb1) rfl hk
                    have HT := Lib.hid HST
                    clear HST
                    by_cases ha : anyHas x.node x.seq x.io (l.take k) = true
                    · have F : Hid (chk ⟨g, n, r, l⟩ = (9, (k : Int))) := by
                        rw [R.out, ← HSC.out, HC.out]
                        have : slotE n (l.take k) E x = 9 := by unfold slotE; rw [if_neg N1.out, if_neg N2.out, if_pos ha]
                        rw [this, if_neg (by decide)]; rfl
                      have hid := idx_pos ha
                      clear ha
                      go_wp2_with fail
                      go_region_with (go_at_call 102; refine (slot_any 0 0 0 _ x.node x.seq x.io (l.take k) _ HT.out.drew).mono ?_; rintro e w2 ⟨rfl, hb2⟩)
                      all_goals go_wp2_with fail
                      all_goals go_ret2
                      all_goals exact ⟨by rw [F.out]; rfl, bnext (bdr hBf) hb2⟩
                    · have ha' : anyHas x.node x.seq x.io (l.take k) = false := by simpa using ha
                      have F : Hid (scan n (l.take (k + 1)) (x.off + x.size) (l.drop (k + 1)) = scan n [] 0 l) := by
                        rw [← HSC.out, HC.out]
                        have : slotE n (l.take k) E x = 0 := by unfold slotE; rw [if_neg N1.out, if_neg N2.out, if_neg ha]
                        rw [this, if_pos rfl]; rfl
                      have hid := idx_neg ha'
                      have hid' : ¬ 0 ≤ idx x.node x.seq x.io (l.take k) := by omega
                      clear ha ha'
                      go_wp2_with fail
                      go_region_with (go_at_call 102; refine (slot_any 0 0 0 _ x.node x.seq x.io (l.take k) _ HT.out.drew).mono ?_; rintro e w2 ⟨rfl, hb2⟩)
                      all_goals
                        have m0 := (hb2.cell (p := ⟨wr.heap.size, 0, none⟩) (by show wr.heap.size < w1.heap.size; omega)).trans k0
                        have m1 := (hb2.cell (p := ⟨wr.heap.size, 1, none⟩) (by show wr.heap.size < w1.heap.size; omega)).trans k1
                        go_wp2_with fail
                        go_roundw
                        case rel => exact ⟨k + 1, x.off + x.size, by omega, by go_num, by go_num, by omega, by omega, F.out, bnext (bdr hBo) hb2⟩
                        case measure => simp [intOf]; omega
                · have ID : Hid (idE x.node x.seq x.io = 2) := if_neg c2
                  have F : Hid (chk ⟨g, n, r, l⟩ = (2, (k : Int))) := by
                    rw [R.out, ← HSC.out, HC.out]
                    have : slotE n (l.take k) E x = 2 := if_pos (.inr c2)
                    rw [this, if_neg (by decide)]; rfl
                  clear c1 c2
                  go_wp2_with fail
                  refine (CheckID_any _ _ _ _).mono ?_
                  rintro e w1 ⟨rfl, hb1⟩
                  rw [ID.out]
                  have hcf := (bcell hb1).1
                  have hzz := hb1.size
                  rw [World.size_alloc] at hzz
                  have k0 : w1.cell? ⟨wr.heap.size, 0, none⟩ = some (.int .u64 x.off) := by rw [hcf _ _ (by simp), newcell]; rfl
                  have k1 : w1.cell? ⟨wr.heap.size, 1, none⟩ = some (.int .u64 x.size) := by rw [hcf _ _ (by simp), newcell]; rfl
                  have k2 : w1.cell? ⟨wr.heap.size, 2, none⟩ = some (.int .i64 x.node) := by rw [hcf _ _ (by simp), newcell]; rfl
                  have k3 : w1.cell? ⟨wr.heap.size, 3, none⟩ = some (.int .u64 x.seq) := by rw [hcf _ _ (by simp), newcell]; rfl
                  have k4 : w1.cell? ⟨wr.heap.size, 4, none⟩ = some (.int .i64 x.io) := by rw [hcf _ _ (by simp), newcell]; rfl
                  have u1' : w1.cell? ⟨w.heap.size, 1, none⟩ = some (.int .u64 n) := by rw [hcf _ _ (by simp; omega), oldcell _ hzo]; exact u1
                  have u3' : w1.cell? ⟨w.heap.size, 3, none⟩ = some (.slice (some ⟨b, of, none⟩) l.length c) := by rw [hcf _ _ (by simp; omega), oldcell _ hzo]; exact u3
                  have hBf : Below w.heap.size w w1 := bnext (bal (bnext hBw hB) _) hb1
                  have hBo : Below wo.heap.size wo w1 := bnext (bal hB _) hb1
                  clear hcf u1 u3 d0 d1 d2 d3 d4
                  go_wp2_with fail
                  go_ret2
                  exact ⟨by rw [F.out]; rfl, hBf⟩
            · have hk' : k = l.length := by omega
              have F : Hid (chk ⟨g, n, r, l⟩ = (0, 0)) := by
                rw [R.out, ← HSC.out, hk', List.drop_length]
                rfl
              have hBf : Below w.heap.size w wr := bnext hBw hB
              have hi : ¬ (k : Int) < l.length := by omega
              clear hk'
              go_wp2_with fail
              go_ret2
              exact ⟨by rw [F.out]; rfl, hBf⟩
end Go.Proofs.Ytfgkkflbpfocjaa

namespace Go.Proofs.Ytfgkkflbpfocjaa
open Go.RowKit
set_option linter.unusedVariables false
set_option linter.unusedSimpArgs false

def zslot : Value := .agg #[.int .u64 0, .int .u64 0, .int .i64 0, .int .u64 0, .int .i64 0]
theorem infoSlot : (Try.prog.info? 81).map (fun i => (i.zero, i.size, i.bytes)) = some (some (.agg #[.int .u64 0, .int .u64 0, .int .i64 0, .int .u64 0, .int .i64 0]), 5, 40) := by kernel_rfl

theorem reads_add {w : World} {size n : Nat} {b o : Nat} {xs : List Value} (h : Reads w size (some ⟨b, o, none⟩) n xs) : ∀ j u, xs[j]? = some u → w.cell? ((⟨b, o, none⟩ : Addr).add j) = some u := by
  intro j u hj
  have hn : 0 < n := by
    have := (List.getElem?_eq_some_iff.1 hj).1
    have := h.1
    rcases Nat.eq_zero_or_pos n with h0 | h0
    · subst h0; omega
    · exact h0
  obtain ⟨b', o', e, hb, hc⟩ := h.2 hn
  cases e
  have := hc j u hj
  by_cases h0 : j = 0
  · subst h0; simpa [Addr.add] using this
  · simpa [Addr.add, h0] using this
theorem flat_one (l : List Sl) : ∀ u ∈ flat l, u.oneCell' = true := by
  intro u hu
  obtain ⟨x, _, hx⟩ := List.mem_flatMap.1 hu
  simp [Sl.cells] at hx
  rcases hx with rfl | rfl | rfl | rfl | rfl <;> rfl

/-- a slice in memory of the call's own, with the slots l -/
def OwnL (w w' : World) (v : Value) (l : List Sl) : Prop := w'.ownsRow w.heap.size 81 5 v l.length (flat l)
def ClonePost (l : List Sl) (w : World) (e : Ending) (w' : World) : Prop := ∃ v', e = .returned v' ∧ OwnL w w' v' l ∧ Below w.heap.size w w'

set_option maxHeartbeats 1000000 in
theorem Clone_any (v : Value) (l : List Sl) (w : World) (hS : SlAt w 5 v l.length (flat l)) (hl : l.length ≤ 100000) :
    Calls Try.prog 92 #[v] w (ClonePost l w) := by
  obtain ⟨A, c, rfl, hc1, hc2, hR⟩ := hS
  obtain ⟨i0, hi, hz0, hz1, hz2⟩ := info_parts infoSlot
  have he := fun (w : World) (a : Option Addr) (n c : Nat) => Lib.run_eql_slice_nil w 23 81 a n c 0 0 Try.underlying23
  cases A with
  | none =>
    have h0 : l.length = 0 := by
      rcases Nat.eq_zero_or_pos l.length with h | h
      · exact h
      · obtain ⟨b, o, e, _⟩ := hR.2 h
        cases e
    have hn : l = [] := List.eq_nil_of_length_eq_zero h0
    subst hn
    clear h0 hR
    go_enter Try.func92, Try.ntmps92
    go_wp2_with fail
    go_ret
    exact ⟨_, rfl, World.ownsRow_nil _ _ _ _, Below.refl _ _⟩
  | some ad =>
    by_cases h0 : l.length = 0
    · have hn : l = [] := List.eq_nil_of_length_eq_zero h0
      subst hn
      clear h0 hR
      have hown := World.ownsRow_made (base := w.heap.size) (e := 81) (size := 5) w #[] 0 (Nat.le_refl _) (by unfold maxLen; omega) rfl
      have HO := Lib.hid hown
      clear hown
      go_enter Try.func92, Try.ntmps92
      go_wp2_with (first
        | (at_builtin; refine wpList_append_own _ rfl _ _ 23 rfl w.heap.size 81 i0 zslot 5 40 Try.underlying23 hi hz0 hz1 hz2 rfl (by decide) _ _ _ rfl HO.out ad 0 c [] rfl rfl (fun j u h => by simp at h) (fun u h => by simp at h) (by unfold maxLen; omega) (by omega) (by simp) ?_; intro v' w1 hown' hgrow _))
      go_ret
      exact ⟨_, rfl, hown', (bal (Below.refl _ _) _).grown hgrow (by simp) (fun k e => (HO.out.lt k e).1)⟩
    · obtain ⟨b, o, e, hb, _⟩ := hR.2 (by omega)
      cases e
      have hown := World.ownsRow_made (base := w.heap.size) (e := 81) (size := 5) w #[] 0 (Nat.le_refl _) (by unfold maxLen; omega) rfl
      have HO := Lib.hid hown
      have HR : Hid (Reads (w.alloc (.cells #[] 81)) 5 (some ⟨b, o, none⟩) l.length (flat l)) := Lib.hid (hR.keep (by simp) fun b o h => oldcell _ h o)
      clear hown h0 hR
      go_enter Try.func92, Try.ntmps92
      go_wp2_with (first
        | (at_builtin; refine wpList_append_own _ rfl _ _ 23 rfl w.heap.size 81 i0 zslot 5 40 Try.underlying23 hi hz0 hz1 hz2 rfl (by decide) _ _ _ rfl HO.out ⟨b, o, none⟩ l.length c (flat l) rfl (flat_len l) (reads_add HR.out) (flat_one l) (by unfold maxLen; omega) (by omega) (by simp) ?_; intro v' w1 hown' hgrow _))
      go_ret
      exact ⟨_, rfl, by simpa [OwnL] using hown', (bal (Below.refl _ _) _).grown hgrow (by simp) (fun k e => (HO.out.lt k e).1)⟩

/-- what an opened ledger is -/
def opn (s : Led) : Led := if okL s then s else ⟨0, 0, 0, []⟩
def OpenPost (s : Led) (w : World) (e : Ending) (w' : World) : Prop :=
  ∃ v', e = .returned (.tuple #[.agg #[.int .u64 (opn s).g, .int .u64 (opn s).n, .int .u64 (opn s).r, v'], .int .i64 (chk s).1]) ∧ OwnL w w' v' (opn s).sl ∧ Below w.heap.size w w'
end Go.Proofs.Ytfgkkflbpfocjaa

namespace Go.Proofs.Ytfgkkflbpfocjaa
open Go.RowKit
set_option linter.unusedVariables false
set_option linter.unusedSimpArgs false

/-- block g is known whole: just these cells -/
def Blk (w : World) (g : Nat) (t : TypeId) (cs : Array Value) : Prop := w.heap[g]? = some (.cells cs t (0, 0))
section
variable {w w' : World} {g : Nat} {t : TypeId} {cs : Array Value}
theorem Blk.lt (h : Blk w g t cs) : g < w.heap.size := (Array.getElem?_eq_some_iff.1 h).1
theorem Blk.cell (h : Blk w g t cs) (i : Nat) : w.cell? ⟨g, i, none⟩ = cs[i]? := cell_of_row w g i cs t (0, 0) h
theorem Blk.frozen (h : Blk w g t cs) (i : Nat) : w.frozen? ⟨g, i, none⟩ = false := by
  unfold Blk at h
  simp [World.frozen?, h]
theorem Blk.new (w : World) (t : TypeId) (cs : Array Value) : Blk (w.alloc (.cells cs t)) w.heap.size t cs := World.alloc_heap_new w _
theorem Blk.new1 (w : World) (o : Obj) (t : TypeId) (cs : Array Value) : Blk ((w.alloc o).alloc (.cells cs t)) (w.heap.size + 1) t cs := by
  have := Blk.new (w.alloc o) t cs
  rwa [World.size_alloc] at this
theorem Blk.new2 (w : World) (o p : Obj) (t : TypeId) (cs : Array Value) : Blk (((w.alloc o).alloc p).alloc (.cells cs t)) (w.heap.size + 1 + 1) t cs := by
  have := Blk.new ((w.alloc o).alloc p) t cs
  rwa [World.size_alloc, World.size_alloc] at this
theorem Blk.alloc (h : Blk w g t cs) (o : Obj) : Blk (w.alloc o) g t cs := (Below.heap_alloc w o g h.lt).trans h
theorem Blk.drew (h : Blk w g t cs) : Blk w.drew g t cs := h
theorem Blk.drewN (h : Blk w g t cs) (n : Nat) : Blk (w.drewN n) g t cs := h
theorem Blk.below (h : Blk w g t cs) (hb : Below w.heap.size w w') : Blk w' g t cs := (hb.block g h.lt).trans h
theorem Blk.set (h : Blk w g t cs) (i : Nat) (u : Value) : Blk (w.setCell ⟨g, i, none⟩ u) g t (cs.setIfInBounds i u) := by
  unfold Blk at h ⊢
  simp [World.setCell, Array.getElem?_modify, h]
theorem Blk.far (h : Blk w g t cs) {p : Addr} (hp : g ≠ p.block) (u : Value) : Blk (w.setCell p u) g t cs := (Below.heap_setCell w p u g hp).trans h
theorem Blk.grown {row : Option Nat} (h : Blk w g t cs) (hb : w.grownBy w' row) (hg : some g ≠ row) : Blk w' g t cs := (hb.block g h.lt hg).trans h
theorem Blk.c3 {a b c : Value} (h : Blk w g t #[a, b, c]) : w.cell? ⟨g, 0, none⟩ = some a ∧ w.cell? ⟨g, 1, none⟩ = some b ∧ w.cell? ⟨g, 2, none⟩ = some c := ⟨h.cell 0, h.cell 1, h.cell 2⟩
theorem Blk.c4 {a b c d : Value} (h : Blk w g t #[a, b, c, d]) : w.cell? ⟨g, 0, none⟩ = some a ∧ w.cell? ⟨g, 1, none⟩ = some b ∧ w.cell? ⟨g, 2, none⟩ = some c ∧ w.cell? ⟨g, 3, none⟩ = some d := ⟨h.cell 0, h.cell 1, h.cell 2, h.cell 3⟩
theorem Blk.c5 {a b c d e : Value} (h : Blk w g t #[a, b, c, d, e]) : w.cell? ⟨g, 0, none⟩ = some a ∧ w.cell? ⟨g, 1, none⟩ = some b ∧ w.cell? ⟨g, 2, none⟩ = some c ∧ w.cell? ⟨g, 3, none⟩ = some d ∧ w.cell? ⟨g, 4, none⟩ = some e := ⟨h.cell 0, h.cell 1, h.cell 2, h.cell 3, h.cell 4⟩
theorem Blk.f3 {a b c : Value} (h : Blk w g t #[a, b, c]) : w.frozen? ⟨g, 0, none⟩ = false ∧ w.frozen? ⟨g, 1, none⟩ = false ∧ w.frozen? ⟨g, 2, none⟩ = false := ⟨h.frozen 0, h.frozen 1, h.frozen 2⟩
theorem Blk.f4 {a b c d : Value} (h : Blk w g t #[a, b, c, d]) : w.frozen? ⟨g, 0, none⟩ = false ∧ w.frozen? ⟨g, 1, none⟩ = false ∧ w.frozen? ⟨g, 2, none⟩ = false ∧ w.frozen? ⟨g, 3, none⟩ = false := ⟨h.frozen 0, h.frozen 1, h.frozen 2, h.frozen 3⟩
theorem Blk.f5 {a b c d e : Value} (h : Blk w g t #[a, b, c, d, e]) : w.frozen? ⟨g, 0, none⟩ = false ∧ w.frozen? ⟨g, 1, none⟩ = false ∧ w.frozen? ⟨g, 2, none⟩ = false ∧ w.frozen? ⟨g, 3, none⟩ = false ∧ w.frozen? ⟨g, 4, none⟩ = false := ⟨h.frozen 0, h.frozen 1, h.frozen 2, h.frozen 3, h.frozen 4⟩
end

end Go.Proofs.Ytfgkkflbpfocjaa

namespace Go.Proofs.Ytfgkkflbpfocjaa
open Go.RowKit
set_option linter.unusedVariables false
set_option linter.unusedSimpArgs false

theorem okL_len {s : Led} (h : okL s) : s.sl.length ≤ 100 := by
  unfold okL chk at h
  split at h
  · exact absurd h (by decide)
  · split at h
    · exact absurd h (by decide)
    · split at h
      · exact absurd h (by decide)
      · omega
theorem okL_nums {s : Led} (h : okL s) : s.g ≤ 1125899906842624 ∧ s.r ≤ s.g ∧ s.n ≤ s.g - s.r := by
  unfold okL chk at h
  split at h
  · exact absurd h (by decide)
  · split at h
    · exact absurd h (by decide)
    · omega

set_option maxHeartbeats 1000000 in
theorem opened_any (s : Led) (hw : Wf s) (v : Value) (w : World) (hS : SlAt w 5 v s.sl.length (flat s.sl)) :
    Calls Try.prog 74 #[.agg #[.int .u64 s.g, .int .u64 s.n, .int .u64 s.r, v]] w (OpenPost s w) := by
  obtain ⟨A, c, rfl, hc1, hc2, _⟩ := id hS
  have HS := Lib.hid hS
  have HW := Lib.hid hw
  clear hS hw
  by_cases hk : okL s
  · have K : Hid ((chk s).1 = 0) := hk
    have O : Hid (opn s = s) := if_pos hk
    have hlen := okL_len hk
    clear hk
    go_enter Try.func74, Try.ntmps74
    go_wp2_with fail
    refine (Check_any s HW.out _ _ ((HS.out.alloc _).alloc _)).mono ?_
    rintro e w1 ⟨rfl, hb1⟩
    rw [K.out]
    have hB1 : Below w.heap.size w w1 := bnext (bal (bal (Below.refl _ _) _) _) hb1
    have k0 := ((Blk.new w 25 _).alloc _).below hb1
    have k1 := (Blk.new1 w _ 115 _).below hb1
    have HS1 := Lib.hid (((HS.out.alloc _).alloc _).below hb1)
    obtain ⟨c0, c1, c2, c3⟩ := k0.c4
    have K0 := Lib.hid k0
    have K1 := Lib.hid k1
    have hz := hb1.size
    simp at hz
    clear k0 k1 hb1
    go_wp2_with fail
    refine (Clone_any _ s.sl _ HS1.out (by omega)).mono ?_
    rintro e w2 ⟨v', rfl, hown, hb2⟩
    obtain ⟨A', c', ev, _⟩ := SlAt.own hown
    subst ev
    have k0 := K0.out.below hb2
    have k1 := K1.out.below hb2
    obtain ⟨c0, c1, c2, c3⟩ := k0.c4
    obtain ⟨g0, g1, g2, g3⟩ := k0.f4
    obtain ⟨d0, d1, d2, d3⟩ := k1.c4
    obtain ⟨f0, f1, f2, f3⟩ := k1.f4
    have hz2 := hb2.size
    have HO := Lib.hid hown
    clear k0 k1 hown
    go_wp2_with fail
    refine bodyPost_ret (v := .tuple #[.agg #[.int .u64 s.g, .int .u64 s.n, .int .u64 s.r, .slice A' s.sl.length c'], .int .i64 0]) (by simp [results, Try.results74, go_sem, c0, d0, d1, d2, d3]) rfl ⟨.slice A' s.sl.length c', ?_, ?_, ?_⟩
    · rw [O.out, K.out]
    · rw [O.out]
      have h1 := ownsRow_setCell_below HO.out (a := ⟨w.heap.size, 3, none⟩) (by show w.heap.size < w1.heap.size; omega) (.slice A' s.sl.length c')
      have h2 := ownsRow_setCell_below h1 (a := ⟨w.heap.size + 1, 0, none⟩) (by show w.heap.size + 1 < w1.heap.size; omega) (.int .u64 s.g)
      have h3 := ownsRow_setCell_below h2 (a := ⟨w.heap.size + 1, 1, none⟩) (by show w.heap.size + 1 < w1.heap.size; omega) (.int .u64 s.n)
      have h4 := ownsRow_setCell_below h3 (a := ⟨w.heap.size + 1, 2, none⟩) (by show w.heap.size + 1 < w1.heap.size; omega) (.int .u64 s.r)
      have h5 := ownsRow_setCell_below h4 (a := ⟨w.heap.size + 1, 3, none⟩) (by show w.heap.size + 1 < w1.heap.size; omega) (.slice A' s.sl.length c')
      exact own_mono h5 hB1.size
    · exact (by repeat (first | with_reducible exact Below.refl _ _ | with_reducible refine Below.drew ?_ | with_reducible refine below_drewN ?_ _ | with_reducible refine bal ?_ _ | with_reducible refine bset ?_ (by first | (simp; done) | (simp; omega)) _ | with_reducible refine bnext ?_ (by assumption) | with_reducible assumption))
  · have K := Lib.hid hk
    have O : Hid (opn s = ⟨0, 0, 0, []⟩) := if_neg hk
    have hne : ((chk s).1 != 0) = true := by rw [bne_iff_ne]; exact hk
    clear hk
    go_enter Try.func74, Try.ntmps74
    go_wp2_with fail
    refine (Check_any s HW.out _ _ ((HS.out.alloc _).alloc _)).mono ?_
    rintro e w1 ⟨rfl, hb1⟩
    have hB1 : Below w.heap.size w w1 := bnext (bal (bal (Below.refl _ _) _) _) hb1
    have k1 := (Blk.new1 w _ 115 _).below hb1
    obtain ⟨d0, d1, d2, d3⟩ := k1.c4
    obtain ⟨f0, f1, f2, f3⟩ := k1.f4
    clear hb1 k1
    go_wp2_with fail
    refine bodyPost_ret (v := .tuple #[.agg #[.int .u64 0, .int .u64 0, .int .u64 0, .slice none 0 0], .int .i64 (chk s).1]) (by simp [results, Try.results74, go_sem, d0, d1, d2, d3]) rfl ⟨.slice none 0 0, ?_, ?_, ?_⟩
    · rw [O.out]
    · rw [O.out]; exact World.ownsRow_nil _ _ _ _
    · exact (by repeat (first | with_reducible exact Below.refl _ _ | with_reducible refine Below.drew ?_ | with_reducible refine below_drewN ?_ _ | with_reducible refine bal ?_ _ | with_reducible refine bset ?_ (by first | (simp; done) | (simp; omega)) _ | with_reducible refine bnext ?_ (by assumption) | with_reducible assumption))

set_option maxHeartbeats 1000000 in
theorem lusable_any (g n r : Int) (v : Value) (w : World) (hg : g ≤ 18446744073709551615) (hn : 0 ≤ n) (hr : 0 ≤ r) (h : n + r ≤ g) (hv : ∃ A l c, v = .slice A l c) :
    Calls Try.prog 75 #[.agg #[.int .u64 g, .int .u64 n, .int .u64 r, v]] w (RetI .u64 (g - n - r) w) := by
  obtain ⟨A, l, c, rfl⟩ := hv
  go_enter Try.func75, Try.ntmps75
  go_wp2
  go_ret
  exact ⟨rfl, (by repeat (first | with_reducible exact Below.refl _ _ | with_reducible refine Below.drew ?_ | with_reducible refine below_drewN ?_ _ | with_reducible refine bal ?_ _ | with_reducible refine bset ?_ (by first | (simp; done) | (simp; omega)) _ | with_reducible refine bnext ?_ (by assumption) | with_reducible assumption))⟩

set_option maxHeartbeats 1000000 in
theorem lfloor_any (s : Led) (v : Value) (w : World) (hS : SlAt w 5 v s.sl.length (flat s.sl)) :
    Calls Try.prog 107 #[.agg #[.int .u64 s.g, .int .u64 s.n, .int .u64 s.r, v]] w (RetI .u64 (flr s) w) := by
  obtain ⟨g, n, r, l⟩ := s
  have hS1 := hS.alloc (.cells #[.int .u64 g, .int .u64 n, .int .u64 r, v] 115)
  obtain ⟨A, c, rfl, _⟩ := hS
  cases l with
  | nil =>
    clear hS1
    go_enter Try.func107, Try.ntmps107
    go_wp2
    go_ret
    exact ⟨rfl, (by repeat (first | with_reducible exact Below.refl _ _ | with_reducible refine Below.drew ?_ | with_reducible refine below_drewN ?_ _ | with_reducible refine bal ?_ _ | with_reducible refine bset ?_ (by first | (simp; done) | (simp; omega)) _ | with_reducible refine bnext ?_ (by assumption) | with_reducible assumption))⟩
  | cons x l =>
    obtain ⟨A', c', e, _, _, hR⟩ := hS1
    cases e
    obtain ⟨b, o, rfl, hb, d0, _⟩ := slot_cells hR rfl (k := 0) (x := x) rfl
    rw [Nat.zero_mul, Nat.add_zero] at d0
    have hl : (0 : Int) < ((x :: l).length : Int) := by simp only [List.length_cons]; omega
    simp only [List.length_cons] at d0
    clear hR
    go_enter Try.func107, Try.ntmps107
    go_wp2
    go_ret
    exact ⟨rfl, (by repeat (first | with_reducible exact Below.refl _ _ | with_reducible refine Below.drew ?_ | with_reducible refine below_drewN ?_ _ | with_reducible refine bal ?_ _ | with_reducible refine bset ?_ (by first | (simp; done) | (simp; omega)) _ | with_reducible refine bnext ?_ (by assumption) | with_reducible assumption))⟩

def usE (s : Led) : Int := if okL s then usab s else 0
def flE (s : Led) : Int := if okL s then flr s else 0
theorem usab_opn (s : Led) : (opn s).g - (opn s).n - (opn s).r = usE s := by
  unfold opn usE; split <;> rfl
theorem flr_opn (s : Led) : flr (opn s) = flE s := by
  unfold opn flE; split <;> rfl
theorem opn_nums (s : Led) (hw : Wf s) : (0 ≤ (opn s).g ∧ (opn s).g ≤ 1125899906842624) ∧ 0 ≤ (opn s).n ∧ 0 ≤ (opn s).r ∧ (opn s).n + (opn s).r ≤ (opn s).g := by
  unfold opn
  split
  · rename_i h
    have := okL_nums h
    have a := hw.1
    have b := hw.2.1
    have c := hw.2.2.1
    omega
  · simp

set_option maxHeartbeats 1000000 in
theorem Usable_any (s : Led) (hw : Wf s) (v : Value) (w : World) (hS : SlAt w 5 v s.sl.length (flat s.sl)) :
    Calls Try.prog 39 #[.agg #[.int .u64 s.g, .int .u64 s.n, .int .u64 s.r, v]] w (Ret2 .u64 .i64 (usE s) (chk s).1 w) := by
  have N := Lib.hid (opn_nums s hw)
  have U := Lib.hid (usab_opn s)
  obtain ⟨A, c, rfl, hc1, hc2, _⟩ := id hS
  have HS := Lib.hid hS
  have HW := Lib.hid hw
  clear hS hw
  go_enter Try.func39, Try.ntmps39
  go_wp2_with fail
  refine (opened_any s HW.out _ _ (HS.out.alloc _)).mono ?_
  rintro e w1 ⟨v', rfl, hown, hb1⟩
  obtain ⟨A', c', ev, _⟩ := SlAt.own hown
  subst ev
  clear hown
  generalize (opn s).g = og at *
  generalize (opn s).n = on at *
  generalize (opn s).r = or' at *
  generalize (opn s).sl.length = ol at *
  go_wp2_with fail
  refine (lusable_any og on or' _ _ (by have := N.out; omega) (by have := N.out; omega) (by have := N.out; omega) (by have := N.out; omega) ⟨_, _, _, rfl⟩).mono ?_
  rintro e w2 ⟨rfl, hb2⟩
  rw [U.out]
  go_wp2_with fail
  go_ret2
  exact ⟨rfl, (by repeat (first | with_reducible exact Below.refl _ _ | with_reducible refine Below.drew ?_ | with_reducible refine below_drewN ?_ _ | with_reducible refine bal ?_ _ | with_reducible refine bset ?_ (by first | (simp; done) | (simp; omega)) _ | with_reducible refine bnext ?_ (by assumption) | with_reducible assumption))⟩

set_option maxHeartbeats 1000000 in
theorem Floor_any (s : Led) (hw : Wf s) (v : Value) (w : World) (hS : SlAt w 5 v s.sl.length (flat s.sl)) :
    Calls Try.prog 73 #[.agg #[.int .u64 s.g, .int .u64 s.n, .int .u64 s.r, v]] w (Ret2 .u64 .i64 (flE s) (chk s).1 w) := by
  have U := Lib.hid (flr_opn s)
  obtain ⟨A, c, rfl, hc1, hc2, _⟩ := id hS
  have HS := Lib.hid hS
  have HW := Lib.hid hw
  clear hS hw
  go_enter Try.func73, Try.ntmps73
  go_wp2_with fail
  refine (opened_any s HW.out _ _ (HS.out.alloc _)).mono ?_
  rintro e w1 ⟨v', rfl, hown, hb1⟩
  have hs1 := SlAt.own hown
  obtain ⟨A', c', ev, _⟩ := id hs1
  subst ev
  have HS1 := Lib.hid (hs1.alloc (.cells #[.int .u64 (opn s).g, .int .u64 (opn s).n, .int .u64 (opn s).r, .slice A' (opn s).sl.length c'] 115))
  clear hown hs1
  go_wp2_with fail
  refine (lfloor_any (opn s) _ _ HS1.out).mono ?_
  rintro e w2 ⟨rfl, hb2⟩
  rw [U.out]
  go_wp2_with fail
  go_ret2
  exact ⟨rfl, (by repeat (first | with_reducible exact Below.refl _ _ | with_reducible refine Below.drew ?_ | with_reducible refine below_drewN ?_ _ | with_reducible refine bal ?_ _ | with_reducible refine bset ?_ (by first | (simp; done) | (simp; omega)) _ | with_reducible refine bnext ?_ (by assumption) | with_reducible assumption))⟩
end Go.Proofs.Ytfgkkflbpfocjaa

namespace Go.Proofs.Ytfgkkflbpfocjaa
open Go.RowKit
set_option linter.unusedVariables false
set_option linter.unusedSimpArgs false

theorem newadd (w : World) (cs : List Value) (t : TypeId) (j : Nat) : (w.alloc (.cells cs.toArray t)).cell? ((⟨w.heap.size, 0, none⟩ : Addr).add j) = cs[j]? := by
  by_cases h : j = 0
  · subst h; rw [show ((⟨w.heap.size, 0, none⟩ : Addr).add 0) = ⟨w.heap.size, 0, none⟩ from rfl, newcell]; simp
  · rw [show ((⟨w.heap.size, 0, none⟩ : Addr).add j) = ⟨w.heap.size, j, none⟩ from by simp [Addr.add, h], newcell]; simp

theorem hidI {p : Prop} (h : p) : Hid p := h

/-- out = append(out, y), the element laid in a block of its own first -/
theorem wpList_app1 {P : Program} {α : Type} {f : α → List Value} {ops : Array Oper} {rest : List Oper} {o : Oper} {a : Act} {Q : Exit → Act → World → Prop} (hgd : o.guard = none) (s x : Operand) (t : TypeId)
    (ho : o.op = .call { callee := .builtin .append, args := #[s, x], argTypes := #[t, t] }) (base : Nat) (e : TypeId) {z : Value} (k bytes : Nat) (hi : (P.info? e).map (fun i => (i.zero, i.size, i.bytes)) = some (some z, k, bytes))
    (hzk : z.cells.size = k) (hk : 0 < k) (ht : P.underlying t = some (.slice e)) (hf : ∀ x, (f x).length = k) (h1 : ∀ x, ∀ u ∈ f x, u.oneCell' = true) (w w0 : World) (B : Nat) (y : α) (L : List α) (v : Value) (hs : a.eval s = v)
    (hx : a.eval x = .slice (some ⟨w.heap.size, 0, none⟩) 1 1) (hown : w.ownsRow base e k v L.length (fl f L)) (hB : Below B w0 w) (hb : B ≤ base) (hbw : base ≤ w.heap.size) (hL : (L.length + 1) * bytes ≤ 140737488355328) (hL2 : L.length + 1 ≤ maxLen)
    (hK : ∀ A c w', w'.ownsRow base e k (.slice A (L.length + 1) c) (L ++ [y]).length (fl f (L ++ [y])) → Below B w0 w' → (w.alloc (.cells (f y).toArray e)).grownBy w' v.ownBlock → wpList P ops Q rest (a.put o.dst (.slice A (L.length + 1) c)) w') :
    wpList P ops Q (o :: rest) a (w.alloc (.cells (f y).toArray e)) := by
  obtain ⟨i0, hi0, hz0, hz1, hz2⟩ := info_parts hi
  refine wpList_append_own _ hgd s x t ho base e i0 z k bytes ht hi0 hz0 hz1 hz2 hzk hk v L.length (fl f L) hs (hown.alloc _) ⟨w.heap.size, 0, none⟩ 1 1 (f y) hx (by rw [hf, Nat.one_mul]) (fun j u hj => by rw [newadd]; exact hj) (h1 y) hL2 hL (by simp; omega) ?_
  intro v' w' hown' hg _
  have e1 : fl f (L ++ [y]) = fl f L ++ f y := by rw [fl_app, fl_one]
  have hown2 : w'.ownsRow base e k v' (L ++ [y]).length (fl f (L ++ [y])) := by rw [e1, List.length_append, List.length_singleton]; exact hown'
  obtain ⟨A, c, rfl, _⟩ := SlAt.own hown'
  refine hK A c w' hown2 ((hB.alloc (by omega) _).grown hg (by simp; omega) fun q hq => ?_) hg
  have := (hown.lt q hq).1
  omega

section
variable {α : Type} {f : α → List Value} {k : Nat}
/-- a made row is a row of zero elements -/
theorem made_fl (hf : ∀ x, (f x).length = k) (hk : 0 < k) (d : α) (n : Nat) : (madeCells (f d).toArray (n * k)).toList = fl f (List.replicate n d) := by
  apply List.ext_getElem?
  intro j
  by_cases hj : j < n * k
  · have hm := Nat.mod_lt j hk
    have hd : j / k < n := (Nat.div_lt_iff_lt_mul hk).2 hj
    have e : j / k * k + j % k = j := by rw [Nat.mul_comm]; exact Nat.div_add_mod j k
    have r := fl_get hf (List.replicate n d) (j / k) (x := d) (by simp [hd]) (j % k) hm
    rw [e] at r
    rw [r]
    have hs : (f d).toArray.size = k := by simp [hf]
    simp [madeCells, hj, hf, hm]
  · have h1 : (madeCells (f d).toArray (n * k)).toList.length = n * k := by rw [Array.length_toList, size_madeCells]
    rw [List.getElem?_eq_none (by omega), List.getElem?_eq_none (by rw [fl_len hf]; simp; omega)]
theorem fl_set (hf : ∀ x, (f x).length = k) (l : List α) (i : Nat) (y : α) (hi : i < l.length) : fl f (l.set i y) = fl f (l.take i) ++ (f y ++ fl f (l.drop (i + 1))) := by
  rw [List.set_eq_take_append_cons_drop, if_pos hi, fl_app, fl_cons]
theorem fl_split (hf : ∀ x, (f x).length = k) (l : List α) (i : Nat) {x : α} (hx : l[i]? = some x) : fl f l = fl f (l.take i) ++ (f x ++ fl f (l.drop (i + 1))) := by
  obtain ⟨hi, rfl⟩ := List.getElem?_eq_some_iff.1 hx
  rw [← fl_cons, ← fl_app, ← List.drop_eq_getElem_cons hi, List.take_append_drop]
/-- storing one cell of an element -/
theorem fl_set_at (hf : ∀ x, (f x).length = k) (l : List α) (i j : Nat) {x y : α} {u : Value} (hx : l[i]? = some x) (hj : j < k) (hy : (f x).set j u = f y) : (fl f l).set (i * k + j) u = fl f (l.set i y) := by
  have hi := (List.getElem?_eq_some_iff.1 hx).1
  have hl : (fl f (l.take i)).length = i * k := by rw [fl_len hf, List.length_take, Nat.min_eq_left (by omega)]
  rw [fl_set hf l i y hi, fl_split hf l i hx, List.set_append_right _ _ (by omega), hl, show i * k + j - i * k = j by omega, List.set_append_left _ _ (by rw [hf]; exact hj), hy]
end
/-- a slot of a row that is known: it may be stored into -/
theorem own_store {α : Type} {f : α → List Value} {k : Nat} (hf : ∀ x, (f x).length = k) {w : World} {base g n cap : Nat} {e : TypeId} {L : List α} (h : w.ownsRow base e k (.slice (some ⟨g, 0, none⟩) n cap) n (fl f L)) (i j : Nat) {x y : α} {u : Value} (hx : L[i]? = some x) (hj : j < k) (hy : (f x).set j u = f y) :
    (w.setCell ⟨g, i * k + j, none⟩ u).ownsRow base e k (.slice (some ⟨g, 0, none⟩) n cap) n (fl f (L.set i y)) := by
  have := (h.stored (i * k + j) u).1
  rwa [fl_set_at hf L i j hx hj hy] at this
theorem own_cell {α : Type} {f : α → List Value} {k : Nat} (hf : ∀ x, (f x).length = k) {w : World} {base g n cap : Nat} {e : TypeId} {L : List α} (h : w.ownsRow base e k (.slice (some ⟨g, 0, none⟩) n cap) n (fl f L)) (i j : Nat) {x : α} (hx : L[i]? = some x) (hj : j < k) :
    w.cell? ⟨g, i * k + j, none⟩ = (f x)[j]? := by
  have hi := (List.getElem?_eq_some_iff.1 hx).1
  have hn := h.1
  rw [fl_len hf] at hn
  rw [h.cellAt (i * k + j) (by rw [← hn]; calc i * k + j < i * k + k := by omega
                                        _ = (i + 1) * k := by rw [Nat.add_mul, Nat.one_mul]
                                        _ ≤ L.length * k := Nat.mul_le_mul_right k (by omega)), fl_get hf L i hx j hj]

/-- the same as one step of a region that draws; the element's block is known in the world at hand -/
theorem step_app {P : Program} {α : Type} {f : α → List Value} {ops : Array Oper} {o : Oper} {a : Act} {K : Act → World → Prop} {Q : Exit → Act → World → Prop} {E : Prop} (hgd : o.guard = none) (s x : Operand) (t : TypeId)
    (ho : o.op = .call { callee := .builtin .append, args := #[s, x], argTypes := #[t, t] }) (base : Nat) (e : TypeId) {z : Value} (k bytes : Nat) (hi : (P.info? e).map (fun i => (i.zero, i.size, i.bytes)) = some (some z, k, bytes))
    (hzk : z.cells.size = k) (hk : 0 < k) (ht : P.underlying t = some (.slice e)) (hf : ∀ x, (f x).length = k) (h1 : ∀ x, ∀ u ∈ f x, u.oneCell' = true) (w w0 : World) (B : Nat) (y : α) (L : List α) (v : Value) (g : Nat) (hs : a.eval s = v)
    (hx : a.eval x = .slice (some ⟨g, 0, none⟩) 1 1) (hg : Blk w g e (f y).toArray) (hown : w.ownsRow base e k v L.length (fl f L)) (hB : Below B w0 w) (hb : B ≤ base) (hbw : base ≤ w.heap.size) (hL : (L.length + 1) * bytes ≤ 140737488355328) (hL2 : L.length + 1 ≤ maxLen)
    (hK : ∀ A c w', w'.ownsRow base e k (.slice A (L.length + 1) c) (L ++ [y]).length (fl f (L ++ [y])) → Below B w0 w' → w.grownBy w' v.ownBlock → K (a.put o.dst (.slice A (L.length + 1) c)) w') :
    if Region.wanted o (yielded ops a.tmps) = true then Oper.wp P o a w K Q else E := by
  have hw : Region.wanted o (yielded ops a.tmps) = true := by simp [Region.wanted, hgd]
  rw [if_pos hw]
  obtain ⟨i0, hi0, hz0, hz1, hz2⟩ := info_parts hi
  refine wp_append_own w s x t ho base e i0 z k bytes ht hi0 hz0 hz1 hz2 hzk hk v L.length (fl f L) hs hown ⟨g, 0, none⟩ 1 1 (f y) hx (by rw [hf, Nat.one_mul]) (fun j u hj => ?_) (h1 y) hL2 hL hbw ?_
  · have := hg.cell j
    rw [List.getElem?_toArray, hj] at this
    by_cases h : j = 0
    · subst h; exact this
    · rw [show ((⟨g, 0, none⟩ : Addr).add j) = ⟨g, j, none⟩ from by simp [Addr.add, h]]; exact this
  intro v' w' hown' hg' _
  have e1 : fl f (L ++ [y]) = fl f L ++ f y := by rw [fl_app, fl_one]
  have hown2 : w'.ownsRow base e k v' (L ++ [y]).length (fl f (L ++ [y])) := by rw [e1, List.length_append, List.length_singleton]; exact hown'
  obtain ⟨A, c, rfl, _⟩ := SlAt.own hown'
  refine hK A c w' hown2 (hB.grown hg' (by omega) fun q hq => ?_) hg'
  have := (hown.lt q hq).1
  omega
end Go.Proofs.Ytfgkkflbpfocjaa

namespace Go.Proofs.Ytfgkkflbpfocjaa
open Go.RowKit
set_option linter.unusedVariables false
set_option linter.unusedSimpArgs false

/-- nothing is appended: a source that is nil, whatever its capacity is called -/
theorem run_append_src_nil' {P : Program} {w : World} {base : Nat} {t ty e : TypeId} {i : TypeInfo} {size : Nat} (ht : P.underlying t = some (.slice e)) (hi : P.info? e = some i) {v : Value} {n : Nat} {xs : List Value} (h : w.ownsRow base e size v n xs) (c : Nat) :
    (Builtin.append_ #[t, t] ty #[v, .slice none 0 c]).run P w = .ok v w := by
  rcases h.2 with ⟨rfl, rfl⟩ | ⟨g, cap, cur, rfl, _, _, hnc, _⟩
  · simp [Builtin.append_, run_underlying ht, sizeOf, typeInfo, hi, Builtin.lenOf, Builtin.firstCells]
  · simp [Builtin.append_, run_underlying ht, sizeOf, typeInfo, hi, Builtin.lenOf, Builtin.firstCells, hnc, storeCells]
theorem wp_append_src_nil {P : Program} {w : World} {o : Oper} {a : Act} {K : Act → World → Prop} {Q : Exit → Act → World → Prop} (s x : Operand) (t : TypeId)
    (ho : o.op = .call { callee := .builtin .append, args := #[s, x], argTypes := #[t, t] }) (base : Nat) (e : TypeId) (i : TypeInfo) (size : Nat) (ht : P.underlying t = some (.slice e)) (hi : P.info? e = some i)
    (v : Value) (n : Nat) (xs : List Value) (hs : a.eval s = v) (hown : w.ownsRow base e size v n xs) (c : Nat) (hx : a.eval x = .slice none 0 c)
    (h : K (a.put o.dst v) w) : Oper.wp P o a w K Q := by
  have hrun := run_append_src_nil' (P := P) (w := w) (ty := o.type) ht hi hown c
  unfold Oper.wp
  simp [execOp, ho, resolve, invoke, builtin, hs, hx, hrun, Result.andThen]
  exact h
theorem wp_app_all {P : Program} {α : Type} {f : α → List Value} {o : Oper} {a : Act} {K : Act → World → Prop} {Q : Exit → Act → World → Prop} (s x : Operand) (t : TypeId)
    (ho : o.op = .call { callee := .builtin .append, args := #[s, x], argTypes := #[t, t] }) (base : Nat) (e : TypeId) {z : Value} (k bytes : Nat) (hi : (P.info? e).map (fun i => (i.zero, i.size, i.bytes)) = some (some z, k, bytes))
    (hzk : z.cells.size = k) (hk : 0 < k) (ht : P.underlying t = some (.slice e)) (hf : ∀ x, (f x).length = k) (h1 : ∀ x, ∀ u ∈ f x, u.oneCell' = true) (w w0 : World) (B : Nat) (L M : List α) (v u : Value) (hs : a.eval s = v)
    (hx : a.eval x = u) (hM : SlAt w k u M.length (fl f M)) (hown : w.ownsRow base e k v L.length (fl f L)) (hB : Below B w0 w) (hb : B ≤ base) (hbw : base ≤ w.heap.size) (hL : (L.length + M.length) * bytes ≤ 140737488355328) (hL2 : L.length + M.length ≤ maxLen)
    (hK : ∀ A c w', w'.ownsRow base e k (.slice A (L.length + M.length) c) (L ++ M).length (fl f (L ++ M)) → Below B w0 w' → w.grownBy w' v.ownBlock → K (a.put o.dst (.slice A (L.length + M.length) c)) w') :
    Oper.wp P o a w K Q := by
  obtain ⟨i0, hi0, hz0, hz1, hz2⟩ := info_parts hi
  obtain ⟨A, c, rfl, hc1, hc2, hR⟩ := hM
  have key : ∀ v' w', w'.ownsRow base e k v' (L.length + M.length) (fl f L ++ fl f M) → w.grownBy w' v.ownBlock → K (a.put o.dst v') w' := by
    intro v' w' hown' hg
    have hown2 : w'.ownsRow base e k v' (L ++ M).length (fl f (L ++ M)) := by rw [fl_app, List.length_append]; exact hown'
    obtain ⟨A', c', rfl, _⟩ := SlAt.own hown'
    refine hK A' c' w' hown2 (hB.grown hg (by omega) fun q hq => ?_) hg
    have := (hown.lt q hq).1
    omega
  cases A with
  | none =>
    have h0 : M.length = 0 := by
      rcases Nat.eq_zero_or_pos M.length with h | h
      · exact h
      · obtain ⟨b, o, e, _⟩ := hR.2 h
        cases e
    have hn : M = [] := List.eq_nil_of_length_eq_zero h0
    subst hn
    refine wp_append_src_nil s x t ho base e i0 k ht hi0 v L.length (fl f L) hs hown c hx (key v w ?_ (World.grownBy.refl _ _))
    rw [List.length_nil, Nat.add_zero, fl_nil, List.append_nil]
    exact hown
  | some ad =>
    refine wp_append_own w s x t ho base e i0 z k bytes ht hi0 hz0 hz1 hz2 hzk hk v L.length (fl f L) hs hown ad M.length c (fl f M) hx (fl_len hf M) (fun j q hj => ?_) (fl_one_cell h1 M) hL2 hL hbw (fun v' w' h2 h3 _ => key v' w' h2 h3)
    have hjl := (List.getElem?_eq_some_iff.1 hj).1
    have hn : 0 < M.length := by
      rcases Nat.eq_zero_or_pos M.length with h0 | h0
      · rw [fl_len hf, h0] at hjl; omega
      · exact h0
    obtain ⟨b, o', e', _⟩ := hR.2 hn
    cases e'
    exact reads_add' hR j q hj
theorem wpList_app_all {P : Program} {α : Type} {f : α → List Value} {ops : Array Oper} {rest : List Oper} {o : Oper} {a : Act} {Q : Exit → Act → World → Prop} (hgd : o.guard = none) (s x : Operand) (t : TypeId)
    (ho : o.op = .call { callee := .builtin .append, args := #[s, x], argTypes := #[t, t] }) (base : Nat) (e : TypeId) {z : Value} (k bytes : Nat) (hi : (P.info? e).map (fun i => (i.zero, i.size, i.bytes)) = some (some z, k, bytes))
    (hzk : z.cells.size = k) (hk : 0 < k) (ht : P.underlying t = some (.slice e)) (hf : ∀ x, (f x).length = k) (h1 : ∀ x, ∀ u ∈ f x, u.oneCell' = true) (w w0 : World) (B : Nat) (L M : List α) (v u : Value) (hs : a.eval s = v)
    (hx : a.eval x = u) (hM : SlAt w k u M.length (fl f M)) (hown : w.ownsRow base e k v L.length (fl f L)) (hB : Below B w0 w) (hb : B ≤ base) (hbw : base ≤ w.heap.size) (hL : (L.length + M.length) * bytes ≤ 140737488355328) (hL2 : L.length + M.length ≤ maxLen)
    (hK : ∀ A c w', w'.ownsRow base e k (.slice A (L.length + M.length) c) (L ++ M).length (fl f (L ++ M)) → Below B w0 w' → w.grownBy w' v.ownBlock → wpList P ops Q rest (a.put o.dst (.slice A (L.length + M.length) c)) w') :
    wpList P ops Q (o :: rest) a w :=
  wpList_plain hgd fun K hK' => wp_app_all s x t ho base e k bytes hi hzk hk ht hf h1 w w0 B L M v u hs hx hM hown hB hb hbw hL hL2 fun A c w' h2 h3 h4 => hK' _ _ (hK A c w' h2 h3 h4)
theorem step_app_all {P : Program} {α : Type} {f : α → List Value} {ops : Array Oper} {o : Oper} {a : Act} {K : Act → World → Prop} {Q : Exit → Act → World → Prop} {E : Prop} (hgd : o.guard = none) (s x : Operand) (t : TypeId)
    (ho : o.op = .call { callee := .builtin .append, args := #[s, x], argTypes := #[t, t] }) (base : Nat) (e : TypeId) {z : Value} (k bytes : Nat) (hi : (P.info? e).map (fun i => (i.zero, i.size, i.bytes)) = some (some z, k, bytes))
    (hzk : z.cells.size = k) (hk : 0 < k) (ht : P.underlying t = some (.slice e)) (hf : ∀ x, (f x).length = k) (h1 : ∀ x, ∀ u ∈ f x, u.oneCell' = true) (w w0 : World) (B : Nat) (L M : List α) (v u : Value) (hs : a.eval s = v)
    (hx : a.eval x = u) (hM : SlAt w k u M.length (fl f M)) (hown : w.ownsRow base e k v L.length (fl f L)) (hB : Below B w0 w) (hb : B ≤ base) (hbw : base ≤ w.heap.size) (hL : (L.length + M.length) * bytes ≤ 140737488355328) (hL2 : L.length + M.length ≤ maxLen)
    (hK : ∀ A c w', w'.ownsRow base e k (.slice A (L.length + M.length) c) (L ++ M).length (fl f (L ++ M)) → Below B w0 w' → w.grownBy w' v.ownBlock → K (a.put o.dst (.slice A (L.length + M.length) c)) w') :
    if Region.wanted o (yielded ops a.tmps) = true then Oper.wp P o a w K Q else E := by
  have hw : Region.wanted o (yielded ops a.tmps) = true := by simp [Region.wanted, hgd]
  rw [if_pos hw]
  exact wp_app_all s x t ho base e k bytes hi hzk hk ht hf h1 w w0 B L M v u hs hx hM hown hB hb hbw hL hL2 hK
end Go.Proofs.Ytfgkkflbpfocjaa

namespace Go.Proofs.Ytfgkkflbpfocjaa
set_option linter.unusedVariables false

/-- a range -/
structure Rg where
  f : Int
  t : Int
/-- a receiver's ledger -/
structure Rec where
  g : Int
  r : Int
  fl : Int
  tk : List Rg
  kp : List Int
/-- the first error and where it is -/
def fstE (f : Nat → Int) : Nat → Nat → Int × Nat
  | 0, _ => (0, 0)
  | n + 1, k => if f k ≠ 0 then (f k, k) else fstE f n (k + 1)
theorem fstE_hit {f : Nat → Int} {N k : Nat} (hk : k < N) (h : f k ≠ 0) : fstE f (N - k) k = (f k, k) := by
  obtain ⟨n, hn⟩ : ∃ n, N - k = n + 1 := ⟨N - k - 1, by omega⟩
  rw [hn]; exact if_pos h
theorem fstE_miss {f : Nat → Int} {N k : Nat} (hk : k < N) (h : f k = 0) : fstE f (N - k) k = fstE f (N - (k + 1)) (k + 1) := by
  obtain ⟨n, hn⟩ : ∃ n, N - k = n + 1 := ⟨N - k - 1, by omega⟩
  have e : N - (k + 1) = n := by omega
  rw [hn, e]; exact if_neg (by rw [h]; exact fun c => c rfl)
theorem fstE_end {f : Nat → Int} {N : Nat} : fstE f (N - N) N = (0, 0) := by rw [Nat.sub_self]; rfl
theorem fstE_zero {f : Nat → Int} {N : Nat} (h : (fstE f N 0).1 = 0) : ∀ k, k < N → f k = 0 := by
  have : ∀ n k, k + n = N → (fstE f n k).1 = 0 → ∀ j, k ≤ j → j < N → f j = 0 := by
    intro n
    induction n with
    | zero => intro k hk _ j h1 h2; omega
    | succ n ih =>
      intro k hk h0 j h1 h2
      rw [fstE] at h0
      by_cases c : f k ≠ 0
      · rw [if_pos c] at h0; exact absurd h0 c
      · rw [if_neg c] at h0
        rcases Nat.lt_or_eq_of_le h1 with d | d
        · exact ih (k + 1) (by omega) h0 j (by omega) h2
        · rw [← d]; exact Decidable.not_not.1 c
  intro k hk
  exact this N 0 (by omega) h k (by omega) hk
theorem fstE_all {f : Nat → Int} {N : Nat} (h : ∀ k, k < N → f k = 0) : fstE f N 0 = (0, 0) := by
  have : ∀ n k, k + n = N → fstE f n k = (0, 0) := by
    intro n
    induction n with
    | zero => intro k _; rfl
    | succ n ih =>
      intro k hk
      rw [fstE, if_neg (fun c => c (h k (by omega)))]
      exact ih (k + 1) (by omega)
  exact this N 0 (by omega)
def rgAt (l : List Rg) (i : Nat) : Rg := l.getD i ⟨0, 0⟩
theorem rgAt_of {l : List Rg} {i : Nat} {x : Rg} (h : l[i]? = some x) : rgAt l i = x := by
  unfold rgAt; rw [List.getD_eq_getElem?_getD, h]; rfl
def kpAt (l : List Int) (i : Nat) : Int := l.getD i 0
theorem kpAt_of {l : List Int} {i : Nat} {x : Int} (h : l[i]? = some x) : kpAt l i = x := by
  unfold kpAt; rw [List.getD_eq_getElem?_getD, h]; rfl
/-- a number lies in a range -/
def Rg.inB (x : Rg) (n : Int) : Bool := decide (x.f ≤ n) && decide (n < x.t)
def inR (l : List Rg) (n : Int) : Bool := l.any fun x => x.inB n
theorem inR_hit {l : List Rg} {n : Int} {k : Nat} {x : Rg} (h : l[k]? = some x) (hb : x.inB n = true) : inR l n = true := List.any_eq_true.2 ⟨x, List.mem_of_getElem? h, hb⟩
theorem inR_miss {l : List Rg} {n : Int} (h : ∀ k x, k < l.length → l[k]? = some x → x.inB n = false) : inR l n = false := by
  rw [Bool.eq_false_iff]
  intro c
  obtain ⟨x, hx, hb⟩ := List.any_eq_true.1 c
  obtain ⟨k, hk, e⟩ := List.mem_iff_getElem.1 hx
  have := h k x hk (by rw [List.getElem?_eq_getElem hk, e])
  rw [this] at hb; cases hb
/-- the error of a range that was taken -/
def tErr (r : Rec) (i : Nat) : Int :=
  if (rgAt r.tk i).t ≤ (rgAt r.tk i).f ∨ (rgAt r.tk i).f < r.fl ∨ (0 < i ∧ (rgAt r.tk i).f ≤ (rgAt r.tk (i - 1)).t) then 19 else if r.g - r.r < (rgAt r.tk i).t then 14 else 0
/-- the error of an offset that is kept -/
def kErr (r : Rec) (i : Nat) : Int := if 0 < i ∧ kpAt r.kp i ≤ kpAt r.kp (i - 1) then 19 else if inR r.tk (kpAt r.kp i) = false then 12 else 0
/-- the first error of a ledger -/
def chkR (r : Rec) : Int × Nat :=
  if 1125899906842624 < r.g then (2, 0) else if r.g < r.r ∨ r.g - r.r < r.fl then (14, 0) else if 1000 < r.tk.length ∨ 1000 < r.kp.length then (5, 0)
  else if (fstE (tErr r) r.tk.length 0).1 ≠ 0 then fstE (tErr r) r.tk.length 0 else fstE (kErr r) r.kp.length 0
def okR (r : Rec) : Prop := (chkR r).1 = 0
instance (r : Rec) : Decidable (okR r) := by unfold okR; exact inferInstance
/-- the numbers are machine numbers -/
structure WfR (z : Rec) : Prop where
  g : 0 ≤ z.g ∧ z.g ≤ 18446744073709551615
  r : 0 ≤ z.r ∧ z.r ≤ 18446744073709551615
  fl : 0 ≤ z.fl ∧ z.fl ≤ 18446744073709551615
  tk : ∀ x ∈ z.tk, (0 ≤ x.f ∧ x.f ≤ 18446744073709551615) ∧ (0 ≤ x.t ∧ x.t ≤ 18446744073709551615)
  kp : ∀ x ∈ z.kp, 0 ≤ x ∧ x ≤ 18446744073709551615
/-- a valid ledger, in words -/
structure OkR (z : Rec) : Prop where
  g : z.g ≤ 1125899906842624
  r : z.r ≤ z.g
  fl : z.fl ≤ z.g - z.r
  nt : z.tk.length ≤ 1000
  nk : z.kp.length ≤ 1000
  t : ∀ i, i < z.tk.length → (rgAt z.tk i).f < (rgAt z.tk i).t ∧ z.fl ≤ (rgAt z.tk i).f ∧ (rgAt z.tk i).t ≤ z.g - z.r ∧ (0 < i → (rgAt z.tk (i - 1)).t < (rgAt z.tk i).f)
theorem tErr_zero {r : Rec} {i : Nat} (h : tErr r i = 0) : (rgAt r.tk i).f < (rgAt r.tk i).t ∧ r.fl ≤ (rgAt r.tk i).f ∧ (rgAt r.tk i).t ≤ r.g - r.r ∧ (0 < i → (rgAt r.tk (i - 1)).t < (rgAt r.tk i).f) := by
  unfold tErr at h
  by_cases c : (rgAt r.tk i).t ≤ (rgAt r.tk i).f ∨ (rgAt r.tk i).f < r.fl ∨ (0 < i ∧ (rgAt r.tk i).f ≤ (rgAt r.tk (i - 1)).t)
  · rw [if_pos c] at h; cases h
  · rw [if_neg c] at h
    by_cases d : r.g - r.r < (rgAt r.tk i).t
    · rw [if_pos d] at h; cases h
    · refine ⟨?_, ?_, by omega, fun h0 => ?_⟩
      · exact Int.not_le.1 fun e => c (.inl e)
      · exact Int.not_lt.1 fun e => c (.inr (.inl e))
      · exact Int.not_le.1 fun e => c (.inr (.inr ⟨h0, e⟩))
theorem okR_of {r : Rec} (h : okR r) : OkR r := by
  unfold okR chkR at h
  by_cases c1 : 1125899906842624 < r.g
  · rw [if_pos c1] at h; cases h
  rw [if_neg c1] at h
  by_cases c2 : r.g < r.r ∨ r.g - r.r < r.fl
  · rw [if_pos c2] at h; cases h
  rw [if_neg c2] at h
  by_cases c3 : 1000 < r.tk.length ∨ 1000 < r.kp.length
  · rw [if_pos c3] at h; cases h
  rw [if_neg c3] at h
  by_cases c4 : (fstE (tErr r) r.tk.length 0).1 = 0
  · exact ⟨by omega, by omega, by omega, by omega, by omega, fun i hi => tErr_zero (fstE_zero c4 i hi)⟩
  · rw [if_pos c4] at h; exact absurd h c4
/-- the bytes of the first k ranges -/
def szs (l : List Rg) : Nat → Int
  | 0 => 0
  | k + 1 => szs l k + ((rgAt l k).t - (rgAt l k).f)
/-- where the first k ranges end -/
def endK (r : Rec) : Nat → Int
  | 0 => r.fl
  | k + 1 => (rgAt r.tk k).t
theorem endK_le {r : Rec} (h : OkR r) {k : Nat} (hk : k ≤ r.tk.length) : r.fl ≤ endK r k ∧ endK r k ≤ r.g - r.r := by
  cases k with
  | zero => exact ⟨Int.le_refl _, h.fl⟩
  | succ k =>
    have := h.t k (by omega)
    show r.fl ≤ (rgAt r.tk k).t ∧ (rgAt r.tk k).t ≤ _
    omega
theorem endK_next {r : Rec} (h : OkR r) {k : Nat} (hk : k < r.tk.length) : endK r k ≤ (rgAt r.tk k).f := by
  cases k with
  | zero => exact (h.t 0 hk).2.1
  | succ k =>
    have := (h.t (k + 1) hk).2.2.2 (by omega)
    rw [Nat.add_sub_cancel] at this
    show (rgAt r.tk k).t ≤ _
    omega
theorem szs_le {r : Rec} (h : OkR r) : ∀ k, k ≤ r.tk.length → 0 ≤ szs r.tk k ∧ r.fl + szs r.tk k ≤ endK r k := by
  intro k
  induction k with
  | zero => intro _; exact ⟨Int.le_refl _, by show r.fl + 0 ≤ r.fl; omega⟩
  | succ k ih =>
    intro hk
    have ih := ih (by omega)
    have h1 := endK_next h (k := k) (by omega)
    have h2 := (h.t k (by omega)).1
    show 0 ≤ szs r.tk k + _ ∧ r.fl + (szs r.tk k + _) ≤ (rgAt r.tk k).t
    omega
/-- what is reserved -/
def resv (r : Rec) : Int := r.g - r.r - r.fl - szs r.tk r.tk.length
theorem resv_b {r : Rec} (h : OkR r) (h0 : 0 ≤ r.fl) (h1 : 0 ≤ r.r) : 0 ≤ resv r ∧ resv r ≤ r.g := by
  have := szs_le h r.tk.length (Nat.le_refl _)
  have := endK_le h (k := r.tk.length) (Nat.le_refl _)
  unfold resv
  omega
/-! sets -/
def seE (l : List Rg) (i : Nat) : Int := if (rgAt l i).t ≤ (rgAt l i).f then 2 else if 0 < i ∧ (rgAt l i).f ≤ (rgAt l (i - 1)).t then 19 else 0
def setE (l : List Rg) : Int × Nat := if 1000 < l.length then (5, 0) else fstE (seE l) l.length 0
theorem setE_ok {r : Rec} (h : OkR r) : setE r.tk = (0, 0) := by
  unfold setE
  rw [if_neg (by have := h.nt; omega)]
  refine fstE_all fun k hk => ?_
  have := h.t k hk
  unfold seE
  rw [if_neg (by omega), if_neg (fun c => by have := this.2.2.2 c.1; omega)]
/-! the state of a range -/
def ov (off hi : Int) (x : Rg) : Int := if max x.f off < min x.t hi then min x.t hi - max x.f off else 0
theorem ov_b (off hi : Int) (x : Rg) : 0 ≤ ov off hi x := by
  unfold ov; split <;> omega
def flv (r : Rec) (off size : Int) : Int := if off < r.fl then min (r.fl - off) size else 0
def cons (r : Rec) (off size : Int) : Nat → Int
  | 0 => flv r off size
  | k + 1 => cons r off size k + ov off (off + size) (rgAt r.tk k)
def stOf (c size : Int) : Int := if c = size then 1 else if c = 0 then 2 else 3
def stE (r : Rec) (off size : Int) : Int × Int :=
  if (chkR r).1 ≠ 0 then (0, (chkR r).1) else if size = 0 then (0, 2) else if r.g - r.r < size ∨ r.g - r.r - size < off then (0, 14) else (stOf (cons r off size r.tk.length) size, 0)
def clampE (off size e : Int) : Int := if e ≤ off then 0 else if off + size ≤ e then size else e - off
theorem clampE_mono {off size a b : Int} (hs : 0 ≤ size) (h : a ≤ b) : clampE off size a ≤ clampE off size b := by
  unfold clampE
  split <;> split <;> (try split) <;> (try split) <;> omega
theorem cons_b {r : Rec} (h : OkR r) {off size : Int} (hs : 0 < size) : ∀ k, k ≤ r.tk.length → 0 ≤ cons r off size k ∧ cons r off size k ≤ clampE off size (endK r k) := by
  intro k
  induction k with
  | zero =>
    intro _
    show 0 ≤ flv r off size ∧ flv r off size ≤ clampE off size r.fl
    unfold flv clampE
    split <;> split <;> (try split) <;> omega
  | succ k ih =>
    intro hk
    have ih := ih (by omega)
    have h1 := endK_next h (k := k) (by omega)
    have h2 := (h.t k (by omega)).1
    have h3 : clampE off size (endK r k) + ov off (off + size) (rgAt r.tk k) ≤ clampE off size (rgAt r.tk k).t := by
      unfold clampE ov
      split <;> split <;> (try split) <;> (try split) <;> omega
    have h4 := ov_b off (off + size) (rgAt r.tk k)
    show 0 ≤ cons r off size k + _ ∧ cons r off size k + _ ≤ clampE off size (rgAt r.tk k).t
    omega
theorem cons_le {r : Rec} (h : OkR r) {off size : Int} (hs : 0 < size) {k : Nat} (hk : k ≤ r.tk.length) : 0 ≤ cons r off size k ∧ cons r off size k ≤ size := by
  have := cons_b h (off := off) hs k hk
  have h2 : clampE off size (endK r k) ≤ size := by unfold clampE; split <;> (try split) <;> omega
  omega
theorem cons_mono {r : Rec} {off size : Int} {j k : Nat} (hjk : j ≤ k) : cons r off size j ≤ cons r off size k := by
  induction k with
  | zero => obtain rfl : j = 0 := by omega
            exact Int.le_refl _
  | succ k ih =>
    rcases Nat.lt_or_eq_of_le hjk with d | d
    · have := ih (by omega)
      have := ov_b off (off + size) (rgAt r.tk k)
      show _ ≤ cons r off size k + _
      omega
    · rw [d]; exact Int.le_refl _
/-- a range that covers all -/
theorem cons_whole {r : Rec} (h : OkR r) {off size : Int} (hs : 0 < size) {k : Nat} (hk : k < r.tk.length) (h1 : (rgAt r.tk k).f ≤ off) (h2 : off + size ≤ (rgAt r.tk k).t) : cons r off size r.tk.length = size := by
  have a := cons_le h (off := off) hs (k := r.tk.length) (Nat.le_refl _)
  have b := cons_mono (r := r) (off := off) (size := size) (j := k + 1) (k := r.tk.length) (by omega)
  have c := (cons_le h (off := off) hs (k := k) (by omega)).1
  have d : ov off (off + size) (rgAt r.tk k) = size := by unfold ov; rw [if_pos (by omega)]; omega
  have e : cons r off size (k + 1) = cons r off size k + ov off (off + size) (rgAt r.tk k) := rfl
  omega
end Go.Proofs.Ytfgkkflbpfocjaa

namespace Go.Proofs.Ytfgkkflbpfocjaa.Bu
set_option linter.unusedVariables false
set_option linter.unusedSimpArgs false

/-- a bundle -/
structure Bn where
  node : Int
  seq : Int
  off : Int
  dest : Int
  prio : Int
  born : Int
  life : Int
  total : Int
  data : ByteArray
def IdOk (node seq io : Int) : Prop := 1 ≤ node ∧ node ≤ 16 ∧ 0 ≤ io ∧ io ≤ 19999 ∧ seq ≤ 1099511627776
instance (a b c : Int) : Decidable (IdOk a b c) := by unfold IdOk; exact inferInstance
def idE (node seq io : Int) : Int := if IdOk node seq io then 0 else 2
/-- the fields are within their limits -/
def Fok (x : Bn) : Prop := (1 ≤ x.dest ∧ x.dest ≤ 16) ∧ (0 ≤ x.prio ∧ x.prio ≤ 2) ∧ (0 ≤ x.born ∧ x.born ≤ 1099511627776) ∧ (1 ≤ x.life ∧ x.life ≤ 1048576) ∧ (1 ≤ x.total ∧ x.total ≤ 20000)
instance (x : Bn) : Decidable (Fok x) := by unfold Fok; exact inferInstance
/-- the error of a bundle -/
def bE (x : Bn) : Int := if ¬ IdOk x.node x.seq x.off then 2 else if ¬ Fok x then 2 else if x.data.size = 0 then 11 else if 1000 < x.data.size then 4 else if x.total < x.off + x.data.size then 12 else 0
theorem idE_ne {a b c : Int} (h : ¬ IdOk a b c) : idE a b c = 2 := if_neg h
theorem idE_ok {a b c : Int} (h : IdOk a b c) : idE a b c = 0 := if_pos h
section
variable {x : Bn}
theorem bE_id (h : ¬ IdOk x.node x.seq x.off) : bE x = 2 := if_pos h
theorem bE_f (h : IdOk x.node x.seq x.off) (h2 : ¬ Fok x) : bE x = 2 := by unfold bE; rw [if_neg (fun c => c h), if_pos h2]
theorem bE_s (h : IdOk x.node x.seq x.off) (h2 : Fok x) (h3 : x.data.size = 0) : bE x = 11 := by unfold bE; rw [if_neg (fun c => c h), if_neg (fun c => c h2), if_pos h3]
theorem bE_l (h : IdOk x.node x.seq x.off) (h2 : Fok x) (h3 : ¬ x.data.size = 0) (h4 : 1000 < x.data.size) : bE x = 4 := by unfold bE; rw [if_neg (fun c => c h), if_neg (fun c => c h2), if_neg h3, if_pos h4]
theorem bE_t (h : IdOk x.node x.seq x.off) (h2 : Fok x) (h3 : ¬ x.data.size = 0) (h4 : ¬ 1000 < x.data.size) (h5 : x.total < x.off + x.data.size) : bE x = 12 := by unfold bE; rw [if_neg (fun c => c h), if_neg (fun c => c h2), if_neg h3, if_neg h4, if_pos h5]
theorem bE_0 (h : IdOk x.node x.seq x.off) (h2 : Fok x) (h3 : ¬ x.data.size = 0) (h4 : ¬ 1000 < x.data.size) (h5 : ¬ x.total < x.off + x.data.size) : bE x = 0 := by unfold bE; rw [if_neg (fun c => c h), if_neg (fun c => c h2), if_neg h3, if_neg h4, if_neg h5]
end
/-- a bundle is as Check wants it -/
structure Bok (x : Bn) : Prop where
  id : IdOk x.node x.seq x.off
  f : Fok x
  s : 1 ≤ x.data.size ∧ x.data.size ≤ 1000
  t : x.off + x.data.size ≤ x.total
theorem bok_of {x : Bn} (h : bE x = 0) : Bok x := by
  by_cases h1 : IdOk x.node x.seq x.off
  · by_cases h2 : Fok x
    · by_cases h3 : x.data.size = 0
      · rw [bE_s h1 h2 h3] at h; cases h
      · by_cases h4 : 1000 < x.data.size
        · rw [bE_l h1 h2 h3 h4] at h; cases h
        · by_cases h5 : x.total < x.off + x.data.size
          · rw [bE_t h1 h2 h3 h4 h5] at h; cases h
          · exact ⟨h1, h2, by omega, by omega⟩
    · rw [bE_f h1 h2] at h; cases h
  · rw [bE_id h1] at h; cases h
theorem bE_ok {x : Bn} (h : Bok x) : bE x = 0 := bE_0 h.id h.f (by have := h.s; omega) (by have := h.s; omega) (by have := h.t; omega)
/-- a limit -/
structure Lm where
  n : Int
  l : Int
  g : Int
def Lm.bad (x : Lm) : Bool := decide (x.n < x.l) || decide (x.g < x.n)
/-- no limit is broken from k on -/
def LmMid (L : List Lm) (k : Nat) : Prop := (L.drop k).any Lm.bad = L.any Lm.bad
theorem lm_drop {L : List Lm} {k : Nat} {x : Lm} (h : L[k]? = some x) : (L.drop k).any Lm.bad = (x.bad || (L.drop (k + 1)).any Lm.bad) := by
  obtain ⟨hk, rfl⟩ := List.getElem?_eq_some_iff.1 h
  rw [List.drop_eq_getElem_cons hk, List.any_cons]
theorem LmMid.next {L : List Lm} {k : Nat} {x : Lm} (h : LmMid L k) (hx : L[k]? = some x) (hp : x.bad = false) : LmMid L (k + 1) := by
  unfold LmMid at h ⊢
  rw [lm_drop hx, hp, Bool.false_or] at h
  exact h
theorem LmMid.hit {L : List Lm} {k : Nat} {x : Lm} (h : LmMid L k) (hx : L[k]? = some x) (hp : x.bad = true) : L.any Lm.bad = true := by
  unfold LmMid at h
  rw [lm_drop hx, hp, Bool.true_or] at h
  exact h.symm
theorem LmMid.done {L : List Lm} {k : Nat} (h : LmMid L k) (hk : L.length ≤ k) : L.any Lm.bad = false := by
  unfold LmMid at h
  rw [List.drop_of_length_le hk] at h
  exact h.symm
end Go.Proofs.Ytfgkkflbpfocjaa.Bu

namespace Go.Proofs.Ytfgkkflbpfocjaa
set_option linter.unusedVariables false

/-- a frame -/
structure Fr where
  kind : Int
  frm : Int
  to : Int
  mine : Int
  yours : Int
  a : Int
  b : Int
  inode : Int
  iseq : Int
  ioff : Int
  bn : Bu.Bn
def zBn : Bu.Bn := ⟨0, 0, 0, 0, 0, 0, 0, 0, ⟨#[]⟩⟩
/-- a number is out of its range -/
def Fr.out (f : Fr) : Prop := f.frm < 1 ∨ 16 < f.frm ∨ f.to < 1 ∨ 16 < f.to ∨ f.to = f.frm ∨ f.mine < 1 ∨ 1099511627776 < f.mine ∨ 1099511627776 < f.yours
instance (f : Fr) : Decidable f.out := by unfold Fr.out; exact inferInstance
def Fr.aBig (f : Fr) : Prop := f.kind ≠ 1 ∧ 1125899906842624 < f.a
instance (f : Fr) : Decidable f.aBig := by unfold Fr.aBig; exact inferInstance
def Fr.bBad (f : Fr) : Prop := (f.kind = 3 ∧ f.a < f.b) ∨ (f.kind = 4 ∧ 1125899906842624 < f.b) ∨ (f.kind = 6 ∧ (f.b < 1 ∨ 3 < f.b))
instance (f : Fr) : Decidable f.bBad := by unfold Fr.bBad; exact inferInstance
/-- the error of what a frame is about -/
def Fr.inE (f : Fr) : Int := if f.kind = 3 then Bu.bE f.bn else if f.kind = 5 ∨ f.kind = 6 then Bu.idE f.inode f.iseq f.ioff else 0
/-- what a kind does not use is 0 -/
def Fr.bare (f : Fr) : Prop := (f.kind = 1 → f.a = 0) ∧ (f.kind ≠ 3 ∧ f.kind ≠ 4 ∧ f.kind ≠ 6 → f.b = 0) ∧ (f.kind ≠ 5 ∧ f.kind ≠ 6 → f.inode = 0 ∧ f.iseq = 0 ∧ f.ioff = 0) ∧ (f.kind ≠ 3 → f.bn = zBn)
instance : DecidableEq Bu.Bn := fun x y => decidable_of_iff (x.node = y.node ∧ x.seq = y.seq ∧ x.off = y.off ∧ x.dest = y.dest ∧ x.prio = y.prio ∧ x.born = y.born ∧ x.life = y.life ∧ x.total = y.total ∧ x.data = y.data) (by
  cases x; cases y; simp)
instance (f : Fr) : Decidable f.bare := by unfold Fr.bare; exact inferInstance
/-- the error of a frame -/
def frE (f : Fr) : Int :=
  if f.kind < 1 ∨ 7 < f.kind then 7 else if f.out then 2 else if f.aBig ∨ f.bBad then 2 else if f.inE ≠ 0 then f.inE else if ¬ f.bare then 3 else 0
/-! peers -/
structure Pr where
  node : Int
  theirs : Int
  sure : Bool
  old : Int
  s : Led
  r : Rec
def zRec : Rec := ⟨0, 0, 0, [], []⟩
def zSend : Led := ⟨0, 0, 0, []⟩
def zPr : Pr := ⟨0, 0, false, 0, zSend, zRec⟩
/-- nothing is known -/
def Pr.empty (p : Pr) : Prop := p.sure = false ∧ p.old = 0 ∧ p.s.g = 0 ∧ p.s.n = 0 ∧ p.s.r = 0 ∧ p.s.sl.length = 0 ∧ p.r.g = 0 ∧ p.r.r = 0 ∧ p.r.fl = 0 ∧ p.r.tk.length = 0 ∧ p.r.kp.length = 0
instance (p : Pr) : Decidable p.empty := by unfold Pr.empty; exact inferInstance
structure WfP (p : Pr) : Prop where
  th : 0 ≤ p.theirs ∧ p.theirs ≤ 18446744073709551615
  old : 0 ≤ p.old ∧ p.old ≤ 18446744073709551615
  s : Wf p.s
  r : WfR p.r
def Pr.out (p : Pr) : Prop := p.node < 1 ∨ 16 < p.node ∨ 1099511627776 < p.theirs ∨ 1125899906842624 < p.old
instance (p : Pr) : Decidable p.out := by unfold Pr.out; exact inferInstance
/-- the error of a peer -/
def chkP (p : Pr) : Int :=
  if p.out then 2 else if (chk p.s).1 ≠ 0 then (chk p.s).1 else if (chkR p.r).1 ≠ 0 then (chkR p.r).1 else if p.theirs = 0 ∧ ¬ p.empty then 12 else 0
theorem chkP_ok {p : Pr} (h : chkP p = 0) : ¬ p.out ∧ okL p.s ∧ okR p.r ∧ (p.theirs = 0 → p.empty) := by
  unfold chkP at h
  by_cases c1 : p.out
  · rw [if_pos c1] at h; cases h
  rw [if_neg c1] at h
  by_cases c2 : (chk p.s).1 = 0
  · rw [if_neg (fun c => c c2)] at h
    by_cases c3 : (chkR p.r).1 = 0
    · rw [if_neg (fun c => c c3)] at h
      by_cases c4 : p.theirs = 0 ∧ ¬ p.empty
      · rw [if_pos c4] at h; cases h
      · exact ⟨c1, c2, c3, fun e => Decidable.not_not.1 fun c => c4 ⟨e, c⟩⟩
    · rw [if_pos c3] at h; exact absurd h c3
  · rw [if_pos c2] at h; exact absurd h c2
/-- what a peer holds back -/
def heldP (p : Pr) : Int := p.old + resv p.r
theorem heldP_b {p : Pr} (hw : WfP p) (h : chkP p = 0) : 0 ≤ heldP p ∧ heldP p ≤ 2251799813685248 := by
  obtain ⟨h1, _, h3, _⟩ := chkP_ok h
  have ho := okR_of h3
  have := resv_b ho hw.r.fl.1 hw.r.r.1
  have := ho.g
  have := hw.old
  have : ¬ 1125899906842624 < p.old := fun c => h1 (.inr (.inr (.inr c)))
  unfold heldP
  omega
def hldE (p : Pr) : Int × Int := if chkP p ≠ 0 then (0, chkP p) else (heldP p, 0)
def rstE (p : Pr) : Pr × Int := if chkP p ≠ 0 then (zPr, chkP p) else if 1125899906842624 < heldP p then (zPr, 2) else (⟨p.node, p.theirs, false, heldP p, zSend, zRec⟩, 0)
def bootOk (b : Int) : Prop := 1 ≤ b ∧ b ≤ 1099511627776
instance (b : Int) : Decidable (bootOk b) := by unfold bootOk; exact inferInstance
/-- the error of meeting a frame -/
def metE (p : Pr) (boot : Int) (f : Fr) : Int := if chkP p ≠ 0 then chkP p else if ¬ bootOk boot then 2 else if frE f ≠ 0 then frE f else if f.frm ≠ p.node then 7 else 0
/-- what a frame makes of a peer -/
def lrn (p : Pr) (f : Fr) : Pr := if p.theirs < f.mine then ⟨p.node, f.mine, false, 0, zSend, zRec⟩ else p
def met (p : Pr) (boot : Int) (f : Fr) : Pr × Int × Bool :=
  if f.mine < p.theirs then (p, 1, false) else if f.yours ≠ boot then (lrn p f, 2, true) else ({ lrn p f with sure := true, old := 0 }, 3, decide (p.theirs < f.mine))
def frB (p : Pr) (node boot kind a b : Int) : Fr := ⟨kind, node, p.node, boot, p.theirs, a, b, 0, 0, 0, zBn⟩
def zFr : Fr := ⟨0, 0, 0, 0, 0, 0, 0, 0, 0, 0, zBn⟩
def begE (p : Pr) (node boot kind : Int) : Int := if chkP p ≠ 0 then chkP p else if node < 1 ∨ 16 < node ∨ node = p.node ∨ ¬ bootOk boot then 2 else if kind ≠ 1 ∧ p.theirs = 0 then 13 else 0
end Go.Proofs.Ytfgkkflbpfocjaa

