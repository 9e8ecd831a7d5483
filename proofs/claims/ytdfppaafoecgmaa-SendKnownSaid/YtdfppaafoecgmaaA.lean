/- Contracts: IDs, and the search for a slot. -/
import Derived.Test.YtdfppaafoecgmaaBase
import Derived.Test.YtdfppaafoecgmaaPlain
import Derived.Laws.EntriesVeiled
import Derived.Laws.StructEq
namespace Go.Proofs.Ytdfppaafoecgmaa
open Go.RowKit
set_option linter.unusedVariables false
set_option linter.unusedSimpArgs false

def Sl.cells (x : Sl) : List Value := [.int .u64 x.off, .int .u64 x.size, .int .i64 x.node, .int .u64 x.seq, .int .i64 x.io]
def flat (l : List Sl) : List Value := l.flatMap Sl.cells
theorem flat_len (l : List Sl) : (flat l).length = l.length * 5 := by
  induction l with
  | nil => rfl
  | cons x l ih => simp [flat, Sl.cells] at *; omega
theorem flat_get (l : List Sl) (k : Nat) {x : Sl} (h : l[k]? = some x) (j : Nat) (hj : j < 5) : (flat l)[k * 5 + j]? = x.cells[j]? := by
  induction l generalizing k with
  | nil => simp at h
  | cons y l ih =>
    cases k with
    | zero =>
      simp at h; subst h
      show (y.cells ++ flat l)[0 * 5 + j]? = _
      rw [List.getElem?_append_left (by simp [Sl.cells]; omega)]
      simp
    | succ k =>
      simp at h
      show (y.cells ++ flat l)[(k + 1) * 5 + j]? = _
      rw [List.getElem?_append_right (by simp [Sl.cells]; omega)]
      have : (k + 1) * 5 + j - y.cells.length = k * 5 + j := by simp [Sl.cells]; omega
      rw [this]
      exact ih k h

/-- the ledger's value -/
def LedAt (w : World) (V : Value) (s : Led) : Prop := ∃ v, V = .agg #[.int .u64 s.g, .int .u64 s.n, .int .u64 s.r, v] ∧ SlAt w 5 v s.sl.length (flat s.sl)

def RetI (k : IntKind) (a : Int) (w : World) (e : Ending) (w' : World) : Prop := e = .returned (.int k a) ∧ Below w.heap.size w w'
def RetB (a : Bool) (w : World) (e : Ending) (w' : World) : Prop := e = .returned (.bool a) ∧ Below w.heap.size w w'

set_option maxHeartbeats 1000000 in
theorem within_two (b : Nat) (x l h y m k : Int) (w : World) (c0 : w.cell? ⟨b, 0, none⟩ = some (.int .i64 x)) (c1 : w.cell? ⟨b, 1, none⟩ = some (.int .i64 l)) (c2 : w.cell? ⟨b, 2, none⟩ = some (.int .i64 h))
    (c3 : w.cell? ⟨b, 3, none⟩ = some (.int .i64 y)) (c4 : w.cell? ⟨b, 4, none⟩ = some (.int .i64 m)) (c5 : w.cell? ⟨b, 5, none⟩ = some (.int .i64 k)) (hb : b < w.heap.size) :
    Calls Try.prog 50 #[.slice (some ⟨b, 0, none⟩) 2 2] w (RetB (decide ((l ≤ x ∧ x ≤ h) ∧ (m ≤ y ∧ y ≤ k))) w) := by
  go_enter Try.func50, Try.ntmps50
  go_wp2
  go_loopw [7] (fun a wr => ∃ i : Nat, i ≤ 2 ∧ a = .int .i64 i ∧ (1 ≤ i → l ≤ x ∧ x ≤ h) ∧ (2 ≤ i → m ≤ y ∧ y ≤ k) ∧ Below w.heap.size w wr) (fun a _ => 2 - (intOf a).toNat)
  case atStart => exact ⟨0, by omega, rfl, fun h => by omega, fun h => by omega, Below.refl _ _⟩
  case round =>
    obtain ⟨i, hi, rfl, h1, h2, hB⟩ := hrel
    have d0 := (hB.cell (p := ⟨b, 0, none⟩) hb).trans c0
    have d1 := (hB.cell (p := ⟨b, 1, none⟩) hb).trans c1
    have d2 := (hB.cell (p := ⟨b, 2, none⟩) hb).trans c2
    have d3 := (hB.cell (p := ⟨b, 3, none⟩) hb).trans c3
    have d4 := (hB.cell (p := ⟨b, 4, none⟩) hb).trans c4
    have d5 := (hB.cell (p := ⟨b, 5, none⟩) hb).trans c5
    have hz := hB.size
    clear c0 c1 c2 c3 c4 c5
    have H1 := Lib.hid h1
    have H2 := Lib.hid h2
    clear h1 h2
    by_cases e0 : i = 0
    · subst e0
      by_cases p : l ≤ x
      · by_cases q : x ≤ h
        · go_wp2
          go_roundw
          case rel => exact ⟨1, by omega, rfl, fun _ => ⟨p, q⟩, fun h => by omega, (by repeat (first | with_reducible exact Below.refl _ _ | with_reducible refine Below.drew ?_ | with_reducible refine below_drewN ?_ _ | with_reducible refine bal ?_ _ | with_reducible refine bset ?_ (by first | (simp; done) | (simp; omega)) _ | with_reducible refine bnext ?_ (by assumption) | with_reducible assumption))⟩
          case measure => simp [intOf]
        · go_wp2
          go_ret
          exact ⟨ret_bool (by simp; omega), (by repeat (first | with_reducible exact Below.refl _ _ | with_reducible refine Below.drew ?_ | with_reducible refine below_drewN ?_ _ | with_reducible refine bal ?_ _ | with_reducible refine bset ?_ (by first | (simp; done) | (simp; omega)) _ | with_reducible refine bnext ?_ (by assumption) | with_reducible assumption))⟩
      · go_wp2
        go_ret
        exact ⟨ret_bool (by simp; omega), (by repeat (first | with_reducible exact Below.refl _ _ | with_reducible refine Below.drew ?_ | with_reducible refine below_drewN ?_ _ | with_reducible refine bal ?_ _ | with_reducible refine bset ?_ (by first | (simp; done) | (simp; omega)) _ | with_reducible refine bnext ?_ (by assumption) | with_reducible assumption))⟩
    · by_cases e1 : i = 1
      · subst e1
        by_cases p : m ≤ y
        · by_cases q : y ≤ k
          · go_wp2
            go_roundw
            case rel => exact ⟨2, by omega, rfl, fun _ => H1.out (by omega), fun _ => ⟨p, q⟩, (by repeat (first | with_reducible exact Below.refl _ _ | with_reducible refine Below.drew ?_ | with_reducible refine below_drewN ?_ _ | with_reducible refine bal ?_ _ | with_reducible refine bset ?_ (by first | (simp; done) | (simp; omega)) _ | with_reducible refine bnext ?_ (by assumption) | with_reducible assumption))⟩
            case measure => simp [intOf]
          · go_wp2
            go_ret
            exact ⟨ret_bool (by simp; omega), (by repeat (first | with_reducible exact Below.refl _ _ | with_reducible refine Below.drew ?_ | with_reducible refine below_drewN ?_ _ | with_reducible refine bal ?_ _ | with_reducible refine bset ?_ (by first | (simp; done) | (simp; omega)) _ | with_reducible refine bnext ?_ (by assumption) | with_reducible assumption))⟩
        · go_wp2
          go_ret
          exact ⟨ret_bool (by simp; omega), (by repeat (first | with_reducible exact Below.refl _ _ | with_reducible refine Below.drew ?_ | with_reducible refine below_drewN ?_ _ | with_reducible refine bal ?_ _ | with_reducible refine bset ?_ (by first | (simp; done) | (simp; omega)) _ | with_reducible refine bnext ?_ (by assumption) | with_reducible assumption))⟩
      · obtain rfl : i = 2 := by omega
        go_wp2
        go_ret
        exact ⟨ret_bool (by have a := H1.out (by omega); have b := H2.out (by omega); simp; omega), (by repeat (first | with_reducible exact Below.refl _ _ | with_reducible refine Below.drew ?_ | with_reducible refine below_drewN ?_ _ | with_reducible refine bal ?_ _ | with_reducible refine bset ?_ (by first | (simp; done) | (simp; omega)) _ | with_reducible refine bnext ?_ (by assumption) | with_reducible assumption))⟩

theorem newcell1 (w : World) (o : Obj) (cs : Array Value) (t : TypeId) (i : Nat) : ((w.alloc o).alloc (.cells cs t)).cell? ⟨w.heap.size + 1, i, none⟩ = cs[i]? := by
  have := newcell (w.alloc o) cs t i
  rwa [World.size_alloc] at this
theorem newcell2 (w : World) (o o' : Obj) (cs : Array Value) (t : TypeId) (i : Nat) : (((w.alloc o).alloc o').alloc (.cells cs t)).cell? ⟨w.heap.size + 1 + 1, i, none⟩ = cs[i]? := by
  have := newcell ((w.alloc o).alloc o') cs t i
  rwa [World.size_alloc, World.size_alloc] at this

set_option maxHeartbeats 1000000 in
theorem CheckID_any (node seq io : Int) (w : World) :
    Calls Try.prog 39 #[.agg #[.int .i64 node, .int .u64 seq, .int .i64 io]] w (RetI .i64 (idE node seq io) w) := by
  by_cases h : (1 ≤ node ∧ node ≤ 16) ∧ (0 ≤ io ∧ io ≤ 19999)
  · have H := Lib.hid h
    have D : Hid (decide ((1 ≤ node ∧ node ≤ 16) ∧ (0 ≤ io ∧ io ≤ 19999)) = true) := by show decide _ = true; simpa using h
    clear h
    by_cases hs : seq ≤ 1099511627776
    · have R : Hid (idE node seq io = 0) := if_pos ⟨H.out.1.1, H.out.1.2, H.out.2.1, H.out.2.2, hs⟩
      go_enter Try.func39, Try.ntmps39
      go_wp2_with fail
      refine (within_two (w.heap.size + 1) node 1 16 io 0 19999 _ ?_ ?_ ?_ ?_ ?_ ?_ (by simp)).mono ?_
      all_goals first | (rw [newcell1]; rfl) | skip
      rintro e w1 ⟨rfl, hb1⟩
      rw [D.out]
      have hcf := (bcell hb1).1
      have hz := hb1.size
      simp at hz
      go_wp2
      go_ret
      exact ⟨ret_int R.out.symm, (by repeat (first | with_reducible exact Below.refl _ _ | with_reducible refine Below.drew ?_ | with_reducible refine below_drewN ?_ _ | with_reducible refine bal ?_ _ | with_reducible refine bset ?_ (by first | (simp; done) | (simp; omega)) _ | with_reducible refine bnext ?_ (by assumption) | with_reducible assumption))⟩
    · have R : Hid (idE node seq io = 2) := if_neg (fun h => hs h.2.2.2.2)
      go_enter Try.func39, Try.ntmps39
      go_wp2_with fail
      refine (within_two (w.heap.size + 1) node 1 16 io 0 19999 _ ?_ ?_ ?_ ?_ ?_ ?_ (by simp)).mono ?_
      all_goals first | (rw [newcell1]; rfl) | skip
      rintro e w1 ⟨rfl, hb1⟩
      rw [D.out]
      have hcf := (bcell hb1).1
      have hz := hb1.size
      simp at hz
      go_wp2
      go_ret
      exact ⟨ret_int R.out.symm, (by repeat (first | with_reducible exact Below.refl _ _ | with_reducible refine Below.drew ?_ | with_reducible refine below_drewN ?_ _ | with_reducible refine bal ?_ _ | with_reducible refine bset ?_ (by first | (simp; done) | (simp; omega)) _ | with_reducible refine bnext ?_ (by assumption) | with_reducible assumption))⟩
  · have D : Hid (decide ((1 ≤ node ∧ node ≤ 16) ∧ (0 ≤ io ∧ io ≤ 19999)) = false) := by show decide _ = false; simpa using h
    have R : Hid (idE node seq io = 2) := if_neg (fun e => h ⟨⟨e.1, e.2.1⟩, e.2.2.1, e.2.2.2.1⟩)
    clear h
    go_enter Try.func39, Try.ntmps39
    go_wp2_with fail
    refine (within_two (w.heap.size + 1) node 1 16 io 0 19999 _ ?_ ?_ ?_ ?_ ?_ ?_ (by simp)).mono ?_
    all_goals first | (rw [newcell1]; rfl) | skip
    rintro e w1 ⟨rfl, hb1⟩
    rw [D.out]
    go_wp2
    go_ret
    exact ⟨ret_int R.out.symm, (by repeat (first | with_reducible exact Below.refl _ _ | with_reducible refine Below.drew ?_ | with_reducible refine below_drewN ?_ _ | with_reducible refine bal ?_ _ | with_reducible refine bset ?_ (by first | (simp; done) | (simp; omega)) _ | with_reducible refine bnext ?_ (by assumption) | with_reducible assumption))⟩

set_option maxHeartbeats 1000000 in
theorem rCheckID_any (node seq io : Int) (w : World) :
    Calls Try.prog 46 #[.agg #[.int .i64 node, .int .u64 seq, .int .i64 io]] w (RetI .i64 (idE node seq io) w) := by
  by_cases a : 1 ≤ node
  · by_cases b : node ≤ 16
    · by_cases c : seq ≤ 1099511627776
      · by_cases d : 0 ≤ io
        · by_cases f : io ≤ 19999
          · have R : Hid (idE node seq io = 0) := if_pos ⟨a, b, d, f, c⟩
            go_enter Try.func46, Try.ntmps46
            go_wp2
            go_ret
            exact ⟨ret_int R.out.symm, (by repeat (first | with_reducible exact Below.refl _ _ | with_reducible refine Below.drew ?_ | with_reducible refine below_drewN ?_ _ | with_reducible refine bal ?_ _ | with_reducible refine bset ?_ (by first | (simp; done) | (simp; omega)) _ | with_reducible refine bnext ?_ (by assumption) | with_reducible assumption))⟩
          · have R : Hid (idE node seq io = 2) := if_neg (fun e => f e.2.2.2.1)
            have f' : 20000 ≤ io := by omega
            go_enter Try.func46, Try.ntmps46
            go_wp2
            go_ret
            exact ⟨ret_int R.out.symm, (by repeat (first | with_reducible exact Below.refl _ _ | with_reducible refine Below.drew ?_ | with_reducible refine below_drewN ?_ _ | with_reducible refine bal ?_ _ | with_reducible refine bset ?_ (by first | (simp; done) | (simp; omega)) _ | with_reducible refine bnext ?_ (by assumption) | with_reducible assumption))⟩
        · have R : Hid (idE node seq io = 2) := if_neg (fun e => d e.2.2.1)
          go_enter Try.func46, Try.ntmps46
          go_wp2
          go_ret
          exact ⟨ret_int R.out.symm, (by repeat (first | with_reducible exact Below.refl _ _ | with_reducible refine Below.drew ?_ | with_reducible refine below_drewN ?_ _ | with_reducible refine bal ?_ _ | with_reducible refine bset ?_ (by first | (simp; done) | (simp; omega)) _ | with_reducible refine bnext ?_ (by assumption) | with_reducible assumption))⟩
      · have R : Hid (idE node seq io = 2) := if_neg (fun e => c e.2.2.2.2)
        go_enter Try.func46, Try.ntmps46
        go_wp2
        go_ret
        exact ⟨ret_int R.out.symm, (by repeat (first | with_reducible exact Below.refl _ _ | with_reducible refine Below.drew ?_ | with_reducible refine below_drewN ?_ _ | with_reducible refine bal ?_ _ | with_reducible refine bset ?_ (by first | (simp; done) | (simp; omega)) _ | with_reducible refine bnext ?_ (by assumption) | with_reducible assumption))⟩
    · have R : Hid (idE node seq io = 2) := if_neg (fun e => b e.2.1)
      go_enter Try.func46, Try.ntmps46
      go_wp2
      go_ret
      exact ⟨ret_int R.out.symm, (by repeat (first | with_reducible exact Below.refl _ _ | with_reducible refine Below.drew ?_ | with_reducible refine below_drewN ?_ _ | with_reducible refine bal ?_ _ | with_reducible refine bset ?_ (by first | (simp; done) | (simp; omega)) _ | with_reducible refine bnext ?_ (by assumption) | with_reducible assumption))⟩
  · have R : Hid (idE node seq io = 2) := if_neg (fun e => a e.1)
    go_enter Try.func46, Try.ntmps46
    go_wp2
    go_ret
    exact ⟨ret_int R.out.symm, (by repeat (first | with_reducible exact Below.refl _ _ | with_reducible refine Below.drew ?_ | with_reducible refine below_drewN ?_ _ | with_reducible refine bal ?_ _ | with_reducible refine bset ?_ (by first | (simp; done) | (simp; omega)) _ | with_reducible refine bnext ?_ (by assumption) | with_reducible assumption))⟩

theorem run_eql_id (a b c d e f : Int) (w : World) : (binOp .eql 41 (.agg #[.int .i64 a, .int .u64 b, .int .i64 c]) (.agg #[.int .i64 d, .int .u64 e, .int .i64 f])).run Try.prog w = .ok (.bool (a == d && b == e && c == f)) w := by
  go_simp
  by_cases h1 : a = d <;> by_cases h2 : b = e <;> by_cases h3 : c = f <;> simp [h1, h2, h3]

set_option maxHeartbeats 1000000 in
theorem is_any (n s o : Int) (x : Sl) (w : World) :
    Calls Try.prog 52 #[.agg #[.int .i64 n, .int .u64 s, .int .i64 o], .agg #[.int .u64 x.off, .int .u64 x.size, .int .i64 x.node, .int .u64 x.seq, .int .i64 x.io]] w (RetB (x.has n s o) w) := by
  have he := run_eql_id
  go_enter Try.func52, Try.ntmps52
  go_wp2
  go_ret
  exact ⟨rfl, (by repeat (first | with_reducible exact Below.refl _ _ | with_reducible refine Below.drew ?_ | with_reducible refine below_drewN ?_ _ | with_reducible refine bal ?_ _ | with_reducible refine bset ?_ (by first | (simp; done) | (simp; omega)) _ | with_reducible refine bnext ?_ (by assumption) | with_reducible assumption))⟩
