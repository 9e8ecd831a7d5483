/- Frames: equality, what a kind uses, limits. Frames checked (the program). -/
import Derived.Test.YtfgkkflbpfocjaaZc18
import Derived.Test.YtfgkkflbpfocjaaZc19
import Derived.Deep.MidRow
import Derived.Great.BuildSlice
import Derived.Deep.WholeRow
namespace Go.Proofs.Ytfgkkflbpfocjaa
open Go.RowKit
set_option linter.unusedVariables false
set_option linter.unusedSimpArgs false

/-- equality of frames, field by field -/
def frEqB (x0 x1 x2 x3 x4 x5 x6 x7 x8 x9 x10 x11 x12 x13 x14 x15 x16 x17 : Int) (s : ByteArray) (y0 y1 y2 y3 y4 y5 y6 y7 y8 y9 y10 y11 y12 y13 y14 y15 y16 y17 : Int) (s' : ByteArray) : Bool := x0 == y0 && x1 == y1 && x2 == y2 && x3 == y3 && x4 == y4 && x5 == y5 && x6 == y6 && x7 == y7 && x8 == y8 && x9 == y9 && x10 == y10 && x11 == y11 && x12 == y12 && x13 == y13 && x14 == y14 && x15 == y15 && x16 == y16 && x17 == y17 && s.toList == s'.toList
theorem ba_ext {a b : ByteArray} (h : a.toList = b.toList) : a = b := by
  rw [ByteArray.toList_eq, ByteArray.toList_eq] at h
  cases a; cases b
  simp at h
  rw [h]
theorem frEqB_iff {x0 x1 x2 x3 x4 x5 x6 x7 x8 x9 x10 x11 x12 x13 x14 x15 x16 x17 : Int} {s : ByteArray} {y0 y1 y2 y3 y4 y5 y6 y7 y8 y9 y10 y11 y12 y13 y14 y15 y16 y17 : Int} {s' : ByteArray} : frEqB x0 x1 x2 x3 x4 x5 x6 x7 x8 x9 x10 x11 x12 x13 x14 x15 x16 x17 s y0 y1 y2 y3 y4 y5 y6 y7 y8 y9 y10 y11 y12 y13 y14 y15 y16 y17 s' = true ↔ (x0 = y0 ∧ x1 = y1 ∧ x2 = y2 ∧ x3 = y3 ∧ x4 = y4 ∧ x5 = y5 ∧ x6 = y6 ∧ x7 = y7 ∧ x8 = y8 ∧ x9 = y9 ∧ x10 = y10 ∧ x11 = y11 ∧ x12 = y12 ∧ x13 = y13 ∧ x14 = y14 ∧ x15 = y15 ∧ x16 = y16 ∧ x17 = y17 ∧ s = s') := by
  unfold frEqB
  simp only [Bool.and_eq_true, beq_iff_eq]
  constructor
  · rintro ⟨⟨⟨⟨⟨⟨⟨⟨⟨⟨⟨⟨⟨⟨⟨⟨⟨⟨h0, h1⟩, h2⟩, h3⟩, h4⟩, h5⟩, h6⟩, h7⟩, h8⟩, h9⟩, h10⟩, h11⟩, h12⟩, h13⟩, h14⟩, h15⟩, h16⟩, h17⟩, h18⟩
    exact ⟨h0, h1, h2, h3, h4, h5, h6, h7, h8, h9, h10, h11, h12, h13, h14, h15, h16, h17, ba_ext h18⟩
  · rintro ⟨h0, h1, h2, h3, h4, h5, h6, h7, h8, h9, h10, h11, h12, h13, h14, h15, h16, h17, h18⟩
    exact ⟨⟨⟨⟨⟨⟨⟨⟨⟨⟨⟨⟨⟨⟨⟨⟨⟨⟨h0, h1⟩, h2⟩, h3⟩, h4⟩, h5⟩, h6⟩, h7⟩, h8⟩, h9⟩, h10⟩, h11⟩, h12⟩, h13⟩, h14⟩, h15⟩, h16⟩, h17⟩, by rw [h18]⟩
set_option maxHeartbeats 2000000 in
theorem run_ne_fr (x0 x1 x2 x3 x4 x5 x6 x7 x8 x9 x10 x11 x12 x13 x14 x15 x16 x17 : Int) (s : ByteArray) (y0 y1 y2 y3 y4 y5 y6 y7 y8 y9 y10 y11 y12 y13 y14 y15 y16 y17 : Int) (s' : ByteArray) (w : World) :
    (binOp .neq 51 (.agg #[.int .i64 x0, .int .i64 x1, .int .i64 x2, .int .u64 x3, .int .u64 x4, .int .u64 x5, .int .u64 x6, .int .i64 x7, .int .u64 x8, .int .i64 x9, .int .i64 x10, .int .u64 x11, .int .i64 x12, .int .i64 x13, .int .i64 x14, .int .i64 x15, .int .i64 x16, .int .i64 x17, .string s]) (.agg #[.int .i64 y0, .int .i64 y1, .int .i64 y2, .int .u64 y3, .int .u64 y4, .int .u64 y5, .int .u64 y6, .int .i64 y7, .int .u64 y8, .int .i64 y9, .int .i64 y10, .int .u64 y11, .int .i64 y12, .int .i64 y13, .int .i64 y14, .int .i64 y15, .int .i64 y16, .int .i64 y17, .string s'])).run Try.prog w = .ok (.bool (!(frEqB x0 x1 x2 x3 x4 x5 x6 x7 x8 x9 x10 x11 x12 x13 x14 x15 x16 x17 s y0 y1 y2 y3 y4 y5 y6 y7 y8 y9 y10 y11 y12 y13 y14 y15 y16 y17 s'))) w := by
  unfold frEqB
  go_simp
  by_cases h0 : x0 = y0
  case neg => simp [h0]
  by_cases h1 : x1 = y1
  case neg => simp [h0, h1]
  by_cases h2 : x2 = y2
  case neg => simp [h0, h1, h2]
  by_cases h3 : x3 = y3
  case neg => simp [h0, h1, h2, h3]
  by_cases h4 : x4 = y4
  case neg => simp [h0, h1, h2, h3, h4]
  by_cases h5 : x5 = y5
  case neg => simp [h0, h1, h2, h3, h4, h5]
  by_cases h6 : x6 = y6
  case neg => simp [h0, h1, h2, h3, h4, h5, h6]
  by_cases h7 : x7 = y7
  case neg => simp [h0, h1, h2, h3, h4, h5, h6, h7]
  by_cases h8 : x8 = y8
  case neg => simp [h0, h1, h2, h3, h4, h5, h6, h7, h8]
  by_cases h9 : x9 = y9
  case neg => simp [h0, h1, h2, h3, h4, h5, h6, h7, h8, h9]
  by_cases h10 : x10 = y10
  case neg => simp [h0, h1, h2, h3, h4, h5, h6, h7, h8, h9, h10]
  by_cases h11 : x11 = y11
  case neg => simp [h0, h1, h2, h3, h4, h5, h6, h7, h8, h9, h10, h11]
  by_cases h12 : x12 = y12
  case neg => simp [h0, h1, h2, h3, h4, h5, h6, h7, h8, h9, h10, h11, h12]
  by_cases h13 : x13 = y13
  case neg => simp [h0, h1, h2, h3, h4, h5, h6, h7, h8, h9, h10, h11, h12, h13]
  by_cases h14 : x14 = y14
  case neg => simp [h0, h1, h2, h3, h4, h5, h6, h7, h8, h9, h10, h11, h12, h13, h14]
  by_cases h15 : x15 = y15
  case neg => simp [h0, h1, h2, h3, h4, h5, h6, h7, h8, h9, h10, h11, h12, h13, h14, h15]
  by_cases h16 : x16 = y16
  case neg => simp [h0, h1, h2, h3, h4, h5, h6, h7, h8, h9, h10, h11, h12, h13, h14, h15, h16]
  by_cases h17 : x17 = y17
  case neg => simp [h0, h1, h2, h3, h4, h5, h6, h7, h8, h9, h10, h11, h12, h13, h14, h15, h16, h17]
  by_cases h18 : s.toList = s'.toList
  · simp [h0, h1, h2, h3, h4, h5, h6, h7, h8, h9, h10, h11, h12, h13, h14, h15, h16, h17, h18]
  · simp [h0, h1, h2, h3, h4, h5, h6, h7, h8, h9, h10, h11, h12, h13, h14, h15, h16, h17, h18]
section
variable {w : World} {g : Nat} {t : TypeId} {c0 c1 c2 c3 c4 c5 c6 c7 c8 c9 c10 c11 c12 c13 c14 c15 c16 c17 c18 : Value}
theorem Blk.c19 (h : Blk w g t #[c0, c1, c2, c3, c4, c5, c6, c7, c8, c9, c10, c11, c12, c13, c14, c15, c16, c17, c18]) : w.cell? ⟨g, 0, none⟩ = some c0 ∧ w.cell? ⟨g, 1, none⟩ = some c1 ∧ w.cell? ⟨g, 2, none⟩ = some c2 ∧ w.cell? ⟨g, 3, none⟩ = some c3 ∧ w.cell? ⟨g, 4, none⟩ = some c4 ∧ w.cell? ⟨g, 5, none⟩ = some c5 ∧ w.cell? ⟨g, 6, none⟩ = some c6 ∧ w.cell? ⟨g, 7, none⟩ = some c7 ∧ w.cell? ⟨g, 8, none⟩ = some c8 ∧ w.cell? ⟨g, 9, none⟩ = some c9 ∧ w.cell? ⟨g, 10, none⟩ = some c10 ∧ w.cell? ⟨g, 11, none⟩ = some c11 ∧ w.cell? ⟨g, 12, none⟩ = some c12 ∧ w.cell? ⟨g, 13, none⟩ = some c13 ∧ w.cell? ⟨g, 14, none⟩ = some c14 ∧ w.cell? ⟨g, 15, none⟩ = some c15 ∧ w.cell? ⟨g, 16, none⟩ = some c16 ∧ w.cell? ⟨g, 17, none⟩ = some c17 ∧ w.cell? ⟨g, 18, none⟩ = some c18 := ⟨h.cell 0, h.cell 1, h.cell 2, h.cell 3, h.cell 4, h.cell 5, h.cell 6, h.cell 7, h.cell 8, h.cell 9, h.cell 10, h.cell 11, h.cell 12, h.cell 13, h.cell 14, h.cell 15, h.cell 16, h.cell 17, h.cell 18⟩
theorem Blk.f19 (h : Blk w g t #[c0, c1, c2, c3, c4, c5, c6, c7, c8, c9, c10, c11, c12, c13, c14, c15, c16, c17, c18]) : w.frozen? ⟨g, 0, none⟩ = false ∧ w.frozen? ⟨g, 1, none⟩ = false ∧ w.frozen? ⟨g, 2, none⟩ = false ∧ w.frozen? ⟨g, 3, none⟩ = false ∧ w.frozen? ⟨g, 4, none⟩ = false ∧ w.frozen? ⟨g, 5, none⟩ = false ∧ w.frozen? ⟨g, 6, none⟩ = false ∧ w.frozen? ⟨g, 7, none⟩ = false ∧ w.frozen? ⟨g, 8, none⟩ = false ∧ w.frozen? ⟨g, 9, none⟩ = false ∧ w.frozen? ⟨g, 10, none⟩ = false ∧ w.frozen? ⟨g, 11, none⟩ = false ∧ w.frozen? ⟨g, 12, none⟩ = false ∧ w.frozen? ⟨g, 13, none⟩ = false ∧ w.frozen? ⟨g, 14, none⟩ = false ∧ w.frozen? ⟨g, 15, none⟩ = false ∧ w.frozen? ⟨g, 16, none⟩ = false ∧ w.frozen? ⟨g, 17, none⟩ = false ∧ w.frozen? ⟨g, 18, none⟩ = false := ⟨h.frozen 0, h.frozen 1, h.frozen 2, h.frozen 3, h.frozen 4, h.frozen 5, h.frozen 6, h.frozen 7, h.frozen 8, h.frozen 9, h.frozen 10, h.frozen 11, h.frozen 12, h.frozen 13, h.frozen 14, h.frozen 15, h.frozen 16, h.frozen 17, h.frozen 18⟩
end
theorem zeroFr (w : World) : (zeroValue 51).run Try.prog w = .ok (.agg #[.int .i64 0, .int .i64 0, .int .i64 0, .int .u64 0, .int .u64 0, .int .u64 0, .int .u64 0, .int .i64 0, .int .u64 0, .int .i64 0, .int .i64 0, .int .u64 0, .int .i64 0, .int .i64 0, .int .i64 0, .int .i64 0, .int .i64 0, .int .i64 0, .string ⟨#[]⟩]) w := by kernel_rfl
/-- a frame's value -/
def Fr.val (f : Fr) : Value := .agg #[.int .i64 f.kind, .int .i64 f.frm, .int .i64 f.to, .int .u64 f.mine, .int .u64 f.yours, .int .u64 f.a, .int .u64 f.b, .int .i64 f.inode, .int .u64 f.iseq, .int .i64 f.ioff, .int .i64 f.bn.node, .int .u64 f.bn.seq, .int .i64 f.bn.off, .int .i64 f.bn.dest, .int .i64 f.bn.prio, .int .i64 f.bn.born, .int .i64 f.bn.life, .int .i64 f.bn.total, .string f.bn.data]
def uA (k : Int) : Bool := decide (2 ≤ k ∧ k ≤ 7)
def uB (k : Int) : Bool := decide (k = 3 ∨ k = 4 ∨ k = 6)
def uN (k : Int) : Bool := decide (k = 3)
def uI (k : Int) : Bool := decide (k = 5 ∨ k = 6)
def uOk (k : Int) : Bool := decide (1 ≤ k ∧ k ≤ 7)
def RetU (k : Int) (w : World) (e : Ending) (w' : World) : Prop := e = .returned (.tuple #[.agg #[.bool (uA k), .bool (uB k), .bool (uN k), .bool (uI k)], .bool (uOk k)]) ∧ Below w.heap.size w w'
set_option maxRecDepth 100000 in
set_option maxHeartbeats 4000000 in
theorem uses_any (k : Int) (w : World) : Calls Try.prog 88 #[.int .i64 k] w (RetU k w) := by
  have hlt : w.heap.size < w.heap.size + 1 := by omega
  by_cases k1 : k = 1
  case pos =>
    subst k1
    clear hlt
    go_enter Try.func88, Try.ntmps88
    go_wp2_with fail
    refine bodyPost_ret (v := .tuple #[.agg #[.bool false, .bool false, .bool false, .bool false], .bool true]) (by simp [results, Try.results88, go_sem, newcell]) rfl ?_
    exact ⟨rfl, (by repeat (first | with_reducible exact Below.refl _ _ | with_reducible refine Below.drew ?_ | with_reducible refine below_drewN ?_ _ | with_reducible refine bal ?_ _ | with_reducible refine bset ?_ (by first | (simp; done) | (simp; omega)) _ | with_reducible refine bnext ?_ (by assumption) | with_reducible assumption))⟩
  by_cases k3 : k = 3
  case pos =>
    subst k3
    clear hlt
    go_enter Try.func88, Try.ntmps88
    go_wp2_with fail
    refine bodyPost_ret (v := .tuple #[.agg #[.bool true, .bool true, .bool true, .bool false], .bool true]) (by simp [results, Try.results88, go_sem, newcell]) rfl ?_
    exact ⟨rfl, (by repeat (first | with_reducible exact Below.refl _ _ | with_reducible refine Below.drew ?_ | with_reducible refine below_drewN ?_ _ | with_reducible refine bal ?_ _ | with_reducible refine bset ?_ (by first | (simp; done) | (simp; omega)) _ | with_reducible refine bnext ?_ (by assumption) | with_reducible assumption))⟩
  by_cases k6 : k = 6
  case pos =>
    subst k6
    clear hlt
    go_enter Try.func88, Try.ntmps88
    go_wp2_with fail
    refine bodyPost_ret (v := .tuple #[.agg #[.bool true, .bool true, .bool false, .bool true], .bool true]) (by simp [results, Try.results88, go_sem, newcell]) rfl ?_
    exact ⟨rfl, (by repeat (first | with_reducible exact Below.refl _ _ | with_reducible refine Below.drew ?_ | with_reducible refine below_drewN ?_ _ | with_reducible refine bal ?_ _ | with_reducible refine bset ?_ (by first | (simp; done) | (simp; omega)) _ | with_reducible refine bnext ?_ (by assumption) | with_reducible assumption))⟩
  by_cases k5 : k = 5
  case pos =>
    subst k5
    clear hlt
    go_enter Try.func88, Try.ntmps88
    go_wp2_with fail
    refine bodyPost_ret (v := .tuple #[.agg #[.bool true, .bool false, .bool false, .bool true], .bool true]) (by simp [results, Try.results88, go_sem, newcell]) rfl ?_
    exact ⟨rfl, (by repeat (first | with_reducible exact Below.refl _ _ | with_reducible refine Below.drew ?_ | with_reducible refine below_drewN ?_ _ | with_reducible refine bal ?_ _ | with_reducible refine bset ?_ (by first | (simp; done) | (simp; omega)) _ | with_reducible refine bnext ?_ (by assumption) | with_reducible assumption))⟩
  by_cases k2 : k = 2
  case pos =>
    subst k2
    clear hlt
    go_enter Try.func88, Try.ntmps88
    go_wp2_with fail
    refine bodyPost_ret (v := .tuple #[.agg #[.bool true, .bool false, .bool false, .bool false], .bool true]) (by simp [results, Try.results88, go_sem, newcell]) rfl ?_
    exact ⟨rfl, (by repeat (first | with_reducible exact Below.refl _ _ | with_reducible refine Below.drew ?_ | with_reducible refine below_drewN ?_ _ | with_reducible refine bal ?_ _ | with_reducible refine bset ?_ (by first | (simp; done) | (simp; omega)) _ | with_reducible refine bnext ?_ (by assumption) | with_reducible assumption))⟩
  by_cases k7 : k = 7
  case pos =>
    subst k7
    clear hlt
    go_enter Try.func88, Try.ntmps88
    go_wp2_with fail
    refine bodyPost_ret (v := .tuple #[.agg #[.bool true, .bool false, .bool false, .bool false], .bool true]) (by simp [results, Try.results88, go_sem, newcell]) rfl ?_
    exact ⟨rfl, (by repeat (first | with_reducible exact Below.refl _ _ | with_reducible refine Below.drew ?_ | with_reducible refine below_drewN ?_ _ | with_reducible refine bal ?_ _ | with_reducible refine bset ?_ (by first | (simp; done) | (simp; omega)) _ | with_reducible refine bnext ?_ (by assumption) | with_reducible assumption))⟩
  by_cases k4 : k = 4
  case pos =>
    subst k4
    clear hlt
    go_enter Try.func88, Try.ntmps88
    go_wp2_with fail
    refine bodyPost_ret (v := .tuple #[.agg #[.bool true, .bool true, .bool false, .bool false], .bool true]) (by simp [results, Try.results88, go_sem, newcell]) rfl ?_
    exact ⟨rfl, (by repeat (first | with_reducible exact Below.refl _ _ | with_reducible refine Below.drew ?_ | with_reducible refine below_drewN ?_ _ | with_reducible refine bal ?_ _ | with_reducible refine bset ?_ (by first | (simp; done) | (simp; omega)) _ | with_reducible refine bnext ?_ (by assumption) | with_reducible assumption))⟩
  
  have e1 : uA k = false := decide_eq_false (by omega)
  have e2 : uB k = false := decide_eq_false (by omega)
  have e3 : uN k = false := decide_eq_false (by omega)
  have e4 : uI k = false := decide_eq_false (by omega)
  have e5 : uOk k = false := decide_eq_false (by omega)
  have E : Hid (∀ w e w', (e = .returned (.tuple #[.agg #[.bool false, .bool false, .bool false, .bool false], .bool false]) ∧ Below w.heap.size w w') → RetU k w e w') := Lib.hid (fun w e w' h => by unfold RetU; rw [e1, e2, e3, e4, e5]; exact h)
  clear e1 e2 e3 e4 e5 hlt
  have b1 : (k == 1) = false := beq_eq_false_iff_ne.2 k1
  have b3 : (k == 3) = false := beq_eq_false_iff_ne.2 k3
  have b6 : (k == 6) = false := beq_eq_false_iff_ne.2 k6
  have b5 : (k == 5) = false := beq_eq_false_iff_ne.2 k5
  have b2 : (k == 2) = false := beq_eq_false_iff_ne.2 k2
  have b7 : (k == 7) = false := beq_eq_false_iff_ne.2 k7
  have b4 : (k == 4) = false := beq_eq_false_iff_ne.2 k4
  clear k1 k3 k6 k5 k2 k7 k4
  go_enter Try.func88, Try.ntmps88
  go_wp2_with fail
  refine bodyPost_ret (v := .tuple #[.agg #[.bool false, .bool false, .bool false, .bool false], .bool false]) (by simp [results, Try.results88, go_sem, newcell]) rfl (E.out _ _ _ ?_)
  exact ⟨rfl, (by repeat (first | with_reducible exact Below.refl _ _ | with_reducible refine Below.drew ?_ | with_reducible refine below_drewN ?_ _ | with_reducible refine bal ?_ _ | with_reducible refine bset ?_ (by first | (simp; done) | (simp; omega)) _ | with_reducible refine bnext ?_ (by assumption) | with_reducible assumption))⟩

def loF (k : Int) : Int := if k = 6 then 1 else 0
def hiF (k a : Int) : Int := if k = 3 then a else if k = 6 then 3 else 1125899906842624
set_option maxRecDepth 100000 in
set_option maxHeartbeats 4000000 in
theorem limits_any (kind frm tto mine yours a b inode iseq ioff node seq off dest prio born life total : Int) (data : ByteArray) (w : World) : Calls Try.prog 89 #[.agg #[.int .i64 kind, .int .i64 frm, .int .i64 tto, .int .u64 mine, .int .u64 yours, .int .u64 a, .int .u64 b, .int .i64 inode, .int .u64 iseq, .int .i64 ioff, .int .i64 node, .int .u64 seq, .int .i64 off, .int .i64 dest, .int .i64 prio, .int .i64 born, .int .i64 life, .int .i64 total, .string data]] w (Ret2 .u64 .u64 (loF kind) (hiF kind a) w) := by
  by_cases k3 : kind = 3
  · have R : Hid (loF kind = 0 ∧ hiF kind a = a) := Lib.hid (by unfold loF hiF; rw [if_neg (by omega), if_pos k3]; exact ⟨rfl, rfl⟩)
    have kb : (kind == 3) = true := by simp [k3]
    rw [R.out.1, R.out.2]
    clear k3
    go_enter Try.func89, Try.ntmps89
    go_upto_region 3 with fail
    go_quiet (fail)
    go_wp2_with fail
    go_ret2
    exact ⟨rfl, (by repeat (first | with_reducible exact Below.refl _ _ | with_reducible refine Below.drew ?_ | with_reducible refine below_drewN ?_ _ | with_reducible refine bal ?_ _ | with_reducible refine bset ?_ (by first | (simp; done) | (simp; omega)) _ | with_reducible refine bnext ?_ (by assumption) | with_reducible assumption))⟩
  · have kb : (kind == 3) = false := beq_eq_false_iff_ne.2 k3
    by_cases k6 : kind = 6
    · have R : Hid (loF kind = 1 ∧ hiF kind a = 3) := Lib.hid (by unfold loF hiF; rw [if_pos k6, if_neg k3, if_pos k6]; exact ⟨rfl, rfl⟩)
      have kc : (kind == 6) = true := by simp [k6]
      rw [R.out.1, R.out.2]
      clear k3 k6
      go_enter Try.func89, Try.ntmps89
      go_wp2_with fail
      go_ret2
      exact ⟨rfl, (by repeat (first | with_reducible exact Below.refl _ _ | with_reducible refine Below.drew ?_ | with_reducible refine below_drewN ?_ _ | with_reducible refine bal ?_ _ | with_reducible refine bset ?_ (by first | (simp; done) | (simp; omega)) _ | with_reducible refine bnext ?_ (by assumption) | with_reducible assumption))⟩
    · have R : Hid (loF kind = 0 ∧ hiF kind a = 1125899906842624) := Lib.hid (by unfold loF hiF; rw [if_neg k6, if_neg k3, if_neg k6]; exact ⟨rfl, rfl⟩)
      have kc : (kind == 6) = false := beq_eq_false_iff_ne.2 k6
      rw [R.out.1, R.out.2]
      clear k3 k6
      go_enter Try.func89, Try.ntmps89
      go_wp2_with fail
      go_ret2
      exact ⟨rfl, (by repeat (first | with_reducible exact Below.refl _ _ | with_reducible refine Below.drew ?_ | with_reducible refine below_drewN ?_ _ | with_reducible refine bal ?_ _ | with_reducible refine bset ?_ (by first | (simp; done) | (simp; omega)) _ | with_reducible refine bnext ?_ (by assumption) | with_reducible assumption))⟩
end Go.Proofs.Ytfgkkflbpfocjaa

namespace Go.Proofs.Ytfgkkflbpfocjaa
open Go.RowKit
set_option linter.unusedVariables false
set_option linter.unusedSimpArgs false

/-- a whole value into the block that was made last -/
theorem wpList_store_new {P : Program} {ops : Array Oper} {rest : List Oper} {op : Oper} {a : Act} {w : World} {Q : Exit → Act → World → Prop} (hgd : op.guard = none) (ty : TypeId) (x y : Operand) (ho : op.op = .store ty x y)
    (w0 : World) (c c' : Array Value) (hw : w = w0.alloc (.cells c ty)) (hx : a.eval x = .pointer (some ⟨w0.heap.size, 0, none⟩)) (hy : a.eval y = .agg c')
    (hi : (P.info? ty).map (·.size) = some c'.size) (hcc : c.size = c'.size) (h1 : c'.all (·.oneCell') = true)
    (h : wpList P ops Q rest (a.put op.dst undef) (w0.alloc (.cells c' ty))) : wpList P ops Q (op :: rest) a w := by
  subst hw
  refine wpList_plain hgd fun K hK => ?_
  unfold Oper.wp execOp
  simp only [ho, hx, hy, Instr.storeAt, Instr.sureAddr, Sem.run_bind, Sem.run_pure, Result.andThen_ok, run_storeVar_new w0 ty c c' hi hcc h1]
  exact hK _ _ h
/-- a new variable -/
theorem wpList_alloc_z {P : Program} {ops : Array Oper} {rest : List Oper} {op : Oper} {a : Act} {w : World} {Q : Exit → Act → World → Prop} (hgd : op.guard = none) (ty : TypeId) (ho : op.op = .alloc ty)
    (d : Option Tmp) (hd : op.dst = d) (z : Array Value) (hz : ∀ w, (zeroValue ty).run P w = .ok (.agg z) w)
    (h : wpList P ops Q rest (a.put d (.pointer (some ⟨w.heap.size, 0, none⟩))) (w.alloc (.cells z ty))) : wpList P ops Q (op :: rest) a w := by
  subst hd
  refine wpList_plain hgd fun K hK => ?_
  have hr : (Instr.alloc ty true (.tuple #[])).run P w = .ok (.pointer (some ⟨w.heap.size, 0, none⟩)) (w.alloc (.cells z ty)) := by
    simp [Instr.alloc, Sem.run_bind, hz, newVar, newRow, newObj, Value.cells, Result.andThen]
    rfl
  unfold Oper.wp execOp
  simp only [ho, Sem.run_bind, Sem.run_pure, Result.andThen_ok, hr]
  exact hK _ _ h
theorem Blk.range {w : World} {g : Nat} {t : TypeId} {cs : Array Value} (h : Blk w g t cs) (o : Nat) (L : List Value) (hL : ∀ j v, L[j]? = some v → cs[o + j]? = some v) : w.rangeAt g o L := fun j v hj => (h.cell (o + j)).trans (hL j v hj)
theorem Blk.there {w : World} {g : Nat} {t : TypeId} {cs : Array Value} (h : Blk w g t cs) (o n : Nat) (hn : o + n ≤ cs.size) : w.there g o n := fun j hj => ⟨by rw [h.cell, Array.getElem?_eq_getElem (by omega)]; rfl, h.frozen _⟩
/-- three blocks that are known whole -/
structure BK3 (w : World) (g : Nat) (t : TypeId) (cs : Array Value) (g' : Nat) (t' : TypeId) (cs' : Array Value) (g'' : Nat) (t'' : TypeId) (cs'' : Array Value) (wx : World) : Prop where
  b : Blk wx g t cs
  c : Blk wx g' t' cs'
  d : Blk wx g'' t'' cs''
  hB : Below w.heap.size w wx
section
variable {w wx wy : World} {g g' g'' : Nat} {t t' t'' : TypeId} {cs cs' cs'' : Array Value}
theorem BK3.below (h : BK3 w g t cs g' t' cs' g'' t'' cs'' wx) (hb : Below wx.heap.size wx wy) : BK3 w g t cs g' t' cs' g'' t'' cs'' wy := ⟨h.b.below hb, h.c.below hb, h.d.below hb, bnext h.hB hb⟩
theorem BK3.drew (h : BK3 w g t cs g' t' cs' g'' t'' cs'' wx) : BK3 w g t cs g' t' cs' g'' t'' cs'' wx.drew := h.below (Below.refl _ _).drew
end
/-- a frame's numbers are machine numbers -/
structure WfF (f : Fr) : Prop where
  mine : 0 ≤ f.mine ∧ f.mine ≤ 18446744073709551615
  yours : 0 ≤ f.yours ∧ f.yours ≤ 18446744073709551615
  a : 0 ≤ f.a ∧ f.a ≤ 18446744073709551615
  b : 0 ≤ f.b ∧ f.b ≤ 18446744073709551615
def Fr.bareG (f : Fr) : Prop := (uA f.kind = false → f.a = 0) ∧ (uB f.kind = false → f.b = 0) ∧ (uI f.kind = false → f.inode = 0 ∧ f.iseq = 0 ∧ f.ioff = 0) ∧ (uN f.kind = false → f.bn = zBn)
instance (f : Fr) : Decidable f.bareG := by unfold Fr.bareG; exact inferInstance
theorem bareG_iff {f : Fr} (h : 1 ≤ f.kind ∧ f.kind ≤ 7) : f.bareG ↔ f.bare := by
  unfold Fr.bareG Fr.bare uA uB uN uI
  simp only [decide_eq_false_iff_not]
  constructor
  · rintro ⟨h1, h2, h3, h4⟩
    exact ⟨fun e => h1 (by omega), fun e => h2 (by omega), fun e => h3 (by omega), fun e => h4 (by omega)⟩
  · rintro ⟨h1, h2, h3, h4⟩
    exact ⟨fun e => h1 (by omega), fun e => h2 (by omega), fun e => h3 (by omega), fun e => h4 (by omega)⟩
theorem frE_gen (f : Fr) (hw : WfF f) : frE f = if uOk f.kind = false then 7 else if f.out then 2 else if (uA f.kind = true ∧ 1125899906842624 < f.a) ∨ (uB f.kind = true ∧ (f.b < loF f.kind ∨ hiF f.kind f.a < f.b)) then 2 else if uN f.kind = true ∧ Bu.bE f.bn ≠ 0 then Bu.bE f.bn else if uI f.kind = true ∧ Bu.idE f.inode f.iseq f.ioff ≠ 0 then Bu.idE f.inode f.iseq f.ioff else if f.bareG then 0 else 3 := by
  have hb := hw.b.1
  unfold frE
  by_cases hk : 1 ≤ f.kind ∧ f.kind ≤ 7
  case neg =>
    have e0 : uOk f.kind = false := decide_eq_false hk
    rw [if_pos (by omega), if_pos e0]
  have e0 : ¬ uOk f.kind = false := by rw [show uOk f.kind = true from decide_eq_true hk]; decide
  rw [if_neg (show ¬ (f.kind < 1 ∨ 7 < f.kind) by omega), if_neg e0]
  by_cases ho : f.out
  case pos => rw [if_pos ho, if_pos ho]
  rw [if_neg ho, if_neg ho]
  have h1 : (f.aBig ∨ f.bBad) ↔ ((uA f.kind = true ∧ 1125899906842624 < f.a) ∨ (uB f.kind = true ∧ (f.b < loF f.kind ∨ hiF f.kind f.a < f.b))) := by
    unfold Fr.aBig Fr.bBad uA uB loF hiF
    simp only [decide_eq_true_eq]
    by_cases k3 : f.kind = 3
    · rw [if_neg (by omega), if_pos k3]; omega
    · by_cases k6 : f.kind = 6
      · rw [if_pos k6, if_neg k3, if_pos k6]; omega
      · rw [if_neg k6, if_neg k3, if_neg k6]; omega
  by_cases h2 : f.aBig ∨ f.bBad
  case pos => rw [if_pos h2, if_pos (h1.1 h2)]
  rw [if_neg h2, if_neg (fun h => h2 (h1.2 h))]
  have hbg := bareG_iff hk
  have fin : (if ¬ f.bare then (3 : Int) else 0) = if f.bareG then 0 else 3 := by
    by_cases d : f.bare
    · rw [if_neg (fun h => h d), if_pos (hbg.2 d)]
    · rw [if_pos d, if_neg (fun h => d (hbg.1 h))]
  rw [fin]
  by_cases n3 : f.kind = 3
  · have e1 : uN f.kind = true := decide_eq_true n3
    have e2 : ¬ (uI f.kind = true ∧ Bu.idE f.inode f.iseq f.ioff ≠ 0) := fun h => by have := of_decide_eq_true h.1; omega
    have h3 : f.inE = Bu.bE f.bn := if_pos n3
    rw [h3, if_neg e2]
    by_cases c : Bu.bE f.bn ≠ 0
    · rw [if_pos c, if_pos ⟨e1, c⟩]
    · rw [if_neg c, if_neg (show ¬ (uN f.kind = true ∧ Bu.bE f.bn ≠ 0) from fun h => c h.2)]
  · have e1 : ¬ (uN f.kind = true ∧ Bu.bE f.bn ≠ 0) := fun h => n3 (of_decide_eq_true h.1)
    rw [if_neg e1]
    by_cases n5 : f.kind = 5 ∨ f.kind = 6
    · have e2 : uI f.kind = true := decide_eq_true n5
      have h3 : f.inE = Bu.idE f.inode f.iseq f.ioff := (if_neg n3).trans (if_pos n5)
      rw [h3]
      by_cases c : Bu.idE f.inode f.iseq f.ioff ≠ 0
      · rw [if_pos c, if_pos ⟨e2, c⟩]
      · rw [if_neg c, if_neg (show ¬ (uI f.kind = true ∧ Bu.idE f.inode f.iseq f.ioff ≠ 0) from fun h => c h.2)]
    · have e2 : ¬ (uI f.kind = true ∧ Bu.idE f.inode f.iseq f.ioff ≠ 0) := fun h => n5 (of_decide_eq_true h.1)
      have h3 : f.inE = 0 := (if_neg n3).trans (if_neg n5)
      rw [h3, if_neg (fun h => h rfl), if_neg e2]
end Go.Proofs.Ytfgkkflbpfocjaa

