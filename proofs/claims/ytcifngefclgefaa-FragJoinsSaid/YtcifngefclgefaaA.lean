/- Contracts: limits, IDs, bundles. -/
import Derived.Test.YtcifngefclgefaaFlat
import Derived.Test.YtcifngefclgefaaPlain
import Derived.Test.YtcifngefclgefaaBlk
import Derived.Laws.StructEq
namespace Go.Proofs.Ytcifngefclgefaa
open Go.RowKit
set_option linter.unusedVariables false
set_option linter.unusedSimpArgs false

def RetI (a : Int) (w : World) (e : Ending) (w' : World) : Prop := e = .returned (.int .i64 a) ∧ Below w.heap.size w w'
def RetB (a : Bool) (w : World) (e : Ending) (w' : World) : Prop := e = .returned (.bool a) ∧ Below w.heap.size w w'
def Lm.cells (x : Lm) : List Value := [.int .i64 x.n, .int .i64 x.l, .int .i64 x.g]
theorem lm3 (x : Lm) : x.cells.length = 3 := rfl
def Bn.cells (x : Bn) : List Value := [.int .i64 x.node, .int .u64 x.seq, .int .i64 x.off, .int .i64 x.dest, .int .i64 x.prio, .int .i64 x.born, .int .i64 x.life, .int .i64 x.total, .string x.data]
theorem bn9 (x : Bn) : x.cells.length = 9 := rfl
def Bn.val (x : Bn) : Value := .agg x.cells.toArray
theorem Bn.val_eq (x : Bn) : x.val = .agg #[.int .i64 x.node, .int .u64 x.seq, .int .i64 x.off, .int .i64 x.dest, .int .i64 x.prio, .int .i64 x.born, .int .i64 x.life, .int .i64 x.total, .string x.data] := rfl

set_option maxRecDepth 100000 in
set_option maxHeartbeats 2000000 in
theorem within_any (L : List Lm) (v : Value) (w : World) (hS : SlAt w 3 v L.length (fl Lm.cells L)) :
    Calls Try.prog 44 #[v] w (RetB (!L.any Lm.bad) w) := by
  obtain ⟨A, c, rfl, _, hc2, hR⟩ := hS
  unfold maxLen at hc2
  have HR := Lib.hid hR
  clear hR
  go_enter Try.func44, Try.ntmps44
  go_wp2_with fail
  go_loopw [7] (fun a wr => ∃ k : Nat, k ≤ L.length ∧ a = .int .i64 k ∧ LmMid L k ∧ Below w.heap.size w wr) (fun a _ => L.length - (intOf a).toNat)
  case atStart => exact ⟨0, by omega, rfl, rfl, Below.refl _ _⟩
  case round =>
    obtain ⟨k, hk, rfl, hM, hB⟩ := hrel
    have HM := Lib.hid hM
    clear hM
    by_cases hlt : k < L.length
    · obtain ⟨x, hx⟩ : ∃ x, L[k]? = some x := ⟨_, List.getElem?_eq_getElem hlt⟩
      obtain ⟨b, o, rfl, hb, d0', d1', d2'⟩ := reads_fl3 lm3 HR.out rfl hx rfl
      have d0 := (hB.cell (p := ⟨b, o + k * 3, none⟩) hb).trans d0'
      have d1 := (hB.cell (p := ⟨b, o + k * 3 + 1, none⟩) hb).trans d1'
      have d2 := (hB.cell (p := ⟨b, o + k * 3 + 2, none⟩) hb).trans d2'
      have hi : (k : Int) < L.length := by omega
      have HX := Lib.hid hx
      clear hx d0' d1' d2'
      by_cases c1 : x.n < x.l
      · have F : Hid (L.any Lm.bad = true) := Lib.hid (HM.out.hit HX.out (by simp [Lm.bad, c1]))
        go_wp2_with fail
        go_ret
        exact ⟨by rw [F.out]; rfl, (by repeat (first | with_reducible exact Below.refl _ _ | with_reducible refine Below.drew ?_ | with_reducible refine below_drewN ?_ _ | with_reducible refine bal ?_ _ | with_reducible refine bset ?_ (by first | (simp; done) | (simp; omega)) _ | with_reducible refine bnext ?_ (by assumption) | with_reducible assumption))⟩
      · by_cases c2 : x.n > x.g
        · have F : Hid (L.any Lm.bad = true) := Lib.hid (HM.out.hit HX.out (by simp [Lm.bad]; omega))
          go_wp2_with fail
          go_ret
          exact ⟨by rw [F.out]; rfl, (by repeat (first | with_reducible exact Below.refl _ _ | with_reducible refine Below.drew ?_ | with_reducible refine below_drewN ?_ _ | with_reducible refine bal ?_ _ | with_reducible refine bset ?_ (by first | (simp; done) | (simp; omega)) _ | with_reducible refine bnext ?_ (by assumption) | with_reducible assumption))⟩
        · have N1 := Lib.hid (HM.out.next HX.out (by simp [Lm.bad]; omega))
          go_wp2_with fail
          go_roundw
          case rel => exact ⟨k + 1, by omega, by go_num, N1.out, (by repeat (first | with_reducible exact Below.refl _ _ | with_reducible refine Below.drew ?_ | with_reducible refine below_drewN ?_ _ | with_reducible refine bal ?_ _ | with_reducible refine bset ?_ (by first | (simp; done) | (simp; omega)) _ | with_reducible refine bnext ?_ (by assumption) | with_reducible assumption))⟩
          case measure => simp [intOf]; omega
    · obtain rfl : k = L.length := by omega
      have F : Hid (L.any Lm.bad = false) := Lib.hid (HM.out.done (Nat.le_refl _))
      go_wp2_with fail
      go_ret
      exact ⟨by rw [F.out]; rfl, (by repeat (first | with_reducible exact Below.refl _ _ | with_reducible refine Below.drew ?_ | with_reducible refine below_drewN ?_ _ | with_reducible refine bal ?_ _ | with_reducible refine bset ?_ (by first | (simp; done) | (simp; omega)) _ | with_reducible refine bnext ?_ (by assumption) | with_reducible assumption))⟩
theorem lm_lit {w : World} {g : Nat} {t : TypeId} {L : List Lm} (h : Blk w g t (fl Lm.cells L).toArray) (n : Nat) (hn : n = L.length) (hm : n ≤ 1000) : SlAt w 3 (.slice (some ⟨g, 0, none⟩) n n) L.length (fl Lm.cells L) := by
  subst hn
  refine ⟨_, _, rfl, Nat.le_refl _, by unfold maxLen; omega, by rw [fl_len lm3], fun _ => ⟨g, 0, rfl, h.lt, fun j u hj => ?_⟩⟩
  rw [Nat.zero_add, h.cell, List.getElem?_toArray, hj]

set_option maxRecDepth 100000 in
set_option maxHeartbeats 2000000 in
theorem CheckID_any (node seq io : Int) (w : World) :
    Calls Try.prog 43 #[.agg #[.int .i64 node, .int .u64 seq, .int .i64 io]] w (RetI (idE node seq io) w) := by
  by_cases h : (1 ≤ node ∧ node ≤ 16) ∧ (0 ≤ io ∧ io ≤ 19999)
  · have D : Hid ((!([⟨node, 1, 16⟩, ⟨io, 0, 19999⟩] : List Lm).any Lm.bad) = true) := Lib.hid (by simp [Lm.bad]; omega)
    by_cases hs : seq ≤ 1099511627776
    · have R : Hid (idE node seq io = 0) := Lib.hid (if_pos ⟨h.1.1, h.1.2, h.2.1, h.2.2, hs⟩)
      clear h
      go_enter Try.func43, Try.ntmps43
      go_wp2_with fail
      refine (within_any [⟨node, 1, 16⟩, ⟨io, 0, 19999⟩] _ _ (lm_lit (t := 80) (Blk.new1 _ _ _ _) 2 rfl (by decide))).mono ?_
      rintro e w1 ⟨rfl, hb1⟩
      rw [D.out]
      have k0 := ((Blk.new w 24 #[.int .i64 node, .int .u64 seq, .int .i64 io]).alloc (.cells #[.int .i64 node, .int .i64 1, .int .i64 16, .int .i64 io, .int .i64 0, .int .i64 19999] 80)).below hb1
      obtain ⟨x0, x1, x2⟩ := k0.c3
      have hB := bnext (bal (bal (Below.refl w.heap.size w) (.cells #[.int .i64 node, .int .u64 seq, .int .i64 io] 24)) (.cells #[.int .i64 node, .int .i64 1, .int .i64 16, .int .i64 io, .int .i64 0, .int .i64 19999] 80)) hb1
      clear hb1 k0
      go_wp2_with fail
      go_ret
      exact ⟨ret_int R.out.symm, hB⟩
    · have R : Hid (idE node seq io = 2) := Lib.hid (if_neg (fun h => hs h.2.2.2.2))
      clear h
      go_enter Try.func43, Try.ntmps43
      go_wp2_with fail
      refine (within_any [⟨node, 1, 16⟩, ⟨io, 0, 19999⟩] _ _ (lm_lit (t := 80) (Blk.new1 _ _ _ _) 2 rfl (by decide))).mono ?_
      rintro e w1 ⟨rfl, hb1⟩
      rw [D.out]
      have k0 := ((Blk.new w 24 #[.int .i64 node, .int .u64 seq, .int .i64 io]).alloc (.cells #[.int .i64 node, .int .i64 1, .int .i64 16, .int .i64 io, .int .i64 0, .int .i64 19999] 80)).below hb1
      obtain ⟨x0, x1, x2⟩ := k0.c3
      have hB := bnext (bal (bal (Below.refl w.heap.size w) (.cells #[.int .i64 node, .int .u64 seq, .int .i64 io] 24)) (.cells #[.int .i64 node, .int .i64 1, .int .i64 16, .int .i64 io, .int .i64 0, .int .i64 19999] 80)) hb1
      clear hb1 k0
      go_wp2_with fail
      go_ret
      exact ⟨ret_int R.out.symm, hB⟩
  · have D : Hid ((!([⟨node, 1, 16⟩, ⟨io, 0, 19999⟩] : List Lm).any Lm.bad) = false) := Lib.hid (by simp [Lm.bad]; omega)
    have R : Hid (idE node seq io = 2) := Lib.hid (if_neg (fun e => h ⟨⟨e.1, e.2.1⟩, e.2.2.1, e.2.2.2.1⟩))
    clear h
    go_enter Try.func43, Try.ntmps43
    go_wp2_with fail
    refine (within_any [⟨node, 1, 16⟩, ⟨io, 0, 19999⟩] _ _ (lm_lit (t := 80) (Blk.new1 _ _ _ _) 2 rfl (by decide))).mono ?_
    rintro e w1 ⟨rfl, hb1⟩
    rw [D.out]
    have hB := bnext (bal (bal (Below.refl w.heap.size w) (.cells #[.int .i64 node, .int .u64 seq, .int .i64 io] 24)) (.cells #[.int .i64 node, .int .i64 1, .int .i64 16, .int .i64 io, .int .i64 0, .int .i64 19999] 80)) hb1
    clear hb1
    go_wp2_with fail
    go_ret
    exact ⟨ret_int R.out.symm, hB⟩
end Go.Proofs.Ytcifngefclgefaa
