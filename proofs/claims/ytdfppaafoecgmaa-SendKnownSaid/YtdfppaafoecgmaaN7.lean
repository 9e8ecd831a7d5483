/- What settling makes of a ledger, by the slot that is found. -/
import Derived.Test.YtdfppaafoecgmaaN5
import Derived.Test.YtdfppaafoecgmaaN6
namespace Go.Proofs.Ytdfppaafoecgmaa
open Go.RowKit
set_option linter.unusedVariables false
set_option linter.unusedSimpArgs false

def zLed : Led := ⟨0, 0, 0, []⟩
/-- the slots that are for other bundles -/
def fil (node seq io : Int) (l : List Sl) : List Sl := l.filter fun x => !x.has node seq io
def SetPost (res : Led × Int) (w : World) (e : Ending) (w' : World) : Prop :=
  ∃ v', e = .returned (.tuple #[.agg #[.int .u64 res.1.g, .int .u64 res.1.n, .int .u64 res.1.r, v'], .int .i64 res.2]) ∧ OwnL w w' v' res.1.sl ∧ Below w.heap.size w w'
theorem fil_none {node seq io : Int} {l : List Sl} (h : ∀ x ∈ l, x.has node seq io = false) : fil node seq io l = l := by
  unfold fil
  rw [List.filter_eq_self]
  intro x hx
  rw [h x hx]
  rfl
theorem fil_snoc (node seq io : Int) (l : List Sl) (x : Sl) : fil node seq io (l ++ [x]) = if x.has node seq io = true then fil node seq io l else fil node seq io l ++ [x] := by
  unfold fil
  rw [List.filter_append]
  by_cases h : x.has node seq io = true
  · simp [h]
  · simp [h]
theorem fil_take (node seq io : Int) (l : List Sl) {k : Nat} {x : Sl} (hx : l[k]? = some x) : fil node seq io (l.take (k + 1)) = if x.has node seq io = true then fil node seq io (l.take k) else fil node seq io (l.take k) ++ [x] := by
  obtain ⟨hk, rfl⟩ := List.getElem?_eq_some_iff.1 hx
  rw [List.take_succ_eq_append_getElem hk, fil_snoc]
theorem fil_len (node seq io : Int) (l : List Sl) (k : Nat) : (fil node seq io (l.take k)).length ≤ k := by
  unfold fil
  refine Nat.le_trans (List.length_filter_le _ _) ?_
  rw [List.length_take]
  exact Nat.min_le_left _ _
theorem has_same {x y : Sl} {node seq io : Int} (hx : x.has node seq io = true) (hy : y.has node seq io = true) : y.has x.node x.seq x.io = true := by
  unfold Sl.has at *
  simp only [Bool.and_eq_true, beq_iff_eq] at *
  omega
/-- behind a slot there is no other one for its bundle -/
theorem good_once {nxt : Int} {node seq io : Int} : ∀ {l done : List Sl} {e : Int}, Good nxt done e l → (∀ x ∈ l, x.has node seq io = true → anyHas node seq io done = false) ∧ (anyHas node seq io done = true → ∀ x ∈ l, x.has node seq io = false)
  | [], _, _, _ => ⟨by simp, by simp⟩
  | y :: r, done, e, h => by
    obtain ⟨h1, h2⟩ := h
    have hn := (slotE_zero.1 h1).2.2.2.2.2
    obtain ⟨a, b⟩ := good_once (node := node) (seq := seq) (io := io) h2
    have hy : y.has node seq io = true → anyHas node seq io done = false := by
      intro hy
      have e1 : y.node = node ∧ y.seq = seq ∧ y.io = io := by
        unfold Sl.has at hy
        simp only [Bool.and_eq_true, beq_iff_eq] at hy
        exact ⟨hy.1.1, hy.1.2, hy.2⟩
      rw [← e1.1, ← e1.2.1, ← e1.2.2]
      exact hn
    refine ⟨fun x hx hh => ?_, fun hd x hx => ?_⟩
    · rcases List.mem_cons.1 hx with rfl | hx
      · exact hy hh
      · have := a x hx hh
        rw [anyHas_append, Bool.or_eq_false_iff] at this
        exact this.1
    · rcases List.mem_cons.1 hx with rfl | hx
      · by_cases hh : x.has node seq io = true
        · rw [hy hh] at hd; cases hd
        · simpa using hh
      · refine b ?_ x hx
        rw [anyHas_append, hd]
        rfl
theorem good_fil {nxt : Int} {node seq io : Int} : ∀ {l done : List Sl} {e : Int}, Good nxt done e l → fil node seq io l = l.eraseIdx (fnd node seq io l)
  | [], _, _, _ => rfl
  | y :: r, done, e, h => by
    obtain ⟨h1, h2⟩ := h
    by_cases hh : y.has node seq io = true
    · have hb := (good_once (node := node) (seq := seq) (io := io) h2).2 (by rw [anyHas_append]; simp [anyHas, hh])
      have ef : fnd node seq io (y :: r) = 0 := by unfold fnd; rw [if_pos hh]
      rw [ef, List.eraseIdx_zero, List.tail_cons]
      have : fil node seq io (y :: r) = fil node seq io r := by unfold fil; rw [List.filter_cons, if_neg (by simp [hh])]
      rw [this, fil_none hb]
    · have ef : fnd node seq io (y :: r) = fnd node seq io r + 1 := by show (if y.has node seq io = true then 0 else fnd node seq io r + 1) = _; rw [if_neg hh]
      rw [ef, List.eraseIdx_cons_succ]
      have : fil node seq io (y :: r) = y :: fil node seq io r := by unfold fil; rw [List.filter_cons, if_pos (by simp [hh])]
      rw [this, good_fil h2]
section
variable {s : Led} {off node seq io : Int}
theorem settle_no (h : ¬ okL s) : settle s off node seq io = (zLed, (chk s).1) := if_pos h
theorem settle_id (h : okL s) (hi : ¬ IdOk node seq io) : settle s off node seq io = (zLed, 2) := by unfold settle; rw [if_neg (fun f => f h), if_pos hi]; rfl
theorem settle_none (h : okL s) (hi : IdOk node seq io) (ha : ¬ anyHas node seq io s.sl = true) : settle s off node seq io = (zLed, 8) := by
  unfold settle
  rw [if_neg (fun f => f h), if_neg (fun f => f hi)]
  have hn : s.sl[fnd node seq io s.sl]? = none := by
    rw [List.getElem?_eq_none_iff]
    have := fnd_lt node seq io s.sl
    by_cases hl : fnd node seq io s.sl < s.sl.length
    · exact absurd (this.1 hl) ha
    · omega
  rw [hn]
  rfl
theorem settle_off (h : okL s) (hi : IdOk node seq io) {k : Nat} {x : Sl} (hf : fnd node seq io s.sl = k) (hx : s.sl[k]? = some x) (ho : x.off ≠ off) : settle s off node seq io = (zLed, 8) := by
  unfold settle
  rw [if_neg (fun f => f h), if_neg (fun f => f hi), hf, hx]
  exact if_pos ho
theorem settle_ok (h : okL s) (hi : IdOk node seq io) {k : Nat} {x : Sl} (hf : fnd node seq io s.sl = k) (hx : s.sl[k]? = some x) (ho : x.off = off) : settle s off node seq io = ({ s with sl := s.sl.eraseIdx k }, 0) := by
  unfold settle
  rw [if_neg (fun f => f h), if_neg (fun f => f hi), hf, hx]
  exact if_neg (fun f => f ho)
theorem settle_fil (h : okL s) {k : Nat} (hf : fnd node seq io s.sl = k) : s.sl.eraseIdx k = fil node seq io s.sl := by
  rw [← hf]
  exact (good_fil ((okL_iff s).1 h).2.2.2.2).symm
end
theorem run_neq_id (a b c d e f : Int) (w : World) : (binOp .neq 41 (.agg #[.int .i64 a, .int .u64 b, .int .i64 c]) (.agg #[.int .i64 d, .int .u64 e, .int .i64 f])).run Try.prog w = .ok (.bool (!(a == d && b == e && c == f))) w := by
  go_simp
  by_cases h1 : a = d <;> by_cases h2 : b = e <;> by_cases h3 : c = f <;> simp [h1, h2, h3]
end Go.Proofs.Ytdfppaafoecgmaa
