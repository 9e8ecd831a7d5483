/- Contracts: bundles compared. -/
import Derived.Test.YtcifngefclgefaaB
import Derived.Test.YtcifngefclgefaaApp2
namespace Go.Proofs.Ytcifngefclgefaa
open Go.RowKit
set_option linter.unusedVariables false
set_option linter.unusedSimpArgs false

/-- equality of bundles, field by field -/
def Bn.eqB (x y : Bn) : Bool := x.node == y.node && x.seq == y.seq && x.off == y.off && x.dest == y.dest && x.prio == y.prio && x.born == y.born && x.life == y.life && x.total == y.total && x.data.toList == y.data.toList
theorem ba_ext {a b : ByteArray} (h : a.toList = b.toList) : a = b := by
  rw [ByteArray.toList_eq, ByteArray.toList_eq] at h
  cases a; cases b
  simp at h
  rw [h]
theorem Bn.eqB_iff {x y : Bn} : x.eqB y = true ↔ x = y := by
  unfold Bn.eqB
  constructor
  · intro h
    simp only [Bool.and_eq_true, beq_iff_eq] at h
    obtain ⟨⟨⟨⟨⟨⟨⟨⟨h1, h2⟩, h3⟩, h4⟩, h5⟩, h6⟩, h7⟩, h8⟩, h9⟩ := h
    have h9 := ba_ext h9
    cases x; cases y; simp_all
  · rintro rfl; simp
theorem Bn.eqB_self (x : Bn) : x.eqB x = true := Bn.eqB_iff.2 rfl
theorem run_eq_bn (a b c d e f g h a' b' c' d' e' f' g' h' : Int) (s s' : ByteArray) (w : World) :
    (binOp .eql 26 (.agg #[.int .i64 a, .int .u64 b, .int .i64 c, .int .i64 d, .int .i64 e, .int .i64 f, .int .i64 g, .int .i64 h, .string s]) (.agg #[.int .i64 a', .int .u64 b', .int .i64 c', .int .i64 d', .int .i64 e', .int .i64 f', .int .i64 g', .int .i64 h', .string s'])).run Try.prog w
      = .ok (.bool (Bn.eqB ⟨a, b, c, d, e, f, g, h, s⟩ ⟨a', b', c', d', e', f', g', h', s'⟩)) w := by
  unfold Bn.eqB
  dsimp only
  go_simp
  by_cases h1 : a = a'
  · by_cases h2 : b = b'
    · by_cases h3 : c = c'
      · by_cases h4 : d = d'
        · by_cases h5 : e = e'
          · by_cases h6 : f = f'
            · by_cases h7 : g = g'
              · by_cases h8 : h = h'
                · by_cases h9 : s.toList = s'.toList
                  · simp [h1, h2, h3, h4, h5, h6, h7, h8, h9]
                  · simp [h1, h2, h3, h4, h5, h6, h7, h8, h9]
                · simp [h1, h2, h3, h4, h5, h6, h7, h8]
              · simp [h1, h2, h3, h4, h5, h6, h7]
            · simp [h1, h2, h3, h4, h5, h6]
          · simp [h1, h2, h3, h4, h5]
        · simp [h1, h2, h3, h4]
      · simp [h1, h2, h3]
    · simp [h1, h2]
  · simp [h1]
theorem run_ne_bn (a b c d e f g h a' b' c' d' e' f' g' h' : Int) (s s' : ByteArray) (w : World) :
    (binOp .neq 26 (.agg #[.int .i64 a, .int .u64 b, .int .i64 c, .int .i64 d, .int .i64 e, .int .i64 f, .int .i64 g, .int .i64 h, .string s]) (.agg #[.int .i64 a', .int .u64 b', .int .i64 c', .int .i64 d', .int .i64 e', .int .i64 f', .int .i64 g', .int .i64 h', .string s'])).run Try.prog w
      = .ok (.bool (!(Bn.eqB ⟨a, b, c, d, e, f, g, h, s⟩ ⟨a', b', c', d', e', f', g', h', s'⟩))) w := by
  unfold Bn.eqB
  dsimp only
  go_simp
  by_cases h1 : a = a'
  · by_cases h2 : b = b'
    · by_cases h3 : c = c'
      · by_cases h4 : d = d'
        · by_cases h5 : e = e'
          · by_cases h6 : f = f'
            · by_cases h7 : g = g'
              · by_cases h8 : h = h'
                · by_cases h9 : s.toList = s'.toList
                  · simp [h1, h2, h3, h4, h5, h6, h7, h8, h9]
                  · simp [h1, h2, h3, h4, h5, h6, h7, h8, h9]
                · simp [h1, h2, h3, h4, h5, h6, h7, h8]
              · simp [h1, h2, h3, h4, h5, h6, h7]
            · simp [h1, h2, h3, h4, h5, h6]
          · simp [h1, h2, h3, h4, h5]
        · simp [h1, h2, h3, h4]
      · simp [h1, h2, h3]
    · simp [h1, h2]
  · simp [h1]
/-- what bundles that belong together have in common -/
def Bn.kd (x : Bn) : Bn := ⟨x.node, x.seq, 0, x.dest, x.prio, x.born, x.life, x.total, ByteArray.empty⟩
def RetBn (x : Bn) (w : World) (e : Ending) (w' : World) : Prop := e = .returned x.val ∧ Below w.heap.size w w'
/-- bundles in a slice -/
def BnAt (w : World) (v : Value) (l : List Bn) : Prop := SlAt w 9 v l.length (fl Bn.cells l)
theorem reads_bn {w : World} {A : Option Addr} {n : Nat} {l : List Bn} (h : Reads w 9 A n (fl Bn.cells l)) (hn : n = l.length) {i : Nat} {x : Bn} (hx : l[i]? = some x) :
    ∃ b o, A = some ⟨b, o, none⟩ ∧ b < w.heap.size ∧ w.cell? ⟨b, o + i * 9, none⟩ = some (.int .i64 x.node) ∧ w.cell? ⟨b, o + i * 9 + 1, none⟩ = some (.int .u64 x.seq) ∧ w.cell? ⟨b, o + i * 9 + 2, none⟩ = some (.int .i64 x.off) ∧ w.cell? ⟨b, o + i * 9 + 3, none⟩ = some (.int .i64 x.dest) ∧ w.cell? ⟨b, o + i * 9 + 4, none⟩ = some (.int .i64 x.prio) ∧ w.cell? ⟨b, o + i * 9 + 5, none⟩ = some (.int .i64 x.born) ∧ w.cell? ⟨b, o + i * 9 + 6, none⟩ = some (.int .i64 x.life) ∧ w.cell? ⟨b, o + i * 9 + 7, none⟩ = some (.int .i64 x.total) ∧ w.cell? ⟨b, o + i * 9 + 8, none⟩ = some (.string x.data) := by
  obtain ⟨b, o, e, hb, hc⟩ := reads_fl bn9 h hn hx
  exact ⟨b, o, e, hb, hc 0 _ rfl, hc 1 _ rfl, hc 2 _ rfl, hc 3 _ rfl, hc 4 _ rfl, hc 5 _ rfl, hc 6 _ rfl, hc 7 _ rfl, hc 8 _ rfl⟩

set_option maxRecDepth 100000 in
set_option maxHeartbeats 2000000 in
theorem kind_any (x : Bn) (w : World) : Calls Try.prog 46 #[x.val] w (RetBn x.kd w) := by
  rw [Bn.val_eq]
  go_enter Try.func46, Try.ntmps46
  go_wp2_with fail
  refine bodyPost_ret (v := x.kd.val) (by simp [results, Try.results46, go_sem, Bn.val, Bn.kd, Bn.cells]; rfl) rfl ?_
  exact ⟨rfl, (by repeat (first | with_reducible exact Below.refl _ _ | with_reducible refine Below.drew ?_ | with_reducible refine below_drewN ?_ _ | with_reducible refine bal ?_ _ | with_reducible refine bset ?_ (by first | (simp; done) | (simp; omega)) _ | with_reducible refine bnext ?_ (by assumption) | with_reducible assumption))⟩

set_option maxRecDepth 100000 in
set_option maxHeartbeats 2000000 in
theorem together_any (x y : Bn) (w : World) : Calls Try.prog 37 #[x.val, y.val] w (RetB (Bn.eqB ⟨x.node, x.seq, y.off, x.dest, x.prio, x.born, x.life, x.total, y.data⟩ y) w) := by
  rw [Bn.val_eq, Bn.val_eq]
  have heq := run_eq_bn
  go_enter Try.func37, Try.ntmps37
  go_wp2_with fail
  go_ret
  exact ⟨rfl, (by repeat (first | with_reducible exact Below.refl _ _ | with_reducible refine Below.drew ?_ | with_reducible refine below_drewN ?_ _ | with_reducible refine bal ?_ _ | with_reducible refine bset ?_ (by first | (simp; done) | (simp; omega)) _ | with_reducible refine bnext ?_ (by assumption) | with_reducible assumption))⟩
theorem tog_kd (x y : Bn) : Bn.eqB ⟨x.node, x.seq, y.off, x.dest, x.prio, x.born, x.life, x.total, y.data⟩ y = Bn.eqB y.kd x.kd := by
  rw [Bool.eq_iff_iff, Bn.eqB_iff, Bn.eqB_iff]
  obtain ⟨a, b, c, d, e, f, g, h, s⟩ := x
  obtain ⟨a', b', c', d', e', f', g', h', s'⟩ := y
  simp [Bn.kd]
  constructor
  · rintro ⟨rfl, rfl, rfl, rfl, rfl, rfl, rfl⟩; simp
  · rintro ⟨rfl, rfl, rfl, rfl, rfl, rfl, rfl⟩; simp

set_option maxRecDepth 100000 in
set_option maxHeartbeats 2000000 in
theorem same_eq (l : List Bn) (v u : Value) (w : World) (hV : BnAt w v l) (hU : BnAt w u l) :
    Calls Try.prog 15 #[v, u] w (RetB true w) := by
  obtain ⟨A, c, rfl, _, hc2, hR⟩ := hV
  obtain ⟨A', c', rfl, _, _, hR'⟩ := hU
  unfold maxLen at hc2
  have HR := Lib.hid hR
  have HR' := Lib.hid hR'
  clear hR hR'
  have t1 : ((l.length : Int) != l.length) = false := by simp
  have hne := run_ne_bn
  go_enter Try.func15, Try.ntmps15
  go_wp2_with fail
  go_loopw [5] (fun a wr => ∃ k : Nat, k ≤ l.length ∧ a = .int .i64 k ∧ Below w.heap.size w wr) (fun a _ => l.length - (intOf a).toNat)
  case atStart => exact ⟨0, by omega, rfl, Below.refl _ _⟩
  case round =>
    obtain ⟨k, hk, rfl, hB⟩ := hrel
    by_cases hlt : k < l.length
    · obtain ⟨x, hx⟩ : ∃ x, l[k]? = some x := ⟨_, List.getElem?_eq_getElem hlt⟩
      obtain ⟨b, o, rfl, hb, d0, d1, d2, d3, d4, d5, d6, d7, d8⟩ := reads_bn (HR.out.keep hB.size fun b o h => hB.cell (p := ⟨b, o, none⟩) h) rfl hx
      obtain ⟨b', o', rfl, hb', f0, f1, f2, f3, f4, f5, f6, f7, f8⟩ := reads_bn (HR'.out.keep hB.size fun b o h => hB.cell (p := ⟨b, o, none⟩) h) rfl hx
      have hi : (k : Int) < l.length := by omega
      have t2 : (!(Bn.eqB ⟨x.node, x.seq, x.off, x.dest, x.prio, x.born, x.life, x.total, x.data⟩ ⟨x.node, x.seq, x.off, x.dest, x.prio, x.born, x.life, x.total, x.data⟩)) = false := by rw [Bn.eqB_self]; rfl
      clear hx
      go_wp2_with fail
      go_quiet (fail)
      go_wp2_with fail
      go_roundw
      case rel => exact ⟨k + 1, by omega, by go_num, (by repeat (first | with_reducible exact Below.refl _ _ | with_reducible refine Below.drew ?_ | with_reducible refine below_drewN ?_ _ | with_reducible refine bal ?_ _ | with_reducible refine bset ?_ (by first | (simp; done) | (simp; omega)) _ | with_reducible refine bnext ?_ (by assumption) | with_reducible assumption))⟩
      case measure => simp [intOf]; omega
    · obtain rfl : k = l.length := by omega
      go_wp2_with fail
      go_ret
      exact ⟨rfl, hB⟩
end Go.Proofs.Ytcifngefclgefaa
