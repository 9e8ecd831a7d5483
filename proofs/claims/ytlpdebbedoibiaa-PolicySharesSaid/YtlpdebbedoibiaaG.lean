/- Contracts: equal lists, the chapter's examples that every statement asks. -/
import Derived.Test.YtlpdebbedoibiaaF
import Derived.Deep.RegionHeld3
import Derived.Deep.RegionLaw
namespace Go.Proofs.Ytlpdebbedoibiaa
open Go.RowKit
set_option linter.unusedVariables false
set_option linter.unusedSimpArgs false

theorem run_neq_sh (x : Sh) (w : World) : (binOp .neq 58 (.agg #[.int .i64 x.node, .int .u64 x.bytes]) (.agg #[.int .i64 x.node, .int .u64 x.bytes])).run Try.prog w = .ok (.bool false) w := by
  go_simp
theorem run_neq_cl (x : Cl) (w : World) : (binOp .neq 27 (.agg #[.int .i64 x.node, .int .u64 x.res, .bool x.sure, .bool x.opn]) (.agg #[.int .i64 x.node, .int .u64 x.res, .bool x.sure, .bool x.opn])).run Try.prog w = .ok (.bool false) w := by
  go_simp

set_option maxRecDepth 100000 in
set_option maxHeartbeats 2000000 in
theorem same_t (l : List Sh) (va vb : Value) (w : World) (ha : ShAt w va l) (hb : ShAt w vb l) :
    Calls Try.prog 21 #[va, vb] w (RetB true w) := by
  obtain ⟨A, c, rfl, hc1, hc2, hA⟩ := ha
  obtain ⟨B, d, rfl, hd1, hd2, hB⟩ := hb
  unfold maxLen at hc2 hd2
  have HA := Lib.hid hA
  have HB := Lib.hid hB
  clear hA hB
  go_enter Try.func21, Try.ntmps21
  go_wp2_with fail
  go_loopw [5] (fun a wr => ∃ k : Nat, k ≤ l.length ∧ a = .int .i64 k ∧ Below w.heap.size w wr) (fun a _ => l.length - (intOf a).toNat)
  case atStart => exact ⟨0, by omega, rfl, Below.refl _ _⟩
  case round =>
    obtain ⟨k, hk, rfl, hBw⟩ := hrel
    by_cases hlt : k < l.length
    · obtain ⟨x, hx⟩ : ∃ x, l[k]? = some x := ⟨_, List.getElem?_eq_getElem hlt⟩
      obtain ⟨b1, o1, rfl, hb1, x0, x1⟩ := reads_fl2 sh2 (HA.out.keep hBw.size fun b o h => hBw.cell (p := ⟨b, o, none⟩) h) rfl hx (by rfl : x.cells = [_, _])
      obtain ⟨b2, o2, rfl, hb2, y0, y1⟩ := reads_fl2 sh2 (HB.out.keep hBw.size fun b o h => hBw.cell (p := ⟨b, o, none⟩) h) rfl hx (by rfl : x.cells = [_, _])
      have hi : (k : Int) < l.length := by omega
      have he := run_neq_sh x
      clear hx
      go_wp2_with fail
      go_quiet (fail)
      go_wp2_with fail
      go_roundw
      case rel => exact ⟨k + 1, by omega, by go_num, (by repeat (first | with_reducible exact Below.refl _ _ | with_reducible refine Below.drew ?_ | with_reducible refine below_drewN ?_ _ | with_reducible refine bal ?_ _ | with_reducible refine bset ?_ (by first | (simp; done) | (simp; omega)) _ | with_reducible refine bnext ?_ (by assumption) | with_reducible assumption))⟩
      case measure => simp [intOf]; omega
    · have hi : ¬ (k : Int) < l.length := by omega
      go_wp2_with fail
      go_ret
      exact ⟨rfl, hBw⟩

set_option maxRecDepth 100000 in
set_option maxHeartbeats 2000000 in
theorem sameClaims_t (l : List Cl) (va vb : Value) (w : World) (ha : ClAt w va l) (hb : ClAt w vb l) :
    Calls Try.prog 15 #[va, vb] w (RetB true w) := by
  obtain ⟨A, c, rfl, hc1, hc2, hA⟩ := ha
  obtain ⟨B, d, rfl, hd1, hd2, hB⟩ := hb
  unfold maxLen at hc2 hd2
  have HA := Lib.hid hA
  have HB := Lib.hid hB
  clear hA hB
  go_enter Try.func15, Try.ntmps15
  go_wp2_with fail
  go_loopw [5] (fun a wr => ∃ k : Nat, k ≤ l.length ∧ a = .int .i64 k ∧ Below w.heap.size w wr) (fun a _ => l.length - (intOf a).toNat)
  case atStart => exact ⟨0, by omega, rfl, Below.refl _ _⟩
  case round =>
    obtain ⟨k, hk, rfl, hBw⟩ := hrel
    by_cases hlt : k < l.length
    · obtain ⟨x, hx⟩ : ∃ x, l[k]? = some x := ⟨_, List.getElem?_eq_getElem hlt⟩
      obtain ⟨b1, o1, rfl, hb1, x0, x1, x2, x3⟩ := reads_fl4 cl4 (HA.out.keep hBw.size fun b o h => hBw.cell (p := ⟨b, o, none⟩) h) rfl hx (by rfl : x.cells = [_, _, _, _])
      obtain ⟨b2, o2, rfl, hb2, y0, y1, y2, y3⟩ := reads_fl4 cl4 (HB.out.keep hBw.size fun b o h => hBw.cell (p := ⟨b, o, none⟩) h) rfl hx (by rfl : x.cells = [_, _, _, _])
      have hi : (k : Int) < l.length := by omega
      have he := run_neq_cl x
      clear hx
      go_wp2_with fail
      go_quiet (fail)
      go_wp2_with fail
      go_roundw
      case rel => exact ⟨k + 1, by omega, by go_num, (by repeat (first | with_reducible exact Below.refl _ _ | with_reducible refine Below.drew ?_ | with_reducible refine below_drewN ?_ _ | with_reducible refine bal ?_ _ | with_reducible refine bset ?_ (by first | (simp; done) | (simp; omega)) _ | with_reducible refine bnext ?_ (by assumption) | with_reducible assumption))⟩
      case measure => simp [intOf]; omega
    · have hi : ¬ (k : Int) < l.length := by omega
      go_wp2_with fail
      go_ret
      exact ⟨rfl, hBw⟩

/-- active claims of the nodes i + 1, i + 2, .. -/
def clm (i : Nat) : List Int → List Cl
  | [] => []
  | x :: r => ⟨i + 1, x, true, true⟩ :: clm (i + 1) r
theorem clm_app (i : Nat) (a : List Int) (x : Int) : clm i (a ++ [x]) = clm i a ++ [⟨(i + a.length : Nat) + 1, x, true, true⟩] := by
  induction a generalizing i with
  | nil => rfl
  | cons y a ih =>
    show _ :: clm (i + 1) (a ++ [x]) = _ :: (clm (i + 1) a ++ _)
    rw [ih, List.length_cons, show i + 1 + a.length = i + (a.length + 1) by omega]
theorem clm_len (i : Nat) (a : List Int) : (clm i a).length = a.length := by
  induction a generalizing i with
  | nil => rfl
  | cons y a ih => show (clm (i + 1) a).length + 1 = _; rw [ih]; rfl

set_option maxRecDepth 100000 in
set_option maxHeartbeats 2000000 in
theorem claims_any (xs : List Int) (v : Value) (w : World) (hS : SlAt w 1 v xs.length (nums xs)) (hl : xs.length ≤ 1000) :
    Calls Try.prog 28 #[v] w (RetCl (clm 0 xs) w) := by
  obtain ⟨A, c, rfl, hc1, hc2, hR⟩ := hS
  unfold maxLen at hc2
  have HR := Lib.hid hR
  clear hR
  go_enter Try.func28, Try.ntmps28
  go_wp2_with fail
  go_loopw [3, 4] (fun s a wr => ∃ k : Nat, k ≤ xs.length ∧ a = .int .i64 k ∧ OwnCl w wr s (clm 0 (xs.take k)) ∧ Below w.heap.size w wr) (fun _ a _ => xs.length - (intOf a).toNat)
  case atStart => exact ⟨0, by omega, rfl, World.ownsRow_nil _ _ _ _, Below.refl _ _⟩
  case round =>
    obtain ⟨k, hk, rfl, hO, hB⟩ := hrel
    obtain ⟨A1, c1, rfl⟩ := own_form hO
    have hz := hB.size
    have HO := Lib.hid hO
    clear hO
    by_cases hlt : k < xs.length
    · obtain ⟨x, hx⟩ : ∃ x, xs[k]? = some x := ⟨_, List.getElem?_eq_getElem hlt⟩
      have hx' : (nums xs)[k]? = some (.int .u64 x) := by unfold nums; rw [List.getElem?_map, hx]; rfl
      obtain ⟨b, o, rfl, hb, d0⟩ := reads_at (HR.out.keep hB.size fun b o h => hB.cell (p := ⟨b, o, none⟩) h) hx'
      have hi : (k : Int) < xs.length := by omega
      have HT : Hid (clm 0 (xs.take (k + 1)) = clm 0 (xs.take k) ++ [⟨k + 1, x, true, true⟩]) := hidI (by
        obtain ⟨hk', rfl⟩ := List.getElem?_eq_some_iff.1 hx
        rw [List.take_succ_eq_append_getElem hk', clm_app, List.length_take, Nat.zero_add, Nat.min_eq_left (by omega)])
      have hlen : (clm 0 (xs.take k)).length ≤ k := by rw [clm_len]; exact List.length_take_le _ _
      clear hx hx'
      go_wp2_with (first
        | (at_builtin; refine wpList_app1 (f := Cl.cells) rfl _ _ 24 rfl w.heap.size 27 4 24 infoCl rfl (by decide) Try.underlying24 cl4 cl_one wr w w.heap.size ⟨k + 1, x, true, true⟩ (clm 0 (xs.take k)) _ (by rfl) (by rfl) HO.out hB (Nat.le_refl _) hz (by omega) (by unfold maxLen; omega) ?_; intro A2 c2 w2 hown hB2 _; have HO2 := Lib.hid hown; clear hown))
      go_roundw
      case rel => exact ⟨k + 1, by omega, by go_num, by rw [HT.out]; exact HO2.out, hB2⟩
      case measure => simp [intOf]; omega
    · obtain rfl : k = xs.length := by omega
      have HT : Hid (xs.take xs.length = xs) := hidI (List.take_of_length_le (Nat.le_refl _))
      go_wp2_with fail
      go_ret
      exact ⟨A1, c1, by rw [HT.out]; rfl, by have := HO.out; rwa [HT.out] at this, hB⟩

/-- shares by pairs of a node and bytes -/
def lst : List Int → List Sh
  | a :: b :: r => ⟨a, b⟩ :: lst r
  | _ => []
theorem lst_app (a : List Int) (x y : Int) (j : Nat) (h : a.length = 2 * j) : lst (a ++ [x, y]) = lst a ++ [⟨x, y⟩] := by
  induction j generalizing a with
  | zero =>
    have : a = [] := List.eq_nil_of_length_eq_zero (by omega)
    subst this
    rfl
  | succ j ih =>
    obtain ⟨p, q, r, rfl⟩ : ∃ p q r, a = p :: q :: r := by
      match a, h with
      | p :: q :: r, _ => exact ⟨p, q, r, rfl⟩
      | [p], h => simp at h; omega
      | [], h => simp at h
    show ⟨p, q⟩ :: lst (r ++ [x, y]) = ⟨p, q⟩ :: (lst r ++ _)
    rw [ih r (by simp at h; omega)]
theorem lst_len (a : List Int) (j : Nat) (h : a.length = 2 * j) : (lst a).length = j := by
  induction j generalizing a with
  | zero =>
    have : a = [] := List.eq_nil_of_length_eq_zero (by omega)
    subst this
    rfl
  | succ j ih =>
    obtain ⟨p, q, r, rfl⟩ : ∃ p q r, a = p :: q :: r := by
      match a, h with
      | p :: q :: r, _ => exact ⟨p, q, r, rfl⟩
      | [p], h => simp at h; omega
      | [], h => simp at h
    show (lst r).length + 1 = _
    rw [ih r (by simp at h; omega)]
def ints (xs : List Int) : List Value := xs.map (.int .i64)
end Go.Proofs.Ytlpdebbedoibiaa
