/- Contracts: the search for a slot. -/
import Derived.Test.YtfgkkflbpfocjaaZc1
namespace Go.Proofs.Ytfgkkflbpfocjaa
open Go.RowKit
set_option linter.unusedVariables false
set_option linter.unusedSimpArgs false

/-- the five cells of a slot -/
theorem slot_cells {w : World} {A : Option Addr} {n : Nat} {l : List Sl} (h : Reads w 5 A n (flat l)) (hn : n = l.length) {k : Nat} {x : Sl} (hx : l[k]? = some x) :
    ∃ b o, A = some ⟨b, o, none⟩ ∧ b < w.heap.size ∧ w.cell? ⟨b, o + k * 5, none⟩ = some (.int .u64 x.off) ∧ w.cell? ⟨b, o + k * 5 + 1, none⟩ = some (.int .u64 x.size) ∧ w.cell? ⟨b, o + k * 5 + 2, none⟩ = some (.int .i64 x.node) ∧
      w.cell? ⟨b, o + k * 5 + 3, none⟩ = some (.int .u64 x.seq) ∧ w.cell? ⟨b, o + k * 5 + 4, none⟩ = some (.int .i64 x.io) := by
  have hk : k < l.length := (List.getElem?_eq_some_iff.1 hx).1
  obtain ⟨b, o, rfl, hb, hc⟩ := h.2 (by omega)
  refine ⟨b, o, rfl, hb, ?_, ?_, ?_, ?_, ?_⟩
  · exact hc (k * 5) _ (by have := flat_get l k hx 0 (by omega); rw [Nat.add_zero] at this; rw [this]; rfl)
  · have := hc (k * 5 + 1) _ (by rw [flat_get l k hx 1 (by omega)]; rfl); rwa [← Nat.add_assoc] at this
  · have := hc (k * 5 + 2) _ (by rw [flat_get l k hx 2 (by omega)]; rfl); rwa [← Nat.add_assoc] at this
  · have := hc (k * 5 + 3) _ (by rw [flat_get l k hx 3 (by omega)]; rfl); rwa [← Nat.add_assoc] at this
  · have := hc (k * 5 + 4) _ (by rw [flat_get l k hx 4 (by omega)]; rfl); rwa [← Nat.add_assoc] at this

def idx (n s o : Int) (l : List Sl) : Int := if fnd n s o l < l.length then (fnd n s o l : Int) else -1

set_option maxHeartbeats 1000000 in
theorem idx_any (n s o : Int) (v : Value) (l : List Sl) (w : World) (hS : SlAt w 5 v l.length (flat l)) :
    Calls Try.prog 116 #[v, .func (.func 117) #[.agg #[.int .i64 n, .int .u64 s, .int .i64 o]] #[]] w (RetI .i64 (idx n s o l) w) := by
  obtain ⟨A, c, rfl, h1, h2, hR⟩ := hS
  unfold maxLen at h2
  go_enter Try.func116, Try.ntmps116
  go_wp2
  go_loopw [5, 8] (fun i5 a wr => ∃ k : Nat, k ≤ l.length ∧ a = .int .i64 k ∧ k ≤ fnd n s o l ∧ Below w.heap.size w wr) (fun _ a _ => l.length - (intOf a).toNat)
  case atStart => exact ⟨0, by omega, rfl, by omega, Below.refl _ _⟩
  case round =>
    obtain ⟨k, hk, rfl, hf, hB⟩ := hrel
    have HF := Lib.hid hf
    clear hf
    by_cases hlt : k < l.length
    · obtain ⟨x, hx⟩ : ∃ x, l[k]? = some x := ⟨_, List.getElem?_eq_getElem hlt⟩
      obtain ⟨b, of, rfl, hb, d0, d1, d2, d3, d4⟩ := slot_cells (hR.keep hB.size fun b o h => hB.cell (p := ⟨b, o, none⟩) h) rfl hx
      have HX := Lib.hid hx
      clear hx
      have hi : (k : Int) < l.length := by omega
      by_cases hh : x.has n s o = true
      · have e : fnd n s o l = k := by
          have a := HF.out
          by_cases e : k < fnd n s o l
          · have := fnd_before n s o l k e HX.out
            rw [hh] at this
            cases this
          · omega
        have E : Hid (idx n s o l = k) := by show (if fnd n s o l < l.length then (fnd n s o l : Int) else -1) = k; rw [e, if_pos hlt]
        clear e
        have HH := Lib.hid hh
        clear hh
        go_wp2_with fail
        refine (is_any n s o x _).mono ?_
        rintro e w1 ⟨rfl, hb1⟩
        rw [HH.out]
        go_wp2_with fail
        go_ret
        exact ⟨ret_int E.out.symm, (by repeat (first | with_reducible exact Below.refl _ _ | with_reducible refine Below.drew ?_ | with_reducible refine below_drewN ?_ _ | with_reducible refine bal ?_ _ | with_reducible refine bset ?_ (by first | (simp; done) | (simp; omega)) _ | with_reducible refine bnext ?_ (by assumption) | with_reducible assumption))⟩
      · have e : k + 1 ≤ fnd n s o l := by
          have a := HF.out
          by_cases e : k = fnd n s o l
          · have hx := HX.out
            rw [e] at hx
            exact absurd (fnd_at n s o l hx) hh
          · omega
        have E := Lib.hid e
        have hh' : x.has n s o = false := by simpa using hh
        have HH := Lib.hid hh'
        clear hh hh' e
        go_wp2_with fail
        refine (is_any n s o x _).mono ?_
        rintro e w1 ⟨rfl, hb1⟩
        rw [HH.out]
        go_wp2_with fail
        go_roundw
        case rel => exact ⟨k + 1, by omega, by go_num, E.out, (by repeat (first | with_reducible exact Below.refl _ _ | with_reducible refine Below.drew ?_ | with_reducible refine below_drewN ?_ _ | with_reducible refine bal ?_ _ | with_reducible refine bset ?_ (by first | (simp; done) | (simp; omega)) _ | with_reducible refine bnext ?_ (by assumption) | with_reducible assumption))⟩
        case measure => simp [intOf]; omega
    · have e : k = l.length := by omega
      have E : Hid (idx n s o l = -1) := by
        show (if fnd n s o l < l.length then (fnd n s o l : Int) else -1) = -1
        have := HF.out
        rw [if_neg (by omega)]
      clear e
      have hi : ¬ (k : Int) < l.length := by omega
      go_wp2_with fail
      go_ret
      exact ⟨ret_int E.out.symm, (by repeat (first | with_reducible exact Below.refl _ _ | with_reducible refine Below.drew ?_ | with_reducible refine below_drewN ?_ _ | with_reducible refine bal ?_ _ | with_reducible refine bset ?_ (by first | (simp; done) | (simp; omega)) _ | with_reducible refine bnext ?_ (by assumption) | with_reducible assumption))⟩

set_option maxHeartbeats 1000000 in
theorem slot_any (g nx r : Int) (v : Value) (n s o : Int) (l : List Sl) (w : World) (hS : SlAt w 5 v l.length (flat l)) :
    Calls Try.prog 102 #[.agg #[.int .u64 g, .int .u64 nx, .int .u64 r, v], .agg #[.int .i64 n, .int .u64 s, .int .i64 o]] w (RetI .i64 (idx n s o l) w) := by
  have hS' := hS
  obtain ⟨A, c, rfl, _⟩ := hS'
  have H := Lib.hid hS
  clear hS
  go_enter Try.func102, Try.ntmps102
  go_wp2_with fail
  refine (idx_any n s o _ l _ ((H.out.alloc _).alloc _)).mono ?_
  rintro e w1 ⟨rfl, hb1⟩
  go_wp2_with fail
  go_ret
  exact ⟨rfl, (by repeat (first | with_reducible exact Below.refl _ _ | with_reducible refine Below.drew ?_ | with_reducible refine below_drewN ?_ _ | with_reducible refine bal ?_ _ | with_reducible refine bset ?_ (by first | (simp; done) | (simp; omega)) _ | with_reducible refine bnext ?_ (by assumption) | with_reducible assumption))⟩
end Go.Proofs.Ytfgkkflbpfocjaa

