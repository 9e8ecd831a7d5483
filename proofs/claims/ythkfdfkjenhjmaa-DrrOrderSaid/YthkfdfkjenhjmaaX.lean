/- Contract: the first want of a priority that is not taken. -/
import Derived.Test.YthkfdfkjenhjmaaM
namespace Go.Proofs.Ythkfdfkjenhjmaa
open Go.RowKit
set_option linter.unusedVariables false
set_option linter.unusedSimpArgs false

/-- the number of the first want from k on, of priority p, that is not taken, or -1 -/
def frs (l : List Wt) (T : List Bool) (p : Int) : Nat → Nat → Int
  | 0, _ => -1
  | n + 1, k => if (wtAt l k).p = p ∧ T.getD k false = false then k else frs l T p n (k + 1)
theorem frs_hit {l : List Wt} {T : List Bool} {p : Int} {k : Nat} (hk : k < l.length) (h : (wtAt l k).p = p ∧ T.getD k false = false) : frs l T p (l.length - k) k = k := by
  obtain ⟨n, hn⟩ : ∃ n, l.length - k = n + 1 := ⟨l.length - k - 1, by omega⟩
  rw [hn]; exact if_pos h
theorem frs_miss {l : List Wt} {T : List Bool} {p : Int} {k : Nat} (hk : k < l.length) (h : ¬ ((wtAt l k).p = p ∧ T.getD k false = false)) : frs l T p (l.length - k) k = frs l T p (l.length - (k + 1)) (k + 1) := by
  obtain ⟨n, hn⟩ : ∃ n, l.length - k = n + 1 := ⟨l.length - k - 1, by omega⟩
  have e : l.length - (k + 1) = n := by omega
  rw [hn, e]; exact if_neg h
def bools (T : List Bool) : List Value := T.map .bool
theorem bools_get {T : List Bool} {i : Nat} (h : i < T.length) : (bools T)[i]? = some (.bool (T.getD i false)) := by
  simp [bools, List.getElem?_eq_getElem h, List.getD_eq_getElem?_getD]
def BoolAt (w : World) (v : Value) (T : List Bool) : Prop := SlAt w 1 v T.length (bools T)

set_option maxRecDepth 100000 in
set_option maxHeartbeats 4000000 in
theorem first_any (l : List Wt) (T : List Bool) (p : Int) (v u : Value) (w : World) (hV : WtAt w v l) (hU : BoolAt w u T) (hT : T.length = l.length) (hl : l.length ≤ 100000) :
    Calls Try.prog 45 #[v, u, .int .i64 p] w (RetI (frs l T p l.length 0) w) := by
  obtain ⟨A, c, rfl, _, hc2, hR⟩ := hV
  obtain ⟨A', c', rfl, _, hc2', hR'⟩ := hU
  have HR := Lib.hid hR
  have HR' := Lib.hid hR'
  clear hR hR'
  go_enter Try.func45, Try.ntmps45
  go_wp2_with fail
  go_loopw [7] (fun a wr => ∃ k : Nat, k ≤ l.length ∧ a = .int .i64 k ∧ frs l T p l.length 0 = frs l T p (l.length - k) k ∧ Below w.heap.size w wr) (fun a _ => l.length - (intOf a).toNat)
  case atStart => exact ⟨0, by omega, rfl, rfl, Below.refl _ _⟩
  case round =>
    obtain ⟨k, hk, rfl, hM, hB⟩ := hrel
    have HM := Lib.hid hM
    clear hM
    by_cases hlt : k < l.length
    · obtain ⟨x, hx⟩ : ∃ x, l[k]? = some x := ⟨_, List.getElem?_eq_getElem hlt⟩
      obtain ⟨b, o, rfl, hb, hc⟩ := HR.out.2 (by omega)
      obtain ⟨b', o', rfl, hb', hc'⟩ := HR'.out.2 (by omega)
      have d0 := (hB.cell (p := ⟨b, o + (k * 2 + 0), none⟩) hb).trans (hc _ _ ((fl_get wt2 l k hx 0 (by decide)).trans rfl))
      have e0 := (hB.cell (p := ⟨b', o' + k, none⟩) hb').trans (hc' _ _ (bools_get (T := T) (i := k) (by omega)))
      have hi : (k : Int) < l.length := by omega
      have hi' : (k : Int) < T.length := by omega
      clear hc hc'
      rw [Nat.add_zero] at d0
      have hwt : wtAt l k = x := by simp [wtAt, hx]
      have HW := Lib.hid hwt
      obtain ⟨xp, hxp⟩ : ∃ z, x.p = z := ⟨_, rfl⟩
      have HP := Lib.hid hxp
      rw [hxp] at d0
      clear hwt hxp
      by_cases c1 : xp = p
      · subst c1
        cases hb2 : T.getD k false
        · rw [hb2] at e0
          have F : Hid (frs l T xp l.length 0 = k) := Lib.hid (HM.out.trans (frs_hit hlt ⟨by rw [HW.out, HP.out], hb2⟩))
          clear hb2
          go_wp2_with fail
          go_ret
          exact ⟨by rw [F.out]; rfl, hB⟩
        · rw [hb2] at e0
          have F : Hid (frs l T xp l.length 0 = frs l T xp (l.length - (k + 1)) (k + 1)) := Lib.hid (HM.out.trans (frs_miss hlt (fun h => by rw [hb2] at h; exact absurd h.2 (by decide))))
          clear hb2
          go_wp2_with fail
          exact ⟨⟨k + 1, by omega, by first | rfl | simp, F.out, hB⟩, by simp [intOf]; omega⟩
      · have F : Hid (frs l T p l.length 0 = frs l T p (l.length - (k + 1)) (k + 1)) := Lib.hid (HM.out.trans (frs_miss hlt (fun h => c1 (by rw [← HP.out, ← HW.out]; exact h.1))))
        have t1 : (xp == p) = false := by simpa using c1
        go_wp2_with fail
        exact ⟨⟨k + 1, by omega, by first | rfl | simp, F.out, hB⟩, by simp [intOf]; omega⟩
    · obtain rfl : k = l.length := by omega
      have F : Hid (frs l T p l.length 0 = -1) := Lib.hid (HM.out.trans (by rw [Nat.sub_self]; rfl))
      go_wp2_with fail
      go_ret
      exact ⟨by rw [F.out]; rfl, hB⟩
end Go.Proofs.Ythkfdfkjenhjmaa
