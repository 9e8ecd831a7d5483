/- Contracts: the errors of weights. -/
import Derived.Test.YthkfdfkjenhjmaaFlat
import Derived.Test.YthkfdfkjenhjmaaPlain
import Derived.Test.YthkfdfkjenhjmaaBlk
namespace Go.Proofs.Ythkfdfkjenhjmaa
open Go.RowKit
set_option linter.unusedVariables false
set_option linter.unusedSimpArgs false

def one (x : Int) : List Value := [.int .i64 x]
theorem one1 (x : Int) : (one x).length = 1 := rfl
abbrev ints (l : List Int) : List Value := fl one l
theorem ints_map (l : List Int) : l.map (.int .i64) = ints l := by
  induction l with
  | nil => rfl
  | cons x l ih => rw [List.map_cons, ih]; show _ = fl one (x :: l); rw [fl_cons]; rfl
theorem ints_len (l : List Int) : (ints l).length = l.length := by rw [← ints_map]; simp
theorem ints_get {l : List Int} {i : Nat} {x : Int} (h : l[i]? = some x) : (ints l)[i]? = some (.int .i64 x) := by rw [← ints_map]; simp [h]
/-- numbers in a slice -/
def IntAt (w : World) (v : Value) (l : List Int) : Prop := SlAt w 1 v l.length (ints l)

def RetI (a : Int) (w : World) (e : Ending) (w' : World) : Prop := e = .returned (.int .i64 a) ∧ Below w.heap.size w w'
def RetB (a : Bool) (w : World) (e : Ending) (w' : World) : Prop := e = .returned (.bool a) ∧ Below w.heap.size w w'

/-- k numbers are well -/
theorem any_drop {p : Int → Bool} {l : List Int} {k : Nat} {x : Int} (h : l[k]? = some x) : (l.drop k).any p = (p x || (l.drop (k + 1)).any p) := by
  obtain ⟨hk, rfl⟩ := List.getElem?_eq_some_iff.1 h
  rw [List.drop_eq_getElem_cons hk, List.any_cons]
def AnyMid (p : Int → Bool) (l : List Int) (k : Nat) : Prop := (l.drop k).any p = l.any p
theorem AnyMid.next {p : Int → Bool} {l : List Int} {k : Nat} {x : Int} (h : AnyMid p l k) (hx : l[k]? = some x) (hp : p x = false) : AnyMid p l (k + 1) := by
  unfold AnyMid at h ⊢
  rw [any_drop hx, hp, Bool.false_or] at h
  exact h
theorem AnyMid.hit {p : Int → Bool} {l : List Int} {k : Nat} {x : Int} (h : AnyMid p l k) (hx : l[k]? = some x) (hp : p x = true) : l.any p = true := by
  unfold AnyMid at h
  rw [any_drop hx, hp, Bool.true_or] at h
  exact h.symm
theorem AnyMid.done {p : Int → Bool} {l : List Int} {k : Nat} (h : AnyMid p l k) (hk : l.length ≤ k) : l.any p = false := by
  unfold AnyMid at h
  rw [List.drop_of_length_le hk] at h
  exact h.symm

set_option maxRecDepth 100000 in
set_option maxHeartbeats 2000000 in
theorem weighed_any (W : List Int) (q : Int) (v : Value) (w : World) (hS : IntAt w v W) :
    Calls Try.prog 35 #[v, .int .i64 q] w (RetI (wgE W q) w) := by
  obtain ⟨A, c, rfl, hc1, hc2, hR⟩ := hS
  unfold maxLen at hc2
  have HR := Lib.hid hR
  clear hR
  go_enter Try.func35, Try.ntmps35
  go_wp2_with fail
  go_loop [9] (fun a => ∃ k : Nat, k ≤ W.length ∧ a = .int .i64 k ∧ AnyMid wbad W k) (fun a => W.length - (intOf a).toNat)
  case atStart => exact ⟨0, by omega, rfl, rfl⟩
  case round =>
    obtain ⟨k, hk, rfl, hM⟩ := hrel
    have HM := Lib.hid hM
    clear hM
    by_cases hlt : k < W.length
    · obtain ⟨x, hx⟩ : ∃ x, W[k]? = some x := ⟨_, List.getElem?_eq_getElem hlt⟩
      obtain ⟨b, o, rfl, hb, d0⟩ := reads_at HR.out (ints_get hx)
      have hi : (k : Int) < W.length := by omega
      have HX := Lib.hid hx
      clear hx
      by_cases c1 : x < 1
      · have F : Hid (wgE W q = 2) := if_pos (HM.out.hit HX.out (by simp [wbad, c1]))
        go_wp2_with fail
        go_ret
        exact ⟨by rw [F.out]; rfl, (by repeat (first | with_reducible exact Below.refl _ _ | with_reducible refine Below.drew ?_ | with_reducible refine below_drewN ?_ _ | with_reducible refine bal ?_ _ | with_reducible refine bset ?_ (by first | (simp; done) | (simp; omega)) _ | with_reducible refine bnext ?_ (by assumption) | with_reducible assumption))⟩
      · by_cases c2 : 100 < x
        · have F : Hid (wgE W q = 2) := if_pos (HM.out.hit HX.out (by simp [wbad, c2]))
          go_wp2_with fail
          go_ret
          exact ⟨by rw [F.out]; rfl, (by repeat (first | with_reducible exact Below.refl _ _ | with_reducible refine Below.drew ?_ | with_reducible refine below_drewN ?_ _ | with_reducible refine bal ?_ _ | with_reducible refine bset ?_ (by first | (simp; done) | (simp; omega)) _ | with_reducible refine bnext ?_ (by assumption) | with_reducible assumption))⟩
        · have F : Hid (AnyMid wbad W (k + 1)) := Lib.hid (HM.out.next HX.out (by simp [wbad]; omega))
          go_wp2_with fail
          go_round
          case rel => exact ⟨k + 1, by omega, by go_num, F.out⟩
          case measure => simp [intOf]; omega
    · obtain rfl : k = W.length := by omega
      have F : Hid (W.any wbad = false) := Lib.hid (HM.out.done (Nat.le_refl _))
      by_cases c1 : q < 1
      · have G : Hid (wgE W q = 2) := by unfold wgE; rw [F.out, if_neg (by decide), if_pos (.inl c1)]; trivial
        go_wp2_with fail
        go_ret
        exact ⟨by rw [G.out]; rfl, (by repeat (first | with_reducible exact Below.refl _ _ | with_reducible refine Below.drew ?_ | with_reducible refine below_drewN ?_ _ | with_reducible refine bal ?_ _ | with_reducible refine bset ?_ (by first | (simp; done) | (simp; omega)) _ | with_reducible refine bnext ?_ (by assumption) | with_reducible assumption))⟩
      · by_cases c2 : 1200 < q
        · have G : Hid (wgE W q = 2) := by unfold wgE; rw [F.out, if_neg (by decide), if_pos (.inr c2)]; trivial
          go_wp2_with fail
          go_ret
          exact ⟨by rw [G.out]; rfl, (by repeat (first | with_reducible exact Below.refl _ _ | with_reducible refine Below.drew ?_ | with_reducible refine below_drewN ?_ _ | with_reducible refine bal ?_ _ | with_reducible refine bset ?_ (by first | (simp; done) | (simp; omega)) _ | with_reducible refine bnext ?_ (by assumption) | with_reducible assumption))⟩
        · have G : Hid (wgE W q = 0) := by unfold wgE; rw [F.out, if_neg (by decide), if_neg (by omega)]; trivial
          go_wp2_with fail
          go_ret
          exact ⟨by rw [G.out]; rfl, (by repeat (first | with_reducible exact Below.refl _ _ | with_reducible refine Below.drew ?_ | with_reducible refine below_drewN ?_ _ | with_reducible refine bal ?_ _ | with_reducible refine bset ?_ (by first | (simp; done) | (simp; omega)) _ | with_reducible refine bnext ?_ (by assumption) | with_reducible assumption))⟩

set_option maxRecDepth 100000 in
set_option maxHeartbeats 2000000 in
theorem rweighed_any (W : List Int) (q : Int) (v : Value) (w : World) (hS : IntAt w v W) :
    Calls Try.prog 36 #[v, .int .i64 q] w (RetI (wgE W q) w) := by
  obtain ⟨A, c, rfl, hc1, hc2, hR⟩ := hS
  unfold maxLen at hc2
  have HR := Lib.hid hR
  clear hR
  go_enter Try.func36, Try.ntmps36
  go_wp2_with fail
  go_loopw [5] (fun a wr => ∃ k : Nat, k ≤ W.length ∧ a = .int .i64 k ∧ AnyMid wbad W k ∧ Below w.heap.size w wr) (fun a _ => W.length - (intOf a).toNat)
  case atStart => exact ⟨0, by omega, rfl, rfl, Below.refl _ _⟩
  case round =>
    obtain ⟨k, hk, rfl, hM, hB⟩ := hrel
    have HM := Lib.hid hM
    clear hM
    by_cases hlt : k < W.length
    · obtain ⟨x, hx⟩ : ∃ x, W[k]? = some x := ⟨_, List.getElem?_eq_getElem hlt⟩
      obtain ⟨b, o, rfl, hb, d0⟩ := reads_at (HR.out.keep hB.size fun b o h => hB.cell (p := ⟨b, o, none⟩) h) (ints_get hx)
      have hi : (k : Int) < W.length := by omega
      have HX := Lib.hid hx
      clear hx
      by_cases c1 : x < 1
      · have F : Hid (wgE W q = 2) := if_pos (HM.out.hit HX.out (by simp [wbad, c1]))
        go_wp2_with fail
        go_ret
        exact ⟨by rw [F.out]; rfl, (by repeat (first | with_reducible exact Below.refl _ _ | with_reducible refine Below.drew ?_ | with_reducible refine below_drewN ?_ _ | with_reducible refine bal ?_ _ | with_reducible refine bset ?_ (by first | (simp; done) | (simp; omega)) _ | with_reducible refine bnext ?_ (by assumption) | with_reducible assumption))⟩
      · by_cases c2 : 100 < x
        · have F : Hid (wgE W q = 2) := if_pos (HM.out.hit HX.out (by simp [wbad, c2]))
          go_wp2_with fail
          go_ret
          exact ⟨by rw [F.out]; rfl, (by repeat (first | with_reducible exact Below.refl _ _ | with_reducible refine Below.drew ?_ | with_reducible refine below_drewN ?_ _ | with_reducible refine bal ?_ _ | with_reducible refine bset ?_ (by first | (simp; done) | (simp; omega)) _ | with_reducible refine bnext ?_ (by assumption) | with_reducible assumption))⟩
        · have F : Hid (AnyMid wbad W (k + 1)) := Lib.hid (HM.out.next HX.out (by simp [wbad]; omega))
          go_wp2_with fail
          go_roundw
          case rel => exact ⟨k + 1, by omega, by go_num, F.out, (by repeat (first | with_reducible exact Below.refl _ _ | with_reducible refine Below.drew ?_ | with_reducible refine below_drewN ?_ _ | with_reducible refine bal ?_ _ | with_reducible refine bset ?_ (by first | (simp; done) | (simp; omega)) _ | with_reducible refine bnext ?_ (by assumption) | with_reducible assumption))⟩
          case measure => simp [intOf]; omega
    · obtain rfl : k = W.length := by omega
      have F : Hid (W.any wbad = false) := Lib.hid (HM.out.done (Nat.le_refl _))
      by_cases c1 : q < 1
      · have G : Hid (wgE W q = 2) := by unfold wgE; rw [F.out, if_neg (by decide), if_pos (.inl c1)]; trivial
        go_wp2_with fail
        go_ret
        exact ⟨by rw [G.out]; rfl, (by repeat (first | with_reducible exact Below.refl _ _ | with_reducible refine Below.drew ?_ | with_reducible refine below_drewN ?_ _ | with_reducible refine bal ?_ _ | with_reducible refine bset ?_ (by first | (simp; done) | (simp; omega)) _ | with_reducible refine bnext ?_ (by assumption) | with_reducible assumption))⟩
      · by_cases c2 : 1200 < q
        · have G : Hid (wgE W q = 2) := by unfold wgE; rw [F.out, if_neg (by decide), if_pos (.inr c2)]; trivial
          go_wp2_with fail
          go_ret
          exact ⟨by rw [G.out]; rfl, (by repeat (first | with_reducible exact Below.refl _ _ | with_reducible refine Below.drew ?_ | with_reducible refine below_drewN ?_ _ | with_reducible refine bal ?_ _ | with_reducible refine bset ?_ (by first | (simp; done) | (simp; omega)) _ | with_reducible refine bnext ?_ (by assumption) | with_reducible assumption))⟩
        · have G : Hid (wgE W q = 0) := by unfold wgE; rw [F.out, if_neg (by decide), if_neg (by omega)]; trivial
          go_wp2_with fail
          go_ret
          exact ⟨by rw [G.out]; rfl, (by repeat (first | with_reducible exact Below.refl _ _ | with_reducible refine Below.drew ?_ | with_reducible refine below_drewN ?_ _ | with_reducible refine bal ?_ _ | with_reducible refine bset ?_ (by first | (simp; done) | (simp; omega)) _ | with_reducible refine bnext ?_ (by assumption) | with_reducible assumption))⟩
end Go.Proofs.Ythkfdfkjenhjmaa
