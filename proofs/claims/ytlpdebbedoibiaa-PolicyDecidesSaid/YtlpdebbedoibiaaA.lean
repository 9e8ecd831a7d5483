/- Contracts: the checks of claims. -/
import Derived.Test.YtlpdebbedoibiaaFlat
import Derived.Test.YtlpdebbedoibiaaPlain3
import Derived.Test.YtlpdebbedoibiaaBlk
namespace Go.Proofs.Ytlpdebbedoibiaa
open Go.RowKit
set_option linter.unusedVariables false
set_option linter.unusedSimpArgs false

def Cl.cells (c : Cl) : List Value := [.int .i64 c.node, .int .u64 c.res, .bool c.sure, .bool c.opn]
def Sh.cells (x : Sh) : List Value := [.int .i64 x.node, .int .u64 x.bytes]
theorem cl4 (c : Cl) : c.cells.length = 4 := rfl
theorem sh2 (x : Sh) : x.cells.length = 2 := rfl
/-- claims in a slice -/
def ClAt (w : World) (v : Value) (l : List Cl) : Prop := SlAt w 4 v l.length (fl Cl.cells l)
def ShAt (w : World) (v : Value) (l : List Sh) : Prop := SlAt w 2 v l.length (fl Sh.cells l)

def cerr (p : Int) (c : Cl) : Int := if c.node < 1 ∨ 16 < c.node then 2 else if c.node ≤ p then 19 else if 1125899906842624 < c.res then 2 else 0
def cscan (p : Int) (i : Nat) : List Cl → Int × Int
  | [] => (0, 0)
  | c :: r => if cerr p c = 0 then cscan c.node (i + 1) r else (cerr p c, i)
def cchk (l : List Cl) : Int × Int := if 16 < l.length then (5, 0) else cscan 0 0 l

def Ret2 (k1 k2 : IntKind) (a b : Int) (w : World) (e : Ending) (w' : World) : Prop := e = .returned (.tuple #[.int k1 a, .int k2 b]) ∧ Below w.heap.size w w'
def RetI (k : IntKind) (a : Int) (w : World) (e : Ending) (w' : World) : Prop := e = .returned (.int k a) ∧ Below w.heap.size w w'
def RetB (a : Bool) (w : World) (e : Ending) (w' : World) : Prop := e = .returned (.bool a) ∧ Below w.heap.size w w'

theorem cscan_cons {p : Int} {l : List Cl} {k : Nat} {x : Cl} (h : l[k]? = some x) : cscan p k (l.drop k) = if cerr p x = 0 then cscan x.node (k + 1) (l.drop (k + 1)) else (cerr p x, (k : Int)) := by
  obtain ⟨hk, rfl⟩ := List.getElem?_eq_some_iff.1 h
  rw [List.drop_eq_getElem_cons hk, cscan]

/-- the loop's state: k claims are well, the last one's node is p -/
def ChkMid (l : List Cl) (k : Nat) : Prop := ∃ p, cscan p k (l.drop k) = cscan 0 0 l ∧ (k = 0 → p = 0) ∧ ∀ j x, k = j + 1 → l[j]? = some x → x.node = p

set_option maxRecDepth 100000 in
set_option maxHeartbeats 4000000 in
theorem Check_any (l : List Cl) (v : Value) (w : World) (hS : ClAt w v l) :
    Calls Try.prog 22 #[v] w (Ret2 .i64 .i64 (cchk l).1 (cchk l).2 w) := by
  obtain ⟨A, c, rfl, hc1, hc2, hR⟩ := hS
  unfold maxLen at hc2
  by_cases h16 : 16 < l.length
  · have E : Hid (cchk l = (5, 0)) := if_pos h16
    have h16' : (16 : Int) < l.length := by omega
    go_enter Try.func22, Try.ntmps22
    go_wp2_with fail
    go_ret2
    exact ⟨by rw [E.out]; rfl, (by repeat (first | with_reducible exact Below.refl _ _ | with_reducible refine Below.drew ?_ | with_reducible refine below_drewN ?_ _ | with_reducible refine bal ?_ _ | with_reducible refine bset ?_ (by first | (simp; done) | (simp; omega)) _ | with_reducible refine bnext ?_ (by assumption) | with_reducible assumption))⟩
  · have E : Hid (cchk l = cscan 0 0 l) := if_neg h16
    have h16' : (l.length : Int) ≤ 16 := by omega
    have HR := Lib.hid hR
    clear hR h16
    go_enter Try.func22, Try.ntmps22
    go_wp2_with fail
    go_loopw [11] (fun a wr => ∃ k : Nat, k ≤ l.length ∧ a = .int .i64 k ∧ ChkMid l k ∧ Below w.heap.size w wr) (fun a _ => l.length - (intOf a).toNat)
    case atStart => exact ⟨0, by omega, rfl, ⟨0, rfl, fun _ => rfl, fun j x h => by omega⟩, Below.refl _ _⟩
    case round =>
      obtain ⟨k, hk, rfl, hM, hB⟩ := hrel
      have HM := Lib.hid hM
      clear hM
      by_cases hlt : k < l.length
      · obtain ⟨x, hx⟩ : ∃ x, l[k]? = some x := ⟨_, List.getElem?_eq_getElem hlt⟩
        have hR := HR.out.keep hB.size fun b o h => hB.cell (p := ⟨b, o, none⟩) h
        obtain ⟨b, o, rfl, hb, d0, d1, d2, d3⟩ := reads_fl4 cl4 hR rfl hx (by rfl : x.cells = [_, _, _, _])
        obtain ⟨p, hp, hp0, hp1⟩ := HM.out
        have hi : (k : Int) < l.length := by omega
        have S := Lib.hid (hp.symm.trans (cscan_cons hx))
        have HX := Lib.hid hx
        clear hx hp HM
        by_cases c1 : x.node < 1
        · have F : Hid (cscan 0 0 l = (2, (k : Int))) := by
            rw [S.out]
            have : cerr p x = 2 := if_pos (.inl c1)
            rw [this, if_neg (by decide)]; rfl
          clear hp1 hp0
          go_wp2_with fail
          go_ret2
          exact ⟨by rw [E.out, F.out]; rfl, (by repeat (first | with_reducible exact Below.refl _ _ | with_reducible refine Below.drew ?_ | with_reducible refine below_drewN ?_ _ | with_reducible refine bal ?_ _ | with_reducible refine bset ?_ (by first | (simp; done) | (simp; omega)) _ | with_reducible refine bnext ?_ (by assumption) | with_reducible assumption))⟩
        · by_cases c2 : 16 < x.node
          · have F : Hid (cscan 0 0 l = (2, (k : Int))) := by
              rw [S.out]
              have : cerr p x = 2 := if_pos (.inr c2)
              rw [this, if_neg (by decide)]; rfl
            clear hp1 hp0
            go_wp2_with fail
            go_ret2
            exact ⟨by rw [E.out, F.out]; rfl, (by repeat (first | with_reducible exact Below.refl _ _ | with_reducible refine Below.drew ?_ | with_reducible refine below_drewN ?_ _ | with_reducible refine bal ?_ _ | with_reducible refine bset ?_ (by first | (simp; done) | (simp; omega)) _ | with_reducible refine bnext ?_ (by assumption) | with_reducible assumption))⟩
          · have C1 : Hid (¬ (x.node < 1 ∨ 16 < x.node)) := by intro h; omega
            rcases k with _ | j
            · have h0 := hp0 rfl
              subst h0
              simp only [Nat.zero_mul, Nat.add_zero] at d0 d1 d2 d3
              by_cases c4 : 1125899906842624 < x.res
              · have F : Hid (cscan 0 0 l = (2, ((0 : Nat) : Int))) := by
                  rw [S.out]
                  have : cerr 0 x = 2 := by unfold cerr; rw [if_neg C1.out, if_neg (by omega), if_pos c4]
                  rw [this, if_neg (by decide)]; rfl
                clear hp1 hp0 hR
                rw [show ((0 : Nat) : Int) = 0 from rfl] at *
                go_wp2_with fail
                go_quiet (fail)
                go_wp2_with fail
                go_ret2
                exact ⟨by rw [E.out, F.out]; rfl, (by repeat (first | with_reducible exact Below.refl _ _ | with_reducible refine Below.drew ?_ | with_reducible refine below_drewN ?_ _ | with_reducible refine bal ?_ _ | with_reducible refine bset ?_ (by first | (simp; done) | (simp; omega)) _ | with_reducible refine bnext ?_ (by assumption) | with_reducible assumption))⟩
              · have F : Hid (ChkMid l 1) := by
                  refine ⟨x.node, ?_, fun h => by omega, fun j y hj hy => ?_⟩
                  · rw [S.out]
                    have : cerr 0 x = 0 := by unfold cerr; rw [if_neg C1.out, if_neg (by omega), if_neg c4]
                    rw [if_pos this]
                  · obtain rfl : j = 0 := by omega
                    have := HX.out
                    rw [hy] at this
                    cases this
                    rfl
                clear hp1 hp0 hR
                rw [show ((0 : Nat) : Int) = 0 from rfl] at *
                go_wp2_with fail
                go_quiet (fail)
                go_wp2_with fail
                go_roundw
                case rel => exact ⟨1, by omega, rfl, F.out, (by repeat (first | with_reducible exact Below.refl _ _ | with_reducible refine Below.drew ?_ | with_reducible refine below_drewN ?_ _ | with_reducible refine bal ?_ _ | with_reducible refine bset ?_ (by first | (simp; done) | (simp; omega)) _ | with_reducible refine bnext ?_ (by assumption) | with_reducible assumption))⟩
                case measure => simp [intOf]; omega
            · obtain ⟨y, hy⟩ : ∃ y, l[j]? = some y := ⟨_, List.getElem?_eq_getElem (by omega)⟩
              have hyp := hp1 j y rfl hy
              obtain ⟨b', o', e', _, q0, q1, q2, q3⟩ := reads_fl4 cl4 hR rfl hy (by rfl : y.cells = [_, _, _, _])
              cases e'
              subst hyp
              clear hp1 hp0 hR hy
              have hj0 : (j : Int) < l.length := by omega
              by_cases c3 : x.node ≤ y.node
              · have F : Hid (cscan 0 0 l = (19, ((j + 1 : Nat) : Int))) := by
                  rw [S.out]
                  have : cerr y.node x = 19 := by unfold cerr; rw [if_neg C1.out, if_pos c3]
                  rw [this, if_neg (by decide)]; rfl
                go_wp2_with fail
                go_quiet (fail)
                go_wp2_with fail
                go_ret2
                exact ⟨by rw [E.out, F.out]; rfl, (by repeat (first | with_reducible exact Below.refl _ _ | with_reducible refine Below.drew ?_ | with_reducible refine below_drewN ?_ _ | with_reducible refine bal ?_ _ | with_reducible refine bset ?_ (by first | (simp; done) | (simp; omega)) _ | with_reducible refine bnext ?_ (by assumption) | with_reducible assumption))⟩
              · by_cases c4 : 1125899906842624 < x.res
                · have F : Hid (cscan 0 0 l = (2, ((j + 1 : Nat) : Int))) := by
                    rw [S.out]
                    have : cerr y.node x = 2 := by unfold cerr; rw [if_neg C1.out, if_neg c3, if_pos c4]
                    rw [this, if_neg (by decide)]; rfl
                  go_wp2_with fail
                  go_quiet (fail)
                  go_wp2_with fail
                  go_ret2
                  exact ⟨by rw [E.out, F.out]; rfl, (by repeat (first | with_reducible exact Below.refl _ _ | with_reducible refine Below.drew ?_ | with_reducible refine below_drewN ?_ _ | with_reducible refine bal ?_ _ | with_reducible refine bset ?_ (by first | (simp; done) | (simp; omega)) _ | with_reducible refine bnext ?_ (by assumption) | with_reducible assumption))⟩
                · have F : Hid (ChkMid l (j + 1 + 1)) := by
                    refine ⟨x.node, ?_, fun h => by omega, fun i z hi hz => ?_⟩
                    · rw [S.out]
                      have : cerr y.node x = 0 := by unfold cerr; rw [if_neg C1.out, if_neg c3, if_neg c4]
                      rw [if_pos this]
                    · obtain rfl : i = j + 1 := by omega
                      have := HX.out
                      rw [hz] at this
                      cases this
                      rfl
                  go_wp2_with fail
                  go_quiet (fail)
                  go_wp2_with fail
                  go_roundw
                  case rel => exact ⟨j + 1 + 1, by omega, by go_num, F.out, (by repeat (first | with_reducible exact Below.refl _ _ | with_reducible refine Below.drew ?_ | with_reducible refine below_drewN ?_ _ | with_reducible refine bal ?_ _ | with_reducible refine bset ?_ (by first | (simp; done) | (simp; omega)) _ | with_reducible refine bnext ?_ (by assumption) | with_reducible assumption))⟩
                  case measure => simp [intOf]; omega
      · obtain rfl : k = l.length := by omega
        have F : Hid (cscan 0 0 l = (0, 0)) := by
          obtain ⟨p, hp, _⟩ := HM.out
          rw [← hp, List.drop_of_length_le (Nat.le_refl _)]
          rfl
        go_wp2_with fail
        go_ret2
        exact ⟨by rw [E.out, F.out]; rfl, (by repeat (first | with_reducible exact Below.refl _ _ | with_reducible refine Below.drew ?_ | with_reducible refine below_drewN ?_ _ | with_reducible refine bal ?_ _ | with_reducible refine bset ?_ (by first | (simp; done) | (simp; omega)) _ | with_reducible refine bnext ?_ (by assumption) | with_reducible assumption))⟩
end Go.Proofs.Ytlpdebbedoibiaa
