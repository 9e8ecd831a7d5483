/- PolicyTwice: the walk. -/
import Derived.Test.YtlpdebbedoibiaaJ3
import Derived.Test.YtlpdebbedoibiaaPlain4
import Derived.Test.YtlpdebbedoibiaaRow
namespace Go.Proofs.Ytlpdebbedoibiaa
open Go.RowKit
set_option linter.unusedVariables false
set_option linter.unusedSimpArgs false

theorem well_put {p : Int} {l : List Cl} {ys : List Int} (h : Well p l) (hy : ∀ y ∈ ys, y ≤ 1125899906842624) : Well p (put l ys) := by
  induction l generalizing p ys with
  | nil => cases ys <;> trivial
  | cons c l ih =>
    cases ys with
    | nil => trivial
    | cons y ys =>
      obtain ⟨h1, h2⟩ := h
      obtain ⟨a, b, d⟩ := cerr_zero.1 h1
      exact ⟨cerr_zero.2 ⟨a, b, hy y (by simp)⟩, ih h2 (fun z hz => hy z (by simp [hz]))⟩
/-- few claims that are well -/
def Few (l : List Cl) : Prop := l.length ≤ 8 ∧ Well 0 l ∧ ∀ c ∈ l, 0 ≤ c.res ∧ c.res ≤ 1000
theorem Made.few {k : Nat} {l : List Cl} (h : Made k l) (hk : k ≤ 8) : Few l := ⟨by have := h.1; omega, h.2.1, fun c hc => by have := h.2.2 c hc; omega⟩
theorem Few.asc {l : List Cl} (h : Few l) : Asc l := (well_asc h.2.1).1
theorem Few.lev {l : List Cl} (h : Few l) : ∀ x ∈ lev l, 0 ≤ x ∧ x ≤ 1000 := by
  intro x hx
  obtain ⟨c, hc, rfl⟩ := List.mem_map.1 hx
  exact h.2.2 c hc
theorem Few.put {l : List Cl} (h : Few l) {ys : List Int} (hl : ys.length = l.length) (hy : ∀ y ∈ ys, 0 ≤ y ∧ y ≤ 1000) : Few (put l ys) := by
  refine ⟨by rw [put_len l ys hl]; exact h.1, well_put h.2.1 (fun y q => by have := hy y q; omega), fun c hc => ?_⟩
  have : c.res ∈ _root_.Go.Proofs.Ytlpdebbedoibiaa.lev (Go.Proofs.Ytlpdebbedoibiaa.put l ys) := List.mem_map.2 ⟨c, hc, rfl⟩
  rw [put_lev l ys hl] at this
  exact hy _ this
theorem Few.wf {l : List Cl} (h : Few l) : ClWf l := fun c hc => (h.2.2 c hc).1
theorem Few.ask {l : List Cl} (h : Few l) {xs : List Int} (hx : ∀ x ∈ xs, x ≤ 1000) : askE l xs = 0 := ask_of (by have := h.1; omega) h.2.1 (fun x q => by have := hx x q; omega)
theorem Few.up {l : List Cl} (h : Few l) {W v o : Int} (h0 : 0 ≤ v) (h1 : v ≤ W) (h2 : W ≤ 1000) :
    aft false l (shUp l (bump W v (_root_.Go.Proofs.Ytlpdebbedoibiaa.lev l) o)) = some (Go.Proofs.Ytlpdebbedoibiaa.put l (bump W v (_root_.Go.Proofs.Ytlpdebbedoibiaa.lev l) o)) ∧ Few (Go.Proofs.Ytlpdebbedoibiaa.put l (bump W v (_root_.Go.Proofs.Ytlpdebbedoibiaa.lev l) o)) ∧ ShWf (shUp l (bump W v (_root_.Go.Proofs.Ytlpdebbedoibiaa.lev l) o)) ∧ (bump W v (_root_.Go.Proofs.Ytlpdebbedoibiaa.lev l) o).length = l.length := by
  have hl : (bump W v (_root_.Go.Proofs.Ytlpdebbedoibiaa.lev l) o).length = l.length := by rw [bump_len]; unfold _root_.Go.Proofs.Ytlpdebbedoibiaa.lev; rw [List.length_map]
  have hb := bump_ok (o := o) h.lev h0 h1 h2
  refine ⟨aft_up l _ h.asc hl (fun i c y hc hy => bump_up (lev_get hc) hy), h.put hl hb, ⟨by have := shUp_len l (bump W v (_root_.Go.Proofs.Ytlpdebbedoibiaa.lev l) o); have := h.1; omega, fun x hx => ?_⟩, hl⟩
  have := shUp_bd l _ (m := 1000) (fun c hc => (h.2.2 c hc).1) (fun y hy => (hb y hy).2) x hx
  omega

/-- what filling up few claims gives: the level, the shares, the claims with them -/
def UpOf (l : List Cl) (W A v0 : Int) (S : List Sh) (X : List Cl) : Prop := IsUp (lev l) W A v0 ∧ X = put l (bump W v0 (lev l) (A - needs (lev l) v0)) ∧ S = shUp l (bump W v0 (lev l) (A - needs (lev l) v0)) ∧ Few X ∧ aft false l S = some X ∧ ShWf S
def FewFill (l : List Cl) (W A : Int) (w : World) (e : Ending) (w' : World) : Prop := ∃ v0 S X Ad c, UpOf l W A v0 S X ∧ e = .returned (.tuple #[.slice Ad S.length c, .int .i64 0]) ∧ ShAt w' (.slice Ad S.length c) S ∧ Below w.heap.size w w'
theorem Fill_few (l : List Cl) (h : Few l) (W A : Int) (hW : 0 ≤ W ∧ W ≤ 1000) (hA : 0 ≤ A ∧ A ≤ 1000) (v : Value) (w : World) (hS : ClAt w v l) :
    Calls Try.prog 10 #[v, .int .u64 W, .int .u64 A] w (FewFill l W A w) :=
  (Fill_ok l h.wf W A hW.1 hA.1 (h.ask (by intro x hx; simp at hx; rcases hx with rfl | rfl <;> omega)) v w hS).mono fun e w' ⟨v0, hu, Ad, c, he, ho, hb⟩ => by
    obtain ⟨a, b, d, _⟩ := h.up (o := A - needs (lev l) v0) hu.1 hu.2.1 hW.2
    exact ⟨v0, _, _, Ad, c, ⟨hu, rfl, rfl, b, a, d⟩, he, SlAt.own ho, hb⟩
def AftPost (X : List Cl) (w : World) (e : Ending) (w' : World) : Prop := ∃ Ad c, e = .returned (.tuple #[.slice Ad X.length c, .bool true]) ∧ ClAt w' (.slice Ad X.length c) X ∧ Below w.heap.size w w'
theorem after_few (l : List Cl) (h : Few l) {W A v0 : Int} {S : List Sh} {X : List Cl} (hU : UpOf l W A v0 S X) (v u : Value) (w : World) (hS : ClAt w v l) (hT : ShAt w u S) :
    Calls Try.prog 12 #[v, u, .bool false] w (AftPost X w) :=
  (after_up l S X hU.2.2.2.2.1 (by have := h.1; omega) (fun c hc => by have := h.2.2 c hc; omega) hU.2.2.2.2.2 v u w hS hT).mono fun e w' ⟨Ad, c, he, ho, hb⟩ => ⟨Ad, c, he, SlAt.own ho, hb⟩
def MadePost' (w : World) (e : Ending) (w' : World) : Prop := ∃ l Ad c, Few l ∧ e = .returned (.slice Ad l.length c) ∧ ClAt w' (.slice Ad l.length c) l ∧ Below w.heap.size w w'
theorem made_few (xs : List Int) (v : Value) (w : World) (hS : SlAt w 1 v xs.length (ints xs)) :
    Calls Try.prog 9 #[v] w (MadePost' w) :=
  (made_any xs v w hS).mono fun e w' ⟨k, l, hk, hm, Ad, c, he, ho, hb⟩ => ⟨l, Ad, c, hm.few hk, he, SlAt.own ho, hb⟩

theorem twice_same {l X Y Z : List Cl} {W A B v1 v2 v3 : Int} {S T R : List Sh} (hA : 0 ≤ A) (hB : 0 ≤ B) (h1 : UpOf l W A v1 S X) (h2 : UpOf X W B v2 T Y) (h3 : UpOf l W (A + B) v3 R Z) : Y = Z := by
  obtain ⟨a1, rfl, _⟩ := h1
  have hl : (bump W v1 (lev l) (A - needs (lev l) v1)).length = l.length := by rw [bump_len]; unfold lev; rw [List.length_map]
  obtain ⟨a2, rfl, _⟩ := h2
  rw [put_lev l _ hl] at a2 ⊢
  obtain ⟨a3, rfl, _⟩ := h3
  rw [put_put l _ _ hl (by rw [bump_len, bump_len]; unfold lev; rw [List.length_map]), fill_twice hA hB a1 a2 a3]

set_option maxRecDepth 100000 in
set_option maxHeartbeats 4000000 in
theorem PolicyTwice_t (xs : List Int) (win one two : Int) (h0 : 0 ≤ win) (h1 : 0 ≤ one) (h2 : 0 ≤ two) (v : Value) (w : World) (hS : SlAt w 1 v xs.length (ints xs)) :
    Calls Try.prog 4 #[v, .int .u64 win, .int .u64 one, .int .u64 two] w (RetB true w) := by
  obtain ⟨W, hW⟩ : ∃ W, win % 80 = W := ⟨_, rfl⟩
  obtain ⟨A, hA⟩ : ∃ A, one % 120 = A := ⟨_, rfl⟩
  obtain ⟨B, hB⟩ : ∃ B, two % 120 = B := ⟨_, rfl⟩
  have hW' : win.tmod 80 = W := by rw [Int.tmod_eq_emod_of_nonneg h0]; exact hW
  have hA' : one.tmod 120 = A := by rw [Int.tmod_eq_emod_of_nonneg h1]; exact hA
  have hB' : two.tmod 120 = B := by rw [Int.tmod_eq_emod_of_nonneg h2]; exact hB
  have b1 : 0 ≤ W ∧ W ≤ 1000 := by omega
  have b2 : 0 ≤ A ∧ A ≤ 119 := by omega
  have b3 : 0 ≤ B ∧ B ≤ 119 := by omega
  have B1 := Lib.hid b1
  obtain ⟨hA0, hA1⟩ := b2
  obtain ⟨hB0, hB1⟩ := b3
  have HS := Lib.hid hS
  clear hS b1
  go_enter Try.func4, Try.ntmps4
  go_wp2_with fail
  refine (made_few xs v w HS.out).mono ?_
  rintro e w1 ⟨l, Ad, c, hl, rfl, hS1, hb1⟩
  have HF := Lib.hid hl
  have HL := Lib.hid hS1
  have hBw := hb1
  clear hl hS1 hb1
  go_wp2_with fail
  refine (Fill_few l HF.out W A B1.out ⟨hA0, by omega⟩ _ w1 HL.out).mono ?_
  rintro e w2 ⟨v1, S1, X, A2, c2, hU1, rfl, hT1, hb2⟩
  have U1 := Lib.hid hU1
  have HL2 := Lib.hid (HL.out.below hb2)
  have hBw2 := bnext hBw hb2
  have HT := Lib.hid hT1
  clear hU1 HL hb2 hT1 hBw
  go_wp2_with fail
  refine (after_few l HF.out U1.out _ _ w2 HL2.out HT.out).mono ?_
  rintro e w3 ⟨A3, c3, rfl, hX, hb3⟩
  have HX := Lib.hid hX
  have HL3 := Lib.hid (HL2.out.below hb3)
  have hBw3 := bnext hBw2 hb3
  clear HL2 HT hb3 hX hBw2
  go_wp2_with fail
  refine (Fill_few X U1.out.2.2.2.1 W B B1.out ⟨hB0, by omega⟩ _ w3 HX.out).mono ?_
  rintro e w4 ⟨v2, S2, Y, A4, c4, hU2, rfl, hT2, hb4⟩
  have U2 := Lib.hid hU2
  have HT2 := Lib.hid hT2
  have HX4 := Lib.hid (HX.out.below hb4)
  have HL4 := Lib.hid (HL3.out.below hb4)
  have hBw4 := bnext hBw3 hb4
  clear hU2 hT2 HX HL3 hb4 hBw3
  go_wp2_with fail
  refine (after_few X U1.out.2.2.2.1 U2.out _ _ w4 HX4.out HT2.out).mono ?_
  rintro e w5 ⟨A5, c5, rfl, hY, hb5⟩
  have HY := Lib.hid hY
  have HL5 := Lib.hid (HL4.out.below hb5)
  have hBw5 := bnext hBw4 hb5
  clear HX4 HL4 HT2 hb5 hY hBw4
  go_wp2_with fail
  refine (Fill_few l HF.out W (A + B) B1.out ⟨by omega, by omega⟩ _ w5 HL5.out).mono ?_
  rintro e w6 ⟨v3, S3, Z, A6, c6, hU3, rfl, hT3, hb6⟩
  have U3 := Lib.hid hU3
  have HT3 := Lib.hid hT3
  have HY6 := Lib.hid (HY.out.below hb6)
  have HL6 := Lib.hid (HL5.out.below hb6)
  have hBw6 := bnext hBw5 hb6
  clear hU3 hT3 HY HL5 hb6 hBw5
  go_wp2_with fail
  refine (after_few l HF.out U3.out _ _ w6 HL6.out HT3.out).mono ?_
  rintro e w7 ⟨A7, c7, rfl, hZ, hb7⟩
  have HZ := Lib.hid hZ
  have HY7 := Lib.hid (HY6.out.below hb7)
  have hBw7 := bnext hBw6 hb7
  clear HY6 HL6 HT3 hb7 hZ hBw6
  have EQ := hidI (twice_same hA0 hB0 U1.out U2.out U3.out)
  go_wp2_with fail
  refine (sameClaims_t Y _ _ w7 HY7.out (by rw [EQ.out]; exact HZ.out)).mono ?_
  rintro e w8 ⟨rfl, hb8⟩
  go_wp2_with fail
  refine (awake_t _).mono ?_
  rintro e w9 ⟨rfl, hb9⟩
  go_wp2_with fail
  go_ret
  exact ⟨rfl, bnext (bnext hBw7 hb8) hb9⟩
end Go.Proofs.Ytlpdebbedoibiaa
