/- Contracts: copies, made claims, claims with shares, sums of shares. -/
import Derived.Test.YtlpdebbedoibiaaI
import Derived.Test.YtlpdebbedoibiaaApp2
namespace Go.Proofs.Ytlpdebbedoibiaa
open Go.RowKit
set_option linter.unusedVariables false
set_option linter.unusedSimpArgs false

set_option maxHeartbeats 1000000 in
theorem own_any (l : List Cl) (v : Value) (w : World) (hS : ClAt w v l) (hl : l.length ≤ 1000) :
    Calls Try.prog 16 #[v] w (RetCl l w) := by
  have HS := Lib.hid hS
  have HO := Lib.hid (World.ownsRow_made (base := w.heap.size) (e := 27) (size := 4) w #[] 0 (Nat.le_refl _) (by unfold maxLen; omega) rfl)
  clear hS
  go_enter Try.func16, Try.ntmps16
  go_wp2_with (first
    | (at_builtin; refine wpList_app_all (f := Cl.cells) rfl _ _ 24 rfl w.heap.size 27 4 24 infoCl rfl (by decide) Try.underlying24 cl4 cl_one _ w w.heap.size [] l _ _ (by rfl) (by rfl) (HS.out.alloc _) HO.out (bal (Below.refl _ _) _) (Nat.le_refl _) (by simp) (by simp; omega) (by unfold maxLen; simp; omega) ?_; intro A2 c2 w2 hown hB2 _; have HO2 := Lib.hid hown; clear hown))
  go_ret
  refine ⟨A2, c2, by simp, ?_, hB2⟩
  have := HO2.out
  simpa [OwnCl] using this

theorem tmod_rng {a n : Int} (hn : 1 ≤ n) : -n < a.tmod n ∧ a.tmod n < n :=
  ⟨Int.lt_tmod_of_pos a (by omega), Int.tmod_lt_of_pos _ (by omega)⟩
def RngPost (n : Int) (w : World) (e : Ending) (w' : World) : Prop := ∃ m, (0 ≤ m ∧ m < n) ∧ e = .returned (.int .i64 m) ∧ w = w'
set_option maxHeartbeats 400000 in
theorem Mod_rng (a n : Int) (w : World) (hn : 1 ≤ n) (hn2 : n ≤ 9223372036854775807) :
    Calls Try.prog 32 #[.int .i64 a, .int .i64 n] w (RngPost n w) := by
  obtain ⟨b2, b1⟩ := tmod_rng (a := a) hn
  by_cases h : a.tmod n < 0
  · go_enter Try.func32, Try.ntmps32
    go_wp2
    go_ret
    exact ⟨_, ⟨by omega, by omega⟩, rfl, rfl⟩
  · go_enter Try.func32, Try.ntmps32
    go_wp2
    go_ret
    exact ⟨_, ⟨by omega, by omega⟩, rfl, rfl⟩

theorem well_snoc {p : Int} {l : List Cl} {x : Cl} (h : Well p l) (hp : p < x.node) (hl : ∀ c ∈ l, c.node < x.node) (hx : (1 ≤ x.node ∧ x.node ≤ 16) ∧ x.res ≤ 1125899906842624) : Well p (l ++ [x]) := by
  induction l generalizing p with
  | nil => exact ⟨cerr_zero.2 ⟨hx.1, hp, hx.2⟩, trivial⟩
  | cons c r ih => exact ⟨h.1, ih h.2 (hl c (by simp)) (fun y hy => hl y (by simp [hy]))⟩
/-- claims made of numbers -/
def Made (k : Nat) (l : List Cl) : Prop := l.length = k ∧ Well 0 l ∧ ∀ c ∈ l, c.node ≤ 2 * k ∧ 0 ≤ c.res ∧ c.res < 60
theorem Made.add {k : Nat} {l : List Cl} (h : Made k l) (hk : k < 8) {x : Cl} (hn : 2 * (k : Int) + 1 ≤ x.node ∧ x.node ≤ 2 * k + 2) (hr : 0 ≤ x.res ∧ x.res < 60) : Made (k + 1) (l ++ [x]) := by
  obtain ⟨a, b, c⟩ := h
  refine ⟨by simp [a], well_snoc b (by omega) (fun y hy => by have := (c y hy).1; omega) ⟨by omega, by omega⟩, fun y hy => ?_⟩
  rcases List.mem_append.1 hy with hy | hy
  · have := c y hy; omega
  · rw [List.mem_singleton] at hy; subst hy; omega
def MadePost (w : World) (e : Ending) (w' : World) : Prop := ∃ k l, k ≤ 8 ∧ Made k l ∧ RetCl l w e w'

set_option maxRecDepth 100000 in
set_option maxHeartbeats 2000000 in
theorem made_any (xs : List Int) (v : Value) (w : World) (hS : SlAt w 1 v xs.length (ints xs)) :
    Calls Try.prog 9 #[v] w (MadePost w) := by
  obtain ⟨A, c, rfl, hc1, hc2, hR⟩ := hS
  unfold maxLen at hc2
  have HR := Lib.hid hR
  clear hR
  go_enter Try.func9, Try.ntmps9
  go_wp2_with fail
  go_loopw [3, 4] (fun s a wr => ∃ (k : Nat) (l : List Cl), k ≤ xs.length ∧ k ≤ 8 ∧ a = .int .i64 k ∧ Made k l ∧ OwnCl w wr s l ∧ Below w.heap.size w wr) (fun _ a _ => xs.length - (intOf a).toNat)
  case atStart => exact ⟨0, [], by omega, by omega, rfl, ⟨rfl, trivial, by simp⟩, World.ownsRow_nil _ _ _ _, Below.refl _ _⟩
  case round =>
    obtain ⟨k, l, hk, hk8, rfl, hM, hO, hB⟩ := hrel
    obtain ⟨A1, c1, rfl⟩ := own_form hO
    have hz := hB.size
    have HO := Lib.hid hO
    have HM := Lib.hid hM
    have hlen : l.length ≤ 8 := by have := hM.1; omega
    clear hO hM
    by_cases hlt : k < xs.length
    · have hi : (k : Int) < xs.length := by omega
      by_cases h8 : k < 8
      · have hi8 : (k : Int) < 8 := by omega
        obtain ⟨x, hx⟩ : ∃ x, xs[k]? = some x := ⟨_, List.getElem?_eq_getElem hlt⟩
        have hx' : (ints xs)[k]? = some (.int .i64 x) := by unfold ints; rw [List.getElem?_map, hx]; rfl
        obtain ⟨b, o, rfl, hb, d0⟩ := reads_at (HR.out.keep hB.size fun b o h => hB.cell (p := ⟨b, o, none⟩) h) hx'
        clear hx hx'
        go_wp2_with fail
        refine (Mod_rng x 1048576 wr (by decide) (by decide)).mono ?_
        rintro e w' ⟨m, ⟨hm0, hm1⟩, rfl, rfl⟩
        have HA := hidI (HM.out.add h8 (x := ⟨2 * k + 1 + m % 2, m / 2 % 60, decide (0 < m / 120 % 5), decide (0 < m / 600 % 5)⟩) (by dsimp only; omega) (by dsimp only; omega))
        go_wp2_with (first
          | (at_builtin; refine wpList_app1 (f := Cl.cells) rfl _ _ 24 rfl w.heap.size 27 4 24 infoCl rfl (by decide) Try.underlying24 cl4 cl_one wr w w.heap.size ⟨2 * k + 1 + m % 2, m / 2 % 60, decide (0 < m / 120 % 5), decide (0 < m / 600 % 5)⟩ l _ (by rfl) (by rfl) HO.out hB (Nat.le_refl _) hz (by omega) (by unfold maxLen; omega) ?_; intro A2 c2 w2 hown hB2 _; have HO2 := Lib.hid hown; clear hown))
        go_roundw
        case rel => exact ⟨k + 1, _, by omega, by omega, by go_num, HA.out, HO2.out, hB2⟩
        case measure => simp [intOf]; omega
      · have hi8 : ¬ (k : Int) < 8 := by omega
        go_wp2_with fail
        go_ret
        have e : A1 = A1 := rfl
        exact ⟨k, l, hk8, HM.out, A1, c1, rfl, HO.out, hB⟩
    · have hi : ¬ (k : Int) < xs.length := by omega
      go_wp2_with fail
      go_ret
      exact ⟨k, l, hk8, HM.out, A1, c1, rfl, HO.out, hB⟩
end Go.Proofs.Ytlpdebbedoibiaa
