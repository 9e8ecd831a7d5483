/- Arguments that are slices of structs, opened to their cells. Arguments: a peer, a frame. Arguments: a row of numbers. -/
import Derived.Test.YtfgkkflbpfocjaaZc4
import Derived.Deep.Slices
import Derived.Deep.Fields
import Derived.ChangeSame
import Derived.ProofKit
import Derived.OpenShut
import Derived.ChangeOld
import Derived.Test.YtfgkkflbpfocjaaZc26
import Derived.Lib.SmallJoins
import Derived.Deep.Strs
import Derived.Test.YtfgkkflbpfocjaaZc27
namespace Go.Proofs.Ytfgkkflbpfocjaa
open Go.RowKit Go.ChangeShapes Go.WideShapes Go.Deep
set_option linter.unusedVariables false
set_option linter.unusedSimpArgs false

section
variable {H : Type} {enc : TypeId × Value → H} {P : Program} {w : World} {base : Nat} {spare : Nat → Bool} {held : Bool}
end

/-- a list of things that there are -/
theorem list_of {α : Type} {P : Nat → α → Prop} (n : Nat) (h : ∀ i, i < n → ∃ c, P i c) : ∃ l : List α, l.length = n ∧ ∀ i c, l[i]? = some c → P i c := by
  induction n with
  | zero => exact ⟨[], rfl, fun i c hc => by simp at hc⟩
  | succ n ih =>
    obtain ⟨l, hl, hP⟩ := ih (fun i hi => h i (by omega))
    obtain ⟨c, hc⟩ := h n (by omega)
    refine ⟨l ++ [c], by simp [hl], fun i d hd => ?_⟩
    by_cases hi : i < l.length
    · rw [List.getElem?_append_left hi] at hd
      exact hP i d hd
    · have h2 := (List.getElem?_eq_some_iff.1 hd).1
      rw [List.length_append, List.length_singleton] at h2
      have : i = n := by omega
      subst this
      rw [List.getElem?_append_right (by omega), hl, Nat.sub_self] at hd
      simp at hd
      subst hd
      exact hc
theorem add_at (b o k : Nat) : ((⟨b, o, none⟩ : Addr).add k) = ⟨b, o + k, none⟩ := by
  unfold Addr.add; split <;> simp_all
theorem spot_none {w : World} {a : Addr} {u : Value} (h : w.cell? a = some u) : a.spot = none := by
  cases hs : a.spot with
  | none => rfl
  | some j =>
    exfalso
    unfold World.cell? at h
    split at h
    · simp [hs] at h
    · cases h
/-- cells read as a row of elements -/
theorem reads_of {α : Type} {f : α → List Value} {k : Nat} (hf : ∀ x, (f x).length = k) (hk : 0 < k) {w : World} {a : Addr} {l : List α} (hc : ∀ i x, l[i]? = some x → ∀ j u, (f x)[j]? = some u → w.cell? (a.add (i * k + j)) = some u) : Reads w k (some a) l.length (fl f l) := by
  refine ⟨fl_len hf l, fun hn => ?_⟩
  obtain ⟨x, hx⟩ : ∃ x, l[0]? = some x := ⟨_, List.getElem?_eq_getElem hn⟩
  obtain ⟨u, hu⟩ : ∃ u, (f x)[0]? = some u := ⟨_, List.getElem?_eq_getElem (by rw [hf]; exact hk)⟩
  have h0 := hc 0 x hx 0 u hu
  rw [Nat.zero_mul, Nat.zero_add] at h0
  have e0 : a.add 0 = a := by simp [Addr.add]
  rw [e0] at h0
  have hs := spot_none h0
  obtain ⟨b, o, s⟩ := a
  dsimp only at hs
  subst hs
  refine ⟨b, o, rfl, World.block_lt_of_cell? w _ h0, fun m v hm => ?_⟩
  have hm0 := (List.getElem?_eq_some_iff.1 hm).1
  rw [fl_len hf] at hm0
  have hmod := Nat.mod_lt m hk
  have hdiv : m / k < l.length := (Nat.div_lt_iff_lt_mul hk).2 hm0
  obtain ⟨y, hy⟩ : ∃ y, l[m / k]? = some y := ⟨_, List.getElem?_eq_getElem hdiv⟩
  have e1 : m = m / k * k + m % k := by have := Nat.div_add_mod m k; rw [Nat.mul_comm]; omega
  rw [e1, fl_get hf _ _ hy _ hmod] at hm
  have := hc _ y hy _ v hm
  rw [add_at, ← e1] at this
  exact this
end Go.Proofs.Ytfgkkflbpfocjaa

namespace Go.Proofs.Ytfgkkflbpfocjaa
open Go.RowKit Go.ChangeShapes Go.WideShapes Go.Deep
set_option linter.unusedVariables false
set_option linter.unusedSimpArgs false
set_option maxRecDepth 100000

theorem cellsInt : Try.prog.cellsOf 3 = 1 := by kernel_rfl

section
variable {H : Type} {enc : TypeId × Value → H} {w : World} {base : Nat} {spare : Nat → Bool} {held : Bool}
end

section
variable {H : Type} {enc : TypeId × Value → H} {w : World} {base : Nat} {spare : Nat → Bool} {held : Bool}

end
end Go.Proofs.Ytfgkkflbpfocjaa

namespace Go.Proofs.Ytfgkkflbpfocjaa
open Go.RowKit Go.ChangeShapes Go.WideShapes Go.Deep
set_option linter.unusedVariables false
set_option linter.unusedSimpArgs false
set_option maxRecDepth 100000

def one1 (x : Int) : List Value := [.int .i64 x]
theorem ints_fl (l : List Int) : ints l = fl one1 l := by
  induction l with
  | nil => rfl
  | cons x l ih => show Value.int .i64 x :: ints l = [.int .i64 x] ++ fl one1 l; rw [ih]; rfl

theorem open_ints {H : Type} {enc : TypeId × Value → H} {w : World} {base : Nat} {v : Value} {d : DataW H} {p : List MemPlace} (hv : Value.okWide Try.prog w .any base 38 v) (h : DataW.Trod enc Try.prog w 0 (fun _ => true) true 38 v d p) :
    ∃ l : List Int, SlAt w 1 v l.length (ints l) := by
  obtain ⟨A, n, c, rfl⟩ := okWide_slice Try.underlying38 hv
  obtain ⟨fuel, hf⟩ := h
  rcases open_slice Try.underlying38 (show DataW.trod enc Try.prog w 0 (fun _ => true) true fuel 38 [.slice A n c] = some (d, p) from hf) with ⟨hcs, _⟩ | ⟨a, len, cap, m, nn, D, Pl, hcs, hb, hl, hm, hmm, hx, hi⟩
  · simp at hcs
    obtain ⟨rfl, rfl, rfl⟩ := hcs
    exact ⟨[], SlAt.nil w 1⟩
  · simp at hcs
    obtain ⟨rfl, rfl, rfl⟩ := hcs
    have hnm : n ≤ m := by rw [hmm]; split <;> omega
    obtain ⟨l, hll, hP⟩ := list_of (P := fun i (x : Int) => w.cell? (a.add (i * 1)) = some (.int .i64 x)) n (fun i hin => by
      obtain ⟨cs', hc, ht'⟩ := hi i (by omega)
      rw [cellsInt] at hc
      obtain ⟨_, hcl, hat⟩ := World.cells?_some hc
      match cs', hcl with
      | [v0], _ =>
        obtain ⟨n0, e0, _, _⟩ := DataW.trod_int Try.underlying3 ht'
        simp only [List.cons.injEq, and_true] at e0
        subst e0
        refine ⟨n0, ?_⟩
        have := hat 0 (by decide)
        simpa [Addr.add] using this)
    refine ⟨l, some a, c, by rw [hll], by rw [hll]; exact hl, hm, ?_⟩
    rw [ints_fl]
    refine reads_of (f := one1) (k := 1) (fun _ => rfl) (by decide) (fun i x hx j u hj => ?_)
    have hj1 : j < 1 := (List.getElem?_eq_some_iff.1 hj).1
    obtain rfl : j = 0 := by omega
    have := hP i x hx
    cases hj
    exact this
end Go.Proofs.Ytfgkkflbpfocjaa

