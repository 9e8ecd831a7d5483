/- Contracts: copies of slots, an opened ledger, what is usable, the floor. -/
import Derived.Test.YtdfppaafoecgmaaB
import Derived.Laws.AppendOwnNone
import Derived.Lib.SliceRun
namespace Go.Proofs.Ytdfppaafoecgmaa
open Go.RowKit
set_option linter.unusedVariables false
set_option linter.unusedSimpArgs false

def zslot : Value := .agg #[.int .u64 0, .int .u64 0, .int .i64 0, .int .u64 0, .int .i64 0]
theorem infoSlot : (Try.prog.info? 44).map (fun i => (i.zero, i.size, i.bytes)) = some (some (.agg #[.int .u64 0, .int .u64 0, .int .i64 0, .int .u64 0, .int .i64 0]), 5, 40) := by kernel_rfl

theorem reads_add {w : World} {size n : Nat} {b o : Nat} {xs : List Value} (h : Reads w size (some ⟨b, o, none⟩) n xs) : ∀ j u, xs[j]? = some u → w.cell? ((⟨b, o, none⟩ : Addr).add j) = some u := by
  intro j u hj
  have hn : 0 < n := by
    have := (List.getElem?_eq_some_iff.1 hj).1
    have := h.1
    rcases Nat.eq_zero_or_pos n with h0 | h0
    · subst h0; omega
    · exact h0
  obtain ⟨b', o', e, hb, hc⟩ := h.2 hn
  cases e
  have := hc j u hj
  by_cases h0 : j = 0
  · subst h0; simpa [Addr.add] using this
  · simpa [Addr.add, h0] using this
theorem flat_one (l : List Sl) : ∀ u ∈ flat l, u.oneCell' = true := by
  intro u hu
  obtain ⟨x, _, hx⟩ := List.mem_flatMap.1 hu
  simp [Sl.cells] at hx
  rcases hx with rfl | rfl | rfl | rfl | rfl <;> rfl

/-- a slice in memory of the call's own, with the slots l -/
def OwnL (w w' : World) (v : Value) (l : List Sl) : Prop := w'.ownsRow w.heap.size 44 5 v l.length (flat l)
def ClonePost (l : List Sl) (w : World) (e : Ending) (w' : World) : Prop := ∃ v', e = .returned v' ∧ OwnL w w' v' l ∧ Below w.heap.size w w'

set_option maxHeartbeats 1000000 in
theorem Clone_any (v : Value) (l : List Sl) (w : World) (hS : SlAt w 5 v l.length (flat l)) (hl : l.length ≤ 100000) :
    Calls Try.prog 49 #[v] w (ClonePost l w) := by
  obtain ⟨A, c, rfl, hc1, hc2, hR⟩ := hS
  obtain ⟨i0, hi, hz0, hz1, hz2⟩ := info_parts infoSlot
  have he := fun (w : World) (a : Option Addr) (n c : Nat) => Lib.run_eql_slice_nil w 24 44 a n c 0 0 Try.underlying24
  cases A with
  | none =>
    have h0 : l.length = 0 := by
      rcases Nat.eq_zero_or_pos l.length with h | h
      · exact h
      · obtain ⟨b, o, e, _⟩ := hR.2 h
        cases e
    have hn : l = [] := List.eq_nil_of_length_eq_zero h0
    subst hn
    clear h0 hR
    go_enter Try.func49, Try.ntmps49
    go_wp2_with fail
    go_ret
    exact ⟨_, rfl, World.ownsRow_nil _ _ _ _, Below.refl _ _⟩
  | some ad =>
    by_cases h0 : l.length = 0
    · have hn : l = [] := List.eq_nil_of_length_eq_zero h0
      subst hn
      clear h0 hR
      have hown := World.ownsRow_made (base := w.heap.size) (e := 44) (size := 5) w #[] 0 (Nat.le_refl _) (by unfold maxLen; omega) rfl
      have HO := Lib.hid hown
      clear hown
      go_enter Try.func49, Try.ntmps49
      go_wp2_with (first
        | (at_builtin; refine wpList_append_own _ rfl _ _ 24 rfl w.heap.size 44 i0 zslot 5 40 Try.underlying24 hi hz0 hz1 hz2 rfl (by decide) _ _ _ rfl HO.out ad 0 c [] rfl rfl (fun j u h => by simp at h) (fun u h => by simp at h) (by unfold maxLen; omega) (by omega) (by simp) ?_; intro v' w1 hown' hgrow _))
      go_ret
      exact ⟨_, rfl, hown', (bal (Below.refl _ _) _).grown hgrow (by simp) (fun k e => (HO.out.lt k e).1)⟩
    · obtain ⟨b, o, e, hb, _⟩ := hR.2 (by omega)
      cases e
      have hown := World.ownsRow_made (base := w.heap.size) (e := 44) (size := 5) w #[] 0 (Nat.le_refl _) (by unfold maxLen; omega) rfl
      have HO := Lib.hid hown
      have HR : Hid (Reads (w.alloc (.cells #[] 44)) 5 (some ⟨b, o, none⟩) l.length (flat l)) := Lib.hid (hR.keep (by simp) fun b o h => oldcell _ h o)
      clear hown h0 hR
      go_enter Try.func49, Try.ntmps49
      go_wp2_with (first
        | (at_builtin; refine wpList_append_own _ rfl _ _ 24 rfl w.heap.size 44 i0 zslot 5 40 Try.underlying24 hi hz0 hz1 hz2 rfl (by decide) _ _ _ rfl HO.out ⟨b, o, none⟩ l.length c (flat l) rfl (flat_len l) (reads_add HR.out) (flat_one l) (by unfold maxLen; omega) (by omega) (by simp) ?_; intro v' w1 hown' hgrow _))
      go_ret
      exact ⟨_, rfl, by simpa [OwnL] using hown', (bal (Below.refl _ _) _).grown hgrow (by simp) (fun k e => (HO.out.lt k e).1)⟩

/-- what an opened ledger is -/
def opn (s : Led) : Led := if okL s then s else ⟨0, 0, 0, []⟩
def OpenPost (s : Led) (w : World) (e : Ending) (w' : World) : Prop :=
  ∃ v', e = .returned (.tuple #[.agg #[.int .u64 (opn s).g, .int .u64 (opn s).n, .int .u64 (opn s).r, v'], .int .i64 (chk s).1]) ∧ OwnL w w' v' (opn s).sl ∧ Below w.heap.size w w'
