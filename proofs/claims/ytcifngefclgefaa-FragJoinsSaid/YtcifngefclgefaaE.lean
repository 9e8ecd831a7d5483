/- Contract: the page of a byte. -/
import Derived.Test.YtcifngefclgefaaD
namespace Go.Proofs.Ytcifngefclgefaa
open Go.RowKit
set_option linter.unusedVariables false
set_option linter.unusedSimpArgs false

/-- the page of byte i, and the place on it -/
def RetAt (w : World) (gc i : Nat) (C : Nat → Option UInt8) (e : Ending) (w' : World) : Prop := ∃ g G, e = .returned (.tuple #[.pointer (some ⟨g, 0, none⟩), .int .i64 ((i % 1024 : Nat) : Int)]) ∧ CanG w' gc G C ∧ G (i / 1024) = some g ∧ Only (fun k => k = gc) w w'

set_option maxRecDepth 100000 in
set_option maxHeartbeats 2000000 in
theorem at_any (gc i : Nat) (hi : i < 20480) (G : Nat → Option Nat) (C : Nat → Option UInt8) (w : World) (h : CanG w gc G C) :
    Calls Try.prog 40 #[.pointer (some ⟨gc, 0, none⟩), .int .i64 i] w (RetAt w gc i C) := by
  obtain ⟨j, hj⟩ : ∃ j, i / 1024 = j := ⟨_, rfl⟩
  obtain ⟨k, hk⟩ : ∃ k, i % 1024 = k := ⟨_, rfl⟩
  have hj20 : j < 20 := by omega
  have e1 : (i : Int) / 1024 = j := by omega
  have e2 : (i : Int) % 1024 = k := by omega
  have e3 : (i : Int).tdiv 1024 = j := by rw [Int.tdiv_eq_ediv_of_nonneg (by omega)]; exact e1
  have e4 : (i : Int).tmod 1024 = k := by rw [Int.tmod_eq_emod_of_nonneg (by omega)]; exact e2
  have hji : (j : Int) < 20 := by omega
  have hj0 : (0 : Int) ≤ j := by omega
  have hi0 : (0 : Int) ≤ i := by omega
  have hii : (i : Int) < 20480 := by omega
  have HJ := Lib.hid hj
  have HK := Lib.hid hk
  have HC := Lib.hid h
  have ec := h.b.cell j
  rw [cvc_at _ hj20] at ec
  have fc := h.b.frozen j
  have hlc := h.b.lt
  clear hj hk h
  cases hG : G j with
  | some g =>
    rw [hG] at ec
    have HG := Lib.hid hG
    clear hG
    have ec' : w.cell? ⟨gc, j, none⟩ = some (.pointer (some ⟨g, 0, none⟩)) := ec
    clear ec
    go_enter Try.func40, Try.ntmps40
    go_wp2_with fail
    go_ret2
    exact ⟨g, G, by rw [HK.out]; rfl, HC.out, by rw [HJ.out]; exact HG.out, Only.refl _ _⟩
  | none =>
    rw [hG] at ec
    have HG := Lib.hid hG
    clear hG
    have ec' : w.cell? ⟨gc, j, none⟩ = some (.pointer none) := ec
    clear ec
    have KP := Lib.hid (HC.out.page j hj20 HG.out)
    have hzp := zeroPage
    have hbx := boxPage
    have hne : ¬ gc = w.heap.size := by omega
    have hne' : ¬ w.heap.size = gc := by omega
    go_enter Try.func40, Try.ntmps40
    go_wp2_with fail
    go_ret2
    exact ⟨w.heap.size, _, by rw [HK.out]; rfl, KP.out, by rw [HJ.out]; unfold putG; rw [if_pos rfl], ((Only.refl (fun k => k = gc) w).set (.inl rfl) _).alloc _⟩
end Go.Proofs.Ytcifngefclgefaa
