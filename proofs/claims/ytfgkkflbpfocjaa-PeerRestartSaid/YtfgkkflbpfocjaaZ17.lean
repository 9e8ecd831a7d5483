/- The examples of PeerKnown: what they are. -/
import Derived.Test.YtfgkkflbpfocjaaZ14
import Derived.Test.YtfgkkflbpfocjaaZ7
namespace Go.Proofs.Ytfgkkflbpfocjaa
open Go.RowKit
set_option linter.unusedVariables false
set_option linter.unusedSimpArgs false

def p3 : Pr := ⟨2, 8, true, 0, zSend, zRec⟩
def pq : Pr := ⟨2, 8, true, 0, zSend, ⟨100, 0, 0, [⟨0, 30⟩], []⟩⟩
def pr : Pr := ⟨2, 8, false, 70, zSend, zRec⟩
theorem kn1 : metE p2 4 (grt 6 4) = 0 := by kernel_rfl
theorem kn2 : met p2 4 (grt 6 4) = (p2, 1, false) := by kernel_rfl
theorem kn3 : metE p2 4 (hlo 8 4) = 0 := by kernel_rfl
theorem kn4 : met p2 4 (hlo 8 4) = (p3, 3, true) := by kernel_rfl
theorem kn5 : metE p3 4 (hlo 8 3) = 0 := by kernel_rfl
theorem kn6 : met p3 4 (hlo 8 3) = (p3, 2, true) := by kernel_rfl
theorem kn7 : gfr p3 1 4 1 0 0 = ⟨1, 1, 2, 4, 8, 0, 0, 0, 0, 0, zBn⟩ := by kernel_rfl
theorem kn8 : begE p3 1 4 1 = 0 := by kernel_rfl
theorem kn9 : begE p0 1 4 2 = 13 := by kernel_rfl
theorem kn10 : gfr p0 1 4 2 p0.r.g 0 = zFr := by kernel_rfl
theorem kn11 : hlE pq = 70 := by kernel_rfl
theorem kn12 : chkP pq = 0 := by kernel_rfl
theorem kn13 : rstE pq = (pr, 0) := by kernel_rfl
theorem kn14 : hlE pr = 70 := by kernel_rfl
theorem kn15 : chkP pr = 0 := by kernel_rfl
theorem kn16 : metE pr 4 (grt 8 4) = 0 := by kernel_rfl
theorem kn17 : met pr 4 (grt 8 4) = (p3, 3, false) := by kernel_rfl
theorem kn18 : hlE p3 = 0 := by kernel_rfl
theorem kn19 : chkP p3 = 0 := by kernel_rfl
theorem wfP_pr : WfP pr := wfP_small 2 8 false 70 (by decide) (by decide)
theorem wfP_pq : WfP pq := ⟨by decide, by decide, wf_z, ⟨by decide, by decide, by decide, (by intro x hx; simp only [pq, List.mem_singleton] at hx; subst hx; decide), (fun x hx => by cases hx)⟩⟩

set_option maxRecDepth 100000 in
set_option maxHeartbeats 1000000 in
theorem held_raw (node th old : Int) (su : Bool) (g n r : Int) (S cs : Nat) (As : Option Addr) (a b f : Int) (T ct : Nat) (At : Option Addr) (K ck : Nat) (Ak : Option Addr) (want : Int) (w : World)
    (HE : ∀ w', Below w.heap.size w w' → Calls Try.prog 26 #[.agg #[.int .i64 node, .int .u64 th, .bool su, .int .u64 old, .int .u64 g, .int .u64 n, .int .u64 r, .slice As S cs, .int .u64 a, .int .u64 b, .int .u64 f, .slice At T ct, .slice Ak K ck]] w' (Ret2 .u64 .i64 want 0 w')) :
    Calls Try.prog 28 #[.agg #[.int .i64 node, .int .u64 th, .bool su, .int .u64 old, .int .u64 g, .int .u64 n, .int .u64 r, .slice As S cs, .int .u64 a, .int .u64 b, .int .u64 f, .slice At T ct, .slice Ak K ck], .int .u64 want] w (RetB true w) := by
  have HE' := Lib.hid HE
  clear HE
  go_enter Try.func28, Try.ntmps28
  go_upto_region 1 with fail
  have k0 := Blk.new w 31 #[.int .i64 node, .int .u64 th, .bool su, .int .u64 old, .int .u64 g, .int .u64 n, .int .u64 r, .slice As S cs, .int .u64 a, .int .u64 b, .int .u64 f, .slice At T ct, .slice Ak K ck]
  have hB := bal (Below.refl w.heap.size w) (.cells #[.int .i64 node, .int .u64 th, .bool su, .int .u64 old, .int .u64 g, .int .u64 n, .int .u64 r, .slice As S cs, .int .u64 a, .int .u64 b, .int .u64 f, .slice At T ct, .slice Ak K ck] 31)
  go_wp2_with (refine wpList_load_row (by rfl) 31 _ (by rfl) w.heap.size (by rfl) 31 #[.int .i64 node, .int .u64 th, .bool su, .int .u64 old, .int .u64 g, .int .u64 n, .int .u64 r, .slice As S cs, .int .u64 a, .int .u64 b, .int .u64 f, .slice At T ct, .slice Ak K ck] (0, 0) _ k0 Try.underlying31 (by rfl) (by kernel_rfl) ?_)
  refine (HE'.out _ hB).mono ?_
  rintro e w1 ⟨rfl, hb⟩
  go_wp2_with fail
  go_ret
  exact ⟨rfl, bnext hB hb⟩
theorem held_true (p : Pr) (hw : WfP p) (want : Int) (h1 : hlE p = want) (h2 : chkP p = 0) (V : Value) (w : World) (hV : PrAt w V p) : Calls Try.prog 28 #[V, .int .u64 want] w (RetB true w) := by
  have HE : ∀ w', Below w.heap.size w w' → Calls Try.prog 26 #[V] w' (Ret2 .u64 .i64 want 0 w') := fun w' hb => by
    have := pHeld_any p hw V w' (hV.below hb)
    rwa [h1, h2] at this
  obtain ⟨vs, vt, vk, rfl, hs, ht, hk⟩ := hV
  obtain ⟨As, cs, rfl⟩ := hs.form
  obtain ⟨At, ct, rfl⟩ := ht.form
  obtain ⟨Ak, ck, rfl⟩ := hk.form
  exact held_raw _ _ _ _ _ _ _ _ _ _ _ _ _ _ _ _ _ _ _ want w HE
end Go.Proofs.Ytfgkkflbpfocjaa

