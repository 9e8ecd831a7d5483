/- Whether the credit inequality holds (the reference). -/
import Derived.Test.YtfgkkflbpfocjaaZ7
import Derived.Test.YtfgkkflbpfocjaaZ8
namespace Go.Proofs.Ytfgkkflbpfocjaa
open Go.RowKit
set_option linter.unusedVariables false
set_option linter.unusedSimpArgs false

set_option maxRecDepth 100000 in
set_option maxHeartbeats 4000000 in
theorem rh_s (node th old : Int) (su : Bool) (g n r : Int) (S cs : Nat) (As : Option Addr) (a b f : Int) (T ct : Nat) (At : Option Addr) (K ck : Nat) (Ak : Option Addr) (node' th' old' : Int) (su' : Bool) (g' n' r' : Int) (S' cs' : Nat) (As' : Option Addr) (a' b' f' : Int) (T' ct' : Nat) (At' : Option Addr) (K' ck' : Nat) (Ak' : Option Addr) (bs br : Int) (w : World) (ce : Int) (CS : ∀ w', Below w.heap.size w w' → Calls Try.prog 21 #[.agg #[.int .i64 node, .int .u64 th, .bool su, .int .u64 old, .int .u64 g, .int .u64 n, .int .u64 r, .slice As S cs, .int .u64 a, .int .u64 b, .int .u64 f, .slice At T ct, .slice Ak K ck]] w' (RetI .i64 ce w')) (h0 : ce ≠ 0) :
    Calls Try.prog 14 #[.agg #[.int .i64 node, .int .u64 th, .bool su, .int .u64 old, .int .u64 g, .int .u64 n, .int .u64 r, .slice As S cs, .int .u64 a, .int .u64 b, .int .u64 f, .slice At T ct, .slice Ak K ck], .int .u64 bs, .agg #[.int .i64 node', .int .u64 th', .bool su', .int .u64 old', .int .u64 g', .int .u64 n', .int .u64 r', .slice As' S' cs', .int .u64 a', .int .u64 b', .int .u64 f', .slice At' T' ct', .slice Ak' K' ck'], .int .u64 br] w (fun e w' => e = .returned (.tuple #[.bool false, .int .i64 ce]) ∧ Below w.heap.size w w') := by
  have CS' := Lib.hid CS
  clear CS
  have e1 : (ce == 0) = false := by simpa using h0
  have e2 : (ce != 0) = true := by simpa using h0
  clear h0
  go_enter Try.func14, Try.ntmps14
  go_upto_region 1 with fail
  have k0 : BK2 w w.heap.size 31 #[.int .i64 node, .int .u64 th, .bool su, .int .u64 old, .int .u64 g, .int .u64 n, .int .u64 r, .slice As S cs, .int .u64 a, .int .u64 b, .int .u64 f, .slice At T ct, .slice Ak K ck] (w.heap.size + 1) 31 #[.int .i64 node', .int .u64 th', .bool su', .int .u64 old', .int .u64 g', .int .u64 n', .int .u64 r', .slice As' S' cs', .int .u64 a', .int .u64 b', .int .u64 f', .slice At' T' ct', .slice Ak' K' ck'] _ := ⟨(Blk.new w 31 #[.int .i64 node, .int .u64 th, .bool su, .int .u64 old, .int .u64 g, .int .u64 n, .int .u64 r, .slice As S cs, .int .u64 a, .int .u64 b, .int .u64 f, .slice At T ct, .slice Ak K ck]).alloc (.cells #[.int .i64 node', .int .u64 th', .bool su', .int .u64 old', .int .u64 g', .int .u64 n', .int .u64 r', .slice As' S' cs', .int .u64 a', .int .u64 b', .int .u64 f', .slice At' T' ct', .slice Ak' K' ck'] 31), Blk.new1 w (.cells #[.int .i64 node, .int .u64 th, .bool su, .int .u64 old, .int .u64 g, .int .u64 n, .int .u64 r, .slice As S cs, .int .u64 a, .int .u64 b, .int .u64 f, .slice At T ct, .slice Ak K ck] 31) 31 #[.int .i64 node', .int .u64 th', .bool su', .int .u64 old', .int .u64 g', .int .u64 n', .int .u64 r', .slice As' S' cs', .int .u64 a', .int .u64 b', .int .u64 f', .slice At' T' ct', .slice Ak' K' ck'], bal (bal (Below.refl _ _) (.cells #[.int .i64 node, .int .u64 th, .bool su, .int .u64 old, .int .u64 g, .int .u64 n, .int .u64 r, .slice As S cs, .int .u64 a, .int .u64 b, .int .u64 f, .slice At T ct, .slice Ak K ck] 31)) (.cells #[.int .i64 node', .int .u64 th', .bool su', .int .u64 old', .int .u64 g', .int .u64 n', .int .u64 r', .slice As' S' cs', .int .u64 a', .int .u64 b', .int .u64 f', .slice At' T' ct', .slice Ak' K' ck'] 31)⟩
  obtain ⟨g1, hg1⟩ : ∃ g1, w.heap.size + 1 = g1 := ⟨_, rfl⟩
  rw [hg1] at k0 ⊢
  clear hg1
  obtain ⟨g0, hg0⟩ : ∃ g0, w.heap.size = g0 := ⟨_, rfl⟩
  rw [hg0] at k0 ⊢
  clear hg0
  generalize (w.alloc (.cells #[.int .i64 node, .int .u64 th, .bool su, .int .u64 old, .int .u64 g, .int .u64 n, .int .u64 r, .slice As S cs, .int .u64 a, .int .u64 b, .int .u64 f, .slice At T ct, .slice Ak K ck] 31)).alloc (.cells #[.int .i64 node', .int .u64 th', .bool su', .int .u64 old', .int .u64 g', .int .u64 n', .int .u64 r', .slice As' S' cs', .int .u64 a', .int .u64 b', .int .u64 f', .slice At' T' ct', .slice Ak' K' ck'] 31) = w1 at k0 ⊢
  have K1 := Lib.hid k0
  have kb := k0.b
  have kc := k0.c
  clear k0
  go_wp2_with (first | (refine wpList_load_row (by rfl) 31 _ (by rfl) g0 (by rfl) 31 #[.int .i64 node, .int .u64 th, .bool su, .int .u64 old, .int .u64 g, .int .u64 n, .int .u64 r, .slice As S cs, .int .u64 a, .int .u64 b, .int .u64 f, .slice At T ct, .slice Ak K ck] (0, 0) _ kb Try.underlying31 (by rfl) (by kernel_rfl) ?_) | (refine wpList_load_row (by rfl) 31 _ (by rfl) g1 (by rfl) 31 #[.int .i64 node', .int .u64 th', .bool su', .int .u64 old', .int .u64 g', .int .u64 n', .int .u64 r', .slice As' S' cs', .int .u64 a', .int .u64 b', .int .u64 f', .slice At' T' ct', .slice Ak' K' ck'] (0, 0) _ kc Try.underlying31 (by rfl) (by kernel_rfl) ?_))
  refine (CS'.out _ K1.out.hB).mono ?_
  rintro e w2 ⟨rfl, hb⟩
  have kk := K1.out.below hb
  clear K1 kb kc hb
  have kb := kk.b
  have kc := kk.c
  have K1 := Lib.hid kk
  clear kk
  go_wp2_with (first | (refine wpList_load_row (by rfl) 31 _ (by rfl) g0 (by rfl) 31 #[.int .i64 node, .int .u64 th, .bool su, .int .u64 old, .int .u64 g, .int .u64 n, .int .u64 r, .slice As S cs, .int .u64 a, .int .u64 b, .int .u64 f, .slice At T ct, .slice Ak K ck] (0, 0) _ kb Try.underlying31 (by rfl) (by kernel_rfl) ?_) | (refine wpList_load_row (by rfl) 31 _ (by rfl) g1 (by rfl) 31 #[.int .i64 node', .int .u64 th', .bool su', .int .u64 old', .int .u64 g', .int .u64 n', .int .u64 r', .slice As' S' cs', .int .u64 a', .int .u64 b', .int .u64 f', .slice At' T' ct', .slice Ak' K' ck'] (0, 0) _ kc Try.underlying31 (by rfl) (by kernel_rfl) ?_))
  go_ret2
  exact ⟨rfl, K1.out.hB⟩

set_option maxRecDepth 100000 in
set_option maxHeartbeats 4000000 in
theorem rh_r (node th old : Int) (su : Bool) (g n r : Int) (S cs : Nat) (As : Option Addr) (a b f : Int) (T ct : Nat) (At : Option Addr) (K ck : Nat) (Ak : Option Addr) (node' th' old' : Int) (su' : Bool) (g' n' r' : Int) (S' cs' : Nat) (As' : Option Addr) (a' b' f' : Int) (T' ct' : Nat) (At' : Option Addr) (K' ck' : Nat) (Ak' : Option Addr) (bs br : Int) (w : World) (ce : Int) (CS : ∀ w', Below w.heap.size w w' → Calls Try.prog 21 #[.agg #[.int .i64 node, .int .u64 th, .bool su, .int .u64 old, .int .u64 g, .int .u64 n, .int .u64 r, .slice As S cs, .int .u64 a, .int .u64 b, .int .u64 f, .slice At T ct, .slice Ak K ck]] w' (RetI .i64 0 w')) (CR : ∀ w', Below w.heap.size w w' → Calls Try.prog 21 #[.agg #[.int .i64 node', .int .u64 th', .bool su', .int .u64 old', .int .u64 g', .int .u64 n', .int .u64 r', .slice As' S' cs', .int .u64 a', .int .u64 b', .int .u64 f', .slice At' T' ct', .slice Ak' K' ck']] w' (RetI .i64 ce w')) (h0 : ce ≠ 0) :
    Calls Try.prog 14 #[.agg #[.int .i64 node, .int .u64 th, .bool su, .int .u64 old, .int .u64 g, .int .u64 n, .int .u64 r, .slice As S cs, .int .u64 a, .int .u64 b, .int .u64 f, .slice At T ct, .slice Ak K ck], .int .u64 bs, .agg #[.int .i64 node', .int .u64 th', .bool su', .int .u64 old', .int .u64 g', .int .u64 n', .int .u64 r', .slice As' S' cs', .int .u64 a', .int .u64 b', .int .u64 f', .slice At' T' ct', .slice Ak' K' ck'], .int .u64 br] w (fun e w' => e = .returned (.tuple #[.bool false, .int .i64 ce]) ∧ Below w.heap.size w w') := by
  have CS' := Lib.hid CS
  clear CS
  have CR' := Lib.hid CR
  clear CR
  have e1 : (ce == 0) = false := by simpa using h0
  have e2 : (ce != 0) = true := by simpa using h0
  clear h0
  go_enter Try.func14, Try.ntmps14
  go_upto_region 1 with fail
  have k0 : BK2 w w.heap.size 31 #[.int .i64 node, .int .u64 th, .bool su, .int .u64 old, .int .u64 g, .int .u64 n, .int .u64 r, .slice As S cs, .int .u64 a, .int .u64 b, .int .u64 f, .slice At T ct, .slice Ak K ck] (w.heap.size + 1) 31 #[.int .i64 node', .int .u64 th', .bool su', .int .u64 old', .int .u64 g', .int .u64 n', .int .u64 r', .slice As' S' cs', .int .u64 a', .int .u64 b', .int .u64 f', .slice At' T' ct', .slice Ak' K' ck'] _ := ⟨(Blk.new w 31 #[.int .i64 node, .int .u64 th, .bool su, .int .u64 old, .int .u64 g, .int .u64 n, .int .u64 r, .slice As S cs, .int .u64 a, .int .u64 b, .int .u64 f, .slice At T ct, .slice Ak K ck]).alloc (.cells #[.int .i64 node', .int .u64 th', .bool su', .int .u64 old', .int .u64 g', .int .u64 n', .int .u64 r', .slice As' S' cs', .int .u64 a', .int .u64 b', .int .u64 f', .slice At' T' ct', .slice Ak' K' ck'] 31), Blk.new1 w (.cells #[.int .i64 node, .int .u64 th, .bool su, .int .u64 old, .int .u64 g, .int .u64 n, .int .u64 r, .slice As S cs, .int .u64 a, .int .u64 b, .int .u64 f, .slice At T ct, .slice Ak K ck] 31) 31 #[.int .i64 node', .int .u64 th', .bool su', .int .u64 old', .int .u64 g', .int .u64 n', .int .u64 r', .slice As' S' cs', .int .u64 a', .int .u64 b', .int .u64 f', .slice At' T' ct', .slice Ak' K' ck'], bal (bal (Below.refl _ _) (.cells #[.int .i64 node, .int .u64 th, .bool su, .int .u64 old, .int .u64 g, .int .u64 n, .int .u64 r, .slice As S cs, .int .u64 a, .int .u64 b, .int .u64 f, .slice At T ct, .slice Ak K ck] 31)) (.cells #[.int .i64 node', .int .u64 th', .bool su', .int .u64 old', .int .u64 g', .int .u64 n', .int .u64 r', .slice As' S' cs', .int .u64 a', .int .u64 b', .int .u64 f', .slice At' T' ct', .slice Ak' K' ck'] 31)⟩
  obtain ⟨g1, hg1⟩ : ∃ g1, w.heap.size + 1 = g1 := ⟨_, rfl⟩
  rw [hg1] at k0 ⊢
  clear hg1
  obtain ⟨g0, hg0⟩ : ∃ g0, w.heap.size = g0 := ⟨_, rfl⟩
  rw [hg0] at k0 ⊢
  clear hg0
  generalize (w.alloc (.cells #[.int .i64 node, .int .u64 th, .bool su, .int .u64 old, .int .u64 g, .int .u64 n, .int .u64 r, .slice As S cs, .int .u64 a, .int .u64 b, .int .u64 f, .slice At T ct, .slice Ak K ck] 31)).alloc (.cells #[.int .i64 node', .int .u64 th', .bool su', .int .u64 old', .int .u64 g', .int .u64 n', .int .u64 r', .slice As' S' cs', .int .u64 a', .int .u64 b', .int .u64 f', .slice At' T' ct', .slice Ak' K' ck'] 31) = w1 at k0 ⊢
  have K1 := Lib.hid k0
  have kb := k0.b
  have kc := k0.c
  clear k0
  go_wp2_with (first | (refine wpList_load_row (by rfl) 31 _ (by rfl) g0 (by rfl) 31 #[.int .i64 node, .int .u64 th, .bool su, .int .u64 old, .int .u64 g, .int .u64 n, .int .u64 r, .slice As S cs, .int .u64 a, .int .u64 b, .int .u64 f, .slice At T ct, .slice Ak K ck] (0, 0) _ kb Try.underlying31 (by rfl) (by kernel_rfl) ?_) | (refine wpList_load_row (by rfl) 31 _ (by rfl) g1 (by rfl) 31 #[.int .i64 node', .int .u64 th', .bool su', .int .u64 old', .int .u64 g', .int .u64 n', .int .u64 r', .slice As' S' cs', .int .u64 a', .int .u64 b', .int .u64 f', .slice At' T' ct', .slice Ak' K' ck'] (0, 0) _ kc Try.underlying31 (by rfl) (by kernel_rfl) ?_))
  refine (CS'.out _ K1.out.hB).mono ?_
  rintro e w2 ⟨rfl, hb⟩
  have kk := K1.out.below hb
  clear K1 kb kc hb
  have kb := kk.b
  have kc := kk.c
  have K1 := Lib.hid kk
  clear kk
  go_wp2_with (first | (refine wpList_load_row (by rfl) 31 _ (by rfl) g0 (by rfl) 31 #[.int .i64 node, .int .u64 th, .bool su, .int .u64 old, .int .u64 g, .int .u64 n, .int .u64 r, .slice As S cs, .int .u64 a, .int .u64 b, .int .u64 f, .slice At T ct, .slice Ak K ck] (0, 0) _ kb Try.underlying31 (by rfl) (by kernel_rfl) ?_) | (refine wpList_load_row (by rfl) 31 _ (by rfl) g1 (by rfl) 31 #[.int .i64 node', .int .u64 th', .bool su', .int .u64 old', .int .u64 g', .int .u64 n', .int .u64 r', .slice As' S' cs', .int .u64 a', .int .u64 b', .int .u64 f', .slice At' T' ct', .slice Ak' K' ck'] (0, 0) _ kc Try.underlying31 (by rfl) (by kernel_rfl) ?_))
  refine (CR'.out _ K1.out.hB).mono ?_
  rintro e w3 ⟨rfl, hb⟩
  have kk := K1.out.below hb
  clear K1 kb kc hb
  have kb := kk.b
  have kc := kk.c
  have K1 := Lib.hid kk
  clear kk
  go_wp2_with (first | (refine wpList_load_row (by rfl) 31 _ (by rfl) g0 (by rfl) 31 #[.int .i64 node, .int .u64 th, .bool su, .int .u64 old, .int .u64 g, .int .u64 n, .int .u64 r, .slice As S cs, .int .u64 a, .int .u64 b, .int .u64 f, .slice At T ct, .slice Ak K ck] (0, 0) _ kb Try.underlying31 (by rfl) (by kernel_rfl) ?_) | (refine wpList_load_row (by rfl) 31 _ (by rfl) g1 (by rfl) 31 #[.int .i64 node', .int .u64 th', .bool su', .int .u64 old', .int .u64 g', .int .u64 n', .int .u64 r', .slice As' S' cs', .int .u64 a', .int .u64 b', .int .u64 f', .slice At' T' ct', .slice Ak' K' ck'] (0, 0) _ kc Try.underlying31 (by rfl) (by kernel_rfl) ?_))
  go_ret2
  exact ⟨rfl, K1.out.hB⟩

set_option maxRecDepth 100000 in
set_option maxHeartbeats 4000000 in
theorem rh_bs (node th old : Int) (su : Bool) (g n r : Int) (S cs : Nat) (As : Option Addr) (a b f : Int) (T ct : Nat) (At : Option Addr) (K ck : Nat) (Ak : Option Addr) (node' th' old' : Int) (su' : Bool) (g' n' r' : Int) (S' cs' : Nat) (As' : Option Addr) (a' b' f' : Int) (T' ct' : Nat) (At' : Option Addr) (K' ck' : Nat) (Ak' : Option Addr) (bs br : Int) (w : World) (CS : ∀ w', Below w.heap.size w w' → Calls Try.prog 21 #[.agg #[.int .i64 node, .int .u64 th, .bool su, .int .u64 old, .int .u64 g, .int .u64 n, .int .u64 r, .slice As S cs, .int .u64 a, .int .u64 b, .int .u64 f, .slice At T ct, .slice Ak K ck]] w' (RetI .i64 0 w')) (CR : ∀ w', Below w.heap.size w w' → Calls Try.prog 21 #[.agg #[.int .i64 node', .int .u64 th', .bool su', .int .u64 old', .int .u64 g', .int .u64 n', .int .u64 r', .slice As' S' cs', .int .u64 a', .int .u64 b', .int .u64 f', .slice At' T' ct', .slice Ak' K' ck']] w' (RetI .i64 0 w')) (BS : ∀ w, Calls Try.prog 42 #[.int .u64 bs] w (RetI .i64 2 w)) :
    Calls Try.prog 14 #[.agg #[.int .i64 node, .int .u64 th, .bool su, .int .u64 old, .int .u64 g, .int .u64 n, .int .u64 r, .slice As S cs, .int .u64 a, .int .u64 b, .int .u64 f, .slice At T ct, .slice Ak K ck], .int .u64 bs, .agg #[.int .i64 node', .int .u64 th', .bool su', .int .u64 old', .int .u64 g', .int .u64 n', .int .u64 r', .slice As' S' cs', .int .u64 a', .int .u64 b', .int .u64 f', .slice At' T' ct', .slice Ak' K' ck'], .int .u64 br] w (fun e w' => e = .returned (.tuple #[.bool false, .int .i64 2]) ∧ Below w.heap.size w w') := by
  have CS' := Lib.hid CS
  clear CS
  have CR' := Lib.hid CR
  clear CR
  have BS' := Lib.hid BS
  clear BS
  go_enter Try.func14, Try.ntmps14
  go_upto_region 1 with fail
  have k0 : BK2 w w.heap.size 31 #[.int .i64 node, .int .u64 th, .bool su, .int .u64 old, .int .u64 g, .int .u64 n, .int .u64 r, .slice As S cs, .int .u64 a, .int .u64 b, .int .u64 f, .slice At T ct, .slice Ak K ck] (w.heap.size + 1) 31 #[.int .i64 node', .int .u64 th', .bool su', .int .u64 old', .int .u64 g', .int .u64 n', .int .u64 r', .slice As' S' cs', .int .u64 a', .int .u64 b', .int .u64 f', .slice At' T' ct', .slice Ak' K' ck'] _ := ⟨(Blk.new w 31 #[.int .i64 node, .int .u64 th, .bool su, .int .u64 old, .int .u64 g, .int .u64 n, .int .u64 r, .slice As S cs, .int .u64 a, .int .u64 b, .int .u64 f, .slice At T ct, .slice Ak K ck]).alloc (.cells #[.int .i64 node', .int .u64 th', .bool su', .int .u64 old', .int .u64 g', .int .u64 n', .int .u64 r', .slice As' S' cs', .int .u64 a', .int .u64 b', .int .u64 f', .slice At' T' ct', .slice Ak' K' ck'] 31), Blk.new1 w (.cells #[.int .i64 node, .int .u64 th, .bool su, .int .u64 old, .int .u64 g, .int .u64 n, .int .u64 r, .slice As S cs, .int .u64 a, .int .u64 b, .int .u64 f, .slice At T ct, .slice Ak K ck] 31) 31 #[.int .i64 node', .int .u64 th', .bool su', .int .u64 old', .int .u64 g', .int .u64 n', .int .u64 r', .slice As' S' cs', .int .u64 a', .int .u64 b', .int .u64 f', .slice At' T' ct', .slice Ak' K' ck'], bal (bal (Below.refl _ _) (.cells #[.int .i64 node, .int .u64 th, .bool su, .int .u64 old, .int .u64 g, .int .u64 n, .int .u64 r, .slice As S cs, .int .u64 a, .int .u64 b, .int .u64 f, .slice At T ct, .slice Ak K ck] 31)) (.cells #[.int .i64 node', .int .u64 th', .bool su', .int .u64 old', .int .u64 g', .int .u64 n', .int .u64 r', .slice As' S' cs', .int .u64 a', .int .u64 b', .int .u64 f', .slice At' T' ct', .slice Ak' K' ck'] 31)⟩
  obtain ⟨g1, hg1⟩ : ∃ g1, w.heap.size + 1 = g1 := ⟨_, rfl⟩
  rw [hg1] at k0 ⊢
  clear hg1
  obtain ⟨g0, hg0⟩ : ∃ g0, w.heap.size = g0 := ⟨_, rfl⟩
  rw [hg0] at k0 ⊢
  clear hg0
  generalize (w.alloc (.cells #[.int .i64 node, .int .u64 th, .bool su, .int .u64 old, .int .u64 g, .int .u64 n, .int .u64 r, .slice As S cs, .int .u64 a, .int .u64 b, .int .u64 f, .slice At T ct, .slice Ak K ck] 31)).alloc (.cells #[.int .i64 node', .int .u64 th', .bool su', .int .u64 old', .int .u64 g', .int .u64 n', .int .u64 r', .slice As' S' cs', .int .u64 a', .int .u64 b', .int .u64 f', .slice At' T' ct', .slice Ak' K' ck'] 31) = w1 at k0 ⊢
  have K1 := Lib.hid k0
  have kb := k0.b
  have kc := k0.c
  clear k0
  go_wp2_with (first | (refine wpList_load_row (by rfl) 31 _ (by rfl) g0 (by rfl) 31 #[.int .i64 node, .int .u64 th, .bool su, .int .u64 old, .int .u64 g, .int .u64 n, .int .u64 r, .slice As S cs, .int .u64 a, .int .u64 b, .int .u64 f, .slice At T ct, .slice Ak K ck] (0, 0) _ kb Try.underlying31 (by rfl) (by kernel_rfl) ?_) | (refine wpList_load_row (by rfl) 31 _ (by rfl) g1 (by rfl) 31 #[.int .i64 node', .int .u64 th', .bool su', .int .u64 old', .int .u64 g', .int .u64 n', .int .u64 r', .slice As' S' cs', .int .u64 a', .int .u64 b', .int .u64 f', .slice At' T' ct', .slice Ak' K' ck'] (0, 0) _ kc Try.underlying31 (by rfl) (by kernel_rfl) ?_))
  refine (CS'.out _ K1.out.hB).mono ?_
  rintro e w2 ⟨rfl, hb⟩
  have kk := K1.out.below hb
  clear K1 kb kc hb
  have kb := kk.b
  have kc := kk.c
  have K1 := Lib.hid kk
  clear kk
  go_wp2_with (first | (refine wpList_load_row (by rfl) 31 _ (by rfl) g0 (by rfl) 31 #[.int .i64 node, .int .u64 th, .bool su, .int .u64 old, .int .u64 g, .int .u64 n, .int .u64 r, .slice As S cs, .int .u64 a, .int .u64 b, .int .u64 f, .slice At T ct, .slice Ak K ck] (0, 0) _ kb Try.underlying31 (by rfl) (by kernel_rfl) ?_) | (refine wpList_load_row (by rfl) 31 _ (by rfl) g1 (by rfl) 31 #[.int .i64 node', .int .u64 th', .bool su', .int .u64 old', .int .u64 g', .int .u64 n', .int .u64 r', .slice As' S' cs', .int .u64 a', .int .u64 b', .int .u64 f', .slice At' T' ct', .slice Ak' K' ck'] (0, 0) _ kc Try.underlying31 (by rfl) (by kernel_rfl) ?_))
  refine (CR'.out _ K1.out.hB).mono ?_
  rintro e w3 ⟨rfl, hb⟩
  have kk := K1.out.below hb
  clear K1 kb kc hb
  have kb := kk.b
  have kc := kk.c
  have K1 := Lib.hid kk
  clear kk
  go_wp2_with (first | (refine wpList_load_row (by rfl) 31 _ (by rfl) g0 (by rfl) 31 #[.int .i64 node, .int .u64 th, .bool su, .int .u64 old, .int .u64 g, .int .u64 n, .int .u64 r, .slice As S cs, .int .u64 a, .int .u64 b, .int .u64 f, .slice At T ct, .slice Ak K ck] (0, 0) _ kb Try.underlying31 (by rfl) (by kernel_rfl) ?_) | (refine wpList_load_row (by rfl) 31 _ (by rfl) g1 (by rfl) 31 #[.int .i64 node', .int .u64 th', .bool su', .int .u64 old', .int .u64 g', .int .u64 n', .int .u64 r', .slice As' S' cs', .int .u64 a', .int .u64 b', .int .u64 f', .slice At' T' ct', .slice Ak' K' ck'] (0, 0) _ kc Try.underlying31 (by rfl) (by kernel_rfl) ?_))
  refine (BS'.out _).mono ?_
  rintro e w4 ⟨rfl, hb⟩
  have kk := K1.out.below hb
  clear K1 kb kc hb
  have kb := kk.b
  have kc := kk.c
  have K1 := Lib.hid kk
  clear kk
  go_wp2_with (first | (refine wpList_load_row (by rfl) 31 _ (by rfl) g0 (by rfl) 31 #[.int .i64 node, .int .u64 th, .bool su, .int .u64 old, .int .u64 g, .int .u64 n, .int .u64 r, .slice As S cs, .int .u64 a, .int .u64 b, .int .u64 f, .slice At T ct, .slice Ak K ck] (0, 0) _ kb Try.underlying31 (by rfl) (by kernel_rfl) ?_) | (refine wpList_load_row (by rfl) 31 _ (by rfl) g1 (by rfl) 31 #[.int .i64 node', .int .u64 th', .bool su', .int .u64 old', .int .u64 g', .int .u64 n', .int .u64 r', .slice As' S' cs', .int .u64 a', .int .u64 b', .int .u64 f', .slice At' T' ct', .slice Ak' K' ck'] (0, 0) _ kc Try.underlying31 (by rfl) (by kernel_rfl) ?_))
  go_ret2
  exact ⟨rfl, K1.out.hB⟩

set_option maxRecDepth 100000 in
set_option maxHeartbeats 4000000 in
theorem rh_br (node th old : Int) (su : Bool) (g n r : Int) (S cs : Nat) (As : Option Addr) (a b f : Int) (T ct : Nat) (At : Option Addr) (K ck : Nat) (Ak : Option Addr) (node' th' old' : Int) (su' : Bool) (g' n' r' : Int) (S' cs' : Nat) (As' : Option Addr) (a' b' f' : Int) (T' ct' : Nat) (At' : Option Addr) (K' ck' : Nat) (Ak' : Option Addr) (bs br : Int) (w : World) (CS : ∀ w', Below w.heap.size w w' → Calls Try.prog 21 #[.agg #[.int .i64 node, .int .u64 th, .bool su, .int .u64 old, .int .u64 g, .int .u64 n, .int .u64 r, .slice As S cs, .int .u64 a, .int .u64 b, .int .u64 f, .slice At T ct, .slice Ak K ck]] w' (RetI .i64 0 w')) (CR : ∀ w', Below w.heap.size w w' → Calls Try.prog 21 #[.agg #[.int .i64 node', .int .u64 th', .bool su', .int .u64 old', .int .u64 g', .int .u64 n', .int .u64 r', .slice As' S' cs', .int .u64 a', .int .u64 b', .int .u64 f', .slice At' T' ct', .slice Ak' K' ck']] w' (RetI .i64 0 w')) (BS : ∀ w, Calls Try.prog 42 #[.int .u64 bs] w (RetI .i64 0 w)) (BR : ∀ w, Calls Try.prog 42 #[.int .u64 br] w (RetI .i64 2 w)) :
    Calls Try.prog 14 #[.agg #[.int .i64 node, .int .u64 th, .bool su, .int .u64 old, .int .u64 g, .int .u64 n, .int .u64 r, .slice As S cs, .int .u64 a, .int .u64 b, .int .u64 f, .slice At T ct, .slice Ak K ck], .int .u64 bs, .agg #[.int .i64 node', .int .u64 th', .bool su', .int .u64 old', .int .u64 g', .int .u64 n', .int .u64 r', .slice As' S' cs', .int .u64 a', .int .u64 b', .int .u64 f', .slice At' T' ct', .slice Ak' K' ck'], .int .u64 br] w (fun e w' => e = .returned (.tuple #[.bool false, .int .i64 2]) ∧ Below w.heap.size w w') := by
  have CS' := Lib.hid CS
  clear CS
  have CR' := Lib.hid CR
  clear CR
  have BS' := Lib.hid BS
  clear BS
  have BR' := Lib.hid BR
  clear BR
  go_enter Try.func14, Try.ntmps14
  go_upto_region 1 with fail
  have k0 : BK2 w w.heap.size 31 #[.int .i64 node, .int .u64 th, .bool su, .int .u64 old, .int .u64 g, .int .u64 n, .int .u64 r, .slice As S cs, .int .u64 a, .int .u64 b, .int .u64 f, .slice At T ct, .slice Ak K ck] (w.heap.size + 1) 31 #[.int .i64 node', .int .u64 th', .bool su', .int .u64 old', .int .u64 g', .int .u64 n', .int .u64 r', .slice As' S' cs', .int .u64 a', .int .u64 b', .int .u64 f', .slice At' T' ct', .slice Ak' K' ck'] _ := ⟨(Blk.new w 31 #[.int .i64 node, .int .u64 th, .bool su, .int .u64 old, .int .u64 g, .int .u64 n, .int .u64 r, .slice As S cs, .int .u64 a, .int .u64 b, .int .u64 f, .slice At T ct, .slice Ak K ck]).alloc (.cells #[.int .i64 node', .int .u64 th', .bool su', .int .u64 old', .int .u64 g', .int .u64 n', .int .u64 r', .slice As' S' cs', .int .u64 a', .int .u64 b', .int .u64 f', .slice At' T' ct', .slice Ak' K' ck'] 31), Blk.new1 w (.cells #[.int .i64 node, .int .u64 th, .bool su, .int .u64 old, .int .u64 g, .int .u64 n, .int .u64 r, .slice As S cs, .int .u64 a, .int .u64 b, .int .u64 f, .slice At T ct, .slice Ak K ck] 31) 31 #[.int .i64 node', .int .u64 th', .bool su', .int .u64 old', .int .u64 g', .int .u64 n', .int .u64 r', .slice As' S' cs', .int .u64 a', .int .u64 b', .int .u64 f', .slice At' T' ct', .slice Ak' K' ck'], bal (bal (Below.refl _ _) (.cells #[.int .i64 node, .int .u64 th, .bool su, .int .u64 old, .int .u64 g, .int .u64 n, .int .u64 r, .slice As S cs, .int .u64 a, .int .u64 b, .int .u64 f, .slice At T ct, .slice Ak K ck] 31)) (.cells #[.int .i64 node', .int .u64 th', .bool su', .int .u64 old', .int .u64 g', .int .u64 n', .int .u64 r', .slice As' S' cs', .int .u64 a', .int .u64 b', .int .u64 f', .slice At' T' ct', .slice Ak' K' ck'] 31)⟩
  obtain ⟨g1, hg1⟩ : ∃ g1, w.heap.size + 1 = g1 := ⟨_, rfl⟩
  rw [hg1] at k0 ⊢
  clear hg1
  obtain ⟨g0, hg0⟩ : ∃ g0, w.heap.size = g0 := ⟨_, rfl⟩
  rw [hg0] at k0 ⊢
  clear hg0
  generalize (w.alloc (.cells #[.int .i64 node, .int .u64 th, .bool su, .int .u64 old, .int .u64 g, .int .u64 n, .int .u64 r, .slice As S cs, .int .u64 a, .int .u64 b, .int .u64 f, .slice At T ct, .slice Ak K ck] 31)).alloc (.cells #[.int .i64 node', .int .u64 th', .bool su', .int .u64 old', .int .u64 g', .int .u64 n', .int .u64 r', .slice As' S' cs', .int .u64 a', .int .u64 b', .int .u64 f', .slice At' T' ct', .slice Ak' K' ck'] 31) = w1 at k0 ⊢
  have K1 := Lib.hid k0
  have kb := k0.b
  have kc := k0.c
  clear k0
  go_wp2_with (first | (refine wpList_load_row (by rfl) 31 _ (by rfl) g0 (by rfl) 31 #[.int .i64 node, .int .u64 th, .bool su, .int .u64 old, .int .u64 g, .int .u64 n, .int .u64 r, .slice As S cs, .int .u64 a, .int .u64 b, .int .u64 f, .slice At T ct, .slice Ak K ck] (0, 0) _ kb Try.underlying31 (by rfl) (by kernel_rfl) ?_) | (refine wpList_load_row (by rfl) 31 _ (by rfl) g1 (by rfl) 31 #[.int .i64 node', .int .u64 th', .bool su', .int .u64 old', .int .u64 g', .int .u64 n', .int .u64 r', .slice As' S' cs', .int .u64 a', .int .u64 b', .int .u64 f', .slice At' T' ct', .slice Ak' K' ck'] (0, 0) _ kc Try.underlying31 (by rfl) (by kernel_rfl) ?_))
  refine (CS'.out _ K1.out.hB).mono ?_
  rintro e w2 ⟨rfl, hb⟩
  have kk := K1.out.below hb
  clear K1 kb kc hb
  have kb := kk.b
  have kc := kk.c
  have K1 := Lib.hid kk
  clear kk
  go_wp2_with (first | (refine wpList_load_row (by rfl) 31 _ (by rfl) g0 (by rfl) 31 #[.int .i64 node, .int .u64 th, .bool su, .int .u64 old, .int .u64 g, .int .u64 n, .int .u64 r, .slice As S cs, .int .u64 a, .int .u64 b, .int .u64 f, .slice At T ct, .slice Ak K ck] (0, 0) _ kb Try.underlying31 (by rfl) (by kernel_rfl) ?_) | (refine wpList_load_row (by rfl) 31 _ (by rfl) g1 (by rfl) 31 #[.int .i64 node', .int .u64 th', .bool su', .int .u64 old', .int .u64 g', .int .u64 n', .int .u64 r', .slice As' S' cs', .int .u64 a', .int .u64 b', .int .u64 f', .slice At' T' ct', .slice Ak' K' ck'] (0, 0) _ kc Try.underlying31 (by rfl) (by kernel_rfl) ?_))
  refine (CR'.out _ K1.out.hB).mono ?_
  rintro e w3 ⟨rfl, hb⟩
  have kk := K1.out.below hb
  clear K1 kb kc hb
  have kb := kk.b
  have kc := kk.c
  have K1 := Lib.hid kk
  clear kk
  go_wp2_with (first | (refine wpList_load_row (by rfl) 31 _ (by rfl) g0 (by rfl) 31 #[.int .i64 node, .int .u64 th, .bool su, .int .u64 old, .int .u64 g, .int .u64 n, .int .u64 r, .slice As S cs, .int .u64 a, .int .u64 b, .int .u64 f, .slice At T ct, .slice Ak K ck] (0, 0) _ kb Try.underlying31 (by rfl) (by kernel_rfl) ?_) | (refine wpList_load_row (by rfl) 31 _ (by rfl) g1 (by rfl) 31 #[.int .i64 node', .int .u64 th', .bool su', .int .u64 old', .int .u64 g', .int .u64 n', .int .u64 r', .slice As' S' cs', .int .u64 a', .int .u64 b', .int .u64 f', .slice At' T' ct', .slice Ak' K' ck'] (0, 0) _ kc Try.underlying31 (by rfl) (by kernel_rfl) ?_))
  refine (BS'.out _).mono ?_
  rintro e w4 ⟨rfl, hb⟩
  have kk := K1.out.below hb
  clear K1 kb kc hb
  have kb := kk.b
  have kc := kk.c
  have K1 := Lib.hid kk
  clear kk
  go_wp2_with (first | (refine wpList_load_row (by rfl) 31 _ (by rfl) g0 (by rfl) 31 #[.int .i64 node, .int .u64 th, .bool su, .int .u64 old, .int .u64 g, .int .u64 n, .int .u64 r, .slice As S cs, .int .u64 a, .int .u64 b, .int .u64 f, .slice At T ct, .slice Ak K ck] (0, 0) _ kb Try.underlying31 (by rfl) (by kernel_rfl) ?_) | (refine wpList_load_row (by rfl) 31 _ (by rfl) g1 (by rfl) 31 #[.int .i64 node', .int .u64 th', .bool su', .int .u64 old', .int .u64 g', .int .u64 n', .int .u64 r', .slice As' S' cs', .int .u64 a', .int .u64 b', .int .u64 f', .slice At' T' ct', .slice Ak' K' ck'] (0, 0) _ kc Try.underlying31 (by rfl) (by kernel_rfl) ?_))
  refine (BR'.out _).mono ?_
  rintro e w5 ⟨rfl, hb⟩
  have kk := K1.out.below hb
  clear K1 kb kc hb
  have kb := kk.b
  have kc := kk.c
  have K1 := Lib.hid kk
  clear kk
  go_wp2_with (first | (refine wpList_load_row (by rfl) 31 _ (by rfl) g0 (by rfl) 31 #[.int .i64 node, .int .u64 th, .bool su, .int .u64 old, .int .u64 g, .int .u64 n, .int .u64 r, .slice As S cs, .int .u64 a, .int .u64 b, .int .u64 f, .slice At T ct, .slice Ak K ck] (0, 0) _ kb Try.underlying31 (by rfl) (by kernel_rfl) ?_) | (refine wpList_load_row (by rfl) 31 _ (by rfl) g1 (by rfl) 31 #[.int .i64 node', .int .u64 th', .bool su', .int .u64 old', .int .u64 g', .int .u64 n', .int .u64 r', .slice As' S' cs', .int .u64 a', .int .u64 b', .int .u64 f', .slice At' T' ct', .slice Ak' K' ck'] (0, 0) _ kc Try.underlying31 (by rfl) (by kernel_rfl) ?_))
  go_ret2
  exact ⟨rfl, K1.out.hB⟩

set_option maxRecDepth 100000 in
set_option maxHeartbeats 4000000 in
theorem rh_sk1 (node th old : Int) (su : Bool) (g n r : Int) (S cs : Nat) (As : Option Addr) (a b f : Int) (T ct : Nat) (At : Option Addr) (K ck : Nat) (Ak : Option Addr) (node' th' old' : Int) (su' : Bool) (g' n' r' : Int) (S' cs' : Nat) (As' : Option Addr) (a' b' f' : Int) (T' ct' : Nat) (At' : Option Addr) (K' ck' : Nat) (Ak' : Option Addr) (bs br : Int) (w : World) (CS : ∀ w', Below w.heap.size w w' → Calls Try.prog 21 #[.agg #[.int .i64 node, .int .u64 th, .bool su, .int .u64 old, .int .u64 g, .int .u64 n, .int .u64 r, .slice As S cs, .int .u64 a, .int .u64 b, .int .u64 f, .slice At T ct, .slice Ak K ck]] w' (RetI .i64 0 w')) (CR : ∀ w', Below w.heap.size w w' → Calls Try.prog 21 #[.agg #[.int .i64 node', .int .u64 th', .bool su', .int .u64 old', .int .u64 g', .int .u64 n', .int .u64 r', .slice As' S' cs', .int .u64 a', .int .u64 b', .int .u64 f', .slice At' T' ct', .slice Ak' K' ck']] w' (RetI .i64 0 w')) (BS : ∀ w, Calls Try.prog 42 #[.int .u64 bs] w (RetI .i64 0 w)) (BR : ∀ w, Calls Try.prog 42 #[.int .u64 br] w (RetI .i64 0 w)) (q1 : (th == br) = true) (q2 : decide (th < br) = false) (q3 : (th' == bs) = false) (q4 : su' = true) :
    Calls Try.prog 14 #[.agg #[.int .i64 node, .int .u64 th, .bool su, .int .u64 old, .int .u64 g, .int .u64 n, .int .u64 r, .slice As S cs, .int .u64 a, .int .u64 b, .int .u64 f, .slice At T ct, .slice Ak K ck], .int .u64 bs, .agg #[.int .i64 node', .int .u64 th', .bool su', .int .u64 old', .int .u64 g', .int .u64 n', .int .u64 r', .slice As' S' cs', .int .u64 a', .int .u64 b', .int .u64 f', .slice At' T' ct', .slice Ak' K' ck'], .int .u64 br] w (fun e w' => e = .returned (.tuple #[.bool true, .int .i64 0]) ∧ Below w.heap.size w w') := by
  subst q4
  have CS' := Lib.hid CS
  clear CS
  have CR' := Lib.hid CR
  clear CR
  have BS' := Lib.hid BS
  clear BS
  have BR' := Lib.hid BR
  clear BR
  go_enter Try.func14, Try.ntmps14
  go_upto_region 1 with fail
  have k0 : BK2 w w.heap.size 31 #[.int .i64 node, .int .u64 th, .bool su, .int .u64 old, .int .u64 g, .int .u64 n, .int .u64 r, .slice As S cs, .int .u64 a, .int .u64 b, .int .u64 f, .slice At T ct, .slice Ak K ck] (w.heap.size + 1) 31 #[.int .i64 node', .int .u64 th', .bool true, .int .u64 old', .int .u64 g', .int .u64 n', .int .u64 r', .slice As' S' cs', .int .u64 a', .int .u64 b', .int .u64 f', .slice At' T' ct', .slice Ak' K' ck'] _ := ⟨(Blk.new w 31 #[.int .i64 node, .int .u64 th, .bool su, .int .u64 old, .int .u64 g, .int .u64 n, .int .u64 r, .slice As S cs, .int .u64 a, .int .u64 b, .int .u64 f, .slice At T ct, .slice Ak K ck]).alloc (.cells #[.int .i64 node', .int .u64 th', .bool true, .int .u64 old', .int .u64 g', .int .u64 n', .int .u64 r', .slice As' S' cs', .int .u64 a', .int .u64 b', .int .u64 f', .slice At' T' ct', .slice Ak' K' ck'] 31), Blk.new1 w (.cells #[.int .i64 node, .int .u64 th, .bool su, .int .u64 old, .int .u64 g, .int .u64 n, .int .u64 r, .slice As S cs, .int .u64 a, .int .u64 b, .int .u64 f, .slice At T ct, .slice Ak K ck] 31) 31 #[.int .i64 node', .int .u64 th', .bool true, .int .u64 old', .int .u64 g', .int .u64 n', .int .u64 r', .slice As' S' cs', .int .u64 a', .int .u64 b', .int .u64 f', .slice At' T' ct', .slice Ak' K' ck'], bal (bal (Below.refl _ _) (.cells #[.int .i64 node, .int .u64 th, .bool su, .int .u64 old, .int .u64 g, .int .u64 n, .int .u64 r, .slice As S cs, .int .u64 a, .int .u64 b, .int .u64 f, .slice At T ct, .slice Ak K ck] 31)) (.cells #[.int .i64 node', .int .u64 th', .bool true, .int .u64 old', .int .u64 g', .int .u64 n', .int .u64 r', .slice As' S' cs', .int .u64 a', .int .u64 b', .int .u64 f', .slice At' T' ct', .slice Ak' K' ck'] 31)⟩
  obtain ⟨g1, hg1⟩ : ∃ g1, w.heap.size + 1 = g1 := ⟨_, rfl⟩
  rw [hg1] at k0 ⊢
  clear hg1
  obtain ⟨g0, hg0⟩ : ∃ g0, w.heap.size = g0 := ⟨_, rfl⟩
  rw [hg0] at k0 ⊢
  clear hg0
  generalize (w.alloc (.cells #[.int .i64 node, .int .u64 th, .bool su, .int .u64 old, .int .u64 g, .int .u64 n, .int .u64 r, .slice As S cs, .int .u64 a, .int .u64 b, .int .u64 f, .slice At T ct, .slice Ak K ck] 31)).alloc (.cells #[.int .i64 node', .int .u64 th', .bool true, .int .u64 old', .int .u64 g', .int .u64 n', .int .u64 r', .slice As' S' cs', .int .u64 a', .int .u64 b', .int .u64 f', .slice At' T' ct', .slice Ak' K' ck'] 31) = w1 at k0 ⊢
  have K1 := Lib.hid k0
  have kb := k0.b
  have kc := k0.c
  clear k0
  go_wp2_with (first | (refine wpList_load_row (by rfl) 31 _ (by rfl) g0 (by rfl) 31 #[.int .i64 node, .int .u64 th, .bool su, .int .u64 old, .int .u64 g, .int .u64 n, .int .u64 r, .slice As S cs, .int .u64 a, .int .u64 b, .int .u64 f, .slice At T ct, .slice Ak K ck] (0, 0) _ kb Try.underlying31 (by rfl) (by kernel_rfl) ?_) | (refine wpList_load_row (by rfl) 31 _ (by rfl) g1 (by rfl) 31 #[.int .i64 node', .int .u64 th', .bool true, .int .u64 old', .int .u64 g', .int .u64 n', .int .u64 r', .slice As' S' cs', .int .u64 a', .int .u64 b', .int .u64 f', .slice At' T' ct', .slice Ak' K' ck'] (0, 0) _ kc Try.underlying31 (by rfl) (by kernel_rfl) ?_))
  refine (CS'.out _ K1.out.hB).mono ?_
  rintro e w2 ⟨rfl, hb⟩
  have kk := K1.out.below hb
  clear K1 kb kc hb
  have kb := kk.b
  have kc := kk.c
  have K1 := Lib.hid kk
  clear kk
  go_wp2_with (first | (refine wpList_load_row (by rfl) 31 _ (by rfl) g0 (by rfl) 31 #[.int .i64 node, .int .u64 th, .bool su, .int .u64 old, .int .u64 g, .int .u64 n, .int .u64 r, .slice As S cs, .int .u64 a, .int .u64 b, .int .u64 f, .slice At T ct, .slice Ak K ck] (0, 0) _ kb Try.underlying31 (by rfl) (by kernel_rfl) ?_) | (refine wpList_load_row (by rfl) 31 _ (by rfl) g1 (by rfl) 31 #[.int .i64 node', .int .u64 th', .bool true, .int .u64 old', .int .u64 g', .int .u64 n', .int .u64 r', .slice As' S' cs', .int .u64 a', .int .u64 b', .int .u64 f', .slice At' T' ct', .slice Ak' K' ck'] (0, 0) _ kc Try.underlying31 (by rfl) (by kernel_rfl) ?_))
  refine (CR'.out _ K1.out.hB).mono ?_
  rintro e w3 ⟨rfl, hb⟩
  have kk := K1.out.below hb
  clear K1 kb kc hb
  have kb := kk.b
  have kc := kk.c
  have K1 := Lib.hid kk
  clear kk
  go_wp2_with (first | (refine wpList_load_row (by rfl) 31 _ (by rfl) g0 (by rfl) 31 #[.int .i64 node, .int .u64 th, .bool su, .int .u64 old, .int .u64 g, .int .u64 n, .int .u64 r, .slice As S cs, .int .u64 a, .int .u64 b, .int .u64 f, .slice At T ct, .slice Ak K ck] (0, 0) _ kb Try.underlying31 (by rfl) (by kernel_rfl) ?_) | (refine wpList_load_row (by rfl) 31 _ (by rfl) g1 (by rfl) 31 #[.int .i64 node', .int .u64 th', .bool true, .int .u64 old', .int .u64 g', .int .u64 n', .int .u64 r', .slice As' S' cs', .int .u64 a', .int .u64 b', .int .u64 f', .slice At' T' ct', .slice Ak' K' ck'] (0, 0) _ kc Try.underlying31 (by rfl) (by kernel_rfl) ?_))
  refine (BS'.out _).mono ?_
  rintro e w4 ⟨rfl, hb⟩
  have kk := K1.out.below hb
  clear K1 kb kc hb
  have kb := kk.b
  have kc := kk.c
  have K1 := Lib.hid kk
  clear kk
  go_wp2_with (first | (refine wpList_load_row (by rfl) 31 _ (by rfl) g0 (by rfl) 31 #[.int .i64 node, .int .u64 th, .bool su, .int .u64 old, .int .u64 g, .int .u64 n, .int .u64 r, .slice As S cs, .int .u64 a, .int .u64 b, .int .u64 f, .slice At T ct, .slice Ak K ck] (0, 0) _ kb Try.underlying31 (by rfl) (by kernel_rfl) ?_) | (refine wpList_load_row (by rfl) 31 _ (by rfl) g1 (by rfl) 31 #[.int .i64 node', .int .u64 th', .bool true, .int .u64 old', .int .u64 g', .int .u64 n', .int .u64 r', .slice As' S' cs', .int .u64 a', .int .u64 b', .int .u64 f', .slice At' T' ct', .slice Ak' K' ck'] (0, 0) _ kc Try.underlying31 (by rfl) (by kernel_rfl) ?_))
  refine (BR'.out _).mono ?_
  rintro e w5 ⟨rfl, hb⟩
  have kk := K1.out.below hb
  clear K1 kb kc hb
  have kb := kk.b
  have kc := kk.c
  have K1 := Lib.hid kk
  clear kk
  have x1 : w5.cell? ⟨g0, 1, none⟩ = some (.int .u64 th) := kb.cell 1
  have y1 : w5.cell? ⟨g1, 1, none⟩ = some (.int .u64 th') := kc.cell 1
  have y2 : w5.cell? ⟨g1, 2, none⟩ = some (.bool true) := kc.cell 2
  go_wp2_with fail
  go_ret2
  exact ⟨rfl, K1.out.hB⟩

set_option maxRecDepth 100000 in
set_option maxHeartbeats 4000000 in
theorem rh_sk2 (node th old : Int) (su : Bool) (g n r : Int) (S cs : Nat) (As : Option Addr) (a b f : Int) (T ct : Nat) (At : Option Addr) (K ck : Nat) (Ak : Option Addr) (node' th' old' : Int) (su' : Bool) (g' n' r' : Int) (S' cs' : Nat) (As' : Option Addr) (a' b' f' : Int) (T' ct' : Nat) (At' : Option Addr) (K' ck' : Nat) (Ak' : Option Addr) (bs br : Int) (w : World) (CS : ∀ w', Below w.heap.size w w' → Calls Try.prog 21 #[.agg #[.int .i64 node, .int .u64 th, .bool su, .int .u64 old, .int .u64 g, .int .u64 n, .int .u64 r, .slice As S cs, .int .u64 a, .int .u64 b, .int .u64 f, .slice At T ct, .slice Ak K ck]] w' (RetI .i64 0 w')) (CR : ∀ w', Below w.heap.size w w' → Calls Try.prog 21 #[.agg #[.int .i64 node', .int .u64 th', .bool su', .int .u64 old', .int .u64 g', .int .u64 n', .int .u64 r', .slice As' S' cs', .int .u64 a', .int .u64 b', .int .u64 f', .slice At' T' ct', .slice Ak' K' ck']] w' (RetI .i64 0 w')) (BS : ∀ w, Calls Try.prog 42 #[.int .u64 bs] w (RetI .i64 0 w)) (BR : ∀ w, Calls Try.prog 42 #[.int .u64 br] w (RetI .i64 0 w)) (q1 : (th == br) = true) (q2 : decide (th < br) = false) (q3 : (th' == bs) = false) (q4 : su' = false) :
    Calls Try.prog 14 #[.agg #[.int .i64 node, .int .u64 th, .bool su, .int .u64 old, .int .u64 g, .int .u64 n, .int .u64 r, .slice As S cs, .int .u64 a, .int .u64 b, .int .u64 f, .slice At T ct, .slice Ak K ck], .int .u64 bs, .agg #[.int .i64 node', .int .u64 th', .bool su', .int .u64 old', .int .u64 g', .int .u64 n', .int .u64 r', .slice As' S' cs', .int .u64 a', .int .u64 b', .int .u64 f', .slice At' T' ct', .slice Ak' K' ck'], .int .u64 br] w (fun e w' => e = .returned (.tuple #[.bool true, .int .i64 0]) ∧ Below w.heap.size w w') := by
  subst q4
  have CS' := Lib.hid CS
  clear CS
  have CR' := Lib.hid CR
  clear CR
  have BS' := Lib.hid BS
  clear BS
  have BR' := Lib.hid BR
  clear BR
  go_enter Try.func14, Try.ntmps14
  go_upto_region 1 with fail
  have k0 : BK2 w w.heap.size 31 #[.int .i64 node, .int .u64 th, .bool su, .int .u64 old, .int .u64 g, .int .u64 n, .int .u64 r, .slice As S cs, .int .u64 a, .int .u64 b, .int .u64 f, .slice At T ct, .slice Ak K ck] (w.heap.size + 1) 31 #[.int .i64 node', .int .u64 th', .bool false, .int .u64 old', .int .u64 g', .int .u64 n', .int .u64 r', .slice As' S' cs', .int .u64 a', .int .u64 b', .int .u64 f', .slice At' T' ct', .slice Ak' K' ck'] _ := ⟨(Blk.new w 31 #[.int .i64 node, .int .u64 th, .bool su, .int .u64 old, .int .u64 g, .int .u64 n, .int .u64 r, .slice As S cs, .int .u64 a, .int .u64 b, .int .u64 f, .slice At T ct, .slice Ak K ck]).alloc (.cells #[.int .i64 node', .int .u64 th', .bool false, .int .u64 old', .int .u64 g', .int .u64 n', .int .u64 r', .slice As' S' cs', .int .u64 a', .int .u64 b', .int .u64 f', .slice At' T' ct', .slice Ak' K' ck'] 31), Blk.new1 w (.cells #[.int .i64 node, .int .u64 th, .bool su, .int .u64 old, .int .u64 g, .int .u64 n, .int .u64 r, .slice As S cs, .int .u64 a, .int .u64 b, .int .u64 f, .slice At T ct, .slice Ak K ck] 31) 31 #[.int .i64 node', .int .u64 th', .bool false, .int .u64 old', .int .u64 g', .int .u64 n', .int .u64 r', .slice As' S' cs', .int .u64 a', .int .u64 b', .int .u64 f', .slice At' T' ct', .slice Ak' K' ck'], bal (bal (Below.refl _ _) (.cells #[.int .i64 node, .int .u64 th, .bool su, .int .u64 old, .int .u64 g, .int .u64 n, .int .u64 r, .slice As S cs, .int .u64 a, .int .u64 b, .int .u64 f, .slice At T ct, .slice Ak K ck] 31)) (.cells #[.int .i64 node', .int .u64 th', .bool false, .int .u64 old', .int .u64 g', .int .u64 n', .int .u64 r', .slice As' S' cs', .int .u64 a', .int .u64 b', .int .u64 f', .slice At' T' ct', .slice Ak' K' ck'] 31)⟩
  obtain ⟨g1, hg1⟩ : ∃ g1, w.heap.size + 1 = g1 := ⟨_, rfl⟩
  rw [hg1] at k0 ⊢
  clear hg1
  obtain ⟨g0, hg0⟩ : ∃ g0, w.heap.size = g0 := ⟨_, rfl⟩
  rw [hg0] at k0 ⊢
  clear hg0
  generalize (w.alloc (.cells #[.int .i64 node, .int .u64 th, .bool su, .int .u64 old, .int .u64 g, .int .u64 n, .int .u64 r, .slice As S cs, .int .u64 a, .int .u64 b, .int .u64 f, .slice At T ct, .slice Ak K ck] 31)).alloc (.cells #[.int .i64 node', .int .u64 th', .bool false, .int .u64 old', .int .u64 g', .int .u64 n', .int .u64 r', .slice As' S' cs', .int .u64 a', .int .u64 b', .int .u64 f', .slice At' T' ct', .slice Ak' K' ck'] 31) = w1 at k0 ⊢
  have K1 := Lib.hid k0
  have kb := k0.b
  have kc := k0.c
  clear k0
  go_wp2_with (first | (refine wpList_load_row (by rfl) 31 _ (by rfl) g0 (by rfl) 31 #[.int .i64 node, .int .u64 th, .bool su, .int .u64 old, .int .u64 g, .int .u64 n, .int .u64 r, .slice As S cs, .int .u64 a, .int .u64 b, .int .u64 f, .slice At T ct, .slice Ak K ck] (0, 0) _ kb Try.underlying31 (by rfl) (by kernel_rfl) ?_) | (refine wpList_load_row (by rfl) 31 _ (by rfl) g1 (by rfl) 31 #[.int .i64 node', .int .u64 th', .bool false, .int .u64 old', .int .u64 g', .int .u64 n', .int .u64 r', .slice As' S' cs', .int .u64 a', .int .u64 b', .int .u64 f', .slice At' T' ct', .slice Ak' K' ck'] (0, 0) _ kc Try.underlying31 (by rfl) (by kernel_rfl) ?_))
  refine (CS'.out _ K1.out.hB).mono ?_
  rintro e w2 ⟨rfl, hb⟩
  have kk := K1.out.below hb
  clear K1 kb kc hb
  have kb := kk.b
  have kc := kk.c
  have K1 := Lib.hid kk
  clear kk
  go_wp2_with (first | (refine wpList_load_row (by rfl) 31 _ (by rfl) g0 (by rfl) 31 #[.int .i64 node, .int .u64 th, .bool su, .int .u64 old, .int .u64 g, .int .u64 n, .int .u64 r, .slice As S cs, .int .u64 a, .int .u64 b, .int .u64 f, .slice At T ct, .slice Ak K ck] (0, 0) _ kb Try.underlying31 (by rfl) (by kernel_rfl) ?_) | (refine wpList_load_row (by rfl) 31 _ (by rfl) g1 (by rfl) 31 #[.int .i64 node', .int .u64 th', .bool false, .int .u64 old', .int .u64 g', .int .u64 n', .int .u64 r', .slice As' S' cs', .int .u64 a', .int .u64 b', .int .u64 f', .slice At' T' ct', .slice Ak' K' ck'] (0, 0) _ kc Try.underlying31 (by rfl) (by kernel_rfl) ?_))
  refine (CR'.out _ K1.out.hB).mono ?_
  rintro e w3 ⟨rfl, hb⟩
  have kk := K1.out.below hb
  clear K1 kb kc hb
  have kb := kk.b
  have kc := kk.c
  have K1 := Lib.hid kk
  clear kk
  go_wp2_with (first | (refine wpList_load_row (by rfl) 31 _ (by rfl) g0 (by rfl) 31 #[.int .i64 node, .int .u64 th, .bool su, .int .u64 old, .int .u64 g, .int .u64 n, .int .u64 r, .slice As S cs, .int .u64 a, .int .u64 b, .int .u64 f, .slice At T ct, .slice Ak K ck] (0, 0) _ kb Try.underlying31 (by rfl) (by kernel_rfl) ?_) | (refine wpList_load_row (by rfl) 31 _ (by rfl) g1 (by rfl) 31 #[.int .i64 node', .int .u64 th', .bool false, .int .u64 old', .int .u64 g', .int .u64 n', .int .u64 r', .slice As' S' cs', .int .u64 a', .int .u64 b', .int .u64 f', .slice At' T' ct', .slice Ak' K' ck'] (0, 0) _ kc Try.underlying31 (by rfl) (by kernel_rfl) ?_))
  refine (BS'.out _).mono ?_
  rintro e w4 ⟨rfl, hb⟩
  have kk := K1.out.below hb
  clear K1 kb kc hb
  have kb := kk.b
  have kc := kk.c
  have K1 := Lib.hid kk
  clear kk
  go_wp2_with (first | (refine wpList_load_row (by rfl) 31 _ (by rfl) g0 (by rfl) 31 #[.int .i64 node, .int .u64 th, .bool su, .int .u64 old, .int .u64 g, .int .u64 n, .int .u64 r, .slice As S cs, .int .u64 a, .int .u64 b, .int .u64 f, .slice At T ct, .slice Ak K ck] (0, 0) _ kb Try.underlying31 (by rfl) (by kernel_rfl) ?_) | (refine wpList_load_row (by rfl) 31 _ (by rfl) g1 (by rfl) 31 #[.int .i64 node', .int .u64 th', .bool false, .int .u64 old', .int .u64 g', .int .u64 n', .int .u64 r', .slice As' S' cs', .int .u64 a', .int .u64 b', .int .u64 f', .slice At' T' ct', .slice Ak' K' ck'] (0, 0) _ kc Try.underlying31 (by rfl) (by kernel_rfl) ?_))
  refine (BR'.out _).mono ?_
  rintro e w5 ⟨rfl, hb⟩
  have kk := K1.out.below hb
  clear K1 kb kc hb
  have kb := kk.b
  have kc := kk.c
  have K1 := Lib.hid kk
  clear kk
  have x1 : w5.cell? ⟨g0, 1, none⟩ = some (.int .u64 th) := kb.cell 1
  have y1 : w5.cell? ⟨g1, 1, none⟩ = some (.int .u64 th') := kc.cell 1
  have y2 : w5.cell? ⟨g1, 2, none⟩ = some (.bool false) := kc.cell 2
  go_wp2_with fail
  go_ret2
  exact ⟨rfl, K1.out.hB⟩

set_option maxRecDepth 100000 in
set_option maxHeartbeats 4000000 in
theorem rh_sk3 (node th old : Int) (su : Bool) (g n r : Int) (S cs : Nat) (As : Option Addr) (a b f : Int) (T ct : Nat) (At : Option Addr) (K ck : Nat) (Ak : Option Addr) (node' th' old' : Int) (su' : Bool) (g' n' r' : Int) (S' cs' : Nat) (As' : Option Addr) (a' b' f' : Int) (T' ct' : Nat) (At' : Option Addr) (K' ck' : Nat) (Ak' : Option Addr) (bs br : Int) (w : World) (CS : ∀ w', Below w.heap.size w w' → Calls Try.prog 21 #[.agg #[.int .i64 node, .int .u64 th, .bool su, .int .u64 old, .int .u64 g, .int .u64 n, .int .u64 r, .slice As S cs, .int .u64 a, .int .u64 b, .int .u64 f, .slice At T ct, .slice Ak K ck]] w' (RetI .i64 0 w')) (CR : ∀ w', Below w.heap.size w w' → Calls Try.prog 21 #[.agg #[.int .i64 node', .int .u64 th', .bool su', .int .u64 old', .int .u64 g', .int .u64 n', .int .u64 r', .slice As' S' cs', .int .u64 a', .int .u64 b', .int .u64 f', .slice At' T' ct', .slice Ak' K' ck']] w' (RetI .i64 0 w')) (BS : ∀ w, Calls Try.prog 42 #[.int .u64 bs] w (RetI .i64 0 w)) (BR : ∀ w, Calls Try.prog 42 #[.int .u64 br] w (RetI .i64 0 w)) (q1 : (th == br) = false) (q2 : decide (th < br) = true) (q3 : (th' == bs) = true) (q4 : su' = true) :
    Calls Try.prog 14 #[.agg #[.int .i64 node, .int .u64 th, .bool su, .int .u64 old, .int .u64 g, .int .u64 n, .int .u64 r, .slice As S cs, .int .u64 a, .int .u64 b, .int .u64 f, .slice At T ct, .slice Ak K ck], .int .u64 bs, .agg #[.int .i64 node', .int .u64 th', .bool su', .int .u64 old', .int .u64 g', .int .u64 n', .int .u64 r', .slice As' S' cs', .int .u64 a', .int .u64 b', .int .u64 f', .slice At' T' ct', .slice Ak' K' ck'], .int .u64 br] w (fun e w' => e = .returned (.tuple #[.bool true, .int .i64 0]) ∧ Below w.heap.size w w') := by
  subst q4
  have CS' := Lib.hid CS
  clear CS
  have CR' := Lib.hid CR
  clear CR
  have BS' := Lib.hid BS
  clear BS
  have BR' := Lib.hid BR
  clear BR
  go_enter Try.func14, Try.ntmps14
  go_upto_region 1 with fail
  have k0 : BK2 w w.heap.size 31 #[.int .i64 node, .int .u64 th, .bool su, .int .u64 old, .int .u64 g, .int .u64 n, .int .u64 r, .slice As S cs, .int .u64 a, .int .u64 b, .int .u64 f, .slice At T ct, .slice Ak K ck] (w.heap.size + 1) 31 #[.int .i64 node', .int .u64 th', .bool true, .int .u64 old', .int .u64 g', .int .u64 n', .int .u64 r', .slice As' S' cs', .int .u64 a', .int .u64 b', .int .u64 f', .slice At' T' ct', .slice Ak' K' ck'] _ := ⟨(Blk.new w 31 #[.int .i64 node, .int .u64 th, .bool su, .int .u64 old, .int .u64 g, .int .u64 n, .int .u64 r, .slice As S cs, .int .u64 a, .int .u64 b, .int .u64 f, .slice At T ct, .slice Ak K ck]).alloc (.cells #[.int .i64 node', .int .u64 th', .bool true, .int .u64 old', .int .u64 g', .int .u64 n', .int .u64 r', .slice As' S' cs', .int .u64 a', .int .u64 b', .int .u64 f', .slice At' T' ct', .slice Ak' K' ck'] 31), Blk.new1 w (.cells #[.int .i64 node, .int .u64 th, .bool su, .int .u64 old, .int .u64 g, .int .u64 n, .int .u64 r, .slice As S cs, .int .u64 a, .int .u64 b, .int .u64 f, .slice At T ct, .slice Ak K ck] 31) 31 #[.int .i64 node', .int .u64 th', .bool true, .int .u64 old', .int .u64 g', .int .u64 n', .int .u64 r', .slice As' S' cs', .int .u64 a', .int .u64 b', .int .u64 f', .slice At' T' ct', .slice Ak' K' ck'], bal (bal (Below.refl _ _) (.cells #[.int .i64 node, .int .u64 th, .bool su, .int .u64 old, .int .u64 g, .int .u64 n, .int .u64 r, .slice As S cs, .int .u64 a, .int .u64 b, .int .u64 f, .slice At T ct, .slice Ak K ck] 31)) (.cells #[.int .i64 node', .int .u64 th', .bool true, .int .u64 old', .int .u64 g', .int .u64 n', .int .u64 r', .slice As' S' cs', .int .u64 a', .int .u64 b', .int .u64 f', .slice At' T' ct', .slice Ak' K' ck'] 31)⟩
  obtain ⟨g1, hg1⟩ : ∃ g1, w.heap.size + 1 = g1 := ⟨_, rfl⟩
  rw [hg1] at k0 ⊢
  clear hg1
  obtain ⟨g0, hg0⟩ : ∃ g0, w.heap.size = g0 := ⟨_, rfl⟩
  rw [hg0] at k0 ⊢
  clear hg0
  generalize (w.alloc (.cells #[.int .i64 node, .int .u64 th, .bool su, .int .u64 old, .int .u64 g, .int .u64 n, .int .u64 r, .slice As S cs, .int .u64 a, .int .u64 b, .int .u64 f, .slice At T ct, .slice Ak K ck] 31)).alloc (.cells #[.int .i64 node', .int .u64 th', .bool true, .int .u64 old', .int .u64 g', .int .u64 n', .int .u64 r', .slice As' S' cs', .int .u64 a', .int .u64 b', .int .u64 f', .slice At' T' ct', .slice Ak' K' ck'] 31) = w1 at k0 ⊢
  have K1 := Lib.hid k0
  have kb := k0.b
  have kc := k0.c
  clear k0
  go_wp2_with (first | (refine wpList_load_row (by rfl) 31 _ (by rfl) g0 (by rfl) 31 #[.int .i64 node, .int .u64 th, .bool su, .int .u64 old, .int .u64 g, .int .u64 n, .int .u64 r, .slice As S cs, .int .u64 a, .int .u64 b, .int .u64 f, .slice At T ct, .slice Ak K ck] (0, 0) _ kb Try.underlying31 (by rfl) (by kernel_rfl) ?_) | (refine wpList_load_row (by rfl) 31 _ (by rfl) g1 (by rfl) 31 #[.int .i64 node', .int .u64 th', .bool true, .int .u64 old', .int .u64 g', .int .u64 n', .int .u64 r', .slice As' S' cs', .int .u64 a', .int .u64 b', .int .u64 f', .slice At' T' ct', .slice Ak' K' ck'] (0, 0) _ kc Try.underlying31 (by rfl) (by kernel_rfl) ?_))
  refine (CS'.out _ K1.out.hB).mono ?_
  rintro e w2 ⟨rfl, hb⟩
  have kk := K1.out.below hb
  clear K1 kb kc hb
  have kb := kk.b
  have kc := kk.c
  have K1 := Lib.hid kk
  clear kk
  go_wp2_with (first | (refine wpList_load_row (by rfl) 31 _ (by rfl) g0 (by rfl) 31 #[.int .i64 node, .int .u64 th, .bool su, .int .u64 old, .int .u64 g, .int .u64 n, .int .u64 r, .slice As S cs, .int .u64 a, .int .u64 b, .int .u64 f, .slice At T ct, .slice Ak K ck] (0, 0) _ kb Try.underlying31 (by rfl) (by kernel_rfl) ?_) | (refine wpList_load_row (by rfl) 31 _ (by rfl) g1 (by rfl) 31 #[.int .i64 node', .int .u64 th', .bool true, .int .u64 old', .int .u64 g', .int .u64 n', .int .u64 r', .slice As' S' cs', .int .u64 a', .int .u64 b', .int .u64 f', .slice At' T' ct', .slice Ak' K' ck'] (0, 0) _ kc Try.underlying31 (by rfl) (by kernel_rfl) ?_))
  refine (CR'.out _ K1.out.hB).mono ?_
  rintro e w3 ⟨rfl, hb⟩
  have kk := K1.out.below hb
  clear K1 kb kc hb
  have kb := kk.b
  have kc := kk.c
  have K1 := Lib.hid kk
  clear kk
  go_wp2_with (first | (refine wpList_load_row (by rfl) 31 _ (by rfl) g0 (by rfl) 31 #[.int .i64 node, .int .u64 th, .bool su, .int .u64 old, .int .u64 g, .int .u64 n, .int .u64 r, .slice As S cs, .int .u64 a, .int .u64 b, .int .u64 f, .slice At T ct, .slice Ak K ck] (0, 0) _ kb Try.underlying31 (by rfl) (by kernel_rfl) ?_) | (refine wpList_load_row (by rfl) 31 _ (by rfl) g1 (by rfl) 31 #[.int .i64 node', .int .u64 th', .bool true, .int .u64 old', .int .u64 g', .int .u64 n', .int .u64 r', .slice As' S' cs', .int .u64 a', .int .u64 b', .int .u64 f', .slice At' T' ct', .slice Ak' K' ck'] (0, 0) _ kc Try.underlying31 (by rfl) (by kernel_rfl) ?_))
  refine (BS'.out _).mono ?_
  rintro e w4 ⟨rfl, hb⟩
  have kk := K1.out.below hb
  clear K1 kb kc hb
  have kb := kk.b
  have kc := kk.c
  have K1 := Lib.hid kk
  clear kk
  go_wp2_with (first | (refine wpList_load_row (by rfl) 31 _ (by rfl) g0 (by rfl) 31 #[.int .i64 node, .int .u64 th, .bool su, .int .u64 old, .int .u64 g, .int .u64 n, .int .u64 r, .slice As S cs, .int .u64 a, .int .u64 b, .int .u64 f, .slice At T ct, .slice Ak K ck] (0, 0) _ kb Try.underlying31 (by rfl) (by kernel_rfl) ?_) | (refine wpList_load_row (by rfl) 31 _ (by rfl) g1 (by rfl) 31 #[.int .i64 node', .int .u64 th', .bool true, .int .u64 old', .int .u64 g', .int .u64 n', .int .u64 r', .slice As' S' cs', .int .u64 a', .int .u64 b', .int .u64 f', .slice At' T' ct', .slice Ak' K' ck'] (0, 0) _ kc Try.underlying31 (by rfl) (by kernel_rfl) ?_))
  refine (BR'.out _).mono ?_
  rintro e w5 ⟨rfl, hb⟩
  have kk := K1.out.below hb
  clear K1 kb kc hb
  have kb := kk.b
  have kc := kk.c
  have K1 := Lib.hid kk
  clear kk
  have x1 : w5.cell? ⟨g0, 1, none⟩ = some (.int .u64 th) := kb.cell 1
  have y1 : w5.cell? ⟨g1, 1, none⟩ = some (.int .u64 th') := kc.cell 1
  have y2 : w5.cell? ⟨g1, 2, none⟩ = some (.bool true) := kc.cell 2
  go_wp2_with fail
  go_ret2
  exact ⟨rfl, K1.out.hB⟩

set_option maxRecDepth 100000 in
set_option maxHeartbeats 4000000 in
theorem rh_sk4 (node th old : Int) (su : Bool) (g n r : Int) (S cs : Nat) (As : Option Addr) (a b f : Int) (T ct : Nat) (At : Option Addr) (K ck : Nat) (Ak : Option Addr) (node' th' old' : Int) (su' : Bool) (g' n' r' : Int) (S' cs' : Nat) (As' : Option Addr) (a' b' f' : Int) (T' ct' : Nat) (At' : Option Addr) (K' ck' : Nat) (Ak' : Option Addr) (bs br : Int) (w : World) (CS : ∀ w', Below w.heap.size w w' → Calls Try.prog 21 #[.agg #[.int .i64 node, .int .u64 th, .bool su, .int .u64 old, .int .u64 g, .int .u64 n, .int .u64 r, .slice As S cs, .int .u64 a, .int .u64 b, .int .u64 f, .slice At T ct, .slice Ak K ck]] w' (RetI .i64 0 w')) (CR : ∀ w', Below w.heap.size w w' → Calls Try.prog 21 #[.agg #[.int .i64 node', .int .u64 th', .bool su', .int .u64 old', .int .u64 g', .int .u64 n', .int .u64 r', .slice As' S' cs', .int .u64 a', .int .u64 b', .int .u64 f', .slice At' T' ct', .slice Ak' K' ck']] w' (RetI .i64 0 w')) (BS : ∀ w, Calls Try.prog 42 #[.int .u64 bs] w (RetI .i64 0 w)) (BR : ∀ w, Calls Try.prog 42 #[.int .u64 br] w (RetI .i64 0 w)) (q1 : (th == br) = false) (q2 : decide (th < br) = true) (q3 : (th' == bs) = false) (q4 : su' = true) :
    Calls Try.prog 14 #[.agg #[.int .i64 node, .int .u64 th, .bool su, .int .u64 old, .int .u64 g, .int .u64 n, .int .u64 r, .slice As S cs, .int .u64 a, .int .u64 b, .int .u64 f, .slice At T ct, .slice Ak K ck], .int .u64 bs, .agg #[.int .i64 node', .int .u64 th', .bool su', .int .u64 old', .int .u64 g', .int .u64 n', .int .u64 r', .slice As' S' cs', .int .u64 a', .int .u64 b', .int .u64 f', .slice At' T' ct', .slice Ak' K' ck'], .int .u64 br] w (fun e w' => e = .returned (.tuple #[.bool true, .int .i64 0]) ∧ Below w.heap.size w w') := by
  subst q4
  have CS' := Lib.hid CS
  clear CS
  have CR' := Lib.hid CR
  clear CR
  have BS' := Lib.hid BS
  clear BS
  have BR' := Lib.hid BR
  clear BR
  go_enter Try.func14, Try.ntmps14
  go_upto_region 1 with fail
  have k0 : BK2 w w.heap.size 31 #[.int .i64 node, .int .u64 th, .bool su, .int .u64 old, .int .u64 g, .int .u64 n, .int .u64 r, .slice As S cs, .int .u64 a, .int .u64 b, .int .u64 f, .slice At T ct, .slice Ak K ck] (w.heap.size + 1) 31 #[.int .i64 node', .int .u64 th', .bool true, .int .u64 old', .int .u64 g', .int .u64 n', .int .u64 r', .slice As' S' cs', .int .u64 a', .int .u64 b', .int .u64 f', .slice At' T' ct', .slice Ak' K' ck'] _ := ⟨(Blk.new w 31 #[.int .i64 node, .int .u64 th, .bool su, .int .u64 old, .int .u64 g, .int .u64 n, .int .u64 r, .slice As S cs, .int .u64 a, .int .u64 b, .int .u64 f, .slice At T ct, .slice Ak K ck]).alloc (.cells #[.int .i64 node', .int .u64 th', .bool true, .int .u64 old', .int .u64 g', .int .u64 n', .int .u64 r', .slice As' S' cs', .int .u64 a', .int .u64 b', .int .u64 f', .slice At' T' ct', .slice Ak' K' ck'] 31), Blk.new1 w (.cells #[.int .i64 node, .int .u64 th, .bool su, .int .u64 old, .int .u64 g, .int .u64 n, .int .u64 r, .slice As S cs, .int .u64 a, .int .u64 b, .int .u64 f, .slice At T ct, .slice Ak K ck] 31) 31 #[.int .i64 node', .int .u64 th', .bool true, .int .u64 old', .int .u64 g', .int .u64 n', .int .u64 r', .slice As' S' cs', .int .u64 a', .int .u64 b', .int .u64 f', .slice At' T' ct', .slice Ak' K' ck'], bal (bal (Below.refl _ _) (.cells #[.int .i64 node, .int .u64 th, .bool su, .int .u64 old, .int .u64 g, .int .u64 n, .int .u64 r, .slice As S cs, .int .u64 a, .int .u64 b, .int .u64 f, .slice At T ct, .slice Ak K ck] 31)) (.cells #[.int .i64 node', .int .u64 th', .bool true, .int .u64 old', .int .u64 g', .int .u64 n', .int .u64 r', .slice As' S' cs', .int .u64 a', .int .u64 b', .int .u64 f', .slice At' T' ct', .slice Ak' K' ck'] 31)⟩
  obtain ⟨g1, hg1⟩ : ∃ g1, w.heap.size + 1 = g1 := ⟨_, rfl⟩
  rw [hg1] at k0 ⊢
  clear hg1
  obtain ⟨g0, hg0⟩ : ∃ g0, w.heap.size = g0 := ⟨_, rfl⟩
  rw [hg0] at k0 ⊢
  clear hg0
  generalize (w.alloc (.cells #[.int .i64 node, .int .u64 th, .bool su, .int .u64 old, .int .u64 g, .int .u64 n, .int .u64 r, .slice As S cs, .int .u64 a, .int .u64 b, .int .u64 f, .slice At T ct, .slice Ak K ck] 31)).alloc (.cells #[.int .i64 node', .int .u64 th', .bool true, .int .u64 old', .int .u64 g', .int .u64 n', .int .u64 r', .slice As' S' cs', .int .u64 a', .int .u64 b', .int .u64 f', .slice At' T' ct', .slice Ak' K' ck'] 31) = w1 at k0 ⊢
  have K1 := Lib.hid k0
  have kb := k0.b
  have kc := k0.c
  clear k0
  go_wp2_with (first | (refine wpList_load_row (by rfl) 31 _ (by rfl) g0 (by rfl) 31 #[.int .i64 node, .int .u64 th, .bool su, .int .u64 old, .int .u64 g, .int .u64 n, .int .u64 r, .slice As S cs, .int .u64 a, .int .u64 b, .int .u64 f, .slice At T ct, .slice Ak K ck] (0, 0) _ kb Try.underlying31 (by rfl) (by kernel_rfl) ?_) | (refine wpList_load_row (by rfl) 31 _ (by rfl) g1 (by rfl) 31 #[.int .i64 node', .int .u64 th', .bool true, .int .u64 old', .int .u64 g', .int .u64 n', .int .u64 r', .slice As' S' cs', .int .u64 a', .int .u64 b', .int .u64 f', .slice At' T' ct', .slice Ak' K' ck'] (0, 0) _ kc Try.underlying31 (by rfl) (by kernel_rfl) ?_))
  refine (CS'.out _ K1.out.hB).mono ?_
  rintro e w2 ⟨rfl, hb⟩
  have kk := K1.out.below hb
  clear K1 kb kc hb
  have kb := kk.b
  have kc := kk.c
  have K1 := Lib.hid kk
  clear kk
  go_wp2_with (first | (refine wpList_load_row (by rfl) 31 _ (by rfl) g0 (by rfl) 31 #[.int .i64 node, .int .u64 th, .bool su, .int .u64 old, .int .u64 g, .int .u64 n, .int .u64 r, .slice As S cs, .int .u64 a, .int .u64 b, .int .u64 f, .slice At T ct, .slice Ak K ck] (0, 0) _ kb Try.underlying31 (by rfl) (by kernel_rfl) ?_) | (refine wpList_load_row (by rfl) 31 _ (by rfl) g1 (by rfl) 31 #[.int .i64 node', .int .u64 th', .bool true, .int .u64 old', .int .u64 g', .int .u64 n', .int .u64 r', .slice As' S' cs', .int .u64 a', .int .u64 b', .int .u64 f', .slice At' T' ct', .slice Ak' K' ck'] (0, 0) _ kc Try.underlying31 (by rfl) (by kernel_rfl) ?_))
  refine (CR'.out _ K1.out.hB).mono ?_
  rintro e w3 ⟨rfl, hb⟩
  have kk := K1.out.below hb
  clear K1 kb kc hb
  have kb := kk.b
  have kc := kk.c
  have K1 := Lib.hid kk
  clear kk
  go_wp2_with (first | (refine wpList_load_row (by rfl) 31 _ (by rfl) g0 (by rfl) 31 #[.int .i64 node, .int .u64 th, .bool su, .int .u64 old, .int .u64 g, .int .u64 n, .int .u64 r, .slice As S cs, .int .u64 a, .int .u64 b, .int .u64 f, .slice At T ct, .slice Ak K ck] (0, 0) _ kb Try.underlying31 (by rfl) (by kernel_rfl) ?_) | (refine wpList_load_row (by rfl) 31 _ (by rfl) g1 (by rfl) 31 #[.int .i64 node', .int .u64 th', .bool true, .int .u64 old', .int .u64 g', .int .u64 n', .int .u64 r', .slice As' S' cs', .int .u64 a', .int .u64 b', .int .u64 f', .slice At' T' ct', .slice Ak' K' ck'] (0, 0) _ kc Try.underlying31 (by rfl) (by kernel_rfl) ?_))
  refine (BS'.out _).mono ?_
  rintro e w4 ⟨rfl, hb⟩
  have kk := K1.out.below hb
  clear K1 kb kc hb
  have kb := kk.b
  have kc := kk.c
  have K1 := Lib.hid kk
  clear kk
  go_wp2_with (first | (refine wpList_load_row (by rfl) 31 _ (by rfl) g0 (by rfl) 31 #[.int .i64 node, .int .u64 th, .bool su, .int .u64 old, .int .u64 g, .int .u64 n, .int .u64 r, .slice As S cs, .int .u64 a, .int .u64 b, .int .u64 f, .slice At T ct, .slice Ak K ck] (0, 0) _ kb Try.underlying31 (by rfl) (by kernel_rfl) ?_) | (refine wpList_load_row (by rfl) 31 _ (by rfl) g1 (by rfl) 31 #[.int .i64 node', .int .u64 th', .bool true, .int .u64 old', .int .u64 g', .int .u64 n', .int .u64 r', .slice As' S' cs', .int .u64 a', .int .u64 b', .int .u64 f', .slice At' T' ct', .slice Ak' K' ck'] (0, 0) _ kc Try.underlying31 (by rfl) (by kernel_rfl) ?_))
  refine (BR'.out _).mono ?_
  rintro e w5 ⟨rfl, hb⟩
  have kk := K1.out.below hb
  clear K1 kb kc hb
  have kb := kk.b
  have kc := kk.c
  have K1 := Lib.hid kk
  clear kk
  have x1 : w5.cell? ⟨g0, 1, none⟩ = some (.int .u64 th) := kb.cell 1
  have y1 : w5.cell? ⟨g1, 1, none⟩ = some (.int .u64 th') := kc.cell 1
  have y2 : w5.cell? ⟨g1, 2, none⟩ = some (.bool true) := kc.cell 2
  go_wp2_with fail
  go_ret2
  exact ⟨rfl, K1.out.hB⟩

set_option maxRecDepth 100000 in
set_option maxHeartbeats 4000000 in
theorem rh_sk5 (node th old : Int) (su : Bool) (g n r : Int) (S cs : Nat) (As : Option Addr) (a b f : Int) (T ct : Nat) (At : Option Addr) (K ck : Nat) (Ak : Option Addr) (node' th' old' : Int) (su' : Bool) (g' n' r' : Int) (S' cs' : Nat) (As' : Option Addr) (a' b' f' : Int) (T' ct' : Nat) (At' : Option Addr) (K' ck' : Nat) (Ak' : Option Addr) (bs br : Int) (w : World) (CS : ∀ w', Below w.heap.size w w' → Calls Try.prog 21 #[.agg #[.int .i64 node, .int .u64 th, .bool su, .int .u64 old, .int .u64 g, .int .u64 n, .int .u64 r, .slice As S cs, .int .u64 a, .int .u64 b, .int .u64 f, .slice At T ct, .slice Ak K ck]] w' (RetI .i64 0 w')) (CR : ∀ w', Below w.heap.size w w' → Calls Try.prog 21 #[.agg #[.int .i64 node', .int .u64 th', .bool su', .int .u64 old', .int .u64 g', .int .u64 n', .int .u64 r', .slice As' S' cs', .int .u64 a', .int .u64 b', .int .u64 f', .slice At' T' ct', .slice Ak' K' ck']] w' (RetI .i64 0 w')) (BS : ∀ w, Calls Try.prog 42 #[.int .u64 bs] w (RetI .i64 0 w)) (BR : ∀ w, Calls Try.prog 42 #[.int .u64 br] w (RetI .i64 0 w)) (q1 : (th == br) = false) (q2 : decide (th < br) = true) (q3 : (th' == bs) = false) (q4 : su' = false) :
    Calls Try.prog 14 #[.agg #[.int .i64 node, .int .u64 th, .bool su, .int .u64 old, .int .u64 g, .int .u64 n, .int .u64 r, .slice As S cs, .int .u64 a, .int .u64 b, .int .u64 f, .slice At T ct, .slice Ak K ck], .int .u64 bs, .agg #[.int .i64 node', .int .u64 th', .bool su', .int .u64 old', .int .u64 g', .int .u64 n', .int .u64 r', .slice As' S' cs', .int .u64 a', .int .u64 b', .int .u64 f', .slice At' T' ct', .slice Ak' K' ck'], .int .u64 br] w (fun e w' => e = .returned (.tuple #[.bool true, .int .i64 0]) ∧ Below w.heap.size w w') := by
  subst q4
  have CS' := Lib.hid CS
  clear CS
  have CR' := Lib.hid CR
  clear CR
  have BS' := Lib.hid BS
  clear BS
  have BR' := Lib.hid BR
  clear BR
  go_enter Try.func14, Try.ntmps14
  go_upto_region 1 with fail
  have k0 : BK2 w w.heap.size 31 #[.int .i64 node, .int .u64 th, .bool su, .int .u64 old, .int .u64 g, .int .u64 n, .int .u64 r, .slice As S cs, .int .u64 a, .int .u64 b, .int .u64 f, .slice At T ct, .slice Ak K ck] (w.heap.size + 1) 31 #[.int .i64 node', .int .u64 th', .bool false, .int .u64 old', .int .u64 g', .int .u64 n', .int .u64 r', .slice As' S' cs', .int .u64 a', .int .u64 b', .int .u64 f', .slice At' T' ct', .slice Ak' K' ck'] _ := ⟨(Blk.new w 31 #[.int .i64 node, .int .u64 th, .bool su, .int .u64 old, .int .u64 g, .int .u64 n, .int .u64 r, .slice As S cs, .int .u64 a, .int .u64 b, .int .u64 f, .slice At T ct, .slice Ak K ck]).alloc (.cells #[.int .i64 node', .int .u64 th', .bool false, .int .u64 old', .int .u64 g', .int .u64 n', .int .u64 r', .slice As' S' cs', .int .u64 a', .int .u64 b', .int .u64 f', .slice At' T' ct', .slice Ak' K' ck'] 31), Blk.new1 w (.cells #[.int .i64 node, .int .u64 th, .bool su, .int .u64 old, .int .u64 g, .int .u64 n, .int .u64 r, .slice As S cs, .int .u64 a, .int .u64 b, .int .u64 f, .slice At T ct, .slice Ak K ck] 31) 31 #[.int .i64 node', .int .u64 th', .bool false, .int .u64 old', .int .u64 g', .int .u64 n', .int .u64 r', .slice As' S' cs', .int .u64 a', .int .u64 b', .int .u64 f', .slice At' T' ct', .slice Ak' K' ck'], bal (bal (Below.refl _ _) (.cells #[.int .i64 node, .int .u64 th, .bool su, .int .u64 old, .int .u64 g, .int .u64 n, .int .u64 r, .slice As S cs, .int .u64 a, .int .u64 b, .int .u64 f, .slice At T ct, .slice Ak K ck] 31)) (.cells #[.int .i64 node', .int .u64 th', .bool false, .int .u64 old', .int .u64 g', .int .u64 n', .int .u64 r', .slice As' S' cs', .int .u64 a', .int .u64 b', .int .u64 f', .slice At' T' ct', .slice Ak' K' ck'] 31)⟩
  obtain ⟨g1, hg1⟩ : ∃ g1, w.heap.size + 1 = g1 := ⟨_, rfl⟩
  rw [hg1] at k0 ⊢
  clear hg1
  obtain ⟨g0, hg0⟩ : ∃ g0, w.heap.size = g0 := ⟨_, rfl⟩
  rw [hg0] at k0 ⊢
  clear hg0
  generalize (w.alloc (.cells #[.int .i64 node, .int .u64 th, .bool su, .int .u64 old, .int .u64 g, .int .u64 n, .int .u64 r, .slice As S cs, .int .u64 a, .int .u64 b, .int .u64 f, .slice At T ct, .slice Ak K ck] 31)).alloc (.cells #[.int .i64 node', .int .u64 th', .bool false, .int .u64 old', .int .u64 g', .int .u64 n', .int .u64 r', .slice As' S' cs', .int .u64 a', .int .u64 b', .int .u64 f', .slice At' T' ct', .slice Ak' K' ck'] 31) = w1 at k0 ⊢
  have K1 := Lib.hid k0
  have kb := k0.b
  have kc := k0.c
  clear k0
  go_wp2_with (first | (refine wpList_load_row (by rfl) 31 _ (by rfl) g0 (by rfl) 31 #[.int .i64 node, .int .u64 th, .bool su, .int .u64 old, .int .u64 g, .int .u64 n, .int .u64 r, .slice As S cs, .int .u64 a, .int .u64 b, .int .u64 f, .slice At T ct, .slice Ak K ck] (0, 0) _ kb Try.underlying31 (by rfl) (by kernel_rfl) ?_) | (refine wpList_load_row (by rfl) 31 _ (by rfl) g1 (by rfl) 31 #[.int .i64 node', .int .u64 th', .bool false, .int .u64 old', .int .u64 g', .int .u64 n', .int .u64 r', .slice As' S' cs', .int .u64 a', .int .u64 b', .int .u64 f', .slice At' T' ct', .slice Ak' K' ck'] (0, 0) _ kc Try.underlying31 (by rfl) (by kernel_rfl) ?_))
  refine (CS'.out _ K1.out.hB).mono ?_
  rintro e w2 ⟨rfl, hb⟩
  have kk := K1.out.below hb
  clear K1 kb kc hb
  have kb := kk.b
  have kc := kk.c
  have K1 := Lib.hid kk
  clear kk
  go_wp2_with (first | (refine wpList_load_row (by rfl) 31 _ (by rfl) g0 (by rfl) 31 #[.int .i64 node, .int .u64 th, .bool su, .int .u64 old, .int .u64 g, .int .u64 n, .int .u64 r, .slice As S cs, .int .u64 a, .int .u64 b, .int .u64 f, .slice At T ct, .slice Ak K ck] (0, 0) _ kb Try.underlying31 (by rfl) (by kernel_rfl) ?_) | (refine wpList_load_row (by rfl) 31 _ (by rfl) g1 (by rfl) 31 #[.int .i64 node', .int .u64 th', .bool false, .int .u64 old', .int .u64 g', .int .u64 n', .int .u64 r', .slice As' S' cs', .int .u64 a', .int .u64 b', .int .u64 f', .slice At' T' ct', .slice Ak' K' ck'] (0, 0) _ kc Try.underlying31 (by rfl) (by kernel_rfl) ?_))
  refine (CR'.out _ K1.out.hB).mono ?_
  rintro e w3 ⟨rfl, hb⟩
  have kk := K1.out.below hb
  clear K1 kb kc hb
  have kb := kk.b
  have kc := kk.c
  have K1 := Lib.hid kk
  clear kk
  go_wp2_with (first | (refine wpList_load_row (by rfl) 31 _ (by rfl) g0 (by rfl) 31 #[.int .i64 node, .int .u64 th, .bool su, .int .u64 old, .int .u64 g, .int .u64 n, .int .u64 r, .slice As S cs, .int .u64 a, .int .u64 b, .int .u64 f, .slice At T ct, .slice Ak K ck] (0, 0) _ kb Try.underlying31 (by rfl) (by kernel_rfl) ?_) | (refine wpList_load_row (by rfl) 31 _ (by rfl) g1 (by rfl) 31 #[.int .i64 node', .int .u64 th', .bool false, .int .u64 old', .int .u64 g', .int .u64 n', .int .u64 r', .slice As' S' cs', .int .u64 a', .int .u64 b', .int .u64 f', .slice At' T' ct', .slice Ak' K' ck'] (0, 0) _ kc Try.underlying31 (by rfl) (by kernel_rfl) ?_))
  refine (BS'.out _).mono ?_
  rintro e w4 ⟨rfl, hb⟩
  have kk := K1.out.below hb
  clear K1 kb kc hb
  have kb := kk.b
  have kc := kk.c
  have K1 := Lib.hid kk
  clear kk
  go_wp2_with (first | (refine wpList_load_row (by rfl) 31 _ (by rfl) g0 (by rfl) 31 #[.int .i64 node, .int .u64 th, .bool su, .int .u64 old, .int .u64 g, .int .u64 n, .int .u64 r, .slice As S cs, .int .u64 a, .int .u64 b, .int .u64 f, .slice At T ct, .slice Ak K ck] (0, 0) _ kb Try.underlying31 (by rfl) (by kernel_rfl) ?_) | (refine wpList_load_row (by rfl) 31 _ (by rfl) g1 (by rfl) 31 #[.int .i64 node', .int .u64 th', .bool false, .int .u64 old', .int .u64 g', .int .u64 n', .int .u64 r', .slice As' S' cs', .int .u64 a', .int .u64 b', .int .u64 f', .slice At' T' ct', .slice Ak' K' ck'] (0, 0) _ kc Try.underlying31 (by rfl) (by kernel_rfl) ?_))
  refine (BR'.out _).mono ?_
  rintro e w5 ⟨rfl, hb⟩
  have kk := K1.out.below hb
  clear K1 kb kc hb
  have kb := kk.b
  have kc := kk.c
  have K1 := Lib.hid kk
  clear kk
  have x1 : w5.cell? ⟨g0, 1, none⟩ = some (.int .u64 th) := kb.cell 1
  have y1 : w5.cell? ⟨g1, 1, none⟩ = some (.int .u64 th') := kc.cell 1
  have y2 : w5.cell? ⟨g1, 2, none⟩ = some (.bool false) := kc.cell 2
  go_wp2_with fail
  go_ret2
  exact ⟨rfl, K1.out.hB⟩

set_option maxRecDepth 100000 in
set_option maxHeartbeats 4000000 in
theorem rh_sk6 (node th old : Int) (su : Bool) (g n r : Int) (S cs : Nat) (As : Option Addr) (a b f : Int) (T ct : Nat) (At : Option Addr) (K ck : Nat) (Ak : Option Addr) (node' th' old' : Int) (su' : Bool) (g' n' r' : Int) (S' cs' : Nat) (As' : Option Addr) (a' b' f' : Int) (T' ct' : Nat) (At' : Option Addr) (K' ck' : Nat) (Ak' : Option Addr) (bs br : Int) (w : World) (CS : ∀ w', Below w.heap.size w w' → Calls Try.prog 21 #[.agg #[.int .i64 node, .int .u64 th, .bool su, .int .u64 old, .int .u64 g, .int .u64 n, .int .u64 r, .slice As S cs, .int .u64 a, .int .u64 b, .int .u64 f, .slice At T ct, .slice Ak K ck]] w' (RetI .i64 0 w')) (CR : ∀ w', Below w.heap.size w w' → Calls Try.prog 21 #[.agg #[.int .i64 node', .int .u64 th', .bool su', .int .u64 old', .int .u64 g', .int .u64 n', .int .u64 r', .slice As' S' cs', .int .u64 a', .int .u64 b', .int .u64 f', .slice At' T' ct', .slice Ak' K' ck']] w' (RetI .i64 0 w')) (BS : ∀ w, Calls Try.prog 42 #[.int .u64 bs] w (RetI .i64 0 w)) (BR : ∀ w, Calls Try.prog 42 #[.int .u64 br] w (RetI .i64 0 w)) (q1 : (th == br) = false) (q2 : decide (th < br) = false) (q3 : (th' == bs) = true) (q4 : su' = true) :
    Calls Try.prog 14 #[.agg #[.int .i64 node, .int .u64 th, .bool su, .int .u64 old, .int .u64 g, .int .u64 n, .int .u64 r, .slice As S cs, .int .u64 a, .int .u64 b, .int .u64 f, .slice At T ct, .slice Ak K ck], .int .u64 bs, .agg #[.int .i64 node', .int .u64 th', .bool su', .int .u64 old', .int .u64 g', .int .u64 n', .int .u64 r', .slice As' S' cs', .int .u64 a', .int .u64 b', .int .u64 f', .slice At' T' ct', .slice Ak' K' ck'], .int .u64 br] w (fun e w' => e = .returned (.tuple #[.bool true, .int .i64 0]) ∧ Below w.heap.size w w') := by
  subst q4
  have CS' := Lib.hid CS
  clear CS
  have CR' := Lib.hid CR
  clear CR
  have BS' := Lib.hid BS
  clear BS
  have BR' := Lib.hid BR
  clear BR
  go_enter Try.func14, Try.ntmps14
  go_upto_region 1 with fail
  have k0 : BK2 w w.heap.size 31 #[.int .i64 node, .int .u64 th, .bool su, .int .u64 old, .int .u64 g, .int .u64 n, .int .u64 r, .slice As S cs, .int .u64 a, .int .u64 b, .int .u64 f, .slice At T ct, .slice Ak K ck] (w.heap.size + 1) 31 #[.int .i64 node', .int .u64 th', .bool true, .int .u64 old', .int .u64 g', .int .u64 n', .int .u64 r', .slice As' S' cs', .int .u64 a', .int .u64 b', .int .u64 f', .slice At' T' ct', .slice Ak' K' ck'] _ := ⟨(Blk.new w 31 #[.int .i64 node, .int .u64 th, .bool su, .int .u64 old, .int .u64 g, .int .u64 n, .int .u64 r, .slice As S cs, .int .u64 a, .int .u64 b, .int .u64 f, .slice At T ct, .slice Ak K ck]).alloc (.cells #[.int .i64 node', .int .u64 th', .bool true, .int .u64 old', .int .u64 g', .int .u64 n', .int .u64 r', .slice As' S' cs', .int .u64 a', .int .u64 b', .int .u64 f', .slice At' T' ct', .slice Ak' K' ck'] 31), Blk.new1 w (.cells #[.int .i64 node, .int .u64 th, .bool su, .int .u64 old, .int .u64 g, .int .u64 n, .int .u64 r, .slice As S cs, .int .u64 a, .int .u64 b, .int .u64 f, .slice At T ct, .slice Ak K ck] 31) 31 #[.int .i64 node', .int .u64 th', .bool true, .int .u64 old', .int .u64 g', .int .u64 n', .int .u64 r', .slice As' S' cs', .int .u64 a', .int .u64 b', .int .u64 f', .slice At' T' ct', .slice Ak' K' ck'], bal (bal (Below.refl _ _) (.cells #[.int .i64 node, .int .u64 th, .bool su, .int .u64 old, .int .u64 g, .int .u64 n, .int .u64 r, .slice As S cs, .int .u64 a, .int .u64 b, .int .u64 f, .slice At T ct, .slice Ak K ck] 31)) (.cells #[.int .i64 node', .int .u64 th', .bool true, .int .u64 old', .int .u64 g', .int .u64 n', .int .u64 r', .slice As' S' cs', .int .u64 a', .int .u64 b', .int .u64 f', .slice At' T' ct', .slice Ak' K' ck'] 31)⟩
  obtain ⟨g1, hg1⟩ : ∃ g1, w.heap.size + 1 = g1 := ⟨_, rfl⟩
  rw [hg1] at k0 ⊢
  clear hg1
  obtain ⟨g0, hg0⟩ : ∃ g0, w.heap.size = g0 := ⟨_, rfl⟩
  rw [hg0] at k0 ⊢
  clear hg0
  generalize (w.alloc (.cells #[.int .i64 node, .int .u64 th, .bool su, .int .u64 old, .int .u64 g, .int .u64 n, .int .u64 r, .slice As S cs, .int .u64 a, .int .u64 b, .int .u64 f, .slice At T ct, .slice Ak K ck] 31)).alloc (.cells #[.int .i64 node', .int .u64 th', .bool true, .int .u64 old', .int .u64 g', .int .u64 n', .int .u64 r', .slice As' S' cs', .int .u64 a', .int .u64 b', .int .u64 f', .slice At' T' ct', .slice Ak' K' ck'] 31) = w1 at k0 ⊢
  have K1 := Lib.hid k0
  have kb := k0.b
  have kc := k0.c
  clear k0
  go_wp2_with (first | (refine wpList_load_row (by rfl) 31 _ (by rfl) g0 (by rfl) 31 #[.int .i64 node, .int .u64 th, .bool su, .int .u64 old, .int .u64 g, .int .u64 n, .int .u64 r, .slice As S cs, .int .u64 a, .int .u64 b, .int .u64 f, .slice At T ct, .slice Ak K ck] (0, 0) _ kb Try.underlying31 (by rfl) (by kernel_rfl) ?_) | (refine wpList_load_row (by rfl) 31 _ (by rfl) g1 (by rfl) 31 #[.int .i64 node', .int .u64 th', .bool true, .int .u64 old', .int .u64 g', .int .u64 n', .int .u64 r', .slice As' S' cs', .int .u64 a', .int .u64 b', .int .u64 f', .slice At' T' ct', .slice Ak' K' ck'] (0, 0) _ kc Try.underlying31 (by rfl) (by kernel_rfl) ?_))
  refine (CS'.out _ K1.out.hB).mono ?_
  rintro e w2 ⟨rfl, hb⟩
  have kk := K1.out.below hb
  clear K1 kb kc hb
  have kb := kk.b
  have kc := kk.c
  have K1 := Lib.hid kk
  clear kk
  go_wp2_with (first | (refine wpList_load_row (by rfl) 31 _ (by rfl) g0 (by rfl) 31 #[.int .i64 node, .int .u64 th, .bool su, .int .u64 old, .int .u64 g, .int .u64 n, .int .u64 r, .slice As S cs, .int .u64 a, .int .u64 b, .int .u64 f, .slice At T ct, .slice Ak K ck] (0, 0) _ kb Try.underlying31 (by rfl) (by kernel_rfl) ?_) | (refine wpList_load_row (by rfl) 31 _ (by rfl) g1 (by rfl) 31 #[.int .i64 node', .int .u64 th', .bool true, .int .u64 old', .int .u64 g', .int .u64 n', .int .u64 r', .slice As' S' cs', .int .u64 a', .int .u64 b', .int .u64 f', .slice At' T' ct', .slice Ak' K' ck'] (0, 0) _ kc Try.underlying31 (by rfl) (by kernel_rfl) ?_))
  refine (CR'.out _ K1.out.hB).mono ?_
  rintro e w3 ⟨rfl, hb⟩
  have kk := K1.out.below hb
  clear K1 kb kc hb
  have kb := kk.b
  have kc := kk.c
  have K1 := Lib.hid kk
  clear kk
  go_wp2_with (first | (refine wpList_load_row (by rfl) 31 _ (by rfl) g0 (by rfl) 31 #[.int .i64 node, .int .u64 th, .bool su, .int .u64 old, .int .u64 g, .int .u64 n, .int .u64 r, .slice As S cs, .int .u64 a, .int .u64 b, .int .u64 f, .slice At T ct, .slice Ak K ck] (0, 0) _ kb Try.underlying31 (by rfl) (by kernel_rfl) ?_) | (refine wpList_load_row (by rfl) 31 _ (by rfl) g1 (by rfl) 31 #[.int .i64 node', .int .u64 th', .bool true, .int .u64 old', .int .u64 g', .int .u64 n', .int .u64 r', .slice As' S' cs', .int .u64 a', .int .u64 b', .int .u64 f', .slice At' T' ct', .slice Ak' K' ck'] (0, 0) _ kc Try.underlying31 (by rfl) (by kernel_rfl) ?_))
  refine (BS'.out _).mono ?_
  rintro e w4 ⟨rfl, hb⟩
  have kk := K1.out.below hb
  clear K1 kb kc hb
  have kb := kk.b
  have kc := kk.c
  have K1 := Lib.hid kk
  clear kk
  go_wp2_with (first | (refine wpList_load_row (by rfl) 31 _ (by rfl) g0 (by rfl) 31 #[.int .i64 node, .int .u64 th, .bool su, .int .u64 old, .int .u64 g, .int .u64 n, .int .u64 r, .slice As S cs, .int .u64 a, .int .u64 b, .int .u64 f, .slice At T ct, .slice Ak K ck] (0, 0) _ kb Try.underlying31 (by rfl) (by kernel_rfl) ?_) | (refine wpList_load_row (by rfl) 31 _ (by rfl) g1 (by rfl) 31 #[.int .i64 node', .int .u64 th', .bool true, .int .u64 old', .int .u64 g', .int .u64 n', .int .u64 r', .slice As' S' cs', .int .u64 a', .int .u64 b', .int .u64 f', .slice At' T' ct', .slice Ak' K' ck'] (0, 0) _ kc Try.underlying31 (by rfl) (by kernel_rfl) ?_))
  refine (BR'.out _).mono ?_
  rintro e w5 ⟨rfl, hb⟩
  have kk := K1.out.below hb
  clear K1 kb kc hb
  have kb := kk.b
  have kc := kk.c
  have K1 := Lib.hid kk
  clear kk
  have x1 : w5.cell? ⟨g0, 1, none⟩ = some (.int .u64 th) := kb.cell 1
  have y1 : w5.cell? ⟨g1, 1, none⟩ = some (.int .u64 th') := kc.cell 1
  have y2 : w5.cell? ⟨g1, 2, none⟩ = some (.bool true) := kc.cell 2
  go_wp2_with fail
  go_ret2
  exact ⟨rfl, K1.out.hB⟩

set_option maxRecDepth 100000 in
set_option maxHeartbeats 4000000 in
theorem rh_sk7 (node th old : Int) (su : Bool) (g n r : Int) (S cs : Nat) (As : Option Addr) (a b f : Int) (T ct : Nat) (At : Option Addr) (K ck : Nat) (Ak : Option Addr) (node' th' old' : Int) (su' : Bool) (g' n' r' : Int) (S' cs' : Nat) (As' : Option Addr) (a' b' f' : Int) (T' ct' : Nat) (At' : Option Addr) (K' ck' : Nat) (Ak' : Option Addr) (bs br : Int) (w : World) (CS : ∀ w', Below w.heap.size w w' → Calls Try.prog 21 #[.agg #[.int .i64 node, .int .u64 th, .bool su, .int .u64 old, .int .u64 g, .int .u64 n, .int .u64 r, .slice As S cs, .int .u64 a, .int .u64 b, .int .u64 f, .slice At T ct, .slice Ak K ck]] w' (RetI .i64 0 w')) (CR : ∀ w', Below w.heap.size w w' → Calls Try.prog 21 #[.agg #[.int .i64 node', .int .u64 th', .bool su', .int .u64 old', .int .u64 g', .int .u64 n', .int .u64 r', .slice As' S' cs', .int .u64 a', .int .u64 b', .int .u64 f', .slice At' T' ct', .slice Ak' K' ck']] w' (RetI .i64 0 w')) (BS : ∀ w, Calls Try.prog 42 #[.int .u64 bs] w (RetI .i64 0 w)) (BR : ∀ w, Calls Try.prog 42 #[.int .u64 br] w (RetI .i64 0 w)) (q1 : (th == br) = false) (q2 : decide (th < br) = false) (q3 : (th' == bs) = true) (q4 : su' = false) :
    Calls Try.prog 14 #[.agg #[.int .i64 node, .int .u64 th, .bool su, .int .u64 old, .int .u64 g, .int .u64 n, .int .u64 r, .slice As S cs, .int .u64 a, .int .u64 b, .int .u64 f, .slice At T ct, .slice Ak K ck], .int .u64 bs, .agg #[.int .i64 node', .int .u64 th', .bool su', .int .u64 old', .int .u64 g', .int .u64 n', .int .u64 r', .slice As' S' cs', .int .u64 a', .int .u64 b', .int .u64 f', .slice At' T' ct', .slice Ak' K' ck'], .int .u64 br] w (fun e w' => e = .returned (.tuple #[.bool true, .int .i64 0]) ∧ Below w.heap.size w w') := by
  subst q4
  have CS' := Lib.hid CS
  clear CS
  have CR' := Lib.hid CR
  clear CR
  have BS' := Lib.hid BS
  clear BS
  have BR' := Lib.hid BR
  clear BR
  go_enter Try.func14, Try.ntmps14
  go_upto_region 1 with fail
  have k0 : BK2 w w.heap.size 31 #[.int .i64 node, .int .u64 th, .bool su, .int .u64 old, .int .u64 g, .int .u64 n, .int .u64 r, .slice As S cs, .int .u64 a, .int .u64 b, .int .u64 f, .slice At T ct, .slice Ak K ck] (w.heap.size + 1) 31 #[.int .i64 node', .int .u64 th', .bool false, .int .u64 old', .int .u64 g', .int .u64 n', .int .u64 r', .slice As' S' cs', .int .u64 a', .int .u64 b', .int .u64 f', .slice At' T' ct', .slice Ak' K' ck'] _ := ⟨(Blk.new w 31 #[.int .i64 node, .int .u64 th, .bool su, .int .u64 old, .int .u64 g, .int .u64 n, .int .u64 r, .slice As S cs, .int .u64 a, .int .u64 b, .int .u64 f, .slice At T ct, .slice Ak K ck]).alloc (.cells #[.int .i64 node', .int .u64 th', .bool false, .int .u64 old', .int .u64 g', .int .u64 n', .int .u64 r', .slice As' S' cs', .int .u64 a', .int .u64 b', .int .u64 f', .slice At' T' ct', .slice Ak' K' ck'] 31), Blk.new1 w (.cells #[.int .i64 node, .int .u64 th, .bool su, .int .u64 old, .int .u64 g, .int .u64 n, .int .u64 r, .slice As S cs, .int .u64 a, .int .u64 b, .int .u64 f, .slice At T ct, .slice Ak K ck] 31) 31 #[.int .i64 node', .int .u64 th', .bool false, .int .u64 old', .int .u64 g', .int .u64 n', .int .u64 r', .slice As' S' cs', .int .u64 a', .int .u64 b', .int .u64 f', .slice At' T' ct', .slice Ak' K' ck'], bal (bal (Below.refl _ _) (.cells #[.int .i64 node, .int .u64 th, .bool su, .int .u64 old, .int .u64 g, .int .u64 n, .int .u64 r, .slice As S cs, .int .u64 a, .int .u64 b, .int .u64 f, .slice At T ct, .slice Ak K ck] 31)) (.cells #[.int .i64 node', .int .u64 th', .bool false, .int .u64 old', .int .u64 g', .int .u64 n', .int .u64 r', .slice As' S' cs', .int .u64 a', .int .u64 b', .int .u64 f', .slice At' T' ct', .slice Ak' K' ck'] 31)⟩
  obtain ⟨g1, hg1⟩ : ∃ g1, w.heap.size + 1 = g1 := ⟨_, rfl⟩
  rw [hg1] at k0 ⊢
  clear hg1
  obtain ⟨g0, hg0⟩ : ∃ g0, w.heap.size = g0 := ⟨_, rfl⟩
  rw [hg0] at k0 ⊢
  clear hg0
  generalize (w.alloc (.cells #[.int .i64 node, .int .u64 th, .bool su, .int .u64 old, .int .u64 g, .int .u64 n, .int .u64 r, .slice As S cs, .int .u64 a, .int .u64 b, .int .u64 f, .slice At T ct, .slice Ak K ck] 31)).alloc (.cells #[.int .i64 node', .int .u64 th', .bool false, .int .u64 old', .int .u64 g', .int .u64 n', .int .u64 r', .slice As' S' cs', .int .u64 a', .int .u64 b', .int .u64 f', .slice At' T' ct', .slice Ak' K' ck'] 31) = w1 at k0 ⊢
  have K1 := Lib.hid k0
  have kb := k0.b
  have kc := k0.c
  clear k0
  go_wp2_with (first | (refine wpList_load_row (by rfl) 31 _ (by rfl) g0 (by rfl) 31 #[.int .i64 node, .int .u64 th, .bool su, .int .u64 old, .int .u64 g, .int .u64 n, .int .u64 r, .slice As S cs, .int .u64 a, .int .u64 b, .int .u64 f, .slice At T ct, .slice Ak K ck] (0, 0) _ kb Try.underlying31 (by rfl) (by kernel_rfl) ?_) | (refine wpList_load_row (by rfl) 31 _ (by rfl) g1 (by rfl) 31 #[.int .i64 node', .int .u64 th', .bool false, .int .u64 old', .int .u64 g', .int .u64 n', .int .u64 r', .slice As' S' cs', .int .u64 a', .int .u64 b', .int .u64 f', .slice At' T' ct', .slice Ak' K' ck'] (0, 0) _ kc Try.underlying31 (by rfl) (by kernel_rfl) ?_))
  refine (CS'.out _ K1.out.hB).mono ?_
  rintro e w2 ⟨rfl, hb⟩
  have kk := K1.out.below hb
  clear K1 kb kc hb
  have kb := kk.b
  have kc := kk.c
  have K1 := Lib.hid kk
  clear kk
  go_wp2_with (first | (refine wpList_load_row (by rfl) 31 _ (by rfl) g0 (by rfl) 31 #[.int .i64 node, .int .u64 th, .bool su, .int .u64 old, .int .u64 g, .int .u64 n, .int .u64 r, .slice As S cs, .int .u64 a, .int .u64 b, .int .u64 f, .slice At T ct, .slice Ak K ck] (0, 0) _ kb Try.underlying31 (by rfl) (by kernel_rfl) ?_) | (refine wpList_load_row (by rfl) 31 _ (by rfl) g1 (by rfl) 31 #[.int .i64 node', .int .u64 th', .bool false, .int .u64 old', .int .u64 g', .int .u64 n', .int .u64 r', .slice As' S' cs', .int .u64 a', .int .u64 b', .int .u64 f', .slice At' T' ct', .slice Ak' K' ck'] (0, 0) _ kc Try.underlying31 (by rfl) (by kernel_rfl) ?_))
  refine (CR'.out _ K1.out.hB).mono ?_
  rintro e w3 ⟨rfl, hb⟩
  have kk := K1.out.below hb
  clear K1 kb kc hb
  have kb := kk.b
  have kc := kk.c
  have K1 := Lib.hid kk
  clear kk
  go_wp2_with (first | (refine wpList_load_row (by rfl) 31 _ (by rfl) g0 (by rfl) 31 #[.int .i64 node, .int .u64 th, .bool su, .int .u64 old, .int .u64 g, .int .u64 n, .int .u64 r, .slice As S cs, .int .u64 a, .int .u64 b, .int .u64 f, .slice At T ct, .slice Ak K ck] (0, 0) _ kb Try.underlying31 (by rfl) (by kernel_rfl) ?_) | (refine wpList_load_row (by rfl) 31 _ (by rfl) g1 (by rfl) 31 #[.int .i64 node', .int .u64 th', .bool false, .int .u64 old', .int .u64 g', .int .u64 n', .int .u64 r', .slice As' S' cs', .int .u64 a', .int .u64 b', .int .u64 f', .slice At' T' ct', .slice Ak' K' ck'] (0, 0) _ kc Try.underlying31 (by rfl) (by kernel_rfl) ?_))
  refine (BS'.out _).mono ?_
  rintro e w4 ⟨rfl, hb⟩
  have kk := K1.out.below hb
  clear K1 kb kc hb
  have kb := kk.b
  have kc := kk.c
  have K1 := Lib.hid kk
  clear kk
  go_wp2_with (first | (refine wpList_load_row (by rfl) 31 _ (by rfl) g0 (by rfl) 31 #[.int .i64 node, .int .u64 th, .bool su, .int .u64 old, .int .u64 g, .int .u64 n, .int .u64 r, .slice As S cs, .int .u64 a, .int .u64 b, .int .u64 f, .slice At T ct, .slice Ak K ck] (0, 0) _ kb Try.underlying31 (by rfl) (by kernel_rfl) ?_) | (refine wpList_load_row (by rfl) 31 _ (by rfl) g1 (by rfl) 31 #[.int .i64 node', .int .u64 th', .bool false, .int .u64 old', .int .u64 g', .int .u64 n', .int .u64 r', .slice As' S' cs', .int .u64 a', .int .u64 b', .int .u64 f', .slice At' T' ct', .slice Ak' K' ck'] (0, 0) _ kc Try.underlying31 (by rfl) (by kernel_rfl) ?_))
  refine (BR'.out _).mono ?_
  rintro e w5 ⟨rfl, hb⟩
  have kk := K1.out.below hb
  clear K1 kb kc hb
  have kb := kk.b
  have kc := kk.c
  have K1 := Lib.hid kk
  clear kk
  have x1 : w5.cell? ⟨g0, 1, none⟩ = some (.int .u64 th) := kb.cell 1
  have y1 : w5.cell? ⟨g1, 1, none⟩ = some (.int .u64 th') := kc.cell 1
  have y2 : w5.cell? ⟨g1, 2, none⟩ = some (.bool false) := kc.cell 2
  go_wp2_with fail
  go_ret2
  exact ⟨rfl, K1.out.hB⟩

set_option maxRecDepth 100000 in
set_option maxHeartbeats 4000000 in
theorem rh_sk8 (node th old : Int) (su : Bool) (g n r : Int) (S cs : Nat) (As : Option Addr) (a b f : Int) (T ct : Nat) (At : Option Addr) (K ck : Nat) (Ak : Option Addr) (node' th' old' : Int) (su' : Bool) (g' n' r' : Int) (S' cs' : Nat) (As' : Option Addr) (a' b' f' : Int) (T' ct' : Nat) (At' : Option Addr) (K' ck' : Nat) (Ak' : Option Addr) (bs br : Int) (w : World) (CS : ∀ w', Below w.heap.size w w' → Calls Try.prog 21 #[.agg #[.int .i64 node, .int .u64 th, .bool su, .int .u64 old, .int .u64 g, .int .u64 n, .int .u64 r, .slice As S cs, .int .u64 a, .int .u64 b, .int .u64 f, .slice At T ct, .slice Ak K ck]] w' (RetI .i64 0 w')) (CR : ∀ w', Below w.heap.size w w' → Calls Try.prog 21 #[.agg #[.int .i64 node', .int .u64 th', .bool su', .int .u64 old', .int .u64 g', .int .u64 n', .int .u64 r', .slice As' S' cs', .int .u64 a', .int .u64 b', .int .u64 f', .slice At' T' ct', .slice Ak' K' ck']] w' (RetI .i64 0 w')) (BS : ∀ w, Calls Try.prog 42 #[.int .u64 bs] w (RetI .i64 0 w)) (BR : ∀ w, Calls Try.prog 42 #[.int .u64 br] w (RetI .i64 0 w)) (q1 : (th == br) = false) (q2 : decide (th < br) = false) (q3 : (th' == bs) = false) (q4 : su' = true) :
    Calls Try.prog 14 #[.agg #[.int .i64 node, .int .u64 th, .bool su, .int .u64 old, .int .u64 g, .int .u64 n, .int .u64 r, .slice As S cs, .int .u64 a, .int .u64 b, .int .u64 f, .slice At T ct, .slice Ak K ck], .int .u64 bs, .agg #[.int .i64 node', .int .u64 th', .bool su', .int .u64 old', .int .u64 g', .int .u64 n', .int .u64 r', .slice As' S' cs', .int .u64 a', .int .u64 b', .int .u64 f', .slice At' T' ct', .slice Ak' K' ck'], .int .u64 br] w (fun e w' => e = .returned (.tuple #[.bool true, .int .i64 0]) ∧ Below w.heap.size w w') := by
  subst q4
  have CS' := Lib.hid CS
  clear CS
  have CR' := Lib.hid CR
  clear CR
  have BS' := Lib.hid BS
  clear BS
  have BR' := Lib.hid BR
  clear BR
  go_enter Try.func14, Try.ntmps14
  go_upto_region 1 with fail
  have k0 : BK2 w w.heap.size 31 #[.int .i64 node, .int .u64 th, .bool su, .int .u64 old, .int .u64 g, .int .u64 n, .int .u64 r, .slice As S cs, .int .u64 a, .int .u64 b, .int .u64 f, .slice At T ct, .slice Ak K ck] (w.heap.size + 1) 31 #[.int .i64 node', .int .u64 th', .bool true, .int .u64 old', .int .u64 g', .int .u64 n', .int .u64 r', .slice As' S' cs', .int .u64 a', .int .u64 b', .int .u64 f', .slice At' T' ct', .slice Ak' K' ck'] _ := ⟨(Blk.new w 31 #[.int .i64 node, .int .u64 th, .bool su, .int .u64 old, .int .u64 g, .int .u64 n, .int .u64 r, .slice As S cs, .int .u64 a, .int .u64 b, .int .u64 f, .slice At T ct, .slice Ak K ck]).alloc (.cells #[.int .i64 node', .int .u64 th', .bool true, .int .u64 old', .int .u64 g', .int .u64 n', .int .u64 r', .slice As' S' cs', .int .u64 a', .int .u64 b', .int .u64 f', .slice At' T' ct', .slice Ak' K' ck'] 31), Blk.new1 w (.cells #[.int .i64 node, .int .u64 th, .bool su, .int .u64 old, .int .u64 g, .int .u64 n, .int .u64 r, .slice As S cs, .int .u64 a, .int .u64 b, .int .u64 f, .slice At T ct, .slice Ak K ck] 31) 31 #[.int .i64 node', .int .u64 th', .bool true, .int .u64 old', .int .u64 g', .int .u64 n', .int .u64 r', .slice As' S' cs', .int .u64 a', .int .u64 b', .int .u64 f', .slice At' T' ct', .slice Ak' K' ck'], bal (bal (Below.refl _ _) (.cells #[.int .i64 node, .int .u64 th, .bool su, .int .u64 old, .int .u64 g, .int .u64 n, .int .u64 r, .slice As S cs, .int .u64 a, .int .u64 b, .int .u64 f, .slice At T ct, .slice Ak K ck] 31)) (.cells #[.int .i64 node', .int .u64 th', .bool true, .int .u64 old', .int .u64 g', .int .u64 n', .int .u64 r', .slice As' S' cs', .int .u64 a', .int .u64 b', .int .u64 f', .slice At' T' ct', .slice Ak' K' ck'] 31)⟩
  obtain ⟨g1, hg1⟩ : ∃ g1, w.heap.size + 1 = g1 := ⟨_, rfl⟩
  rw [hg1] at k0 ⊢
  clear hg1
  obtain ⟨g0, hg0⟩ : ∃ g0, w.heap.size = g0 := ⟨_, rfl⟩
  rw [hg0] at k0 ⊢
  clear hg0
  generalize (w.alloc (.cells #[.int .i64 node, .int .u64 th, .bool su, .int .u64 old, .int .u64 g, .int .u64 n, .int .u64 r, .slice As S cs, .int .u64 a, .int .u64 b, .int .u64 f, .slice At T ct, .slice Ak K ck] 31)).alloc (.cells #[.int .i64 node', .int .u64 th', .bool true, .int .u64 old', .int .u64 g', .int .u64 n', .int .u64 r', .slice As' S' cs', .int .u64 a', .int .u64 b', .int .u64 f', .slice At' T' ct', .slice Ak' K' ck'] 31) = w1 at k0 ⊢
  have K1 := Lib.hid k0
  have kb := k0.b
  have kc := k0.c
  clear k0
  go_wp2_with (first | (refine wpList_load_row (by rfl) 31 _ (by rfl) g0 (by rfl) 31 #[.int .i64 node, .int .u64 th, .bool su, .int .u64 old, .int .u64 g, .int .u64 n, .int .u64 r, .slice As S cs, .int .u64 a, .int .u64 b, .int .u64 f, .slice At T ct, .slice Ak K ck] (0, 0) _ kb Try.underlying31 (by rfl) (by kernel_rfl) ?_) | (refine wpList_load_row (by rfl) 31 _ (by rfl) g1 (by rfl) 31 #[.int .i64 node', .int .u64 th', .bool true, .int .u64 old', .int .u64 g', .int .u64 n', .int .u64 r', .slice As' S' cs', .int .u64 a', .int .u64 b', .int .u64 f', .slice At' T' ct', .slice Ak' K' ck'] (0, 0) _ kc Try.underlying31 (by rfl) (by kernel_rfl) ?_))
  refine (CS'.out _ K1.out.hB).mono ?_
  rintro e w2 ⟨rfl, hb⟩
  have kk := K1.out.below hb
  clear K1 kb kc hb
  have kb := kk.b
  have kc := kk.c
  have K1 := Lib.hid kk
  clear kk
  go_wp2_with (first | (refine wpList_load_row (by rfl) 31 _ (by rfl) g0 (by rfl) 31 #[.int .i64 node, .int .u64 th, .bool su, .int .u64 old, .int .u64 g, .int .u64 n, .int .u64 r, .slice As S cs, .int .u64 a, .int .u64 b, .int .u64 f, .slice At T ct, .slice Ak K ck] (0, 0) _ kb Try.underlying31 (by rfl) (by kernel_rfl) ?_) | (refine wpList_load_row (by rfl) 31 _ (by rfl) g1 (by rfl) 31 #[.int .i64 node', .int .u64 th', .bool true, .int .u64 old', .int .u64 g', .int .u64 n', .int .u64 r', .slice As' S' cs', .int .u64 a', .int .u64 b', .int .u64 f', .slice At' T' ct', .slice Ak' K' ck'] (0, 0) _ kc Try.underlying31 (by rfl) (by kernel_rfl) ?_))
  refine (CR'.out _ K1.out.hB).mono ?_
  rintro e w3 ⟨rfl, hb⟩
  have kk := K1.out.below hb
  clear K1 kb kc hb
  have kb := kk.b
  have kc := kk.c
  have K1 := Lib.hid kk
  clear kk
  go_wp2_with (first | (refine wpList_load_row (by rfl) 31 _ (by rfl) g0 (by rfl) 31 #[.int .i64 node, .int .u64 th, .bool su, .int .u64 old, .int .u64 g, .int .u64 n, .int .u64 r, .slice As S cs, .int .u64 a, .int .u64 b, .int .u64 f, .slice At T ct, .slice Ak K ck] (0, 0) _ kb Try.underlying31 (by rfl) (by kernel_rfl) ?_) | (refine wpList_load_row (by rfl) 31 _ (by rfl) g1 (by rfl) 31 #[.int .i64 node', .int .u64 th', .bool true, .int .u64 old', .int .u64 g', .int .u64 n', .int .u64 r', .slice As' S' cs', .int .u64 a', .int .u64 b', .int .u64 f', .slice At' T' ct', .slice Ak' K' ck'] (0, 0) _ kc Try.underlying31 (by rfl) (by kernel_rfl) ?_))
  refine (BS'.out _).mono ?_
  rintro e w4 ⟨rfl, hb⟩
  have kk := K1.out.below hb
  clear K1 kb kc hb
  have kb := kk.b
  have kc := kk.c
  have K1 := Lib.hid kk
  clear kk
  go_wp2_with (first | (refine wpList_load_row (by rfl) 31 _ (by rfl) g0 (by rfl) 31 #[.int .i64 node, .int .u64 th, .bool su, .int .u64 old, .int .u64 g, .int .u64 n, .int .u64 r, .slice As S cs, .int .u64 a, .int .u64 b, .int .u64 f, .slice At T ct, .slice Ak K ck] (0, 0) _ kb Try.underlying31 (by rfl) (by kernel_rfl) ?_) | (refine wpList_load_row (by rfl) 31 _ (by rfl) g1 (by rfl) 31 #[.int .i64 node', .int .u64 th', .bool true, .int .u64 old', .int .u64 g', .int .u64 n', .int .u64 r', .slice As' S' cs', .int .u64 a', .int .u64 b', .int .u64 f', .slice At' T' ct', .slice Ak' K' ck'] (0, 0) _ kc Try.underlying31 (by rfl) (by kernel_rfl) ?_))
  refine (BR'.out _).mono ?_
  rintro e w5 ⟨rfl, hb⟩
  have kk := K1.out.below hb
  clear K1 kb kc hb
  have kb := kk.b
  have kc := kk.c
  have K1 := Lib.hid kk
  clear kk
  have x1 : w5.cell? ⟨g0, 1, none⟩ = some (.int .u64 th) := kb.cell 1
  have y1 : w5.cell? ⟨g1, 1, none⟩ = some (.int .u64 th') := kc.cell 1
  have y2 : w5.cell? ⟨g1, 2, none⟩ = some (.bool true) := kc.cell 2
  go_wp2_with fail
  go_ret2
  exact ⟨rfl, K1.out.hB⟩

set_option maxRecDepth 100000 in
set_option maxHeartbeats 4000000 in
theorem rh_sk9 (node th old : Int) (su : Bool) (g n r : Int) (S cs : Nat) (As : Option Addr) (a b f : Int) (T ct : Nat) (At : Option Addr) (K ck : Nat) (Ak : Option Addr) (node' th' old' : Int) (su' : Bool) (g' n' r' : Int) (S' cs' : Nat) (As' : Option Addr) (a' b' f' : Int) (T' ct' : Nat) (At' : Option Addr) (K' ck' : Nat) (Ak' : Option Addr) (bs br : Int) (w : World) (CS : ∀ w', Below w.heap.size w w' → Calls Try.prog 21 #[.agg #[.int .i64 node, .int .u64 th, .bool su, .int .u64 old, .int .u64 g, .int .u64 n, .int .u64 r, .slice As S cs, .int .u64 a, .int .u64 b, .int .u64 f, .slice At T ct, .slice Ak K ck]] w' (RetI .i64 0 w')) (CR : ∀ w', Below w.heap.size w w' → Calls Try.prog 21 #[.agg #[.int .i64 node', .int .u64 th', .bool su', .int .u64 old', .int .u64 g', .int .u64 n', .int .u64 r', .slice As' S' cs', .int .u64 a', .int .u64 b', .int .u64 f', .slice At' T' ct', .slice Ak' K' ck']] w' (RetI .i64 0 w')) (BS : ∀ w, Calls Try.prog 42 #[.int .u64 bs] w (RetI .i64 0 w)) (BR : ∀ w, Calls Try.prog 42 #[.int .u64 br] w (RetI .i64 0 w)) (q1 : (th == br) = false) (q2 : decide (th < br) = false) (q3 : (th' == bs) = false) (q4 : su' = false) :
    Calls Try.prog 14 #[.agg #[.int .i64 node, .int .u64 th, .bool su, .int .u64 old, .int .u64 g, .int .u64 n, .int .u64 r, .slice As S cs, .int .u64 a, .int .u64 b, .int .u64 f, .slice At T ct, .slice Ak K ck], .int .u64 bs, .agg #[.int .i64 node', .int .u64 th', .bool su', .int .u64 old', .int .u64 g', .int .u64 n', .int .u64 r', .slice As' S' cs', .int .u64 a', .int .u64 b', .int .u64 f', .slice At' T' ct', .slice Ak' K' ck'], .int .u64 br] w (fun e w' => e = .returned (.tuple #[.bool true, .int .i64 0]) ∧ Below w.heap.size w w') := by
  subst q4
  have CS' := Lib.hid CS
  clear CS
  have CR' := Lib.hid CR
  clear CR
  have BS' := Lib.hid BS
  clear BS
  have BR' := Lib.hid BR
  clear BR
  go_enter Try.func14, Try.ntmps14
  go_upto_region 1 with fail
  have k0 : BK2 w w.heap.size 31 #[.int .i64 node, .int .u64 th, .bool su, .int .u64 old, .int .u64 g, .int .u64 n, .int .u64 r, .slice As S cs, .int .u64 a, .int .u64 b, .int .u64 f, .slice At T ct, .slice Ak K ck] (w.heap.size + 1) 31 #[.int .i64 node', .int .u64 th', .bool false, .int .u64 old', .int .u64 g', .int .u64 n', .int .u64 r', .slice As' S' cs', .int .u64 a', .int .u64 b', .int .u64 f', .slice At' T' ct', .slice Ak' K' ck'] _ := ⟨(Blk.new w 31 #[.int .i64 node, .int .u64 th, .bool su, .int .u64 old, .int .u64 g, .int .u64 n, .int .u64 r, .slice As S cs, .int .u64 a, .int .u64 b, .int .u64 f, .slice At T ct, .slice Ak K ck]).alloc (.cells #[.int .i64 node', .int .u64 th', .bool false, .int .u64 old', .int .u64 g', .int .u64 n', .int .u64 r', .slice As' S' cs', .int .u64 a', .int .u64 b', .int .u64 f', .slice At' T' ct', .slice Ak' K' ck'] 31), Blk.new1 w (.cells #[.int .i64 node, .int .u64 th, .bool su, .int .u64 old, .int .u64 g, .int .u64 n, .int .u64 r, .slice As S cs, .int .u64 a, .int .u64 b, .int .u64 f, .slice At T ct, .slice Ak K ck] 31) 31 #[.int .i64 node', .int .u64 th', .bool false, .int .u64 old', .int .u64 g', .int .u64 n', .int .u64 r', .slice As' S' cs', .int .u64 a', .int .u64 b', .int .u64 f', .slice At' T' ct', .slice Ak' K' ck'], bal (bal (Below.refl _ _) (.cells #[.int .i64 node, .int .u64 th, .bool su, .int .u64 old, .int .u64 g, .int .u64 n, .int .u64 r, .slice As S cs, .int .u64 a, .int .u64 b, .int .u64 f, .slice At T ct, .slice Ak K ck] 31)) (.cells #[.int .i64 node', .int .u64 th', .bool false, .int .u64 old', .int .u64 g', .int .u64 n', .int .u64 r', .slice As' S' cs', .int .u64 a', .int .u64 b', .int .u64 f', .slice At' T' ct', .slice Ak' K' ck'] 31)⟩
  obtain ⟨g1, hg1⟩ : ∃ g1, w.heap.size + 1 = g1 := ⟨_, rfl⟩
  rw [hg1] at k0 ⊢
  clear hg1
  obtain ⟨g0, hg0⟩ : ∃ g0, w.heap.size = g0 := ⟨_, rfl⟩
  rw [hg0] at k0 ⊢
  clear hg0
  generalize (w.alloc (.cells #[.int .i64 node, .int .u64 th, .bool su, .int .u64 old, .int .u64 g, .int .u64 n, .int .u64 r, .slice As S cs, .int .u64 a, .int .u64 b, .int .u64 f, .slice At T ct, .slice Ak K ck] 31)).alloc (.cells #[.int .i64 node', .int .u64 th', .bool false, .int .u64 old', .int .u64 g', .int .u64 n', .int .u64 r', .slice As' S' cs', .int .u64 a', .int .u64 b', .int .u64 f', .slice At' T' ct', .slice Ak' K' ck'] 31) = w1 at k0 ⊢
  have K1 := Lib.hid k0
  have kb := k0.b
  have kc := k0.c
  clear k0
  go_wp2_with (first | (refine wpList_load_row (by rfl) 31 _ (by rfl) g0 (by rfl) 31 #[.int .i64 node, .int .u64 th, .bool su, .int .u64 old, .int .u64 g, .int .u64 n, .int .u64 r, .slice As S cs, .int .u64 a, .int .u64 b, .int .u64 f, .slice At T ct, .slice Ak K ck] (0, 0) _ kb Try.underlying31 (by rfl) (by kernel_rfl) ?_) | (refine wpList_load_row (by rfl) 31 _ (by rfl) g1 (by rfl) 31 #[.int .i64 node', .int .u64 th', .bool false, .int .u64 old', .int .u64 g', .int .u64 n', .int .u64 r', .slice As' S' cs', .int .u64 a', .int .u64 b', .int .u64 f', .slice At' T' ct', .slice Ak' K' ck'] (0, 0) _ kc Try.underlying31 (by rfl) (by kernel_rfl) ?_))
  refine (CS'.out _ K1.out.hB).mono ?_
  rintro e w2 ⟨rfl, hb⟩
  have kk := K1.out.below hb
  clear K1 kb kc hb
  have kb := kk.b
  have kc := kk.c
  have K1 := Lib.hid kk
  clear kk
  go_wp2_with (first | (refine wpList_load_row (by rfl) 31 _ (by rfl) g0 (by rfl) 31 #[.int .i64 node, .int .u64 th, .bool su, .int .u64 old, .int .u64 g, .int .u64 n, .int .u64 r, .slice As S cs, .int .u64 a, .int .u64 b, .int .u64 f, .slice At T ct, .slice Ak K ck] (0, 0) _ kb Try.underlying31 (by rfl) (by kernel_rfl) ?_) | (refine wpList_load_row (by rfl) 31 _ (by rfl) g1 (by rfl) 31 #[.int .i64 node', .int .u64 th', .bool false, .int .u64 old', .int .u64 g', .int .u64 n', .int .u64 r', .slice As' S' cs', .int .u64 a', .int .u64 b', .int .u64 f', .slice At' T' ct', .slice Ak' K' ck'] (0, 0) _ kc Try.underlying31 (by rfl) (by kernel_rfl) ?_))
  refine (CR'.out _ K1.out.hB).mono ?_
  rintro e w3 ⟨rfl, hb⟩
  have kk := K1.out.below hb
  clear K1 kb kc hb
  have kb := kk.b
  have kc := kk.c
  have K1 := Lib.hid kk
  clear kk
  go_wp2_with (first | (refine wpList_load_row (by rfl) 31 _ (by rfl) g0 (by rfl) 31 #[.int .i64 node, .int .u64 th, .bool su, .int .u64 old, .int .u64 g, .int .u64 n, .int .u64 r, .slice As S cs, .int .u64 a, .int .u64 b, .int .u64 f, .slice At T ct, .slice Ak K ck] (0, 0) _ kb Try.underlying31 (by rfl) (by kernel_rfl) ?_) | (refine wpList_load_row (by rfl) 31 _ (by rfl) g1 (by rfl) 31 #[.int .i64 node', .int .u64 th', .bool false, .int .u64 old', .int .u64 g', .int .u64 n', .int .u64 r', .slice As' S' cs', .int .u64 a', .int .u64 b', .int .u64 f', .slice At' T' ct', .slice Ak' K' ck'] (0, 0) _ kc Try.underlying31 (by rfl) (by kernel_rfl) ?_))
  refine (BS'.out _).mono ?_
  rintro e w4 ⟨rfl, hb⟩
  have kk := K1.out.below hb
  clear K1 kb kc hb
  have kb := kk.b
  have kc := kk.c
  have K1 := Lib.hid kk
  clear kk
  go_wp2_with (first | (refine wpList_load_row (by rfl) 31 _ (by rfl) g0 (by rfl) 31 #[.int .i64 node, .int .u64 th, .bool su, .int .u64 old, .int .u64 g, .int .u64 n, .int .u64 r, .slice As S cs, .int .u64 a, .int .u64 b, .int .u64 f, .slice At T ct, .slice Ak K ck] (0, 0) _ kb Try.underlying31 (by rfl) (by kernel_rfl) ?_) | (refine wpList_load_row (by rfl) 31 _ (by rfl) g1 (by rfl) 31 #[.int .i64 node', .int .u64 th', .bool false, .int .u64 old', .int .u64 g', .int .u64 n', .int .u64 r', .slice As' S' cs', .int .u64 a', .int .u64 b', .int .u64 f', .slice At' T' ct', .slice Ak' K' ck'] (0, 0) _ kc Try.underlying31 (by rfl) (by kernel_rfl) ?_))
  refine (BR'.out _).mono ?_
  rintro e w5 ⟨rfl, hb⟩
  have kk := K1.out.below hb
  clear K1 kb kc hb
  have kb := kk.b
  have kc := kk.c
  have K1 := Lib.hid kk
  clear kk
  have x1 : w5.cell? ⟨g0, 1, none⟩ = some (.int .u64 th) := kb.cell 1
  have y1 : w5.cell? ⟨g1, 1, none⟩ = some (.int .u64 th') := kc.cell 1
  have y2 : w5.cell? ⟨g1, 2, none⟩ = some (.bool false) := kc.cell 2
  go_wp2_with fail
  go_ret2
  exact ⟨rfl, K1.out.hB⟩

set_option maxRecDepth 100000 in
set_option maxHeartbeats 4000000 in
theorem rh_before (node th old : Int) (su : Bool) (g n r : Int) (S cs : Nat) (As : Option Addr) (a b f : Int) (T ct : Nat) (At : Option Addr) (K ck : Nat) (Ak : Option Addr) (node' th' old' : Int) (su' : Bool) (g' n' r' : Int) (S' cs' : Nat) (As' : Option Addr) (a' b' f' : Int) (T' ct' : Nat) (At' : Option Addr) (K' ck' : Nat) (Ak' : Option Addr) (bs br : Int) (w : World) (CS : ∀ w', Below w.heap.size w w' → Calls Try.prog 21 #[.agg #[.int .i64 node, .int .u64 th, .bool su, .int .u64 old, .int .u64 g, .int .u64 n, .int .u64 r, .slice As S cs, .int .u64 a, .int .u64 b, .int .u64 f, .slice At T ct, .slice Ak K ck]] w' (RetI .i64 0 w')) (CR : ∀ w', Below w.heap.size w w' → Calls Try.prog 21 #[.agg #[.int .i64 node', .int .u64 th', .bool su', .int .u64 old', .int .u64 g', .int .u64 n', .int .u64 r', .slice As' S' cs', .int .u64 a', .int .u64 b', .int .u64 f', .slice At' T' ct', .slice Ak' K' ck']] w' (RetI .i64 0 w')) (BS : ∀ w, Calls Try.prog 42 #[.int .u64 bs] w (RetI .i64 0 w)) (BR : ∀ w, Calls Try.prog 42 #[.int .u64 br] w (RetI .i64 0 w)) (us hl : Int) (US : ∀ w', Below w.heap.size w w' → Calls Try.prog 43 #[.agg #[.int .u64 g, .int .u64 n, .int .u64 r, .slice As S cs]] w' (Ret2 .u64 .i64 us 0 w')) (HE : ∀ w', Below w.heap.size w w' → Calls Try.prog 33 #[.agg #[.int .i64 node', .int .u64 th', .bool su', .int .u64 old', .int .u64 g', .int .u64 n', .int .u64 r', .slice As' S' cs', .int .u64 a', .int .u64 b', .int .u64 f', .slice At' T' ct', .slice Ak' K' ck']] w' (Ret2 .u64 .i64 hl 0 w')) (q1 : (th == br) = false) (q2 : decide (th < br) = true) (q3 : (th' == bs) = true) (q4 : su' = false) :
    Calls Try.prog 14 #[.agg #[.int .i64 node, .int .u64 th, .bool su, .int .u64 old, .int .u64 g, .int .u64 n, .int .u64 r, .slice As S cs, .int .u64 a, .int .u64 b, .int .u64 f, .slice At T ct, .slice Ak K ck], .int .u64 bs, .agg #[.int .i64 node', .int .u64 th', .bool su', .int .u64 old', .int .u64 g', .int .u64 n', .int .u64 r', .slice As' S' cs', .int .u64 a', .int .u64 b', .int .u64 f', .slice At' T' ct', .slice Ak' K' ck'], .int .u64 br] w (fun e w' => e = .returned (.tuple #[.bool (decide (us ≤ hl)), .int .i64 0]) ∧ Below w.heap.size w w') := by
  subst q4
  have US' := Lib.hid US
  clear US
  have HE' := Lib.hid HE
  clear HE
  have CS' := Lib.hid CS
  clear CS
  have CR' := Lib.hid CR
  clear CR
  have BS' := Lib.hid BS
  clear BS
  have BR' := Lib.hid BR
  clear BR
  go_enter Try.func14, Try.ntmps14
  go_upto_region 1 with fail
  have k0 : BK2 w w.heap.size 31 #[.int .i64 node, .int .u64 th, .bool su, .int .u64 old, .int .u64 g, .int .u64 n, .int .u64 r, .slice As S cs, .int .u64 a, .int .u64 b, .int .u64 f, .slice At T ct, .slice Ak K ck] (w.heap.size + 1) 31 #[.int .i64 node', .int .u64 th', .bool false, .int .u64 old', .int .u64 g', .int .u64 n', .int .u64 r', .slice As' S' cs', .int .u64 a', .int .u64 b', .int .u64 f', .slice At' T' ct', .slice Ak' K' ck'] _ := ⟨(Blk.new w 31 #[.int .i64 node, .int .u64 th, .bool su, .int .u64 old, .int .u64 g, .int .u64 n, .int .u64 r, .slice As S cs, .int .u64 a, .int .u64 b, .int .u64 f, .slice At T ct, .slice Ak K ck]).alloc (.cells #[.int .i64 node', .int .u64 th', .bool false, .int .u64 old', .int .u64 g', .int .u64 n', .int .u64 r', .slice As' S' cs', .int .u64 a', .int .u64 b', .int .u64 f', .slice At' T' ct', .slice Ak' K' ck'] 31), Blk.new1 w (.cells #[.int .i64 node, .int .u64 th, .bool su, .int .u64 old, .int .u64 g, .int .u64 n, .int .u64 r, .slice As S cs, .int .u64 a, .int .u64 b, .int .u64 f, .slice At T ct, .slice Ak K ck] 31) 31 #[.int .i64 node', .int .u64 th', .bool false, .int .u64 old', .int .u64 g', .int .u64 n', .int .u64 r', .slice As' S' cs', .int .u64 a', .int .u64 b', .int .u64 f', .slice At' T' ct', .slice Ak' K' ck'], bal (bal (Below.refl _ _) (.cells #[.int .i64 node, .int .u64 th, .bool su, .int .u64 old, .int .u64 g, .int .u64 n, .int .u64 r, .slice As S cs, .int .u64 a, .int .u64 b, .int .u64 f, .slice At T ct, .slice Ak K ck] 31)) (.cells #[.int .i64 node', .int .u64 th', .bool false, .int .u64 old', .int .u64 g', .int .u64 n', .int .u64 r', .slice As' S' cs', .int .u64 a', .int .u64 b', .int .u64 f', .slice At' T' ct', .slice Ak' K' ck'] 31)⟩
  obtain ⟨g1, hg1⟩ : ∃ g1, w.heap.size + 1 = g1 := ⟨_, rfl⟩
  rw [hg1] at k0 ⊢
  clear hg1
  obtain ⟨g0, hg0⟩ : ∃ g0, w.heap.size = g0 := ⟨_, rfl⟩
  rw [hg0] at k0 ⊢
  clear hg0
  generalize (w.alloc (.cells #[.int .i64 node, .int .u64 th, .bool su, .int .u64 old, .int .u64 g, .int .u64 n, .int .u64 r, .slice As S cs, .int .u64 a, .int .u64 b, .int .u64 f, .slice At T ct, .slice Ak K ck] 31)).alloc (.cells #[.int .i64 node', .int .u64 th', .bool false, .int .u64 old', .int .u64 g', .int .u64 n', .int .u64 r', .slice As' S' cs', .int .u64 a', .int .u64 b', .int .u64 f', .slice At' T' ct', .slice Ak' K' ck'] 31) = w1 at k0 ⊢
  have K1 := Lib.hid k0
  have kb := k0.b
  have kc := k0.c
  clear k0
  go_wp2_with (first | (refine wpList_load_row (by rfl) 31 _ (by rfl) g0 (by rfl) 31 #[.int .i64 node, .int .u64 th, .bool su, .int .u64 old, .int .u64 g, .int .u64 n, .int .u64 r, .slice As S cs, .int .u64 a, .int .u64 b, .int .u64 f, .slice At T ct, .slice Ak K ck] (0, 0) _ kb Try.underlying31 (by rfl) (by kernel_rfl) ?_) | (refine wpList_load_row (by rfl) 31 _ (by rfl) g1 (by rfl) 31 #[.int .i64 node', .int .u64 th', .bool false, .int .u64 old', .int .u64 g', .int .u64 n', .int .u64 r', .slice As' S' cs', .int .u64 a', .int .u64 b', .int .u64 f', .slice At' T' ct', .slice Ak' K' ck'] (0, 0) _ kc Try.underlying31 (by rfl) (by kernel_rfl) ?_))
  refine (CS'.out _ K1.out.hB).mono ?_
  rintro e w2 ⟨rfl, hb⟩
  have kk := K1.out.below hb
  clear K1 kb kc hb
  have kb := kk.b
  have kc := kk.c
  have K1 := Lib.hid kk
  clear kk
  go_wp2_with (first | (refine wpList_load_row (by rfl) 31 _ (by rfl) g0 (by rfl) 31 #[.int .i64 node, .int .u64 th, .bool su, .int .u64 old, .int .u64 g, .int .u64 n, .int .u64 r, .slice As S cs, .int .u64 a, .int .u64 b, .int .u64 f, .slice At T ct, .slice Ak K ck] (0, 0) _ kb Try.underlying31 (by rfl) (by kernel_rfl) ?_) | (refine wpList_load_row (by rfl) 31 _ (by rfl) g1 (by rfl) 31 #[.int .i64 node', .int .u64 th', .bool false, .int .u64 old', .int .u64 g', .int .u64 n', .int .u64 r', .slice As' S' cs', .int .u64 a', .int .u64 b', .int .u64 f', .slice At' T' ct', .slice Ak' K' ck'] (0, 0) _ kc Try.underlying31 (by rfl) (by kernel_rfl) ?_))
  refine (CR'.out _ K1.out.hB).mono ?_
  rintro e w3 ⟨rfl, hb⟩
  have kk := K1.out.below hb
  clear K1 kb kc hb
  have kb := kk.b
  have kc := kk.c
  have K1 := Lib.hid kk
  clear kk
  go_wp2_with (first | (refine wpList_load_row (by rfl) 31 _ (by rfl) g0 (by rfl) 31 #[.int .i64 node, .int .u64 th, .bool su, .int .u64 old, .int .u64 g, .int .u64 n, .int .u64 r, .slice As S cs, .int .u64 a, .int .u64 b, .int .u64 f, .slice At T ct, .slice Ak K ck] (0, 0) _ kb Try.underlying31 (by rfl) (by kernel_rfl) ?_) | (refine wpList_load_row (by rfl) 31 _ (by rfl) g1 (by rfl) 31 #[.int .i64 node', .int .u64 th', .bool false, .int .u64 old', .int .u64 g', .int .u64 n', .int .u64 r', .slice As' S' cs', .int .u64 a', .int .u64 b', .int .u64 f', .slice At' T' ct', .slice Ak' K' ck'] (0, 0) _ kc Try.underlying31 (by rfl) (by kernel_rfl) ?_))
  refine (BS'.out _).mono ?_
  rintro e w4 ⟨rfl, hb⟩
  have kk := K1.out.below hb
  clear K1 kb kc hb
  have kb := kk.b
  have kc := kk.c
  have K1 := Lib.hid kk
  clear kk
  go_wp2_with (first | (refine wpList_load_row (by rfl) 31 _ (by rfl) g0 (by rfl) 31 #[.int .i64 node, .int .u64 th, .bool su, .int .u64 old, .int .u64 g, .int .u64 n, .int .u64 r, .slice As S cs, .int .u64 a, .int .u64 b, .int .u64 f, .slice At T ct, .slice Ak K ck] (0, 0) _ kb Try.underlying31 (by rfl) (by kernel_rfl) ?_) | (refine wpList_load_row (by rfl) 31 _ (by rfl) g1 (by rfl) 31 #[.int .i64 node', .int .u64 th', .bool false, .int .u64 old', .int .u64 g', .int .u64 n', .int .u64 r', .slice As' S' cs', .int .u64 a', .int .u64 b', .int .u64 f', .slice At' T' ct', .slice Ak' K' ck'] (0, 0) _ kc Try.underlying31 (by rfl) (by kernel_rfl) ?_))
  refine (BR'.out _).mono ?_
  rintro e w5 ⟨rfl, hb⟩
  have kk := K1.out.below hb
  clear K1 kb kc hb
  have kb := kk.b
  have kc := kk.c
  have K1 := Lib.hid kk
  clear kk
  obtain ⟨x0, x1, x2, x3, x4, x5, x6, x7, x8, x9, x10, x11, x12⟩ := kb.c13
  have y1 : w5.cell? ⟨g1, 1, none⟩ = some (.int .u64 th') := kc.cell 1
  have y2 : w5.cell? ⟨g1, 2, none⟩ = some (.bool false) := kc.cell 2
  go_wp2_with fail
  refine (US'.out _ K1.out.hB).mono ?_
  rintro e w6 ⟨rfl, hb⟩
  have kk := K1.out.below hb
  clear K1 kb kc hb x0 x1 x2 x3 x4 x5 x6 x7 x8 x9 x10 x11 x12 y1 y2
  have K1 := Lib.hid kk
  clear kk
  go_wp2_with fail
  go_loopw [13, 15] (fun s13 s15 wr => s13 = .int .u64 us ∧ s15 = .int .i64 0 ∧ BK2 w g0 31 #[.int .i64 node, .int .u64 th, .bool su, .int .u64 old, .int .u64 g, .int .u64 n, .int .u64 r, .slice As S cs, .int .u64 a, .int .u64 b, .int .u64 f, .slice At T ct, .slice Ak K ck] g1 31 #[.int .i64 node', .int .u64 th', .bool false, .int .u64 old', .int .u64 g', .int .u64 n', .int .u64 r', .slice As' S' cs', .int .u64 a', .int .u64 b', .int .u64 f', .slice At' T' ct', .slice Ak' K' ck'] wr) (fun _ s _ => 5)
  case atStart => exact ⟨rfl, rfl, K1.out⟩
  case round =>
    obtain ⟨rfl, rfl, kb⟩ := hrel
    obtain ⟨wy, rfl⟩ : ∃ wy : World, wy = wr := ⟨_, rfl⟩
    clear K1
    have KB := Lib.hid kb
    have x7 : wy.cell? ⟨g0, 7, none⟩ = some (.slice As S cs) := kb.b.cell 7
    clear kb
    by_cases hS : (0 : Int) < S
    all_goals
      have kc := KB.out.c
      go_wp2_with (refine wpList_load_row (by rfl) 31 _ (by rfl) g1 (by rfl) 31 #[.int .i64 node', .int .u64 th', .bool false, .int .u64 old', .int .u64 g', .int .u64 n', .int .u64 r', .slice As' S' cs', .int .u64 a', .int .u64 b', .int .u64 f', .slice At' T' ct', .slice Ak' K' ck'] (0, 0) _ kc Try.underlying31 (by rfl) (by kernel_rfl) ?_)
      refine (HE'.out _ KB.out.hB).mono ?_
      rintro e w7 ⟨rfl, hb⟩
      have hB7 := KB.out.hB.trans (hb.mono KB.out.hB.size)
      clear hb kc x7
      go_wp2_with fail
      go_ret2
      exact ⟨rfl, hB7⟩

set_option maxRecDepth 100000 in
set_option maxHeartbeats 4000000 in
theorem rh_now (node th old : Int) (su : Bool) (g n r : Int) (S cs : Nat) (As : Option Addr) (a b f : Int) (T ct : Nat) (At : Option Addr) (K ck : Nat) (Ak : Option Addr) (node' th' old' : Int) (su' : Bool) (g' n' r' : Int) (S' cs' : Nat) (As' : Option Addr) (a' b' f' : Int) (T' ct' : Nat) (At' : Option Addr) (K' ck' : Nat) (Ak' : Option Addr) (bs br : Int) (w : World) (CS : ∀ w', Below w.heap.size w w' → Calls Try.prog 21 #[.agg #[.int .i64 node, .int .u64 th, .bool su, .int .u64 old, .int .u64 g, .int .u64 n, .int .u64 r, .slice As S cs, .int .u64 a, .int .u64 b, .int .u64 f, .slice At T ct, .slice Ak K ck]] w' (RetI .i64 0 w')) (CR : ∀ w', Below w.heap.size w w' → Calls Try.prog 21 #[.agg #[.int .i64 node', .int .u64 th', .bool su', .int .u64 old', .int .u64 g', .int .u64 n', .int .u64 r', .slice As' S' cs', .int .u64 a', .int .u64 b', .int .u64 f', .slice At' T' ct', .slice Ak' K' ck']] w' (RetI .i64 0 w')) (BS : ∀ w, Calls Try.prog 42 #[.int .u64 bs] w (RetI .i64 0 w)) (BR : ∀ w, Calls Try.prog 42 #[.int .u64 br] w (RetI .i64 0 w)) (us hl : Int) (US : ∀ w', Below w.heap.size w w' → Calls Try.prog 43 #[.agg #[.int .u64 g, .int .u64 n, .int .u64 r, .slice As S cs]] w' (Ret2 .u64 .i64 us 0 w')) (HE : ∀ w', Below w.heap.size w w' → Calls Try.prog 33 #[.agg #[.int .i64 node', .int .u64 th', .bool su', .int .u64 old', .int .u64 g', .int .u64 n', .int .u64 r', .slice As' S' cs', .int .u64 a', .int .u64 b', .int .u64 f', .slice At' T' ct', .slice Ak' K' ck']] w' (Ret2 .u64 .i64 hl 0 w')) (SL : List Sl) (hSl : S = SL.length) (z : Rec) (oS : Nat → Int) (hus : 0 ≤ us ∧ us ≤ 1125899906842624)
    (OB : ∀ k, k ≤ S → 0 ≤ oS k ∧ oS k ≤ 1125899906842624) (O0 : oS 0 = 0) (OS : ∀ k, k < S → oS (k + 1) = oS k + tOf z (slAtI SL k)) (hRd : Reads w 5 As S (flat SL)) (hcs : S ≤ cs ∧ cs ≤ maxLen) (hwf : ∀ x ∈ SL, (0 ≤ x.off ∧ x.off ≤ 18446744073709551615) ∧ (0 ≤ x.size ∧ x.size ≤ 18446744073709551615))
    (ST : ∀ w', Below w.heap.size w w' → ∀ off size : Int, (0 ≤ off ∧ off ≤ 18446744073709551615) → (0 ≤ size ∧ size ≤ 18446744073709551615) → Calls Try.prog 44 #[.agg #[.int .u64 a', .int .u64 b', .int .u64 f', .slice At' T' ct', .slice Ak' K' ck'], .int .u64 off, .int .u64 size] w' (Ret2 .i64 .i64 (stE z off size).1 (stE z off size).2 w'))
    (q1 : (th == br) = true) (q2 : decide (th < br) = false) (q3 : (th' == bs) = true) :
    Calls Try.prog 14 #[.agg #[.int .i64 node, .int .u64 th, .bool su, .int .u64 old, .int .u64 g, .int .u64 n, .int .u64 r, .slice As S cs, .int .u64 a, .int .u64 b, .int .u64 f, .slice At T ct, .slice Ak K ck], .int .u64 bs, .agg #[.int .i64 node', .int .u64 th', .bool su', .int .u64 old', .int .u64 g', .int .u64 n', .int .u64 r', .slice As' S' cs', .int .u64 a', .int .u64 b', .int .u64 f', .slice At' T' ct', .slice Ak' K' ck'], .int .u64 br] w (fun e w' => e = .returned (.tuple #[.bool (decide (us + oS S ≤ hl)), .int .i64 0]) ∧ Below w.heap.size w w') := by
  have US' := Lib.hid US
  clear US
  have HE' := Lib.hid HE
  clear HE
  have OB' := Lib.hid OB
  clear OB
  have OS' := Lib.hid OS
  clear OS
  have hRd' := Lib.hid hRd
  clear hRd
  have hwf' := Lib.hid hwf
  clear hwf
  have ST' := Lib.hid ST
  clear ST
  have hSl' := Lib.hid hSl
  clear hSl
  have O0' := Lib.hid O0
  clear O0
  unfold maxLen at hcs
  have CS' := Lib.hid CS
  clear CS
  have CR' := Lib.hid CR
  clear CR
  have BS' := Lib.hid BS
  clear BS
  have BR' := Lib.hid BR
  clear BR
  go_enter Try.func14, Try.ntmps14
  go_upto_region 1 with fail
  have k0 : BK2 w w.heap.size 31 #[.int .i64 node, .int .u64 th, .bool su, .int .u64 old, .int .u64 g, .int .u64 n, .int .u64 r, .slice As S cs, .int .u64 a, .int .u64 b, .int .u64 f, .slice At T ct, .slice Ak K ck] (w.heap.size + 1) 31 #[.int .i64 node', .int .u64 th', .bool su', .int .u64 old', .int .u64 g', .int .u64 n', .int .u64 r', .slice As' S' cs', .int .u64 a', .int .u64 b', .int .u64 f', .slice At' T' ct', .slice Ak' K' ck'] _ := ⟨(Blk.new w 31 #[.int .i64 node, .int .u64 th, .bool su, .int .u64 old, .int .u64 g, .int .u64 n, .int .u64 r, .slice As S cs, .int .u64 a, .int .u64 b, .int .u64 f, .slice At T ct, .slice Ak K ck]).alloc (.cells #[.int .i64 node', .int .u64 th', .bool su', .int .u64 old', .int .u64 g', .int .u64 n', .int .u64 r', .slice As' S' cs', .int .u64 a', .int .u64 b', .int .u64 f', .slice At' T' ct', .slice Ak' K' ck'] 31), Blk.new1 w (.cells #[.int .i64 node, .int .u64 th, .bool su, .int .u64 old, .int .u64 g, .int .u64 n, .int .u64 r, .slice As S cs, .int .u64 a, .int .u64 b, .int .u64 f, .slice At T ct, .slice Ak K ck] 31) 31 #[.int .i64 node', .int .u64 th', .bool su', .int .u64 old', .int .u64 g', .int .u64 n', .int .u64 r', .slice As' S' cs', .int .u64 a', .int .u64 b', .int .u64 f', .slice At' T' ct', .slice Ak' K' ck'], bal (bal (Below.refl _ _) (.cells #[.int .i64 node, .int .u64 th, .bool su, .int .u64 old, .int .u64 g, .int .u64 n, .int .u64 r, .slice As S cs, .int .u64 a, .int .u64 b, .int .u64 f, .slice At T ct, .slice Ak K ck] 31)) (.cells #[.int .i64 node', .int .u64 th', .bool su', .int .u64 old', .int .u64 g', .int .u64 n', .int .u64 r', .slice As' S' cs', .int .u64 a', .int .u64 b', .int .u64 f', .slice At' T' ct', .slice Ak' K' ck'] 31)⟩
  obtain ⟨g1, hg1⟩ : ∃ g1, w.heap.size + 1 = g1 := ⟨_, rfl⟩
  rw [hg1] at k0 ⊢
  clear hg1
  obtain ⟨g0, hg0⟩ : ∃ g0, w.heap.size = g0 := ⟨_, rfl⟩
  rw [hg0] at k0 ⊢
  clear hg0
  generalize (w.alloc (.cells #[.int .i64 node, .int .u64 th, .bool su, .int .u64 old, .int .u64 g, .int .u64 n, .int .u64 r, .slice As S cs, .int .u64 a, .int .u64 b, .int .u64 f, .slice At T ct, .slice Ak K ck] 31)).alloc (.cells #[.int .i64 node', .int .u64 th', .bool su', .int .u64 old', .int .u64 g', .int .u64 n', .int .u64 r', .slice As' S' cs', .int .u64 a', .int .u64 b', .int .u64 f', .slice At' T' ct', .slice Ak' K' ck'] 31) = w1 at k0 ⊢
  have K1 := Lib.hid k0
  have kb := k0.b
  have kc := k0.c
  clear k0
  go_wp2_with (first | (refine wpList_load_row (by rfl) 31 _ (by rfl) g0 (by rfl) 31 #[.int .i64 node, .int .u64 th, .bool su, .int .u64 old, .int .u64 g, .int .u64 n, .int .u64 r, .slice As S cs, .int .u64 a, .int .u64 b, .int .u64 f, .slice At T ct, .slice Ak K ck] (0, 0) _ kb Try.underlying31 (by rfl) (by kernel_rfl) ?_) | (refine wpList_load_row (by rfl) 31 _ (by rfl) g1 (by rfl) 31 #[.int .i64 node', .int .u64 th', .bool su', .int .u64 old', .int .u64 g', .int .u64 n', .int .u64 r', .slice As' S' cs', .int .u64 a', .int .u64 b', .int .u64 f', .slice At' T' ct', .slice Ak' K' ck'] (0, 0) _ kc Try.underlying31 (by rfl) (by kernel_rfl) ?_))
  refine (CS'.out _ K1.out.hB).mono ?_
  rintro e w2 ⟨rfl, hb⟩
  have kk := K1.out.below hb
  clear K1 kb kc hb
  have kb := kk.b
  have kc := kk.c
  have K1 := Lib.hid kk
  clear kk
  go_wp2_with (first | (refine wpList_load_row (by rfl) 31 _ (by rfl) g0 (by rfl) 31 #[.int .i64 node, .int .u64 th, .bool su, .int .u64 old, .int .u64 g, .int .u64 n, .int .u64 r, .slice As S cs, .int .u64 a, .int .u64 b, .int .u64 f, .slice At T ct, .slice Ak K ck] (0, 0) _ kb Try.underlying31 (by rfl) (by kernel_rfl) ?_) | (refine wpList_load_row (by rfl) 31 _ (by rfl) g1 (by rfl) 31 #[.int .i64 node', .int .u64 th', .bool su', .int .u64 old', .int .u64 g', .int .u64 n', .int .u64 r', .slice As' S' cs', .int .u64 a', .int .u64 b', .int .u64 f', .slice At' T' ct', .slice Ak' K' ck'] (0, 0) _ kc Try.underlying31 (by rfl) (by kernel_rfl) ?_))
  refine (CR'.out _ K1.out.hB).mono ?_
  rintro e w3 ⟨rfl, hb⟩
  have kk := K1.out.below hb
  clear K1 kb kc hb
  have kb := kk.b
  have kc := kk.c
  have K1 := Lib.hid kk
  clear kk
  go_wp2_with (first | (refine wpList_load_row (by rfl) 31 _ (by rfl) g0 (by rfl) 31 #[.int .i64 node, .int .u64 th, .bool su, .int .u64 old, .int .u64 g, .int .u64 n, .int .u64 r, .slice As S cs, .int .u64 a, .int .u64 b, .int .u64 f, .slice At T ct, .slice Ak K ck] (0, 0) _ kb Try.underlying31 (by rfl) (by kernel_rfl) ?_) | (refine wpList_load_row (by rfl) 31 _ (by rfl) g1 (by rfl) 31 #[.int .i64 node', .int .u64 th', .bool su', .int .u64 old', .int .u64 g', .int .u64 n', .int .u64 r', .slice As' S' cs', .int .u64 a', .int .u64 b', .int .u64 f', .slice At' T' ct', .slice Ak' K' ck'] (0, 0) _ kc Try.underlying31 (by rfl) (by kernel_rfl) ?_))
  refine (BS'.out _).mono ?_
  rintro e w4 ⟨rfl, hb⟩
  have kk := K1.out.below hb
  clear K1 kb kc hb
  have kb := kk.b
  have kc := kk.c
  have K1 := Lib.hid kk
  clear kk
  go_wp2_with (first | (refine wpList_load_row (by rfl) 31 _ (by rfl) g0 (by rfl) 31 #[.int .i64 node, .int .u64 th, .bool su, .int .u64 old, .int .u64 g, .int .u64 n, .int .u64 r, .slice As S cs, .int .u64 a, .int .u64 b, .int .u64 f, .slice At T ct, .slice Ak K ck] (0, 0) _ kb Try.underlying31 (by rfl) (by kernel_rfl) ?_) | (refine wpList_load_row (by rfl) 31 _ (by rfl) g1 (by rfl) 31 #[.int .i64 node', .int .u64 th', .bool su', .int .u64 old', .int .u64 g', .int .u64 n', .int .u64 r', .slice As' S' cs', .int .u64 a', .int .u64 b', .int .u64 f', .slice At' T' ct', .slice Ak' K' ck'] (0, 0) _ kc Try.underlying31 (by rfl) (by kernel_rfl) ?_))
  refine (BR'.out _).mono ?_
  rintro e w5 ⟨rfl, hb⟩
  have kk := K1.out.below hb
  clear K1 kb kc hb
  have kb := kk.b
  have kc := kk.c
  have K1 := Lib.hid kk
  clear kk
  obtain ⟨x0, x1, x2, x3, x4, x5, x6, x7, x8, x9, x10, x11, x12⟩ := kb.c13
  have y1 : w5.cell? ⟨g1, 1, none⟩ = some (.int .u64 th') := kc.cell 1
  have y2 : w5.cell? ⟨g1, 2, none⟩ = some (.bool su') := kc.cell 2
  go_wp2_with fail
  refine (US'.out _ K1.out.hB).mono ?_
  rintro e w6 ⟨rfl, hb⟩
  have kk := K1.out.below hb
  clear K1 kb kc hb x0 x1 x2 x3 x4 x5 x6 x7 x8 x9 x10 x11 x12 y1 y2
  have K1 := Lib.hid kk
  clear kk
  go_wp2_with fail
  go_loopw [13, 15] (fun s13 s15 wr => ∃ k : Nat, k ≤ S ∧ s15 = .int .i64 k ∧ s13 = .int .u64 (us + oS k) ∧ BK2 w g0 31 #[.int .i64 node, .int .u64 th, .bool su, .int .u64 old, .int .u64 g, .int .u64 n, .int .u64 r, .slice As S cs, .int .u64 a, .int .u64 b, .int .u64 f, .slice At T ct, .slice Ak K ck] g1 31 #[.int .i64 node', .int .u64 th', .bool su', .int .u64 old', .int .u64 g', .int .u64 n', .int .u64 r', .slice As' S' cs', .int .u64 a', .int .u64 b', .int .u64 f', .slice At' T' ct', .slice Ak' K' ck'] wr) (fun _ s _ => S - (intOf s).toNat)
  case atStart => exact ⟨0, Nat.zero_le _, rfl, by rw [O0'.out, Int.add_zero], K1.out⟩
  case round =>
    obtain ⟨k, hk, rfl, rfl, kb⟩ := hrel
    obtain ⟨wy, rfl⟩ : ∃ wy : World, wy = wr := ⟨_, rfl⟩
    clear K1
    have KB := Lib.hid kb
    have x7 : wy.cell? ⟨g0, 7, none⟩ = some (.slice As S cs) := kb.b.cell 7
    have hgy := kb.b.lt
    clear kb
    by_cases hlt : k < S
    · obtain ⟨x, hx⟩ : ∃ x, slAtI SL k = x := ⟨_, rfl⟩
      have hkl : k < SL.length := by rw [← hSl'.out]; exact hlt
      obtain ⟨bt, ot, e, hbt, p0, p1, p2, p3, p4⟩ := slot_cells hRd'.out hSl'.out (slAtI_get hkl)
      subst e
      have hxm := slAtI_mem hkl
      rw [hx] at p0 p1 p2 p3 p4 hxm
      obtain ⟨hxo, hxs⟩ := hwf'.out x hxm
      have d0 := (KB.out.hB.cell (p := ⟨bt, ot + k * 5, none⟩) hbt).trans p0
      have d1 := (KB.out.hB.cell (p := ⟨bt, ot + k * 5 + 1, none⟩) hbt).trans p1
      have d2 := (KB.out.hB.cell (p := ⟨bt, ot + k * 5 + 2, none⟩) hbt).trans p2
      have d3 := (KB.out.hB.cell (p := ⟨bt, ot + k * 5 + 3, none⟩) hbt).trans p3
      have d4 := (KB.out.hB.cell (p := ⟨bt, ot + k * 5 + 4, none⟩) hbt).trans p4
      obtain ⟨u1, u2⟩ := OB'.out k (by omega)
      obtain ⟨v1, v2⟩ := OB'.out (k + 1) (by omega)
      have LK := OS'.out k hlt
      rw [hx] at LK
      have LKH := Lib.hid LK
      have hTO : tOf z x = if cntB z x = true then x.size else 0 := rfl
      have hC : cntB z x = (decide ((stE z x.off x.size).2 ≠ 0) || decide ((stE z x.off x.size).1 = 2)) := rfl
      have STx := Lib.hid (fun w' hb => ST'.out w' hb x.off x.size hxo hxs)
      obtain ⟨s1, hs1⟩ : ∃ s1, (stE z x.off x.size).1 = s1 := ⟨_, rfl⟩
      obtain ⟨s2, hs2⟩ : ∃ s2, (stE z x.off x.size).2 = s2 := ⟨_, rfl⟩
      rw [hs1, hs2] at STx hC
      obtain ⟨c0, hc0⟩ : ∃ c0, oS k = c0 := ⟨_, rfl⟩
      rw [hc0] at LK LKH u1 u2 ⊢
      obtain ⟨c1, hc1⟩ : ∃ c1, oS (k + 1) = c1 := ⟨_, rfl⟩
      rw [hc1] at LK LKH v1 v2
      have HC1 := Lib.hid hc1
      have hki : (k : Int) < S := by omega
      have hk0 : (0 : Int) ≤ k := by omega
      have kc := KB.out.c
      have z8 : wy.cell? ⟨g1, 8, none⟩ = some (.int .u64 a') := kc.cell 8
      have z9 : wy.cell? ⟨g1, 9, none⟩ = some (.int .u64 b') := kc.cell 9
      have z10 : wy.cell? ⟨g1, 10, none⟩ = some (.int .u64 f') := kc.cell 10
      have z11 : wy.cell? ⟨g1, 11, none⟩ = some (.slice At' T' ct') := kc.cell 11
      have z12 : wy.cell? ⟨g1, 12, none⟩ = some (.slice Ak' K' ck') := kc.cell 12
      have hgz := kc.lt
      clear hx p0 p1 p2 p3 p4 hxm hs1 hs2 hc0 hc1 kc
      by_cases b1 : s2 = 0
      · by_cases b2 : s1 = 2
        · have hct : cntB z x = true := by rw [hC]; simp [b2]
          rw [hct, if_pos rfl] at hTO
          rw [hTO] at LK LKH
          have W1 : IntKind.u64.wrap (us + c0 + x.size) = us + c0 + x.size := IntWalk.u64_in _ (by omega)
          subst b1 b2
          clear hTO hC hct LK
          go_wp2_with fail
          refine (STx.out _ (bal KB.out.hB _)).mono ?_
          rintro e wn ⟨rfl, hb⟩
          have KN := Lib.hid ((KB.out.below (bal (Below.refl _ _) _)).below hb)
          have q1 := ((Blk.new wy 81 #[.int .u64 x.off, .int .u64 x.size, .int .i64 x.node, .int .u64 x.seq, .int .i64 x.io]).below hb).cell 1
          replace q1 : wn.cell? ⟨wy.heap.size, 1, none⟩ = some (.int .u64 x.size) := q1
          clear hb STx d0 d1 d2 d3 d4 x7 z8 z9 z10 z11 z12
          go_wp2_with fail
          go_roundw
          case rel => exact ⟨k + 1, by omega, by go_num, by rw [HC1.out, LKH.out]; congr 1; omega, KN.out⟩
          case measure => simp [intOf]; omega
        · have hct : cntB z x = false := by rw [hC]; simp [b1, b2]
          rw [hct, if_neg (by simp)] at hTO
          rw [hTO] at LK LKH
          have e2 : (s1 == 2) = false := by simpa using b2
          subst b1
          clear hTO hC hct LK b2
          go_wp2_with fail
          refine (STx.out _ (bal KB.out.hB _)).mono ?_
          rintro e wn ⟨rfl, hb⟩
          have KN := Lib.hid ((KB.out.below (bal (Below.refl _ _) _)).below hb)
          have q1 := ((Blk.new wy 81 #[.int .u64 x.off, .int .u64 x.size, .int .i64 x.node, .int .u64 x.seq, .int .i64 x.io]).below hb).cell 1
          replace q1 : wn.cell? ⟨wy.heap.size, 1, none⟩ = some (.int .u64 x.size) := q1
          clear hb STx d0 d1 d2 d3 d4 x7 z8 z9 z10 z11 z12
          go_wp2_with fail
          go_roundw
          case rel => exact ⟨k + 1, by omega, by go_num, by rw [HC1.out, LKH.out]; congr 1; omega, KN.out⟩
          case measure => simp [intOf]; omega
      · have hct : cntB z x = true := by rw [hC]; simp [b1]
        rw [hct, if_pos rfl] at hTO
        rw [hTO] at LK LKH
        have e2 : (s2 != 0) = true := by simpa using b1
        have W1 : IntKind.u64.wrap (us + c0 + x.size) = us + c0 + x.size := IntWalk.u64_in _ (by omega)
        clear hTO hC hct LK b1
        go_wp2_with fail
        refine (STx.out _ (bal KB.out.hB _)).mono ?_
        rintro e wn ⟨rfl, hb⟩
        have KN := Lib.hid ((KB.out.below (bal (Below.refl _ _) _)).below hb)
        have q1 := ((Blk.new wy 81 #[.int .u64 x.off, .int .u64 x.size, .int .i64 x.node, .int .u64 x.seq, .int .i64 x.io]).below hb).cell 1
        replace q1 : wn.cell? ⟨wy.heap.size, 1, none⟩ = some (.int .u64 x.size) := q1
        clear hb STx d0 d1 d2 d3 d4 x7 z8 z9 z10 z11 z12
        go_wp2_with fail
        go_roundw
        case rel => exact ⟨k + 1, by omega, by go_num, by rw [HC1.out, LKH.out]; congr 1; omega, KN.out⟩
        case measure => simp [intOf]; omega
    · obtain rfl : k = S := by omega
      have kc := KB.out.c
      go_wp2_with (refine wpList_load_row (by rfl) 31 _ (by rfl) g1 (by rfl) 31 #[.int .i64 node', .int .u64 th', .bool su', .int .u64 old', .int .u64 g', .int .u64 n', .int .u64 r', .slice As' S' cs', .int .u64 a', .int .u64 b', .int .u64 f', .slice At' T' ct', .slice Ak' K' ck'] (0, 0) _ kc Try.underlying31 (by rfl) (by kernel_rfl) ?_)
      refine (HE'.out _ KB.out.hB).mono ?_
      rintro e w7 ⟨rfl, hb⟩
      have hB7 := KB.out.hB.trans (hb.mono KB.out.hB.size)
      clear hb kc x7
      go_wp2_with fail
      go_ret2
      exact ⟨rfl, hB7⟩

end Go.Proofs.Ytfgkkflbpfocjaa

