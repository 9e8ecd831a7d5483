/- Restarts, and frames to a neighbour: the parts. -/
import Derived.Test.YtfgkkflbpfocjaaZc26
import Derived.Test.YtfgkkflbpfocjaaZc38
namespace Go.Proofs.Ytfgkkflbpfocjaa
open Go.RowKit
set_option linter.unusedVariables false
set_option linter.unusedSimpArgs false

set_option maxRecDepth 100000 in
set_option maxHeartbeats 4000000 in
theorem pr_k (node' th old : Int) (su : Bool) (g n r : Int) (S cs : Nat) (As : Option Addr) (a b f : Int) (T ct : Nat) (At : Option Addr) (K ck : Nat) (Ak : Option Addr)  (w : World) (PC : ∀ w', Below w.heap.size w w' → Calls Try.prog 20 #[.agg #[.int .i64 node', .int .u64 th, .bool su, .int .u64 old, .int .u64 g, .int .u64 n, .int .u64 r, .slice As S cs, .int .u64 a, .int .u64 b, .int .u64 f, .slice At T ct, .slice Ak K ck]] w' (RetI .i64 0 w')) (hl : Int) (HE : ∀ w', Below w.heap.size w w' → Calls Try.prog 41 #[.agg #[.int .i64 node', .int .u64 th, .bool su, .int .u64 old, .int .u64 g, .int .u64 n, .int .u64 r, .slice As S cs, .int .u64 a, .int .u64 b, .int .u64 f, .slice At T ct, .slice Ak K ck]] w' (fun e w'' => e = .returned (.tuple #[.int .u64 hl, .bool true]) ∧ Below w'.heap.size w' w'')) (h1 : ¬ hl > 1125899906842624) :
    Calls Try.prog 27 #[.agg #[.int .i64 node', .int .u64 th, .bool su, .int .u64 old, .int .u64 g, .int .u64 n, .int .u64 r, .slice As S cs, .int .u64 a, .int .u64 b, .int .u64 f, .slice At T ct, .slice Ak K ck]] w (fun e w' => e = .returned (.tuple #[.agg #[.int .i64 node', .int .u64 th, .bool false, .int .u64 hl, .int .u64 0, .int .u64 0, .int .u64 0, .slice none 0 0, .int .u64 0, .int .u64 0, .int .u64 0, .slice none 0 0, .slice none 0 0], .int .i64 0]) ∧ Below w.heap.size w w') := by
  have PC' := Lib.hid PC
  clear PC
  have HE' := Lib.hid HE
  clear HE
  go_enter Try.func27, Try.ntmps27
  go_upto_region 1 with fail
  try simp only [World.size_alloc, Act.put, List.setIfInBounds_toArray, List.set_cons_zero, List.set_cons_succ]
  have k0 : BK2 w w.heap.size 31 #[.int .i64 node', .int .u64 th, .bool su, .int .u64 old, .int .u64 g, .int .u64 n, .int .u64 r, .slice As S cs, .int .u64 a, .int .u64 b, .int .u64 f, .slice At T ct, .slice Ak K ck] (w.heap.size + 1) 31 #[.int .i64 0, .int .u64 0, .bool false, .int .u64 0, .int .u64 0, .int .u64 0, .int .u64 0, .slice none 0 0, .int .u64 0, .int .u64 0, .int .u64 0, .slice none 0 0, .slice none 0 0] _ := ⟨(Blk.new w 31 #[.int .i64 node', .int .u64 th, .bool su, .int .u64 old, .int .u64 g, .int .u64 n, .int .u64 r, .slice As S cs, .int .u64 a, .int .u64 b, .int .u64 f, .slice At T ct, .slice Ak K ck]).alloc (.cells #[.int .i64 0, .int .u64 0, .bool false, .int .u64 0, .int .u64 0, .int .u64 0, .int .u64 0, .slice none 0 0, .int .u64 0, .int .u64 0, .int .u64 0, .slice none 0 0, .slice none 0 0] 31), Blk.new1 w (.cells #[.int .i64 node', .int .u64 th, .bool su, .int .u64 old, .int .u64 g, .int .u64 n, .int .u64 r, .slice As S cs, .int .u64 a, .int .u64 b, .int .u64 f, .slice At T ct, .slice Ak K ck] 31) 31 #[.int .i64 0, .int .u64 0, .bool false, .int .u64 0, .int .u64 0, .int .u64 0, .int .u64 0, .slice none 0 0, .int .u64 0, .int .u64 0, .int .u64 0, .slice none 0 0, .slice none 0 0], bal (bal (Below.refl _ _) (.cells #[.int .i64 node', .int .u64 th, .bool su, .int .u64 old, .int .u64 g, .int .u64 n, .int .u64 r, .slice As S cs, .int .u64 a, .int .u64 b, .int .u64 f, .slice At T ct, .slice Ak K ck] 31)) (.cells #[.int .i64 0, .int .u64 0, .bool false, .int .u64 0, .int .u64 0, .int .u64 0, .int .u64 0, .slice none 0 0, .int .u64 0, .int .u64 0, .int .u64 0, .slice none 0 0, .slice none 0 0] 31)⟩
  obtain ⟨g1, hg1⟩ : ∃ g1, w.heap.size + 1 = g1 := ⟨_, rfl⟩
  have HG : Hid (w.heap.size ≤ g1) := Lib.hid (by omega)
  rw [hg1] at k0 ⊢
  clear hg1
  obtain ⟨g0, hg0⟩ : ∃ g0, w.heap.size = g0 := ⟨_, rfl⟩
  rw [hg0] at k0 ⊢
  clear hg0
  generalize (w.alloc (.cells #[.int .i64 node', .int .u64 th, .bool su, .int .u64 old, .int .u64 g, .int .u64 n, .int .u64 r, .slice As S cs, .int .u64 a, .int .u64 b, .int .u64 f, .slice At T ct, .slice Ak K ck] 31)).alloc (.cells #[.int .i64 0, .int .u64 0, .bool false, .int .u64 0, .int .u64 0, .int .u64 0, .int .u64 0, .slice none 0 0, .int .u64 0, .int .u64 0, .int .u64 0, .slice none 0 0, .slice none 0 0] 31) = w1 at k0 ⊢
  have K1 := Lib.hid k0
  have kb := k0.b
  have kc := k0.c
  clear k0
  go_wp2_with (refine wpList_load_row (by rfl) 31 _ (by rfl) g0 (by rfl) 31 #[.int .i64 node', .int .u64 th, .bool su, .int .u64 old, .int .u64 g, .int .u64 n, .int .u64 r, .slice As S cs, .int .u64 a, .int .u64 b, .int .u64 f, .slice At T ct, .slice Ak K ck] (0, 0) _ kb Try.underlying31 (by rfl) (by kernel_rfl) ?_)
  refine (PC'.out _ K1.out.hB).mono ?_
  rintro e w2 ⟨rfl, hb1⟩
  have kk := K1.out.below hb1
  clear K1 kb kc hb1
  have kb := kk.b
  have kc := kk.c
  have hl0 := kb.lt
  have hl1 := kc.lt
  have K1 := Lib.hid kk
  clear kk
  go_wp2_with (refine wpList_load_row (by rfl) 31 _ (by rfl) g0 (by rfl) 31 #[.int .i64 node', .int .u64 th, .bool su, .int .u64 old, .int .u64 g, .int .u64 n, .int .u64 r, .slice As S cs, .int .u64 a, .int .u64 b, .int .u64 f, .slice At T ct, .slice Ak K ck] (0, 0) _ kb Try.underlying31 (by rfl) (by kernel_rfl) ?_)
  refine (HE'.out _ K1.out.hB).mono ?_
  rintro e w3 ⟨rfl, hb1⟩
  have kk := K1.out.below hb1
  clear K1 kb kc hb1
  have kb := kk.b
  have kc := kk.c
  have hl0 := kb.lt
  have hl1 := kc.lt
  have K1 := Lib.hid kk
  clear kk
  have x0 : w3.cell? ⟨g0, 0, none⟩ = some (.int .i64 node') := kb.cell 0
  have x1 : w3.cell? ⟨g0, 1, none⟩ = some (.int .u64 th) := kb.cell 1
  go_wp2_with (refine wpList_store_mid (by rfl) 31 _ _ (by rfl) g1 0 #[.int .i64 node', .int .u64 th, .bool false, .int .u64 hl, .int .u64 0, .int .u64 0, .int .u64 0, .slice none 0 0, .int .u64 0, .int .u64 0, .int .u64 0, .slice none 0 0, .slice none 0 0] (by rfl) (by rfl) (Blk.there kc 0 _ (Nat.le_refl 13)) (by kernel_rfl) (by kernel_rfl) ?_)
  refine bodyPost_ret (results_cell_t rfl _ _ g1 31 #[.int .i64 node', .int .u64 th, .bool false, .int .u64 hl, .int .u64 0, .int .u64 0, .int .u64 0, .slice none 0 0, .int .u64 0, .int .u64 0, .int .u64 0, .slice none 0 0, .slice none 0 0] (0, 0) _ rfl (kc.setAll rfl) Try.underlying31 (by rfl) (by kernel_rfl)) rfl ?_
  exact ⟨rfl, below_setCells HG.out _ _ K1.out.hB⟩

set_option maxRecDepth 100000 in
set_option maxHeartbeats 4000000 in
theorem bg_e (node' th old : Int) (su : Bool) (g n r : Int) (S cs : Nat) (As : Option Addr) (a b f : Int) (T ct : Nat) (At : Option Addr) (K ck : Nat) (Ak : Option Addr) (node boot kind : Int) (w : World) (PC : ∀ w', Below w.heap.size w w' → Calls Try.prog 20 #[.agg #[.int .i64 node', .int .u64 th, .bool su, .int .u64 old, .int .u64 g, .int .u64 n, .int .u64 r, .slice As S cs, .int .u64 a, .int .u64 b, .int .u64 f, .slice At T ct, .slice Ak K ck]] w' (RetI .i64 0 w')) (n1 : ¬ node < 1) (n2 : ¬ node > 16) (n3 : (node == node') = false) (b1 : ¬ boot < 1) (b2 : ¬ boot > 1099511627776) (k1 : (kind != 1) = true) (t0 : (th == 0) = true) :
    Calls Try.prog 70 #[.agg #[.int .i64 node', .int .u64 th, .bool su, .int .u64 old, .int .u64 g, .int .u64 n, .int .u64 r, .slice As S cs, .int .u64 a, .int .u64 b, .int .u64 f, .slice At T ct, .slice Ak K ck], .int .i64 node, .int .u64 boot, .int .i64 kind] w (fun e w' => e = .returned (.tuple #[.agg #[.int .i64 0, .int .i64 0, .int .i64 0, .int .u64 0, .int .u64 0, .int .u64 0, .int .u64 0, .int .i64 0, .int .u64 0, .int .i64 0, .int .i64 0, .int .u64 0, .int .i64 0, .int .i64 0, .int .i64 0, .int .i64 0, .int .i64 0, .int .i64 0, .string ⟨#[]⟩], .int .i64 13]) ∧ Below w.heap.size w w') := by
  have PC' := Lib.hid PC
  clear PC
  go_enter Try.func70, Try.ntmps70
  go_upto_region 1 with (refine wpList_alloc_z (by rfl) 51 (by rfl) _ rfl _ zeroFr ?_)
  try simp only [World.size_alloc, Act.put, List.setIfInBounds_toArray, List.set_cons_zero, List.set_cons_succ]
  have k0 : BK2 w w.heap.size 31 #[.int .i64 node', .int .u64 th, .bool su, .int .u64 old, .int .u64 g, .int .u64 n, .int .u64 r, .slice As S cs, .int .u64 a, .int .u64 b, .int .u64 f, .slice At T ct, .slice Ak K ck] (w.heap.size + 1) 51 #[.int .i64 0, .int .i64 0, .int .i64 0, .int .u64 0, .int .u64 0, .int .u64 0, .int .u64 0, .int .i64 0, .int .u64 0, .int .i64 0, .int .i64 0, .int .u64 0, .int .i64 0, .int .i64 0, .int .i64 0, .int .i64 0, .int .i64 0, .int .i64 0, .string ⟨#[]⟩] _ := ⟨(Blk.new w 31 #[.int .i64 node', .int .u64 th, .bool su, .int .u64 old, .int .u64 g, .int .u64 n, .int .u64 r, .slice As S cs, .int .u64 a, .int .u64 b, .int .u64 f, .slice At T ct, .slice Ak K ck]).alloc (.cells #[.int .i64 0, .int .i64 0, .int .i64 0, .int .u64 0, .int .u64 0, .int .u64 0, .int .u64 0, .int .i64 0, .int .u64 0, .int .i64 0, .int .i64 0, .int .u64 0, .int .i64 0, .int .i64 0, .int .i64 0, .int .i64 0, .int .i64 0, .int .i64 0, .string ⟨#[]⟩] 51), Blk.new1 w (.cells #[.int .i64 node', .int .u64 th, .bool su, .int .u64 old, .int .u64 g, .int .u64 n, .int .u64 r, .slice As S cs, .int .u64 a, .int .u64 b, .int .u64 f, .slice At T ct, .slice Ak K ck] 31) 51 #[.int .i64 0, .int .i64 0, .int .i64 0, .int .u64 0, .int .u64 0, .int .u64 0, .int .u64 0, .int .i64 0, .int .u64 0, .int .i64 0, .int .i64 0, .int .u64 0, .int .i64 0, .int .i64 0, .int .i64 0, .int .i64 0, .int .i64 0, .int .i64 0, .string ⟨#[]⟩], bal (bal (Below.refl _ _) (.cells #[.int .i64 node', .int .u64 th, .bool su, .int .u64 old, .int .u64 g, .int .u64 n, .int .u64 r, .slice As S cs, .int .u64 a, .int .u64 b, .int .u64 f, .slice At T ct, .slice Ak K ck] 31)) (.cells #[.int .i64 0, .int .i64 0, .int .i64 0, .int .u64 0, .int .u64 0, .int .u64 0, .int .u64 0, .int .i64 0, .int .u64 0, .int .i64 0, .int .i64 0, .int .u64 0, .int .i64 0, .int .i64 0, .int .i64 0, .int .i64 0, .int .i64 0, .int .i64 0, .string ⟨#[]⟩] 51)⟩
  obtain ⟨g1, hg1⟩ : ∃ g1, w.heap.size + 1 = g1 := ⟨_, rfl⟩
  have HG : Hid (w.heap.size ≤ g1) := Lib.hid (by omega)
  rw [hg1] at k0 ⊢
  clear hg1
  obtain ⟨g0, hg0⟩ : ∃ g0, w.heap.size = g0 := ⟨_, rfl⟩
  rw [hg0] at k0 ⊢
  clear hg0
  generalize (w.alloc (.cells #[.int .i64 node', .int .u64 th, .bool su, .int .u64 old, .int .u64 g, .int .u64 n, .int .u64 r, .slice As S cs, .int .u64 a, .int .u64 b, .int .u64 f, .slice At T ct, .slice Ak K ck] 31)).alloc (.cells #[.int .i64 0, .int .i64 0, .int .i64 0, .int .u64 0, .int .u64 0, .int .u64 0, .int .u64 0, .int .i64 0, .int .u64 0, .int .i64 0, .int .i64 0, .int .u64 0, .int .i64 0, .int .i64 0, .int .i64 0, .int .i64 0, .int .i64 0, .int .i64 0, .string ⟨#[]⟩] 51) = w1 at k0 ⊢
  have K1 := Lib.hid k0
  have kb := k0.b
  have kc := k0.c
  clear k0
  go_wp2_with (refine wpList_load_row (by rfl) 31 _ (by rfl) g0 (by rfl) 31 #[.int .i64 node', .int .u64 th, .bool su, .int .u64 old, .int .u64 g, .int .u64 n, .int .u64 r, .slice As S cs, .int .u64 a, .int .u64 b, .int .u64 f, .slice At T ct, .slice Ak K ck] (0, 0) _ kb Try.underlying31 (by rfl) (by kernel_rfl) ?_)
  refine (PC'.out _ K1.out.hB).mono ?_
  rintro e w2 ⟨rfl, hb1⟩
  have kk := K1.out.below hb1
  clear K1 kb kc hb1
  have kb := kk.b
  have kc := kk.c
  have hl0 := kb.lt
  have hl1 := kc.lt
  have K1 := Lib.hid kk
  clear kk
  have x0 : w2.cell? ⟨g0, 0, none⟩ = some (.int .i64 node') := kb.cell 0
  have x1 : w2.cell? ⟨g0, 1, none⟩ = some (.int .u64 th) := kb.cell 1
  go_wp2_with (first | (refine wpList_buildTo (by rfl) 51 _ (by rfl) _ rfl #[.int .i64 0, .int .i64 0, .int .i64 0, .int .u64 0, .int .u64 0, .int .u64 0, .int .u64 0, .int .i64 0, .int .u64 0, .int .i64 0, .int .i64 0, .int .u64 0, .int .i64 0, .int .i64 0, .int .i64 0, .int .i64 0, .int .i64 0, .int .i64 0, .string ⟨#[]⟩] (by kernel_rfl) ?_) | (refine wpList_store_mid (by rfl) 51 _ _ (by rfl) g1 0 #[.int .i64 0, .int .i64 0, .int .i64 0, .int .u64 0, .int .u64 0, .int .u64 0, .int .u64 0, .int .i64 0, .int .u64 0, .int .i64 0, .int .i64 0, .int .u64 0, .int .i64 0, .int .i64 0, .int .i64 0, .int .i64 0, .int .i64 0, .int .i64 0, .string ⟨#[]⟩] (by rfl) (by rfl) (Blk.there kc 0 _ (Nat.le_refl 19)) (by kernel_rfl) (one19 ..) ?_))
  refine bodyPost_ret (results_cell_t rfl _ _ g1 51 #[.int .i64 0, .int .i64 0, .int .i64 0, .int .u64 0, .int .u64 0, .int .u64 0, .int .u64 0, .int .i64 0, .int .u64 0, .int .i64 0, .int .i64 0, .int .u64 0, .int .i64 0, .int .i64 0, .int .i64 0, .int .i64 0, .int .i64 0, .int .i64 0, .string ⟨#[]⟩] (0, 0) _ rfl (kc.setAll rfl) Try.underlying51 (by rfl) (by kernel_rfl)) rfl ?_
  exact ⟨rfl, below_setCells HG.out _ _ K1.out.hB⟩

set_option maxRecDepth 100000 in
set_option maxHeartbeats 4000000 in
theorem bg_k1 (node' th old : Int) (su : Bool) (g n r : Int) (S cs : Nat) (As : Option Addr) (a b f : Int) (T ct : Nat) (At : Option Addr) (K ck : Nat) (Ak : Option Addr) (node boot kind : Int) (w : World) (PC : ∀ w', Below w.heap.size w w' → Calls Try.prog 20 #[.agg #[.int .i64 node', .int .u64 th, .bool su, .int .u64 old, .int .u64 g, .int .u64 n, .int .u64 r, .slice As S cs, .int .u64 a, .int .u64 b, .int .u64 f, .slice At T ct, .slice Ak K ck]] w' (RetI .i64 0 w')) (n1 : ¬ node < 1) (n2 : ¬ node > 16) (n3 : (node == node') = false) (b1 : ¬ boot < 1) (b2 : ¬ boot > 1099511627776) (k1 : (kind != 1) = false) :
    Calls Try.prog 70 #[.agg #[.int .i64 node', .int .u64 th, .bool su, .int .u64 old, .int .u64 g, .int .u64 n, .int .u64 r, .slice As S cs, .int .u64 a, .int .u64 b, .int .u64 f, .slice At T ct, .slice Ak K ck], .int .i64 node, .int .u64 boot, .int .i64 kind] w (fun e w' => e = .returned (.tuple #[.agg #[.int .i64 kind, .int .i64 node, .int .i64 node', .int .u64 boot, .int .u64 th, .int .u64 0, .int .u64 0, .int .i64 0, .int .u64 0, .int .i64 0, .int .i64 0, .int .u64 0, .int .i64 0, .int .i64 0, .int .i64 0, .int .i64 0, .int .i64 0, .int .i64 0, .string ⟨#[]⟩], .int .i64 0]) ∧ Below w.heap.size w w') := by
  have PC' := Lib.hid PC
  clear PC
  go_enter Try.func70, Try.ntmps70
  go_upto_region 1 with (refine wpList_alloc_z (by rfl) 51 (by rfl) _ rfl _ zeroFr ?_)
  try simp only [World.size_alloc, Act.put, List.setIfInBounds_toArray, List.set_cons_zero, List.set_cons_succ]
  have k0 : BK2 w w.heap.size 31 #[.int .i64 node', .int .u64 th, .bool su, .int .u64 old, .int .u64 g, .int .u64 n, .int .u64 r, .slice As S cs, .int .u64 a, .int .u64 b, .int .u64 f, .slice At T ct, .slice Ak K ck] (w.heap.size + 1) 51 #[.int .i64 0, .int .i64 0, .int .i64 0, .int .u64 0, .int .u64 0, .int .u64 0, .int .u64 0, .int .i64 0, .int .u64 0, .int .i64 0, .int .i64 0, .int .u64 0, .int .i64 0, .int .i64 0, .int .i64 0, .int .i64 0, .int .i64 0, .int .i64 0, .string ⟨#[]⟩] _ := ⟨(Blk.new w 31 #[.int .i64 node', .int .u64 th, .bool su, .int .u64 old, .int .u64 g, .int .u64 n, .int .u64 r, .slice As S cs, .int .u64 a, .int .u64 b, .int .u64 f, .slice At T ct, .slice Ak K ck]).alloc (.cells #[.int .i64 0, .int .i64 0, .int .i64 0, .int .u64 0, .int .u64 0, .int .u64 0, .int .u64 0, .int .i64 0, .int .u64 0, .int .i64 0, .int .i64 0, .int .u64 0, .int .i64 0, .int .i64 0, .int .i64 0, .int .i64 0, .int .i64 0, .int .i64 0, .string ⟨#[]⟩] 51), Blk.new1 w (.cells #[.int .i64 node', .int .u64 th, .bool su, .int .u64 old, .int .u64 g, .int .u64 n, .int .u64 r, .slice As S cs, .int .u64 a, .int .u64 b, .int .u64 f, .slice At T ct, .slice Ak K ck] 31) 51 #[.int .i64 0, .int .i64 0, .int .i64 0, .int .u64 0, .int .u64 0, .int .u64 0, .int .u64 0, .int .i64 0, .int .u64 0, .int .i64 0, .int .i64 0, .int .u64 0, .int .i64 0, .int .i64 0, .int .i64 0, .int .i64 0, .int .i64 0, .int .i64 0, .string ⟨#[]⟩], bal (bal (Below.refl _ _) (.cells #[.int .i64 node', .int .u64 th, .bool su, .int .u64 old, .int .u64 g, .int .u64 n, .int .u64 r, .slice As S cs, .int .u64 a, .int .u64 b, .int .u64 f, .slice At T ct, .slice Ak K ck] 31)) (.cells #[.int .i64 0, .int .i64 0, .int .i64 0, .int .u64 0, .int .u64 0, .int .u64 0, .int .u64 0, .int .i64 0, .int .u64 0, .int .i64 0, .int .i64 0, .int .u64 0, .int .i64 0, .int .i64 0, .int .i64 0, .int .i64 0, .int .i64 0, .int .i64 0, .string ⟨#[]⟩] 51)⟩
  obtain ⟨g1, hg1⟩ : ∃ g1, w.heap.size + 1 = g1 := ⟨_, rfl⟩
  have HG : Hid (w.heap.size ≤ g1) := Lib.hid (by omega)
  rw [hg1] at k0 ⊢
  clear hg1
  obtain ⟨g0, hg0⟩ : ∃ g0, w.heap.size = g0 := ⟨_, rfl⟩
  rw [hg0] at k0 ⊢
  clear hg0
  generalize (w.alloc (.cells #[.int .i64 node', .int .u64 th, .bool su, .int .u64 old, .int .u64 g, .int .u64 n, .int .u64 r, .slice As S cs, .int .u64 a, .int .u64 b, .int .u64 f, .slice At T ct, .slice Ak K ck] 31)).alloc (.cells #[.int .i64 0, .int .i64 0, .int .i64 0, .int .u64 0, .int .u64 0, .int .u64 0, .int .u64 0, .int .i64 0, .int .u64 0, .int .i64 0, .int .i64 0, .int .u64 0, .int .i64 0, .int .i64 0, .int .i64 0, .int .i64 0, .int .i64 0, .int .i64 0, .string ⟨#[]⟩] 51) = w1 at k0 ⊢
  have K1 := Lib.hid k0
  have kb := k0.b
  have kc := k0.c
  clear k0
  go_wp2_with (refine wpList_load_row (by rfl) 31 _ (by rfl) g0 (by rfl) 31 #[.int .i64 node', .int .u64 th, .bool su, .int .u64 old, .int .u64 g, .int .u64 n, .int .u64 r, .slice As S cs, .int .u64 a, .int .u64 b, .int .u64 f, .slice At T ct, .slice Ak K ck] (0, 0) _ kb Try.underlying31 (by rfl) (by kernel_rfl) ?_)
  refine (PC'.out _ K1.out.hB).mono ?_
  rintro e w2 ⟨rfl, hb1⟩
  have kk := K1.out.below hb1
  clear K1 kb kc hb1
  have kb := kk.b
  have kc := kk.c
  have hl0 := kb.lt
  have hl1 := kc.lt
  have K1 := Lib.hid kk
  clear kk
  have x0 : w2.cell? ⟨g0, 0, none⟩ = some (.int .i64 node') := kb.cell 0
  have x1 : w2.cell? ⟨g0, 1, none⟩ = some (.int .u64 th) := kb.cell 1
  go_wp2_with (first | (refine wpList_buildTo (by rfl) 51 _ (by rfl) _ rfl #[.int .i64 kind, .int .i64 node, .int .i64 node', .int .u64 boot, .int .u64 th, .int .u64 0, .int .u64 0, .int .i64 0, .int .u64 0, .int .i64 0, .int .i64 0, .int .u64 0, .int .i64 0, .int .i64 0, .int .i64 0, .int .i64 0, .int .i64 0, .int .i64 0, .string ⟨#[]⟩] (by kernel_rfl) ?_) | (refine wpList_store_mid (by rfl) 51 _ _ (by rfl) g1 0 #[.int .i64 kind, .int .i64 node, .int .i64 node', .int .u64 boot, .int .u64 th, .int .u64 0, .int .u64 0, .int .i64 0, .int .u64 0, .int .i64 0, .int .i64 0, .int .u64 0, .int .i64 0, .int .i64 0, .int .i64 0, .int .i64 0, .int .i64 0, .int .i64 0, .string ⟨#[]⟩] (by rfl) (by rfl) (Blk.there kc 0 _ (Nat.le_refl 19)) (by kernel_rfl) (one19 ..) ?_))
  refine bodyPost_ret (results_cell_t rfl _ _ g1 51 #[.int .i64 kind, .int .i64 node, .int .i64 node', .int .u64 boot, .int .u64 th, .int .u64 0, .int .u64 0, .int .i64 0, .int .u64 0, .int .i64 0, .int .i64 0, .int .u64 0, .int .i64 0, .int .i64 0, .int .i64 0, .int .i64 0, .int .i64 0, .int .i64 0, .string ⟨#[]⟩] (0, 0) _ rfl (kc.setAll rfl) Try.underlying51 (by rfl) (by kernel_rfl)) rfl ?_
  exact ⟨rfl, below_setCells HG.out _ _ K1.out.hB⟩

set_option maxRecDepth 100000 in
set_option maxHeartbeats 4000000 in
theorem bg_kn (node' th old : Int) (su : Bool) (g n r : Int) (S cs : Nat) (As : Option Addr) (a b f : Int) (T ct : Nat) (At : Option Addr) (K ck : Nat) (Ak : Option Addr) (node boot kind : Int) (w : World) (PC : ∀ w', Below w.heap.size w w' → Calls Try.prog 20 #[.agg #[.int .i64 node', .int .u64 th, .bool su, .int .u64 old, .int .u64 g, .int .u64 n, .int .u64 r, .slice As S cs, .int .u64 a, .int .u64 b, .int .u64 f, .slice At T ct, .slice Ak K ck]] w' (RetI .i64 0 w')) (n1 : ¬ node < 1) (n2 : ¬ node > 16) (n3 : (node == node') = false) (b1 : ¬ boot < 1) (b2 : ¬ boot > 1099511627776) (k1 : (kind != 1) = true) (t0 : (th == 0) = false) :
    Calls Try.prog 70 #[.agg #[.int .i64 node', .int .u64 th, .bool su, .int .u64 old, .int .u64 g, .int .u64 n, .int .u64 r, .slice As S cs, .int .u64 a, .int .u64 b, .int .u64 f, .slice At T ct, .slice Ak K ck], .int .i64 node, .int .u64 boot, .int .i64 kind] w (fun e w' => e = .returned (.tuple #[.agg #[.int .i64 kind, .int .i64 node, .int .i64 node', .int .u64 boot, .int .u64 th, .int .u64 0, .int .u64 0, .int .i64 0, .int .u64 0, .int .i64 0, .int .i64 0, .int .u64 0, .int .i64 0, .int .i64 0, .int .i64 0, .int .i64 0, .int .i64 0, .int .i64 0, .string ⟨#[]⟩], .int .i64 0]) ∧ Below w.heap.size w w') := by
  have PC' := Lib.hid PC
  clear PC
  go_enter Try.func70, Try.ntmps70
  go_upto_region 1 with (refine wpList_alloc_z (by rfl) 51 (by rfl) _ rfl _ zeroFr ?_)
  try simp only [World.size_alloc, Act.put, List.setIfInBounds_toArray, List.set_cons_zero, List.set_cons_succ]
  have k0 : BK2 w w.heap.size 31 #[.int .i64 node', .int .u64 th, .bool su, .int .u64 old, .int .u64 g, .int .u64 n, .int .u64 r, .slice As S cs, .int .u64 a, .int .u64 b, .int .u64 f, .slice At T ct, .slice Ak K ck] (w.heap.size + 1) 51 #[.int .i64 0, .int .i64 0, .int .i64 0, .int .u64 0, .int .u64 0, .int .u64 0, .int .u64 0, .int .i64 0, .int .u64 0, .int .i64 0, .int .i64 0, .int .u64 0, .int .i64 0, .int .i64 0, .int .i64 0, .int .i64 0, .int .i64 0, .int .i64 0, .string ⟨#[]⟩] _ := ⟨(Blk.new w 31 #[.int .i64 node', .int .u64 th, .bool su, .int .u64 old, .int .u64 g, .int .u64 n, .int .u64 r, .slice As S cs, .int .u64 a, .int .u64 b, .int .u64 f, .slice At T ct, .slice Ak K ck]).alloc (.cells #[.int .i64 0, .int .i64 0, .int .i64 0, .int .u64 0, .int .u64 0, .int .u64 0, .int .u64 0, .int .i64 0, .int .u64 0, .int .i64 0, .int .i64 0, .int .u64 0, .int .i64 0, .int .i64 0, .int .i64 0, .int .i64 0, .int .i64 0, .int .i64 0, .string ⟨#[]⟩] 51), Blk.new1 w (.cells #[.int .i64 node', .int .u64 th, .bool su, .int .u64 old, .int .u64 g, .int .u64 n, .int .u64 r, .slice As S cs, .int .u64 a, .int .u64 b, .int .u64 f, .slice At T ct, .slice Ak K ck] 31) 51 #[.int .i64 0, .int .i64 0, .int .i64 0, .int .u64 0, .int .u64 0, .int .u64 0, .int .u64 0, .int .i64 0, .int .u64 0, .int .i64 0, .int .i64 0, .int .u64 0, .int .i64 0, .int .i64 0, .int .i64 0, .int .i64 0, .int .i64 0, .int .i64 0, .string ⟨#[]⟩], bal (bal (Below.refl _ _) (.cells #[.int .i64 node', .int .u64 th, .bool su, .int .u64 old, .int .u64 g, .int .u64 n, .int .u64 r, .slice As S cs, .int .u64 a, .int .u64 b, .int .u64 f, .slice At T ct, .slice Ak K ck] 31)) (.cells #[.int .i64 0, .int .i64 0, .int .i64 0, .int .u64 0, .int .u64 0, .int .u64 0, .int .u64 0, .int .i64 0, .int .u64 0, .int .i64 0, .int .i64 0, .int .u64 0, .int .i64 0, .int .i64 0, .int .i64 0, .int .i64 0, .int .i64 0, .int .i64 0, .string ⟨#[]⟩] 51)⟩
  obtain ⟨g1, hg1⟩ : ∃ g1, w.heap.size + 1 = g1 := ⟨_, rfl⟩
  have HG : Hid (w.heap.size ≤ g1) := Lib.hid (by omega)
  rw [hg1] at k0 ⊢
  clear hg1
  obtain ⟨g0, hg0⟩ : ∃ g0, w.heap.size = g0 := ⟨_, rfl⟩
  rw [hg0] at k0 ⊢
  clear hg0
  generalize (w.alloc (.cells #[.int .i64 node', .int .u64 th, .bool su, .int .u64 old, .int .u64 g, .int .u64 n, .int .u64 r, .slice As S cs, .int .u64 a, .int .u64 b, .int .u64 f, .slice At T ct, .slice Ak K ck] 31)).alloc (.cells #[.int .i64 0, .int .i64 0, .int .i64 0, .int .u64 0, .int .u64 0, .int .u64 0, .int .u64 0, .int .i64 0, .int .u64 0, .int .i64 0, .int .i64 0, .int .u64 0, .int .i64 0, .int .i64 0, .int .i64 0, .int .i64 0, .int .i64 0, .int .i64 0, .string ⟨#[]⟩] 51) = w1 at k0 ⊢
  have K1 := Lib.hid k0
  have kb := k0.b
  have kc := k0.c
  clear k0
  go_wp2_with (refine wpList_load_row (by rfl) 31 _ (by rfl) g0 (by rfl) 31 #[.int .i64 node', .int .u64 th, .bool su, .int .u64 old, .int .u64 g, .int .u64 n, .int .u64 r, .slice As S cs, .int .u64 a, .int .u64 b, .int .u64 f, .slice At T ct, .slice Ak K ck] (0, 0) _ kb Try.underlying31 (by rfl) (by kernel_rfl) ?_)
  refine (PC'.out _ K1.out.hB).mono ?_
  rintro e w2 ⟨rfl, hb1⟩
  have kk := K1.out.below hb1
  clear K1 kb kc hb1
  have kb := kk.b
  have kc := kk.c
  have hl0 := kb.lt
  have hl1 := kc.lt
  have K1 := Lib.hid kk
  clear kk
  have x0 : w2.cell? ⟨g0, 0, none⟩ = some (.int .i64 node') := kb.cell 0
  have x1 : w2.cell? ⟨g0, 1, none⟩ = some (.int .u64 th) := kb.cell 1
  go_wp2_with (first | (refine wpList_buildTo (by rfl) 51 _ (by rfl) _ rfl #[.int .i64 kind, .int .i64 node, .int .i64 node', .int .u64 boot, .int .u64 th, .int .u64 0, .int .u64 0, .int .i64 0, .int .u64 0, .int .i64 0, .int .i64 0, .int .u64 0, .int .i64 0, .int .i64 0, .int .i64 0, .int .i64 0, .int .i64 0, .int .i64 0, .string ⟨#[]⟩] (by kernel_rfl) ?_) | (refine wpList_store_mid (by rfl) 51 _ _ (by rfl) g1 0 #[.int .i64 kind, .int .i64 node, .int .i64 node', .int .u64 boot, .int .u64 th, .int .u64 0, .int .u64 0, .int .i64 0, .int .u64 0, .int .i64 0, .int .i64 0, .int .u64 0, .int .i64 0, .int .i64 0, .int .i64 0, .int .i64 0, .int .i64 0, .int .i64 0, .string ⟨#[]⟩] (by rfl) (by rfl) (Blk.there kc 0 _ (Nat.le_refl 19)) (by kernel_rfl) (one19 ..) ?_))
  refine bodyPost_ret (results_cell_t rfl _ _ g1 51 #[.int .i64 kind, .int .i64 node, .int .i64 node', .int .u64 boot, .int .u64 th, .int .u64 0, .int .u64 0, .int .i64 0, .int .u64 0, .int .i64 0, .int .i64 0, .int .u64 0, .int .i64 0, .int .i64 0, .int .i64 0, .int .i64 0, .int .i64 0, .int .i64 0, .string ⟨#[]⟩] (0, 0) _ rfl (kc.setAll rfl) Try.underlying51 (by rfl) (by kernel_rfl)) rfl ?_
  exact ⟨rfl, below_setCells HG.out _ _ K1.out.hB⟩

end Go.Proofs.Ytfgkkflbpfocjaa

