/- A frame met (the reference). -/
import Derived.Test.YtfgkkflbpfocjaaZ6
import Derived.Test.YtfgkkflbpfocjaaZ14
namespace Go.Proofs.Ytfgkkflbpfocjaa
open Go.RowKit
set_option linter.unusedVariables false
set_option linter.unusedSimpArgs false

set_option maxRecDepth 100000 in
set_option maxHeartbeats 4000000 in
theorem rm_p (node th old : Int) (su : Bool) (g n r : Int) (SL : List Sl) (S cs : Nat) (As : Option Addr) (a b f : Int) (TL : List Rg) (T ct : Nat) (At : Option Addr) (KL : List Int) (K ck : Nat) (Ak : Option Addr) (kind frm tto mine yours fa fb inode iseq ioff bnode bseq boff dest prio born life total : Int) (data : ByteArray) (boot : Int) (w : World) (ce : Int) (PC : ∀ w', Below w.heap.size w w' → Calls Try.prog 21 #[.agg #[.int .i64 node, .int .u64 th, .bool su, .int .u64 old, .int .u64 g, .int .u64 n, .int .u64 r, .slice As S cs, .int .u64 a, .int .u64 b, .int .u64 f, .slice At T ct, .slice Ak K ck]] w' (RetI .i64 ce w')) (h0 : ce ≠ 0) :
    Calls Try.prog 19 #[.agg #[.int .i64 node, .int .u64 th, .bool su, .int .u64 old, .int .u64 g, .int .u64 n, .int .u64 r, .slice As S cs, .int .u64 a, .int .u64 b, .int .u64 f, .slice At T ct, .slice Ak K ck], .int .u64 boot, .agg #[.int .i64 kind, .int .i64 frm, .int .i64 tto, .int .u64 mine, .int .u64 yours, .int .u64 fa, .int .u64 fb, .int .i64 inode, .int .u64 iseq, .int .i64 ioff, .int .i64 bnode, .int .u64 bseq, .int .i64 boff, .int .i64 dest, .int .i64 prio, .int .i64 born, .int .i64 life, .int .i64 total, .string data]] w (fun e w' => e = .returned (.tuple #[.agg #[.int .i64 0, .int .u64 0, .bool false, .int .u64 0, .int .u64 0, .int .u64 0, .int .u64 0, .slice none 0 0, .int .u64 0, .int .u64 0, .int .u64 0, .slice none 0 0, .slice none 0 0], .int .i64 0, .bool false, .int .i64 ce]) ∧ Below w.heap.size w w') := by
  have PC' := Lib.hid PC
  clear PC
  have e1 : (ce == 0) = false := by simpa using h0
  have e2 : (ce != 0) = true := by simpa using h0
  clear h0
  go_enter Try.func19, Try.ntmps19
  go_upto_region 1 with fail
  have k0 := (Blk.new w 31 #[.int .i64 node, .int .u64 th, .bool su, .int .u64 old, .int .u64 g, .int .u64 n, .int .u64 r, .slice As S cs, .int .u64 a, .int .u64 b, .int .u64 f, .slice At T ct, .slice Ak K ck]).alloc (.cells #[.int .i64 kind, .int .i64 frm, .int .i64 tto, .int .u64 mine, .int .u64 yours, .int .u64 fa, .int .u64 fb, .int .i64 inode, .int .u64 iseq, .int .i64 ioff, .int .i64 bnode, .int .u64 bseq, .int .i64 boff, .int .i64 dest, .int .i64 prio, .int .i64 born, .int .i64 life, .int .i64 total, .string data] 51)
  have k0 := k0.alloc (.cells #[.int .i64 0, .int .u64 0, .bool false, .int .u64 0, .int .u64 0, .int .u64 0, .int .u64 0, .slice none 0 0, .int .u64 0, .int .u64 0, .int .u64 0, .slice none 0 0, .slice none 0 0] 31)
  have k1 := (Blk.new1 w (.cells #[.int .i64 node, .int .u64 th, .bool su, .int .u64 old, .int .u64 g, .int .u64 n, .int .u64 r, .slice As S cs, .int .u64 a, .int .u64 b, .int .u64 f, .slice At T ct, .slice Ak K ck] 31) 51 #[.int .i64 kind, .int .i64 frm, .int .i64 tto, .int .u64 mine, .int .u64 yours, .int .u64 fa, .int .u64 fb, .int .i64 inode, .int .u64 iseq, .int .i64 ioff, .int .i64 bnode, .int .u64 bseq, .int .i64 boff, .int .i64 dest, .int .i64 prio, .int .i64 born, .int .i64 life, .int .i64 total, .string data]).alloc (.cells #[.int .i64 0, .int .u64 0, .bool false, .int .u64 0, .int .u64 0, .int .u64 0, .int .u64 0, .slice none 0 0, .int .u64 0, .int .u64 0, .int .u64 0, .slice none 0 0, .slice none 0 0] 31)
  have k2 := Blk.new2 w (.cells #[.int .i64 node, .int .u64 th, .bool su, .int .u64 old, .int .u64 g, .int .u64 n, .int .u64 r, .slice As S cs, .int .u64 a, .int .u64 b, .int .u64 f, .slice At T ct, .slice Ak K ck] 31) (.cells #[.int .i64 kind, .int .i64 frm, .int .i64 tto, .int .u64 mine, .int .u64 yours, .int .u64 fa, .int .u64 fb, .int .i64 inode, .int .u64 iseq, .int .i64 ioff, .int .i64 bnode, .int .u64 bseq, .int .i64 boff, .int .i64 dest, .int .i64 prio, .int .i64 born, .int .i64 life, .int .i64 total, .string data] 51) 31 #[.int .i64 0, .int .u64 0, .bool false, .int .u64 0, .int .u64 0, .int .u64 0, .int .u64 0, .slice none 0 0, .int .u64 0, .int .u64 0, .int .u64 0, .slice none 0 0, .slice none 0 0]
  have hB := bal (bal (bal (Below.refl w.heap.size w) (.cells #[.int .i64 node, .int .u64 th, .bool su, .int .u64 old, .int .u64 g, .int .u64 n, .int .u64 r, .slice As S cs, .int .u64 a, .int .u64 b, .int .u64 f, .slice At T ct, .slice Ak K ck] 31)) (.cells #[.int .i64 kind, .int .i64 frm, .int .i64 tto, .int .u64 mine, .int .u64 yours, .int .u64 fa, .int .u64 fb, .int .i64 inode, .int .u64 iseq, .int .i64 ioff, .int .i64 bnode, .int .u64 bseq, .int .i64 boff, .int .i64 dest, .int .i64 prio, .int .i64 born, .int .i64 life, .int .i64 total, .string data] 51)) (.cells #[.int .i64 0, .int .u64 0, .bool false, .int .u64 0, .int .u64 0, .int .u64 0, .int .u64 0, .slice none 0 0, .int .u64 0, .int .u64 0, .int .u64 0, .slice none 0 0, .slice none 0 0] 31)
  have k3 : BK3 w w.heap.size 31 #[.int .i64 node, .int .u64 th, .bool su, .int .u64 old, .int .u64 g, .int .u64 n, .int .u64 r, .slice As S cs, .int .u64 a, .int .u64 b, .int .u64 f, .slice At T ct, .slice Ak K ck] (w.heap.size + 1) 51 #[.int .i64 kind, .int .i64 frm, .int .i64 tto, .int .u64 mine, .int .u64 yours, .int .u64 fa, .int .u64 fb, .int .i64 inode, .int .u64 iseq, .int .i64 ioff, .int .i64 bnode, .int .u64 bseq, .int .i64 boff, .int .i64 dest, .int .i64 prio, .int .i64 born, .int .i64 life, .int .i64 total, .string data] (w.heap.size + 1 + 1) 31 #[.int .i64 0, .int .u64 0, .bool false, .int .u64 0, .int .u64 0, .int .u64 0, .int .u64 0, .slice none 0 0, .int .u64 0, .int .u64 0, .int .u64 0, .slice none 0 0, .slice none 0 0] _ := ⟨k0, k1, k2, hB⟩
  clear k0 k1 k2 hB
  generalize hW : ((w.alloc (.cells #[.int .i64 node, .int .u64 th, .bool su, .int .u64 old, .int .u64 g, .int .u64 n, .int .u64 r, .slice As S cs, .int .u64 a, .int .u64 b, .int .u64 f, .slice At T ct, .slice Ak K ck] 31)).alloc (.cells #[.int .i64 kind, .int .i64 frm, .int .i64 tto, .int .u64 mine, .int .u64 yours, .int .u64 fa, .int .u64 fb, .int .i64 inode, .int .u64 iseq, .int .i64 ioff, .int .i64 bnode, .int .u64 bseq, .int .i64 boff, .int .i64 dest, .int .i64 prio, .int .i64 born, .int .i64 life, .int .i64 total, .string data] 51)).alloc (.cells #[.int .i64 0, .int .u64 0, .bool false, .int .u64 0, .int .u64 0, .int .u64 0, .int .u64 0, .slice none 0 0, .int .u64 0, .int .u64 0, .int .u64 0, .slice none 0 0, .slice none 0 0] 31) = W at k3 ⊢
  clear hW
  obtain ⟨g2, hg2⟩ : ∃ g2, w.heap.size + 1 + 1 = g2 := ⟨_, rfl⟩
  obtain ⟨g1, hg1⟩ : ∃ g1, w.heap.size + 1 = g1 := ⟨_, rfl⟩
  have HG : Hid (w.heap.size ≤ g2) := Lib.hid (by omega)
  obtain ⟨g0, hg0⟩ : ∃ g0, w.heap.size = g0 := ⟨_, rfl⟩
  have n02 : Hid (¬ g0 = g2) := Lib.hid (by omega)
  have n12 : Hid (¬ g1 = g2) := Lib.hid (by omega)
  rw [hg2] at k3 ⊢
  rw [hg1] at k3 ⊢
  rw [hg0] at k3 ⊢
  clear hg2 hg1 hg0
  have kb := k3.b
  have kc := k3.c
  have kd := k3.d
  have K1 := Lib.hid k3
  clear k3
  go_wp2_with (first | (refine wpList_load_row (by rfl) 31 _ (by rfl) g0 (by rfl) 31 #[.int .i64 node, .int .u64 th, .bool su, .int .u64 old, .int .u64 g, .int .u64 n, .int .u64 r, .slice As S cs, .int .u64 a, .int .u64 b, .int .u64 f, .slice At T ct, .slice Ak K ck] (0, 0) _ kb Try.underlying31 (by rfl) (by kernel_rfl) ?_) | (refine wpList_load_row (by rfl) 51 _ (by rfl) g1 (by rfl) 51 #[.int .i64 kind, .int .i64 frm, .int .i64 tto, .int .u64 mine, .int .u64 yours, .int .u64 fa, .int .u64 fb, .int .i64 inode, .int .u64 iseq, .int .i64 ioff, .int .i64 bnode, .int .u64 bseq, .int .i64 boff, .int .i64 dest, .int .i64 prio, .int .i64 born, .int .i64 life, .int .i64 total, .string data] (0, 0) _ kc Try.underlying51 (by rfl) (by kernel_rfl) ?_) | (refine wpList_store_mid (by rfl) 31 _ _ (by rfl) g2 0 #[.int .i64 0, .int .u64 0, .bool false, .int .u64 0, .int .u64 0, .int .u64 0, .int .u64 0, .slice none 0 0, .int .u64 0, .int .u64 0, .int .u64 0, .slice none 0 0, .slice none 0 0] (by rfl) (by rfl) (Blk.there kd 0 _ (Nat.le_refl 13)) (by kernel_rfl) (by kernel_rfl) ?_))
  refine (PC'.out _ K1.out.hB).mono ?_
  rintro e w1 ⟨rfl, hb⟩
  have kk := K1.out.below hb
  clear K1 kb kc kd hb
  have kb := kk.b
  have kc := kk.c
  have kd := kk.d
  have hl0 := kb.lt
  have hl1 := kc.lt
  have hl2 := kd.lt
  have K1 := Lib.hid kk
  clear kk
  go_wp2_with (first | (refine wpList_load_row (by rfl) 31 _ (by rfl) g0 (by rfl) 31 #[.int .i64 node, .int .u64 th, .bool su, .int .u64 old, .int .u64 g, .int .u64 n, .int .u64 r, .slice As S cs, .int .u64 a, .int .u64 b, .int .u64 f, .slice At T ct, .slice Ak K ck] (0, 0) _ kb Try.underlying31 (by rfl) (by kernel_rfl) ?_) | (refine wpList_load_row (by rfl) 51 _ (by rfl) g1 (by rfl) 51 #[.int .i64 kind, .int .i64 frm, .int .i64 tto, .int .u64 mine, .int .u64 yours, .int .u64 fa, .int .u64 fb, .int .i64 inode, .int .u64 iseq, .int .i64 ioff, .int .i64 bnode, .int .u64 bseq, .int .i64 boff, .int .i64 dest, .int .i64 prio, .int .i64 born, .int .i64 life, .int .i64 total, .string data] (0, 0) _ kc Try.underlying51 (by rfl) (by kernel_rfl) ?_) | (refine wpList_store_mid (by rfl) 31 _ _ (by rfl) g2 0 #[.int .i64 0, .int .u64 0, .bool false, .int .u64 0, .int .u64 0, .int .u64 0, .int .u64 0, .slice none 0 0, .int .u64 0, .int .u64 0, .int .u64 0, .slice none 0 0, .slice none 0 0] (by rfl) (by rfl) (Blk.there kd 0 _ (Nat.le_refl 13)) (by kernel_rfl) (by kernel_rfl) ?_))
  refine bodyPost_ret (results_cell3 rfl _ _ g2 31 #[.int .i64 0, .int .u64 0, .bool false, .int .u64 0, .int .u64 0, .int .u64 0, .int .u64 0, .slice none 0 0, .int .u64 0, .int .u64 0, .int .u64 0, .slice none 0 0, .slice none 0 0] (0, 0) _ rfl (kd.setAll rfl) Try.underlying31 (by rfl) (by kernel_rfl)) rfl ?_
  exact ⟨rfl, below_setCells HG.out _ _ K1.out.hB⟩

set_option maxRecDepth 100000 in
set_option maxHeartbeats 4000000 in
theorem rm_b (node th old : Int) (su : Bool) (g n r : Int) (SL : List Sl) (S cs : Nat) (As : Option Addr) (a b f : Int) (TL : List Rg) (T ct : Nat) (At : Option Addr) (KL : List Int) (K ck : Nat) (Ak : Option Addr) (kind frm tto mine yours fa fb inode iseq ioff bnode bseq boff dest prio born life total : Int) (data : ByteArray) (boot : Int) (w : World) (PC : ∀ w', Below w.heap.size w w' → Calls Try.prog 21 #[.agg #[.int .i64 node, .int .u64 th, .bool su, .int .u64 old, .int .u64 g, .int .u64 n, .int .u64 r, .slice As S cs, .int .u64 a, .int .u64 b, .int .u64 f, .slice At T ct, .slice Ak K ck]] w' (RetI .i64 0 w')) (BC : ∀ w, Calls Try.prog 42 #[.int .u64 boot] w (RetI .i64 2 w)) :
    Calls Try.prog 19 #[.agg #[.int .i64 node, .int .u64 th, .bool su, .int .u64 old, .int .u64 g, .int .u64 n, .int .u64 r, .slice As S cs, .int .u64 a, .int .u64 b, .int .u64 f, .slice At T ct, .slice Ak K ck], .int .u64 boot, .agg #[.int .i64 kind, .int .i64 frm, .int .i64 tto, .int .u64 mine, .int .u64 yours, .int .u64 fa, .int .u64 fb, .int .i64 inode, .int .u64 iseq, .int .i64 ioff, .int .i64 bnode, .int .u64 bseq, .int .i64 boff, .int .i64 dest, .int .i64 prio, .int .i64 born, .int .i64 life, .int .i64 total, .string data]] w (fun e w' => e = .returned (.tuple #[.agg #[.int .i64 0, .int .u64 0, .bool false, .int .u64 0, .int .u64 0, .int .u64 0, .int .u64 0, .slice none 0 0, .int .u64 0, .int .u64 0, .int .u64 0, .slice none 0 0, .slice none 0 0], .int .i64 0, .bool false, .int .i64 2]) ∧ Below w.heap.size w w') := by
  have PC' := Lib.hid PC
  clear PC
  have BC' := Lib.hid BC
  clear BC
  go_enter Try.func19, Try.ntmps19
  go_upto_region 1 with fail
  have k0 := (Blk.new w 31 #[.int .i64 node, .int .u64 th, .bool su, .int .u64 old, .int .u64 g, .int .u64 n, .int .u64 r, .slice As S cs, .int .u64 a, .int .u64 b, .int .u64 f, .slice At T ct, .slice Ak K ck]).alloc (.cells #[.int .i64 kind, .int .i64 frm, .int .i64 tto, .int .u64 mine, .int .u64 yours, .int .u64 fa, .int .u64 fb, .int .i64 inode, .int .u64 iseq, .int .i64 ioff, .int .i64 bnode, .int .u64 bseq, .int .i64 boff, .int .i64 dest, .int .i64 prio, .int .i64 born, .int .i64 life, .int .i64 total, .string data] 51)
  have k0 := k0.alloc (.cells #[.int .i64 0, .int .u64 0, .bool false, .int .u64 0, .int .u64 0, .int .u64 0, .int .u64 0, .slice none 0 0, .int .u64 0, .int .u64 0, .int .u64 0, .slice none 0 0, .slice none 0 0] 31)
  have k1 := (Blk.new1 w (.cells #[.int .i64 node, .int .u64 th, .bool su, .int .u64 old, .int .u64 g, .int .u64 n, .int .u64 r, .slice As S cs, .int .u64 a, .int .u64 b, .int .u64 f, .slice At T ct, .slice Ak K ck] 31) 51 #[.int .i64 kind, .int .i64 frm, .int .i64 tto, .int .u64 mine, .int .u64 yours, .int .u64 fa, .int .u64 fb, .int .i64 inode, .int .u64 iseq, .int .i64 ioff, .int .i64 bnode, .int .u64 bseq, .int .i64 boff, .int .i64 dest, .int .i64 prio, .int .i64 born, .int .i64 life, .int .i64 total, .string data]).alloc (.cells #[.int .i64 0, .int .u64 0, .bool false, .int .u64 0, .int .u64 0, .int .u64 0, .int .u64 0, .slice none 0 0, .int .u64 0, .int .u64 0, .int .u64 0, .slice none 0 0, .slice none 0 0] 31)
  have k2 := Blk.new2 w (.cells #[.int .i64 node, .int .u64 th, .bool su, .int .u64 old, .int .u64 g, .int .u64 n, .int .u64 r, .slice As S cs, .int .u64 a, .int .u64 b, .int .u64 f, .slice At T ct, .slice Ak K ck] 31) (.cells #[.int .i64 kind, .int .i64 frm, .int .i64 tto, .int .u64 mine, .int .u64 yours, .int .u64 fa, .int .u64 fb, .int .i64 inode, .int .u64 iseq, .int .i64 ioff, .int .i64 bnode, .int .u64 bseq, .int .i64 boff, .int .i64 dest, .int .i64 prio, .int .i64 born, .int .i64 life, .int .i64 total, .string data] 51) 31 #[.int .i64 0, .int .u64 0, .bool false, .int .u64 0, .int .u64 0, .int .u64 0, .int .u64 0, .slice none 0 0, .int .u64 0, .int .u64 0, .int .u64 0, .slice none 0 0, .slice none 0 0]
  have hB := bal (bal (bal (Below.refl w.heap.size w) (.cells #[.int .i64 node, .int .u64 th, .bool su, .int .u64 old, .int .u64 g, .int .u64 n, .int .u64 r, .slice As S cs, .int .u64 a, .int .u64 b, .int .u64 f, .slice At T ct, .slice Ak K ck] 31)) (.cells #[.int .i64 kind, .int .i64 frm, .int .i64 tto, .int .u64 mine, .int .u64 yours, .int .u64 fa, .int .u64 fb, .int .i64 inode, .int .u64 iseq, .int .i64 ioff, .int .i64 bnode, .int .u64 bseq, .int .i64 boff, .int .i64 dest, .int .i64 prio, .int .i64 born, .int .i64 life, .int .i64 total, .string data] 51)) (.cells #[.int .i64 0, .int .u64 0, .bool false, .int .u64 0, .int .u64 0, .int .u64 0, .int .u64 0, .slice none 0 0, .int .u64 0, .int .u64 0, .int .u64 0, .slice none 0 0, .slice none 0 0] 31)
  have k3 : BK3 w w.heap.size 31 #[.int .i64 node, .int .u64 th, .bool su, .int .u64 old, .int .u64 g, .int .u64 n, .int .u64 r, .slice As S cs, .int .u64 a, .int .u64 b, .int .u64 f, .slice At T ct, .slice Ak K ck] (w.heap.size + 1) 51 #[.int .i64 kind, .int .i64 frm, .int .i64 tto, .int .u64 mine, .int .u64 yours, .int .u64 fa, .int .u64 fb, .int .i64 inode, .int .u64 iseq, .int .i64 ioff, .int .i64 bnode, .int .u64 bseq, .int .i64 boff, .int .i64 dest, .int .i64 prio, .int .i64 born, .int .i64 life, .int .i64 total, .string data] (w.heap.size + 1 + 1) 31 #[.int .i64 0, .int .u64 0, .bool false, .int .u64 0, .int .u64 0, .int .u64 0, .int .u64 0, .slice none 0 0, .int .u64 0, .int .u64 0, .int .u64 0, .slice none 0 0, .slice none 0 0] _ := ⟨k0, k1, k2, hB⟩
  clear k0 k1 k2 hB
  generalize hW : ((w.alloc (.cells #[.int .i64 node, .int .u64 th, .bool su, .int .u64 old, .int .u64 g, .int .u64 n, .int .u64 r, .slice As S cs, .int .u64 a, .int .u64 b, .int .u64 f, .slice At T ct, .slice Ak K ck] 31)).alloc (.cells #[.int .i64 kind, .int .i64 frm, .int .i64 tto, .int .u64 mine, .int .u64 yours, .int .u64 fa, .int .u64 fb, .int .i64 inode, .int .u64 iseq, .int .i64 ioff, .int .i64 bnode, .int .u64 bseq, .int .i64 boff, .int .i64 dest, .int .i64 prio, .int .i64 born, .int .i64 life, .int .i64 total, .string data] 51)).alloc (.cells #[.int .i64 0, .int .u64 0, .bool false, .int .u64 0, .int .u64 0, .int .u64 0, .int .u64 0, .slice none 0 0, .int .u64 0, .int .u64 0, .int .u64 0, .slice none 0 0, .slice none 0 0] 31) = W at k3 ⊢
  clear hW
  obtain ⟨g2, hg2⟩ : ∃ g2, w.heap.size + 1 + 1 = g2 := ⟨_, rfl⟩
  obtain ⟨g1, hg1⟩ : ∃ g1, w.heap.size + 1 = g1 := ⟨_, rfl⟩
  have HG : Hid (w.heap.size ≤ g2) := Lib.hid (by omega)
  obtain ⟨g0, hg0⟩ : ∃ g0, w.heap.size = g0 := ⟨_, rfl⟩
  have n02 : Hid (¬ g0 = g2) := Lib.hid (by omega)
  have n12 : Hid (¬ g1 = g2) := Lib.hid (by omega)
  rw [hg2] at k3 ⊢
  rw [hg1] at k3 ⊢
  rw [hg0] at k3 ⊢
  clear hg2 hg1 hg0
  have kb := k3.b
  have kc := k3.c
  have kd := k3.d
  have K1 := Lib.hid k3
  clear k3
  go_wp2_with (first | (refine wpList_load_row (by rfl) 31 _ (by rfl) g0 (by rfl) 31 #[.int .i64 node, .int .u64 th, .bool su, .int .u64 old, .int .u64 g, .int .u64 n, .int .u64 r, .slice As S cs, .int .u64 a, .int .u64 b, .int .u64 f, .slice At T ct, .slice Ak K ck] (0, 0) _ kb Try.underlying31 (by rfl) (by kernel_rfl) ?_) | (refine wpList_load_row (by rfl) 51 _ (by rfl) g1 (by rfl) 51 #[.int .i64 kind, .int .i64 frm, .int .i64 tto, .int .u64 mine, .int .u64 yours, .int .u64 fa, .int .u64 fb, .int .i64 inode, .int .u64 iseq, .int .i64 ioff, .int .i64 bnode, .int .u64 bseq, .int .i64 boff, .int .i64 dest, .int .i64 prio, .int .i64 born, .int .i64 life, .int .i64 total, .string data] (0, 0) _ kc Try.underlying51 (by rfl) (by kernel_rfl) ?_) | (refine wpList_store_mid (by rfl) 31 _ _ (by rfl) g2 0 #[.int .i64 0, .int .u64 0, .bool false, .int .u64 0, .int .u64 0, .int .u64 0, .int .u64 0, .slice none 0 0, .int .u64 0, .int .u64 0, .int .u64 0, .slice none 0 0, .slice none 0 0] (by rfl) (by rfl) (Blk.there kd 0 _ (Nat.le_refl 13)) (by kernel_rfl) (by kernel_rfl) ?_))
  refine (PC'.out _ K1.out.hB).mono ?_
  rintro e w1 ⟨rfl, hb⟩
  have kk := K1.out.below hb
  clear K1 kb kc kd hb
  have kb := kk.b
  have kc := kk.c
  have kd := kk.d
  have hl0 := kb.lt
  have hl1 := kc.lt
  have hl2 := kd.lt
  have K1 := Lib.hid kk
  clear kk
  go_wp2_with (first | (refine wpList_load_row (by rfl) 31 _ (by rfl) g0 (by rfl) 31 #[.int .i64 node, .int .u64 th, .bool su, .int .u64 old, .int .u64 g, .int .u64 n, .int .u64 r, .slice As S cs, .int .u64 a, .int .u64 b, .int .u64 f, .slice At T ct, .slice Ak K ck] (0, 0) _ kb Try.underlying31 (by rfl) (by kernel_rfl) ?_) | (refine wpList_load_row (by rfl) 51 _ (by rfl) g1 (by rfl) 51 #[.int .i64 kind, .int .i64 frm, .int .i64 tto, .int .u64 mine, .int .u64 yours, .int .u64 fa, .int .u64 fb, .int .i64 inode, .int .u64 iseq, .int .i64 ioff, .int .i64 bnode, .int .u64 bseq, .int .i64 boff, .int .i64 dest, .int .i64 prio, .int .i64 born, .int .i64 life, .int .i64 total, .string data] (0, 0) _ kc Try.underlying51 (by rfl) (by kernel_rfl) ?_) | (refine wpList_store_mid (by rfl) 31 _ _ (by rfl) g2 0 #[.int .i64 0, .int .u64 0, .bool false, .int .u64 0, .int .u64 0, .int .u64 0, .int .u64 0, .slice none 0 0, .int .u64 0, .int .u64 0, .int .u64 0, .slice none 0 0, .slice none 0 0] (by rfl) (by rfl) (Blk.there kd 0 _ (Nat.le_refl 13)) (by kernel_rfl) (by kernel_rfl) ?_))
  refine (BC'.out _).mono ?_
  rintro e w2 ⟨rfl, hb⟩
  have kk := K1.out.below hb
  clear K1 kb kc kd hb
  have kb := kk.b
  have kc := kk.c
  have kd := kk.d
  have hl0 := kb.lt
  have hl1 := kc.lt
  have hl2 := kd.lt
  have K1 := Lib.hid kk
  clear kk
  go_wp2_with (first | (refine wpList_load_row (by rfl) 31 _ (by rfl) g0 (by rfl) 31 #[.int .i64 node, .int .u64 th, .bool su, .int .u64 old, .int .u64 g, .int .u64 n, .int .u64 r, .slice As S cs, .int .u64 a, .int .u64 b, .int .u64 f, .slice At T ct, .slice Ak K ck] (0, 0) _ kb Try.underlying31 (by rfl) (by kernel_rfl) ?_) | (refine wpList_load_row (by rfl) 51 _ (by rfl) g1 (by rfl) 51 #[.int .i64 kind, .int .i64 frm, .int .i64 tto, .int .u64 mine, .int .u64 yours, .int .u64 fa, .int .u64 fb, .int .i64 inode, .int .u64 iseq, .int .i64 ioff, .int .i64 bnode, .int .u64 bseq, .int .i64 boff, .int .i64 dest, .int .i64 prio, .int .i64 born, .int .i64 life, .int .i64 total, .string data] (0, 0) _ kc Try.underlying51 (by rfl) (by kernel_rfl) ?_) | (refine wpList_store_mid (by rfl) 31 _ _ (by rfl) g2 0 #[.int .i64 0, .int .u64 0, .bool false, .int .u64 0, .int .u64 0, .int .u64 0, .int .u64 0, .slice none 0 0, .int .u64 0, .int .u64 0, .int .u64 0, .slice none 0 0, .slice none 0 0] (by rfl) (by rfl) (Blk.there kd 0 _ (Nat.le_refl 13)) (by kernel_rfl) (by kernel_rfl) ?_))
  refine bodyPost_ret (results_cell3 rfl _ _ g2 31 #[.int .i64 0, .int .u64 0, .bool false, .int .u64 0, .int .u64 0, .int .u64 0, .int .u64 0, .slice none 0 0, .int .u64 0, .int .u64 0, .int .u64 0, .slice none 0 0, .slice none 0 0] (0, 0) _ rfl (kd.setAll rfl) Try.underlying31 (by rfl) (by kernel_rfl)) rfl ?_
  exact ⟨rfl, below_setCells HG.out _ _ K1.out.hB⟩

set_option maxRecDepth 100000 in
set_option maxHeartbeats 4000000 in
theorem rm_f (node th old : Int) (su : Bool) (g n r : Int) (SL : List Sl) (S cs : Nat) (As : Option Addr) (a b f : Int) (TL : List Rg) (T ct : Nat) (At : Option Addr) (KL : List Int) (K ck : Nat) (Ak : Option Addr) (kind frm tto mine yours fa fb inode iseq ioff bnode bseq boff dest prio born life total : Int) (data : ByteArray) (boot : Int) (w : World) (fe : Int) (PC : ∀ w', Below w.heap.size w w' → Calls Try.prog 21 #[.agg #[.int .i64 node, .int .u64 th, .bool su, .int .u64 old, .int .u64 g, .int .u64 n, .int .u64 r, .slice As S cs, .int .u64 a, .int .u64 b, .int .u64 f, .slice At T ct, .slice Ak K ck]] w' (RetI .i64 0 w')) (BC : ∀ w, Calls Try.prog 42 #[.int .u64 boot] w (RetI .i64 0 w)) (FC : ∀ w, Calls Try.prog 58 #[.agg #[.int .i64 kind, .int .i64 frm, .int .i64 tto, .int .u64 mine, .int .u64 yours, .int .u64 fa, .int .u64 fb, .int .i64 inode, .int .u64 iseq, .int .i64 ioff, .int .i64 bnode, .int .u64 bseq, .int .i64 boff, .int .i64 dest, .int .i64 prio, .int .i64 born, .int .i64 life, .int .i64 total, .string data]] w (RetI .i64 fe w)) (h0 : fe ≠ 0) :
    Calls Try.prog 19 #[.agg #[.int .i64 node, .int .u64 th, .bool su, .int .u64 old, .int .u64 g, .int .u64 n, .int .u64 r, .slice As S cs, .int .u64 a, .int .u64 b, .int .u64 f, .slice At T ct, .slice Ak K ck], .int .u64 boot, .agg #[.int .i64 kind, .int .i64 frm, .int .i64 tto, .int .u64 mine, .int .u64 yours, .int .u64 fa, .int .u64 fb, .int .i64 inode, .int .u64 iseq, .int .i64 ioff, .int .i64 bnode, .int .u64 bseq, .int .i64 boff, .int .i64 dest, .int .i64 prio, .int .i64 born, .int .i64 life, .int .i64 total, .string data]] w (fun e w' => e = .returned (.tuple #[.agg #[.int .i64 0, .int .u64 0, .bool false, .int .u64 0, .int .u64 0, .int .u64 0, .int .u64 0, .slice none 0 0, .int .u64 0, .int .u64 0, .int .u64 0, .slice none 0 0, .slice none 0 0], .int .i64 0, .bool false, .int .i64 fe]) ∧ Below w.heap.size w w') := by
  have PC' := Lib.hid PC
  clear PC
  have BC' := Lib.hid BC
  clear BC
  have FC' := Lib.hid FC
  clear FC
  have e1 : (fe == 0) = false := by simpa using h0
  have e2 : (fe != 0) = true := by simpa using h0
  clear h0
  go_enter Try.func19, Try.ntmps19
  go_upto_region 1 with fail
  have k0 := (Blk.new w 31 #[.int .i64 node, .int .u64 th, .bool su, .int .u64 old, .int .u64 g, .int .u64 n, .int .u64 r, .slice As S cs, .int .u64 a, .int .u64 b, .int .u64 f, .slice At T ct, .slice Ak K ck]).alloc (.cells #[.int .i64 kind, .int .i64 frm, .int .i64 tto, .int .u64 mine, .int .u64 yours, .int .u64 fa, .int .u64 fb, .int .i64 inode, .int .u64 iseq, .int .i64 ioff, .int .i64 bnode, .int .u64 bseq, .int .i64 boff, .int .i64 dest, .int .i64 prio, .int .i64 born, .int .i64 life, .int .i64 total, .string data] 51)
  have k0 := k0.alloc (.cells #[.int .i64 0, .int .u64 0, .bool false, .int .u64 0, .int .u64 0, .int .u64 0, .int .u64 0, .slice none 0 0, .int .u64 0, .int .u64 0, .int .u64 0, .slice none 0 0, .slice none 0 0] 31)
  have k1 := (Blk.new1 w (.cells #[.int .i64 node, .int .u64 th, .bool su, .int .u64 old, .int .u64 g, .int .u64 n, .int .u64 r, .slice As S cs, .int .u64 a, .int .u64 b, .int .u64 f, .slice At T ct, .slice Ak K ck] 31) 51 #[.int .i64 kind, .int .i64 frm, .int .i64 tto, .int .u64 mine, .int .u64 yours, .int .u64 fa, .int .u64 fb, .int .i64 inode, .int .u64 iseq, .int .i64 ioff, .int .i64 bnode, .int .u64 bseq, .int .i64 boff, .int .i64 dest, .int .i64 prio, .int .i64 born, .int .i64 life, .int .i64 total, .string data]).alloc (.cells #[.int .i64 0, .int .u64 0, .bool false, .int .u64 0, .int .u64 0, .int .u64 0, .int .u64 0, .slice none 0 0, .int .u64 0, .int .u64 0, .int .u64 0, .slice none 0 0, .slice none 0 0] 31)
  have k2 := Blk.new2 w (.cells #[.int .i64 node, .int .u64 th, .bool su, .int .u64 old, .int .u64 g, .int .u64 n, .int .u64 r, .slice As S cs, .int .u64 a, .int .u64 b, .int .u64 f, .slice At T ct, .slice Ak K ck] 31) (.cells #[.int .i64 kind, .int .i64 frm, .int .i64 tto, .int .u64 mine, .int .u64 yours, .int .u64 fa, .int .u64 fb, .int .i64 inode, .int .u64 iseq, .int .i64 ioff, .int .i64 bnode, .int .u64 bseq, .int .i64 boff, .int .i64 dest, .int .i64 prio, .int .i64 born, .int .i64 life, .int .i64 total, .string data] 51) 31 #[.int .i64 0, .int .u64 0, .bool false, .int .u64 0, .int .u64 0, .int .u64 0, .int .u64 0, .slice none 0 0, .int .u64 0, .int .u64 0, .int .u64 0, .slice none 0 0, .slice none 0 0]
  have hB := bal (bal (bal (Below.refl w.heap.size w) (.cells #[.int .i64 node, .int .u64 th, .bool su, .int .u64 old, .int .u64 g, .int .u64 n, .int .u64 r, .slice As S cs, .int .u64 a, .int .u64 b, .int .u64 f, .slice At T ct, .slice Ak K ck] 31)) (.cells #[.int .i64 kind, .int .i64 frm, .int .i64 tto, .int .u64 mine, .int .u64 yours, .int .u64 fa, .int .u64 fb, .int .i64 inode, .int .u64 iseq, .int .i64 ioff, .int .i64 bnode, .int .u64 bseq, .int .i64 boff, .int .i64 dest, .int .i64 prio, .int .i64 born, .int .i64 life, .int .i64 total, .string data] 51)) (.cells #[.int .i64 0, .int .u64 0, .bool false, .int .u64 0, .int .u64 0, .int .u64 0, .int .u64 0, .slice none 0 0, .int .u64 0, .int .u64 0, .int .u64 0, .slice none 0 0, .slice none 0 0] 31)
  have k3 : BK3 w w.heap.size 31 #[.int .i64 node, .int .u64 th, .bool su, .int .u64 old, .int .u64 g, .int .u64 n, .int .u64 r, .slice As S cs, .int .u64 a, .int .u64 b, .int .u64 f, .slice At T ct, .slice Ak K ck] (w.heap.size + 1) 51 #[.int .i64 kind, .int .i64 frm, .int .i64 tto, .int .u64 mine, .int .u64 yours, .int .u64 fa, .int .u64 fb, .int .i64 inode, .int .u64 iseq, .int .i64 ioff, .int .i64 bnode, .int .u64 bseq, .int .i64 boff, .int .i64 dest, .int .i64 prio, .int .i64 born, .int .i64 life, .int .i64 total, .string data] (w.heap.size + 1 + 1) 31 #[.int .i64 0, .int .u64 0, .bool false, .int .u64 0, .int .u64 0, .int .u64 0, .int .u64 0, .slice none 0 0, .int .u64 0, .int .u64 0, .int .u64 0, .slice none 0 0, .slice none 0 0] _ := ⟨k0, k1, k2, hB⟩
  clear k0 k1 k2 hB
  generalize hW : ((w.alloc (.cells #[.int .i64 node, .int .u64 th, .bool su, .int .u64 old, .int .u64 g, .int .u64 n, .int .u64 r, .slice As S cs, .int .u64 a, .int .u64 b, .int .u64 f, .slice At T ct, .slice Ak K ck] 31)).alloc (.cells #[.int .i64 kind, .int .i64 frm, .int .i64 tto, .int .u64 mine, .int .u64 yours, .int .u64 fa, .int .u64 fb, .int .i64 inode, .int .u64 iseq, .int .i64 ioff, .int .i64 bnode, .int .u64 bseq, .int .i64 boff, .int .i64 dest, .int .i64 prio, .int .i64 born, .int .i64 life, .int .i64 total, .string data] 51)).alloc (.cells #[.int .i64 0, .int .u64 0, .bool false, .int .u64 0, .int .u64 0, .int .u64 0, .int .u64 0, .slice none 0 0, .int .u64 0, .int .u64 0, .int .u64 0, .slice none 0 0, .slice none 0 0] 31) = W at k3 ⊢
  clear hW
  obtain ⟨g2, hg2⟩ : ∃ g2, w.heap.size + 1 + 1 = g2 := ⟨_, rfl⟩
  obtain ⟨g1, hg1⟩ : ∃ g1, w.heap.size + 1 = g1 := ⟨_, rfl⟩
  have HG : Hid (w.heap.size ≤ g2) := Lib.hid (by omega)
  obtain ⟨g0, hg0⟩ : ∃ g0, w.heap.size = g0 := ⟨_, rfl⟩
  have n02 : Hid (¬ g0 = g2) := Lib.hid (by omega)
  have n12 : Hid (¬ g1 = g2) := Lib.hid (by omega)
  rw [hg2] at k3 ⊢
  rw [hg1] at k3 ⊢
  rw [hg0] at k3 ⊢
  clear hg2 hg1 hg0
  have kb := k3.b
  have kc := k3.c
  have kd := k3.d
  have K1 := Lib.hid k3
  clear k3
  go_wp2_with (first | (refine wpList_load_row (by rfl) 31 _ (by rfl) g0 (by rfl) 31 #[.int .i64 node, .int .u64 th, .bool su, .int .u64 old, .int .u64 g, .int .u64 n, .int .u64 r, .slice As S cs, .int .u64 a, .int .u64 b, .int .u64 f, .slice At T ct, .slice Ak K ck] (0, 0) _ kb Try.underlying31 (by rfl) (by kernel_rfl) ?_) | (refine wpList_load_row (by rfl) 51 _ (by rfl) g1 (by rfl) 51 #[.int .i64 kind, .int .i64 frm, .int .i64 tto, .int .u64 mine, .int .u64 yours, .int .u64 fa, .int .u64 fb, .int .i64 inode, .int .u64 iseq, .int .i64 ioff, .int .i64 bnode, .int .u64 bseq, .int .i64 boff, .int .i64 dest, .int .i64 prio, .int .i64 born, .int .i64 life, .int .i64 total, .string data] (0, 0) _ kc Try.underlying51 (by rfl) (by kernel_rfl) ?_) | (refine wpList_store_mid (by rfl) 31 _ _ (by rfl) g2 0 #[.int .i64 0, .int .u64 0, .bool false, .int .u64 0, .int .u64 0, .int .u64 0, .int .u64 0, .slice none 0 0, .int .u64 0, .int .u64 0, .int .u64 0, .slice none 0 0, .slice none 0 0] (by rfl) (by rfl) (Blk.there kd 0 _ (Nat.le_refl 13)) (by kernel_rfl) (by kernel_rfl) ?_))
  refine (PC'.out _ K1.out.hB).mono ?_
  rintro e w1 ⟨rfl, hb⟩
  have kk := K1.out.below hb
  clear K1 kb kc kd hb
  have kb := kk.b
  have kc := kk.c
  have kd := kk.d
  have hl0 := kb.lt
  have hl1 := kc.lt
  have hl2 := kd.lt
  have K1 := Lib.hid kk
  clear kk
  go_wp2_with (first | (refine wpList_load_row (by rfl) 31 _ (by rfl) g0 (by rfl) 31 #[.int .i64 node, .int .u64 th, .bool su, .int .u64 old, .int .u64 g, .int .u64 n, .int .u64 r, .slice As S cs, .int .u64 a, .int .u64 b, .int .u64 f, .slice At T ct, .slice Ak K ck] (0, 0) _ kb Try.underlying31 (by rfl) (by kernel_rfl) ?_) | (refine wpList_load_row (by rfl) 51 _ (by rfl) g1 (by rfl) 51 #[.int .i64 kind, .int .i64 frm, .int .i64 tto, .int .u64 mine, .int .u64 yours, .int .u64 fa, .int .u64 fb, .int .i64 inode, .int .u64 iseq, .int .i64 ioff, .int .i64 bnode, .int .u64 bseq, .int .i64 boff, .int .i64 dest, .int .i64 prio, .int .i64 born, .int .i64 life, .int .i64 total, .string data] (0, 0) _ kc Try.underlying51 (by rfl) (by kernel_rfl) ?_) | (refine wpList_store_mid (by rfl) 31 _ _ (by rfl) g2 0 #[.int .i64 0, .int .u64 0, .bool false, .int .u64 0, .int .u64 0, .int .u64 0, .int .u64 0, .slice none 0 0, .int .u64 0, .int .u64 0, .int .u64 0, .slice none 0 0, .slice none 0 0] (by rfl) (by rfl) (Blk.there kd 0 _ (Nat.le_refl 13)) (by kernel_rfl) (by kernel_rfl) ?_))
  refine (BC'.out _).mono ?_
  rintro e w2 ⟨rfl, hb⟩
  have kk := K1.out.below hb
  clear K1 kb kc kd hb
  have kb := kk.b
  have kc := kk.c
  have kd := kk.d
  have hl0 := kb.lt
  have hl1 := kc.lt
  have hl2 := kd.lt
  have K1 := Lib.hid kk
  clear kk
  go_wp2_with (first | (refine wpList_load_row (by rfl) 31 _ (by rfl) g0 (by rfl) 31 #[.int .i64 node, .int .u64 th, .bool su, .int .u64 old, .int .u64 g, .int .u64 n, .int .u64 r, .slice As S cs, .int .u64 a, .int .u64 b, .int .u64 f, .slice At T ct, .slice Ak K ck] (0, 0) _ kb Try.underlying31 (by rfl) (by kernel_rfl) ?_) | (refine wpList_load_row (by rfl) 51 _ (by rfl) g1 (by rfl) 51 #[.int .i64 kind, .int .i64 frm, .int .i64 tto, .int .u64 mine, .int .u64 yours, .int .u64 fa, .int .u64 fb, .int .i64 inode, .int .u64 iseq, .int .i64 ioff, .int .i64 bnode, .int .u64 bseq, .int .i64 boff, .int .i64 dest, .int .i64 prio, .int .i64 born, .int .i64 life, .int .i64 total, .string data] (0, 0) _ kc Try.underlying51 (by rfl) (by kernel_rfl) ?_) | (refine wpList_store_mid (by rfl) 31 _ _ (by rfl) g2 0 #[.int .i64 0, .int .u64 0, .bool false, .int .u64 0, .int .u64 0, .int .u64 0, .int .u64 0, .slice none 0 0, .int .u64 0, .int .u64 0, .int .u64 0, .slice none 0 0, .slice none 0 0] (by rfl) (by rfl) (Blk.there kd 0 _ (Nat.le_refl 13)) (by kernel_rfl) (by kernel_rfl) ?_))
  refine (FC'.out _).mono ?_
  rintro e w3 ⟨rfl, hb⟩
  have kk := K1.out.below hb
  clear K1 kb kc kd hb
  have kb := kk.b
  have kc := kk.c
  have kd := kk.d
  have hl0 := kb.lt
  have hl1 := kc.lt
  have hl2 := kd.lt
  have K1 := Lib.hid kk
  clear kk
  go_wp2_with (first | (refine wpList_load_row (by rfl) 31 _ (by rfl) g0 (by rfl) 31 #[.int .i64 node, .int .u64 th, .bool su, .int .u64 old, .int .u64 g, .int .u64 n, .int .u64 r, .slice As S cs, .int .u64 a, .int .u64 b, .int .u64 f, .slice At T ct, .slice Ak K ck] (0, 0) _ kb Try.underlying31 (by rfl) (by kernel_rfl) ?_) | (refine wpList_load_row (by rfl) 51 _ (by rfl) g1 (by rfl) 51 #[.int .i64 kind, .int .i64 frm, .int .i64 tto, .int .u64 mine, .int .u64 yours, .int .u64 fa, .int .u64 fb, .int .i64 inode, .int .u64 iseq, .int .i64 ioff, .int .i64 bnode, .int .u64 bseq, .int .i64 boff, .int .i64 dest, .int .i64 prio, .int .i64 born, .int .i64 life, .int .i64 total, .string data] (0, 0) _ kc Try.underlying51 (by rfl) (by kernel_rfl) ?_) | (refine wpList_store_mid (by rfl) 31 _ _ (by rfl) g2 0 #[.int .i64 0, .int .u64 0, .bool false, .int .u64 0, .int .u64 0, .int .u64 0, .int .u64 0, .slice none 0 0, .int .u64 0, .int .u64 0, .int .u64 0, .slice none 0 0, .slice none 0 0] (by rfl) (by rfl) (Blk.there kd 0 _ (Nat.le_refl 13)) (by kernel_rfl) (by kernel_rfl) ?_))
  refine bodyPost_ret (results_cell3 rfl _ _ g2 31 #[.int .i64 0, .int .u64 0, .bool false, .int .u64 0, .int .u64 0, .int .u64 0, .int .u64 0, .slice none 0 0, .int .u64 0, .int .u64 0, .int .u64 0, .slice none 0 0, .slice none 0 0] (0, 0) _ rfl (kd.setAll rfl) Try.underlying31 (by rfl) (by kernel_rfl)) rfl ?_
  exact ⟨rfl, below_setCells HG.out _ _ K1.out.hB⟩

set_option maxRecDepth 100000 in
set_option maxHeartbeats 4000000 in
theorem rm_k (node th old : Int) (su : Bool) (g n r : Int) (SL : List Sl) (S cs : Nat) (As : Option Addr) (a b f : Int) (TL : List Rg) (T ct : Nat) (At : Option Addr) (KL : List Int) (K ck : Nat) (Ak : Option Addr) (kind frm tto mine yours fa fb inode iseq ioff bnode bseq boff dest prio born life total : Int) (data : ByteArray) (boot : Int) (w : World) (PC : ∀ w', Below w.heap.size w w' → Calls Try.prog 21 #[.agg #[.int .i64 node, .int .u64 th, .bool su, .int .u64 old, .int .u64 g, .int .u64 n, .int .u64 r, .slice As S cs, .int .u64 a, .int .u64 b, .int .u64 f, .slice At T ct, .slice Ak K ck]] w' (RetI .i64 0 w')) (BC : ∀ w, Calls Try.prog 42 #[.int .u64 boot] w (RetI .i64 0 w)) (FC : ∀ w, Calls Try.prog 58 #[.agg #[.int .i64 kind, .int .i64 frm, .int .i64 tto, .int .u64 mine, .int .u64 yours, .int .u64 fa, .int .u64 fb, .int .i64 inode, .int .u64 iseq, .int .i64 ioff, .int .i64 bnode, .int .u64 bseq, .int .i64 boff, .int .i64 dest, .int .i64 prio, .int .i64 born, .int .i64 life, .int .i64 total, .string data]] w (RetI .i64 0 w)) (n1 : (frm != node) = true) :
    Calls Try.prog 19 #[.agg #[.int .i64 node, .int .u64 th, .bool su, .int .u64 old, .int .u64 g, .int .u64 n, .int .u64 r, .slice As S cs, .int .u64 a, .int .u64 b, .int .u64 f, .slice At T ct, .slice Ak K ck], .int .u64 boot, .agg #[.int .i64 kind, .int .i64 frm, .int .i64 tto, .int .u64 mine, .int .u64 yours, .int .u64 fa, .int .u64 fb, .int .i64 inode, .int .u64 iseq, .int .i64 ioff, .int .i64 bnode, .int .u64 bseq, .int .i64 boff, .int .i64 dest, .int .i64 prio, .int .i64 born, .int .i64 life, .int .i64 total, .string data]] w (fun e w' => e = .returned (.tuple #[.agg #[.int .i64 0, .int .u64 0, .bool false, .int .u64 0, .int .u64 0, .int .u64 0, .int .u64 0, .slice none 0 0, .int .u64 0, .int .u64 0, .int .u64 0, .slice none 0 0, .slice none 0 0], .int .i64 0, .bool false, .int .i64 7]) ∧ Below w.heap.size w w') := by
  have PC' := Lib.hid PC
  clear PC
  have BC' := Lib.hid BC
  clear BC
  have FC' := Lib.hid FC
  clear FC
  go_enter Try.func19, Try.ntmps19
  go_upto_region 1 with fail
  have k0 := (Blk.new w 31 #[.int .i64 node, .int .u64 th, .bool su, .int .u64 old, .int .u64 g, .int .u64 n, .int .u64 r, .slice As S cs, .int .u64 a, .int .u64 b, .int .u64 f, .slice At T ct, .slice Ak K ck]).alloc (.cells #[.int .i64 kind, .int .i64 frm, .int .i64 tto, .int .u64 mine, .int .u64 yours, .int .u64 fa, .int .u64 fb, .int .i64 inode, .int .u64 iseq, .int .i64 ioff, .int .i64 bnode, .int .u64 bseq, .int .i64 boff, .int .i64 dest, .int .i64 prio, .int .i64 born, .int .i64 life, .int .i64 total, .string data] 51)
  have k0 := k0.alloc (.cells #[.int .i64 0, .int .u64 0, .bool false, .int .u64 0, .int .u64 0, .int .u64 0, .int .u64 0, .slice none 0 0, .int .u64 0, .int .u64 0, .int .u64 0, .slice none 0 0, .slice none 0 0] 31)
  have k1 := (Blk.new1 w (.cells #[.int .i64 node, .int .u64 th, .bool su, .int .u64 old, .int .u64 g, .int .u64 n, .int .u64 r, .slice As S cs, .int .u64 a, .int .u64 b, .int .u64 f, .slice At T ct, .slice Ak K ck] 31) 51 #[.int .i64 kind, .int .i64 frm, .int .i64 tto, .int .u64 mine, .int .u64 yours, .int .u64 fa, .int .u64 fb, .int .i64 inode, .int .u64 iseq, .int .i64 ioff, .int .i64 bnode, .int .u64 bseq, .int .i64 boff, .int .i64 dest, .int .i64 prio, .int .i64 born, .int .i64 life, .int .i64 total, .string data]).alloc (.cells #[.int .i64 0, .int .u64 0, .bool false, .int .u64 0, .int .u64 0, .int .u64 0, .int .u64 0, .slice none 0 0, .int .u64 0, .int .u64 0, .int .u64 0, .slice none 0 0, .slice none 0 0] 31)
  have k2 := Blk.new2 w (.cells #[.int .i64 node, .int .u64 th, .bool su, .int .u64 old, .int .u64 g, .int .u64 n, .int .u64 r, .slice As S cs, .int .u64 a, .int .u64 b, .int .u64 f, .slice At T ct, .slice Ak K ck] 31) (.cells #[.int .i64 kind, .int .i64 frm, .int .i64 tto, .int .u64 mine, .int .u64 yours, .int .u64 fa, .int .u64 fb, .int .i64 inode, .int .u64 iseq, .int .i64 ioff, .int .i64 bnode, .int .u64 bseq, .int .i64 boff, .int .i64 dest, .int .i64 prio, .int .i64 born, .int .i64 life, .int .i64 total, .string data] 51) 31 #[.int .i64 0, .int .u64 0, .bool false, .int .u64 0, .int .u64 0, .int .u64 0, .int .u64 0, .slice none 0 0, .int .u64 0, .int .u64 0, .int .u64 0, .slice none 0 0, .slice none 0 0]
  have hB := bal (bal (bal (Below.refl w.heap.size w) (.cells #[.int .i64 node, .int .u64 th, .bool su, .int .u64 old, .int .u64 g, .int .u64 n, .int .u64 r, .slice As S cs, .int .u64 a, .int .u64 b, .int .u64 f, .slice At T ct, .slice Ak K ck] 31)) (.cells #[.int .i64 kind, .int .i64 frm, .int .i64 tto, .int .u64 mine, .int .u64 yours, .int .u64 fa, .int .u64 fb, .int .i64 inode, .int .u64 iseq, .int .i64 ioff, .int .i64 bnode, .int .u64 bseq, .int .i64 boff, .int .i64 dest, .int .i64 prio, .int .i64 born, .int .i64 life, .int .i64 total, .string data] 51)) (.cells #[.int .i64 0, .int .u64 0, .bool false, .int .u64 0, .int .u64 0, .int .u64 0, .int .u64 0, .slice none 0 0, .int .u64 0, .int .u64 0, .int .u64 0, .slice none 0 0, .slice none 0 0] 31)
  have k3 : BK3 w w.heap.size 31 #[.int .i64 node, .int .u64 th, .bool su, .int .u64 old, .int .u64 g, .int .u64 n, .int .u64 r, .slice As S cs, .int .u64 a, .int .u64 b, .int .u64 f, .slice At T ct, .slice Ak K ck] (w.heap.size + 1) 51 #[.int .i64 kind, .int .i64 frm, .int .i64 tto, .int .u64 mine, .int .u64 yours, .int .u64 fa, .int .u64 fb, .int .i64 inode, .int .u64 iseq, .int .i64 ioff, .int .i64 bnode, .int .u64 bseq, .int .i64 boff, .int .i64 dest, .int .i64 prio, .int .i64 born, .int .i64 life, .int .i64 total, .string data] (w.heap.size + 1 + 1) 31 #[.int .i64 0, .int .u64 0, .bool false, .int .u64 0, .int .u64 0, .int .u64 0, .int .u64 0, .slice none 0 0, .int .u64 0, .int .u64 0, .int .u64 0, .slice none 0 0, .slice none 0 0] _ := ⟨k0, k1, k2, hB⟩
  clear k0 k1 k2 hB
  generalize hW : ((w.alloc (.cells #[.int .i64 node, .int .u64 th, .bool su, .int .u64 old, .int .u64 g, .int .u64 n, .int .u64 r, .slice As S cs, .int .u64 a, .int .u64 b, .int .u64 f, .slice At T ct, .slice Ak K ck] 31)).alloc (.cells #[.int .i64 kind, .int .i64 frm, .int .i64 tto, .int .u64 mine, .int .u64 yours, .int .u64 fa, .int .u64 fb, .int .i64 inode, .int .u64 iseq, .int .i64 ioff, .int .i64 bnode, .int .u64 bseq, .int .i64 boff, .int .i64 dest, .int .i64 prio, .int .i64 born, .int .i64 life, .int .i64 total, .string data] 51)).alloc (.cells #[.int .i64 0, .int .u64 0, .bool false, .int .u64 0, .int .u64 0, .int .u64 0, .int .u64 0, .slice none 0 0, .int .u64 0, .int .u64 0, .int .u64 0, .slice none 0 0, .slice none 0 0] 31) = W at k3 ⊢
  clear hW
  obtain ⟨g2, hg2⟩ : ∃ g2, w.heap.size + 1 + 1 = g2 := ⟨_, rfl⟩
  obtain ⟨g1, hg1⟩ : ∃ g1, w.heap.size + 1 = g1 := ⟨_, rfl⟩
  have HG : Hid (w.heap.size ≤ g2) := Lib.hid (by omega)
  obtain ⟨g0, hg0⟩ : ∃ g0, w.heap.size = g0 := ⟨_, rfl⟩
  have n02 : Hid (¬ g0 = g2) := Lib.hid (by omega)
  have n12 : Hid (¬ g1 = g2) := Lib.hid (by omega)
  rw [hg2] at k3 ⊢
  rw [hg1] at k3 ⊢
  rw [hg0] at k3 ⊢
  clear hg2 hg1 hg0
  have kb := k3.b
  have kc := k3.c
  have kd := k3.d
  have K1 := Lib.hid k3
  clear k3
  go_wp2_with (first | (refine wpList_load_row (by rfl) 31 _ (by rfl) g0 (by rfl) 31 #[.int .i64 node, .int .u64 th, .bool su, .int .u64 old, .int .u64 g, .int .u64 n, .int .u64 r, .slice As S cs, .int .u64 a, .int .u64 b, .int .u64 f, .slice At T ct, .slice Ak K ck] (0, 0) _ kb Try.underlying31 (by rfl) (by kernel_rfl) ?_) | (refine wpList_load_row (by rfl) 51 _ (by rfl) g1 (by rfl) 51 #[.int .i64 kind, .int .i64 frm, .int .i64 tto, .int .u64 mine, .int .u64 yours, .int .u64 fa, .int .u64 fb, .int .i64 inode, .int .u64 iseq, .int .i64 ioff, .int .i64 bnode, .int .u64 bseq, .int .i64 boff, .int .i64 dest, .int .i64 prio, .int .i64 born, .int .i64 life, .int .i64 total, .string data] (0, 0) _ kc Try.underlying51 (by rfl) (by kernel_rfl) ?_) | (refine wpList_store_mid (by rfl) 31 _ _ (by rfl) g2 0 #[.int .i64 0, .int .u64 0, .bool false, .int .u64 0, .int .u64 0, .int .u64 0, .int .u64 0, .slice none 0 0, .int .u64 0, .int .u64 0, .int .u64 0, .slice none 0 0, .slice none 0 0] (by rfl) (by rfl) (Blk.there kd 0 _ (Nat.le_refl 13)) (by kernel_rfl) (by kernel_rfl) ?_))
  refine (PC'.out _ K1.out.hB).mono ?_
  rintro e w1 ⟨rfl, hb⟩
  have kk := K1.out.below hb
  clear K1 kb kc kd hb
  have kb := kk.b
  have kc := kk.c
  have kd := kk.d
  have hl0 := kb.lt
  have hl1 := kc.lt
  have hl2 := kd.lt
  have K1 := Lib.hid kk
  clear kk
  go_wp2_with (first | (refine wpList_load_row (by rfl) 31 _ (by rfl) g0 (by rfl) 31 #[.int .i64 node, .int .u64 th, .bool su, .int .u64 old, .int .u64 g, .int .u64 n, .int .u64 r, .slice As S cs, .int .u64 a, .int .u64 b, .int .u64 f, .slice At T ct, .slice Ak K ck] (0, 0) _ kb Try.underlying31 (by rfl) (by kernel_rfl) ?_) | (refine wpList_load_row (by rfl) 51 _ (by rfl) g1 (by rfl) 51 #[.int .i64 kind, .int .i64 frm, .int .i64 tto, .int .u64 mine, .int .u64 yours, .int .u64 fa, .int .u64 fb, .int .i64 inode, .int .u64 iseq, .int .i64 ioff, .int .i64 bnode, .int .u64 bseq, .int .i64 boff, .int .i64 dest, .int .i64 prio, .int .i64 born, .int .i64 life, .int .i64 total, .string data] (0, 0) _ kc Try.underlying51 (by rfl) (by kernel_rfl) ?_) | (refine wpList_store_mid (by rfl) 31 _ _ (by rfl) g2 0 #[.int .i64 0, .int .u64 0, .bool false, .int .u64 0, .int .u64 0, .int .u64 0, .int .u64 0, .slice none 0 0, .int .u64 0, .int .u64 0, .int .u64 0, .slice none 0 0, .slice none 0 0] (by rfl) (by rfl) (Blk.there kd 0 _ (Nat.le_refl 13)) (by kernel_rfl) (by kernel_rfl) ?_))
  refine (BC'.out _).mono ?_
  rintro e w2 ⟨rfl, hb⟩
  have kk := K1.out.below hb
  clear K1 kb kc kd hb
  have kb := kk.b
  have kc := kk.c
  have kd := kk.d
  have hl0 := kb.lt
  have hl1 := kc.lt
  have hl2 := kd.lt
  have K1 := Lib.hid kk
  clear kk
  go_wp2_with (first | (refine wpList_load_row (by rfl) 31 _ (by rfl) g0 (by rfl) 31 #[.int .i64 node, .int .u64 th, .bool su, .int .u64 old, .int .u64 g, .int .u64 n, .int .u64 r, .slice As S cs, .int .u64 a, .int .u64 b, .int .u64 f, .slice At T ct, .slice Ak K ck] (0, 0) _ kb Try.underlying31 (by rfl) (by kernel_rfl) ?_) | (refine wpList_load_row (by rfl) 51 _ (by rfl) g1 (by rfl) 51 #[.int .i64 kind, .int .i64 frm, .int .i64 tto, .int .u64 mine, .int .u64 yours, .int .u64 fa, .int .u64 fb, .int .i64 inode, .int .u64 iseq, .int .i64 ioff, .int .i64 bnode, .int .u64 bseq, .int .i64 boff, .int .i64 dest, .int .i64 prio, .int .i64 born, .int .i64 life, .int .i64 total, .string data] (0, 0) _ kc Try.underlying51 (by rfl) (by kernel_rfl) ?_) | (refine wpList_store_mid (by rfl) 31 _ _ (by rfl) g2 0 #[.int .i64 0, .int .u64 0, .bool false, .int .u64 0, .int .u64 0, .int .u64 0, .int .u64 0, .slice none 0 0, .int .u64 0, .int .u64 0, .int .u64 0, .slice none 0 0, .slice none 0 0] (by rfl) (by rfl) (Blk.there kd 0 _ (Nat.le_refl 13)) (by kernel_rfl) (by kernel_rfl) ?_))
  refine (FC'.out _).mono ?_
  rintro e w3 ⟨rfl, hb⟩
  have kk := K1.out.below hb
  clear K1 kb kc kd hb
  have kb := kk.b
  have kc := kk.c
  have kd := kk.d
  have hl0 := kb.lt
  have hl1 := kc.lt
  have hl2 := kd.lt
  have K1 := Lib.hid kk
  clear kk
  have x0 : w3.cell? ⟨g0, 0, none⟩ = some (.int .i64 node) := kb.cell 0
  have x1 : w3.cell? ⟨g0, 1, none⟩ = some (.int .u64 th) := kb.cell 1
  have y1 : w3.cell? ⟨g1, 1, none⟩ = some (.int .i64 frm) := kc.cell 1
  go_wp2_with (first | (refine wpList_load_row (by rfl) 31 _ (by rfl) g0 (by rfl) 31 #[.int .i64 node, .int .u64 th, .bool su, .int .u64 old, .int .u64 g, .int .u64 n, .int .u64 r, .slice As S cs, .int .u64 a, .int .u64 b, .int .u64 f, .slice At T ct, .slice Ak K ck] (0, 0) _ kb Try.underlying31 (by rfl) (by kernel_rfl) ?_) | (refine wpList_load_row (by rfl) 51 _ (by rfl) g1 (by rfl) 51 #[.int .i64 kind, .int .i64 frm, .int .i64 tto, .int .u64 mine, .int .u64 yours, .int .u64 fa, .int .u64 fb, .int .i64 inode, .int .u64 iseq, .int .i64 ioff, .int .i64 bnode, .int .u64 bseq, .int .i64 boff, .int .i64 dest, .int .i64 prio, .int .i64 born, .int .i64 life, .int .i64 total, .string data] (0, 0) _ kc Try.underlying51 (by rfl) (by kernel_rfl) ?_) | (refine wpList_store_mid (by rfl) 31 _ _ (by rfl) g2 0 #[.int .i64 0, .int .u64 0, .bool false, .int .u64 0, .int .u64 0, .int .u64 0, .int .u64 0, .slice none 0 0, .int .u64 0, .int .u64 0, .int .u64 0, .slice none 0 0, .slice none 0 0] (by rfl) (by rfl) (Blk.there kd 0 _ (Nat.le_refl 13)) (by kernel_rfl) (by kernel_rfl) ?_))
  refine bodyPost_ret (results_cell3 rfl _ _ g2 31 #[.int .i64 0, .int .u64 0, .bool false, .int .u64 0, .int .u64 0, .int .u64 0, .int .u64 0, .slice none 0 0, .int .u64 0, .int .u64 0, .int .u64 0, .slice none 0 0, .slice none 0 0] (0, 0) _ rfl (kd.setAll rfl) Try.underlying31 (by rfl) (by kernel_rfl)) rfl ?_
  exact ⟨rfl, below_setCells HG.out _ _ K1.out.hB⟩

set_option maxRecDepth 100000 in
set_option maxHeartbeats 4000000 in
theorem rm_stale (node th old : Int) (su : Bool) (g n r : Int) (SL : List Sl) (S cs : Nat) (As : Option Addr) (a b f : Int) (TL : List Rg) (T ct : Nat) (At : Option Addr) (KL : List Int) (K ck : Nat) (Ak : Option Addr) (kind frm tto mine yours fa fb inode iseq ioff bnode bseq boff dest prio born life total : Int) (data : ByteArray) (boot : Int) (w : World) (PC : ∀ w', Below w.heap.size w w' → Calls Try.prog 21 #[.agg #[.int .i64 node, .int .u64 th, .bool su, .int .u64 old, .int .u64 g, .int .u64 n, .int .u64 r, .slice As S cs, .int .u64 a, .int .u64 b, .int .u64 f, .slice At T ct, .slice Ak K ck]] w' (RetI .i64 0 w')) (BC : ∀ w, Calls Try.prog 42 #[.int .u64 boot] w (RetI .i64 0 w)) (FC : ∀ w, Calls Try.prog 58 #[.agg #[.int .i64 kind, .int .i64 frm, .int .i64 tto, .int .u64 mine, .int .u64 yours, .int .u64 fa, .int .u64 fb, .int .i64 inode, .int .u64 iseq, .int .i64 ioff, .int .i64 bnode, .int .u64 bseq, .int .i64 boff, .int .i64 dest, .int .i64 prio, .int .i64 born, .int .i64 life, .int .i64 total, .string data]] w (RetI .i64 0 w)) (CO : ∀ w', Below w.heap.size w w' → Calls Try.prog 59 #[.agg #[.int .i64 node, .int .u64 th, .bool su, .int .u64 old, .int .u64 g, .int .u64 n, .int .u64 r, .slice As S cs, .int .u64 a, .int .u64 b, .int .u64 f, .slice At T ct, .slice Ak K ck]] w' (fun e w'' => ∃ As' cs' At' ct' Ak' ck', e = .returned (.agg #[.int .i64 node, .int .u64 th, .bool su, .int .u64 old, .int .u64 g, .int .u64 n, .int .u64 r, .slice As' S cs', .int .u64 a, .int .u64 b, .int .u64 f, .slice At' T ct', .slice Ak' K ck']) ∧ (SlsB (w'.heap.size) w'' (.slice As' S cs') SL ∧ RgsB (w'.heap.size) w'' (.slice At' T ct') TL ∧ KpsB (w'.heap.size) w'' (.slice Ak' K ck') KL) ∧ Below w'.heap.size w' w'')) (n1 : (frm != node) = false) (m1 : mine < th) :
    Calls Try.prog 19 #[.agg #[.int .i64 node, .int .u64 th, .bool su, .int .u64 old, .int .u64 g, .int .u64 n, .int .u64 r, .slice As S cs, .int .u64 a, .int .u64 b, .int .u64 f, .slice At T ct, .slice Ak K ck], .int .u64 boot, .agg #[.int .i64 kind, .int .i64 frm, .int .i64 tto, .int .u64 mine, .int .u64 yours, .int .u64 fa, .int .u64 fb, .int .i64 inode, .int .u64 iseq, .int .i64 ioff, .int .i64 bnode, .int .u64 bseq, .int .i64 boff, .int .i64 dest, .int .i64 prio, .int .i64 born, .int .i64 life, .int .i64 total, .string data]] w (fun e w' => ∃ As' cs' At' ct' Ak' ck', e = .returned (.tuple #[.agg #[.int .i64 node, .int .u64 th, .bool su, .int .u64 old, .int .u64 g, .int .u64 n, .int .u64 r, .slice As' S cs', .int .u64 a, .int .u64 b, .int .u64 f, .slice At' T ct', .slice Ak' K ck'], .int .i64 1, .bool false, .int .i64 0]) ∧ (SlsB (w.heap.size) w' (.slice As' S cs') SL ∧ RgsB (w.heap.size) w' (.slice At' T ct') TL ∧ KpsB (w.heap.size) w' (.slice Ak' K ck') KL) ∧ Below w.heap.size w w') := by
  have PC' := Lib.hid PC
  clear PC
  have BC' := Lib.hid BC
  clear BC
  have FC' := Lib.hid FC
  clear FC
  have CO' := Lib.hid CO
  clear CO
  go_enter Try.func19, Try.ntmps19
  go_upto_region 1 with fail
  have k0 := (Blk.new w 31 #[.int .i64 node, .int .u64 th, .bool su, .int .u64 old, .int .u64 g, .int .u64 n, .int .u64 r, .slice As S cs, .int .u64 a, .int .u64 b, .int .u64 f, .slice At T ct, .slice Ak K ck]).alloc (.cells #[.int .i64 kind, .int .i64 frm, .int .i64 tto, .int .u64 mine, .int .u64 yours, .int .u64 fa, .int .u64 fb, .int .i64 inode, .int .u64 iseq, .int .i64 ioff, .int .i64 bnode, .int .u64 bseq, .int .i64 boff, .int .i64 dest, .int .i64 prio, .int .i64 born, .int .i64 life, .int .i64 total, .string data] 51)
  have k0 := k0.alloc (.cells #[.int .i64 0, .int .u64 0, .bool false, .int .u64 0, .int .u64 0, .int .u64 0, .int .u64 0, .slice none 0 0, .int .u64 0, .int .u64 0, .int .u64 0, .slice none 0 0, .slice none 0 0] 31)
  have k1 := (Blk.new1 w (.cells #[.int .i64 node, .int .u64 th, .bool su, .int .u64 old, .int .u64 g, .int .u64 n, .int .u64 r, .slice As S cs, .int .u64 a, .int .u64 b, .int .u64 f, .slice At T ct, .slice Ak K ck] 31) 51 #[.int .i64 kind, .int .i64 frm, .int .i64 tto, .int .u64 mine, .int .u64 yours, .int .u64 fa, .int .u64 fb, .int .i64 inode, .int .u64 iseq, .int .i64 ioff, .int .i64 bnode, .int .u64 bseq, .int .i64 boff, .int .i64 dest, .int .i64 prio, .int .i64 born, .int .i64 life, .int .i64 total, .string data]).alloc (.cells #[.int .i64 0, .int .u64 0, .bool false, .int .u64 0, .int .u64 0, .int .u64 0, .int .u64 0, .slice none 0 0, .int .u64 0, .int .u64 0, .int .u64 0, .slice none 0 0, .slice none 0 0] 31)
  have k2 := Blk.new2 w (.cells #[.int .i64 node, .int .u64 th, .bool su, .int .u64 old, .int .u64 g, .int .u64 n, .int .u64 r, .slice As S cs, .int .u64 a, .int .u64 b, .int .u64 f, .slice At T ct, .slice Ak K ck] 31) (.cells #[.int .i64 kind, .int .i64 frm, .int .i64 tto, .int .u64 mine, .int .u64 yours, .int .u64 fa, .int .u64 fb, .int .i64 inode, .int .u64 iseq, .int .i64 ioff, .int .i64 bnode, .int .u64 bseq, .int .i64 boff, .int .i64 dest, .int .i64 prio, .int .i64 born, .int .i64 life, .int .i64 total, .string data] 51) 31 #[.int .i64 0, .int .u64 0, .bool false, .int .u64 0, .int .u64 0, .int .u64 0, .int .u64 0, .slice none 0 0, .int .u64 0, .int .u64 0, .int .u64 0, .slice none 0 0, .slice none 0 0]
  have hB := bal (bal (bal (Below.refl w.heap.size w) (.cells #[.int .i64 node, .int .u64 th, .bool su, .int .u64 old, .int .u64 g, .int .u64 n, .int .u64 r, .slice As S cs, .int .u64 a, .int .u64 b, .int .u64 f, .slice At T ct, .slice Ak K ck] 31)) (.cells #[.int .i64 kind, .int .i64 frm, .int .i64 tto, .int .u64 mine, .int .u64 yours, .int .u64 fa, .int .u64 fb, .int .i64 inode, .int .u64 iseq, .int .i64 ioff, .int .i64 bnode, .int .u64 bseq, .int .i64 boff, .int .i64 dest, .int .i64 prio, .int .i64 born, .int .i64 life, .int .i64 total, .string data] 51)) (.cells #[.int .i64 0, .int .u64 0, .bool false, .int .u64 0, .int .u64 0, .int .u64 0, .int .u64 0, .slice none 0 0, .int .u64 0, .int .u64 0, .int .u64 0, .slice none 0 0, .slice none 0 0] 31)
  have k3 : BK3 w w.heap.size 31 #[.int .i64 node, .int .u64 th, .bool su, .int .u64 old, .int .u64 g, .int .u64 n, .int .u64 r, .slice As S cs, .int .u64 a, .int .u64 b, .int .u64 f, .slice At T ct, .slice Ak K ck] (w.heap.size + 1) 51 #[.int .i64 kind, .int .i64 frm, .int .i64 tto, .int .u64 mine, .int .u64 yours, .int .u64 fa, .int .u64 fb, .int .i64 inode, .int .u64 iseq, .int .i64 ioff, .int .i64 bnode, .int .u64 bseq, .int .i64 boff, .int .i64 dest, .int .i64 prio, .int .i64 born, .int .i64 life, .int .i64 total, .string data] (w.heap.size + 1 + 1) 31 #[.int .i64 0, .int .u64 0, .bool false, .int .u64 0, .int .u64 0, .int .u64 0, .int .u64 0, .slice none 0 0, .int .u64 0, .int .u64 0, .int .u64 0, .slice none 0 0, .slice none 0 0] _ := ⟨k0, k1, k2, hB⟩
  clear k0 k1 k2 hB
  generalize hW : ((w.alloc (.cells #[.int .i64 node, .int .u64 th, .bool su, .int .u64 old, .int .u64 g, .int .u64 n, .int .u64 r, .slice As S cs, .int .u64 a, .int .u64 b, .int .u64 f, .slice At T ct, .slice Ak K ck] 31)).alloc (.cells #[.int .i64 kind, .int .i64 frm, .int .i64 tto, .int .u64 mine, .int .u64 yours, .int .u64 fa, .int .u64 fb, .int .i64 inode, .int .u64 iseq, .int .i64 ioff, .int .i64 bnode, .int .u64 bseq, .int .i64 boff, .int .i64 dest, .int .i64 prio, .int .i64 born, .int .i64 life, .int .i64 total, .string data] 51)).alloc (.cells #[.int .i64 0, .int .u64 0, .bool false, .int .u64 0, .int .u64 0, .int .u64 0, .int .u64 0, .slice none 0 0, .int .u64 0, .int .u64 0, .int .u64 0, .slice none 0 0, .slice none 0 0] 31) = W at k3 ⊢
  clear hW
  obtain ⟨g2, hg2⟩ : ∃ g2, w.heap.size + 1 + 1 = g2 := ⟨_, rfl⟩
  obtain ⟨g1, hg1⟩ : ∃ g1, w.heap.size + 1 = g1 := ⟨_, rfl⟩
  have HG : Hid (w.heap.size ≤ g2) := Lib.hid (by omega)
  obtain ⟨g0, hg0⟩ : ∃ g0, w.heap.size = g0 := ⟨_, rfl⟩
  have n02 : Hid (¬ g0 = g2) := Lib.hid (by omega)
  have n12 : Hid (¬ g1 = g2) := Lib.hid (by omega)
  rw [hg2] at k3 ⊢
  rw [hg1] at k3 ⊢
  rw [hg0] at k3 ⊢
  clear hg2 hg1 hg0
  have kb := k3.b
  have kc := k3.c
  have kd := k3.d
  have K1 := Lib.hid k3
  clear k3
  go_wp2_with (first | (refine wpList_load_row (by rfl) 31 _ (by rfl) g0 (by rfl) 31 #[.int .i64 node, .int .u64 th, .bool su, .int .u64 old, .int .u64 g, .int .u64 n, .int .u64 r, .slice As S cs, .int .u64 a, .int .u64 b, .int .u64 f, .slice At T ct, .slice Ak K ck] (0, 0) _ kb Try.underlying31 (by rfl) (by kernel_rfl) ?_) | (refine wpList_load_row (by rfl) 51 _ (by rfl) g1 (by rfl) 51 #[.int .i64 kind, .int .i64 frm, .int .i64 tto, .int .u64 mine, .int .u64 yours, .int .u64 fa, .int .u64 fb, .int .i64 inode, .int .u64 iseq, .int .i64 ioff, .int .i64 bnode, .int .u64 bseq, .int .i64 boff, .int .i64 dest, .int .i64 prio, .int .i64 born, .int .i64 life, .int .i64 total, .string data] (0, 0) _ kc Try.underlying51 (by rfl) (by kernel_rfl) ?_) | (refine wpList_store_mid (by rfl) 31 _ _ (by rfl) g2 0 #[.int .i64 0, .int .u64 0, .bool false, .int .u64 0, .int .u64 0, .int .u64 0, .int .u64 0, .slice none 0 0, .int .u64 0, .int .u64 0, .int .u64 0, .slice none 0 0, .slice none 0 0] (by rfl) (by rfl) (Blk.there kd 0 _ (Nat.le_refl 13)) (by kernel_rfl) (by kernel_rfl) ?_))
  refine (PC'.out _ K1.out.hB).mono ?_
  rintro e w1 ⟨rfl, hb⟩
  have kk := K1.out.below hb
  clear K1 kb kc kd hb
  have kb := kk.b
  have kc := kk.c
  have kd := kk.d
  have hl0 := kb.lt
  have hl1 := kc.lt
  have hl2 := kd.lt
  have K1 := Lib.hid kk
  clear kk
  go_wp2_with (first | (refine wpList_load_row (by rfl) 31 _ (by rfl) g0 (by rfl) 31 #[.int .i64 node, .int .u64 th, .bool su, .int .u64 old, .int .u64 g, .int .u64 n, .int .u64 r, .slice As S cs, .int .u64 a, .int .u64 b, .int .u64 f, .slice At T ct, .slice Ak K ck] (0, 0) _ kb Try.underlying31 (by rfl) (by kernel_rfl) ?_) | (refine wpList_load_row (by rfl) 51 _ (by rfl) g1 (by rfl) 51 #[.int .i64 kind, .int .i64 frm, .int .i64 tto, .int .u64 mine, .int .u64 yours, .int .u64 fa, .int .u64 fb, .int .i64 inode, .int .u64 iseq, .int .i64 ioff, .int .i64 bnode, .int .u64 bseq, .int .i64 boff, .int .i64 dest, .int .i64 prio, .int .i64 born, .int .i64 life, .int .i64 total, .string data] (0, 0) _ kc Try.underlying51 (by rfl) (by kernel_rfl) ?_) | (refine wpList_store_mid (by rfl) 31 _ _ (by rfl) g2 0 #[.int .i64 0, .int .u64 0, .bool false, .int .u64 0, .int .u64 0, .int .u64 0, .int .u64 0, .slice none 0 0, .int .u64 0, .int .u64 0, .int .u64 0, .slice none 0 0, .slice none 0 0] (by rfl) (by rfl) (Blk.there kd 0 _ (Nat.le_refl 13)) (by kernel_rfl) (by kernel_rfl) ?_))
  refine (BC'.out _).mono ?_
  rintro e w2 ⟨rfl, hb⟩
  have kk := K1.out.below hb
  clear K1 kb kc kd hb
  have kb := kk.b
  have kc := kk.c
  have kd := kk.d
  have hl0 := kb.lt
  have hl1 := kc.lt
  have hl2 := kd.lt
  have K1 := Lib.hid kk
  clear kk
  go_wp2_with (first | (refine wpList_load_row (by rfl) 31 _ (by rfl) g0 (by rfl) 31 #[.int .i64 node, .int .u64 th, .bool su, .int .u64 old, .int .u64 g, .int .u64 n, .int .u64 r, .slice As S cs, .int .u64 a, .int .u64 b, .int .u64 f, .slice At T ct, .slice Ak K ck] (0, 0) _ kb Try.underlying31 (by rfl) (by kernel_rfl) ?_) | (refine wpList_load_row (by rfl) 51 _ (by rfl) g1 (by rfl) 51 #[.int .i64 kind, .int .i64 frm, .int .i64 tto, .int .u64 mine, .int .u64 yours, .int .u64 fa, .int .u64 fb, .int .i64 inode, .int .u64 iseq, .int .i64 ioff, .int .i64 bnode, .int .u64 bseq, .int .i64 boff, .int .i64 dest, .int .i64 prio, .int .i64 born, .int .i64 life, .int .i64 total, .string data] (0, 0) _ kc Try.underlying51 (by rfl) (by kernel_rfl) ?_) | (refine wpList_store_mid (by rfl) 31 _ _ (by rfl) g2 0 #[.int .i64 0, .int .u64 0, .bool false, .int .u64 0, .int .u64 0, .int .u64 0, .int .u64 0, .slice none 0 0, .int .u64 0, .int .u64 0, .int .u64 0, .slice none 0 0, .slice none 0 0] (by rfl) (by rfl) (Blk.there kd 0 _ (Nat.le_refl 13)) (by kernel_rfl) (by kernel_rfl) ?_))
  refine (FC'.out _).mono ?_
  rintro e w3 ⟨rfl, hb⟩
  have kk := K1.out.below hb
  clear K1 kb kc kd hb
  have kb := kk.b
  have kc := kk.c
  have kd := kk.d
  have hl0 := kb.lt
  have hl1 := kc.lt
  have hl2 := kd.lt
  have K1 := Lib.hid kk
  clear kk
  have x0 : w3.cell? ⟨g0, 0, none⟩ = some (.int .i64 node) := kb.cell 0
  have x1 : w3.cell? ⟨g0, 1, none⟩ = some (.int .u64 th) := kb.cell 1
  have y1 : w3.cell? ⟨g1, 1, none⟩ = some (.int .i64 frm) := kc.cell 1
  go_wp2_with (first | (refine wpList_load_row (by rfl) 31 _ (by rfl) g0 (by rfl) 31 #[.int .i64 node, .int .u64 th, .bool su, .int .u64 old, .int .u64 g, .int .u64 n, .int .u64 r, .slice As S cs, .int .u64 a, .int .u64 b, .int .u64 f, .slice At T ct, .slice Ak K ck] (0, 0) _ kb Try.underlying31 (by rfl) (by kernel_rfl) ?_) | (refine wpList_load_row (by rfl) 51 _ (by rfl) g1 (by rfl) 51 #[.int .i64 kind, .int .i64 frm, .int .i64 tto, .int .u64 mine, .int .u64 yours, .int .u64 fa, .int .u64 fb, .int .i64 inode, .int .u64 iseq, .int .i64 ioff, .int .i64 bnode, .int .u64 bseq, .int .i64 boff, .int .i64 dest, .int .i64 prio, .int .i64 born, .int .i64 life, .int .i64 total, .string data] (0, 0) _ kc Try.underlying51 (by rfl) (by kernel_rfl) ?_) | (refine wpList_store_mid (by rfl) 31 _ _ (by rfl) g2 0 #[.int .i64 0, .int .u64 0, .bool false, .int .u64 0, .int .u64 0, .int .u64 0, .int .u64 0, .slice none 0 0, .int .u64 0, .int .u64 0, .int .u64 0, .slice none 0 0, .slice none 0 0] (by rfl) (by rfl) (Blk.there kd 0 _ (Nat.le_refl 13)) (by kernel_rfl) (by kernel_rfl) ?_))
  refine (CO'.out _ K1.out.hB).mono ?_
  rintro e w4 ⟨As', cs', At', ct', Ak', ck', rfl, ⟨Rs, Rt, Rk⟩, hb⟩
  have kk := K1.out.below hb
  have h23 : g2 < w3.heap.size := hl2
  have hW3 : Hid (w.heap.size ≤ w3.heap.size) := Lib.hid K1.out.hB.size
  have RR : Hid (SlsB (w3.heap.size) w4 (.slice As' S cs') SL ∧ RgsB (w3.heap.size) w4 (.slice At' T ct') TL ∧ KpsB (w3.heap.size) w4 (.slice Ak' K ck') KL) := Lib.hid ⟨Rs, Rt, Rk⟩
  clear K1 kb kc kd hb x0 x1 y1 hl0 hl1 Rs Rt Rk
  go_upto_region 11 with (first | (refine wpList_alloc_z (by rfl) 31 (by rfl) _ rfl #[.int .i64 0, .int .u64 0, .bool false, .int .u64 0, .int .u64 0, .int .u64 0, .int .u64 0, .slice none 0 0, .int .u64 0, .int .u64 0, .int .u64 0, .slice none 0 0, .slice none 0 0] (fun w => by kernel_rfl) ?_) | (refine wpList_store_new (by rfl) 31 _ _ (by rfl) w4 #[.int .i64 0, .int .u64 0, .bool false, .int .u64 0, .int .u64 0, .int .u64 0, .int .u64 0, .slice none 0 0, .int .u64 0, .int .u64 0, .int .u64 0, .slice none 0 0, .slice none 0 0] #[.int .i64 node, .int .u64 th, .bool su, .int .u64 old, .int .u64 g, .int .u64 n, .int .u64 r, .slice As' S cs', .int .u64 a, .int .u64 b, .int .u64 f, .slice At' T ct', .slice Ak' K ck'] rfl (by rfl) (by rfl) (by kernel_rfl) rfl (by kernel_rfl) ?_))
  have ke := Blk.new w4 31 #[.int .i64 node, .int .u64 th, .bool su, .int .u64 old, .int .u64 g, .int .u64 n, .int .u64 r, .slice As' S cs', .int .u64 a, .int .u64 b, .int .u64 f, .slice At' T ct', .slice Ak' K ck']
  have kb := kk.b.alloc (.cells #[.int .i64 node, .int .u64 th, .bool su, .int .u64 old, .int .u64 g, .int .u64 n, .int .u64 r, .slice As' S cs', .int .u64 a, .int .u64 b, .int .u64 f, .slice At' T ct', .slice Ak' K ck'] 31)
  have kc := kk.c.alloc (.cells #[.int .i64 node, .int .u64 th, .bool su, .int .u64 old, .int .u64 g, .int .u64 n, .int .u64 r, .slice As' S cs', .int .u64 a, .int .u64 b, .int .u64 f, .slice At' T ct', .slice Ak' K ck'] 31)
  have kd := kk.d.alloc (.cells #[.int .i64 node, .int .u64 th, .bool su, .int .u64 old, .int .u64 g, .int .u64 n, .int .u64 r, .slice As' S cs', .int .u64 a, .int .u64 b, .int .u64 f, .slice At' T ct', .slice Ak' K ck'] 31)
  have hB := bal kk.hB (.cells #[.int .i64 node, .int .u64 th, .bool su, .int .u64 old, .int .u64 g, .int .u64 n, .int .u64 r, .slice As' S cs', .int .u64 a, .int .u64 b, .int .u64 f, .slice At' T ct', .slice Ak' K ck'] 31)
  have hE := bal (Below.refl w4.heap.size w4) (.cells #[.int .i64 node, .int .u64 th, .bool su, .int .u64 old, .int .u64 g, .int .u64 n, .int .u64 r, .slice As' S cs', .int .u64 a, .int .u64 b, .int .u64 f, .slice At' T ct', .slice Ak' K ck'] 31)
  have hz4 := kk.d.lt
  have hz0 := kk.b.lt
  have hz1 := kk.c.lt
  obtain ⟨g3, hg3⟩ : ∃ g3, w4.heap.size = g3 := ⟨_, rfl⟩
  have n03 : Hid (¬ g0 = g3) := Lib.hid (by omega)
  have n13 : Hid (¬ g1 = g3) := Lib.hid (by omega)
  have n23 : Hid (¬ g2 = g3) := Lib.hid (by omega)
  have hG3 : Hid (w4.heap.size ≤ g3 ∧ w.heap.size ≤ g3) := Lib.hid ⟨by omega, by have := kk.hB.size; omega⟩
  have hG2 : Hid (g2 < w3.heap.size) := Lib.hid h23
  rw [hg3] at ke ⊢
  generalize w4.alloc (.cells #[.int .i64 node, .int .u64 th, .bool su, .int .u64 old, .int .u64 g, .int .u64 n, .int .u64 r, .slice As' S cs', .int .u64 a, .int .u64 b, .int .u64 f, .slice At' T ct', .slice Ak' K ck'] 31) = W1 at ke kb kc kd hB hE ⊢
  clear kk hg3 hz4 hz0 hz1 h23 hl2
  have x0 : W1.cell? ⟨g0, 0, none⟩ = some (.int .i64 node) := kb.cell 0
  have x1 : W1.cell? ⟨g0, 1, none⟩ = some (.int .u64 th) := kb.cell 1
  have y3 : W1.cell? ⟨g1, 3, none⟩ = some (.int .u64 mine) := kc.cell 3
  have y4 : W1.cell? ⟨g1, 4, none⟩ = some (.int .u64 yours) := kc.cell 4
  go_wp2_with (first | (refine wpList_load_row (by rfl) 31 _ (by rfl) g3 (by rfl) 31 #[.int .i64 node, .int .u64 th, .bool su, .int .u64 old, .int .u64 g, .int .u64 n, .int .u64 r, .slice As' S cs', .int .u64 a, .int .u64 b, .int .u64 f, .slice At' T ct', .slice Ak' K ck'] (0, 0) _ ke Try.underlying31 (by rfl) (by kernel_rfl) ?_) | (refine wpList_store_mid (by rfl) 31 _ _ (by rfl) g2 0 #[.int .i64 node, .int .u64 th, .bool su, .int .u64 old, .int .u64 g, .int .u64 n, .int .u64 r, .slice As' S cs', .int .u64 a, .int .u64 b, .int .u64 f, .slice At' T ct', .slice Ak' K ck'] (by rfl) (by rfl) (Blk.there kd 0 _ (Nat.le_refl 13)) (by kernel_rfl) (by kernel_rfl) ?_))
  refine bodyPost_ret (results_cell3 rfl _ _ g2 31 #[.int .i64 node, .int .u64 th, .bool su, .int .u64 old, .int .u64 g, .int .u64 n, .int .u64 r, .slice As' S cs', .int .u64 a, .int .u64 b, .int .u64 f, .slice At' T ct', .slice Ak' K ck'] (0, 0) _ rfl (kd.setAll rfl) Try.underlying31 (by rfl) (by kernel_rfl)) rfl ?_
  have hF := below_setCells HG.out (Array.toList #[.int .i64 node, .int .u64 th, .bool su, .int .u64 old, .int .u64 g, .int .u64 n, .int .u64 r, .slice As' S cs', .int .u64 a, .int .u64 b, .int .u64 f, .slice At' T ct', .slice Ak' K ck']) 0 hB
  exact ⟨As', cs', At', ct', Ak', ck', rfl, ⟨((RR.out.1.below hE).setCells hG2.out _ 0).low (by have := hW3.out; omega), ((RR.out.2.1.below hE).setCells hG2.out _ 0).low (by have := hW3.out; omega), ((RR.out.2.2.below hE).setCells hG2.out _ 0).low (by have := hW3.out; omega)⟩, hF⟩

set_option maxRecDepth 100000 in
set_option maxHeartbeats 4000000 in
theorem rm_nu (node th old : Int) (su : Bool) (g n r : Int) (SL : List Sl) (S cs : Nat) (As : Option Addr) (a b f : Int) (TL : List Rg) (T ct : Nat) (At : Option Addr) (KL : List Int) (K ck : Nat) (Ak : Option Addr) (kind frm tto mine yours fa fb inode iseq ioff bnode bseq boff dest prio born life total : Int) (data : ByteArray) (boot : Int) (w : World) (PC : ∀ w', Below w.heap.size w w' → Calls Try.prog 21 #[.agg #[.int .i64 node, .int .u64 th, .bool su, .int .u64 old, .int .u64 g, .int .u64 n, .int .u64 r, .slice As S cs, .int .u64 a, .int .u64 b, .int .u64 f, .slice At T ct, .slice Ak K ck]] w' (RetI .i64 0 w')) (BC : ∀ w, Calls Try.prog 42 #[.int .u64 boot] w (RetI .i64 0 w)) (FC : ∀ w, Calls Try.prog 58 #[.agg #[.int .i64 kind, .int .i64 frm, .int .i64 tto, .int .u64 mine, .int .u64 yours, .int .u64 fa, .int .u64 fb, .int .i64 inode, .int .u64 iseq, .int .i64 ioff, .int .i64 bnode, .int .u64 bseq, .int .i64 boff, .int .i64 dest, .int .i64 prio, .int .i64 born, .int .i64 life, .int .i64 total, .string data]] w (RetI .i64 0 w)) (CO : ∀ w', Below w.heap.size w w' → Calls Try.prog 59 #[.agg #[.int .i64 node, .int .u64 th, .bool su, .int .u64 old, .int .u64 g, .int .u64 n, .int .u64 r, .slice As S cs, .int .u64 a, .int .u64 b, .int .u64 f, .slice At T ct, .slice Ak K ck]] w' (fun e w'' => ∃ As' cs' At' ct' Ak' ck', e = .returned (.agg #[.int .i64 node, .int .u64 th, .bool su, .int .u64 old, .int .u64 g, .int .u64 n, .int .u64 r, .slice As' S cs', .int .u64 a, .int .u64 b, .int .u64 f, .slice At' T ct', .slice Ak' K ck']) ∧ (SlsB (w'.heap.size) w'' (.slice As' S cs') SL ∧ RgsB (w'.heap.size) w'' (.slice At' T ct') TL ∧ KpsB (w'.heap.size) w'' (.slice Ak' K ck') KL) ∧ Below w'.heap.size w' w'')) (n1 : (frm != node) = false) (m1 : ¬ mine < th) (m2 : ¬ mine > th) (m3 : decide (th < mine) = false) (y : (yours != boot) = true) :
    Calls Try.prog 19 #[.agg #[.int .i64 node, .int .u64 th, .bool su, .int .u64 old, .int .u64 g, .int .u64 n, .int .u64 r, .slice As S cs, .int .u64 a, .int .u64 b, .int .u64 f, .slice At T ct, .slice Ak K ck], .int .u64 boot, .agg #[.int .i64 kind, .int .i64 frm, .int .i64 tto, .int .u64 mine, .int .u64 yours, .int .u64 fa, .int .u64 fb, .int .i64 inode, .int .u64 iseq, .int .i64 ioff, .int .i64 bnode, .int .u64 bseq, .int .i64 boff, .int .i64 dest, .int .i64 prio, .int .i64 born, .int .i64 life, .int .i64 total, .string data]] w (fun e w' => ∃ As' cs' At' ct' Ak' ck', e = .returned (.tuple #[.agg #[.int .i64 node, .int .u64 th, .bool su, .int .u64 old, .int .u64 g, .int .u64 n, .int .u64 r, .slice As' S cs', .int .u64 a, .int .u64 b, .int .u64 f, .slice At' T ct', .slice Ak' K ck'], .int .i64 2, .bool true, .int .i64 0]) ∧ (SlsB (w.heap.size) w' (.slice As' S cs') SL ∧ RgsB (w.heap.size) w' (.slice At' T ct') TL ∧ KpsB (w.heap.size) w' (.slice Ak' K ck') KL) ∧ Below w.heap.size w w') := by
  have PC' := Lib.hid PC
  clear PC
  have BC' := Lib.hid BC
  clear BC
  have FC' := Lib.hid FC
  clear FC
  have CO' := Lib.hid CO
  clear CO
  go_enter Try.func19, Try.ntmps19
  go_upto_region 1 with fail
  have k0 := (Blk.new w 31 #[.int .i64 node, .int .u64 th, .bool su, .int .u64 old, .int .u64 g, .int .u64 n, .int .u64 r, .slice As S cs, .int .u64 a, .int .u64 b, .int .u64 f, .slice At T ct, .slice Ak K ck]).alloc (.cells #[.int .i64 kind, .int .i64 frm, .int .i64 tto, .int .u64 mine, .int .u64 yours, .int .u64 fa, .int .u64 fb, .int .i64 inode, .int .u64 iseq, .int .i64 ioff, .int .i64 bnode, .int .u64 bseq, .int .i64 boff, .int .i64 dest, .int .i64 prio, .int .i64 born, .int .i64 life, .int .i64 total, .string data] 51)
  have k0 := k0.alloc (.cells #[.int .i64 0, .int .u64 0, .bool false, .int .u64 0, .int .u64 0, .int .u64 0, .int .u64 0, .slice none 0 0, .int .u64 0, .int .u64 0, .int .u64 0, .slice none 0 0, .slice none 0 0] 31)
  have k1 := (Blk.new1 w (.cells #[.int .i64 node, .int .u64 th, .bool su, .int .u64 old, .int .u64 g, .int .u64 n, .int .u64 r, .slice As S cs, .int .u64 a, .int .u64 b, .int .u64 f, .slice At T ct, .slice Ak K ck] 31) 51 #[.int .i64 kind, .int .i64 frm, .int .i64 tto, .int .u64 mine, .int .u64 yours, .int .u64 fa, .int .u64 fb, .int .i64 inode, .int .u64 iseq, .int .i64 ioff, .int .i64 bnode, .int .u64 bseq, .int .i64 boff, .int .i64 dest, .int .i64 prio, .int .i64 born, .int .i64 life, .int .i64 total, .string data]).alloc (.cells #[.int .i64 0, .int .u64 0, .bool false, .int .u64 0, .int .u64 0, .int .u64 0, .int .u64 0, .slice none 0 0, .int .u64 0, .int .u64 0, .int .u64 0, .slice none 0 0, .slice none 0 0] 31)
  have k2 := Blk.new2 w (.cells #[.int .i64 node, .int .u64 th, .bool su, .int .u64 old, .int .u64 g, .int .u64 n, .int .u64 r, .slice As S cs, .int .u64 a, .int .u64 b, .int .u64 f, .slice At T ct, .slice Ak K ck] 31) (.cells #[.int .i64 kind, .int .i64 frm, .int .i64 tto, .int .u64 mine, .int .u64 yours, .int .u64 fa, .int .u64 fb, .int .i64 inode, .int .u64 iseq, .int .i64 ioff, .int .i64 bnode, .int .u64 bseq, .int .i64 boff, .int .i64 dest, .int .i64 prio, .int .i64 born, .int .i64 life, .int .i64 total, .string data] 51) 31 #[.int .i64 0, .int .u64 0, .bool false, .int .u64 0, .int .u64 0, .int .u64 0, .int .u64 0, .slice none 0 0, .int .u64 0, .int .u64 0, .int .u64 0, .slice none 0 0, .slice none 0 0]
  have hB := bal (bal (bal (Below.refl w.heap.size w) (.cells #[.int .i64 node, .int .u64 th, .bool su, .int .u64 old, .int .u64 g, .int .u64 n, .int .u64 r, .slice As S cs, .int .u64 a, .int .u64 b, .int .u64 f, .slice At T ct, .slice Ak K ck] 31)) (.cells #[.int .i64 kind, .int .i64 frm, .int .i64 tto, .int .u64 mine, .int .u64 yours, .int .u64 fa, .int .u64 fb, .int .i64 inode, .int .u64 iseq, .int .i64 ioff, .int .i64 bnode, .int .u64 bseq, .int .i64 boff, .int .i64 dest, .int .i64 prio, .int .i64 born, .int .i64 life, .int .i64 total, .string data] 51)) (.cells #[.int .i64 0, .int .u64 0, .bool false, .int .u64 0, .int .u64 0, .int .u64 0, .int .u64 0, .slice none 0 0, .int .u64 0, .int .u64 0, .int .u64 0, .slice none 0 0, .slice none 0 0] 31)
  have k3 : BK3 w w.heap.size 31 #[.int .i64 node, .int .u64 th, .bool su, .int .u64 old, .int .u64 g, .int .u64 n, .int .u64 r, .slice As S cs, .int .u64 a, .int .u64 b, .int .u64 f, .slice At T ct, .slice Ak K ck] (w.heap.size + 1) 51 #[.int .i64 kind, .int .i64 frm, .int .i64 tto, .int .u64 mine, .int .u64 yours, .int .u64 fa, .int .u64 fb, .int .i64 inode, .int .u64 iseq, .int .i64 ioff, .int .i64 bnode, .int .u64 bseq, .int .i64 boff, .int .i64 dest, .int .i64 prio, .int .i64 born, .int .i64 life, .int .i64 total, .string data] (w.heap.size + 1 + 1) 31 #[.int .i64 0, .int .u64 0, .bool false, .int .u64 0, .int .u64 0, .int .u64 0, .int .u64 0, .slice none 0 0, .int .u64 0, .int .u64 0, .int .u64 0, .slice none 0 0, .slice none 0 0] _ := ⟨k0, k1, k2, hB⟩
  clear k0 k1 k2 hB
  generalize hW : ((w.alloc (.cells #[.int .i64 node, .int .u64 th, .bool su, .int .u64 old, .int .u64 g, .int .u64 n, .int .u64 r, .slice As S cs, .int .u64 a, .int .u64 b, .int .u64 f, .slice At T ct, .slice Ak K ck] 31)).alloc (.cells #[.int .i64 kind, .int .i64 frm, .int .i64 tto, .int .u64 mine, .int .u64 yours, .int .u64 fa, .int .u64 fb, .int .i64 inode, .int .u64 iseq, .int .i64 ioff, .int .i64 bnode, .int .u64 bseq, .int .i64 boff, .int .i64 dest, .int .i64 prio, .int .i64 born, .int .i64 life, .int .i64 total, .string data] 51)).alloc (.cells #[.int .i64 0, .int .u64 0, .bool false, .int .u64 0, .int .u64 0, .int .u64 0, .int .u64 0, .slice none 0 0, .int .u64 0, .int .u64 0, .int .u64 0, .slice none 0 0, .slice none 0 0] 31) = W at k3 ⊢
  clear hW
  obtain ⟨g2, hg2⟩ : ∃ g2, w.heap.size + 1 + 1 = g2 := ⟨_, rfl⟩
  obtain ⟨g1, hg1⟩ : ∃ g1, w.heap.size + 1 = g1 := ⟨_, rfl⟩
  have HG : Hid (w.heap.size ≤ g2) := Lib.hid (by omega)
  obtain ⟨g0, hg0⟩ : ∃ g0, w.heap.size = g0 := ⟨_, rfl⟩
  have n02 : Hid (¬ g0 = g2) := Lib.hid (by omega)
  have n12 : Hid (¬ g1 = g2) := Lib.hid (by omega)
  rw [hg2] at k3 ⊢
  rw [hg1] at k3 ⊢
  rw [hg0] at k3 ⊢
  clear hg2 hg1 hg0
  have kb := k3.b
  have kc := k3.c
  have kd := k3.d
  have K1 := Lib.hid k3
  clear k3
  go_wp2_with (first | (refine wpList_load_row (by rfl) 31 _ (by rfl) g0 (by rfl) 31 #[.int .i64 node, .int .u64 th, .bool su, .int .u64 old, .int .u64 g, .int .u64 n, .int .u64 r, .slice As S cs, .int .u64 a, .int .u64 b, .int .u64 f, .slice At T ct, .slice Ak K ck] (0, 0) _ kb Try.underlying31 (by rfl) (by kernel_rfl) ?_) | (refine wpList_load_row (by rfl) 51 _ (by rfl) g1 (by rfl) 51 #[.int .i64 kind, .int .i64 frm, .int .i64 tto, .int .u64 mine, .int .u64 yours, .int .u64 fa, .int .u64 fb, .int .i64 inode, .int .u64 iseq, .int .i64 ioff, .int .i64 bnode, .int .u64 bseq, .int .i64 boff, .int .i64 dest, .int .i64 prio, .int .i64 born, .int .i64 life, .int .i64 total, .string data] (0, 0) _ kc Try.underlying51 (by rfl) (by kernel_rfl) ?_) | (refine wpList_store_mid (by rfl) 31 _ _ (by rfl) g2 0 #[.int .i64 0, .int .u64 0, .bool false, .int .u64 0, .int .u64 0, .int .u64 0, .int .u64 0, .slice none 0 0, .int .u64 0, .int .u64 0, .int .u64 0, .slice none 0 0, .slice none 0 0] (by rfl) (by rfl) (Blk.there kd 0 _ (Nat.le_refl 13)) (by kernel_rfl) (by kernel_rfl) ?_))
  refine (PC'.out _ K1.out.hB).mono ?_
  rintro e w1 ⟨rfl, hb⟩
  have kk := K1.out.below hb
  clear K1 kb kc kd hb
  have kb := kk.b
  have kc := kk.c
  have kd := kk.d
  have hl0 := kb.lt
  have hl1 := kc.lt
  have hl2 := kd.lt
  have K1 := Lib.hid kk
  clear kk
  go_wp2_with (first | (refine wpList_load_row (by rfl) 31 _ (by rfl) g0 (by rfl) 31 #[.int .i64 node, .int .u64 th, .bool su, .int .u64 old, .int .u64 g, .int .u64 n, .int .u64 r, .slice As S cs, .int .u64 a, .int .u64 b, .int .u64 f, .slice At T ct, .slice Ak K ck] (0, 0) _ kb Try.underlying31 (by rfl) (by kernel_rfl) ?_) | (refine wpList_load_row (by rfl) 51 _ (by rfl) g1 (by rfl) 51 #[.int .i64 kind, .int .i64 frm, .int .i64 tto, .int .u64 mine, .int .u64 yours, .int .u64 fa, .int .u64 fb, .int .i64 inode, .int .u64 iseq, .int .i64 ioff, .int .i64 bnode, .int .u64 bseq, .int .i64 boff, .int .i64 dest, .int .i64 prio, .int .i64 born, .int .i64 life, .int .i64 total, .string data] (0, 0) _ kc Try.underlying51 (by rfl) (by kernel_rfl) ?_) | (refine wpList_store_mid (by rfl) 31 _ _ (by rfl) g2 0 #[.int .i64 0, .int .u64 0, .bool false, .int .u64 0, .int .u64 0, .int .u64 0, .int .u64 0, .slice none 0 0, .int .u64 0, .int .u64 0, .int .u64 0, .slice none 0 0, .slice none 0 0] (by rfl) (by rfl) (Blk.there kd 0 _ (Nat.le_refl 13)) (by kernel_rfl) (by kernel_rfl) ?_))
  refine (BC'.out _).mono ?_
  rintro e w2 ⟨rfl, hb⟩
  have kk := K1.out.below hb
  clear K1 kb kc kd hb
  have kb := kk.b
  have kc := kk.c
  have kd := kk.d
  have hl0 := kb.lt
  have hl1 := kc.lt
  have hl2 := kd.lt
  have K1 := Lib.hid kk
  clear kk
  go_wp2_with (first | (refine wpList_load_row (by rfl) 31 _ (by rfl) g0 (by rfl) 31 #[.int .i64 node, .int .u64 th, .bool su, .int .u64 old, .int .u64 g, .int .u64 n, .int .u64 r, .slice As S cs, .int .u64 a, .int .u64 b, .int .u64 f, .slice At T ct, .slice Ak K ck] (0, 0) _ kb Try.underlying31 (by rfl) (by kernel_rfl) ?_) | (refine wpList_load_row (by rfl) 51 _ (by rfl) g1 (by rfl) 51 #[.int .i64 kind, .int .i64 frm, .int .i64 tto, .int .u64 mine, .int .u64 yours, .int .u64 fa, .int .u64 fb, .int .i64 inode, .int .u64 iseq, .int .i64 ioff, .int .i64 bnode, .int .u64 bseq, .int .i64 boff, .int .i64 dest, .int .i64 prio, .int .i64 born, .int .i64 life, .int .i64 total, .string data] (0, 0) _ kc Try.underlying51 (by rfl) (by kernel_rfl) ?_) | (refine wpList_store_mid (by rfl) 31 _ _ (by rfl) g2 0 #[.int .i64 0, .int .u64 0, .bool false, .int .u64 0, .int .u64 0, .int .u64 0, .int .u64 0, .slice none 0 0, .int .u64 0, .int .u64 0, .int .u64 0, .slice none 0 0, .slice none 0 0] (by rfl) (by rfl) (Blk.there kd 0 _ (Nat.le_refl 13)) (by kernel_rfl) (by kernel_rfl) ?_))
  refine (FC'.out _).mono ?_
  rintro e w3 ⟨rfl, hb⟩
  have kk := K1.out.below hb
  clear K1 kb kc kd hb
  have kb := kk.b
  have kc := kk.c
  have kd := kk.d
  have hl0 := kb.lt
  have hl1 := kc.lt
  have hl2 := kd.lt
  have K1 := Lib.hid kk
  clear kk
  have x0 : w3.cell? ⟨g0, 0, none⟩ = some (.int .i64 node) := kb.cell 0
  have x1 : w3.cell? ⟨g0, 1, none⟩ = some (.int .u64 th) := kb.cell 1
  have y1 : w3.cell? ⟨g1, 1, none⟩ = some (.int .i64 frm) := kc.cell 1
  go_wp2_with (first | (refine wpList_load_row (by rfl) 31 _ (by rfl) g0 (by rfl) 31 #[.int .i64 node, .int .u64 th, .bool su, .int .u64 old, .int .u64 g, .int .u64 n, .int .u64 r, .slice As S cs, .int .u64 a, .int .u64 b, .int .u64 f, .slice At T ct, .slice Ak K ck] (0, 0) _ kb Try.underlying31 (by rfl) (by kernel_rfl) ?_) | (refine wpList_load_row (by rfl) 51 _ (by rfl) g1 (by rfl) 51 #[.int .i64 kind, .int .i64 frm, .int .i64 tto, .int .u64 mine, .int .u64 yours, .int .u64 fa, .int .u64 fb, .int .i64 inode, .int .u64 iseq, .int .i64 ioff, .int .i64 bnode, .int .u64 bseq, .int .i64 boff, .int .i64 dest, .int .i64 prio, .int .i64 born, .int .i64 life, .int .i64 total, .string data] (0, 0) _ kc Try.underlying51 (by rfl) (by kernel_rfl) ?_) | (refine wpList_store_mid (by rfl) 31 _ _ (by rfl) g2 0 #[.int .i64 0, .int .u64 0, .bool false, .int .u64 0, .int .u64 0, .int .u64 0, .int .u64 0, .slice none 0 0, .int .u64 0, .int .u64 0, .int .u64 0, .slice none 0 0, .slice none 0 0] (by rfl) (by rfl) (Blk.there kd 0 _ (Nat.le_refl 13)) (by kernel_rfl) (by kernel_rfl) ?_))
  refine (CO'.out _ K1.out.hB).mono ?_
  rintro e w4 ⟨As', cs', At', ct', Ak', ck', rfl, ⟨Rs, Rt, Rk⟩, hb⟩
  have kk := K1.out.below hb
  have h23 : g2 < w3.heap.size := hl2
  have hW3 : Hid (w.heap.size ≤ w3.heap.size) := Lib.hid K1.out.hB.size
  have RR : Hid (SlsB (w3.heap.size) w4 (.slice As' S cs') SL ∧ RgsB (w3.heap.size) w4 (.slice At' T ct') TL ∧ KpsB (w3.heap.size) w4 (.slice Ak' K ck') KL) := Lib.hid ⟨Rs, Rt, Rk⟩
  clear K1 kb kc kd hb x0 x1 y1 hl0 hl1 Rs Rt Rk
  go_upto_region 11 with (first | (refine wpList_alloc_z (by rfl) 31 (by rfl) _ rfl #[.int .i64 0, .int .u64 0, .bool false, .int .u64 0, .int .u64 0, .int .u64 0, .int .u64 0, .slice none 0 0, .int .u64 0, .int .u64 0, .int .u64 0, .slice none 0 0, .slice none 0 0] (fun w => by kernel_rfl) ?_) | (refine wpList_store_new (by rfl) 31 _ _ (by rfl) w4 #[.int .i64 0, .int .u64 0, .bool false, .int .u64 0, .int .u64 0, .int .u64 0, .int .u64 0, .slice none 0 0, .int .u64 0, .int .u64 0, .int .u64 0, .slice none 0 0, .slice none 0 0] #[.int .i64 node, .int .u64 th, .bool su, .int .u64 old, .int .u64 g, .int .u64 n, .int .u64 r, .slice As' S cs', .int .u64 a, .int .u64 b, .int .u64 f, .slice At' T ct', .slice Ak' K ck'] rfl (by rfl) (by rfl) (by kernel_rfl) rfl (by kernel_rfl) ?_))
  have ke := Blk.new w4 31 #[.int .i64 node, .int .u64 th, .bool su, .int .u64 old, .int .u64 g, .int .u64 n, .int .u64 r, .slice As' S cs', .int .u64 a, .int .u64 b, .int .u64 f, .slice At' T ct', .slice Ak' K ck']
  have kb := kk.b.alloc (.cells #[.int .i64 node, .int .u64 th, .bool su, .int .u64 old, .int .u64 g, .int .u64 n, .int .u64 r, .slice As' S cs', .int .u64 a, .int .u64 b, .int .u64 f, .slice At' T ct', .slice Ak' K ck'] 31)
  have kc := kk.c.alloc (.cells #[.int .i64 node, .int .u64 th, .bool su, .int .u64 old, .int .u64 g, .int .u64 n, .int .u64 r, .slice As' S cs', .int .u64 a, .int .u64 b, .int .u64 f, .slice At' T ct', .slice Ak' K ck'] 31)
  have kd := kk.d.alloc (.cells #[.int .i64 node, .int .u64 th, .bool su, .int .u64 old, .int .u64 g, .int .u64 n, .int .u64 r, .slice As' S cs', .int .u64 a, .int .u64 b, .int .u64 f, .slice At' T ct', .slice Ak' K ck'] 31)
  have hB := bal kk.hB (.cells #[.int .i64 node, .int .u64 th, .bool su, .int .u64 old, .int .u64 g, .int .u64 n, .int .u64 r, .slice As' S cs', .int .u64 a, .int .u64 b, .int .u64 f, .slice At' T ct', .slice Ak' K ck'] 31)
  have hE := bal (Below.refl w4.heap.size w4) (.cells #[.int .i64 node, .int .u64 th, .bool su, .int .u64 old, .int .u64 g, .int .u64 n, .int .u64 r, .slice As' S cs', .int .u64 a, .int .u64 b, .int .u64 f, .slice At' T ct', .slice Ak' K ck'] 31)
  have hz4 := kk.d.lt
  have hz0 := kk.b.lt
  have hz1 := kk.c.lt
  obtain ⟨g3, hg3⟩ : ∃ g3, w4.heap.size = g3 := ⟨_, rfl⟩
  have n03 : Hid (¬ g0 = g3) := Lib.hid (by omega)
  have n13 : Hid (¬ g1 = g3) := Lib.hid (by omega)
  have n23 : Hid (¬ g2 = g3) := Lib.hid (by omega)
  have hG3 : Hid (w4.heap.size ≤ g3 ∧ w.heap.size ≤ g3) := Lib.hid ⟨by omega, by have := kk.hB.size; omega⟩
  have hG2 : Hid (g2 < w3.heap.size) := Lib.hid h23
  rw [hg3] at ke ⊢
  generalize w4.alloc (.cells #[.int .i64 node, .int .u64 th, .bool su, .int .u64 old, .int .u64 g, .int .u64 n, .int .u64 r, .slice As' S cs', .int .u64 a, .int .u64 b, .int .u64 f, .slice At' T ct', .slice Ak' K ck'] 31) = W1 at ke kb kc kd hB hE ⊢
  clear kk hg3 hz4 hz0 hz1 h23 hl2
  have x0 : W1.cell? ⟨g0, 0, none⟩ = some (.int .i64 node) := kb.cell 0
  have x1 : W1.cell? ⟨g0, 1, none⟩ = some (.int .u64 th) := kb.cell 1
  have y3 : W1.cell? ⟨g1, 3, none⟩ = some (.int .u64 mine) := kc.cell 3
  have y4 : W1.cell? ⟨g1, 4, none⟩ = some (.int .u64 yours) := kc.cell 4
  go_upto_region 16 with fail
  clear x0 x1 y3 y4
  have y4 : W1.cell? ⟨g1, 4, none⟩ = some (.int .u64 yours) := kc.cell 4
  go_wp2_with (first | (refine wpList_load_row (by rfl) 31 _ (by rfl) g3 (by rfl) 31 #[.int .i64 node, .int .u64 th, .bool su, .int .u64 old, .int .u64 g, .int .u64 n, .int .u64 r, .slice As' S cs', .int .u64 a, .int .u64 b, .int .u64 f, .slice At' T ct', .slice Ak' K ck'] (0, 0) _ ke Try.underlying31 (by rfl) (by kernel_rfl) ?_) | (refine wpList_store_mid (by rfl) 31 _ _ (by rfl) g2 0 #[.int .i64 node, .int .u64 th, .bool su, .int .u64 old, .int .u64 g, .int .u64 n, .int .u64 r, .slice As' S cs', .int .u64 a, .int .u64 b, .int .u64 f, .slice At' T ct', .slice Ak' K ck'] (by rfl) (by rfl) (Blk.there kd 0 _ (Nat.le_refl 13)) (by kernel_rfl) (by kernel_rfl) ?_))
  refine bodyPost_ret (results_cell3 rfl _ _ g2 31 #[.int .i64 node, .int .u64 th, .bool su, .int .u64 old, .int .u64 g, .int .u64 n, .int .u64 r, .slice As' S cs', .int .u64 a, .int .u64 b, .int .u64 f, .slice At' T ct', .slice Ak' K ck'] (0, 0) _ rfl (kd.setAll rfl) Try.underlying31 (by rfl) (by kernel_rfl)) rfl ?_
  have hF := below_setCells HG.out (Array.toList #[.int .i64 node, .int .u64 th, .bool su, .int .u64 old, .int .u64 g, .int .u64 n, .int .u64 r, .slice As' S cs', .int .u64 a, .int .u64 b, .int .u64 f, .slice At' T ct', .slice Ak' K ck']) 0 hB
  exact ⟨As', cs', At', ct', Ak', ck', rfl, ⟨((RR.out.1.below hE).setCells hG2.out _ 0).low (by have := hW3.out; omega), ((RR.out.2.1.below hE).setCells hG2.out _ 0).low (by have := hW3.out; omega), ((RR.out.2.2.below hE).setCells hG2.out _ 0).low (by have := hW3.out; omega)⟩, hF⟩

set_option maxRecDepth 100000 in
set_option maxHeartbeats 4000000 in
theorem rm_nf (node th old : Int) (su : Bool) (g n r : Int) (SL : List Sl) (S cs : Nat) (As : Option Addr) (a b f : Int) (TL : List Rg) (T ct : Nat) (At : Option Addr) (KL : List Int) (K ck : Nat) (Ak : Option Addr) (kind frm tto mine yours fa fb inode iseq ioff bnode bseq boff dest prio born life total : Int) (data : ByteArray) (boot : Int) (w : World) (PC : ∀ w', Below w.heap.size w w' → Calls Try.prog 21 #[.agg #[.int .i64 node, .int .u64 th, .bool su, .int .u64 old, .int .u64 g, .int .u64 n, .int .u64 r, .slice As S cs, .int .u64 a, .int .u64 b, .int .u64 f, .slice At T ct, .slice Ak K ck]] w' (RetI .i64 0 w')) (BC : ∀ w, Calls Try.prog 42 #[.int .u64 boot] w (RetI .i64 0 w)) (FC : ∀ w, Calls Try.prog 58 #[.agg #[.int .i64 kind, .int .i64 frm, .int .i64 tto, .int .u64 mine, .int .u64 yours, .int .u64 fa, .int .u64 fb, .int .i64 inode, .int .u64 iseq, .int .i64 ioff, .int .i64 bnode, .int .u64 bseq, .int .i64 boff, .int .i64 dest, .int .i64 prio, .int .i64 born, .int .i64 life, .int .i64 total, .string data]] w (RetI .i64 0 w)) (CO : ∀ w', Below w.heap.size w w' → Calls Try.prog 59 #[.agg #[.int .i64 node, .int .u64 th, .bool su, .int .u64 old, .int .u64 g, .int .u64 n, .int .u64 r, .slice As S cs, .int .u64 a, .int .u64 b, .int .u64 f, .slice At T ct, .slice Ak K ck]] w' (fun e w'' => ∃ As' cs' At' ct' Ak' ck', e = .returned (.agg #[.int .i64 node, .int .u64 th, .bool su, .int .u64 old, .int .u64 g, .int .u64 n, .int .u64 r, .slice As' S cs', .int .u64 a, .int .u64 b, .int .u64 f, .slice At' T ct', .slice Ak' K ck']) ∧ (SlsB (w'.heap.size) w'' (.slice As' S cs') SL ∧ RgsB (w'.heap.size) w'' (.slice At' T ct') TL ∧ KpsB (w'.heap.size) w'' (.slice Ak' K ck') KL) ∧ Below w'.heap.size w' w'')) (n1 : (frm != node) = false) (m1 : ¬ mine < th) (m2 : ¬ mine > th) (m3 : decide (th < mine) = false) (y : (yours != boot) = false) :
    Calls Try.prog 19 #[.agg #[.int .i64 node, .int .u64 th, .bool su, .int .u64 old, .int .u64 g, .int .u64 n, .int .u64 r, .slice As S cs, .int .u64 a, .int .u64 b, .int .u64 f, .slice At T ct, .slice Ak K ck], .int .u64 boot, .agg #[.int .i64 kind, .int .i64 frm, .int .i64 tto, .int .u64 mine, .int .u64 yours, .int .u64 fa, .int .u64 fb, .int .i64 inode, .int .u64 iseq, .int .i64 ioff, .int .i64 bnode, .int .u64 bseq, .int .i64 boff, .int .i64 dest, .int .i64 prio, .int .i64 born, .int .i64 life, .int .i64 total, .string data]] w (fun e w' => ∃ As' cs' At' ct' Ak' ck', e = .returned (.tuple #[.agg #[.int .i64 node, .int .u64 th, .bool true, .int .u64 0, .int .u64 g, .int .u64 n, .int .u64 r, .slice As' S cs', .int .u64 a, .int .u64 b, .int .u64 f, .slice At' T ct', .slice Ak' K ck'], .int .i64 3, .bool false, .int .i64 0]) ∧ (SlsB (w.heap.size) w' (.slice As' S cs') SL ∧ RgsB (w.heap.size) w' (.slice At' T ct') TL ∧ KpsB (w.heap.size) w' (.slice Ak' K ck') KL) ∧ Below w.heap.size w w') := by
  have PC' := Lib.hid PC
  clear PC
  have BC' := Lib.hid BC
  clear BC
  have FC' := Lib.hid FC
  clear FC
  have CO' := Lib.hid CO
  clear CO
  go_enter Try.func19, Try.ntmps19
  go_upto_region 1 with fail
  have k0 := (Blk.new w 31 #[.int .i64 node, .int .u64 th, .bool su, .int .u64 old, .int .u64 g, .int .u64 n, .int .u64 r, .slice As S cs, .int .u64 a, .int .u64 b, .int .u64 f, .slice At T ct, .slice Ak K ck]).alloc (.cells #[.int .i64 kind, .int .i64 frm, .int .i64 tto, .int .u64 mine, .int .u64 yours, .int .u64 fa, .int .u64 fb, .int .i64 inode, .int .u64 iseq, .int .i64 ioff, .int .i64 bnode, .int .u64 bseq, .int .i64 boff, .int .i64 dest, .int .i64 prio, .int .i64 born, .int .i64 life, .int .i64 total, .string data] 51)
  have k0 := k0.alloc (.cells #[.int .i64 0, .int .u64 0, .bool false, .int .u64 0, .int .u64 0, .int .u64 0, .int .u64 0, .slice none 0 0, .int .u64 0, .int .u64 0, .int .u64 0, .slice none 0 0, .slice none 0 0] 31)
  have k1 := (Blk.new1 w (.cells #[.int .i64 node, .int .u64 th, .bool su, .int .u64 old, .int .u64 g, .int .u64 n, .int .u64 r, .slice As S cs, .int .u64 a, .int .u64 b, .int .u64 f, .slice At T ct, .slice Ak K ck] 31) 51 #[.int .i64 kind, .int .i64 frm, .int .i64 tto, .int .u64 mine, .int .u64 yours, .int .u64 fa, .int .u64 fb, .int .i64 inode, .int .u64 iseq, .int .i64 ioff, .int .i64 bnode, .int .u64 bseq, .int .i64 boff, .int .i64 dest, .int .i64 prio, .int .i64 born, .int .i64 life, .int .i64 total, .string data]).alloc (.cells #[.int .i64 0, .int .u64 0, .bool false, .int .u64 0, .int .u64 0, .int .u64 0, .int .u64 0, .slice none 0 0, .int .u64 0, .int .u64 0, .int .u64 0, .slice none 0 0, .slice none 0 0] 31)
  have k2 := Blk.new2 w (.cells #[.int .i64 node, .int .u64 th, .bool su, .int .u64 old, .int .u64 g, .int .u64 n, .int .u64 r, .slice As S cs, .int .u64 a, .int .u64 b, .int .u64 f, .slice At T ct, .slice Ak K ck] 31) (.cells #[.int .i64 kind, .int .i64 frm, .int .i64 tto, .int .u64 mine, .int .u64 yours, .int .u64 fa, .int .u64 fb, .int .i64 inode, .int .u64 iseq, .int .i64 ioff, .int .i64 bnode, .int .u64 bseq, .int .i64 boff, .int .i64 dest, .int .i64 prio, .int .i64 born, .int .i64 life, .int .i64 total, .string data] 51) 31 #[.int .i64 0, .int .u64 0, .bool false, .int .u64 0, .int .u64 0, .int .u64 0, .int .u64 0, .slice none 0 0, .int .u64 0, .int .u64 0, .int .u64 0, .slice none 0 0, .slice none 0 0]
  have hB := bal (bal (bal (Below.refl w.heap.size w) (.cells #[.int .i64 node, .int .u64 th, .bool su, .int .u64 old, .int .u64 g, .int .u64 n, .int .u64 r, .slice As S cs, .int .u64 a, .int .u64 b, .int .u64 f, .slice At T ct, .slice Ak K ck] 31)) (.cells #[.int .i64 kind, .int .i64 frm, .int .i64 tto, .int .u64 mine, .int .u64 yours, .int .u64 fa, .int .u64 fb, .int .i64 inode, .int .u64 iseq, .int .i64 ioff, .int .i64 bnode, .int .u64 bseq, .int .i64 boff, .int .i64 dest, .int .i64 prio, .int .i64 born, .int .i64 life, .int .i64 total, .string data] 51)) (.cells #[.int .i64 0, .int .u64 0, .bool false, .int .u64 0, .int .u64 0, .int .u64 0, .int .u64 0, .slice none 0 0, .int .u64 0, .int .u64 0, .int .u64 0, .slice none 0 0, .slice none 0 0] 31)
  have k3 : BK3 w w.heap.size 31 #[.int .i64 node, .int .u64 th, .bool su, .int .u64 old, .int .u64 g, .int .u64 n, .int .u64 r, .slice As S cs, .int .u64 a, .int .u64 b, .int .u64 f, .slice At T ct, .slice Ak K ck] (w.heap.size + 1) 51 #[.int .i64 kind, .int .i64 frm, .int .i64 tto, .int .u64 mine, .int .u64 yours, .int .u64 fa, .int .u64 fb, .int .i64 inode, .int .u64 iseq, .int .i64 ioff, .int .i64 bnode, .int .u64 bseq, .int .i64 boff, .int .i64 dest, .int .i64 prio, .int .i64 born, .int .i64 life, .int .i64 total, .string data] (w.heap.size + 1 + 1) 31 #[.int .i64 0, .int .u64 0, .bool false, .int .u64 0, .int .u64 0, .int .u64 0, .int .u64 0, .slice none 0 0, .int .u64 0, .int .u64 0, .int .u64 0, .slice none 0 0, .slice none 0 0] _ := ⟨k0, k1, k2, hB⟩
  clear k0 k1 k2 hB
  generalize hW : ((w.alloc (.cells #[.int .i64 node, .int .u64 th, .bool su, .int .u64 old, .int .u64 g, .int .u64 n, .int .u64 r, .slice As S cs, .int .u64 a, .int .u64 b, .int .u64 f, .slice At T ct, .slice Ak K ck] 31)).alloc (.cells #[.int .i64 kind, .int .i64 frm, .int .i64 tto, .int .u64 mine, .int .u64 yours, .int .u64 fa, .int .u64 fb, .int .i64 inode, .int .u64 iseq, .int .i64 ioff, .int .i64 bnode, .int .u64 bseq, .int .i64 boff, .int .i64 dest, .int .i64 prio, .int .i64 born, .int .i64 life, .int .i64 total, .string data] 51)).alloc (.cells #[.int .i64 0, .int .u64 0, .bool false, .int .u64 0, .int .u64 0, .int .u64 0, .int .u64 0, .slice none 0 0, .int .u64 0, .int .u64 0, .int .u64 0, .slice none 0 0, .slice none 0 0] 31) = W at k3 ⊢
  clear hW
  obtain ⟨g2, hg2⟩ : ∃ g2, w.heap.size + 1 + 1 = g2 := ⟨_, rfl⟩
  obtain ⟨g1, hg1⟩ : ∃ g1, w.heap.size + 1 = g1 := ⟨_, rfl⟩
  have HG : Hid (w.heap.size ≤ g2) := Lib.hid (by omega)
  obtain ⟨g0, hg0⟩ : ∃ g0, w.heap.size = g0 := ⟨_, rfl⟩
  have n02 : Hid (¬ g0 = g2) := Lib.hid (by omega)
  have n12 : Hid (¬ g1 = g2) := Lib.hid (by omega)
  rw [hg2] at k3 ⊢
  rw [hg1] at k3 ⊢
  rw [hg0] at k3 ⊢
  clear hg2 hg1 hg0
  have kb := k3.b
  have kc := k3.c
  have kd := k3.d
  have K1 := Lib.hid k3
  clear k3
  go_wp2_with (first | (refine wpList_load_row (by rfl) 31 _ (by rfl) g0 (by rfl) 31 #[.int .i64 node, .int .u64 th, .bool su, .int .u64 old, .int .u64 g, .int .u64 n, .int .u64 r, .slice As S cs, .int .u64 a, .int .u64 b, .int .u64 f, .slice At T ct, .slice Ak K ck] (0, 0) _ kb Try.underlying31 (by rfl) (by kernel_rfl) ?_) | (refine wpList_load_row (by rfl) 51 _ (by rfl) g1 (by rfl) 51 #[.int .i64 kind, .int .i64 frm, .int .i64 tto, .int .u64 mine, .int .u64 yours, .int .u64 fa, .int .u64 fb, .int .i64 inode, .int .u64 iseq, .int .i64 ioff, .int .i64 bnode, .int .u64 bseq, .int .i64 boff, .int .i64 dest, .int .i64 prio, .int .i64 born, .int .i64 life, .int .i64 total, .string data] (0, 0) _ kc Try.underlying51 (by rfl) (by kernel_rfl) ?_) | (refine wpList_store_mid (by rfl) 31 _ _ (by rfl) g2 0 #[.int .i64 0, .int .u64 0, .bool false, .int .u64 0, .int .u64 0, .int .u64 0, .int .u64 0, .slice none 0 0, .int .u64 0, .int .u64 0, .int .u64 0, .slice none 0 0, .slice none 0 0] (by rfl) (by rfl) (Blk.there kd 0 _ (Nat.le_refl 13)) (by kernel_rfl) (by kernel_rfl) ?_))
  refine (PC'.out _ K1.out.hB).mono ?_
  rintro e w1 ⟨rfl, hb⟩
  have kk := K1.out.below hb
  clear K1 kb kc kd hb
  have kb := kk.b
  have kc := kk.c
  have kd := kk.d
  have hl0 := kb.lt
  have hl1 := kc.lt
  have hl2 := kd.lt
  have K1 := Lib.hid kk
  clear kk
  go_wp2_with (first | (refine wpList_load_row (by rfl) 31 _ (by rfl) g0 (by rfl) 31 #[.int .i64 node, .int .u64 th, .bool su, .int .u64 old, .int .u64 g, .int .u64 n, .int .u64 r, .slice As S cs, .int .u64 a, .int .u64 b, .int .u64 f, .slice At T ct, .slice Ak K ck] (0, 0) _ kb Try.underlying31 (by rfl) (by kernel_rfl) ?_) | (refine wpList_load_row (by rfl) 51 _ (by rfl) g1 (by rfl) 51 #[.int .i64 kind, .int .i64 frm, .int .i64 tto, .int .u64 mine, .int .u64 yours, .int .u64 fa, .int .u64 fb, .int .i64 inode, .int .u64 iseq, .int .i64 ioff, .int .i64 bnode, .int .u64 bseq, .int .i64 boff, .int .i64 dest, .int .i64 prio, .int .i64 born, .int .i64 life, .int .i64 total, .string data] (0, 0) _ kc Try.underlying51 (by rfl) (by kernel_rfl) ?_) | (refine wpList_store_mid (by rfl) 31 _ _ (by rfl) g2 0 #[.int .i64 0, .int .u64 0, .bool false, .int .u64 0, .int .u64 0, .int .u64 0, .int .u64 0, .slice none 0 0, .int .u64 0, .int .u64 0, .int .u64 0, .slice none 0 0, .slice none 0 0] (by rfl) (by rfl) (Blk.there kd 0 _ (Nat.le_refl 13)) (by kernel_rfl) (by kernel_rfl) ?_))
  refine (BC'.out _).mono ?_
  rintro e w2 ⟨rfl, hb⟩
  have kk := K1.out.below hb
  clear K1 kb kc kd hb
  have kb := kk.b
  have kc := kk.c
  have kd := kk.d
  have hl0 := kb.lt
  have hl1 := kc.lt
  have hl2 := kd.lt
  have K1 := Lib.hid kk
  clear kk
  go_wp2_with (first | (refine wpList_load_row (by rfl) 31 _ (by rfl) g0 (by rfl) 31 #[.int .i64 node, .int .u64 th, .bool su, .int .u64 old, .int .u64 g, .int .u64 n, .int .u64 r, .slice As S cs, .int .u64 a, .int .u64 b, .int .u64 f, .slice At T ct, .slice Ak K ck] (0, 0) _ kb Try.underlying31 (by rfl) (by kernel_rfl) ?_) | (refine wpList_load_row (by rfl) 51 _ (by rfl) g1 (by rfl) 51 #[.int .i64 kind, .int .i64 frm, .int .i64 tto, .int .u64 mine, .int .u64 yours, .int .u64 fa, .int .u64 fb, .int .i64 inode, .int .u64 iseq, .int .i64 ioff, .int .i64 bnode, .int .u64 bseq, .int .i64 boff, .int .i64 dest, .int .i64 prio, .int .i64 born, .int .i64 life, .int .i64 total, .string data] (0, 0) _ kc Try.underlying51 (by rfl) (by kernel_rfl) ?_) | (refine wpList_store_mid (by rfl) 31 _ _ (by rfl) g2 0 #[.int .i64 0, .int .u64 0, .bool false, .int .u64 0, .int .u64 0, .int .u64 0, .int .u64 0, .slice none 0 0, .int .u64 0, .int .u64 0, .int .u64 0, .slice none 0 0, .slice none 0 0] (by rfl) (by rfl) (Blk.there kd 0 _ (Nat.le_refl 13)) (by kernel_rfl) (by kernel_rfl) ?_))
  refine (FC'.out _).mono ?_
  rintro e w3 ⟨rfl, hb⟩
  have kk := K1.out.below hb
  clear K1 kb kc kd hb
  have kb := kk.b
  have kc := kk.c
  have kd := kk.d
  have hl0 := kb.lt
  have hl1 := kc.lt
  have hl2 := kd.lt
  have K1 := Lib.hid kk
  clear kk
  have x0 : w3.cell? ⟨g0, 0, none⟩ = some (.int .i64 node) := kb.cell 0
  have x1 : w3.cell? ⟨g0, 1, none⟩ = some (.int .u64 th) := kb.cell 1
  have y1 : w3.cell? ⟨g1, 1, none⟩ = some (.int .i64 frm) := kc.cell 1
  go_wp2_with (first | (refine wpList_load_row (by rfl) 31 _ (by rfl) g0 (by rfl) 31 #[.int .i64 node, .int .u64 th, .bool su, .int .u64 old, .int .u64 g, .int .u64 n, .int .u64 r, .slice As S cs, .int .u64 a, .int .u64 b, .int .u64 f, .slice At T ct, .slice Ak K ck] (0, 0) _ kb Try.underlying31 (by rfl) (by kernel_rfl) ?_) | (refine wpList_load_row (by rfl) 51 _ (by rfl) g1 (by rfl) 51 #[.int .i64 kind, .int .i64 frm, .int .i64 tto, .int .u64 mine, .int .u64 yours, .int .u64 fa, .int .u64 fb, .int .i64 inode, .int .u64 iseq, .int .i64 ioff, .int .i64 bnode, .int .u64 bseq, .int .i64 boff, .int .i64 dest, .int .i64 prio, .int .i64 born, .int .i64 life, .int .i64 total, .string data] (0, 0) _ kc Try.underlying51 (by rfl) (by kernel_rfl) ?_) | (refine wpList_store_mid (by rfl) 31 _ _ (by rfl) g2 0 #[.int .i64 0, .int .u64 0, .bool false, .int .u64 0, .int .u64 0, .int .u64 0, .int .u64 0, .slice none 0 0, .int .u64 0, .int .u64 0, .int .u64 0, .slice none 0 0, .slice none 0 0] (by rfl) (by rfl) (Blk.there kd 0 _ (Nat.le_refl 13)) (by kernel_rfl) (by kernel_rfl) ?_))
  refine (CO'.out _ K1.out.hB).mono ?_
  rintro e w4 ⟨As', cs', At', ct', Ak', ck', rfl, ⟨Rs, Rt, Rk⟩, hb⟩
  have kk := K1.out.below hb
  have h23 : g2 < w3.heap.size := hl2
  have hW3 : Hid (w.heap.size ≤ w3.heap.size) := Lib.hid K1.out.hB.size
  have RR : Hid (SlsB (w3.heap.size) w4 (.slice As' S cs') SL ∧ RgsB (w3.heap.size) w4 (.slice At' T ct') TL ∧ KpsB (w3.heap.size) w4 (.slice Ak' K ck') KL) := Lib.hid ⟨Rs, Rt, Rk⟩
  clear K1 kb kc kd hb x0 x1 y1 hl0 hl1 Rs Rt Rk
  go_upto_region 11 with (first | (refine wpList_alloc_z (by rfl) 31 (by rfl) _ rfl #[.int .i64 0, .int .u64 0, .bool false, .int .u64 0, .int .u64 0, .int .u64 0, .int .u64 0, .slice none 0 0, .int .u64 0, .int .u64 0, .int .u64 0, .slice none 0 0, .slice none 0 0] (fun w => by kernel_rfl) ?_) | (refine wpList_store_new (by rfl) 31 _ _ (by rfl) w4 #[.int .i64 0, .int .u64 0, .bool false, .int .u64 0, .int .u64 0, .int .u64 0, .int .u64 0, .slice none 0 0, .int .u64 0, .int .u64 0, .int .u64 0, .slice none 0 0, .slice none 0 0] #[.int .i64 node, .int .u64 th, .bool su, .int .u64 old, .int .u64 g, .int .u64 n, .int .u64 r, .slice As' S cs', .int .u64 a, .int .u64 b, .int .u64 f, .slice At' T ct', .slice Ak' K ck'] rfl (by rfl) (by rfl) (by kernel_rfl) rfl (by kernel_rfl) ?_))
  have ke := Blk.new w4 31 #[.int .i64 node, .int .u64 th, .bool su, .int .u64 old, .int .u64 g, .int .u64 n, .int .u64 r, .slice As' S cs', .int .u64 a, .int .u64 b, .int .u64 f, .slice At' T ct', .slice Ak' K ck']
  have kb := kk.b.alloc (.cells #[.int .i64 node, .int .u64 th, .bool su, .int .u64 old, .int .u64 g, .int .u64 n, .int .u64 r, .slice As' S cs', .int .u64 a, .int .u64 b, .int .u64 f, .slice At' T ct', .slice Ak' K ck'] 31)
  have kc := kk.c.alloc (.cells #[.int .i64 node, .int .u64 th, .bool su, .int .u64 old, .int .u64 g, .int .u64 n, .int .u64 r, .slice As' S cs', .int .u64 a, .int .u64 b, .int .u64 f, .slice At' T ct', .slice Ak' K ck'] 31)
  have kd := kk.d.alloc (.cells #[.int .i64 node, .int .u64 th, .bool su, .int .u64 old, .int .u64 g, .int .u64 n, .int .u64 r, .slice As' S cs', .int .u64 a, .int .u64 b, .int .u64 f, .slice At' T ct', .slice Ak' K ck'] 31)
  have hB := bal kk.hB (.cells #[.int .i64 node, .int .u64 th, .bool su, .int .u64 old, .int .u64 g, .int .u64 n, .int .u64 r, .slice As' S cs', .int .u64 a, .int .u64 b, .int .u64 f, .slice At' T ct', .slice Ak' K ck'] 31)
  have hE := bal (Below.refl w4.heap.size w4) (.cells #[.int .i64 node, .int .u64 th, .bool su, .int .u64 old, .int .u64 g, .int .u64 n, .int .u64 r, .slice As' S cs', .int .u64 a, .int .u64 b, .int .u64 f, .slice At' T ct', .slice Ak' K ck'] 31)
  have hz4 := kk.d.lt
  have hz0 := kk.b.lt
  have hz1 := kk.c.lt
  obtain ⟨g3, hg3⟩ : ∃ g3, w4.heap.size = g3 := ⟨_, rfl⟩
  have n03 : Hid (¬ g0 = g3) := Lib.hid (by omega)
  have n13 : Hid (¬ g1 = g3) := Lib.hid (by omega)
  have n23 : Hid (¬ g2 = g3) := Lib.hid (by omega)
  have hG3 : Hid (w4.heap.size ≤ g3 ∧ w.heap.size ≤ g3) := Lib.hid ⟨by omega, by have := kk.hB.size; omega⟩
  have hG2 : Hid (g2 < w3.heap.size) := Lib.hid h23
  rw [hg3] at ke ⊢
  generalize w4.alloc (.cells #[.int .i64 node, .int .u64 th, .bool su, .int .u64 old, .int .u64 g, .int .u64 n, .int .u64 r, .slice As' S cs', .int .u64 a, .int .u64 b, .int .u64 f, .slice At' T ct', .slice Ak' K ck'] 31) = W1 at ke kb kc kd hB hE ⊢
  clear kk hg3 hz4 hz0 hz1 h23 hl2
  have x0 : W1.cell? ⟨g0, 0, none⟩ = some (.int .i64 node) := kb.cell 0
  have x1 : W1.cell? ⟨g0, 1, none⟩ = some (.int .u64 th) := kb.cell 1
  have y3 : W1.cell? ⟨g1, 3, none⟩ = some (.int .u64 mine) := kc.cell 3
  have y4 : W1.cell? ⟨g1, 4, none⟩ = some (.int .u64 yours) := kc.cell 4
  go_upto_region 16 with fail
  clear x0 x1 y3 y4
  have y4 : W1.cell? ⟨g1, 4, none⟩ = some (.int .u64 yours) := kc.cell 4
  have z2 : W1.cell? ⟨g3, 2, none⟩ = some (.bool su) := ke.cell 2
  have z3 : W1.cell? ⟨g3, 3, none⟩ = some (.int .u64 old) := ke.cell 3
  have q2 : W1.frozen? ⟨g3, 2, none⟩ = false := ke.frozen 2
  have q3 : W1.frozen? ⟨g3, 3, none⟩ = false := ke.frozen 3
  go_upto_region 20 with fail
  replace ke : Blk ((W1.setCell ⟨g3, 2, none⟩ (.bool true)).setCell ⟨g3, 3, none⟩ (.int .u64 0)) g3 31 #[.int .i64 node, .int .u64 th, .bool true, .int .u64 0, .int .u64 g, .int .u64 n, .int .u64 r, .slice As' S cs', .int .u64 a, .int .u64 b, .int .u64 f, .slice At' T ct', .slice Ak' K ck'] := (ke.set 2 (.bool true)).set 3 (.int .u64 0)
  replace kd := (kd.far (p := ⟨g3, 2, none⟩) n23.out (.bool true)).far (p := ⟨g3, 3, none⟩) n23.out (.int .u64 0)
  replace hB := (hB.setCell (p := ⟨g3, 2, none⟩) hG3.out.2 (.bool true)).setCell (p := ⟨g3, 3, none⟩) hG3.out.2 (.int .u64 0)
  replace hE := (hE.setCell (p := ⟨g3, 2, none⟩) hG3.out.1 (.bool true)).setCell (p := ⟨g3, 3, none⟩) hG3.out.1 (.int .u64 0)
  clear z2 z3 q2 q3 kb kc y4
  generalize (W1.setCell ⟨g3, 2, none⟩ (.bool true)).setCell ⟨g3, 3, none⟩ (.int .u64 0) = W9 at ke kd hB hE ⊢
  go_wp2_with (first | (refine wpList_load_row (by rfl) 31 _ (by rfl) g3 (by rfl) 31 #[.int .i64 node, .int .u64 th, .bool true, .int .u64 0, .int .u64 g, .int .u64 n, .int .u64 r, .slice As' S cs', .int .u64 a, .int .u64 b, .int .u64 f, .slice At' T ct', .slice Ak' K ck'] (0, 0) _ ke Try.underlying31 (by rfl) (by kernel_rfl) ?_) | (refine wpList_store_mid (by rfl) 31 _ _ (by rfl) g2 0 #[.int .i64 node, .int .u64 th, .bool true, .int .u64 0, .int .u64 g, .int .u64 n, .int .u64 r, .slice As' S cs', .int .u64 a, .int .u64 b, .int .u64 f, .slice At' T ct', .slice Ak' K ck'] (by rfl) (by rfl) (Blk.there kd 0 _ (Nat.le_refl 13)) (by kernel_rfl) (by kernel_rfl) ?_))
  refine bodyPost_ret (results_cell3 rfl _ _ g2 31 #[.int .i64 node, .int .u64 th, .bool true, .int .u64 0, .int .u64 g, .int .u64 n, .int .u64 r, .slice As' S cs', .int .u64 a, .int .u64 b, .int .u64 f, .slice At' T ct', .slice Ak' K ck'] (0, 0) _ rfl (kd.setAll rfl) Try.underlying31 (by rfl) (by kernel_rfl)) rfl ?_
  have hF := below_setCells HG.out (Array.toList #[.int .i64 node, .int .u64 th, .bool true, .int .u64 0, .int .u64 g, .int .u64 n, .int .u64 r, .slice As' S cs', .int .u64 a, .int .u64 b, .int .u64 f, .slice At' T ct', .slice Ak' K ck']) 0 hB
  exact ⟨As', cs', At', ct', Ak', ck', rfl, ⟨((RR.out.1.below hE).setCells hG2.out _ 0).low (by have := hW3.out; omega), ((RR.out.2.1.below hE).setCells hG2.out _ 0).low (by have := hW3.out; omega), ((RR.out.2.2.below hE).setCells hG2.out _ 0).low (by have := hW3.out; omega)⟩, hF⟩

set_option maxRecDepth 100000 in
set_option maxHeartbeats 4000000 in
theorem rm_lu (node th old : Int) (su : Bool) (g n r : Int) (SL : List Sl) (S cs : Nat) (As : Option Addr) (a b f : Int) (TL : List Rg) (T ct : Nat) (At : Option Addr) (KL : List Int) (K ck : Nat) (Ak : Option Addr) (kind frm tto mine yours fa fb inode iseq ioff bnode bseq boff dest prio born life total : Int) (data : ByteArray) (boot : Int) (w : World) (PC : ∀ w', Below w.heap.size w w' → Calls Try.prog 21 #[.agg #[.int .i64 node, .int .u64 th, .bool su, .int .u64 old, .int .u64 g, .int .u64 n, .int .u64 r, .slice As S cs, .int .u64 a, .int .u64 b, .int .u64 f, .slice At T ct, .slice Ak K ck]] w' (RetI .i64 0 w')) (BC : ∀ w, Calls Try.prog 42 #[.int .u64 boot] w (RetI .i64 0 w)) (FC : ∀ w, Calls Try.prog 58 #[.agg #[.int .i64 kind, .int .i64 frm, .int .i64 tto, .int .u64 mine, .int .u64 yours, .int .u64 fa, .int .u64 fb, .int .i64 inode, .int .u64 iseq, .int .i64 ioff, .int .i64 bnode, .int .u64 bseq, .int .i64 boff, .int .i64 dest, .int .i64 prio, .int .i64 born, .int .i64 life, .int .i64 total, .string data]] w (RetI .i64 0 w)) (CO : ∀ w', Below w.heap.size w w' → Calls Try.prog 59 #[.agg #[.int .i64 node, .int .u64 th, .bool su, .int .u64 old, .int .u64 g, .int .u64 n, .int .u64 r, .slice As S cs, .int .u64 a, .int .u64 b, .int .u64 f, .slice At T ct, .slice Ak K ck]] w' (fun e w'' => ∃ As' cs' At' ct' Ak' ck', e = .returned (.agg #[.int .i64 node, .int .u64 th, .bool su, .int .u64 old, .int .u64 g, .int .u64 n, .int .u64 r, .slice As' S cs', .int .u64 a, .int .u64 b, .int .u64 f, .slice At' T ct', .slice Ak' K ck']) ∧ (SlsB (w'.heap.size) w'' (.slice As' S cs') SL ∧ RgsB (w'.heap.size) w'' (.slice At' T ct') TL ∧ KpsB (w'.heap.size) w'' (.slice Ak' K ck') KL) ∧ Below w'.heap.size w' w'')) (n1 : (frm != node) = false) (m1 : ¬ mine < th) (m2 : mine > th) (y : (yours != boot) = true) :
    Calls Try.prog 19 #[.agg #[.int .i64 node, .int .u64 th, .bool su, .int .u64 old, .int .u64 g, .int .u64 n, .int .u64 r, .slice As S cs, .int .u64 a, .int .u64 b, .int .u64 f, .slice At T ct, .slice Ak K ck], .int .u64 boot, .agg #[.int .i64 kind, .int .i64 frm, .int .i64 tto, .int .u64 mine, .int .u64 yours, .int .u64 fa, .int .u64 fb, .int .i64 inode, .int .u64 iseq, .int .i64 ioff, .int .i64 bnode, .int .u64 bseq, .int .i64 boff, .int .i64 dest, .int .i64 prio, .int .i64 born, .int .i64 life, .int .i64 total, .string data]] w (fun e w' => e = .returned (.tuple #[.agg #[.int .i64 node, .int .u64 mine, .bool false, .int .u64 0, .int .u64 0, .int .u64 0, .int .u64 0, .slice none 0 0, .int .u64 0, .int .u64 0, .int .u64 0, .slice none 0 0, .slice none 0 0], .int .i64 2, .bool true, .int .i64 0]) ∧ Below w.heap.size w w') := by
  have PC' := Lib.hid PC
  clear PC
  have BC' := Lib.hid BC
  clear BC
  have FC' := Lib.hid FC
  clear FC
  have CO' := Lib.hid CO
  clear CO
  go_enter Try.func19, Try.ntmps19
  go_upto_region 1 with fail
  have k0 := (Blk.new w 31 #[.int .i64 node, .int .u64 th, .bool su, .int .u64 old, .int .u64 g, .int .u64 n, .int .u64 r, .slice As S cs, .int .u64 a, .int .u64 b, .int .u64 f, .slice At T ct, .slice Ak K ck]).alloc (.cells #[.int .i64 kind, .int .i64 frm, .int .i64 tto, .int .u64 mine, .int .u64 yours, .int .u64 fa, .int .u64 fb, .int .i64 inode, .int .u64 iseq, .int .i64 ioff, .int .i64 bnode, .int .u64 bseq, .int .i64 boff, .int .i64 dest, .int .i64 prio, .int .i64 born, .int .i64 life, .int .i64 total, .string data] 51)
  have k0 := k0.alloc (.cells #[.int .i64 0, .int .u64 0, .bool false, .int .u64 0, .int .u64 0, .int .u64 0, .int .u64 0, .slice none 0 0, .int .u64 0, .int .u64 0, .int .u64 0, .slice none 0 0, .slice none 0 0] 31)
  have k1 := (Blk.new1 w (.cells #[.int .i64 node, .int .u64 th, .bool su, .int .u64 old, .int .u64 g, .int .u64 n, .int .u64 r, .slice As S cs, .int .u64 a, .int .u64 b, .int .u64 f, .slice At T ct, .slice Ak K ck] 31) 51 #[.int .i64 kind, .int .i64 frm, .int .i64 tto, .int .u64 mine, .int .u64 yours, .int .u64 fa, .int .u64 fb, .int .i64 inode, .int .u64 iseq, .int .i64 ioff, .int .i64 bnode, .int .u64 bseq, .int .i64 boff, .int .i64 dest, .int .i64 prio, .int .i64 born, .int .i64 life, .int .i64 total, .string data]).alloc (.cells #[.int .i64 0, .int .u64 0, .bool false, .int .u64 0, .int .u64 0, .int .u64 0, .int .u64 0, .slice none 0 0, .int .u64 0, .int .u64 0, .int .u64 0, .slice none 0 0, .slice none 0 0] 31)
  have k2 := Blk.new2 w (.cells #[.int .i64 node, .int .u64 th, .bool su, .int .u64 old, .int .u64 g, .int .u64 n, .int .u64 r, .slice As S cs, .int .u64 a, .int .u64 b, .int .u64 f, .slice At T ct, .slice Ak K ck] 31) (.cells #[.int .i64 kind, .int .i64 frm, .int .i64 tto, .int .u64 mine, .int .u64 yours, .int .u64 fa, .int .u64 fb, .int .i64 inode, .int .u64 iseq, .int .i64 ioff, .int .i64 bnode, .int .u64 bseq, .int .i64 boff, .int .i64 dest, .int .i64 prio, .int .i64 born, .int .i64 life, .int .i64 total, .string data] 51) 31 #[.int .i64 0, .int .u64 0, .bool false, .int .u64 0, .int .u64 0, .int .u64 0, .int .u64 0, .slice none 0 0, .int .u64 0, .int .u64 0, .int .u64 0, .slice none 0 0, .slice none 0 0]
  have hB := bal (bal (bal (Below.refl w.heap.size w) (.cells #[.int .i64 node, .int .u64 th, .bool su, .int .u64 old, .int .u64 g, .int .u64 n, .int .u64 r, .slice As S cs, .int .u64 a, .int .u64 b, .int .u64 f, .slice At T ct, .slice Ak K ck] 31)) (.cells #[.int .i64 kind, .int .i64 frm, .int .i64 tto, .int .u64 mine, .int .u64 yours, .int .u64 fa, .int .u64 fb, .int .i64 inode, .int .u64 iseq, .int .i64 ioff, .int .i64 bnode, .int .u64 bseq, .int .i64 boff, .int .i64 dest, .int .i64 prio, .int .i64 born, .int .i64 life, .int .i64 total, .string data] 51)) (.cells #[.int .i64 0, .int .u64 0, .bool false, .int .u64 0, .int .u64 0, .int .u64 0, .int .u64 0, .slice none 0 0, .int .u64 0, .int .u64 0, .int .u64 0, .slice none 0 0, .slice none 0 0] 31)
  have k3 : BK3 w w.heap.size 31 #[.int .i64 node, .int .u64 th, .bool su, .int .u64 old, .int .u64 g, .int .u64 n, .int .u64 r, .slice As S cs, .int .u64 a, .int .u64 b, .int .u64 f, .slice At T ct, .slice Ak K ck] (w.heap.size + 1) 51 #[.int .i64 kind, .int .i64 frm, .int .i64 tto, .int .u64 mine, .int .u64 yours, .int .u64 fa, .int .u64 fb, .int .i64 inode, .int .u64 iseq, .int .i64 ioff, .int .i64 bnode, .int .u64 bseq, .int .i64 boff, .int .i64 dest, .int .i64 prio, .int .i64 born, .int .i64 life, .int .i64 total, .string data] (w.heap.size + 1 + 1) 31 #[.int .i64 0, .int .u64 0, .bool false, .int .u64 0, .int .u64 0, .int .u64 0, .int .u64 0, .slice none 0 0, .int .u64 0, .int .u64 0, .int .u64 0, .slice none 0 0, .slice none 0 0] _ := ⟨k0, k1, k2, hB⟩
  clear k0 k1 k2 hB
  generalize hW : ((w.alloc (.cells #[.int .i64 node, .int .u64 th, .bool su, .int .u64 old, .int .u64 g, .int .u64 n, .int .u64 r, .slice As S cs, .int .u64 a, .int .u64 b, .int .u64 f, .slice At T ct, .slice Ak K ck] 31)).alloc (.cells #[.int .i64 kind, .int .i64 frm, .int .i64 tto, .int .u64 mine, .int .u64 yours, .int .u64 fa, .int .u64 fb, .int .i64 inode, .int .u64 iseq, .int .i64 ioff, .int .i64 bnode, .int .u64 bseq, .int .i64 boff, .int .i64 dest, .int .i64 prio, .int .i64 born, .int .i64 life, .int .i64 total, .string data] 51)).alloc (.cells #[.int .i64 0, .int .u64 0, .bool false, .int .u64 0, .int .u64 0, .int .u64 0, .int .u64 0, .slice none 0 0, .int .u64 0, .int .u64 0, .int .u64 0, .slice none 0 0, .slice none 0 0] 31) = W at k3 ⊢
  clear hW
  obtain ⟨g2, hg2⟩ : ∃ g2, w.heap.size + 1 + 1 = g2 := ⟨_, rfl⟩
  obtain ⟨g1, hg1⟩ : ∃ g1, w.heap.size + 1 = g1 := ⟨_, rfl⟩
  have HG : Hid (w.heap.size ≤ g2) := Lib.hid (by omega)
  obtain ⟨g0, hg0⟩ : ∃ g0, w.heap.size = g0 := ⟨_, rfl⟩
  have n02 : Hid (¬ g0 = g2) := Lib.hid (by omega)
  have n12 : Hid (¬ g1 = g2) := Lib.hid (by omega)
  rw [hg2] at k3 ⊢
  rw [hg1] at k3 ⊢
  rw [hg0] at k3 ⊢
  clear hg2 hg1 hg0
  have kb := k3.b
  have kc := k3.c
  have kd := k3.d
  have K1 := Lib.hid k3
  clear k3
  go_wp2_with (first | (refine wpList_load_row (by rfl) 31 _ (by rfl) g0 (by rfl) 31 #[.int .i64 node, .int .u64 th, .bool su, .int .u64 old, .int .u64 g, .int .u64 n, .int .u64 r, .slice As S cs, .int .u64 a, .int .u64 b, .int .u64 f, .slice At T ct, .slice Ak K ck] (0, 0) _ kb Try.underlying31 (by rfl) (by kernel_rfl) ?_) | (refine wpList_load_row (by rfl) 51 _ (by rfl) g1 (by rfl) 51 #[.int .i64 kind, .int .i64 frm, .int .i64 tto, .int .u64 mine, .int .u64 yours, .int .u64 fa, .int .u64 fb, .int .i64 inode, .int .u64 iseq, .int .i64 ioff, .int .i64 bnode, .int .u64 bseq, .int .i64 boff, .int .i64 dest, .int .i64 prio, .int .i64 born, .int .i64 life, .int .i64 total, .string data] (0, 0) _ kc Try.underlying51 (by rfl) (by kernel_rfl) ?_) | (refine wpList_store_mid (by rfl) 31 _ _ (by rfl) g2 0 #[.int .i64 0, .int .u64 0, .bool false, .int .u64 0, .int .u64 0, .int .u64 0, .int .u64 0, .slice none 0 0, .int .u64 0, .int .u64 0, .int .u64 0, .slice none 0 0, .slice none 0 0] (by rfl) (by rfl) (Blk.there kd 0 _ (Nat.le_refl 13)) (by kernel_rfl) (by kernel_rfl) ?_))
  refine (PC'.out _ K1.out.hB).mono ?_
  rintro e w1 ⟨rfl, hb⟩
  have kk := K1.out.below hb
  clear K1 kb kc kd hb
  have kb := kk.b
  have kc := kk.c
  have kd := kk.d
  have hl0 := kb.lt
  have hl1 := kc.lt
  have hl2 := kd.lt
  have K1 := Lib.hid kk
  clear kk
  go_wp2_with (first | (refine wpList_load_row (by rfl) 31 _ (by rfl) g0 (by rfl) 31 #[.int .i64 node, .int .u64 th, .bool su, .int .u64 old, .int .u64 g, .int .u64 n, .int .u64 r, .slice As S cs, .int .u64 a, .int .u64 b, .int .u64 f, .slice At T ct, .slice Ak K ck] (0, 0) _ kb Try.underlying31 (by rfl) (by kernel_rfl) ?_) | (refine wpList_load_row (by rfl) 51 _ (by rfl) g1 (by rfl) 51 #[.int .i64 kind, .int .i64 frm, .int .i64 tto, .int .u64 mine, .int .u64 yours, .int .u64 fa, .int .u64 fb, .int .i64 inode, .int .u64 iseq, .int .i64 ioff, .int .i64 bnode, .int .u64 bseq, .int .i64 boff, .int .i64 dest, .int .i64 prio, .int .i64 born, .int .i64 life, .int .i64 total, .string data] (0, 0) _ kc Try.underlying51 (by rfl) (by kernel_rfl) ?_) | (refine wpList_store_mid (by rfl) 31 _ _ (by rfl) g2 0 #[.int .i64 0, .int .u64 0, .bool false, .int .u64 0, .int .u64 0, .int .u64 0, .int .u64 0, .slice none 0 0, .int .u64 0, .int .u64 0, .int .u64 0, .slice none 0 0, .slice none 0 0] (by rfl) (by rfl) (Blk.there kd 0 _ (Nat.le_refl 13)) (by kernel_rfl) (by kernel_rfl) ?_))
  refine (BC'.out _).mono ?_
  rintro e w2 ⟨rfl, hb⟩
  have kk := K1.out.below hb
  clear K1 kb kc kd hb
  have kb := kk.b
  have kc := kk.c
  have kd := kk.d
  have hl0 := kb.lt
  have hl1 := kc.lt
  have hl2 := kd.lt
  have K1 := Lib.hid kk
  clear kk
  go_wp2_with (first | (refine wpList_load_row (by rfl) 31 _ (by rfl) g0 (by rfl) 31 #[.int .i64 node, .int .u64 th, .bool su, .int .u64 old, .int .u64 g, .int .u64 n, .int .u64 r, .slice As S cs, .int .u64 a, .int .u64 b, .int .u64 f, .slice At T ct, .slice Ak K ck] (0, 0) _ kb Try.underlying31 (by rfl) (by kernel_rfl) ?_) | (refine wpList_load_row (by rfl) 51 _ (by rfl) g1 (by rfl) 51 #[.int .i64 kind, .int .i64 frm, .int .i64 tto, .int .u64 mine, .int .u64 yours, .int .u64 fa, .int .u64 fb, .int .i64 inode, .int .u64 iseq, .int .i64 ioff, .int .i64 bnode, .int .u64 bseq, .int .i64 boff, .int .i64 dest, .int .i64 prio, .int .i64 born, .int .i64 life, .int .i64 total, .string data] (0, 0) _ kc Try.underlying51 (by rfl) (by kernel_rfl) ?_) | (refine wpList_store_mid (by rfl) 31 _ _ (by rfl) g2 0 #[.int .i64 0, .int .u64 0, .bool false, .int .u64 0, .int .u64 0, .int .u64 0, .int .u64 0, .slice none 0 0, .int .u64 0, .int .u64 0, .int .u64 0, .slice none 0 0, .slice none 0 0] (by rfl) (by rfl) (Blk.there kd 0 _ (Nat.le_refl 13)) (by kernel_rfl) (by kernel_rfl) ?_))
  refine (FC'.out _).mono ?_
  rintro e w3 ⟨rfl, hb⟩
  have kk := K1.out.below hb
  clear K1 kb kc kd hb
  have kb := kk.b
  have kc := kk.c
  have kd := kk.d
  have hl0 := kb.lt
  have hl1 := kc.lt
  have hl2 := kd.lt
  have K1 := Lib.hid kk
  clear kk
  have x0 : w3.cell? ⟨g0, 0, none⟩ = some (.int .i64 node) := kb.cell 0
  have x1 : w3.cell? ⟨g0, 1, none⟩ = some (.int .u64 th) := kb.cell 1
  have y1 : w3.cell? ⟨g1, 1, none⟩ = some (.int .i64 frm) := kc.cell 1
  go_wp2_with (first | (refine wpList_load_row (by rfl) 31 _ (by rfl) g0 (by rfl) 31 #[.int .i64 node, .int .u64 th, .bool su, .int .u64 old, .int .u64 g, .int .u64 n, .int .u64 r, .slice As S cs, .int .u64 a, .int .u64 b, .int .u64 f, .slice At T ct, .slice Ak K ck] (0, 0) _ kb Try.underlying31 (by rfl) (by kernel_rfl) ?_) | (refine wpList_load_row (by rfl) 51 _ (by rfl) g1 (by rfl) 51 #[.int .i64 kind, .int .i64 frm, .int .i64 tto, .int .u64 mine, .int .u64 yours, .int .u64 fa, .int .u64 fb, .int .i64 inode, .int .u64 iseq, .int .i64 ioff, .int .i64 bnode, .int .u64 bseq, .int .i64 boff, .int .i64 dest, .int .i64 prio, .int .i64 born, .int .i64 life, .int .i64 total, .string data] (0, 0) _ kc Try.underlying51 (by rfl) (by kernel_rfl) ?_) | (refine wpList_store_mid (by rfl) 31 _ _ (by rfl) g2 0 #[.int .i64 0, .int .u64 0, .bool false, .int .u64 0, .int .u64 0, .int .u64 0, .int .u64 0, .slice none 0 0, .int .u64 0, .int .u64 0, .int .u64 0, .slice none 0 0, .slice none 0 0] (by rfl) (by rfl) (Blk.there kd 0 _ (Nat.le_refl 13)) (by kernel_rfl) (by kernel_rfl) ?_))
  refine (CO'.out _ K1.out.hB).mono ?_
  rintro e w4 ⟨As', cs', At', ct', Ak', ck', rfl, ⟨Rs, Rt, Rk⟩, hb⟩
  have kk := K1.out.below hb
  have h23 : g2 < w3.heap.size := hl2
  have hW3 : Hid (w.heap.size ≤ w3.heap.size) := Lib.hid K1.out.hB.size
  have RR : Hid (SlsB (w3.heap.size) w4 (.slice As' S cs') SL ∧ RgsB (w3.heap.size) w4 (.slice At' T ct') TL ∧ KpsB (w3.heap.size) w4 (.slice Ak' K ck') KL) := Lib.hid ⟨Rs, Rt, Rk⟩
  clear K1 kb kc kd hb x0 x1 y1 hl0 hl1 Rs Rt Rk
  go_upto_region 11 with (first | (refine wpList_alloc_z (by rfl) 31 (by rfl) _ rfl #[.int .i64 0, .int .u64 0, .bool false, .int .u64 0, .int .u64 0, .int .u64 0, .int .u64 0, .slice none 0 0, .int .u64 0, .int .u64 0, .int .u64 0, .slice none 0 0, .slice none 0 0] (fun w => by kernel_rfl) ?_) | (refine wpList_store_new (by rfl) 31 _ _ (by rfl) w4 #[.int .i64 0, .int .u64 0, .bool false, .int .u64 0, .int .u64 0, .int .u64 0, .int .u64 0, .slice none 0 0, .int .u64 0, .int .u64 0, .int .u64 0, .slice none 0 0, .slice none 0 0] #[.int .i64 node, .int .u64 th, .bool su, .int .u64 old, .int .u64 g, .int .u64 n, .int .u64 r, .slice As' S cs', .int .u64 a, .int .u64 b, .int .u64 f, .slice At' T ct', .slice Ak' K ck'] rfl (by rfl) (by rfl) (by kernel_rfl) rfl (by kernel_rfl) ?_))
  have ke := Blk.new w4 31 #[.int .i64 node, .int .u64 th, .bool su, .int .u64 old, .int .u64 g, .int .u64 n, .int .u64 r, .slice As' S cs', .int .u64 a, .int .u64 b, .int .u64 f, .slice At' T ct', .slice Ak' K ck']
  have kb := kk.b.alloc (.cells #[.int .i64 node, .int .u64 th, .bool su, .int .u64 old, .int .u64 g, .int .u64 n, .int .u64 r, .slice As' S cs', .int .u64 a, .int .u64 b, .int .u64 f, .slice At' T ct', .slice Ak' K ck'] 31)
  have kc := kk.c.alloc (.cells #[.int .i64 node, .int .u64 th, .bool su, .int .u64 old, .int .u64 g, .int .u64 n, .int .u64 r, .slice As' S cs', .int .u64 a, .int .u64 b, .int .u64 f, .slice At' T ct', .slice Ak' K ck'] 31)
  have kd := kk.d.alloc (.cells #[.int .i64 node, .int .u64 th, .bool su, .int .u64 old, .int .u64 g, .int .u64 n, .int .u64 r, .slice As' S cs', .int .u64 a, .int .u64 b, .int .u64 f, .slice At' T ct', .slice Ak' K ck'] 31)
  have hB := bal kk.hB (.cells #[.int .i64 node, .int .u64 th, .bool su, .int .u64 old, .int .u64 g, .int .u64 n, .int .u64 r, .slice As' S cs', .int .u64 a, .int .u64 b, .int .u64 f, .slice At' T ct', .slice Ak' K ck'] 31)
  have hE := bal (Below.refl w4.heap.size w4) (.cells #[.int .i64 node, .int .u64 th, .bool su, .int .u64 old, .int .u64 g, .int .u64 n, .int .u64 r, .slice As' S cs', .int .u64 a, .int .u64 b, .int .u64 f, .slice At' T ct', .slice Ak' K ck'] 31)
  have hz4 := kk.d.lt
  have hz0 := kk.b.lt
  have hz1 := kk.c.lt
  obtain ⟨g3, hg3⟩ : ∃ g3, w4.heap.size = g3 := ⟨_, rfl⟩
  have n03 : Hid (¬ g0 = g3) := Lib.hid (by omega)
  have n13 : Hid (¬ g1 = g3) := Lib.hid (by omega)
  have n23 : Hid (¬ g2 = g3) := Lib.hid (by omega)
  have hG3 : Hid (w4.heap.size ≤ g3 ∧ w.heap.size ≤ g3) := Lib.hid ⟨by omega, by have := kk.hB.size; omega⟩
  have hG2 : Hid (g2 < w3.heap.size) := Lib.hid h23
  rw [hg3] at ke ⊢
  generalize w4.alloc (.cells #[.int .i64 node, .int .u64 th, .bool su, .int .u64 old, .int .u64 g, .int .u64 n, .int .u64 r, .slice As' S cs', .int .u64 a, .int .u64 b, .int .u64 f, .slice At' T ct', .slice Ak' K ck'] 31) = W1 at ke kb kc kd hB hE ⊢
  clear kk hg3 hz4 hz0 hz1 h23 hl2
  have x0 : W1.cell? ⟨g0, 0, none⟩ = some (.int .i64 node) := kb.cell 0
  have x1 : W1.cell? ⟨g0, 1, none⟩ = some (.int .u64 th) := kb.cell 1
  have y3 : W1.cell? ⟨g1, 3, none⟩ = some (.int .u64 mine) := kc.cell 3
  have y4 : W1.cell? ⟨g1, 4, none⟩ = some (.int .u64 yours) := kc.cell 4
  go_upto_region 16 with (refine wpList_store_mid (by rfl) 31 _ _ (by rfl) g3 0 #[.int .i64 node, .int .u64 mine, .bool false, .int .u64 0, .int .u64 0, .int .u64 0, .int .u64 0, .slice none 0 0, .int .u64 0, .int .u64 0, .int .u64 0, .slice none 0 0, .slice none 0 0] (by rfl) (by rfl) (Blk.there ke 0 _ (Nat.le_refl 13)) (by kernel_rfl) (by kernel_rfl) ?_)
  replace ke := Blk.setAll (cs := #[.int .i64 node, .int .u64 mine, .bool false, .int .u64 0, .int .u64 0, .int .u64 0, .int .u64 0, .slice none 0 0, .int .u64 0, .int .u64 0, .int .u64 0, .slice none 0 0, .slice none 0 0]) ke rfl
  replace kb := kb.farAll n03.out (Array.toList #[.int .i64 node, .int .u64 mine, .bool false, .int .u64 0, .int .u64 0, .int .u64 0, .int .u64 0, .slice none 0 0, .int .u64 0, .int .u64 0, .int .u64 0, .slice none 0 0, .slice none 0 0]) 0
  replace kc := kc.farAll n13.out (Array.toList #[.int .i64 node, .int .u64 mine, .bool false, .int .u64 0, .int .u64 0, .int .u64 0, .int .u64 0, .slice none 0 0, .int .u64 0, .int .u64 0, .int .u64 0, .slice none 0 0, .slice none 0 0]) 0
  replace kd := kd.farAll n23.out (Array.toList #[.int .i64 node, .int .u64 mine, .bool false, .int .u64 0, .int .u64 0, .int .u64 0, .int .u64 0, .slice none 0 0, .int .u64 0, .int .u64 0, .int .u64 0, .slice none 0 0, .slice none 0 0]) 0
  replace hB := below_setCells hG3.out.2 (Array.toList #[.int .i64 node, .int .u64 mine, .bool false, .int .u64 0, .int .u64 0, .int .u64 0, .int .u64 0, .slice none 0 0, .int .u64 0, .int .u64 0, .int .u64 0, .slice none 0 0, .slice none 0 0]) 0 hB
  replace hE := below_setCells hG3.out.1 (Array.toList #[.int .i64 node, .int .u64 mine, .bool false, .int .u64 0, .int .u64 0, .int .u64 0, .int .u64 0, .slice none 0 0, .int .u64 0, .int .u64 0, .int .u64 0, .slice none 0 0, .slice none 0 0]) 0 hE
  clear x0 x1 y3 y4
  generalize W1.setCells g3 0 (Array.toList #[.int .i64 node, .int .u64 mine, .bool false, .int .u64 0, .int .u64 0, .int .u64 0, .int .u64 0, .slice none 0 0, .int .u64 0, .int .u64 0, .int .u64 0, .slice none 0 0, .slice none 0 0]) = W2 at ke kb kc kd hB hE ⊢
  have y4 : W2.cell? ⟨g1, 4, none⟩ = some (.int .u64 yours) := kc.cell 4
  go_wp2_with (first | (refine wpList_load_row (by rfl) 31 _ (by rfl) g3 (by rfl) 31 #[.int .i64 node, .int .u64 mine, .bool false, .int .u64 0, .int .u64 0, .int .u64 0, .int .u64 0, .slice none 0 0, .int .u64 0, .int .u64 0, .int .u64 0, .slice none 0 0, .slice none 0 0] (0, 0) _ ke Try.underlying31 (by rfl) (by kernel_rfl) ?_) | (refine wpList_store_mid (by rfl) 31 _ _ (by rfl) g2 0 #[.int .i64 node, .int .u64 mine, .bool false, .int .u64 0, .int .u64 0, .int .u64 0, .int .u64 0, .slice none 0 0, .int .u64 0, .int .u64 0, .int .u64 0, .slice none 0 0, .slice none 0 0] (by rfl) (by rfl) (Blk.there kd 0 _ (Nat.le_refl 13)) (by kernel_rfl) (by kernel_rfl) ?_))
  refine bodyPost_ret (results_cell3 rfl _ _ g2 31 #[.int .i64 node, .int .u64 mine, .bool false, .int .u64 0, .int .u64 0, .int .u64 0, .int .u64 0, .slice none 0 0, .int .u64 0, .int .u64 0, .int .u64 0, .slice none 0 0, .slice none 0 0] (0, 0) _ rfl (kd.setAll rfl) Try.underlying31 (by rfl) (by kernel_rfl)) rfl ?_
  have hF := below_setCells HG.out (Array.toList #[.int .i64 node, .int .u64 mine, .bool false, .int .u64 0, .int .u64 0, .int .u64 0, .int .u64 0, .slice none 0 0, .int .u64 0, .int .u64 0, .int .u64 0, .slice none 0 0, .slice none 0 0]) 0 hB
  exact ⟨rfl, hF⟩

set_option maxRecDepth 100000 in
set_option maxHeartbeats 4000000 in
theorem rm_lf (node th old : Int) (su : Bool) (g n r : Int) (SL : List Sl) (S cs : Nat) (As : Option Addr) (a b f : Int) (TL : List Rg) (T ct : Nat) (At : Option Addr) (KL : List Int) (K ck : Nat) (Ak : Option Addr) (kind frm tto mine yours fa fb inode iseq ioff bnode bseq boff dest prio born life total : Int) (data : ByteArray) (boot : Int) (w : World) (PC : ∀ w', Below w.heap.size w w' → Calls Try.prog 21 #[.agg #[.int .i64 node, .int .u64 th, .bool su, .int .u64 old, .int .u64 g, .int .u64 n, .int .u64 r, .slice As S cs, .int .u64 a, .int .u64 b, .int .u64 f, .slice At T ct, .slice Ak K ck]] w' (RetI .i64 0 w')) (BC : ∀ w, Calls Try.prog 42 #[.int .u64 boot] w (RetI .i64 0 w)) (FC : ∀ w, Calls Try.prog 58 #[.agg #[.int .i64 kind, .int .i64 frm, .int .i64 tto, .int .u64 mine, .int .u64 yours, .int .u64 fa, .int .u64 fb, .int .i64 inode, .int .u64 iseq, .int .i64 ioff, .int .i64 bnode, .int .u64 bseq, .int .i64 boff, .int .i64 dest, .int .i64 prio, .int .i64 born, .int .i64 life, .int .i64 total, .string data]] w (RetI .i64 0 w)) (CO : ∀ w', Below w.heap.size w w' → Calls Try.prog 59 #[.agg #[.int .i64 node, .int .u64 th, .bool su, .int .u64 old, .int .u64 g, .int .u64 n, .int .u64 r, .slice As S cs, .int .u64 a, .int .u64 b, .int .u64 f, .slice At T ct, .slice Ak K ck]] w' (fun e w'' => ∃ As' cs' At' ct' Ak' ck', e = .returned (.agg #[.int .i64 node, .int .u64 th, .bool su, .int .u64 old, .int .u64 g, .int .u64 n, .int .u64 r, .slice As' S cs', .int .u64 a, .int .u64 b, .int .u64 f, .slice At' T ct', .slice Ak' K ck']) ∧ (SlsB (w'.heap.size) w'' (.slice As' S cs') SL ∧ RgsB (w'.heap.size) w'' (.slice At' T ct') TL ∧ KpsB (w'.heap.size) w'' (.slice Ak' K ck') KL) ∧ Below w'.heap.size w' w'')) (n1 : (frm != node) = false) (m1 : ¬ mine < th) (m2 : mine > th) (y : (yours != boot) = false) :
    Calls Try.prog 19 #[.agg #[.int .i64 node, .int .u64 th, .bool su, .int .u64 old, .int .u64 g, .int .u64 n, .int .u64 r, .slice As S cs, .int .u64 a, .int .u64 b, .int .u64 f, .slice At T ct, .slice Ak K ck], .int .u64 boot, .agg #[.int .i64 kind, .int .i64 frm, .int .i64 tto, .int .u64 mine, .int .u64 yours, .int .u64 fa, .int .u64 fb, .int .i64 inode, .int .u64 iseq, .int .i64 ioff, .int .i64 bnode, .int .u64 bseq, .int .i64 boff, .int .i64 dest, .int .i64 prio, .int .i64 born, .int .i64 life, .int .i64 total, .string data]] w (fun e w' => e = .returned (.tuple #[.agg #[.int .i64 node, .int .u64 mine, .bool true, .int .u64 0, .int .u64 0, .int .u64 0, .int .u64 0, .slice none 0 0, .int .u64 0, .int .u64 0, .int .u64 0, .slice none 0 0, .slice none 0 0], .int .i64 3, .bool true, .int .i64 0]) ∧ Below w.heap.size w w') := by
  have PC' := Lib.hid PC
  clear PC
  have BC' := Lib.hid BC
  clear BC
  have FC' := Lib.hid FC
  clear FC
  have CO' := Lib.hid CO
  clear CO
  go_enter Try.func19, Try.ntmps19
  go_upto_region 1 with fail
  have k0 := (Blk.new w 31 #[.int .i64 node, .int .u64 th, .bool su, .int .u64 old, .int .u64 g, .int .u64 n, .int .u64 r, .slice As S cs, .int .u64 a, .int .u64 b, .int .u64 f, .slice At T ct, .slice Ak K ck]).alloc (.cells #[.int .i64 kind, .int .i64 frm, .int .i64 tto, .int .u64 mine, .int .u64 yours, .int .u64 fa, .int .u64 fb, .int .i64 inode, .int .u64 iseq, .int .i64 ioff, .int .i64 bnode, .int .u64 bseq, .int .i64 boff, .int .i64 dest, .int .i64 prio, .int .i64 born, .int .i64 life, .int .i64 total, .string data] 51)
  have k0 := k0.alloc (.cells #[.int .i64 0, .int .u64 0, .bool false, .int .u64 0, .int .u64 0, .int .u64 0, .int .u64 0, .slice none 0 0, .int .u64 0, .int .u64 0, .int .u64 0, .slice none 0 0, .slice none 0 0] 31)
  have k1 := (Blk.new1 w (.cells #[.int .i64 node, .int .u64 th, .bool su, .int .u64 old, .int .u64 g, .int .u64 n, .int .u64 r, .slice As S cs, .int .u64 a, .int .u64 b, .int .u64 f, .slice At T ct, .slice Ak K ck] 31) 51 #[.int .i64 kind, .int .i64 frm, .int .i64 tto, .int .u64 mine, .int .u64 yours, .int .u64 fa, .int .u64 fb, .int .i64 inode, .int .u64 iseq, .int .i64 ioff, .int .i64 bnode, .int .u64 bseq, .int .i64 boff, .int .i64 dest, .int .i64 prio, .int .i64 born, .int .i64 life, .int .i64 total, .string data]).alloc (.cells #[.int .i64 0, .int .u64 0, .bool false, .int .u64 0, .int .u64 0, .int .u64 0, .int .u64 0, .slice none 0 0, .int .u64 0, .int .u64 0, .int .u64 0, .slice none 0 0, .slice none 0 0] 31)
  have k2 := Blk.new2 w (.cells #[.int .i64 node, .int .u64 th, .bool su, .int .u64 old, .int .u64 g, .int .u64 n, .int .u64 r, .slice As S cs, .int .u64 a, .int .u64 b, .int .u64 f, .slice At T ct, .slice Ak K ck] 31) (.cells #[.int .i64 kind, .int .i64 frm, .int .i64 tto, .int .u64 mine, .int .u64 yours, .int .u64 fa, .int .u64 fb, .int .i64 inode, .int .u64 iseq, .int .i64 ioff, .int .i64 bnode, .int .u64 bseq, .int .i64 boff, .int .i64 dest, .int .i64 prio, .int .i64 born, .int .i64 life, .int .i64 total, .string data] 51) 31 #[.int .i64 0, .int .u64 0, .bool false, .int .u64 0, .int .u64 0, .int .u64 0, .int .u64 0, .slice none 0 0, .int .u64 0, .int .u64 0, .int .u64 0, .slice none 0 0, .slice none 0 0]
  have hB := bal (bal (bal (Below.refl w.heap.size w) (.cells #[.int .i64 node, .int .u64 th, .bool su, .int .u64 old, .int .u64 g, .int .u64 n, .int .u64 r, .slice As S cs, .int .u64 a, .int .u64 b, .int .u64 f, .slice At T ct, .slice Ak K ck] 31)) (.cells #[.int .i64 kind, .int .i64 frm, .int .i64 tto, .int .u64 mine, .int .u64 yours, .int .u64 fa, .int .u64 fb, .int .i64 inode, .int .u64 iseq, .int .i64 ioff, .int .i64 bnode, .int .u64 bseq, .int .i64 boff, .int .i64 dest, .int .i64 prio, .int .i64 born, .int .i64 life, .int .i64 total, .string data] 51)) (.cells #[.int .i64 0, .int .u64 0, .bool false, .int .u64 0, .int .u64 0, .int .u64 0, .int .u64 0, .slice none 0 0, .int .u64 0, .int .u64 0, .int .u64 0, .slice none 0 0, .slice none 0 0] 31)
  have k3 : BK3 w w.heap.size 31 #[.int .i64 node, .int .u64 th, .bool su, .int .u64 old, .int .u64 g, .int .u64 n, .int .u64 r, .slice As S cs, .int .u64 a, .int .u64 b, .int .u64 f, .slice At T ct, .slice Ak K ck] (w.heap.size + 1) 51 #[.int .i64 kind, .int .i64 frm, .int .i64 tto, .int .u64 mine, .int .u64 yours, .int .u64 fa, .int .u64 fb, .int .i64 inode, .int .u64 iseq, .int .i64 ioff, .int .i64 bnode, .int .u64 bseq, .int .i64 boff, .int .i64 dest, .int .i64 prio, .int .i64 born, .int .i64 life, .int .i64 total, .string data] (w.heap.size + 1 + 1) 31 #[.int .i64 0, .int .u64 0, .bool false, .int .u64 0, .int .u64 0, .int .u64 0, .int .u64 0, .slice none 0 0, .int .u64 0, .int .u64 0, .int .u64 0, .slice none 0 0, .slice none 0 0] _ := ⟨k0, k1, k2, hB⟩
  clear k0 k1 k2 hB
  generalize hW : ((w.alloc (.cells #[.int .i64 node, .int .u64 th, .bool su, .int .u64 old, .int .u64 g, .int .u64 n, .int .u64 r, .slice As S cs, .int .u64 a, .int .u64 b, .int .u64 f, .slice At T ct, .slice Ak K ck] 31)).alloc (.cells #[.int .i64 kind, .int .i64 frm, .int .i64 tto, .int .u64 mine, .int .u64 yours, .int .u64 fa, .int .u64 fb, .int .i64 inode, .int .u64 iseq, .int .i64 ioff, .int .i64 bnode, .int .u64 bseq, .int .i64 boff, .int .i64 dest, .int .i64 prio, .int .i64 born, .int .i64 life, .int .i64 total, .string data] 51)).alloc (.cells #[.int .i64 0, .int .u64 0, .bool false, .int .u64 0, .int .u64 0, .int .u64 0, .int .u64 0, .slice none 0 0, .int .u64 0, .int .u64 0, .int .u64 0, .slice none 0 0, .slice none 0 0] 31) = W at k3 ⊢
  clear hW
  obtain ⟨g2, hg2⟩ : ∃ g2, w.heap.size + 1 + 1 = g2 := ⟨_, rfl⟩
  obtain ⟨g1, hg1⟩ : ∃ g1, w.heap.size + 1 = g1 := ⟨_, rfl⟩
  have HG : Hid (w.heap.size ≤ g2) := Lib.hid (by omega)
  obtain ⟨g0, hg0⟩ : ∃ g0, w.heap.size = g0 := ⟨_, rfl⟩
  have n02 : Hid (¬ g0 = g2) := Lib.hid (by omega)
  have n12 : Hid (¬ g1 = g2) := Lib.hid (by omega)
  rw [hg2] at k3 ⊢
  rw [hg1] at k3 ⊢
  rw [hg0] at k3 ⊢
  clear hg2 hg1 hg0
  have kb := k3.b
  have kc := k3.c
  have kd := k3.d
  have K1 := Lib.hid k3
  clear k3
  go_wp2_with (first | (refine wpList_load_row (by rfl) 31 _ (by rfl) g0 (by rfl) 31 #[.int .i64 node, .int .u64 th, .bool su, .int .u64 old, .int .u64 g, .int .u64 n, .int .u64 r, .slice As S cs, .int .u64 a, .int .u64 b, .int .u64 f, .slice At T ct, .slice Ak K ck] (0, 0) _ kb Try.underlying31 (by rfl) (by kernel_rfl) ?_) | (refine wpList_load_row (by rfl) 51 _ (by rfl) g1 (by rfl) 51 #[.int .i64 kind, .int .i64 frm, .int .i64 tto, .int .u64 mine, .int .u64 yours, .int .u64 fa, .int .u64 fb, .int .i64 inode, .int .u64 iseq, .int .i64 ioff, .int .i64 bnode, .int .u64 bseq, .int .i64 boff, .int .i64 dest, .int .i64 prio, .int .i64 born, .int .i64 life, .int .i64 total, .string data] (0, 0) _ kc Try.underlying51 (by rfl) (by kernel_rfl) ?_) | (refine wpList_store_mid (by rfl) 31 _ _ (by rfl) g2 0 #[.int .i64 0, .int .u64 0, .bool false, .int .u64 0, .int .u64 0, .int .u64 0, .int .u64 0, .slice none 0 0, .int .u64 0, .int .u64 0, .int .u64 0, .slice none 0 0, .slice none 0 0] (by rfl) (by rfl) (Blk.there kd 0 _ (Nat.le_refl 13)) (by kernel_rfl) (by kernel_rfl) ?_))
  refine (PC'.out _ K1.out.hB).mono ?_
  rintro e w1 ⟨rfl, hb⟩
  have kk := K1.out.below hb
  clear K1 kb kc kd hb
  have kb := kk.b
  have kc := kk.c
  have kd := kk.d
  have hl0 := kb.lt
  have hl1 := kc.lt
  have hl2 := kd.lt
  have K1 := Lib.hid kk
  clear kk
  go_wp2_with (first | (refine wpList_load_row (by rfl) 31 _ (by rfl) g0 (by rfl) 31 #[.int .i64 node, .int .u64 th, .bool su, .int .u64 old, .int .u64 g, .int .u64 n, .int .u64 r, .slice As S cs, .int .u64 a, .int .u64 b, .int .u64 f, .slice At T ct, .slice Ak K ck] (0, 0) _ kb Try.underlying31 (by rfl) (by kernel_rfl) ?_) | (refine wpList_load_row (by rfl) 51 _ (by rfl) g1 (by rfl) 51 #[.int .i64 kind, .int .i64 frm, .int .i64 tto, .int .u64 mine, .int .u64 yours, .int .u64 fa, .int .u64 fb, .int .i64 inode, .int .u64 iseq, .int .i64 ioff, .int .i64 bnode, .int .u64 bseq, .int .i64 boff, .int .i64 dest, .int .i64 prio, .int .i64 born, .int .i64 life, .int .i64 total, .string data] (0, 0) _ kc Try.underlying51 (by rfl) (by kernel_rfl) ?_) | (refine wpList_store_mid (by rfl) 31 _ _ (by rfl) g2 0 #[.int .i64 0, .int .u64 0, .bool false, .int .u64 0, .int .u64 0, .int .u64 0, .int .u64 0, .slice none 0 0, .int .u64 0, .int .u64 0, .int .u64 0, .slice none 0 0, .slice none 0 0] (by rfl) (by rfl) (Blk.there kd 0 _ (Nat.le_refl 13)) (by kernel_rfl) (by kernel_rfl) ?_))
  refine (BC'.out _).mono ?_
  rintro e w2 ⟨rfl, hb⟩
  have kk := K1.out.below hb
  clear K1 kb kc kd hb
  have kb := kk.b
  have kc := kk.c
  have kd := kk.d
  have hl0 := kb.lt
  have hl1 := kc.lt
  have hl2 := kd.lt
  have K1 := Lib.hid kk
  clear kk
  go_wp2_with (first | (refine wpList_load_row (by rfl) 31 _ (by rfl) g0 (by rfl) 31 #[.int .i64 node, .int .u64 th, .bool su, .int .u64 old, .int .u64 g, .int .u64 n, .int .u64 r, .slice As S cs, .int .u64 a, .int .u64 b, .int .u64 f, .slice At T ct, .slice Ak K ck] (0, 0) _ kb Try.underlying31 (by rfl) (by kernel_rfl) ?_) | (refine wpList_load_row (by rfl) 51 _ (by rfl) g1 (by rfl) 51 #[.int .i64 kind, .int .i64 frm, .int .i64 tto, .int .u64 mine, .int .u64 yours, .int .u64 fa, .int .u64 fb, .int .i64 inode, .int .u64 iseq, .int .i64 ioff, .int .i64 bnode, .int .u64 bseq, .int .i64 boff, .int .i64 dest, .int .i64 prio, .int .i64 born, .int .i64 life, .int .i64 total, .string data] (0, 0) _ kc Try.underlying51 (by rfl) (by kernel_rfl) ?_) | (refine wpList_store_mid (by rfl) 31 _ _ (by rfl) g2 0 #[.int .i64 0, .int .u64 0, .bool false, .int .u64 0, .int .u64 0, .int .u64 0, .int .u64 0, .slice none 0 0, .int .u64 0, .int .u64 0, .int .u64 0, .slice none 0 0, .slice none 0 0] (by rfl) (by rfl) (Blk.there kd 0 _ (Nat.le_refl 13)) (by kernel_rfl) (by kernel_rfl) ?_))
  refine (FC'.out _).mono ?_
  rintro e w3 ⟨rfl, hb⟩
  have kk := K1.out.below hb
  clear K1 kb kc kd hb
  have kb := kk.b
  have kc := kk.c
  have kd := kk.d
  have hl0 := kb.lt
  have hl1 := kc.lt
  have hl2 := kd.lt
  have K1 := Lib.hid kk
  clear kk
  have x0 : w3.cell? ⟨g0, 0, none⟩ = some (.int .i64 node) := kb.cell 0
  have x1 : w3.cell? ⟨g0, 1, none⟩ = some (.int .u64 th) := kb.cell 1
  have y1 : w3.cell? ⟨g1, 1, none⟩ = some (.int .i64 frm) := kc.cell 1
  go_wp2_with (first | (refine wpList_load_row (by rfl) 31 _ (by rfl) g0 (by rfl) 31 #[.int .i64 node, .int .u64 th, .bool su, .int .u64 old, .int .u64 g, .int .u64 n, .int .u64 r, .slice As S cs, .int .u64 a, .int .u64 b, .int .u64 f, .slice At T ct, .slice Ak K ck] (0, 0) _ kb Try.underlying31 (by rfl) (by kernel_rfl) ?_) | (refine wpList_load_row (by rfl) 51 _ (by rfl) g1 (by rfl) 51 #[.int .i64 kind, .int .i64 frm, .int .i64 tto, .int .u64 mine, .int .u64 yours, .int .u64 fa, .int .u64 fb, .int .i64 inode, .int .u64 iseq, .int .i64 ioff, .int .i64 bnode, .int .u64 bseq, .int .i64 boff, .int .i64 dest, .int .i64 prio, .int .i64 born, .int .i64 life, .int .i64 total, .string data] (0, 0) _ kc Try.underlying51 (by rfl) (by kernel_rfl) ?_) | (refine wpList_store_mid (by rfl) 31 _ _ (by rfl) g2 0 #[.int .i64 0, .int .u64 0, .bool false, .int .u64 0, .int .u64 0, .int .u64 0, .int .u64 0, .slice none 0 0, .int .u64 0, .int .u64 0, .int .u64 0, .slice none 0 0, .slice none 0 0] (by rfl) (by rfl) (Blk.there kd 0 _ (Nat.le_refl 13)) (by kernel_rfl) (by kernel_rfl) ?_))
  refine (CO'.out _ K1.out.hB).mono ?_
  rintro e w4 ⟨As', cs', At', ct', Ak', ck', rfl, ⟨Rs, Rt, Rk⟩, hb⟩
  have kk := K1.out.below hb
  have h23 : g2 < w3.heap.size := hl2
  have hW3 : Hid (w.heap.size ≤ w3.heap.size) := Lib.hid K1.out.hB.size
  have RR : Hid (SlsB (w3.heap.size) w4 (.slice As' S cs') SL ∧ RgsB (w3.heap.size) w4 (.slice At' T ct') TL ∧ KpsB (w3.heap.size) w4 (.slice Ak' K ck') KL) := Lib.hid ⟨Rs, Rt, Rk⟩
  clear K1 kb kc kd hb x0 x1 y1 hl0 hl1 Rs Rt Rk
  go_upto_region 11 with (first | (refine wpList_alloc_z (by rfl) 31 (by rfl) _ rfl #[.int .i64 0, .int .u64 0, .bool false, .int .u64 0, .int .u64 0, .int .u64 0, .int .u64 0, .slice none 0 0, .int .u64 0, .int .u64 0, .int .u64 0, .slice none 0 0, .slice none 0 0] (fun w => by kernel_rfl) ?_) | (refine wpList_store_new (by rfl) 31 _ _ (by rfl) w4 #[.int .i64 0, .int .u64 0, .bool false, .int .u64 0, .int .u64 0, .int .u64 0, .int .u64 0, .slice none 0 0, .int .u64 0, .int .u64 0, .int .u64 0, .slice none 0 0, .slice none 0 0] #[.int .i64 node, .int .u64 th, .bool su, .int .u64 old, .int .u64 g, .int .u64 n, .int .u64 r, .slice As' S cs', .int .u64 a, .int .u64 b, .int .u64 f, .slice At' T ct', .slice Ak' K ck'] rfl (by rfl) (by rfl) (by kernel_rfl) rfl (by kernel_rfl) ?_))
  have ke := Blk.new w4 31 #[.int .i64 node, .int .u64 th, .bool su, .int .u64 old, .int .u64 g, .int .u64 n, .int .u64 r, .slice As' S cs', .int .u64 a, .int .u64 b, .int .u64 f, .slice At' T ct', .slice Ak' K ck']
  have kb := kk.b.alloc (.cells #[.int .i64 node, .int .u64 th, .bool su, .int .u64 old, .int .u64 g, .int .u64 n, .int .u64 r, .slice As' S cs', .int .u64 a, .int .u64 b, .int .u64 f, .slice At' T ct', .slice Ak' K ck'] 31)
  have kc := kk.c.alloc (.cells #[.int .i64 node, .int .u64 th, .bool su, .int .u64 old, .int .u64 g, .int .u64 n, .int .u64 r, .slice As' S cs', .int .u64 a, .int .u64 b, .int .u64 f, .slice At' T ct', .slice Ak' K ck'] 31)
  have kd := kk.d.alloc (.cells #[.int .i64 node, .int .u64 th, .bool su, .int .u64 old, .int .u64 g, .int .u64 n, .int .u64 r, .slice As' S cs', .int .u64 a, .int .u64 b, .int .u64 f, .slice At' T ct', .slice Ak' K ck'] 31)
  have hB := bal kk.hB (.cells #[.int .i64 node, .int .u64 th, .bool su, .int .u64 old, .int .u64 g, .int .u64 n, .int .u64 r, .slice As' S cs', .int .u64 a, .int .u64 b, .int .u64 f, .slice At' T ct', .slice Ak' K ck'] 31)
  have hE := bal (Below.refl w4.heap.size w4) (.cells #[.int .i64 node, .int .u64 th, .bool su, .int .u64 old, .int .u64 g, .int .u64 n, .int .u64 r, .slice As' S cs', .int .u64 a, .int .u64 b, .int .u64 f, .slice At' T ct', .slice Ak' K ck'] 31)
  have hz4 := kk.d.lt
  have hz0 := kk.b.lt
  have hz1 := kk.c.lt
  obtain ⟨g3, hg3⟩ : ∃ g3, w4.heap.size = g3 := ⟨_, rfl⟩
  have n03 : Hid (¬ g0 = g3) := Lib.hid (by omega)
  have n13 : Hid (¬ g1 = g3) := Lib.hid (by omega)
  have n23 : Hid (¬ g2 = g3) := Lib.hid (by omega)
  have hG3 : Hid (w4.heap.size ≤ g3 ∧ w.heap.size ≤ g3) := Lib.hid ⟨by omega, by have := kk.hB.size; omega⟩
  have hG2 : Hid (g2 < w3.heap.size) := Lib.hid h23
  rw [hg3] at ke ⊢
  generalize w4.alloc (.cells #[.int .i64 node, .int .u64 th, .bool su, .int .u64 old, .int .u64 g, .int .u64 n, .int .u64 r, .slice As' S cs', .int .u64 a, .int .u64 b, .int .u64 f, .slice At' T ct', .slice Ak' K ck'] 31) = W1 at ke kb kc kd hB hE ⊢
  clear kk hg3 hz4 hz0 hz1 h23 hl2
  have x0 : W1.cell? ⟨g0, 0, none⟩ = some (.int .i64 node) := kb.cell 0
  have x1 : W1.cell? ⟨g0, 1, none⟩ = some (.int .u64 th) := kb.cell 1
  have y3 : W1.cell? ⟨g1, 3, none⟩ = some (.int .u64 mine) := kc.cell 3
  have y4 : W1.cell? ⟨g1, 4, none⟩ = some (.int .u64 yours) := kc.cell 4
  go_upto_region 16 with (refine wpList_store_mid (by rfl) 31 _ _ (by rfl) g3 0 #[.int .i64 node, .int .u64 mine, .bool false, .int .u64 0, .int .u64 0, .int .u64 0, .int .u64 0, .slice none 0 0, .int .u64 0, .int .u64 0, .int .u64 0, .slice none 0 0, .slice none 0 0] (by rfl) (by rfl) (Blk.there ke 0 _ (Nat.le_refl 13)) (by kernel_rfl) (by kernel_rfl) ?_)
  replace ke := Blk.setAll (cs := #[.int .i64 node, .int .u64 mine, .bool false, .int .u64 0, .int .u64 0, .int .u64 0, .int .u64 0, .slice none 0 0, .int .u64 0, .int .u64 0, .int .u64 0, .slice none 0 0, .slice none 0 0]) ke rfl
  replace kb := kb.farAll n03.out (Array.toList #[.int .i64 node, .int .u64 mine, .bool false, .int .u64 0, .int .u64 0, .int .u64 0, .int .u64 0, .slice none 0 0, .int .u64 0, .int .u64 0, .int .u64 0, .slice none 0 0, .slice none 0 0]) 0
  replace kc := kc.farAll n13.out (Array.toList #[.int .i64 node, .int .u64 mine, .bool false, .int .u64 0, .int .u64 0, .int .u64 0, .int .u64 0, .slice none 0 0, .int .u64 0, .int .u64 0, .int .u64 0, .slice none 0 0, .slice none 0 0]) 0
  replace kd := kd.farAll n23.out (Array.toList #[.int .i64 node, .int .u64 mine, .bool false, .int .u64 0, .int .u64 0, .int .u64 0, .int .u64 0, .slice none 0 0, .int .u64 0, .int .u64 0, .int .u64 0, .slice none 0 0, .slice none 0 0]) 0
  replace hB := below_setCells hG3.out.2 (Array.toList #[.int .i64 node, .int .u64 mine, .bool false, .int .u64 0, .int .u64 0, .int .u64 0, .int .u64 0, .slice none 0 0, .int .u64 0, .int .u64 0, .int .u64 0, .slice none 0 0, .slice none 0 0]) 0 hB
  replace hE := below_setCells hG3.out.1 (Array.toList #[.int .i64 node, .int .u64 mine, .bool false, .int .u64 0, .int .u64 0, .int .u64 0, .int .u64 0, .slice none 0 0, .int .u64 0, .int .u64 0, .int .u64 0, .slice none 0 0, .slice none 0 0]) 0 hE
  clear x0 x1 y3 y4
  generalize W1.setCells g3 0 (Array.toList #[.int .i64 node, .int .u64 mine, .bool false, .int .u64 0, .int .u64 0, .int .u64 0, .int .u64 0, .slice none 0 0, .int .u64 0, .int .u64 0, .int .u64 0, .slice none 0 0, .slice none 0 0]) = W2 at ke kb kc kd hB hE ⊢
  have y4 : W2.cell? ⟨g1, 4, none⟩ = some (.int .u64 yours) := kc.cell 4
  have z2 : W2.cell? ⟨g3, 2, none⟩ = some (.bool false) := ke.cell 2
  have z3 : W2.cell? ⟨g3, 3, none⟩ = some (.int .u64 0) := ke.cell 3
  have q2 : W2.frozen? ⟨g3, 2, none⟩ = false := ke.frozen 2
  have q3 : W2.frozen? ⟨g3, 3, none⟩ = false := ke.frozen 3
  go_upto_region 20 with fail
  replace ke : Blk ((W2.setCell ⟨g3, 2, none⟩ (.bool true)).setCell ⟨g3, 3, none⟩ (.int .u64 0)) g3 31 #[.int .i64 node, .int .u64 mine, .bool true, .int .u64 0, .int .u64 0, .int .u64 0, .int .u64 0, .slice none 0 0, .int .u64 0, .int .u64 0, .int .u64 0, .slice none 0 0, .slice none 0 0] := (ke.set 2 (.bool true)).set 3 (.int .u64 0)
  replace kd := (kd.far (p := ⟨g3, 2, none⟩) n23.out (.bool true)).far (p := ⟨g3, 3, none⟩) n23.out (.int .u64 0)
  replace hB := (hB.setCell (p := ⟨g3, 2, none⟩) hG3.out.2 (.bool true)).setCell (p := ⟨g3, 3, none⟩) hG3.out.2 (.int .u64 0)
  replace hE := (hE.setCell (p := ⟨g3, 2, none⟩) hG3.out.1 (.bool true)).setCell (p := ⟨g3, 3, none⟩) hG3.out.1 (.int .u64 0)
  clear z2 z3 q2 q3 kb kc y4
  generalize (W2.setCell ⟨g3, 2, none⟩ (.bool true)).setCell ⟨g3, 3, none⟩ (.int .u64 0) = W9 at ke kd hB hE ⊢
  go_wp2_with (first | (refine wpList_load_row (by rfl) 31 _ (by rfl) g3 (by rfl) 31 #[.int .i64 node, .int .u64 mine, .bool true, .int .u64 0, .int .u64 0, .int .u64 0, .int .u64 0, .slice none 0 0, .int .u64 0, .int .u64 0, .int .u64 0, .slice none 0 0, .slice none 0 0] (0, 0) _ ke Try.underlying31 (by rfl) (by kernel_rfl) ?_) | (refine wpList_store_mid (by rfl) 31 _ _ (by rfl) g2 0 #[.int .i64 node, .int .u64 mine, .bool true, .int .u64 0, .int .u64 0, .int .u64 0, .int .u64 0, .slice none 0 0, .int .u64 0, .int .u64 0, .int .u64 0, .slice none 0 0, .slice none 0 0] (by rfl) (by rfl) (Blk.there kd 0 _ (Nat.le_refl 13)) (by kernel_rfl) (by kernel_rfl) ?_))
  refine bodyPost_ret (results_cell3 rfl _ _ g2 31 #[.int .i64 node, .int .u64 mine, .bool true, .int .u64 0, .int .u64 0, .int .u64 0, .int .u64 0, .slice none 0 0, .int .u64 0, .int .u64 0, .int .u64 0, .slice none 0 0, .slice none 0 0] (0, 0) _ rfl (kd.setAll rfl) Try.underlying31 (by rfl) (by kernel_rfl)) rfl ?_
  have hF := below_setCells HG.out (Array.toList #[.int .i64 node, .int .u64 mine, .bool true, .int .u64 0, .int .u64 0, .int .u64 0, .int .u64 0, .slice none 0 0, .int .u64 0, .int .u64 0, .int .u64 0, .slice none 0 0, .slice none 0 0]) 0 hB
  exact ⟨rfl, hF⟩

end Go.Proofs.Ytfgkkflbpfocjaa

