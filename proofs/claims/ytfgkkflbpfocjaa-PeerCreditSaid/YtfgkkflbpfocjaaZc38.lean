/- A frame met, as the law asks it. -/
import Derived.Test.YtfgkkflbpfocjaaZc26
namespace Go.Proofs.Ytfgkkflbpfocjaa
open Go.RowKit
open List renaming getElem_toArray → zz1, getElem_cons_succ → zz2, getElem_cons_zero → zz3, setIfInBounds_toArray → zz4, set_cons_zero → zz5, set_cons_succ → zz6
set_option linter.unusedVariables false
set_option linter.unusedSimpArgs false

/-- the results: a struct in a cell, and one more -/
theorem results_cell_t {P : Program} {fn : Func} {p u1 : Tmp} {ty : TypeId} (h : fn.results = #[.cell p ty, .tmp u1]) (tmps : Array Value) (w : World) (g : Nat) (t : TypeId) (cs : Array Value) (fr : Nat × Nat) (d : TypeDesc)
    (hp : tmps.getD p undef = .pointer (some ⟨g, 0, none⟩)) (hg : w.heap[g]? = some (.cells cs t fr))
    (hu : P.underlying ty = some d) (hd : (match d with | .struct _ | .array _ _ => true | _ => false) = true) (hi : (P.info? ty).map (·.size) = some cs.size) :
    (results fn tmps).run P w = .ok (.tuple #[.agg cs, tmps.getD u1 undef]) w := by
  have hp' : tmps[p]?.getD undef = .pointer (some ⟨g, 0, none⟩) := by simpa using hp
  simp [results, h, hp', asAddr, run_loadVar_row w g t ty cs fr d hg hu hd hi, Sem.run_bind, Result.andThen]

set_option maxRecDepth 100000 in
set_option maxHeartbeats 4000000 in
theorem meets_raw (node th old : Int) (su : Bool) (g n r : Int) (S cs : Nat) (As : Option Addr) (a b f : Int) (T ct : Nat) (At : Option Addr) (K ck : Nat) (Ak : Option Addr) (th' old' : Int) (su' : Bool) (g' n' r' : Int) (S' : Nat) (SL : List Sl) (a' b' f' : Int) (T' : Nat) (TL : List Rg) (K' : Nat) (KL : List Int) (kind frm tto mine yours fa fb inode iseq ioff bnode bseq boff dest prio born life total : Int) (data : ByteArray) (v : Int) (ow : Bool) (w : World)
    (MT : ∀ w', Below w.heap.size w w' → Calls Try.prog 18 #[.agg #[.int .i64 node, .int .u64 th, .bool su, .int .u64 old, .int .u64 g, .int .u64 n, .int .u64 r, .slice As S cs, .int .u64 a, .int .u64 b, .int .u64 f, .slice At T ct, .slice Ak K ck], .int .u64 4, .agg #[.int .i64 kind, .int .i64 frm, .int .i64 tto, .int .u64 mine, .int .u64 yours, .int .u64 fa, .int .u64 fb, .int .i64 inode, .int .u64 iseq, .int .i64 ioff, .int .i64 bnode, .int .u64 bseq, .int .i64 boff, .int .i64 dest, .int .i64 prio, .int .i64 born, .int .i64 life, .int .i64 total, .string data]] w' (fun e w'' => ∃ As' cs' At' ct' Ak' ck', e = .returned (.tuple #[.agg #[.int .i64 2, .int .u64 th', .bool su', .int .u64 old', .int .u64 g', .int .u64 n', .int .u64 r', .slice As' S' cs', .int .u64 a', .int .u64 b', .int .u64 f', .slice At' T' ct', .slice Ak' K' ck'], .int .i64 v, .bool ow, .int .i64 0]) ∧ (SlsB (w'.heap.size) (w'') (.slice As' S' cs') SL ∧ RgsB (w'.heap.size) (w'') (.slice At' T' ct') TL ∧ KpsB (w'.heap.size) (w'') (.slice Ak' K' ck') KL) ∧ Below w'.heap.size w' w'')) :
    Calls Try.prog 30 #[.agg #[.int .i64 node, .int .u64 th, .bool su, .int .u64 old, .int .u64 g, .int .u64 n, .int .u64 r, .slice As S cs, .int .u64 a, .int .u64 b, .int .u64 f, .slice At T ct, .slice Ak K ck], .agg #[.int .i64 kind, .int .i64 frm, .int .i64 tto, .int .u64 mine, .int .u64 yours, .int .u64 fa, .int .u64 fb, .int .i64 inode, .int .u64 iseq, .int .i64 ioff, .int .i64 bnode, .int .u64 bseq, .int .i64 boff, .int .i64 dest, .int .i64 prio, .int .i64 born, .int .i64 life, .int .i64 total, .string data], .int .i64 v, .bool ow, .int .u64 th', .bool su'] w (fun e w' => ∃ As' cs' At' ct' Ak' ck', e = .returned (.tuple #[.agg #[.int .i64 2, .int .u64 th', .bool su', .int .u64 old', .int .u64 g', .int .u64 n', .int .u64 r', .slice As' S' cs', .int .u64 a', .int .u64 b', .int .u64 f', .slice At' T' ct', .slice Ak' K' ck'], .bool true]) ∧ (SlsB (w.heap.size) (w') (.slice As' S' cs') SL ∧ RgsB (w.heap.size) (w') (.slice At' T' ct') TL ∧ KpsB (w.heap.size) (w') (.slice Ak' K' ck') KL) ∧ Below w.heap.size w w') := by
  have MT' := Lib.hid MT
  clear MT
  go_enter Try.func30, Try.ntmps30
  go_upto_region 1 with fail
  have k0 := (Blk.new w 31 #[.int .i64 node, .int .u64 th, .bool su, .int .u64 old, .int .u64 g, .int .u64 n, .int .u64 r, .slice As S cs, .int .u64 a, .int .u64 b, .int .u64 f, .slice At T ct, .slice Ak K ck]).alloc (.cells #[.int .i64 kind, .int .i64 frm, .int .i64 tto, .int .u64 mine, .int .u64 yours, .int .u64 fa, .int .u64 fb, .int .i64 inode, .int .u64 iseq, .int .i64 ioff, .int .i64 bnode, .int .u64 bseq, .int .i64 boff, .int .i64 dest, .int .i64 prio, .int .i64 born, .int .i64 life, .int .i64 total, .string data] 51)
  have k0 := k0.alloc (.cells #[.int .i64 0, .int .u64 0, .bool false, .int .u64 0, .int .u64 0, .int .u64 0, .int .u64 0, .slice none 0 0, .int .u64 0, .int .u64 0, .int .u64 0, .slice none 0 0, .slice none 0 0] 31)
  have k1 := (Blk.new1 w (.cells #[.int .i64 node, .int .u64 th, .bool su, .int .u64 old, .int .u64 g, .int .u64 n, .int .u64 r, .slice As S cs, .int .u64 a, .int .u64 b, .int .u64 f, .slice At T ct, .slice Ak K ck] 31) 51 #[.int .i64 kind, .int .i64 frm, .int .i64 tto, .int .u64 mine, .int .u64 yours, .int .u64 fa, .int .u64 fb, .int .i64 inode, .int .u64 iseq, .int .i64 ioff, .int .i64 bnode, .int .u64 bseq, .int .i64 boff, .int .i64 dest, .int .i64 prio, .int .i64 born, .int .i64 life, .int .i64 total, .string data]).alloc (.cells #[.int .i64 0, .int .u64 0, .bool false, .int .u64 0, .int .u64 0, .int .u64 0, .int .u64 0, .slice none 0 0, .int .u64 0, .int .u64 0, .int .u64 0, .slice none 0 0, .slice none 0 0] 31)
  have k2 := Blk.new2 w (.cells #[.int .i64 node, .int .u64 th, .bool su, .int .u64 old, .int .u64 g, .int .u64 n, .int .u64 r, .slice As S cs, .int .u64 a, .int .u64 b, .int .u64 f, .slice At T ct, .slice Ak K ck] 31) (.cells #[.int .i64 kind, .int .i64 frm, .int .i64 tto, .int .u64 mine, .int .u64 yours, .int .u64 fa, .int .u64 fb, .int .i64 inode, .int .u64 iseq, .int .i64 ioff, .int .i64 bnode, .int .u64 bseq, .int .i64 boff, .int .i64 dest, .int .i64 prio, .int .i64 born, .int .i64 life, .int .i64 total, .string data] 51) 31 #[.int .i64 0, .int .u64 0, .bool false, .int .u64 0, .int .u64 0, .int .u64 0, .int .u64 0, .slice none 0 0, .int .u64 0, .int .u64 0, .int .u64 0, .slice none 0 0, .slice none 0 0]
  have hB := bal (bal (bal (Below.refl w.heap.size w) (.cells #[.int .i64 node, .int .u64 th, .bool su, .int .u64 old, .int .u64 g, .int .u64 n, .int .u64 r, .slice As S cs, .int .u64 a, .int .u64 b, .int .u64 f, .slice At T ct, .slice Ak K ck] 31)) (.cells #[.int .i64 kind, .int .i64 frm, .int .i64 tto, .int .u64 mine, .int .u64 yours, .int .u64 fa, .int .u64 fb, .int .i64 inode, .int .u64 iseq, .int .i64 ioff, .int .i64 bnode, .int .u64 bseq, .int .i64 boff, .int .i64 dest, .int .i64 prio, .int .i64 born, .int .i64 life, .int .i64 total, .string data] 51)) (.cells #[.int .i64 0, .int .u64 0, .bool false, .int .u64 0, .int .u64 0, .int .u64 0, .int .u64 0, .slice none 0 0, .int .u64 0, .int .u64 0, .int .u64 0, .slice none 0 0, .slice none 0 0] 31)
  have k3 : BK3 w w.heap.size 31 #[.int .i64 node, .int .u64 th, .bool su, .int .u64 old, .int .u64 g, .int .u64 n, .int .u64 r, .slice As S cs, .int .u64 a, .int .u64 b, .int .u64 f, .slice At T ct, .slice Ak K ck] (w.heap.size + 1) 51 #[.int .i64 kind, .int .i64 frm, .int .i64 tto, .int .u64 mine, .int .u64 yours, .int .u64 fa, .int .u64 fb, .int .i64 inode, .int .u64 iseq, .int .i64 ioff, .int .i64 bnode, .int .u64 bseq, .int .i64 boff, .int .i64 dest, .int .i64 prio, .int .i64 born, .int .i64 life, .int .i64 total, .string data] (w.heap.size + 1 + 1) 31 #[.int .i64 0, .int .u64 0, .bool false, .int .u64 0, .int .u64 0, .int .u64 0, .int .u64 0, .slice none 0 0, .int .u64 0, .int .u64 0, .int .u64 0, .slice none 0 0, .slice none 0 0] _ := ⟨k0, k1, k2, hB⟩
  clear k0 k1 k2
  have HG : Hid (w.heap.size ≤ w.heap.size + 1 + 1) := Lib.hid (by omega)
  have HW : Hid (w.heap.size + 1 + 1 + 1 ≤ (((w.alloc (.cells #[.int .i64 node, .int .u64 th, .bool su, .int .u64 old, .int .u64 g, .int .u64 n, .int .u64 r, .slice As S cs, .int .u64 a, .int .u64 b, .int .u64 f, .slice At T ct, .slice Ak K ck] 31)).alloc (.cells #[.int .i64 kind, .int .i64 frm, .int .i64 tto, .int .u64 mine, .int .u64 yours, .int .u64 fa, .int .u64 fb, .int .i64 inode, .int .u64 iseq, .int .i64 ioff, .int .i64 bnode, .int .u64 bseq, .int .i64 boff, .int .i64 dest, .int .i64 prio, .int .i64 born, .int .i64 life, .int .i64 total, .string data] 51)).alloc (.cells #[.int .i64 0, .int .u64 0, .bool false, .int .u64 0, .int .u64 0, .int .u64 0, .int .u64 0, .slice none 0 0, .int .u64 0, .int .u64 0, .int .u64 0, .slice none 0 0, .slice none 0 0] 31)).heap.size) := Lib.hid (by simp)
  generalize hW : ((w.alloc (.cells #[.int .i64 node, .int .u64 th, .bool su, .int .u64 old, .int .u64 g, .int .u64 n, .int .u64 r, .slice As S cs, .int .u64 a, .int .u64 b, .int .u64 f, .slice At T ct, .slice Ak K ck] 31)).alloc (.cells #[.int .i64 kind, .int .i64 frm, .int .i64 tto, .int .u64 mine, .int .u64 yours, .int .u64 fa, .int .u64 fb, .int .i64 inode, .int .u64 iseq, .int .i64 ioff, .int .i64 bnode, .int .u64 bseq, .int .i64 boff, .int .i64 dest, .int .i64 prio, .int .i64 born, .int .i64 life, .int .i64 total, .string data] 51)).alloc (.cells #[.int .i64 0, .int .u64 0, .bool false, .int .u64 0, .int .u64 0, .int .u64 0, .int .u64 0, .slice none 0 0, .int .u64 0, .int .u64 0, .int .u64 0, .slice none 0 0, .slice none 0 0] 31) = W at k3 hB HW ⊢
  clear hW
  obtain ⟨g2, hg2⟩ : ∃ g2, w.heap.size + 1 + 1 = g2 := ⟨_, rfl⟩
  obtain ⟨g1, hg1⟩ : ∃ g1, w.heap.size + 1 = g1 := ⟨_, rfl⟩
  rw [hg2] at k3 HG HW ⊢
  rw [hg1] at k3 ⊢
  obtain ⟨g0, hg0⟩ : ∃ g0, w.heap.size = g0 := ⟨_, rfl⟩
  rw [hg0] at k3 HG ⊢
  have HG0 := Lib.hid hg0
  clear hg2 hg1 hg0
  have kb := k3.b
  have kc := k3.c
  have K1 := Lib.hid k3
  clear k3
  go_wp2_with (first | (refine wpList_load_row (by rfl) 31 _ (by rfl) g0 (by rfl) 31 #[.int .i64 node, .int .u64 th, .bool su, .int .u64 old, .int .u64 g, .int .u64 n, .int .u64 r, .slice As S cs, .int .u64 a, .int .u64 b, .int .u64 f, .slice At T ct, .slice Ak K ck] (0, 0) _ kb Try.underlying31 (by rfl) (by kernel_rfl) ?_) | (refine wpList_load_row (by rfl) 51 _ (by rfl) g1 (by rfl) 51 #[.int .i64 kind, .int .i64 frm, .int .i64 tto, .int .u64 mine, .int .u64 yours, .int .u64 fa, .int .u64 fb, .int .i64 inode, .int .u64 iseq, .int .i64 ioff, .int .i64 bnode, .int .u64 bseq, .int .i64 boff, .int .i64 dest, .int .i64 prio, .int .i64 born, .int .i64 life, .int .i64 total, .string data] (0, 0) _ kc Try.underlying51 (by rfl) (by kernel_rfl) ?_))
  refine (MT'.out _ hB).mono ?_
  rintro e w1 ⟨As', cs', At', ct', Ak', ck', rfl, ⟨Rs, Rt, Rk⟩, hb1⟩
  have kk := K1.out.below hb1
  have RR : Hid (SlsB (g2 + 1) (w1.alloc (.cells #[.int .i64 2, .int .u64 th', .bool su', .int .u64 old', .int .u64 g', .int .u64 n', .int .u64 r', .slice As' S' cs', .int .u64 a', .int .u64 b', .int .u64 f', .slice At' T' ct', .slice Ak' K' ck'] 31)) (.slice As' S' cs') SL ∧ RgsB (g2 + 1) (w1.alloc (.cells #[.int .i64 2, .int .u64 th', .bool su', .int .u64 old', .int .u64 g', .int .u64 n', .int .u64 r', .slice As' S' cs', .int .u64 a', .int .u64 b', .int .u64 f', .slice At' T' ct', .slice Ak' K' ck'] 31)) (.slice At' T' ct') TL ∧ KpsB (g2 + 1) (w1.alloc (.cells #[.int .i64 2, .int .u64 th', .bool su', .int .u64 old', .int .u64 g', .int .u64 n', .int .u64 r', .slice As' S' cs', .int .u64 a', .int .u64 b', .int .u64 f', .slice At' T' ct', .slice Ak' K' ck'] 31)) (.slice Ak' K' ck') KL) := Lib.hid ⟨(Rs.low HW.out).alloc _, (Rt.low HW.out).alloc _, (Rk.low HW.out).alloc _⟩
  clear K1 hB hb1 kb kc MT' Rs Rt Rk
  have hl2 := kk.d.lt
  have KK := Lib.hid kk
  clear kk
  go_upto_region 2 with (first | (refine wpList_alloc_z (by rfl) 31 (by rfl) _ rfl #[.int .i64 0, .int .u64 0, .bool false, .int .u64 0, .int .u64 0, .int .u64 0, .int .u64 0, .slice none 0 0, .int .u64 0, .int .u64 0, .int .u64 0, .slice none 0 0, .slice none 0 0] (fun w => by kernel_rfl) ?_) | (refine wpList_store_new (by rfl) 31 _ _ (by rfl) w1 #[.int .i64 0, .int .u64 0, .bool false, .int .u64 0, .int .u64 0, .int .u64 0, .int .u64 0, .slice none 0 0, .int .u64 0, .int .u64 0, .int .u64 0, .slice none 0 0, .slice none 0 0] #[.int .i64 2, .int .u64 th', .bool su', .int .u64 old', .int .u64 g', .int .u64 n', .int .u64 r', .slice As' S' cs', .int .u64 a', .int .u64 b', .int .u64 f', .slice At' T' ct', .slice Ak' K' ck'] rfl (by rfl) (by rfl) (by kernel_rfl) rfl (by kernel_rfl) ?_))
  have q0 : Blk (w1.alloc (.cells #[.int .i64 2, .int .u64 th', .bool su', .int .u64 old', .int .u64 g', .int .u64 n', .int .u64 r', .slice As' S' cs', .int .u64 a', .int .u64 b', .int .u64 f', .slice At' T' ct', .slice Ak' K' ck'] 31)) g2 31 #[.int .i64 0, .int .u64 0, .bool false, .int .u64 0, .int .u64 0, .int .u64 0, .int .u64 0, .slice none 0 0, .int .u64 0, .int .u64 0, .int .u64 0, .slice none 0 0, .slice none 0 0] := KK.out.d.alloc _
  have q1 := Blk.new w1 31 #[.int .i64 2, .int .u64 th', .bool su', .int .u64 old', .int .u64 g', .int .u64 n', .int .u64 r', .slice As' S' cs', .int .u64 a', .int .u64 b', .int .u64 f', .slice At' T' ct', .slice Ak' K' ck']
  have hB := bal KK.out.hB (.cells #[.int .i64 2, .int .u64 th', .bool su', .int .u64 old', .int .u64 g', .int .u64 n', .int .u64 r', .slice As' S' cs', .int .u64 a', .int .u64 b', .int .u64 f', .slice At' T' ct', .slice Ak' K' ck'] 31)
  have hlt : g2 < w1.heap.size := hl2
  obtain ⟨g3, hg3⟩ : ∃ g3, w1.heap.size = g3 := ⟨_, rfl⟩
  rw [hg3] at q1 hlt ⊢
  generalize w1.alloc (.cells #[.int .i64 2, .int .u64 th', .bool su', .int .u64 old', .int .u64 g', .int .u64 n', .int .u64 r', .slice As' S' cs', .int .u64 a', .int .u64 b', .int .u64 f', .slice At' T' ct', .slice Ak' K' ck'] 31) = W2 at q0 q1 hB RR ⊢
  have SM0 : BK2 w g3 31 #[.int .i64 2, .int .u64 th', .bool su', .int .u64 old', .int .u64 g', .int .u64 n', .int .u64 r', .slice As' S' cs', .int .u64 a', .int .u64 b', .int .u64 f', .slice At' T' ct', .slice Ak' K' ck'] g2 31 #[.int .i64 0, .int .u64 0, .bool false, .int .u64 0, .int .u64 0, .int .u64 0, .int .u64 0, .slice none 0 0, .int .u64 0, .int .u64 0, .int .u64 0, .slice none 0 0, .slice none 0 0] W2.drew := BK2.drew ⟨q1, q0, hB⟩
  have NE : Hid (¬ g3 = g2) := Lib.hid (by omega)
  replace RR : Hid (SlsB (g2 + 1) (W2.drew) (.slice As' S' cs') SL ∧ RgsB (g2 + 1) (W2.drew) (.slice At' T' ct') TL ∧ KpsB (g2 + 1) (W2.drew) (.slice Ak' K' ck') KL) := RR
  clear q0 q1 hB KK hl2 hg3 hlt
  refine wp_region_held_drew (S := fun wx => Below w.heap.size w wx ∧ Blk wx g3 31 #[.int .i64 2, .int .u64 th', .bool su', .int .u64 old', .int .u64 g', .int .u64 n', .int .u64 r', .slice As' S' cs', .int .u64 a', .int .u64 b', .int .u64 f', .slice At' T' ct', .slice Ak' K' ck']) (by kernel_rfl) ⟨SM0.hB, SM0.b⟩ (fun hH => ?_)
  refine tkH 0 rfl (yieldsIf_row (g3) 31 #[.int .i64 2, .int .u64 th', .bool su', .int .u64 old', .int .u64 g', .int .u64 n', .int .u64 r', .slice As' S' cs', .int .u64 a', .int .u64 b', .int .u64 f', .slice At' T' ct', .slice Ak' K' ck'] 31 _ _ rfl rfl rfl (fun w h => h.2) Try.underlying31 rfl (by kernel_rfl)) hH ?_
  simp only [zz1, zz2, zz3, Act.put, zz4, zz5, zz6]
  refine tkH 1 rfl (yieldsIf_pure _ (.int .i64 0) rfl (.inl rfl) rfl) hH ?_
  simp only [zz1, zz2, zz3, Act.put, zz4, zz5, zz6]
  refine tkH 2 rfl (yieldsIf_cell (.bool true) rfl (fun w h => by go_simp)) hH ?_
  simp only [zz1, zz2, zz3, Act.put, zz4, zz5, zz6]
  refine tkH 3 rfl (yieldsIf_pure _ (.bool true) rfl (.inl rfl) rfl) hH ?_
  simp only [zz1, zz2, zz3, Act.put, zz4, zz5, zz6]
  refine tkH 4 rfl (yieldsIf_pure _ (.int .i64 v) rfl (.inl rfl) rfl) hH ?_
  simp only [zz1, zz2, zz3, Act.put, zz4, zz5, zz6]
  refine tkH 5 rfl (yieldsIf_pure _ (.int .i64 v) rfl (.inl rfl) rfl) hH ?_
  simp only [zz1, zz2, zz3, Act.put, zz4, zz5, zz6]
  refine tkH 6 rfl (yieldsIf_cell (.bool true) rfl (fun w h => by go_simp)) hH ?_
  simp only [zz1, zz2, zz3, Act.put, zz4, zz5, zz6]
  refine tkH 7 rfl (yieldsIf_cell (.bool true) rfl (fun w h => by go_simp)) hH ?_
  simp only [zz1, zz2, zz3, Act.put, zz4, zz5, zz6]
  refine tkH 8 rfl (yieldsIf_pure _ (.bool true) rfl (.inl rfl) rfl) hH ?_
  simp only [zz1, zz2, zz3, Act.put, zz4, zz5, zz6]
  refine tkH 9 rfl (yieldsIf_pure _ (.bool ow) rfl (.inl rfl) rfl) hH ?_
  simp only [zz1, zz2, zz3, Act.put, zz4, zz5, zz6]
  refine tkH 10 rfl (yieldsIf_pure _ (.bool ow) rfl (.inl rfl) rfl) hH ?_
  simp only [zz1, zz2, zz3, Act.put, zz4, zz5, zz6]
  refine tkH 11 rfl (yieldsIf_cell (.bool true) rfl (fun w h => by go_simp)) hH ?_
  simp only [zz1, zz2, zz3, Act.put, zz4, zz5, zz6]
  refine tkH 12 rfl (yieldsIf_cell (.bool true) rfl (fun w h => by go_simp)) hH ?_
  simp only [zz1, zz2, zz3, Act.put, zz4, zz5, zz6]
  refine tkH 13 rfl (yieldsIf_pure _ (.bool true) rfl (.inl rfl) rfl) hH ?_
  simp only [zz1, zz2, zz3, Act.put, zz4, zz5, zz6]
  refine tkH 14 rfl (yieldsIf_cell (.pointer (some ⟨g3, 1, none⟩)) rfl (fun w h => by go_simp)) hH ?_
  simp only [zz1, zz2, zz3, Act.put, zz4, zz5, zz6]
  refine tkH 15 rfl (yieldsIf_cell (.int .u64 th') rfl (fun w h => by have j0 : w.cell? ⟨g3, 1, none⟩ = some (.int .u64 th') := (h.2).cell 1; go_simp)) hH ?_
  simp only [zz1, zz2, zz3, Act.put, zz4, zz5, zz6]
  refine tkH 16 rfl (yieldsIf_pure _ (.int .u64 th') rfl (.inl rfl) rfl) hH ?_
  simp only [zz1, zz2, zz3, Act.put, zz4, zz5, zz6]
  refine tkH 17 rfl (yieldsIf_cell (.bool true) rfl (fun w h => by go_simp)) hH ?_
  simp only [zz1, zz2, zz3, Act.put, zz4, zz5, zz6]
  refine tkH 18 rfl (yieldsIf_cell (.bool true) rfl (fun w h => by go_simp)) hH ?_
  simp only [zz1, zz2, zz3, Act.put, zz4, zz5, zz6]
  refine tkH 19 rfl (yieldsIf_pure _ (.bool true) rfl (.inl rfl) rfl) hH ?_
  simp only [zz1, zz2, zz3, Act.put, zz4, zz5, zz6]
  refine tkH 20 rfl (yieldsIf_cell (.pointer (some ⟨g3, 2, none⟩)) rfl (fun w h => by go_simp)) hH ?_
  simp only [zz1, zz2, zz3, Act.put, zz4, zz5, zz6]
  refine tkH 21 rfl (yieldsIf_cell (.bool su') rfl (fun w h => by have j0 : w.cell? ⟨g3, 2, none⟩ = some (.bool su') := (h.2).cell 2; go_simp)) hH ?_
  simp only [zz1, zz2, zz3, Act.put, zz4, zz5, zz6]
  refine tkH 22 rfl (yieldsIf_pure _ (.bool su') rfl (.inl rfl) rfl) hH ?_
  simp only [zz1, zz2, zz3, Act.put, zz4, zz5, zz6]
  refine tkH 23 rfl (yieldsIf_cell (.bool true) rfl (fun w h => by go_simp)) hH ?_
  simp only [zz1, zz2, zz3, Act.put, zz4, zz5, zz6]
  refine tkH 24 rfl (yieldsIf_cell (.bool true) rfl (fun w h => by go_simp)) hH ?_
  simp only [zz1, zz2, zz3, Act.put, zz4, zz5, zz6]
  refine tkH 25 rfl (yieldsIf_pure _ (.bool true) rfl (.inl rfl) rfl) hH ?_
  simp only [zz1, zz2, zz3, Act.put, zz4, zz5, zz6]
  refine tkH 26 rfl (yieldsIf_cell (.pointer (some ⟨g3, 0, none⟩)) rfl (fun w h => by go_simp)) hH ?_
  simp only [zz1, zz2, zz3, Act.put, zz4, zz5, zz6]
  refine tkH 27 rfl (yieldsIf_cell (.int .i64 2) rfl (fun w h => by have j0 : w.cell? ⟨g3, 0, none⟩ = some (.int .i64 2) := (h.2).cell 0; go_simp)) hH ?_
  simp only [zz1, zz2, zz3, Act.put, zz4, zz5, zz6]
  refine tkH 28 rfl (yieldsIf_cell (.bool true) rfl (fun w h => by go_simp)) hH ?_
  simp only [zz1, zz2, zz3, Act.put, zz4, zz5, zz6]
  refine tkH 29 rfl (yieldsIf_cell (.bool true) rfl (fun w h => by go_simp)) hH ?_
  simp only [zz1, zz2, zz3, Act.put, zz4, zz5, zz6]
  refine rdH [30] ?_
  refine c1H rfl fun KK hK => ?_
  rw [if_pos (by rfl)]
  refine wp_store_mid 31 _ _ rfl g2 0 #[.int .i64 2, .int .u64 th', .bool su', .int .u64 old', .int .u64 g', .int .u64 n', .int .u64 r', .slice As' S' cs', .int .u64 a', .int .u64 b', .int .u64 f', .slice At' T' ct', .slice Ak' K' ck'] rfl rfl (Blk.there SM0.c 0 _ (Nat.le_refl 13)) (by kernel_rfl) (by kernel_rfl) ?_
  have SM1 : Blk (W2.drew.setCells g2 0 (Array.toList #[.int .i64 2, .int .u64 th', .bool su', .int .u64 old', .int .u64 g', .int .u64 n', .int .u64 r', .slice As' S' cs', .int .u64 a', .int .u64 b', .int .u64 f', .slice At' T' ct', .slice Ak' K' ck'])) g2 31 #[.int .i64 2, .int .u64 th', .bool su', .int .u64 old', .int .u64 g', .int .u64 n', .int .u64 r', .slice As' S' cs', .int .u64 a', .int .u64 b', .int .u64 f', .slice At' T' ct', .slice Ak' K' ck'] := SM0.c.setAll rfl
  have hB1 : Below w.heap.size w (W2.drew.setCells g2 0 (Array.toList #[.int .i64 2, .int .u64 th', .bool su', .int .u64 old', .int .u64 g', .int .u64 n', .int .u64 r', .slice As' S' cs', .int .u64 a', .int .u64 b', .int .u64 f', .slice At' T' ct', .slice Ak' K' ck'])) := below_setCells (by have := HG.out; have := HG0.out; omega) _ _ SM0.hB
  refine hK.out _ _ ⟨hB1, SM0.b.farAll NE.out _ _⟩ (fun hH3 => ?_)
  clear hK KK
  simp only [zz1, zz2, zz3, Act.put, zz4, zz5, zz6]
  refine tkH 31 rfl (yieldsIf_pure _ (.bool true) rfl (.inr rfl) rfl) hH3 ?_
  simp only [zz1, zz2, zz3, Act.put, zz4, zz5, zz6]
  refine wpAnyH_done (by kernel_rfl) ?_ _
  go_wp2_with fail
  refine bodyPost_ret (results_cell_t rfl _ _ g2 31 #[.int .i64 2, .int .u64 th', .bool su', .int .u64 old', .int .u64 g', .int .u64 n', .int .u64 r', .slice As' S' cs', .int .u64 a', .int .u64 b', .int .u64 f', .slice At' T' ct', .slice Ak' K' ck'] (0, 0) _ rfl SM1 Try.underlying31 (by rfl) (by kernel_rfl)) rfl ?_
  have hG : w.heap.size ≤ g2 + 1 := by have := HG.out; have := HG0.out; omega
  exact ⟨As', cs', At', ct', Ak', ck', rfl, ⟨(RR.out.1.setCells (by omega) _ _).low hG, (RR.out.2.1.setCells (by omega) _ _).low hG, (RR.out.2.2.setCells (by omega) _ _).low hG⟩, hB1⟩

end Go.Proofs.Ytfgkkflbpfocjaa

