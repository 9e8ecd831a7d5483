/- Small helpers of the laws: frames, sizes, what is held. A frame met, as the law asks it. The plain law of credit: what a sender may still use, and what is on its way, is reserved at the receiver; no program in sight. The plain law of credit, step by step: what stays true of two nodes and the frames under way; no program in sight. The examples that every law of this package asks. -/
import Derived.Test.YtfgkkflbpfocjaaZ6
import Derived.Test.YtfgkkflbpfocjaaZ1
import Derived.Test.YtfgkkflbpfocjaaZ3
namespace Go.Proofs.Ytfgkkflbpfocjaa
open Go.RowKit
set_option linter.unusedVariables false
set_option linter.unusedSimpArgs false

/-- a Hello and a Grant from the node 2 to the node 1 -/
def hlo (mine yours : Int) : Fr := ⟨1, 2, 1, mine, yours, 0, 0, 0, 0, 0, zBn⟩
def grt (mine yours : Int) : Fr := ⟨2, 2, 1, mine, yours, 5, 0, 0, 0, 0, zBn⟩
theorem one19 : ∀ (k f t m y a b n0 n1 n2 n3 n4 n5 n6 n7 n8 n9 n10 : Int) (s : ByteArray), (#[.int .i64 k, .int .i64 f, .int .i64 t, .int .u64 m, .int .u64 y, .int .u64 a, .int .u64 b, .int .i64 n0, .int .u64 n1, .int .i64 n2, .int .i64 n3, .int .u64 n4, .int .i64 n5, .int .i64 n6, .int .i64 n7, .int .i64 n8, .int .i64 n9, .int .i64 n10, .string s] : Array Value).all (·.oneCell') = true := fun _ _ _ _ _ _ _ _ _ _ _ _ _ _ _ _ _ _ _ => by kernel_rfl

set_option maxRecDepth 100000 in
set_option maxHeartbeats 1000000 in
theorem hello_any (mine yours : Int) (w : World) : Calls Try.prog 31 #[.int .u64 mine, .int .u64 yours] w (fun e w' => e = .returned (Fr.val (hlo mine yours)) ∧ Below w.heap.size w w') := by
  go_enter Try.func31, Try.ntmps31
  go_wp2_with (first | (refine wpList_alloc_z (by rfl) 51 (by rfl) _ rfl _ zeroFr ?_) | (refine wpList_buildTo (by rfl) 51 _ (by rfl) _ rfl #[.int .i64 1, .int .i64 2, .int .i64 1, .int .u64 mine, .int .u64 yours, .int .u64 0, .int .u64 0, .int .i64 0, .int .u64 0, .int .i64 0, .int .i64 0, .int .u64 0, .int .i64 0, .int .i64 0, .int .i64 0, .int .i64 0, .int .i64 0, .int .i64 0, .string ⟨#[]⟩] (by kernel_rfl) ?_) | (refine wpList_store_new (by rfl) 51 _ _ (by rfl) w #[.int .i64 0, .int .i64 0, .int .i64 0, .int .u64 0, .int .u64 0, .int .u64 0, .int .u64 0, .int .i64 0, .int .u64 0, .int .i64 0, .int .i64 0, .int .u64 0, .int .i64 0, .int .i64 0, .int .i64 0, .int .i64 0, .int .i64 0, .int .i64 0, .string ⟨#[]⟩] #[.int .i64 1, .int .i64 2, .int .i64 1, .int .u64 mine, .int .u64 yours, .int .u64 0, .int .u64 0, .int .i64 0, .int .u64 0, .int .i64 0, .int .i64 0, .int .u64 0, .int .i64 0, .int .i64 0, .int .i64 0, .int .i64 0, .int .i64 0, .int .i64 0, .string ⟨#[]⟩] rfl (by rfl) (by rfl) (by kernel_rfl) rfl (one19 ..) ?_))
  refine bodyPost_ret (results_cell_row rfl _ _ w.heap.size 51 #[.int .i64 1, .int .i64 2, .int .i64 1, .int .u64 mine, .int .u64 yours, .int .u64 0, .int .u64 0, .int .i64 0, .int .u64 0, .int .i64 0, .int .i64 0, .int .u64 0, .int .i64 0, .int .i64 0, .int .i64 0, .int .i64 0, .int .i64 0, .int .i64 0, .string ⟨#[]⟩] (0, 0) _ rfl (World.alloc_heap_new w _) Try.underlying51 (by rfl) (by kernel_rfl)) rfl ?_
  exact ⟨rfl, bal (Below.refl _ _) _⟩

set_option maxRecDepth 100000 in
set_option maxHeartbeats 1000000 in
theorem grant_any (mine yours : Int) (w : World) : Calls Try.prog 24 #[.int .u64 mine, .int .u64 yours] w (fun e w' => e = .returned (Fr.val (grt mine yours)) ∧ Below w.heap.size w w') := by
  go_enter Try.func24, Try.ntmps24
  go_wp2_with (first | (refine wpList_alloc_z (by rfl) 51 (by rfl) _ rfl _ zeroFr ?_) | (refine wpList_buildTo (by rfl) 51 _ (by rfl) _ rfl #[.int .i64 2, .int .i64 2, .int .i64 1, .int .u64 mine, .int .u64 yours, .int .u64 5, .int .u64 0, .int .i64 0, .int .u64 0, .int .i64 0, .int .i64 0, .int .u64 0, .int .i64 0, .int .i64 0, .int .i64 0, .int .i64 0, .int .i64 0, .int .i64 0, .string ⟨#[]⟩] (by kernel_rfl) ?_) | (refine wpList_store_new (by rfl) 51 _ _ (by rfl) w #[.int .i64 0, .int .i64 0, .int .i64 0, .int .u64 0, .int .u64 0, .int .u64 0, .int .u64 0, .int .i64 0, .int .u64 0, .int .i64 0, .int .i64 0, .int .u64 0, .int .i64 0, .int .i64 0, .int .i64 0, .int .i64 0, .int .i64 0, .int .i64 0, .string ⟨#[]⟩] #[.int .i64 2, .int .i64 2, .int .i64 1, .int .u64 mine, .int .u64 yours, .int .u64 5, .int .u64 0, .int .i64 0, .int .u64 0, .int .i64 0, .int .i64 0, .int .u64 0, .int .i64 0, .int .i64 0, .int .i64 0, .int .i64 0, .int .i64 0, .int .i64 0, .string ⟨#[]⟩] rfl (by rfl) (by rfl) (by kernel_rfl) rfl (one19 ..) ?_))
  refine bodyPost_ret (results_cell_row rfl _ _ w.heap.size 51 #[.int .i64 2, .int .i64 2, .int .i64 1, .int .u64 mine, .int .u64 yours, .int .u64 5, .int .u64 0, .int .i64 0, .int .u64 0, .int .i64 0, .int .i64 0, .int .u64 0, .int .i64 0, .int .i64 0, .int .i64 0, .int .i64 0, .int .i64 0, .int .i64 0, .string ⟨#[]⟩] (0, 0) _ rfl (World.alloc_heap_new w _) Try.underlying51 (by rfl) (by kernel_rfl)) rfl ?_
  exact ⟨rfl, bal (Below.refl _ _) _⟩

set_option maxHeartbeats 1000000 in
theorem large_any (p : Pr) (V : Value) (w : World) (hV : PrAt w V p) : Calls Try.prog 11 #[V] w (RetB (decide (110 < p.s.sl.length ∨ 60 < p.r.tk.length ∨ 60 < p.r.kp.length)) w) := by
  obtain ⟨vs, vt, vk, rfl, hs, ht, hk⟩ := hV
  obtain ⟨As, cs, rfl⟩ := hs.form
  obtain ⟨At, ct, rfl⟩ := ht.form
  obtain ⟨Ak, ck, rfl⟩ := hk.form
  clear hs ht hk
  obtain ⟨node, th, su, old, ⟨g, n, r, S⟩, ⟨a, b, f, T, K⟩⟩ := p
  dsimp only at *
  have hB := bal (Below.refl w.heap.size w) (.cells #[.int .i64 node, .int .u64 th, .bool su, .int .u64 old, .int .u64 g, .int .u64 n, .int .u64 r, .slice As S.length cs, .int .u64 a, .int .u64 b, .int .u64 f, .slice At T.length ct, .slice Ak K.length ck] 31)
  have HB := Lib.hid hB
  clear hB
  by_cases h1 : 110 < S.length
  · have hd : decide ((S.length : Int) > 110) = true := by simp; omega
    have E : Hid (decide (110 < S.length ∨ 60 < T.length ∨ 60 < K.length) = true) := Lib.hid (by simp; omega)
    go_enter Try.func11, Try.ntmps11
    go_wp2_with fail
    go_ret
    exact ⟨by rw [E.out]; first | rfl | exact ret_bool (by simp; omega), HB.out⟩
  · by_cases h2 : 60 < T.length
    · have hd : decide ((T.length : Int) > 60) = true := by simp; omega
      have E : Hid (decide (110 < S.length ∨ 60 < T.length ∨ 60 < K.length) = true) := Lib.hid (by simp; omega)
      go_enter Try.func11, Try.ntmps11
      go_wp2_with fail
      go_ret
      exact ⟨by rw [E.out]; first | rfl | exact ret_bool (by simp; omega), HB.out⟩
    · by_cases h3 : 60 < K.length
      · have E : Hid (decide (110 < S.length ∨ 60 < T.length ∨ 60 < K.length) = true) := Lib.hid (by simp; omega)
        go_enter Try.func11, Try.ntmps11
        go_wp2_with fail
        go_ret
        exact ⟨by rw [E.out]; first | rfl | exact ret_bool (by simp; omega), HB.out⟩
      · have E : Hid (decide (110 < S.length ∨ 60 < T.length ∨ 60 < K.length) = false) := Lib.hid (by simp; omega)
        go_enter Try.func11, Try.ntmps11
        go_wp2_with fail
        go_ret
        exact ⟨by rw [E.out]; first | rfl | exact ret_bool (by simp; omega), HB.out⟩

end Go.Proofs.Ytfgkkflbpfocjaa

namespace Go.Proofs.Ytfgkkflbpfocjaa
open Go.RowKit
set_option linter.unusedVariables false
set_option linter.unusedSimpArgs false

/-- the results: a struct in a cell, and one more -/
theorem results_cell_t {P : Program} {fn : Func} {p u1 : Tmp} {ty : TypeId} (h : fn.results = #[.cell p ty, .tmp u1]) (tmps : Array Value) (w : World) (g : Nat) (t : TypeId) (cs : Array Value) (fr : Nat × Nat) (d : TypeDesc)
    (hp : tmps.getD p undef = .pointer (some ⟨g, 0, none⟩)) (hg : w.heap[g]? = some (.cells cs t fr))
    (hu : P.underlying ty = some d) (hd : (match d with | .struct _ | .array _ _ => true | _ => false) = true) (hi : (P.info? ty).map (·.size) = some cs.size) :
    (results fn tmps).run P w = .ok (.tuple #[.agg cs, tmps.getD u1 undef]) w := by
  have hp' : tmps[p]?.getD undef = .pointer (some ⟨g, 0, none⟩) := by simpa using hp
  simp [results, h, hp', asAddr, run_loadVar_row w g t ty cs fr d hg hu hd hi, Sem.run_bind, Result.andThen]

set_option maxRecDepth 100000 in
set_option maxHeartbeats 4000000 in
theorem meets_raw (node th old : Int) (su : Bool) (g n r : Int) (S cs : Nat) (As : Option Addr) (a b f : Int) (T ct : Nat) (At : Option Addr) (K ck : Nat) (Ak : Option Addr) (th' old' : Int) (su' : Bool) (g' n' r' : Int) (S' : Nat) (SL : List Sl) (a' b' f' : Int) (T' : Nat) (TL : List Rg) (K' : Nat) (KL : List Int) (kind frm tto mine yours fa fb inode iseq ioff bnode bseq boff dest prio born life total : Int) (data : ByteArray) (v : Int) (ow : Bool) (w : World)
    (MT : ∀ w', Below w.heap.size w w' → Calls Try.prog 18 #[.agg #[.int .i64 node, .int .u64 th, .bool su, .int .u64 old, .int .u64 g, .int .u64 n, .int .u64 r, .slice As S cs, .int .u64 a, .int .u64 b, .int .u64 f, .slice At T ct, .slice Ak K ck], .int .u64 4, .agg #[.int .i64 kind, .int .i64 frm, .int .i64 tto, .int .u64 mine, .int .u64 yours, .int .u64 fa, .int .u64 fb, .int .i64 inode, .int .u64 iseq, .int .i64 ioff, .int .i64 bnode, .int .u64 bseq, .int .i64 boff, .int .i64 dest, .int .i64 prio, .int .i64 born, .int .i64 life, .int .i64 total, .string data]] w' (fun e w'' => ∃ As' cs' At' ct' Ak' ck', e = .returned (.tuple #[.agg #[.int .i64 2, .int .u64 th', .bool su', .int .u64 old', .int .u64 g', .int .u64 n', .int .u64 r', .slice As' S' cs', .int .u64 a', .int .u64 b', .int .u64 f', .slice At' T' ct', .slice Ak' K' ck'], .int .i64 v, .bool ow, .int .i64 0]) ∧ (SlsB (w'.heap.size) (w'') (.slice As' S' cs') SL ∧ RgsB (w'.heap.size) (w'') (.slice At' T' ct') TL ∧ KpsB (w'.heap.size) (w'') (.slice Ak' K' ck') KL) ∧ Below w'.heap.size w' w'')) :
    Calls Try.prog 30 #[.agg #[.int .i64 node, .int .u64 th, .bool su, .int .u64 old, .int .u64 g, .int .u64 n, .int .u64 r, .slice As S cs, .int .u64 a, .int .u64 b, .int .u64 f, .slice At T ct, .slice Ak K ck], .agg #[.int .i64 kind, .int .i64 frm, .int .i64 tto, .int .u64 mine, .int .u64 yours, .int .u64 fa, .int .u64 fb, .int .i64 inode, .int .u64 iseq, .int .i64 ioff, .int .i64 bnode, .int .u64 bseq, .int .i64 boff, .int .i64 dest, .int .i64 prio, .int .i64 born, .int .i64 life, .int .i64 total, .string data], .int .i64 v, .bool ow, .int .u64 th', .bool su'] w (fun e w' => ∃ As' cs' At' ct' Ak' ck', e = .returned (.tuple #[.agg #[.int .i64 2, .int .u64 th', .bool su', .int .u64 old', .int .u64 g', .int .u64 n', .int .u64 r', .slice As' S' cs', .int .u64 a', .int .u64 b', .int .u64 f', .slice At' T' ct', .slice Ak' K' ck'], .bool true]) ∧ (SlsB (w.heap.size) (w') (.slice As' S' cs') SL ∧ RgsB (w.heap.size) (w') (.slice At' T' ct') TL ∧ KpsB (w.heap.size) (w') (.slice Ak' K' ck') KL) ∧ Below w.heap.size w w') := by
  have MT' := Lib.hid MT
  clear MT
  go_enter Try.func30, Try.ntmps30
  go_upto_region 1 with fail
  have k0 := (Blk.new w 31 #[.int .i64 node, .int .u64 th, .bool su, .int .u64 old, .int .u64 g, .int .u64 n, .int .u64 r, .slice As S cs, .int .u64 a, .int .u64 b, .int .u64 f, .slice At T ct, .slice Ak K ck]).alloc (.cells #[.int .i64 kind, .int .i64 frm, .int .i64 tto, .int .u64 mine, .int .u64 yours, .int .u64 fa, .int .u64 fb, .int .i64 inode, .int .u64 iseq, .int .i64 ioff, .int .i64 bnode, .int .u64 bseq, .int .i64 boff, .int .i64 dest, .int .i64 prio, .int .i64 born, .int .i64 life, .int .i64 total, .string data] 51)
  have k0 := k0.alloc (.cells #[.int .i64 0, .int .u64 0, .bool false, .int .u64 0, .int .u64 0, .int .u64 0, .int .u64 0, .slice none 0 0, .int .u64 0, .int .u64 0, .int .u64 0, .slice none 0 0, .slice none 0 0] 31)
  have k1 := (Blk.new1 w (.cells #[.int .i64 node, .int .u64 th, .bool su, .int .u64 old, .int .u64 g, .int .u64 n, .int .u64 r, .slice As S cs, .int .u64 a, .int .u64 b, .int .u64 f, .slice At T ct, .slice Ak K ck] 31) 51 #[.int .i64 kind, .int .i64 frm, .int .i64 tto, .int .u64 mine, .int .u64 yours, .int .u64 fa, .int .u64 fb, .int .i64 inode, .int .u64 iseq, .int .i64 ioff, .int .i64 bnode, .int .u64 bseq, .int .i64 boff, .int .i64 dest, .int .i64 prio, .int .i64 born, .int .i64 life, .int .i64 total, .string data]).alloc (.cells #[.int .i64 0, .int .u64 0, .bool false, .int .u64 0, .int .u64 0, .int .u64 0, .int .u64 0, .slice none 0 0, .int .u64 0, .int .u64 0, .int .u64 0, .slice none 0 0, .slice none 0 0] 31)
  have k2 := Blk.new2 w (.cells #[.int .i64 node, .int .u64 th, .bool su, .int .u64 old, .int .u64 g, .int .u64 n, .int .u64 r, .slice As S cs, .int .u64 a, .int .u64 b, .int .u64 f, .slice At T ct, .slice Ak K ck] 31) (.cells #[.int .i64 kind, .int .i64 frm, .int .i64 tto, .int .u64 mine, .int .u64 yours, .int .u64 fa, .int .u64 fb, .int .i64 inode, .int .u64 iseq, .int .i64 ioff, .int .i64 bnode, .int .u64 bseq, .int .i64 boff, .int .i64 dest, .int .i64 prio, .int .i64 born, .int .i64 life, .int .i64 total, .string data] 51) 31 #[.int .i64 0, .int .u64 0, .bool false, .int .u64 0, .int .u64 0, .int .u64 0, .int .u64 0, .slice none 0 0, .int .u64 0, .int .u64 0, .int .u64 0, .slice none 0 0, .slice none 0 0]
  have hB := bal (bal (bal (Below.refl w.heap.size w) (.cells #[.int .i64 node, .int .u64 th, .bool su, .int .u64 old, .int .u64 g, .int .u64 n, .int .u64 r, .slice As S cs, .int .u64 a, .int .u64 b, .int .u64 f, .slice At T ct, .slice Ak K ck] 31)) (.cells #[.int .i64 kind, .int .i64 frm, .int .i64 tto, .int .u64 mine, .int .u64 yours, .int .u64 fa, .int .u64 fb, .int .i64 inode, .int .u64 iseq, .int .i64 ioff, .int .i64 bnode, .int .u64 bseq, .int .i64 boff, .int .i64 dest, .int .i64 prio, .int .i64 born, .int .i64 life, .int .i64 total, .string data] 51)) (.cells #[.int .i64 0, .int .u64 0, .bool false, .int .u64 0, .int .u64 0, .int .u64 0, .int .u64 0, .slice none 0 0, .int .u64 0, .int .u64 0, .int .u64 0, .slice none 0 0, .slice none 0 0] 31)
  have k3 : BK3 w w.heap.size 31 #[.int .i64 node, .int .u64 th, .bool su, .int .u64 old, .int .u64 g, .int .u64 n, .int .u64 r, .slice As S cs, .int .u64 a, .int .u64 b, .int .u64 f, .slice At T ct, .slice Ak K ck] (w.heap.size + 1) 51 #[.int .i64 kind, .int .i64 frm, .int .i64 tto, .int .u64 mine, .int .u64 yours, .int .u64 fa, .int .u64 fb, .int .i64 inode, .int .u64 iseq, .int .i64 ioff, .int .i64 bnode, .int .u64 bseq, .int .i64 boff, .int .i64 dest, .int .i64 prio, .int .i64 born, .int .i64 life, .int .i64 total, .string data] (w.heap.size + 1 + 1) 31 #[.int .i64 0, .int .u64 0, .bool false, .int .u64 0, .int .u64 0, .int .u64 0, .int .u64 0, .slice none 0 0, .int .u64 0, .int .u64 0, .int .u64 0, .slice none 0 0, .slice none 0 0] _ := ⟨k0, k1, k2, hB⟩
  clear k0 k1 k2
  have HG : Hid (w.heap.size ≤ w.heap.size + 1 + 1) := Lib.hid (by omega)
  have HW : Hid (w.heap.size + 1 + 1 + 1 ≤ (((w.alloc (.cells #[.int .i64 node, .int .u64 th, .bool su, .int .u64 old, .int .u64 g, .int .u64 n, .int .u64 r, .slice As S cs, .int .u64 a, .int .u64 b, .int .u64 f, .slice At T ct, .slice Ak K ck] 31)).alloc (.cells #[.int .i64 kind, .int .i64 frm, .int .i64 tto, .int .u64 mine, .int .u64 yours, .int .u64 fa, .int .u64 fb, .int .i64 inode, .int .u64 iseq, .int .i64 ioff, .int .i64 bnode, .int .u64 bseq, .int .i64 boff, .int .i64 dest, .int .i64 prio, .int .i64 born, .int .i64 life, .int .i64 total, .string data] 51)).alloc (.cells #[.int .i64 0, .int .u64 0, .bool false, .int .u64 0, .int .u64 0, .int .u64 0, .int .u64 0, .slice none 0 0, .int .u64 0, .int .u64 0, .int .u64 0, .slice none 0 0, .slice none 0 0] 31)).heap.size) := Lib.hid (by simp)
  generalize hW : ((w.alloc (.cells #[.int .i64 node, .int .u64 th, .bool su, .int .u64 old, .int .u64 g, .int .u64 n, .int .u64 r, .slice As S cs, .int .u64 a, .int .u64 b, .int .u64 f, .slice At T ct, .slice Ak K ck] 31)).alloc (.cells #[.int .i64 kind, .int .i64 frm, .int .i64 tto, .int .u64 mine, .int .u64 yours, .int .u64 fa, .int .u64 fb, .int .i64 inode, .int .u64 iseq, .int .i64 ioff, .int .i64 bnode, .int .u64 bseq, .int .i64 boff, .int .i64 dest, .int .i64 prio, .int .i64 born, .int .i64 life, .int .i64 total, .string data] 51)).alloc (.cells #[.int .i64 0, .int .u64 0, .bool false, .int .u64 0, .int .u64 0, .int .u64 0, .int .u64 0, .slice none 0 0, .int .u64 0, .int .u64 0, .int .u64 0, .slice none 0 0, .slice none 0 0] 31) = W at k3 hB HW ⊢
  clear hW
  obtain ⟨g2, hg2⟩ : ∃ g2, w.heap.size + 1 + 1 = g2 := ⟨_, rfl⟩
  obtain ⟨g1, hg1⟩ : ∃ g1, w.heap.size + 1 = g1 := ⟨_, rfl⟩
  rw [hg2] at k3 HG HW ⊢
  rw [hg1] at k3 ⊢
  obtain ⟨g0, hg0⟩ : ∃ g0, w.heap.size = g0 := ⟨_, rfl⟩
  rw [hg0] at k3 HG ⊢
  have HG0 := Lib.hid hg0
  clear hg2 hg1 hg0
  have kb := k3.b
  have kc := k3.c
  have K1 := Lib.hid k3
  clear k3
  go_wp2_with (first | (refine wpList_load_row (by rfl) 31 _ (by rfl) g0 (by rfl) 31 #[.int .i64 node, .int .u64 th, .bool su, .int .u64 old, .int .u64 g, .int .u64 n, .int .u64 r, .slice As S cs, .int .u64 a, .int .u64 b, .int .u64 f, .slice At T ct, .slice Ak K ck] (0, 0) _ kb Try.underlying31 (by rfl) (by kernel_rfl) ?_) | (refine wpList_load_row (by rfl) 51 _ (by rfl) g1 (by rfl) 51 #[.int .i64 kind, .int .i64 frm, .int .i64 tto, .int .u64 mine, .int .u64 yours, .int .u64 fa, .int .u64 fb, .int .i64 inode, .int .u64 iseq, .int .i64 ioff, .int .i64 bnode, .int .u64 bseq, .int .i64 boff, .int .i64 dest, .int .i64 prio, .int .i64 born, .int .i64 life, .int .i64 total, .string data] (0, 0) _ kc Try.underlying51 (by rfl) (by kernel_rfl) ?_))
  refine (MT'.out _ hB).mono ?_
  rintro e w1 ⟨As', cs', At', ct', Ak', ck', rfl, ⟨Rs, Rt, Rk⟩, hb1⟩
  have kk := K1.out.below hb1
  have RR : Hid (SlsB (g2 + 1) (w1.alloc (.cells #[.int .i64 2, .int .u64 th', .bool su', .int .u64 old', .int .u64 g', .int .u64 n', .int .u64 r', .slice As' S' cs', .int .u64 a', .int .u64 b', .int .u64 f', .slice At' T' ct', .slice Ak' K' ck'] 31)) (.slice As' S' cs') SL ∧ RgsB (g2 + 1) (w1.alloc (.cells #[.int .i64 2, .int .u64 th', .bool su', .int .u64 old', .int .u64 g', .int .u64 n', .int .u64 r', .slice As' S' cs', .int .u64 a', .int .u64 b', .int .u64 f', .slice At' T' ct', .slice Ak' K' ck'] 31)) (.slice At' T' ct') TL ∧ KpsB (g2 + 1) (w1.alloc (.cells #[.int .i64 2, .int .u64 th', .bool su', .int .u64 old', .int .u64 g', .int .u64 n', .int .u64 r', .slice As' S' cs', .int .u64 a', .int .u64 b', .int .u64 f', .slice At' T' ct', .slice Ak' K' ck'] 31)) (.slice Ak' K' ck') KL) := Lib.hid ⟨(Rs.low HW.out).alloc _, (Rt.low HW.out).alloc _, (Rk.low HW.out).alloc _⟩
  clear K1 hB hb1 kb kc MT' Rs Rt Rk
  have hl2 := kk.d.lt
  have KK := Lib.hid kk
  clear kk
  go_upto_region 2 with (first | (refine wpList_alloc_z (by rfl) 31 (by rfl) _ rfl #[.int .i64 0, .int .u64 0, .bool false, .int .u64 0, .int .u64 0, .int .u64 0, .int .u64 0, .slice none 0 0, .int .u64 0, .int .u64 0, .int .u64 0, .slice none 0 0, .slice none 0 0] (fun w => by kernel_rfl) ?_) | (refine wpList_store_new (by rfl) 31 _ _ (by rfl) w1 #[.int .i64 0, .int .u64 0, .bool false, .int .u64 0, .int .u64 0, .int .u64 0, .int .u64 0, .slice none 0 0, .int .u64 0, .int .u64 0, .int .u64 0, .slice none 0 0, .slice none 0 0] #[.int .i64 2, .int .u64 th', .bool su', .int .u64 old', .int .u64 g', .int .u64 n', .int .u64 r', .slice As' S' cs', .int .u64 a', .int .u64 b', .int .u64 f', .slice At' T' ct', .slice Ak' K' ck'] rfl (by rfl) (by rfl) (by kernel_rfl) rfl (by kernel_rfl) ?_))
  have q0 : Blk (w1.alloc (.cells #[.int .i64 2, .int .u64 th', .bool su', .int .u64 old', .int .u64 g', .int .u64 n', .int .u64 r', .slice As' S' cs', .int .u64 a', .int .u64 b', .int .u64 f', .slice At' T' ct', .slice Ak' K' ck'] 31)) g2 31 #[.int .i64 0, .int .u64 0, .bool false, .int .u64 0, .int .u64 0, .int .u64 0, .int .u64 0, .slice none 0 0, .int .u64 0, .int .u64 0, .int .u64 0, .slice none 0 0, .slice none 0 0] := KK.out.d.alloc _
  have q1 := Blk.new w1 31 #[.int .i64 2, .int .u64 th', .bool su', .int .u64 old', .int .u64 g', .int .u64 n', .int .u64 r', .slice As' S' cs', .int .u64 a', .int .u64 b', .int .u64 f', .slice At' T' ct', .slice Ak' K' ck']
  have hB := bal KK.out.hB (.cells #[.int .i64 2, .int .u64 th', .bool su', .int .u64 old', .int .u64 g', .int .u64 n', .int .u64 r', .slice As' S' cs', .int .u64 a', .int .u64 b', .int .u64 f', .slice At' T' ct', .slice Ak' K' ck'] 31)
  have hlt : g2 < w1.heap.size := hl2
  obtain ⟨g3, hg3⟩ : ∃ g3, w1.heap.size = g3 := ⟨_, rfl⟩
  rw [hg3] at q1 hlt ⊢
  generalize w1.alloc (.cells #[.int .i64 2, .int .u64 th', .bool su', .int .u64 old', .int .u64 g', .int .u64 n', .int .u64 r', .slice As' S' cs', .int .u64 a', .int .u64 b', .int .u64 f', .slice At' T' ct', .slice Ak' K' ck'] 31) = W2 at q0 q1 hB RR ⊢
  have SM0 : BK2 w g3 31 #[.int .i64 2, .int .u64 th', .bool su', .int .u64 old', .int .u64 g', .int .u64 n', .int .u64 r', .slice As' S' cs', .int .u64 a', .int .u64 b', .int .u64 f', .slice At' T' ct', .slice Ak' K' ck'] g2 31 #[.int .i64 0, .int .u64 0, .bool false, .int .u64 0, .int .u64 0, .int .u64 0, .int .u64 0, .slice none 0 0, .int .u64 0, .int .u64 0, .int .u64 0, .slice none 0 0, .slice none 0 0] W2.drew := BK2.drew ⟨q1, q0, hB⟩
  have NE : Hid (¬ g3 = g2) := Lib.hid (by omega)
  replace RR : Hid (SlsB (g2 + 1) (W2.drew) (.slice As' S' cs') SL ∧ RgsB (g2 + 1) (W2.drew) (.slice At' T' ct') TL ∧ KpsB (g2 + 1) (W2.drew) (.slice Ak' K' ck') KL) := RR
  clear q0 q1 hB KK hl2 hg3 hlt
  refine wp_region_held_drew (S := fun wx => Below w.heap.size w wx ∧ Blk wx g3 31 #[.int .i64 2, .int .u64 th', .bool su', .int .u64 old', .int .u64 g', .int .u64 n', .int .u64 r', .slice As' S' cs', .int .u64 a', .int .u64 b', .int .u64 f', .slice At' T' ct', .slice Ak' K' ck']) (by kernel_rfl) ⟨SM0.hB, SM0.b⟩ (fun hH => ?_)
  refine wpAnyH_take (i := 0) rfl (by kernel_rfl) (by kernel_rfl) (by kernel_rfl) (fun _ _ _ h => h) (yieldsIf_row (g3) 31 #[.int .i64 2, .int .u64 th', .bool su', .int .u64 old', .int .u64 g', .int .u64 n', .int .u64 r', .slice As' S' cs', .int .u64 a', .int .u64 b', .int .u64 f', .slice At' T' ct', .slice Ak' K' ck'] 31 _ _ rfl rfl rfl (fun w h => h.2) Try.underlying31 rfl (by kernel_rfl)) hH ?_
  simp only [List.getElem_toArray, List.getElem_cons_succ, List.getElem_cons_zero, Act.put, List.setIfInBounds_toArray, List.set_cons_zero, List.set_cons_succ]
  refine wpAnyH_take (i := 1) rfl (by kernel_rfl) (by kernel_rfl) (by kernel_rfl) (fun _ _ _ h => h) (yieldsIf_pure _ (.int .i64 0) rfl (.inl rfl) rfl) hH ?_
  simp only [List.getElem_toArray, List.getElem_cons_succ, List.getElem_cons_zero, Act.put, List.setIfInBounds_toArray, List.set_cons_zero, List.set_cons_succ]
  refine wpAnyH_take (i := 2) rfl (by kernel_rfl) (by kernel_rfl) (by kernel_rfl) (fun _ _ _ h => h) (yieldsIf_cell (.bool true) rfl (fun w h => by go_simp)) hH ?_
  simp only [List.getElem_toArray, List.getElem_cons_succ, List.getElem_cons_zero, Act.put, List.setIfInBounds_toArray, List.set_cons_zero, List.set_cons_succ]
  refine wpAnyH_take (i := 3) rfl (by kernel_rfl) (by kernel_rfl) (by kernel_rfl) (fun _ _ _ h => h) (yieldsIf_pure _ (.bool true) rfl (.inl rfl) rfl) hH ?_
  simp only [List.getElem_toArray, List.getElem_cons_succ, List.getElem_cons_zero, Act.put, List.setIfInBounds_toArray, List.set_cons_zero, List.set_cons_succ]
  refine wpAnyH_take (i := 4) rfl (by kernel_rfl) (by kernel_rfl) (by kernel_rfl) (fun _ _ _ h => h) (yieldsIf_pure _ (.int .i64 v) rfl (.inl rfl) rfl) hH ?_
  simp only [List.getElem_toArray, List.getElem_cons_succ, List.getElem_cons_zero, Act.put, List.setIfInBounds_toArray, List.set_cons_zero, List.set_cons_succ]
  refine wpAnyH_take (i := 5) rfl (by kernel_rfl) (by kernel_rfl) (by kernel_rfl) (fun _ _ _ h => h) (yieldsIf_pure _ (.int .i64 v) rfl (.inl rfl) rfl) hH ?_
  simp only [List.getElem_toArray, List.getElem_cons_succ, List.getElem_cons_zero, Act.put, List.setIfInBounds_toArray, List.set_cons_zero, List.set_cons_succ]
  refine wpAnyH_take (i := 6) rfl (by kernel_rfl) (by kernel_rfl) (by kernel_rfl) (fun _ _ _ h => h) (yieldsIf_cell (.bool true) rfl (fun w h => by go_simp)) hH ?_
  simp only [List.getElem_toArray, List.getElem_cons_succ, List.getElem_cons_zero, Act.put, List.setIfInBounds_toArray, List.set_cons_zero, List.set_cons_succ]
  refine wpAnyH_take (i := 7) rfl (by kernel_rfl) (by kernel_rfl) (by kernel_rfl) (fun _ _ _ h => h) (yieldsIf_cell (.bool true) rfl (fun w h => by go_simp)) hH ?_
  simp only [List.getElem_toArray, List.getElem_cons_succ, List.getElem_cons_zero, Act.put, List.setIfInBounds_toArray, List.set_cons_zero, List.set_cons_succ]
  refine wpAnyH_take (i := 8) rfl (by kernel_rfl) (by kernel_rfl) (by kernel_rfl) (fun _ _ _ h => h) (yieldsIf_pure _ (.bool true) rfl (.inl rfl) rfl) hH ?_
  simp only [List.getElem_toArray, List.getElem_cons_succ, List.getElem_cons_zero, Act.put, List.setIfInBounds_toArray, List.set_cons_zero, List.set_cons_succ]
  refine wpAnyH_take (i := 9) rfl (by kernel_rfl) (by kernel_rfl) (by kernel_rfl) (fun _ _ _ h => h) (yieldsIf_pure _ (.bool ow) rfl (.inl rfl) rfl) hH ?_
  simp only [List.getElem_toArray, List.getElem_cons_succ, List.getElem_cons_zero, Act.put, List.setIfInBounds_toArray, List.set_cons_zero, List.set_cons_succ]
  refine wpAnyH_take (i := 10) rfl (by kernel_rfl) (by kernel_rfl) (by kernel_rfl) (fun _ _ _ h => h) (yieldsIf_pure _ (.bool ow) rfl (.inl rfl) rfl) hH ?_
  simp only [List.getElem_toArray, List.getElem_cons_succ, List.getElem_cons_zero, Act.put, List.setIfInBounds_toArray, List.set_cons_zero, List.set_cons_succ]
  refine wpAnyH_take (i := 11) rfl (by kernel_rfl) (by kernel_rfl) (by kernel_rfl) (fun _ _ _ h => h) (yieldsIf_cell (.bool true) rfl (fun w h => by go_simp)) hH ?_
  simp only [List.getElem_toArray, List.getElem_cons_succ, List.getElem_cons_zero, Act.put, List.setIfInBounds_toArray, List.set_cons_zero, List.set_cons_succ]
  refine wpAnyH_take (i := 12) rfl (by kernel_rfl) (by kernel_rfl) (by kernel_rfl) (fun _ _ _ h => h) (yieldsIf_cell (.bool true) rfl (fun w h => by go_simp)) hH ?_
  simp only [List.getElem_toArray, List.getElem_cons_succ, List.getElem_cons_zero, Act.put, List.setIfInBounds_toArray, List.set_cons_zero, List.set_cons_succ]
  refine wpAnyH_take (i := 13) rfl (by kernel_rfl) (by kernel_rfl) (by kernel_rfl) (fun _ _ _ h => h) (yieldsIf_pure _ (.bool true) rfl (.inl rfl) rfl) hH ?_
  simp only [List.getElem_toArray, List.getElem_cons_succ, List.getElem_cons_zero, Act.put, List.setIfInBounds_toArray, List.set_cons_zero, List.set_cons_succ]
  refine wpAnyH_take (i := 14) rfl (by kernel_rfl) (by kernel_rfl) (by kernel_rfl) (fun _ _ _ h => h) (yieldsIf_cell (.pointer (some ⟨g3, 1, none⟩)) rfl (fun w h => by go_simp)) hH ?_
  simp only [List.getElem_toArray, List.getElem_cons_succ, List.getElem_cons_zero, Act.put, List.setIfInBounds_toArray, List.set_cons_zero, List.set_cons_succ]
  refine wpAnyH_take (i := 15) rfl (by kernel_rfl) (by kernel_rfl) (by kernel_rfl) (fun _ _ _ h => h) (yieldsIf_cell (.int .u64 th') rfl (fun w h => by have j0 : w.cell? ⟨g3, 1, none⟩ = some (.int .u64 th') := (h.2).cell 1; go_simp)) hH ?_
  simp only [List.getElem_toArray, List.getElem_cons_succ, List.getElem_cons_zero, Act.put, List.setIfInBounds_toArray, List.set_cons_zero, List.set_cons_succ]
  refine wpAnyH_take (i := 16) rfl (by kernel_rfl) (by kernel_rfl) (by kernel_rfl) (fun _ _ _ h => h) (yieldsIf_pure _ (.int .u64 th') rfl (.inl rfl) rfl) hH ?_
  simp only [List.getElem_toArray, List.getElem_cons_succ, List.getElem_cons_zero, Act.put, List.setIfInBounds_toArray, List.set_cons_zero, List.set_cons_succ]
  refine wpAnyH_take (i := 17) rfl (by kernel_rfl) (by kernel_rfl) (by kernel_rfl) (fun _ _ _ h => h) (yieldsIf_cell (.bool true) rfl (fun w h => by go_simp)) hH ?_
  simp only [List.getElem_toArray, List.getElem_cons_succ, List.getElem_cons_zero, Act.put, List.setIfInBounds_toArray, List.set_cons_zero, List.set_cons_succ]
  refine wpAnyH_take (i := 18) rfl (by kernel_rfl) (by kernel_rfl) (by kernel_rfl) (fun _ _ _ h => h) (yieldsIf_cell (.bool true) rfl (fun w h => by go_simp)) hH ?_
  simp only [List.getElem_toArray, List.getElem_cons_succ, List.getElem_cons_zero, Act.put, List.setIfInBounds_toArray, List.set_cons_zero, List.set_cons_succ]
  refine wpAnyH_take (i := 19) rfl (by kernel_rfl) (by kernel_rfl) (by kernel_rfl) (fun _ _ _ h => h) (yieldsIf_pure _ (.bool true) rfl (.inl rfl) rfl) hH ?_
  simp only [List.getElem_toArray, List.getElem_cons_succ, List.getElem_cons_zero, Act.put, List.setIfInBounds_toArray, List.set_cons_zero, List.set_cons_succ]
  refine wpAnyH_take (i := 20) rfl (by kernel_rfl) (by kernel_rfl) (by kernel_rfl) (fun _ _ _ h => h) (yieldsIf_cell (.pointer (some ⟨g3, 2, none⟩)) rfl (fun w h => by go_simp)) hH ?_
  simp only [List.getElem_toArray, List.getElem_cons_succ, List.getElem_cons_zero, Act.put, List.setIfInBounds_toArray, List.set_cons_zero, List.set_cons_succ]
  refine wpAnyH_take (i := 21) rfl (by kernel_rfl) (by kernel_rfl) (by kernel_rfl) (fun _ _ _ h => h) (yieldsIf_cell (.bool su') rfl (fun w h => by have j0 : w.cell? ⟨g3, 2, none⟩ = some (.bool su') := (h.2).cell 2; go_simp)) hH ?_
  simp only [List.getElem_toArray, List.getElem_cons_succ, List.getElem_cons_zero, Act.put, List.setIfInBounds_toArray, List.set_cons_zero, List.set_cons_succ]
  refine wpAnyH_take (i := 22) rfl (by kernel_rfl) (by kernel_rfl) (by kernel_rfl) (fun _ _ _ h => h) (yieldsIf_pure _ (.bool su') rfl (.inl rfl) rfl) hH ?_
  simp only [List.getElem_toArray, List.getElem_cons_succ, List.getElem_cons_zero, Act.put, List.setIfInBounds_toArray, List.set_cons_zero, List.set_cons_succ]
  refine wpAnyH_take (i := 23) rfl (by kernel_rfl) (by kernel_rfl) (by kernel_rfl) (fun _ _ _ h => h) (yieldsIf_cell (.bool true) rfl (fun w h => by go_simp)) hH ?_
  simp only [List.getElem_toArray, List.getElem_cons_succ, List.getElem_cons_zero, Act.put, List.setIfInBounds_toArray, List.set_cons_zero, List.set_cons_succ]
  refine wpAnyH_take (i := 24) rfl (by kernel_rfl) (by kernel_rfl) (by kernel_rfl) (fun _ _ _ h => h) (yieldsIf_cell (.bool true) rfl (fun w h => by go_simp)) hH ?_
  simp only [List.getElem_toArray, List.getElem_cons_succ, List.getElem_cons_zero, Act.put, List.setIfInBounds_toArray, List.set_cons_zero, List.set_cons_succ]
  refine wpAnyH_take (i := 25) rfl (by kernel_rfl) (by kernel_rfl) (by kernel_rfl) (fun _ _ _ h => h) (yieldsIf_pure _ (.bool true) rfl (.inl rfl) rfl) hH ?_
  simp only [List.getElem_toArray, List.getElem_cons_succ, List.getElem_cons_zero, Act.put, List.setIfInBounds_toArray, List.set_cons_zero, List.set_cons_succ]
  refine wpAnyH_take (i := 26) rfl (by kernel_rfl) (by kernel_rfl) (by kernel_rfl) (fun _ _ _ h => h) (yieldsIf_cell (.pointer (some ⟨g3, 0, none⟩)) rfl (fun w h => by go_simp)) hH ?_
  simp only [List.getElem_toArray, List.getElem_cons_succ, List.getElem_cons_zero, Act.put, List.setIfInBounds_toArray, List.set_cons_zero, List.set_cons_succ]
  refine wpAnyH_take (i := 27) rfl (by kernel_rfl) (by kernel_rfl) (by kernel_rfl) (fun _ _ _ h => h) (yieldsIf_cell (.int .i64 2) rfl (fun w h => by have j0 : w.cell? ⟨g3, 0, none⟩ = some (.int .i64 2) := (h.2).cell 0; go_simp)) hH ?_
  simp only [List.getElem_toArray, List.getElem_cons_succ, List.getElem_cons_zero, Act.put, List.setIfInBounds_toArray, List.set_cons_zero, List.set_cons_succ]
  refine wpAnyH_take (i := 28) rfl (by kernel_rfl) (by kernel_rfl) (by kernel_rfl) (fun _ _ _ h => h) (yieldsIf_cell (.bool true) rfl (fun w h => by go_simp)) hH ?_
  simp only [List.getElem_toArray, List.getElem_cons_succ, List.getElem_cons_zero, Act.put, List.setIfInBounds_toArray, List.set_cons_zero, List.set_cons_succ]
  refine wpAnyH_take (i := 29) rfl (by kernel_rfl) (by kernel_rfl) (by kernel_rfl) (fun _ _ _ h => h) (yieldsIf_cell (.bool true) rfl (fun w h => by go_simp)) hH ?_
  simp only [List.getElem_toArray, List.getElem_cons_succ, List.getElem_cons_zero, Act.put, List.setIfInBounds_toArray, List.set_cons_zero, List.set_cons_succ]
  refine wpAnyH_ready (rs := [30]) (by kernel_rfl) (by simp) ?_
  refine AllReadyH.cons rfl (fun KK hK => ?_) AllReadyH.nil
  rw [if_pos (by rfl)]
  refine wp_store_mid 31 _ _ rfl g2 0 #[.int .i64 2, .int .u64 th', .bool su', .int .u64 old', .int .u64 g', .int .u64 n', .int .u64 r', .slice As' S' cs', .int .u64 a', .int .u64 b', .int .u64 f', .slice At' T' ct', .slice Ak' K' ck'] rfl rfl (Blk.there SM0.c 0 _ (Nat.le_refl 13)) (by kernel_rfl) (by kernel_rfl) ?_
  have SM1 : Blk (W2.drew.setCells g2 0 (Array.toList #[.int .i64 2, .int .u64 th', .bool su', .int .u64 old', .int .u64 g', .int .u64 n', .int .u64 r', .slice As' S' cs', .int .u64 a', .int .u64 b', .int .u64 f', .slice At' T' ct', .slice Ak' K' ck'])) g2 31 #[.int .i64 2, .int .u64 th', .bool su', .int .u64 old', .int .u64 g', .int .u64 n', .int .u64 r', .slice As' S' cs', .int .u64 a', .int .u64 b', .int .u64 f', .slice At' T' ct', .slice Ak' K' ck'] := SM0.c.setAll rfl
  have hB1 : Below w.heap.size w (W2.drew.setCells g2 0 (Array.toList #[.int .i64 2, .int .u64 th', .bool su', .int .u64 old', .int .u64 g', .int .u64 n', .int .u64 r', .slice As' S' cs', .int .u64 a', .int .u64 b', .int .u64 f', .slice At' T' ct', .slice Ak' K' ck'])) := below_setCells (by have := HG.out; have := HG0.out; omega) _ _ SM0.hB
  refine hK.out _ _ ⟨hB1, SM0.b.farAll NE.out _ _⟩ (fun hH3 => ?_)
  clear hK KK
  simp only [List.getElem_toArray, List.getElem_cons_succ, List.getElem_cons_zero, Act.put, List.setIfInBounds_toArray, List.set_cons_zero, List.set_cons_succ]
  refine wpAnyH_take (i := 31) rfl (by kernel_rfl) (by kernel_rfl) (by kernel_rfl) (fun _ _ _ h => h) (yieldsIf_pure _ (.bool true) rfl (.inr rfl) rfl) hH3 ?_
  simp only [List.getElem_toArray, List.getElem_cons_succ, List.getElem_cons_zero, Act.put, List.setIfInBounds_toArray, List.set_cons_zero, List.set_cons_succ]
  refine wpAnyH_done (by kernel_rfl) ?_ _
  go_wp2_with fail
  refine bodyPost_ret (results_cell_t rfl _ _ g2 31 #[.int .i64 2, .int .u64 th', .bool su', .int .u64 old', .int .u64 g', .int .u64 n', .int .u64 r', .slice As' S' cs', .int .u64 a', .int .u64 b', .int .u64 f', .slice At' T' ct', .slice Ak' K' ck'] (0, 0) _ rfl SM1 Try.underlying31 (by rfl) (by kernel_rfl)) rfl ?_
  have hG : w.heap.size ≤ g2 + 1 := by have := HG.out; have := HG0.out; omega
  exact ⟨As', cs', At', ct', Ak', ck', rfl, ⟨(RR.out.1.setCells (by omega) _ _).low hG, (RR.out.2.1.setCells (by omega) _ _).low hG, (RR.out.2.2.setCells (by omega) _ _).low hG⟩, hB1⟩

end Go.Proofs.Ytfgkkflbpfocjaa

namespace Go.Proofs.Ytfgkkflbpfocjaa
set_option linter.unusedVariables false
set_option linter.unusedSimpArgs false

theorem ov_zero (a : Int) (x : Rg) : ov a a x = 0 := by unfold ov; rw [if_neg (by omega)]
theorem cons_zero (r : Rec) (a : Int) : ∀ k, cons r a 0 k = 0 := by
  intro k
  induction k with
  | zero => show flv r a 0 = 0; unfold flv; split <;> omega
  | succ k ih =>
    show cons r a 0 k + ov a (a + 0) (rgAt r.tk k) = 0
    rw [ih, Int.add_zero a, ov_zero]; rfl
theorem ov_split {a m m' : Int} {x : Rg} (h1 : 0 ≤ m) (h2 : 0 ≤ m') (hx : x.f ≤ x.t) : ov a (a + (m + m')) x = ov a (a + m) x + ov (a + m) (a + m + m') x := by
  unfold ov
  split <;> split <;> split <;> omega
theorem flv_split {r : Rec} {a m m' : Int} (h1 : 0 ≤ m) (h2 : 0 ≤ m') : flv r a (m + m') = flv r a m + flv r (a + m) m' := by
  unfold flv
  split <;> split <;> omega
theorem cons_split {r : Rec} {a m m' : Int} (h1 : 0 ≤ m) (h2 : 0 ≤ m') : ∀ k, (∀ i, i < k → (rgAt r.tk i).f ≤ (rgAt r.tk i).t) → cons r a (m + m') k = cons r a m k + cons r (a + m) m' k := by
  intro k
  induction k with
  | zero => intro _; exact flv_split h1 h2
  | succ k ih =>
    intro hx
    have e := ih fun i hi => hx i (by omega)
    have e2 := ov_split (a := a) h1 h2 (hx k (by omega))
    show cons r a (m + m') k + ov a (a + (m + m')) (rgAt r.tk k) = (cons r a m k + ov a (a + m) (rgAt r.tk k)) + (cons r (a + m) m' k + ov (a + m) (a + m + m') (rgAt r.tk k))
    omega
/-- what is not consumed between two places -/
def free (r : Rec) (a b : Int) : Int := (b - a) - cons r a (b - a) r.tk.length
theorem OkR.le {r : Rec} (h : OkR r) : ∀ i, i < r.tk.length → (rgAt r.tk i).f ≤ (rgAt r.tk i).t := fun i hi => by have := (h.t i hi).1; omega
theorem free_split {r : Rec} (h : OkR r) {a b c : Int} (h1 : a ≤ b) (h2 : b ≤ c) : free r a c = free r a b + free r b c := by
  have := cons_split (r := r) (a := a) (m := b - a) (m' := c - b) (by omega) (by omega) r.tk.length h.le
  rw [show b - a + (c - b) = c - a by omega, show a + (b - a) = b by omega] at this
  unfold free
  omega
theorem free_nn {r : Rec} (h : OkR r) {a b : Int} (h1 : a ≤ b) : 0 ≤ free r a b := by
  by_cases c : a = b
  · subst c
    unfold free
    rw [Int.sub_self, cons_zero]
    omega
  · have := (cons_le h (off := a) (size := b - a) (by omega) (k := r.tk.length) (Nat.le_refl _)).2
    unfold free
    omega
theorem cons_all {r : Rec} (h : OkR r) (h0 : 0 ≤ r.fl) {R : Int} (hR : r.g - r.r = R) : ∀ k, k ≤ r.tk.length → cons r 0 R k = r.fl + szs r.tk k := by
  intro k
  induction k with
  | zero =>
    intro _
    show flv r 0 R = r.fl + 0
    have := h.fl
    unfold flv
    split <;> omega
  | succ k ih =>
    intro hk
    have ih := ih (by omega)
    have hx := h.t k (by omega)
    show cons r 0 R k + ov 0 (0 + R) (rgAt r.tk k) = r.fl + (szs r.tk k + ((rgAt r.tk k).t - (rgAt r.tk k).f))
    have : ov 0 (0 + R) (rgAt r.tk k) = (rgAt r.tk k).t - (rgAt r.tk k).f := by
      unfold ov
      rw [if_pos (by omega)]
      omega
    omega
theorem free_all {r : Rec} (h : OkR r) (h0 : 0 ≤ r.fl) : free r 0 (r.g - r.r) = resv r := by
  unfold free resv
  rw [Int.sub_zero, cons_all h h0 rfl _ (Nat.le_refl _)]
  omega
/-- nothing is consumed behind n -/
theorem free_behind {r : Rec} {n b : Int} (h1 : r.fl ≤ n) (h2 : ∀ i, i < r.tk.length → (rgAt r.tk i).t ≤ n) (hb : n ≤ b) : free r n b = b - n := by
  have key : ∀ k, k ≤ r.tk.length → cons r n (b - n) k = 0 := by
    intro k
    induction k with
    | zero => intro _; show flv r n (b - n) = 0; unfold flv; rw [if_neg (by omega)]
    | succ k ih =>
      intro hk
      have := h2 k (by omega)
      show cons r n (b - n) k + ov n (n + (b - n)) (rgAt r.tk k) = 0
      rw [ih (by omega)]
      unfold ov
      rw [if_neg (by omega)]; rfl
  unfold free
  rw [key _ (Nat.le_refl _)]
  omega
/-- a slot counts: what it stands for has not been received -/
def cntB (r : Rec) (x : Sl) : Bool := decide ((stE r x.off x.size).2 ≠ 0) || decide ((stE r x.off x.size).1 = 2)
def opn' (r : Rec) : List Sl → Int
  | [] => 0
  | x :: l => (if cntB r x = true then x.size else 0) + opn' r l
theorem cnt_free {r : Rec} (h : okR r) {x : Sl} (h0 : 0 < x.size) (h1 : x.off + x.size ≤ r.g - r.r) (hc : cntB r x = true) (ho : 0 ≤ x.off) : free r x.off (x.off + x.size) = x.size := by
  have hz : (chkR r).1 = 0 := h
  unfold cntB stE at hc
  rw [if_neg (fun c => c hz), if_neg (by omega), if_neg (by omega)] at hc
  simp at hc
  unfold stOf at hc
  unfold free
  rw [show x.off + x.size - x.off = x.size by omega]
  split at hc
  · cases hc
  · split at hc
    · rename_i c; omega
    · cases hc
theorem opn_free {r : Rec} (h : okR r) {n : Int} (hn : n ≤ r.g - r.r) : ∀ (l done : List Sl) (e : Int), 0 ≤ e → e ≤ n → (∀ x ∈ l, 0 ≤ x.size) → Good n done e l → opn' r l ≤ free r e n := by
  intro l
  induction l with
  | nil => intro done e h0 he _ _; exact free_nn (okR_of h) he
  | cons x l ih =>
    intro done e h0 he hs hg
    obtain ⟨g1, g2⟩ := hg
    obtain ⟨a, _, b, c, d, _⟩ := slotE_zero.1 g1
    have hx := hs x (by simp)
    have ih := ih _ (x.off + x.size) (by omega) (by omega) (fun y hy => hs y (by simp [hy])) g2
    have o := okR_of h
    have s1 := free_split o (a := e) (b := x.off) (c := n) (by omega) (by omega)
    have s2 := free_split o (a := x.off) (b := x.off + x.size) (c := n) (by omega) (by omega)
    have n1 := free_nn o (a := e) (b := x.off) (by omega)
    have n2 := free_nn o (a := x.off) (b := x.off + x.size) (by omega)
    show (if cntB r x = true then x.size else 0) + opn' r l ≤ _
    by_cases hc : cntB r x = true
    · rw [if_pos hc]
      have := cnt_free h (x := x) (by omega) (by omega) hc (by omega)
      omega
    · rw [if_neg hc]
      omega
/-- the inequality, where both know each other -/
theorem cred_key {s : Led} {r : Rec} (hs : okL s) (hw : Wf s) (hr : okR r) (hwr : WfR r) (h1 : s.g ≤ r.g) (h2 : r.r ≤ s.r) (h3 : r.fl ≤ s.n) (h4 : ∀ i, i < r.tk.length → (rgAt r.tk i).t ≤ s.n) :
    usab s + opn' r s.sl ≤ resv r := by
  obtain ⟨_, b, c, _, g⟩ := (okL_iff s).1 hs
  obtain ⟨w1, w2, w3, w4⟩ := hw
  have o := okR_of hr
  have k1 := opn_free hr (n := s.n) (by omega) s.sl [] 0 (Int.le_refl _) (by omega) (fun x hx => (w4 x hx).2.1.1) g
  have k2 := free_behind (r := r) (n := s.n) (b := s.n + usab s) h3 h4 (by unfold usab; omega)
  have k3 := free_all o hwr.fl.1
  have k4 := free_split o (a := 0) (b := s.n) (c := r.g - r.r) (by omega) (by omega)
  have k5 := free_split o (a := s.n) (b := s.n + usab s) (c := r.g - r.r) (by unfold usab; omega) (by unfold usab; omega)
  have k6 := free_nn o (a := s.n + usab s) (b := r.g - r.r) (by unfold usab; omega)
  omega
end Go.Proofs.Ytfgkkflbpfocjaa

namespace Go.Proofs.Ytfgkkflbpfocjaa
set_option linter.unusedVariables false
set_option linter.unusedSimpArgs false

theorem chkP_mk {p : Pr} (h1 : ¬ p.out) (h2 : okL p.s) (h3 : okR p.r) (h4 : p.theirs = 0 → p.empty) : chkP p = 0 := by
  have h2 : (chk p.s).1 = 0 := h2
  have h3 : (chkR p.r).1 = 0 := h3
  unfold chkP
  rw [if_neg h1, if_neg (fun c => c h2), if_neg (fun c => c h3), if_neg (fun c => c.2 (h4 c.1))]
theorem okL_z : okL zSend := by decide
theorem okR_z : okR zRec := by decide
theorem wf_z : Wf zSend := ⟨by decide, by decide, by decide, fun x hx => by cases hx⟩
theorem wfR_z : WfR zRec := ⟨by decide, by decide, by decide, (fun x hx => by cases hx), (fun x hx => by cases hx)⟩
theorem resv_z : resv zRec = 0 := by decide
/-- the sender as it knows the receiver; the receiver as it knows the sender -/
def sP (st : Int) (su : Bool) (ss : Led) : Pr := ⟨2, st, su, 0, ss, zRec⟩
def rP (rt : Int) (ru : Bool) (ro : Int) (rr : Rec) : Pr := ⟨1, rt, ru, ro, zSend, rr⟩
/-- what a Grant on its way can give -/
def GB (st : Int) (ss : Led) (ro : Int) (rr : Rec) (br : Int) (f : Fr) : Prop := (f.mine = st → st = br → f.a ≤ rr.g) ∧ (f.mine = st → st < br → f.a ≤ ro + ss.n + ss.r) ∧ (st < f.mine → f.a = 0)
/-- what a frame says of what the sender has used -/
def DB (ss : Led) (f : Fr) : Prop := (f.kind = 3 → f.b ≤ ss.n) ∧ (f.kind = 4 → f.a ≤ ss.n ∧ f.b ≤ ss.r)
def FrI (st : Int) (ss : Led) (rt ro : Int) (rr : Rec) (bs br : Int) (f : Fr) : Prop := frE f = 0 ∧ 0 ≤ f.a ∧ 0 ≤ f.b ∧
  ((f.to = 1 ∧ f.frm = 2 ∧ f.mine ≤ br ∧ f.yours ≤ rt ∧ (f.kind = 2 → f.yours = bs → GB st ss ro rr br f)) ∨
   (f.to = 2 ∧ f.frm = 1 ∧ f.mine ≤ bs ∧ f.yours ≤ st ∧ (f.mine = bs → f.yours = br → DB ss f)))
def I1 (ss : Led) (rr : Rec) : Prop := ss.g ≤ rr.g ∧ rr.r ≤ ss.r ∧ rr.fl ≤ ss.n ∧ ∀ j, j < rr.tk.length → (rgAt rr.tk j).t ≤ ss.n
structure Inv (i : Int) (st : Int) (su : Bool) (ss : Led) (rt : Int) (ru : Bool) (ro : Int) (rr : Rec) (bs br : Int) (way : List Fr) : Prop where
  i0 : 0 ≤ i ∧ i ≤ 1000
  bs1 : 1 ≤ bs ∧ bs ≤ 1 + i
  br1 : 1 ≤ br ∧ br ≤ 1 + i
  ts : 0 ≤ st ∧ st ≤ br
  tr : 0 ≤ rt ∧ rt ≤ bs
  os : okL ss
  ws : Wf ss
  or : okR rr
  wr : WfR rr
  ro0 : 0 ≤ ro
  es : st = 0 → su = false ∧ ss = zSend
  er : rt = 0 → ru = false ∧ ro = 0 ∧ rr = zRec
  rk : rr.kp = []
  rg : ro + rr.g ≤ 40 * i
  zs : rt < bs → ss = zSend
  ns : ru = false → rr = zRec
  dd : rt = bs → ru = true → st = br
  i1 : rt = bs → st = br → I1 ss rr
  i2 : rt = bs → st < br → ss.g ≤ ro + ss.n + ss.r
  fr : ∀ f ∈ way, FrI st ss rt ro rr bs br f
/-- the first state -/
theorem inv_zero : Inv 0 0 false zSend 0 false 0 zRec 1 1 [] :=
  ⟨by decide, by decide, by decide, by decide, by decide, okL_z, wf_z, okR_z, wfR_z, by decide, fun _ => ⟨rfl, rfl⟩, fun _ => ⟨rfl, rfl, rfl⟩, rfl, by decide, fun _ => rfl, fun _ => rfl, fun h => absurd h (by decide), fun h => absurd h (by decide), fun h => absurd h (by decide), (fun f hf => by cases hf)⟩
section
variable {i st : Int} {su : Bool} {ss : Led} {rt : Int} {ru : Bool} {ro : Int} {rr : Rec} {bs br : Int} {way : List Fr}
theorem Inv.next (h : Inv i st su ss rt ru ro rr bs br way) (hi : i < 1000) : Inv (i + 1) st su ss rt ru ro rr bs br way := by
  obtain ⟨a1, a2, a3, a4, a5, a6, a7, a8, a9, b1, b2, b3, b4, b5, b6, b7, b8, b9, c1, c2⟩ := h
  exact ⟨by omega, by omega, by omega, a4, a5, a6, a7, a8, a9, b1, b2, b3, b4, by omega, b6, b7, b8, b9, c1, c2⟩
theorem Inv.wfS (h : Inv i st su ss rt ru ro rr bs br way) : WfP (sP st su ss) := by
  have := h.ts; have := h.br1; have := h.i0
  exact ⟨(by show 0 ≤ st ∧ st ≤ _; omega), (by show (0 : Int) ≤ 0 ∧ (0 : Int) ≤ _; decide), h.ws, wfR_z⟩
theorem Inv.wfR (h : Inv i st su ss rt ru ro rr bs br way) : WfP (rP rt ru ro rr) := by
  have := h.tr; have := h.bs1; have := h.i0; have := h.ro0; have := h.rg; have := h.wr.g
  exact ⟨(by show 0 ≤ rt ∧ rt ≤ _; omega), (by show 0 ≤ ro ∧ ro ≤ _; omega), wf_z, h.wr⟩
theorem Inv.okS (h : Inv i st su ss rt ru ro rr bs br way) : chkP (sP st su ss) = 0 := by
  have h1 := h.ts; have h2 := h.br1; have h3 := h.i0
  refine chkP_mk ?_ h.os okR_z fun e => ?_
  · rintro (c | c | c | c)
    · exact absurd c (by decide : ¬ (2 : Int) < 1)
    · exact absurd c (by decide : ¬ (16 : Int) < 2)
    · have c : 1099511627776 < st := c
      omega
    · exact absurd c (by decide : ¬ (1125899906842624 : Int) < 0)
  · obtain ⟨e1, e2⟩ := h.es e
    rw [e1, e2]
    exact ⟨rfl, rfl, rfl, rfl, rfl, rfl, rfl, rfl, rfl, rfl, rfl⟩
theorem Inv.okR' (h : Inv i st su ss rt ru ro rr bs br way) : chkP (rP rt ru ro rr) = 0 := by
  have h1 := h.tr; have h2 := h.bs1; have h3 := h.i0; have h4 := h.ro0; have h5 := h.rg; have h6 := h.wr.g
  refine chkP_mk ?_ okL_z h.or fun e => ?_
  · rintro (c | c | c | c)
    · exact absurd c (by decide : ¬ (1 : Int) < 1)
    · exact absurd c (by decide : ¬ (16 : Int) < 1)
    · have c : 1099511627776 < rt := c
      omega
    · have c : 1125899906842624 < ro := c
      omega
  · obtain ⟨e1, e2, e3⟩ := h.er e
    rw [e1, e2, e3]
    exact ⟨rfl, rfl, rfl, rfl, rfl, rfl, rfl, rfl, rfl, rfl, rfl⟩
theorem i1_end (hr : okR rr) (h : I1 ss rr) : rr.fl + szs rr.tk rr.tk.length ≤ ss.n := by
  obtain ⟨_, _, h3, h4⟩ := h
  have e := (szs_le (okR_of hr) rr.tk.length (Nat.le_refl _)).2
  have he : endK rr rr.tk.length ≤ ss.n := by
    cases hl : rr.tk.length with
    | zero => exact h3
    | succ k => exact h4 k (by omega)
  omega
theorem Inv.resv0 (h : Inv i st su ss rt ru ro rr bs br way) : 0 ≤ resv rr ∧ resv rr ≤ rr.g := resv_b (okR_of h.or) h.wr.fl.1 h.wr.r.1
/-- what the receiver has promised holds what the sender may still use -/
theorem Inv.bound (h : Inv i st su ss rt ru ro rr bs br way) (ht : rt = bs) : ss.g ≤ ro + resv rr + ss.n + ss.r := by
  have hrb := h.resv0
  by_cases c : st = br
  · have q := h.i1 ht c
    have e := i1_end h.or q
    obtain ⟨h1, h2, h3, h4⟩ := q
    have hold := h.ro0
    unfold resv
    omega
  · have := h.i2 ht (by have := h.ts; omega)
    omega
theorem held_sP : heldP (sP st su ss) = 0 := by unfold heldP; show 0 + resv zRec = 0; rw [resv_z]; rfl
theorem held_rP : heldP (rP rt ru ro rr) = ro + resv rr := rfl
/-- the sender starts again -/
theorem Inv.restart_s (h : Inv i st su ss rt ru ro rr bs br way) (hi : i < 1000) : rstE (sP st su ss) = (sP st false zSend, 0) ∧ Inv (i + 1) st false zSend rt ru ro rr (bs + 1) br way := by
  constructor
  · unfold rstE
    rw [if_neg (fun c => c h.okS), held_sP, if_neg (by decide)]; rfl
  · have q := h.next hi
    have hb := h.bs1
    have ht := h.tr
    refine ⟨q.i0, by omega, q.br1, q.ts, by omega, okL_z, wf_z, q.or, q.wr, q.ro0, fun _ => ⟨rfl, rfl⟩, q.er, q.rk, q.rg, fun _ => rfl, q.ns, (fun e => by omega), (fun e => by omega), (fun e => by omega), fun f hf => ?_⟩
    obtain ⟨f1, f2, f3, f4⟩ := h.fr f hf
    refine ⟨f1, f2, f3, ?_⟩
    rcases f4 with ⟨g1, g2, g3, g4, g5⟩ | ⟨g1, g2, g3, g4, g5⟩
    · exact .inl ⟨g1, g2, g3, g4, fun _ e => by omega⟩
    · exact .inr ⟨g1, g2, by omega, g4, fun e => by omega⟩
/-- the receiver starts again -/
theorem Inv.restart_r (h : Inv i st su ss rt ru ro rr bs br way) (hi : i < 1000) : rstE (rP rt ru ro rr) = (rP rt false (ro + resv rr) zRec, 0) ∧ Inv (i + 1) st su ss rt false (ro + resv rr) zRec bs (br + 1) way := by
  have hr0 := h.resv0
  have ho := h.ro0
  have hg := h.rg
  have hi0 := h.i0
  constructor
  · unfold rstE
    rw [if_neg (fun c => c h.okR'), held_rP, if_neg (by omega)]; rfl
  · have q := h.next hi
    have hb := h.br1
    have ht := h.ts
    refine ⟨q.i0, q.bs1, by omega, by omega, q.tr, q.os, q.ws, okR_z, wfR_z, by omega, q.es, fun e => ⟨rfl, ?_, rfl⟩, rfl, by show _ + (0 : Int) ≤ _; omega, q.zs, fun _ => rfl, (fun _ e => by cases e), (fun _ e => by omega), fun e _ => h.bound e, fun f hf => ?_⟩
    · obtain ⟨_, e1, e2⟩ := h.er e
      rw [e1, e2, resv_z]; rfl
    · obtain ⟨f1, f2, f3, f4⟩ := h.fr f hf
      refine ⟨f1, f2, f3, ?_⟩
      rcases f4 with ⟨g1, g2, g3, g4, g5⟩ | ⟨g1, g2, g3, g4, g5⟩
      · refine .inl ⟨g1, g2, by omega, g4, fun k e => ?_⟩
        obtain ⟨q1, q2, q3⟩ := g5 k e
        have hte : rt = bs := by have := h.tr; omega
        refine ⟨fun _ e2 => by omega, fun e2 _ => ?_, q3⟩
        by_cases c : st = br
        · have w := h.i1 hte c
          have we := i1_end h.or w
          have := q1 e2 c
          obtain ⟨w1, w2, w3, w4⟩ := w
          unfold resv
          omega
        · have := q2 e2 (by omega)
          omega
      · exact .inr ⟨g1, g2, g3, g4, fun _ e => by omega⟩
/-- a frame goes under way -/
theorem Inv.put (h : Inv i st su ss rt ru ro rr bs br way) {f : Fr} (hf : FrI st ss rt ro rr bs br f) : Inv i st su ss rt ru ro rr bs br (way ++ [f]) := by
  obtain ⟨a1, a2, a3, a4, a5, a6, a7, a8, a9, b1, b2, b3, b4, b5, b6, b7, b8, b9, c1, c2⟩ := h
  refine ⟨a1, a2, a3, a4, a5, a6, a7, a8, a9, b1, b2, b3, b4, b5, b6, b7, b8, b9, c1, fun g hg => ?_⟩
  rcases List.mem_append.1 hg with e | e
  · exact c2 g e
  · rw [List.mem_singleton] at e; rw [e]; exact hf
theorem zBn_e : ∀ f : Fr, f.kind ≠ 3 → f.kind ≠ 5 → f.kind ≠ 6 → f.inE = 0 := fun f h1 h2 h3 => by
  unfold Fr.inE
  rw [if_neg h1, if_neg (fun c => c.elim h2 h3)]
/-- a frame without a bundle -/
theorem frB_ok {p : Pr} {node boot kind a b : Int} (hn : 1 ≤ node ∧ node ≤ 16) (hp : 1 ≤ p.node ∧ p.node ≤ 16) (hne : p.node ≠ node) (hb : 1 ≤ boot ∧ boot ≤ 1099511627776) (ht : p.theirs ≤ 1099511627776)
    (hk : (kind = 1 ∧ a = 0 ∧ b = 0) ∨ (kind = 2 ∧ b = 0) ∨ kind = 4) (ha : a ≤ 1125899906842624) (hbb : b ≤ 1125899906842624) : frE (frB p node boot kind a b) = 0 := by
  have hkk : kind = 1 ∨ kind = 2 ∨ kind = 4 := by omega
  have ho : ¬ (frB p node boot kind a b).out := by
    show ¬ (node < 1 ∨ 16 < node ∨ p.node < 1 ∨ 16 < p.node ∨ p.node = node ∨ boot < 1 ∨ 1099511627776 < boot ∨ 1099511627776 < p.theirs)
    omega
  have hbad : ¬ ((frB p node boot kind a b).aBig ∨ (frB p node boot kind a b).bBad) := by
    show ¬ ((kind ≠ 1 ∧ 1125899906842624 < a) ∨ ((kind = 3 ∧ a < b) ∨ (kind = 4 ∧ 1125899906842624 < b) ∨ (kind = 6 ∧ (b < 1 ∨ 3 < b))))
    omega
  have hin : (frB p node boot kind a b).inE = 0 := zBn_e _ (by show kind ≠ 3; omega) (by show kind ≠ 5; omega) (by show kind ≠ 6; omega)
  have hbare : (frB p node boot kind a b).bare := by
    show (kind = 1 → a = 0) ∧ (kind ≠ 3 ∧ kind ≠ 4 ∧ kind ≠ 6 → b = 0) ∧ (kind ≠ 5 ∧ kind ≠ 6 → (0 : Int) = 0 ∧ (0 : Int) = 0 ∧ (0 : Int) = 0) ∧ (kind ≠ 3 → zBn = zBn)
    exact ⟨by omega, by omega, fun _ => ⟨rfl, rfl, rfl⟩, fun _ => rfl⟩
  unfold frE
  rw [if_neg (by show ¬ (kind < 1 ∨ 7 < kind); omega), if_neg ho, if_neg hbad, if_neg (fun c => c hin), if_neg (fun c => c hbare)]
theorem flr_b (hs : okL ss) (hw : Wf ss) : 0 ≤ flr ss ∧ flr ss ≤ ss.n := by
  obtain ⟨_, _, _, _, g⟩ := (okL_iff ss).1 hs
  obtain ⟨_, w2, _, w4⟩ := hw
  unfold flr
  cases hl : ss.sl with
  | nil => exact ⟨w2.1, Int.le_refl _⟩
  | cons y l =>
    rw [hl] at g
    have := slotE_zero.1 g.1
    have := w4 y (by rw [hl]; simp)
    show 0 ≤ y.off ∧ y.off ≤ ss.n
    omega
theorem okL_n (hs : okL ss) (hw : Wf ss) : ss.g ≤ 1125899906842624 ∧ 0 ≤ ss.n ∧ 0 ≤ ss.r ∧ ss.n + ss.r ≤ ss.g := by
  obtain ⟨a, b, c, _, _⟩ := (okL_iff ss).1 hs
  obtain ⟨w1, w2, w3, _⟩ := hw
  omega
/-- the frames of the sender -/
theorem Inv.hello_s (h : Inv i st su ss rt ru ro rr bs br way) : FrI st ss rt ro rr bs br (frB (sP st su ss) 1 bs 1 0 0) := by
  have h1 := h.ts; have h2 := h.br1; have h3 := h.i0; have h4 := h.bs1
  refine ⟨frB_ok (by decide) (by show 1 ≤ (2 : Int) ∧ (2 : Int) ≤ 16; decide) (by show (2 : Int) ≠ 1; decide) (by omega) (by show st ≤ _; omega) (.inl ⟨rfl, rfl, rfl⟩) (by decide) (by decide), Int.le_refl _, Int.le_refl _, .inr ⟨rfl, rfl, Int.le_refl _, Int.le_refl _, fun _ _ => ⟨fun e => ?_, fun e => ?_⟩⟩⟩
  · exact absurd e (by show ¬ (1 : Int) = 3; decide)
  · exact absurd e (by show ¬ (1 : Int) = 4; decide)
theorem Inv.report_s (h : Inv i st su ss rt ru ro rr bs br way) : FrI st ss rt ro rr bs br (frB (sP st su ss) 1 bs 4 (flr ss) ss.r) := by
  have h1 := h.ts; have h2 := h.br1; have h3 := h.i0; have h4 := h.bs1
  have hf := flr_b h.os h.ws
  have hn := okL_n h.os h.ws
  refine ⟨frB_ok (by decide) (by show 1 ≤ (2 : Int) ∧ (2 : Int) ≤ 16; decide) (by show (2 : Int) ≠ 1; decide) (by omega) (by show st ≤ _; omega) (.inr (.inr rfl)) (by omega) (by omega), hf.1, hn.2.2.1, .inr ⟨rfl, rfl, Int.le_refl _, Int.le_refl _, fun _ _ => ⟨fun e => ?_, fun e => ⟨hf.2, Int.le_refl _⟩⟩⟩⟩
  exact absurd e (by show ¬ (4 : Int) = 3; decide)
/-- the frames of the receiver -/
theorem Inv.hello_r (h : Inv i st su ss rt ru ro rr bs br way) : FrI st ss rt ro rr bs br (frB (rP rt ru ro rr) 2 br 1 0 0) := by
  have h1 := h.tr; have h2 := h.br1; have h3 := h.i0; have h4 := h.bs1
  refine ⟨frB_ok (by decide) (by show 1 ≤ (1 : Int) ∧ (1 : Int) ≤ 16; decide) (by show (1 : Int) ≠ 2; decide) (by omega) (by show rt ≤ _; omega) (.inl ⟨rfl, rfl, rfl⟩) (by decide) (by decide), Int.le_refl _, Int.le_refl _, .inl ⟨rfl, rfl, Int.le_refl _, Int.le_refl _, fun e => ?_⟩⟩
  exact absurd e (by show ¬ (1 : Int) = 2; decide)
theorem Inv.grant_r (h : Inv i st su ss rt ru ro rr bs br way) : FrI st ss rt ro rr bs br (frB (rP rt ru ro rr) 2 br 2 rr.g 0) := by
  have h1 := h.tr; have h2 := h.br1; have h3 := h.i0; have h4 := h.bs1; have h5 := h.ts
  have hg := (okR_of h.or).g
  refine ⟨frB_ok (by decide) (by show 1 ≤ (1 : Int) ∧ (1 : Int) ≤ 16; decide) (by show (1 : Int) ≠ 2; decide) (by omega) (by show rt ≤ _; omega) (.inr (.inl ⟨rfl, rfl⟩)) hg (by decide), h.wr.g.1, Int.le_refl _, .inl ⟨rfl, rfl, Int.le_refl _, Int.le_refl _, fun _ e => ⟨fun _ _ => Int.le_refl _, fun e2 e3 => ?_, fun e2 => ?_⟩⟩⟩
  · have e2 : br = st := e2
    omega
  · have e2 : st < br := e2
    have e : rt = bs := e
    have : ru = false := by
      cases hru : ru with
      | false => rfl
      | true => have := h.dd e hru; omega
    have := h.ns this
    show rr.g = 0
    rw [this]; rfl
/-- the receiver grants more -/
theorem Inv.more (h : Inv i st su ss rt ru ro rr bs br way) (hi : i < 1000) (hrt : 0 < rt) (hru : ru = true) {z : Int} (hz : 1 ≤ z ∧ z ≤ 40) (hor : okR { rr with g := rr.g + z }) : Inv (i + 1) st su ss rt ru ro { rr with g := rr.g + z } bs br way := by
  have q := h.next hi
  have hr := (okR_of h.or).g
  refine ⟨q.i0, q.bs1, q.br1, q.ts, q.tr, q.os, q.ws, hor, ⟨by have := h.wr.g; show 0 ≤ rr.g + z ∧ rr.g + z ≤ _; omega, h.wr.r, h.wr.fl, h.wr.tk, h.wr.kp⟩, q.ro0, q.es, (fun e => by omega), q.rk, ?_, q.zs, (fun e => by rw [hru] at e; cases e), q.dd, ?_, q.i2, fun f hf => ?_⟩
  · have := h.rg
    show ro + (rr.g + z) ≤ _
    omega
  · intro e1 e2
    obtain ⟨w1, w2, w3, w4⟩ := h.i1 e1 e2
    exact ⟨by show ss.g ≤ rr.g + z; omega, w2, w3, w4⟩
  · obtain ⟨f1, f2, f3, f4⟩ := h.fr f hf
    refine ⟨f1, f2, f3, ?_⟩
    rcases f4 with ⟨g1, g2, g3, g4, g5⟩ | g
    · refine .inl ⟨g1, g2, g3, g4, fun k e => ?_⟩
      obtain ⟨q1, q2, q3⟩ := g5 k e
      exact ⟨fun e1 e2 => by have := q1 e1 e2; show f.a ≤ rr.g + z; omega, q2, q3⟩
    · exact .inr g
/-- the sender's ledger grows: an offer -/
theorem Inv.offer (h : Inv i st su ss rt ru ro rr bs br way) (hi : i < 1000) (hst : 0 < st) {z node seq io : Int} (hz : 1 ≤ z) (hu : z ≤ usab ss) (hos : okL { ss with sl := ss.sl ++ [⟨ss.n, z, node, seq, io⟩], n := ss.n + z }) (hwf : Wf { ss with sl := ss.sl ++ [⟨ss.n, z, node, seq, io⟩], n := ss.n + z }) :
    Inv (i + 1) st su { ss with sl := ss.sl ++ [⟨ss.n, z, node, seq, io⟩], n := ss.n + z } rt ru ro rr bs br way := by
  have q := h.next hi
  have hte : rt = bs := by
    by_cases c : rt < bs
    · have := h.zs c
      rw [this] at hu
      have : usab zSend = 0 := by decide
      omega
    · have := h.tr; omega
  refine ⟨q.i0, q.bs1, q.br1, q.ts, q.tr, hos, hwf, q.or, q.wr, q.ro0, (fun e => by omega), q.er, q.rk, q.rg, (fun e => by omega), q.ns, q.dd, ?_, ?_, fun f hf => ?_⟩
  · intro e1 e2
    obtain ⟨w1, w2, w3, w4⟩ := h.i1 e1 e2
    exact ⟨w1, w2, by show rr.fl ≤ ss.n + z; omega, fun j hj => by have := w4 j hj; show _ ≤ ss.n + z; omega⟩
  · intro e1 e2
    have := h.i2 e1 e2
    show ss.g ≤ ro + (ss.n + z) + ss.r
    omega
  · obtain ⟨f1, f2, f3, f4⟩ := h.fr f hf
    refine ⟨f1, f2, f3, ?_⟩
    rcases f4 with ⟨g1, g2, g3, g4, g5⟩ | ⟨g1, g2, g3, g4, g5⟩
    · refine .inl ⟨g1, g2, g3, g4, fun k e => ?_⟩
      obtain ⟨q1, q2, q3⟩ := g5 k e
      exact ⟨q1, fun e1 e2 => by have := q2 e1 e2; show f.a ≤ ro + (ss.n + z) + ss.r; omega, q3⟩
    · refine .inr ⟨g1, g2, g3, g4, fun e1 e2 => ?_⟩
      obtain ⟨d1, d2⟩ := g5 e1 e2
      exact ⟨fun k => by have := d1 k; show f.b ≤ ss.n + z; omega, fun k => by have := d2 k; exact ⟨by show f.a ≤ ss.n + z; omega, this.2⟩⟩
/-- the sender learns a greater boot -/
theorem Inv.learn_s (h : Inv i st su ss rt ru ro rr bs br way) {f : Fr} (hf : f ∈ way) (hto : f.to = 1) (hlt : st < f.mine) : Inv i f.mine false zSend rt ru ro rr bs br way := by
  obtain ⟨f1, f2, f3, f4⟩ := h.fr f hf
  have hm : f.mine ≤ br := by
    rcases f4 with ⟨g1, g2, g3, _⟩ | ⟨g1, _⟩
    · exact g3
    · rw [hto] at g1; exact absurd g1 (by decide)
  have hts := h.ts
  have hns : rt = bs → ru = false := fun e => by
    cases hru : ru with
    | false => rfl
    | true => have := h.dd e hru; omega
  refine ⟨h.i0, h.bs1, h.br1, by omega, h.tr, okL_z, wf_z, h.or, h.wr, h.ro0, (fun e => by omega), h.er, h.rk, h.rg, fun _ => rfl, h.ns, (fun e1 e2 => by rw [hns e1] at e2; cases e2), ?_, ?_, fun g hg => ?_⟩
  · intro e1 _
    rw [h.ns (hns e1)]
    exact ⟨Int.le_refl _, Int.le_refl _, Int.le_refl _, fun j hj => by cases hj⟩
  · intro _ _
    have := h.ro0
    show (0 : Int) ≤ ro + 0 + 0
    omega
  · obtain ⟨q1, q2, q3, q4⟩ := h.fr g hg
    refine ⟨q1, q2, q3, ?_⟩
    rcases q4 with ⟨g1, g2, g3, g4, g5⟩ | ⟨g1, g2, g3, g4, g5⟩
    · refine .inl ⟨g1, g2, g3, g4, fun k e => ?_⟩
      obtain ⟨_, _, w3⟩ := g5 k e
      have hro := h.ro0
      have hrg := h.wr.g.1
      exact ⟨fun e1 _ => by have := w3 (by omega); omega, fun e1 _ => by have := w3 (by omega); show g.a ≤ ro + 0 + 0; omega, fun e1 => w3 (by omega)⟩
    · exact .inr ⟨g1, g2, g3, by omega, fun e1 e2 => by omega⟩
theorem Inv.sure_s (h : Inv i st su ss rt ru ro rr bs br way) (hst : 0 < st) : Inv i st true ss rt ru ro rr bs br way := by
  obtain ⟨a1, a2, a3, a4, a5, a6, a7, a8, a9, b1, b2, b3, b4, b5, b6, b7, b8, b9, c1, c2⟩ := h
  exact ⟨a1, a2, a3, a4, a5, a6, a7, a8, a9, b1, (fun e => by omega), b3, b4, b5, b6, b7, b8, b9, c1, c2⟩
/-- a grant arrives -/
theorem Inv.granted (h : Inv i st su ss rt ru ro rr bs br way) {f : Fr} (hf : f ∈ way) (hto : f.to = 1) (hk : f.kind = 2) (hm : f.mine = st) (hy : f.yours = bs) (hgt : ss.g < f.a) (hos : okL { ss with g := f.a }) (hwf : Wf { ss with g := f.a }) (hst : 0 < st) :
    Inv i st su { ss with g := f.a } rt ru ro rr bs br way := by
  obtain ⟨f1, f2, f3, f4⟩ := h.fr f hf
  obtain ⟨q1, q2, q3⟩ : GB st ss ro rr br f := by
    rcases f4 with ⟨_, _, _, _, g5⟩ | ⟨g1, _⟩
    · exact g5 hk hy
    · rw [hto] at g1; exact absurd g1 (by decide)
  have hte : rt = bs := by
    rcases f4 with ⟨_, _, _, g4, _⟩ | ⟨g1, _⟩
    · have := h.tr; omega
    · rw [hto] at g1; exact absurd g1 (by decide)
  refine ⟨h.i0, h.bs1, h.br1, h.ts, h.tr, hos, hwf, h.or, h.wr, h.ro0, (fun e => by omega), h.er, h.rk, h.rg, (fun e => by omega), h.ns, h.dd, ?_, ?_, h.fr⟩
  · intro e1 e2
    obtain ⟨w1, w2, w3, w4⟩ := h.i1 e1 e2
    exact ⟨q1 hm e2, w2, w3, w4⟩
  · intro _ e2
    exact q2 hm e2
/-- the receiver learns a greater boot -/
theorem Inv.learn_r (h : Inv i st su ss rt ru ro rr bs br way) {f : Fr} (hf : f ∈ way) (hto : f.to = 2) (hlt : rt < f.mine) : Inv i st su ss f.mine false 0 zRec bs br way := by
  obtain ⟨f1, f2, f3, f4⟩ := h.fr f hf
  have hm : f.mine ≤ bs := by
    rcases f4 with ⟨g1, _⟩ | ⟨_, _, g3, _⟩
    · rw [hto] at g1; exact absurd g1 (by decide)
    · exact g3
  have htr := h.tr
  have hz := h.zs (by omega)
  refine ⟨h.i0, h.bs1, h.br1, h.ts, by omega, h.os, h.ws, okR_z, wfR_z, Int.le_refl _, h.es, (fun e => by omega), rfl, by have := h.i0; show (0 : Int) + 0 ≤ _; omega, fun _ => hz, fun _ => rfl, (fun _ e => by cases e), ?_, ?_, fun g hg => ?_⟩
  · intro _ _
    rw [hz]
    exact ⟨Int.le_refl _, Int.le_refl _, Int.le_refl _, fun j hj => by cases hj⟩
  · intro _ _
    rw [hz]
    exact Int.le_refl _
  · obtain ⟨q1, q2, q3, q4⟩ := h.fr g hg
    refine ⟨q1, q2, q3, ?_⟩
    rcases q4 with ⟨g1, g2, g3, g4, g5⟩ | g
    · exact .inl ⟨g1, g2, g3, by omega, fun k e => by omega⟩
    · exact .inr g
/-- the receiver meets a fresh frame -/
theorem Inv.sure_r (h : Inv i st su ss rt ru ro rr bs br way) {f : Fr} (hf : f ∈ way) (hto : f.to = 2) (hm : f.mine = rt) (hy : f.yours = br) (hrt : 0 < rt) : Inv i st su ss rt true 0 rr bs br way := by
  obtain ⟨f1, f2, f3, f4⟩ := h.fr f hf
  have hyo : f.yours ≤ st := by
    rcases f4 with ⟨g1, _⟩ | ⟨_, _, _, g4, _⟩
    · rw [hto] at g1; exact absurd g1 (by decide)
    · exact g4
  have hts := h.ts
  have hst : st = br := by omega
  refine ⟨h.i0, h.bs1, h.br1, h.ts, h.tr, h.os, h.ws, h.or, h.wr, Int.le_refl _, h.es, (fun e => by omega), h.rk, by have := h.rg; have := h.ro0; omega, h.zs, (fun e => by cases e), fun _ _ => hst, h.i1, (fun _ e => by omega), fun g hg => ?_⟩
  obtain ⟨q1, q2, q3, q4⟩ := h.fr g hg
  refine ⟨q1, q2, q3, ?_⟩
  rcases q4 with ⟨g1, g2, g3, g4, g5⟩ | g
  · refine .inl ⟨g1, g2, g3, g4, fun k e => ?_⟩
    obtain ⟨w1, w2, w3⟩ := g5 k e
    exact ⟨w1, fun _ e2 => by omega, w3⟩
  · exact .inr g
/-- the receiver's ledger changes, the sum that was granted does not -/
theorem Inv.used (h : Inv i st su ss rt ru ro rr bs br way) (hru : ru = true) (hrt : 0 < rt) {r' : Rec} (hg : r'.g = rr.g) (hk : r'.kp = []) (hor : okR r') (hwr : WfR r')
    (hI : rt = bs → st = br → r'.r ≤ ss.r ∧ r'.fl ≤ ss.n ∧ ∀ j, j < r'.tk.length → (rgAt r'.tk j).t ≤ ss.n) : Inv i st su ss rt ru ro r' bs br way := by
  refine ⟨h.i0, h.bs1, h.br1, h.ts, h.tr, h.os, h.ws, hor, hwr, h.ro0, h.es, (fun e => by omega), hk, by rw [hg]; exact h.rg, h.zs, (fun e => by rw [hru] at e; cases e), h.dd, ?_, h.i2, fun g hgm => ?_⟩
  · intro e1 e2
    have := h.i1 e1 e2
    exact ⟨by rw [hg]; exact this.1, hI e1 e2⟩
  · obtain ⟨q1, q2, q3, q4⟩ := h.fr g hgm
    refine ⟨q1, q2, q3, ?_⟩
    rcases q4 with ⟨g1, g2, g3, g4, g5⟩ | g
    · refine .inl ⟨g1, g2, g3, g4, fun k e => ?_⟩
      obtain ⟨w1, w2, w3⟩ := g5 k e
      exact ⟨fun e1 e2 => by rw [hg]; exact w1 e1 e2, w2, w3⟩
    · exact .inr g
/-- the inequality -/
theorem Inv.holds (h : Inv i st su ss rt ru ro rr bs br way) (ht : rt = bs) : usab ss + (if st = br then opn' rr ss.sl else 0) ≤ ro + resv rr := by
  by_cases c : st = br
  · rw [if_pos c]
    obtain ⟨w1, w2, w3, w4⟩ := h.i1 ht c
    have := cred_key h.os h.ws h.or h.wr w1 w2 w3 w4
    have := h.ro0
    omega
  · rw [if_neg c]
    have := h.bound ht
    unfold usab
    omega
end
end Go.Proofs.Ytfgkkflbpfocjaa

namespace Go.Proofs.Ytfgkkflbpfocjaa
open Go.RowKit
set_option linter.unusedVariables false
set_option linter.unusedSimpArgs false

theorem RowB.anyw {B k : Nat} {w : World} {v : Value} (h : RowB B w k v 0 []) (w' : World) : RowB B w' k v 0 [] := by
  obtain ⟨A, c, rfl, h1, h2, h3, _⟩ := h
  exact ⟨A, c, rfl, h1, h2, h3, fun h => absurd h (by omega)⟩
theorem PrB.anyw {B : Nat} {w : World} {V : Value} {p : Pr} (h : PrB B w V p) {w' : World} (h1 : p.s.sl = []) (h2 : p.r.tk = []) (h3 : p.r.kp = []) : PrB B w' V p := by
  obtain ⟨As, cs, At, ct, Ak, ck, rfl, r1, r2, r3⟩ := h
  rw [h1] at r1
  rw [h2] at r2
  rw [h3] at r3
  refine ⟨_, _, _, _, _, _, rfl, ?_, ?_, ?_⟩
  · rw [h1]; exact RowB.anyw r1 w'
  · rw [h2]; exact RowB.anyw r2 w'
  · rw [h3]; exact RowB.anyw r3 w'

theorem meets_any (p : Pr) (hw : WfP p) (f : Fr) (hf : WfF f) (q : Pr) (v : Int) (ow : Bool) (h : metE p 4 f = 0) (hm : met p 4 f = (q, v, ow)) (hn : q.node = 2) (V : Value) (w : World) (hV : PrAt w V p) :
    Calls Try.prog 30 #[V, f.val, .int .i64 v, .bool ow, .int .u64 q.theirs, .bool q.sure] w (fun e w' => ∃ V', e = .returned (.tuple #[V', .bool true]) ∧ PrB w.heap.size w' V' q ∧ Below w.heap.size w w') := by
  have MT : ∀ w', Below w.heap.size w w' → Calls Try.prog 18 #[V, .int .u64 4, f.val] w' (RetMet (q, v, ow) 0 w') := fun w' hb => by
    have := Meet_any p hw 4 f hf V w' (hV.below hb)
    rwa [mtV, if_pos h, hm, h] at this
  obtain ⟨vs, vt, vk, rfl, hs, ht, hk⟩ := hV
  obtain ⟨As, cs, rfl⟩ := hs.form
  obtain ⟨At, ct, rfl⟩ := ht.form
  obtain ⟨Ak, ck, rfl⟩ := hk.form
  refine (meets_raw _ _ _ _ _ _ _ _ _ _ _ _ _ _ _ _ _ _ _ q.theirs q.old q.sure q.s.g q.s.n q.s.r q.s.sl.length q.s.sl q.r.g q.r.r q.r.fl q.r.tk.length q.r.tk q.r.kp.length q.r.kp f.kind f.frm f.to f.mine f.yours f.a f.b f.inode f.iseq f.ioff f.bn.node f.bn.seq f.bn.off f.bn.dest f.bn.prio f.bn.born f.bn.life f.bn.total f.bn.data v ow w ?_).mono ?_
  · intro w' hb
    refine (MT w' hb).mono ?_
    rintro e w'' ⟨V', rfl, ⟨As', cs', At', ct', Ak', ck', rfl, h1, h2, h3⟩, hb'⟩
    exact ⟨As', cs', At', ct', Ak', ck', by rw [← hn], ⟨h1, h2, h3⟩, hb'⟩
  · rintro e w' ⟨As', cs', At', ct', Ak', ck', rfl, ⟨h1, h2, h3⟩, hb⟩
    exact ⟨_, rfl, ⟨As', cs', At', ct', Ak', ck', by rw [← hn], h1, h2, h3⟩, hb⟩

def p0 : Pr := ⟨2, 0, false, 0, zSend, zRec⟩
def p1 : Pr := ⟨2, 7, false, 0, zSend, zRec⟩
def p2 : Pr := ⟨2, 7, true, 0, zSend, zRec⟩
theorem wfP_small (node th : Int) (su : Bool) (old : Int) (h1 : 0 ≤ th ∧ th ≤ 100) (h2 : 0 ≤ old ∧ old ≤ 100) : WfP ⟨node, th, su, old, zSend, zRec⟩ :=
  ⟨by dsimp only; omega, by dsimp only; omega, wf_z, wfR_z⟩
theorem wfF_hlo (m y : Int) (h1 : 0 ≤ m ∧ m ≤ 18446744073709551615) (h2 : 0 ≤ y ∧ y ≤ 18446744073709551615) : WfF (hlo m y) := ⟨h1, h2, (by decide : (0 : Int) ≤ 0 ∧ (0 : Int) ≤ 18446744073709551615), (by decide : (0 : Int) ≤ 0 ∧ (0 : Int) ≤ 18446744073709551615)⟩
theorem wfF_grt (m y : Int) (h1 : 0 ≤ m ∧ m ≤ 18446744073709551615) (h2 : 0 ≤ y ∧ y ≤ 18446744073709551615) : WfF (grt m y) := ⟨h1, h2, (by decide : (0 : Int) ≤ 5 ∧ (5 : Int) ≤ 18446744073709551615), (by decide : (0 : Int) ≤ 0 ∧ (0 : Int) ≤ 18446744073709551615)⟩

theorem aw1 : metE p0 4 (hlo 7 0) = 0 := by kernel_rfl
theorem aw2 : met p0 4 (hlo 7 0) = (p1, 2, true) := by kernel_rfl
theorem aw3 : metE p1 4 (hlo 7 4) = 0 := by kernel_rfl
theorem aw4 : met p1 4 (hlo 7 4) = (p2, 3, false) := by kernel_rfl

set_option maxRecDepth 100000 in
set_option maxHeartbeats 1000000 in
theorem awake_any (w : World) : Calls Try.prog 12 #[] w (RetB true w) := by
  go_enter Try.func12, Try.ntmps12
  go_upto_region 2 with fail
  refine (hello_any 7 0 w).mono ?_
  rintro e w1 ⟨rfl, hb1⟩
  go_upto_region 2 with fail
  refine (meets_any p0 (wfP_small 2 0 false 0 (by decide) (by decide)) (hlo 7 0) (wfF_hlo 7 0 (by decide) (by decide)) p1 2 true aw1 aw2 rfl _ _ (zPr_at' 0 w1 2 0 false 0).at).mono ?_
  rintro e w2 ⟨V1, rfl, ⟨A1, c1, B1, d1, C1, e1, rfl, R1⟩, hb2⟩
  dsimp only [p1, zSend, zRec, List.length_nil] at R1 ⊢
  have hB2 := hb1.trans (hb2.mono hb1.size)
  clear hb1 hb2
  go_upto_region 2 with (first | (refine wpList_alloc_z (by rfl) 31 (by rfl) _ rfl #[.int .i64 0, .int .u64 0, .bool false, .int .u64 0, .int .u64 0, .int .u64 0, .int .u64 0, .slice none 0 0, .int .u64 0, .int .u64 0, .int .u64 0, .slice none 0 0, .slice none 0 0] (fun w => by kernel_rfl) ?_) | (refine wpList_store_new (by rfl) 31 _ _ (by rfl) w2 #[.int .i64 0, .int .u64 0, .bool false, .int .u64 0, .int .u64 0, .int .u64 0, .int .u64 0, .slice none 0 0, .int .u64 0, .int .u64 0, .int .u64 0, .slice none 0 0, .slice none 0 0] #[.int .i64 2, .int .u64 7, .bool false, .int .u64 0, .int .u64 0, .int .u64 0, .int .u64 0, .slice A1 0 c1, .int .u64 0, .int .u64 0, .int .u64 0, .slice B1 0 d1, .slice C1 0 e1] rfl (by rfl) (by rfl) (by kernel_rfl) rfl (by kernel_rfl) ?_))
  have k1 := Blk.new w2 31 #[.int .i64 2, .int .u64 7, .bool false, .int .u64 0, .int .u64 0, .int .u64 0, .int .u64 0, .slice A1 0 c1, .int .u64 0, .int .u64 0, .int .u64 0, .slice B1 0 d1, .slice C1 0 e1]
  have hB := bal hB2 (.cells #[.int .i64 2, .int .u64 7, .bool false, .int .u64 0, .int .u64 0, .int .u64 0, .int .u64 0, .slice A1 0 c1, .int .u64 0, .int .u64 0, .int .u64 0, .slice B1 0 d1, .slice C1 0 e1] 31)
  have r1 : PrB 0 (w2.alloc (.cells #[.int .i64 2, .int .u64 7, .bool false, .int .u64 0, .int .u64 0, .int .u64 0, .int .u64 0, .slice A1 0 c1, .int .u64 0, .int .u64 0, .int .u64 0, .slice B1 0 d1, .slice C1 0 e1] 31)).drew (.agg #[.int .i64 2, .int .u64 7, .bool false, .int .u64 0, .int .u64 0, .int .u64 0, .int .u64 0, .slice A1 0 c1, .int .u64 0, .int .u64 0, .int .u64 0, .slice B1 0 d1, .slice C1 0 e1]) p1 := (PrB.below (w := w2) (w' := (w2.alloc (.cells #[.int .i64 2, .int .u64 7, .bool false, .int .u64 0, .int .u64 0, .int .u64 0, .int .u64 0, .slice A1 0 c1, .int .u64 0, .int .u64 0, .int .u64 0, .slice B1 0 d1, .slice C1 0 e1] 31)).drew) (PrB.low (B := w1.heap.size) ⟨A1, c1, B1, d1, C1, e1, rfl, R1⟩ (Nat.zero_le _)) (bal (Below.refl _ _) _).drew)
  obtain ⟨g1, hg1⟩ : ∃ g1, w2.heap.size = g1 := ⟨_, rfl⟩
  rw [hg1] at k1 ⊢
  generalize w2.alloc (.cells #[.int .i64 2, .int .u64 7, .bool false, .int .u64 0, .int .u64 0, .int .u64 0, .int .u64 0, .slice A1 0 c1, .int .u64 0, .int .u64 0, .int .u64 0, .slice B1 0 d1, .slice C1 0 e1] 31) = W at k1 hB r1 ⊢
  clear hg1 hB2 R1
  have k2 : Blk W.drew g1 31 #[.int .i64 2, .int .u64 7, .bool false, .int .u64 0, .int .u64 0, .int .u64 0, .int .u64 0, .slice A1 0 c1, .int .u64 0, .int .u64 0, .int .u64 0, .slice B1 0 d1, .slice C1 0 e1] := k1
  have hB3 : Below w.heap.size w W.drew := hB.drew
  refine wp_region_held_drew (S := fun wx => Below w.heap.size w wx ∧ Blk wx g1 31 #[.int .i64 2, .int .u64 7, .bool false, .int .u64 0, .int .u64 0, .int .u64 0, .int .u64 0, .slice A1 0 c1, .int .u64 0, .int .u64 0, .int .u64 0, .slice B1 0 d1, .slice C1 0 e1] ∧ PrB 0 wx (.agg #[.int .i64 2, .int .u64 7, .bool false, .int .u64 0, .int .u64 0, .int .u64 0, .int .u64 0, .slice A1 0 c1, .int .u64 0, .int .u64 0, .int .u64 0, .slice B1 0 d1, .slice C1 0 e1]) p1) (by kernel_rfl) ⟨hB3, k2, r1⟩ (fun hH => ?_)
  generalize W.drew = x0 at k2 hB3 r1 hH ⊢
  clear k1 hB
  refine wpAnyH_take (i := 0) rfl (by kernel_rfl) (by kernel_rfl) (by kernel_rfl) (fun _ _ _ h => h) (yieldsIf_row (g1) 31 #[.int .i64 2, .int .u64 7, .bool false, .int .u64 0, .int .u64 0, .int .u64 0, .int .u64 0, .slice A1 0 c1, .int .u64 0, .int .u64 0, .int .u64 0, .slice B1 0 d1, .slice C1 0 e1] 31 _ _ rfl rfl rfl (fun w h => h.2.1) Try.underlying31 rfl (by kernel_rfl)) hH ?_
  try simp only [List.getElem_toArray, List.getElem_cons_succ, List.getElem_cons_zero, Act.put, List.setIfInBounds_toArray, List.set_cons_zero, List.set_cons_succ]
  refine wpAnyH_ready (rs := [1, 6]) (by kernel_rfl) (by simp) ?_
  refine AllReadyH.cons rfl (fun KK hK => ?_) ?_
  · go_simp
    refine (hello_any 7 4 _).mono ?_
    rintro e x1 ⟨rfl, hb1⟩
    refine hK.out _ _ ⟨bnext hH.1 hb1, hH.2.1.below hb1, hH.2.2.below hb1⟩ (fun hH1 => ?_)
    clear hK KK
    try simp only [List.getElem_toArray, List.getElem_cons_succ, List.getElem_cons_zero, Act.put, List.setIfInBounds_toArray, List.set_cons_zero, List.set_cons_succ]
    refine wpAnyH_ready (rs := [2, 6]) (by kernel_rfl) (by simp) ?_
    refine AllReadyH.cons rfl (fun KK hK => ?_) ?_
    · go_simp
      refine (meets_any p1 (wfP_small 2 7 false 0 (by decide) (by decide)) (hlo 7 4) (wfF_hlo 7 4 (by decide) (by decide)) p2 3 false aw3 aw4 rfl _ _ hH1.2.2.at).mono ?_
      rintro e x2 ⟨V2, rfl, ⟨A2, c2, B2, d2, C2, e2, rfl, R2⟩, hb2⟩
      dsimp only [p2, zSend, zRec, List.length_nil] at R2 ⊢
      refine hK.out _ _ ⟨bnext hH1.1 hb2, hH1.2.1.below hb2, hH1.2.2.below hb2⟩ (fun hH2 => ?_)
      clear hK KK
      try simp only [List.getElem_toArray, List.getElem_cons_succ, List.getElem_cons_zero, Act.put, List.setIfInBounds_toArray, List.set_cons_zero, List.set_cons_succ]
      refine wpAnyH_take (i := 3) rfl (by kernel_rfl) (by kernel_rfl) (by kernel_rfl) (fun _ _ _ h => h) (yieldsIf_pure _ (.tuple #[.agg #[.int .i64 2, .int .u64 7, .bool true, .int .u64 0, .int .u64 0, .int .u64 0, .int .u64 0, .slice A2 0 c2, .int .u64 0, .int .u64 0, .int .u64 0, .slice B2 0 d2, .slice C2 0 e2], .bool true]) rfl (.inl rfl) rfl) hH2 ?_
      try simp only [List.getElem_toArray, List.getElem_cons_succ, List.getElem_cons_zero, Act.put, List.setIfInBounds_toArray, List.set_cons_zero, List.set_cons_succ]
      refine wpAnyH_take (i := 4) rfl (by kernel_rfl) (by kernel_rfl) (by kernel_rfl) (fun _ _ _ h => h) (yieldsIf_cell (.agg #[.int .i64 2, .int .u64 7, .bool true, .int .u64 0, .int .u64 0, .int .u64 0, .int .u64 0, .slice A2 0 c2, .int .u64 0, .int .u64 0, .int .u64 0, .slice B2 0 d2, .slice C2 0 e2]) rfl (fun w h => by go_simp)) hH2 ?_
      try simp only [List.getElem_toArray, List.getElem_cons_succ, List.getElem_cons_zero, Act.put, List.setIfInBounds_toArray, List.set_cons_zero, List.set_cons_succ]
      refine wpAnyH_take (i := 5) rfl (by kernel_rfl) (by kernel_rfl) (by kernel_rfl) (fun _ _ _ h => h) (yieldsIf_cell (.bool true) rfl (fun w h => by go_simp)) hH2 ?_
      try simp only [List.getElem_toArray, List.getElem_cons_succ, List.getElem_cons_zero, Act.put, List.setIfInBounds_toArray, List.set_cons_zero, List.set_cons_succ]
      refine wpAnyH_ready (rs := [6]) (by kernel_rfl) (by simp) ?_
      refine AllReadyH.cons rfl (fun KK hK => ?_) AllReadyH.nil
      go_simp
      have hb3 := bal (Below.refl x2.heap.size x2) (.cells #[.int .i64 0, .int .u64 0, .bool false, .int .u64 0, .int .u64 0, .int .u64 0, .int .u64 0, .slice none 0 0, .int .u64 0, .int .u64 0, .int .u64 0, .slice none 0 0, .slice none 0 0] 31)
      have ka3 := Blk.new x2 31 #[.int .i64 0, .int .u64 0, .bool false, .int .u64 0, .int .u64 0, .int .u64 0, .int .u64 0, .slice none 0 0, .int .u64 0, .int .u64 0, .int .u64 0, .slice none 0 0, .slice none 0 0]
      have al3 : ¬ g1 = x2.heap.size := Nat.ne_of_lt hH2.2.1.lt
      have aw3 : w.heap.size ≤ x2.heap.size := hH2.1.size
      obtain ⟨x3, hx3⟩ : ∃ x, x2.alloc (.cells #[.int .i64 0, .int .u64 0, .bool false, .int .u64 0, .int .u64 0, .int .u64 0, .int .u64 0, .slice none 0 0, .int .u64 0, .int .u64 0, .int .u64 0, .slice none 0 0, .slice none 0 0] 31) = x := ⟨_, rfl⟩
      rw [hx3] at ka3 hb3 ⊢
      refine hK.out _ _ ⟨bnext hH2.1 hb3, hH2.2.1.below hb3, hH2.2.2.below hb3⟩ (fun hH3 => ?_)
      clear hK KK
      try simp only [List.getElem_toArray, List.getElem_cons_succ, List.getElem_cons_zero, Act.put, List.setIfInBounds_toArray, List.set_cons_zero, List.set_cons_succ]
      refine wpAnyH_ready (rs := [7]) (by kernel_rfl) (by simp) ?_
      refine AllReadyH.cons rfl (fun KK hK => ?_) AllReadyH.nil
      rw [if_pos (by rfl)]
      refine wp_store_mid 31 _ _ rfl (x2.heap.size) 0 #[.int .i64 2, .int .u64 7, .bool true, .int .u64 0, .int .u64 0, .int .u64 0, .int .u64 0, .slice A2 0 c2, .int .u64 0, .int .u64 0, .int .u64 0, .slice B2 0 d2, .slice C2 0 e2] rfl rfl (Blk.there ka3 0 _ (Nat.le_refl 13)) (by kernel_rfl) (by kernel_rfl) ?_
      refine hK.out _ _ ⟨below_setCells aw3 _ _ hH3.1, hH3.2.1.farAll al3 _ _, hH3.2.2.anyw rfl rfl rfl⟩ (fun hH4 => ?_)
      clear hK KK
      try simp only [List.getElem_toArray, List.getElem_cons_succ, List.getElem_cons_zero, Act.put, List.setIfInBounds_toArray, List.set_cons_zero, List.set_cons_succ]
      refine wpAnyH_take (i := 8) rfl (by kernel_rfl) (by kernel_rfl) (by kernel_rfl) (fun _ _ _ h => h) (yieldsIf_pure _ (.bool true) rfl (.inr rfl) rfl) hH4 ?_
      try simp only [List.getElem_toArray, List.getElem_cons_succ, List.getElem_cons_zero, Act.put, List.setIfInBounds_toArray, List.set_cons_zero, List.set_cons_succ]
      refine wpAnyH_done (by kernel_rfl) ?_ _
      go_wp2_with fail
      go_ret
      exact ⟨rfl, hH4.1⟩
    refine AllReadyH.cons rfl (fun KK hK => ?_) ?_
    · go_simp
      have hb5 := bal (Below.refl x1.heap.size x1) (.cells #[.int .i64 0, .int .u64 0, .bool false, .int .u64 0, .int .u64 0, .int .u64 0, .int .u64 0, .slice none 0 0, .int .u64 0, .int .u64 0, .int .u64 0, .slice none 0 0, .slice none 0 0] 31)
      have ka5 := Blk.new x1 31 #[.int .i64 0, .int .u64 0, .bool false, .int .u64 0, .int .u64 0, .int .u64 0, .int .u64 0, .slice none 0 0, .int .u64 0, .int .u64 0, .int .u64 0, .slice none 0 0, .slice none 0 0]
      have al5 : ¬ g1 = x1.heap.size := Nat.ne_of_lt hH1.2.1.lt
      have aw5 : w.heap.size ≤ x1.heap.size := hH1.1.size
      obtain ⟨x5, hx5⟩ : ∃ x, x1.alloc (.cells #[.int .i64 0, .int .u64 0, .bool false, .int .u64 0, .int .u64 0, .int .u64 0, .int .u64 0, .slice none 0 0, .int .u64 0, .int .u64 0, .int .u64 0, .slice none 0 0, .slice none 0 0] 31) = x := ⟨_, rfl⟩
      rw [hx5] at ka5 hb5 ⊢
      refine hK.out _ _ ⟨bnext hH1.1 hb5, hH1.2.1.below hb5, hH1.2.2.below hb5⟩ (fun hH5 => ?_)
      clear hK KK
      try simp only [List.getElem_toArray, List.getElem_cons_succ, List.getElem_cons_zero, Act.put, List.setIfInBounds_toArray, List.set_cons_zero, List.set_cons_succ]
      refine wpAnyH_ready (rs := [2]) (by kernel_rfl) (by simp) ?_
      refine AllReadyH.cons rfl (fun KK hK => ?_) AllReadyH.nil
      go_simp
      refine (meets_any p1 (wfP_small 2 7 false 0 (by decide) (by decide)) (hlo 7 4) (wfF_hlo 7 4 (by decide) (by decide)) p2 3 false aw3 aw4 rfl _ _ hH5.2.2.at).mono ?_
      rintro e x6 ⟨V2, rfl, ⟨A2, c2, B2, d2, C2, e2, rfl, R2⟩, hb6⟩
      dsimp only [p2, zSend, zRec, List.length_nil] at R2 ⊢
      have ka6 := (ka5).below hb6
      refine hK.out _ _ ⟨bnext hH5.1 hb6, hH5.2.1.below hb6, hH5.2.2.below hb6⟩ (fun hH6 => ?_)
      clear hK KK
      try simp only [List.getElem_toArray, List.getElem_cons_succ, List.getElem_cons_zero, Act.put, List.setIfInBounds_toArray, List.set_cons_zero, List.set_cons_succ]
      refine wpAnyH_take (i := 3) rfl (by kernel_rfl) (by kernel_rfl) (by kernel_rfl) (fun _ _ _ h => h) (yieldsIf_pure _ (.tuple #[.agg #[.int .i64 2, .int .u64 7, .bool true, .int .u64 0, .int .u64 0, .int .u64 0, .int .u64 0, .slice A2 0 c2, .int .u64 0, .int .u64 0, .int .u64 0, .slice B2 0 d2, .slice C2 0 e2], .bool true]) rfl (.inl rfl) rfl) hH6 ?_
      try simp only [List.getElem_toArray, List.getElem_cons_succ, List.getElem_cons_zero, Act.put, List.setIfInBounds_toArray, List.set_cons_zero, List.set_cons_succ]
      refine wpAnyH_take (i := 4) rfl (by kernel_rfl) (by kernel_rfl) (by kernel_rfl) (fun _ _ _ h => h) (yieldsIf_cell (.agg #[.int .i64 2, .int .u64 7, .bool true, .int .u64 0, .int .u64 0, .int .u64 0, .int .u64 0, .slice A2 0 c2, .int .u64 0, .int .u64 0, .int .u64 0, .slice B2 0 d2, .slice C2 0 e2]) rfl (fun w h => by go_simp)) hH6 ?_
      try simp only [List.getElem_toArray, List.getElem_cons_succ, List.getElem_cons_zero, Act.put, List.setIfInBounds_toArray, List.set_cons_zero, List.set_cons_succ]
      refine wpAnyH_take (i := 5) rfl (by kernel_rfl) (by kernel_rfl) (by kernel_rfl) (fun _ _ _ h => h) (yieldsIf_cell (.bool true) rfl (fun w h => by go_simp)) hH6 ?_
      try simp only [List.getElem_toArray, List.getElem_cons_succ, List.getElem_cons_zero, Act.put, List.setIfInBounds_toArray, List.set_cons_zero, List.set_cons_succ]
      refine wpAnyH_ready (rs := [7]) (by kernel_rfl) (by simp) ?_
      refine AllReadyH.cons rfl (fun KK hK => ?_) AllReadyH.nil
      rw [if_pos (by rfl)]
      refine wp_store_mid 31 _ _ rfl (x1.heap.size) 0 #[.int .i64 2, .int .u64 7, .bool true, .int .u64 0, .int .u64 0, .int .u64 0, .int .u64 0, .slice A2 0 c2, .int .u64 0, .int .u64 0, .int .u64 0, .slice B2 0 d2, .slice C2 0 e2] rfl rfl (Blk.there ka6 0 _ (Nat.le_refl 13)) (by kernel_rfl) (by kernel_rfl) ?_
      refine hK.out _ _ ⟨below_setCells aw5 _ _ hH6.1, hH6.2.1.farAll al5 _ _, hH6.2.2.anyw rfl rfl rfl⟩ (fun hH7 => ?_)
      clear hK KK
      try simp only [List.getElem_toArray, List.getElem_cons_succ, List.getElem_cons_zero, Act.put, List.setIfInBounds_toArray, List.set_cons_zero, List.set_cons_succ]
      refine wpAnyH_take (i := 8) rfl (by kernel_rfl) (by kernel_rfl) (by kernel_rfl) (fun _ _ _ h => h) (yieldsIf_pure _ (.bool true) rfl (.inr rfl) rfl) hH7 ?_
      try simp only [List.getElem_toArray, List.getElem_cons_succ, List.getElem_cons_zero, Act.put, List.setIfInBounds_toArray, List.set_cons_zero, List.set_cons_succ]
      refine wpAnyH_done (by kernel_rfl) ?_ _
      go_wp2_with fail
      go_ret
      exact ⟨rfl, hH7.1⟩
    exact AllReadyH.nil
  refine AllReadyH.cons rfl (fun KK hK => ?_) ?_
  · go_simp
    have hb8 := bal (Below.refl x0.heap.size x0) (.cells #[.int .i64 0, .int .u64 0, .bool false, .int .u64 0, .int .u64 0, .int .u64 0, .int .u64 0, .slice none 0 0, .int .u64 0, .int .u64 0, .int .u64 0, .slice none 0 0, .slice none 0 0] 31)
    have ka8 := Blk.new x0 31 #[.int .i64 0, .int .u64 0, .bool false, .int .u64 0, .int .u64 0, .int .u64 0, .int .u64 0, .slice none 0 0, .int .u64 0, .int .u64 0, .int .u64 0, .slice none 0 0, .slice none 0 0]
    have al8 : ¬ g1 = x0.heap.size := Nat.ne_of_lt hH.2.1.lt
    have aw8 : w.heap.size ≤ x0.heap.size := hH.1.size
    obtain ⟨x8, hx8⟩ : ∃ x, x0.alloc (.cells #[.int .i64 0, .int .u64 0, .bool false, .int .u64 0, .int .u64 0, .int .u64 0, .int .u64 0, .slice none 0 0, .int .u64 0, .int .u64 0, .int .u64 0, .slice none 0 0, .slice none 0 0] 31) = x := ⟨_, rfl⟩
    rw [hx8] at ka8 hb8 ⊢
    refine hK.out _ _ ⟨bnext hH.1 hb8, hH.2.1.below hb8, hH.2.2.below hb8⟩ (fun hH8 => ?_)
    clear hK KK
    try simp only [List.getElem_toArray, List.getElem_cons_succ, List.getElem_cons_zero, Act.put, List.setIfInBounds_toArray, List.set_cons_zero, List.set_cons_succ]
    refine wpAnyH_ready (rs := [1]) (by kernel_rfl) (by simp) ?_
    refine AllReadyH.cons rfl (fun KK hK => ?_) AllReadyH.nil
    go_simp
    refine (hello_any 7 4 _).mono ?_
    rintro e x9 ⟨rfl, hb9⟩
    have ka9 := (ka8).below hb9
    refine hK.out _ _ ⟨bnext hH8.1 hb9, hH8.2.1.below hb9, hH8.2.2.below hb9⟩ (fun hH9 => ?_)
    clear hK KK
    try simp only [List.getElem_toArray, List.getElem_cons_succ, List.getElem_cons_zero, Act.put, List.setIfInBounds_toArray, List.set_cons_zero, List.set_cons_succ]
    refine wpAnyH_ready (rs := [2]) (by kernel_rfl) (by simp) ?_
    refine AllReadyH.cons rfl (fun KK hK => ?_) AllReadyH.nil
    go_simp
    refine (meets_any p1 (wfP_small 2 7 false 0 (by decide) (by decide)) (hlo 7 4) (wfF_hlo 7 4 (by decide) (by decide)) p2 3 false aw3 aw4 rfl _ _ hH9.2.2.at).mono ?_
    rintro e x10 ⟨V2, rfl, ⟨A2, c2, B2, d2, C2, e2, rfl, R2⟩, hb10⟩
    dsimp only [p2, zSend, zRec, List.length_nil] at R2 ⊢
    have ka10 := (ka9).below hb10
    refine hK.out _ _ ⟨bnext hH9.1 hb10, hH9.2.1.below hb10, hH9.2.2.below hb10⟩ (fun hH10 => ?_)
    clear hK KK
    try simp only [List.getElem_toArray, List.getElem_cons_succ, List.getElem_cons_zero, Act.put, List.setIfInBounds_toArray, List.set_cons_zero, List.set_cons_succ]
    refine wpAnyH_take (i := 3) rfl (by kernel_rfl) (by kernel_rfl) (by kernel_rfl) (fun _ _ _ h => h) (yieldsIf_pure _ (.tuple #[.agg #[.int .i64 2, .int .u64 7, .bool true, .int .u64 0, .int .u64 0, .int .u64 0, .int .u64 0, .slice A2 0 c2, .int .u64 0, .int .u64 0, .int .u64 0, .slice B2 0 d2, .slice C2 0 e2], .bool true]) rfl (.inl rfl) rfl) hH10 ?_
    try simp only [List.getElem_toArray, List.getElem_cons_succ, List.getElem_cons_zero, Act.put, List.setIfInBounds_toArray, List.set_cons_zero, List.set_cons_succ]
    refine wpAnyH_take (i := 4) rfl (by kernel_rfl) (by kernel_rfl) (by kernel_rfl) (fun _ _ _ h => h) (yieldsIf_cell (.agg #[.int .i64 2, .int .u64 7, .bool true, .int .u64 0, .int .u64 0, .int .u64 0, .int .u64 0, .slice A2 0 c2, .int .u64 0, .int .u64 0, .int .u64 0, .slice B2 0 d2, .slice C2 0 e2]) rfl (fun w h => by go_simp)) hH10 ?_
    try simp only [List.getElem_toArray, List.getElem_cons_succ, List.getElem_cons_zero, Act.put, List.setIfInBounds_toArray, List.set_cons_zero, List.set_cons_succ]
    refine wpAnyH_take (i := 5) rfl (by kernel_rfl) (by kernel_rfl) (by kernel_rfl) (fun _ _ _ h => h) (yieldsIf_cell (.bool true) rfl (fun w h => by go_simp)) hH10 ?_
    try simp only [List.getElem_toArray, List.getElem_cons_succ, List.getElem_cons_zero, Act.put, List.setIfInBounds_toArray, List.set_cons_zero, List.set_cons_succ]
    refine wpAnyH_ready (rs := [7]) (by kernel_rfl) (by simp) ?_
    refine AllReadyH.cons rfl (fun KK hK => ?_) AllReadyH.nil
    rw [if_pos (by rfl)]
    refine wp_store_mid 31 _ _ rfl (x0.heap.size) 0 #[.int .i64 2, .int .u64 7, .bool true, .int .u64 0, .int .u64 0, .int .u64 0, .int .u64 0, .slice A2 0 c2, .int .u64 0, .int .u64 0, .int .u64 0, .slice B2 0 d2, .slice C2 0 e2] rfl rfl (Blk.there ka10 0 _ (Nat.le_refl 13)) (by kernel_rfl) (by kernel_rfl) ?_
    refine hK.out _ _ ⟨below_setCells aw8 _ _ hH10.1, hH10.2.1.farAll al8 _ _, hH10.2.2.anyw rfl rfl rfl⟩ (fun hH11 => ?_)
    clear hK KK
    try simp only [List.getElem_toArray, List.getElem_cons_succ, List.getElem_cons_zero, Act.put, List.setIfInBounds_toArray, List.set_cons_zero, List.set_cons_succ]
    refine wpAnyH_take (i := 8) rfl (by kernel_rfl) (by kernel_rfl) (by kernel_rfl) (fun _ _ _ h => h) (yieldsIf_pure _ (.bool true) rfl (.inr rfl) rfl) hH11 ?_
    try simp only [List.getElem_toArray, List.getElem_cons_succ, List.getElem_cons_zero, Act.put, List.setIfInBounds_toArray, List.set_cons_zero, List.set_cons_succ]
    refine wpAnyH_done (by kernel_rfl) ?_ _
    go_wp2_with fail
    go_ret
    exact ⟨rfl, hH11.1⟩
  exact AllReadyH.nil
end Go.Proofs.Ytfgkkflbpfocjaa

