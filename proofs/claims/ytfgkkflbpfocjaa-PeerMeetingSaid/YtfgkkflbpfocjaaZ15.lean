/- Peers copied, and compared with themselves. The same peer in two places is the same. -/
import Derived.Test.YtfgkkflbpfocjaaZ12
namespace Go.Proofs.Ytfgkkflbpfocjaa
open Go.RowKit
set_option linter.unusedVariables false
set_option linter.unusedSimpArgs false

set_option maxRecDepth 100000 in
set_option maxHeartbeats 4000000 in
theorem ownp_raw (node th old : Int) (su : Bool) (g n r : Int) (SL : List Sl) (S cs : Nat) (As : Option Addr) (a b f : Int) (TL : List Rg) (T ct : Nat) (At : Option Addr) (KL : List Int) (K ck : Nat) (Ak : Option Addr) (w : World)
    (OS : ∀ w', Below w.heap.size w w' → Calls Try.prog 51 #[.agg #[.int .u64 g, .int .u64 n, .int .u64 r, .slice As S cs]] w' (fun e w'' => ∃ As' cs', e = .returned (.agg #[.int .u64 g, .int .u64 n, .int .u64 r, .slice As' S cs']) ∧ SlsB w'.heap.size w'' (.slice As' S cs') SL ∧ Below w'.heap.size w' w''))
    (OR : ∀ w', Below w.heap.size w w' → Calls Try.prog 52 #[.agg #[.int .u64 a, .int .u64 b, .int .u64 f, .slice At T ct, .slice Ak K ck]] w' (fun e w'' => ∃ At' ct' Ak' ck', e = .returned (.agg #[.int .u64 a, .int .u64 b, .int .u64 f, .slice At' T ct', .slice Ak' K ck']) ∧ RgsB w'.heap.size w'' (.slice At' T ct') TL ∧ KpsB w'.heap.size w'' (.slice Ak' K ck') KL ∧ Below w'.heap.size w' w'')) :
    Calls Try.prog 17 #[.agg #[.int .i64 node, .int .u64 th, .bool su, .int .u64 old, .int .u64 g, .int .u64 n, .int .u64 r, .slice As S cs, .int .u64 a, .int .u64 b, .int .u64 f, .slice At T ct, .slice Ak K ck]] w (fun e w' => ∃ As' cs' At' ct' Ak' ck', e = .returned (.agg #[.int .i64 node, .int .u64 th, .bool su, .int .u64 old, .int .u64 g, .int .u64 n, .int .u64 r, .slice As' S cs', .int .u64 a, .int .u64 b, .int .u64 f, .slice At' T ct', .slice Ak' K ck']) ∧ SlsB w.heap.size w' (.slice As' S cs') SL ∧ RgsB w.heap.size w' (.slice At' T ct') TL ∧ KpsB w.heap.size w' (.slice Ak' K ck') KL ∧ Below w.heap.size w w') := by
  have OS' := Lib.hid OS
  clear OS
  have OR' := Lib.hid OR
  clear OR
  go_enter Try.func17, Try.ntmps17
  go_upto_region 1 with fail
  have k0 := (Blk.new w 31 #[.int .i64 node, .int .u64 th, .bool su, .int .u64 old, .int .u64 g, .int .u64 n, .int .u64 r, .slice As S cs, .int .u64 a, .int .u64 b, .int .u64 f, .slice At T ct, .slice Ak K ck]).alloc (.cells #[.int .i64 0, .int .u64 0, .bool false, .int .u64 0, .int .u64 0, .int .u64 0, .int .u64 0, .slice none 0 0, .int .u64 0, .int .u64 0, .int .u64 0, .slice none 0 0, .slice none 0 0] 31)
  have k1 := Blk.new1 w (.cells #[.int .i64 node, .int .u64 th, .bool su, .int .u64 old, .int .u64 g, .int .u64 n, .int .u64 r, .slice As S cs, .int .u64 a, .int .u64 b, .int .u64 f, .slice At T ct, .slice Ak K ck] 31) 31 #[.int .i64 0, .int .u64 0, .bool false, .int .u64 0, .int .u64 0, .int .u64 0, .int .u64 0, .slice none 0 0, .int .u64 0, .int .u64 0, .int .u64 0, .slice none 0 0, .slice none 0 0]
  have hB := bal (bal (Below.refl w.heap.size w) (.cells #[.int .i64 node, .int .u64 th, .bool su, .int .u64 old, .int .u64 g, .int .u64 n, .int .u64 r, .slice As S cs, .int .u64 a, .int .u64 b, .int .u64 f, .slice At T ct, .slice Ak K ck] 31)) (.cells #[.int .i64 0, .int .u64 0, .bool false, .int .u64 0, .int .u64 0, .int .u64 0, .int .u64 0, .slice none 0 0, .int .u64 0, .int .u64 0, .int .u64 0, .slice none 0 0, .slice none 0 0] 31)
  have HW : w.heap.size + 1 + 1 ≤ ((w.alloc (.cells #[.int .i64 node, .int .u64 th, .bool su, .int .u64 old, .int .u64 g, .int .u64 n, .int .u64 r, .slice As S cs, .int .u64 a, .int .u64 b, .int .u64 f, .slice At T ct, .slice Ak K ck] 31)).alloc (.cells #[.int .i64 0, .int .u64 0, .bool false, .int .u64 0, .int .u64 0, .int .u64 0, .int .u64 0, .slice none 0 0, .int .u64 0, .int .u64 0, .int .u64 0, .slice none 0 0, .slice none 0 0] 31)).heap.size := by simp
  generalize (w.alloc (.cells #[.int .i64 node, .int .u64 th, .bool su, .int .u64 old, .int .u64 g, .int .u64 n, .int .u64 r, .slice As S cs, .int .u64 a, .int .u64 b, .int .u64 f, .slice At T ct, .slice Ak K ck] 31)).alloc (.cells #[.int .i64 0, .int .u64 0, .bool false, .int .u64 0, .int .u64 0, .int .u64 0, .int .u64 0, .slice none 0 0, .int .u64 0, .int .u64 0, .int .u64 0, .slice none 0 0, .slice none 0 0] 31) = W at k0 k1 hB HW ⊢
  obtain ⟨g1, hg1⟩ : ∃ g1, w.heap.size + 1 = g1 := ⟨_, rfl⟩
  have HG1 : Hid (w.heap.size ≤ g1) := Lib.hid (by omega)
  rw [hg1] at k1 HW ⊢
  obtain ⟨g0, hg0⟩ : ∃ g0, w.heap.size = g0 := ⟨_, rfl⟩
  have HG0 : Hid (w.heap.size ≤ g0) := Lib.hid (by omega)
  have NE : Hid (¬ g1 = g0 ∧ g0 < g1 + 1) := Lib.hid (by omega)
  rw [hg0] at k0 ⊢
  clear hg0 hg1
  obtain ⟨x0, x1, x2, x3, x4, x5, x6, x7, x8, x9, x10, x11, x12⟩ := k0.c13
  go_wp2_with fail
  refine (OS'.out _ hB).mono ?_
  rintro e U ⟨As', cs', rfl, hr, hbu⟩
  have hr := RowB.low hr HW
  replace k0 := k0.below hbu
  replace k1 := k1.below hbu
  have hBu := bnext hB hbu
  have hHW := Nat.le_trans HW hbu.size
  clear hbu hB x0 x1 x2 x3 x4 x5 x6 x7 x8 x9 x10 x11 x12 HW
  obtain ⟨x0, x1, x2, x3, x4, x5, x6, x7, x8, x9, x10, x11, x12⟩ := k0.c13
  obtain ⟨f0, f1, f2, f3, f4, f5, f6, f7, f8, f9, f10, f11, f12⟩ := k0.f13
  have hl0 := k0.lt
  go_upto_region 2 with fail
  replace k0 : Blk ((((U.setCell ⟨g0, 4, none⟩ (.int .u64 g)).setCell ⟨g0, 5, none⟩ (.int .u64 n)).setCell ⟨g0, 6, none⟩ (.int .u64 r)).setCell ⟨g0, 7, none⟩ (.slice As' S cs')) g0 31 #[.int .i64 node, .int .u64 th, .bool su, .int .u64 old, .int .u64 g, .int .u64 n, .int .u64 r, .slice As' S cs', .int .u64 a, .int .u64 b, .int .u64 f, .slice At T ct, .slice Ak K ck] := (((k0.set 4 (.int .u64 g)).set 5 (.int .u64 n)).set 6 (.int .u64 r)).set 7 (.slice As' S cs')
  replace k1 := (((k1.far (p := ⟨g0, 4, none⟩) NE.out.1 (.int .u64 g)).far (p := ⟨g0, 5, none⟩) NE.out.1 (.int .u64 n)).far (p := ⟨g0, 6, none⟩) NE.out.1 (.int .u64 r)).far (p := ⟨g0, 7, none⟩) NE.out.1 (.slice As' S cs')
  have hB := (((hBu.setCell (p := ⟨g0, 4, none⟩) HG0.out (.int .u64 g)).setCell (p := ⟨g0, 5, none⟩) HG0.out (.int .u64 n)).setCell (p := ⟨g0, 6, none⟩) HG0.out (.int .u64 r)).setCell (p := ⟨g0, 7, none⟩) HG0.out (.slice As' S cs')
  replace hr := (((hr.set (p := ⟨g0, 4, none⟩) NE.out.2 (.int .u64 g)).set (p := ⟨g0, 5, none⟩) NE.out.2 (.int .u64 n)).set (p := ⟨g0, 6, none⟩) NE.out.2 (.int .u64 r)).set (p := ⟨g0, 7, none⟩) NE.out.2 (.slice As' S cs')
  have hz : g1 + 1 ≤ ((((U.setCell ⟨g0, 4, none⟩ (.int .u64 g)).setCell ⟨g0, 5, none⟩ (.int .u64 n)).setCell ⟨g0, 6, none⟩ (.int .u64 r)).setCell ⟨g0, 7, none⟩ (.slice As' S cs')).heap.size := by simp only [World.size_setCell]; exact hHW
  clear x0 x1 x2 x3 x4 x5 x6 x7 x8 x9 x10 x11 x12 f0 f1 f2 f3 f4 f5 f6 f7 f8 f9 f10 f11 f12 hl0 hBu hHW
  generalize (((U.setCell ⟨g0, 4, none⟩ (.int .u64 g)).setCell ⟨g0, 5, none⟩ (.int .u64 n)).setCell ⟨g0, 6, none⟩ (.int .u64 r)).setCell ⟨g0, 7, none⟩ (.slice As' S cs') = W2 at k0 k1 hB hr hz ⊢
  obtain ⟨x0, x1, x2, x3, x4, x5, x6, x7, x8, x9, x10, x11, x12⟩ := k0.c13
  go_wp2_with fail
  refine (OR'.out _ hB).mono ?_
  rintro e U2 ⟨At', ct', Ak', ck', rfl, ht, hk, hbu⟩
  have ht := RowB.low ht hz
  have hk := RowB.low hk hz
  replace hr := hr.below hbu
  replace k0 := k0.below hbu
  replace k1 := k1.below hbu
  have hBu := bnext hB hbu
  clear hbu hB x0 x1 x2 x3 x4 x5 x6 x7 x8 x9 x10 x11 x12 hz
  obtain ⟨x0, x1, x2, x3, x4, x5, x6, x7, x8, x9, x10, x11, x12⟩ := k0.c13
  obtain ⟨f0, f1, f2, f3, f4, f5, f6, f7, f8, f9, f10, f11, f12⟩ := k0.f13
  have hl0 := k0.lt
  go_upto_region 3 with fail
  replace k0 : Blk (((((U2.setCell ⟨g0, 8, none⟩ (.int .u64 a)).setCell ⟨g0, 9, none⟩ (.int .u64 b)).setCell ⟨g0, 10, none⟩ (.int .u64 f)).setCell ⟨g0, 11, none⟩ (.slice At' T ct')).setCell ⟨g0, 12, none⟩ (.slice Ak' K ck')) g0 31 #[.int .i64 node, .int .u64 th, .bool su, .int .u64 old, .int .u64 g, .int .u64 n, .int .u64 r, .slice As' S cs', .int .u64 a, .int .u64 b, .int .u64 f, .slice At' T ct', .slice Ak' K ck'] := ((((k0.set 8 (.int .u64 a)).set 9 (.int .u64 b)).set 10 (.int .u64 f)).set 11 (.slice At' T ct')).set 12 (.slice Ak' K ck')

  replace k1 := (((((k1.far (p := ⟨g0, 8, none⟩) NE.out.1 (.int .u64 a)).far (p := ⟨g0, 9, none⟩) NE.out.1 (.int .u64 b)).far (p := ⟨g0, 10, none⟩) NE.out.1 (.int .u64 f)).far (p := ⟨g0, 11, none⟩) NE.out.1 (.slice At' T ct')).far (p := ⟨g0, 12, none⟩) NE.out.1 (.slice Ak' K ck'))
  have hB := (((((hBu.setCell (p := ⟨g0, 8, none⟩) HG0.out (.int .u64 a)).setCell (p := ⟨g0, 9, none⟩) HG0.out (.int .u64 b)).setCell (p := ⟨g0, 10, none⟩) HG0.out (.int .u64 f)).setCell (p := ⟨g0, 11, none⟩) HG0.out (.slice At' T ct')).setCell (p := ⟨g0, 12, none⟩) HG0.out (.slice Ak' K ck'))
  replace hr := (((((hr.set (p := ⟨g0, 8, none⟩) NE.out.2 (.int .u64 a)).set (p := ⟨g0, 9, none⟩) NE.out.2 (.int .u64 b)).set (p := ⟨g0, 10, none⟩) NE.out.2 (.int .u64 f)).set (p := ⟨g0, 11, none⟩) NE.out.2 (.slice At' T ct')).set (p := ⟨g0, 12, none⟩) NE.out.2 (.slice Ak' K ck'))
  replace ht := (((((ht.set (p := ⟨g0, 8, none⟩) NE.out.2 (.int .u64 a)).set (p := ⟨g0, 9, none⟩) NE.out.2 (.int .u64 b)).set (p := ⟨g0, 10, none⟩) NE.out.2 (.int .u64 f)).set (p := ⟨g0, 11, none⟩) NE.out.2 (.slice At' T ct')).set (p := ⟨g0, 12, none⟩) NE.out.2 (.slice Ak' K ck'))
  replace hk := (((((hk.set (p := ⟨g0, 8, none⟩) NE.out.2 (.int .u64 a)).set (p := ⟨g0, 9, none⟩) NE.out.2 (.int .u64 b)).set (p := ⟨g0, 10, none⟩) NE.out.2 (.int .u64 f)).set (p := ⟨g0, 11, none⟩) NE.out.2 (.slice At' T ct')).set (p := ⟨g0, 12, none⟩) NE.out.2 (.slice Ak' K ck'))
  clear x0 x1 x2 x3 x4 x5 x6 x7 x8 x9 x10 x11 x12 f0 f1 f2 f3 f4 f5 f6 f7 f8 f9 f10 f11 f12 hl0 hBu
  generalize (((((U2.setCell ⟨g0, 8, none⟩ (.int .u64 a)).setCell ⟨g0, 9, none⟩ (.int .u64 b)).setCell ⟨g0, 10, none⟩ (.int .u64 f)).setCell ⟨g0, 11, none⟩ (.slice At' T ct')).setCell ⟨g0, 12, none⟩ (.slice Ak' K ck')) = W3 at k0 k1 hB hr ht hk ⊢
  go_wp2_with (first | (refine wpList_load_row (by rfl) 31 _ (by rfl) g0 (by rfl) 31 #[.int .i64 node, .int .u64 th, .bool su, .int .u64 old, .int .u64 g, .int .u64 n, .int .u64 r, .slice As' S cs', .int .u64 a, .int .u64 b, .int .u64 f, .slice At' T ct', .slice Ak' K ck'] (0, 0) _ k0 Try.underlying31 (by rfl) (by kernel_rfl) ?_) | (refine wpList_store_mid (by rfl) 31 _ _ (by rfl) g1 0 #[.int .i64 node, .int .u64 th, .bool su, .int .u64 old, .int .u64 g, .int .u64 n, .int .u64 r, .slice As' S cs', .int .u64 a, .int .u64 b, .int .u64 f, .slice At' T ct', .slice Ak' K ck'] (by rfl) (by rfl) (Blk.there k1 0 _ (Nat.le_refl 13)) (by kernel_rfl) (by kernel_rfl) ?_))
  refine bodyPost_ret (results_cell_row rfl _ _ g1 31 #[.int .i64 node, .int .u64 th, .bool su, .int .u64 old, .int .u64 g, .int .u64 n, .int .u64 r, .slice As' S cs', .int .u64 a, .int .u64 b, .int .u64 f, .slice At' T ct', .slice Ak' K ck'] (0, 0) _ rfl (k1.setAll rfl) Try.underlying31 (by rfl) (by kernel_rfl)) rfl ?_
  have h1 : w.heap.size ≤ g1 + 1 := by have := HG1.out; omega
  exact ⟨As', cs', At', ct', Ak', ck', rfl, (hr.setCells (by omega) _ 0).low h1, (ht.setCells (by omega) _ 0).low h1, (hk.setCells (by omega) _ 0).low h1, below_setCells HG1.out _ 0 hB⟩

theorem OwnPeer_any (p : Pr) (h1 : p.s.sl.length ≤ 100000) (h2 : p.r.tk.length ≤ 100000) (h3 : p.r.kp.length ≤ 100000) (V : Value) (w : World) (hV : PrAt w V p) :
    Calls Try.prog 17 #[V] w (fun e w' => ∃ V', e = .returned V' ∧ PrB w.heap.size w' V' p ∧ Below w.heap.size w w') := by
  obtain ⟨vs, vt, vk, rfl, hs, ht, hk⟩ := hV
  obtain ⟨As, cs, rfl⟩ := hs.form
  obtain ⟨At, ct, rfl⟩ := ht.form
  obtain ⟨Ak, ck, rfl⟩ := hk.form
  refine (ownp_raw p.node p.theirs p.old p.sure p.s.g p.s.n p.s.r p.s.sl p.s.sl.length cs As p.r.g p.r.r p.r.fl p.r.tk p.r.tk.length ct At p.r.kp p.r.kp.length ck Ak w (fun w' hb => ?_) (fun w' hb => ?_)).mono ?_
  · refine (OwnSend_any p.s.g p.s.n p.s.r p.s.sl _ w' (hs.below hb) h1).mono ?_
    rintro e w'' ⟨ws, rfl, r1, hb'⟩
    obtain ⟨As', cs', rfl⟩ := SlsAt.form (w := w'') r1.at
    exact ⟨As', cs', rfl, r1.low (by omega), hb'⟩
  · refine (OwnRecv_any p.r.g p.r.r p.r.fl p.r.tk p.r.kp _ _ w' (ht.below hb) (hk.below hb) h2 h3).mono ?_
    rintro e w'' ⟨wt, wk, rfl, r2, r3, hb'⟩
    obtain ⟨At', ct', rfl⟩ := RgsAt.form (w := w'') r2.at
    obtain ⟨Ak', ck', rfl⟩ := KpsAt.form (w := w'') r3.at
    exact ⟨At', ct', Ak', ck', rfl, r2.low (by omega), r3.low (by omega), hb'⟩
  · rintro e w' ⟨As', cs', At', ct', Ak', ck', rfl, r1, r2, r3, hb⟩
    exact ⟨_, rfl, ⟨As', cs', At', ct', Ak', ck', rfl, r1, r2, r3⟩, hb⟩

end Go.Proofs.Ytfgkkflbpfocjaa

namespace Go.Proofs.Ytfgkkflbpfocjaa
open Go.RowKit
set_option linter.unusedVariables false
set_option linter.unusedSimpArgs false

theorem run_ne_sl0 (a b : Int) (c d e : Int) (w : World) : (binOp .neq 81 (.agg #[.int .u64 a, .int .u64 b, .int .i64 c, .int .u64 d, .int .i64 e]) (.agg #[.int .u64 a, .int .u64 b, .int .i64 c, .int .u64 d, .int .i64 e])).run Try.prog w = .ok (.bool false) w := by
  have h : (binOp .neq 81 (.agg #[.int .u64 a, .int .u64 b, .int .i64 c, .int .u64 d, .int .i64 e]) (.agg #[.int .u64 a, .int .u64 b, .int .i64 c, .int .u64 d, .int .i64 e])).run Try.prog w = .ok (.bool (!((((a == a) && (b == b)) && ((c == c) && (d == d) && (e == e)))))) w := by
    go_simp
  rw [h]; simp
theorem guardSl (x y : Operand) (a b : Array Value) (w : World) : (eqGuard .neq 81 x y (.agg a) (.agg b)).run Try.prog w = .ok () w := by kernel_rfl
theorem guardRg (x y : Operand) (a b : Array Value) (w : World) : (eqGuard .neq 74 x y (.agg a) (.agg b)).run Try.prog w = .ok () w := by kernel_rfl
theorem run_ne_rg0 (a b : Int) (w : World) : (binOp .neq 74 (.agg #[.int .u64 a, .int .u64 b]) (.agg #[.int .u64 a, .int .u64 b])).run Try.prog w = .ok (.bool false) w := by
  go_simp

set_option maxRecDepth 100000 in
set_option maxHeartbeats 4000000 in
theorem SameSend_same (g n r : Int) (SL : List Sl) (cs cs' : Nat) (As As' : Option Addr) (w : World) (h1 : SlsAt w (.slice As SL.length cs) SL) (h2 : SlsAt w (.slice As' SL.length cs') SL) :
    Calls Try.prog 66 #[.agg #[.int .u64 g, .int .u64 n, .int .u64 r, .slice As SL.length cs], .agg #[.int .u64 g, .int .u64 n, .int .u64 r, .slice As' SL.length cs']] w (RetB true w) := by
  obtain ⟨_, _, e, hc1, hc2, hR1⟩ := id h1
  cases e
  obtain ⟨_, _, e, hc3, hc4, hR2⟩ := id h2
  cases e
  unfold maxLen at hc2 hc4
  have HR1 := Lib.hid hR1
  have HR2 := Lib.hid hR2
  clear h1 h2 hR1 hR2
  go_enter Try.func66, Try.ntmps66
  go_upto_region 1 with fail
  have k0 : BK2 w w.heap.size 25 #[.int .u64 g, .int .u64 n, .int .u64 r, .slice As SL.length cs] (w.heap.size + 1) 25 #[.int .u64 g, .int .u64 n, .int .u64 r, .slice As' SL.length cs'] _ := ⟨(Blk.new w 25 #[.int .u64 g, .int .u64 n, .int .u64 r, .slice As SL.length cs]).alloc (.cells #[.int .u64 g, .int .u64 n, .int .u64 r, .slice As' SL.length cs'] 25), Blk.new1 w (.cells #[.int .u64 g, .int .u64 n, .int .u64 r, .slice As SL.length cs] 25) 25 #[.int .u64 g, .int .u64 n, .int .u64 r, .slice As' SL.length cs'], bal (bal (Below.refl _ _) (.cells #[.int .u64 g, .int .u64 n, .int .u64 r, .slice As SL.length cs] 25)) (.cells #[.int .u64 g, .int .u64 n, .int .u64 r, .slice As' SL.length cs'] 25)⟩
  obtain ⟨g1, hg1⟩ : ∃ g1, w.heap.size + 1 = g1 := ⟨_, rfl⟩
  rw [hg1] at k0 ⊢
  clear hg1
  obtain ⟨g0, hg0⟩ : ∃ g0, w.heap.size = g0 := ⟨_, rfl⟩
  rw [hg0] at k0 ⊢
  clear hg0
  generalize (w.alloc (.cells #[.int .u64 g, .int .u64 n, .int .u64 r, .slice As SL.length cs] 25)).alloc (.cells #[.int .u64 g, .int .u64 n, .int .u64 r, .slice As' SL.length cs'] 25) = w1 at k0 ⊢
  obtain ⟨x0, x1, x2, x3⟩ := k0.b.c4
  obtain ⟨y0, y1, y2, y3⟩ := k0.c.c4
  have K1 := Lib.hid k0
  clear k0
  go_wp2_with fail
  clear x0 x1 x2 x3 y0 y1 y2 y3
  go_loopw [5] (fun s5 wr => ∃ k : Nat, k ≤ SL.length ∧ s5 = .int .i64 k ∧ BK2 w g0 25 #[.int .u64 g, .int .u64 n, .int .u64 r, .slice As SL.length cs] g1 25 #[.int .u64 g, .int .u64 n, .int .u64 r, .slice As' SL.length cs'] wr) (fun s _ => SL.length - (intOf s).toNat)
  case atStart => exact ⟨0, Nat.zero_le _, rfl, K1.out⟩
  case round =>
    obtain ⟨k, hk, rfl, kb⟩ := hrel
    obtain ⟨wy, rfl⟩ : ∃ wy : World, wy = wr := ⟨_, rfl⟩
    clear K1
    by_cases hlt : k < SL.length
    · obtain ⟨x, hx⟩ : ∃ x, SL[k]? = some x := ⟨_, List.getElem?_eq_getElem hlt⟩
      obtain ⟨bt, ot, e, hbt, p0, p1, p2, p3, p4⟩ := slot_cells HR1.out rfl hx
      subst e
      obtain ⟨bt', ot', e, hbt', q0, q1, q2, q3, q4⟩ := slot_cells HR2.out rfl hx
      subst e
      have kb0 := kb.b
      have kb1 := kb.c
      have hBw := kb.hB
      have x3 : wy.cell? ⟨g0, 3, none⟩ = some (.slice (some ⟨bt, ot, none⟩) SL.length cs) := kb0.cell 3
      have r1 : (wy.cell? ⟨bt, ot + k * 5, none⟩ = some (.int .u64 x.off) ∧ wy.cell? ⟨bt, ot + k * 5 + 1, none⟩ = some (.int .u64 x.size) ∧ wy.cell? ⟨bt, ot + k * 5 + 2, none⟩ = some (.int .i64 x.node) ∧ wy.cell? ⟨bt, ot + k * 5 + 3, none⟩ = some (.int .u64 x.seq) ∧ wy.cell? ⟨bt, ot + k * 5 + 4, none⟩ = some (.int .i64 x.io)) := ⟨(hBw.cell (p := ⟨bt, ot + k * 5, none⟩) hbt).trans p0, (hBw.cell (p := ⟨bt, ot + k * 5 + 1, none⟩) hbt).trans p1, (hBw.cell (p := ⟨bt, ot + k * 5 + 2, none⟩) hbt).trans p2, (hBw.cell (p := ⟨bt, ot + k * 5 + 3, none⟩) hbt).trans p3, (hBw.cell (p := ⟨bt, ot + k * 5 + 4, none⟩) hbt).trans p4⟩
      have r2 : (wy.cell? ⟨bt', ot' + k * 5, none⟩ = some (.int .u64 x.off) ∧ wy.cell? ⟨bt', ot' + k * 5 + 1, none⟩ = some (.int .u64 x.size) ∧ wy.cell? ⟨bt', ot' + k * 5 + 2, none⟩ = some (.int .i64 x.node) ∧ wy.cell? ⟨bt', ot' + k * 5 + 3, none⟩ = some (.int .u64 x.seq) ∧ wy.cell? ⟨bt', ot' + k * 5 + 4, none⟩ = some (.int .i64 x.io)) := ⟨(hBw.cell (p := ⟨bt', ot' + k * 5, none⟩) hbt').trans q0, (hBw.cell (p := ⟨bt', ot' + k * 5 + 1, none⟩) hbt').trans q1, (hBw.cell (p := ⟨bt', ot' + k * 5 + 2, none⟩) hbt').trans q2, (hBw.cell (p := ⟨bt', ot' + k * 5 + 3, none⟩) hbt').trans q3, (hBw.cell (p := ⟨bt', ot' + k * 5 + 4, none⟩) hbt').trans q4⟩
      have HH := Lib.hid (And.intro hBw.drew (And.intro kb0.drew (And.intro kb1.drew (And.intro r1 r2))))
      have hki : (k : Int) < SL.length := by omega
      have hk0 : (0 : Int) ≤ k := by omega
      have hg0y := kb0.lt
      clear kb kb0 kb1 hBw r1 r2 p0 p1 p2 p3 p4 q0 q1 q2 q3 q4 hx
      go_upto_region 6 with fail
      clear x3
      refine wp_region_held_drew (S := fun wx => Below w.heap.size w wx ∧ Blk wx g0 25 #[.int .u64 g, .int .u64 n, .int .u64 r, .slice (some ⟨bt, ot, none⟩) SL.length cs] ∧ Blk wx g1 25 #[.int .u64 g, .int .u64 n, .int .u64 r, .slice (some ⟨bt', ot', none⟩) SL.length cs'] ∧ (wx.cell? ⟨bt, ot + k * 5, none⟩ = some (.int .u64 x.off) ∧ wx.cell? ⟨bt, ot + k * 5 + 1, none⟩ = some (.int .u64 x.size) ∧ wx.cell? ⟨bt, ot + k * 5 + 2, none⟩ = some (.int .i64 x.node) ∧ wx.cell? ⟨bt, ot + k * 5 + 3, none⟩ = some (.int .u64 x.seq) ∧ wx.cell? ⟨bt, ot + k * 5 + 4, none⟩ = some (.int .i64 x.io)) ∧ (wx.cell? ⟨bt', ot' + k * 5, none⟩ = some (.int .u64 x.off) ∧ wx.cell? ⟨bt', ot' + k * 5 + 1, none⟩ = some (.int .u64 x.size) ∧ wx.cell? ⟨bt', ot' + k * 5 + 2, none⟩ = some (.int .i64 x.node) ∧ wx.cell? ⟨bt', ot' + k * 5 + 3, none⟩ = some (.int .u64 x.seq) ∧ wx.cell? ⟨bt', ot' + k * 5 + 4, none⟩ = some (.int .i64 x.io))) (by kernel_rfl) HH.out (fun hH => ?_)
      refine wpAnyH_take (i := 0) rfl (by kernel_rfl) (by kernel_rfl) (by kernel_rfl) (fun _ _ _ h => h) (yieldsIf_cell (.pointer (some ⟨g0, 3, none⟩)) rfl (fun w h => by go_simp)) hH ?_
      try simp only [List.getElem_toArray, List.getElem_cons_succ, List.getElem_cons_zero, Act.put, List.setIfInBounds_toArray, List.set_cons_zero, List.set_cons_succ]
      refine wpAnyH_take (i := 1) rfl (by kernel_rfl) (by kernel_rfl) (by kernel_rfl) (fun _ _ _ h => h) (yieldsIf_cell (.slice (some ⟨bt, ot, none⟩) SL.length cs) rfl (fun w h => by have j0 : w.cell? ⟨g0, 3, none⟩ = some (.slice (some ⟨bt, ot, none⟩) SL.length cs) := (h.2.1).cell 3; go_simp)) hH ?_
      try simp only [List.getElem_toArray, List.getElem_cons_succ, List.getElem_cons_zero, Act.put, List.setIfInBounds_toArray, List.set_cons_zero, List.set_cons_succ]
      refine wpAnyH_take (i := 2) rfl (by kernel_rfl) (by kernel_rfl) (by kernel_rfl) (fun _ _ _ h => h) (yieldsIf_pure _ (.int .i64 (k : Int)) rfl (.inl rfl) rfl) hH ?_
      try simp only [List.getElem_toArray, List.getElem_cons_succ, List.getElem_cons_zero, Act.put, List.setIfInBounds_toArray, List.set_cons_zero, List.set_cons_succ]
      refine wpAnyH_take (i := 3) rfl (by kernel_rfl) (by kernel_rfl) (by kernel_rfl) (fun _ _ _ h => h) (yieldsIf_cell (.pointer (some ⟨bt, ot + k * 5, none⟩)) rfl (fun w h => by go_simp)) hH ?_
      try simp only [List.getElem_toArray, List.getElem_cons_succ, List.getElem_cons_zero, Act.put, List.setIfInBounds_toArray, List.set_cons_zero, List.set_cons_succ]
      refine wpAnyH_take (i := 4) rfl (by kernel_rfl) (by kernel_rfl) (by kernel_rfl) (fun _ _ _ h => h) (yieldsIf_cell (.agg #[.int .u64 x.off, .int .u64 x.size, .int .i64 x.node, .int .u64 x.seq, .int .i64 x.io]) rfl (fun w h => by have e0 := (h.2.2.2.1).1; have e1 := (h.2.2.2.1).2.1; have e2 := (h.2.2.2.1).2.2.1; have e3 := (h.2.2.2.1).2.2.2.1; have e4 := (h.2.2.2.1).2.2.2.2; go_simp)) hH ?_
      try simp only [List.getElem_toArray, List.getElem_cons_succ, List.getElem_cons_zero, Act.put, List.setIfInBounds_toArray, List.set_cons_zero, List.set_cons_succ]
      refine wpAnyH_take (i := 5) rfl (by kernel_rfl) (by kernel_rfl) (by kernel_rfl) (fun _ _ _ h => h) (yieldsIf_cell (.pointer (some ⟨g1, 3, none⟩)) rfl (fun w h => by go_simp)) hH ?_
      try simp only [List.getElem_toArray, List.getElem_cons_succ, List.getElem_cons_zero, Act.put, List.setIfInBounds_toArray, List.set_cons_zero, List.set_cons_succ]
      refine wpAnyH_take (i := 6) rfl (by kernel_rfl) (by kernel_rfl) (by kernel_rfl) (fun _ _ _ h => h) (yieldsIf_cell (.slice (some ⟨bt', ot', none⟩) SL.length cs') rfl (fun w h => by have j0 : w.cell? ⟨g1, 3, none⟩ = some (.slice (some ⟨bt', ot', none⟩) SL.length cs') := (h.2.2.1).cell 3; go_simp)) hH ?_
      try simp only [List.getElem_toArray, List.getElem_cons_succ, List.getElem_cons_zero, Act.put, List.setIfInBounds_toArray, List.set_cons_zero, List.set_cons_succ]
      refine wpAnyH_take (i := 7) rfl (by kernel_rfl) (by kernel_rfl) (by kernel_rfl) (fun _ _ _ h => h) (yieldsIf_pure _ (.int .i64 (k : Int)) rfl (.inl rfl) rfl) hH ?_
      try simp only [List.getElem_toArray, List.getElem_cons_succ, List.getElem_cons_zero, Act.put, List.setIfInBounds_toArray, List.set_cons_zero, List.set_cons_succ]
      refine wpAnyH_take (i := 8) rfl (by kernel_rfl) (by kernel_rfl) (by kernel_rfl) (fun _ _ _ h => h) (yieldsIf_cell (.pointer (some ⟨bt', ot' + k * 5, none⟩)) rfl (fun w h => by go_simp)) hH ?_
      try simp only [List.getElem_toArray, List.getElem_cons_succ, List.getElem_cons_zero, Act.put, List.setIfInBounds_toArray, List.set_cons_zero, List.set_cons_succ]
      refine wpAnyH_take (i := 9) rfl (by kernel_rfl) (by kernel_rfl) (by kernel_rfl) (fun _ _ _ h => h) (yieldsIf_cell (.agg #[.int .u64 x.off, .int .u64 x.size, .int .i64 x.node, .int .u64 x.seq, .int .i64 x.io]) rfl (fun w h => by have e0 := (h.2.2.2.2).1; have e1 := (h.2.2.2.2).2.1; have e2 := (h.2.2.2.2).2.2.1; have e3 := (h.2.2.2.2).2.2.2.1; have e4 := (h.2.2.2.2).2.2.2.2; go_simp)) hH ?_
      try simp only [List.getElem_toArray, List.getElem_cons_succ, List.getElem_cons_zero, Act.put, List.setIfInBounds_toArray, List.set_cons_zero, List.set_cons_succ]
      refine wpAnyH_take (i := 10) rfl (by kernel_rfl) (by kernel_rfl) (by kernel_rfl) (fun _ _ _ h => h) (yIf_bin _ _ _ _ _ (.agg #[.int .u64 x.off, .int .u64 x.size, .int .i64 x.node, .int .u64 x.seq, .int .i64 x.io]) (.agg #[.int .u64 x.off, .int .u64 x.size, .int .i64 x.node, .int .u64 x.seq, .int .i64 x.io]) (.bool false) rfl rfl rfl rfl (fun w => guardSl _ _ _ _ w) (fun w => run_ne_sl0 _ _ _ _ _ w)) hH ?_
      try simp only [List.getElem_toArray, List.getElem_cons_succ, List.getElem_cons_zero, Act.put, List.setIfInBounds_toArray, List.set_cons_zero, List.set_cons_succ]
      refine wpAnyH_done (by kernel_rfl) ?_ _
      have KN : BK2 w g0 25 #[.int .u64 g, .int .u64 n, .int .u64 r, .slice (some ⟨bt, ot, none⟩) SL.length cs] g1 25 #[.int .u64 g, .int .u64 n, .int .u64 r, .slice (some ⟨bt', ot', none⟩) SL.length cs'] wy.drew := ⟨hH.2.1, hH.2.2.1, hH.1⟩
      have HK := Lib.hid KN
      clear hH KN HH
      go_wp2_with fail
      go_roundw
      case rel => exact ⟨k + 1, by omega, by go_num, HK.out⟩
      case measure => simp [intOf]; omega
    · obtain rfl : k = SL.length := by omega
      have x3 : wy.cell? ⟨g0, 3, none⟩ = some (.slice As SL.length cs) := kb.b.cell 3
      have HK := Lib.hid kb.hB
      clear kb
      go_wp2_with fail
      go_ret
      exact ⟨rfl, HK.out⟩

set_option maxRecDepth 100000 in
set_option maxHeartbeats 4000000 in
theorem SameRecv_same (a b f : Int) (TL : List Rg) (KL : List Int) (ct ct' ck ck' : Nat) (At At' Ak Ak' : Option Addr) (w : World) (h1 : RgsAt w (.slice At TL.length ct) TL) (h2 : RgsAt w (.slice At' TL.length ct') TL) (h3 : KpsAt w (.slice Ak KL.length ck) KL) (h4 : KpsAt w (.slice Ak' KL.length ck') KL) :
    Calls Try.prog 67 #[.agg #[.int .u64 a, .int .u64 b, .int .u64 f, .slice At TL.length ct, .slice Ak KL.length ck], .agg #[.int .u64 a, .int .u64 b, .int .u64 f, .slice At' TL.length ct', .slice Ak' KL.length ck']] w (RetB true w) := by
  obtain ⟨_, _, e, hc1, hc2, hR1⟩ := id h1
  cases e
  obtain ⟨_, _, e, hc3, hc4, hR2⟩ := id h2
  cases e
  obtain ⟨_, _, e, hc5, hc6, hQ1⟩ := id h3
  cases e
  obtain ⟨_, _, e, hc7, hc8, hQ2⟩ := id h4
  cases e
  unfold maxLen at hc2 hc4 hc6 hc8
  have HR1 := Lib.hid hR1
  have HR2 := Lib.hid hR2
  have HQ1 := Lib.hid hQ1
  have HQ2 := Lib.hid hQ2
  clear h1 h2 h3 h4 hR1 hR2 hQ1 hQ2
  go_enter Try.func67, Try.ntmps67
  go_upto_region 1 with fail
  have k0 : BK2 w w.heap.size 29 #[.int .u64 a, .int .u64 b, .int .u64 f, .slice At TL.length ct, .slice Ak KL.length ck] (w.heap.size + 1) 29 #[.int .u64 a, .int .u64 b, .int .u64 f, .slice At' TL.length ct', .slice Ak' KL.length ck'] _ := ⟨(Blk.new w 29 #[.int .u64 a, .int .u64 b, .int .u64 f, .slice At TL.length ct, .slice Ak KL.length ck]).alloc (.cells #[.int .u64 a, .int .u64 b, .int .u64 f, .slice At' TL.length ct', .slice Ak' KL.length ck'] 29), Blk.new1 w (.cells #[.int .u64 a, .int .u64 b, .int .u64 f, .slice At TL.length ct, .slice Ak KL.length ck] 29) 29 #[.int .u64 a, .int .u64 b, .int .u64 f, .slice At' TL.length ct', .slice Ak' KL.length ck'], bal (bal (Below.refl _ _) (.cells #[.int .u64 a, .int .u64 b, .int .u64 f, .slice At TL.length ct, .slice Ak KL.length ck] 29)) (.cells #[.int .u64 a, .int .u64 b, .int .u64 f, .slice At' TL.length ct', .slice Ak' KL.length ck'] 29)⟩
  obtain ⟨g1, hg1⟩ : ∃ g1, w.heap.size + 1 = g1 := ⟨_, rfl⟩
  rw [hg1] at k0 ⊢
  clear hg1
  obtain ⟨g0, hg0⟩ : ∃ g0, w.heap.size = g0 := ⟨_, rfl⟩
  rw [hg0] at k0 ⊢
  clear hg0
  generalize (w.alloc (.cells #[.int .u64 a, .int .u64 b, .int .u64 f, .slice At TL.length ct, .slice Ak KL.length ck] 29)).alloc (.cells #[.int .u64 a, .int .u64 b, .int .u64 f, .slice At' TL.length ct', .slice Ak' KL.length ck'] 29) = w1 at k0 ⊢
  obtain ⟨x0, x1, x2, x3, x4⟩ := k0.b.c5
  obtain ⟨y0, y1, y2, y3, y4⟩ := k0.c.c5
  have K1 := Lib.hid k0
  clear k0
  go_wp2_with fail
  clear x0 x1 x2 x3 x4 y0 y1 y2 y3 y4
  go_loopw [5] (fun s5 wr => ∃ k : Nat, k ≤ TL.length ∧ s5 = .int .i64 k ∧ BK2 w g0 29 #[.int .u64 a, .int .u64 b, .int .u64 f, .slice At TL.length ct, .slice Ak KL.length ck] g1 29 #[.int .u64 a, .int .u64 b, .int .u64 f, .slice At' TL.length ct', .slice Ak' KL.length ck'] wr) (fun s _ => TL.length - (intOf s).toNat)
  case atStart => exact ⟨0, Nat.zero_le _, rfl, K1.out⟩
  case round =>
    obtain ⟨k, hk, rfl, kb⟩ := hrel
    obtain ⟨wy, rfl⟩ : ∃ wy : World, wy = wr := ⟨_, rfl⟩
    clear K1
    by_cases hlt : k < TL.length
    · obtain ⟨x, hx⟩ : ∃ x, TL[k]? = some x := ⟨_, List.getElem?_eq_getElem hlt⟩
      obtain ⟨bt, ot, e, hbt, p0, p1⟩ := reads_rg HR1.out rfl hx
      subst e
      obtain ⟨bt', ot', e, hbt', q0, q1⟩ := reads_rg HR2.out rfl hx
      subst e
      have kb0 := kb.b
      have kb1 := kb.c
      have hBw := kb.hB
      have x3 : wy.cell? ⟨g0, 3, none⟩ = some (.slice (some ⟨bt, ot, none⟩) TL.length ct) := kb0.cell 3
      have r1 : (wy.cell? ⟨bt, ot + k * 2, none⟩ = some (.int .u64 x.f) ∧ wy.cell? ⟨bt, ot + k * 2 + 1, none⟩ = some (.int .u64 x.t)) := ⟨(hBw.cell (p := ⟨bt, ot + k * 2, none⟩) hbt).trans p0, (hBw.cell (p := ⟨bt, ot + k * 2 + 1, none⟩) hbt).trans p1⟩
      have r2 : (wy.cell? ⟨bt', ot' + k * 2, none⟩ = some (.int .u64 x.f) ∧ wy.cell? ⟨bt', ot' + k * 2 + 1, none⟩ = some (.int .u64 x.t)) := ⟨(hBw.cell (p := ⟨bt', ot' + k * 2, none⟩) hbt').trans q0, (hBw.cell (p := ⟨bt', ot' + k * 2 + 1, none⟩) hbt').trans q1⟩
      clear p0 p1 q0 q1
      have HH := Lib.hid (And.intro hBw.drew (And.intro kb0.drew (And.intro kb1.drew (And.intro r1 r2))))
      have hki : (k : Int) < TL.length := by omega
      have hk0 : (0 : Int) ≤ k := by omega
      have hg0y := kb0.lt
      clear kb kb0 kb1 hBw r1 r2 hx
      go_upto_region 6 with fail
      clear x3
      refine wp_region_held_drew (S := fun wx => Below w.heap.size w wx ∧ Blk wx g0 29 #[.int .u64 a, .int .u64 b, .int .u64 f, .slice (some ⟨bt, ot, none⟩) TL.length ct, .slice Ak KL.length ck] ∧ Blk wx g1 29 #[.int .u64 a, .int .u64 b, .int .u64 f, .slice (some ⟨bt', ot', none⟩) TL.length ct', .slice Ak' KL.length ck'] ∧ (wx.cell? ⟨bt, ot + k * 2, none⟩ = some (.int .u64 x.f) ∧ wx.cell? ⟨bt, ot + k * 2 + 1, none⟩ = some (.int .u64 x.t)) ∧ (wx.cell? ⟨bt', ot' + k * 2, none⟩ = some (.int .u64 x.f) ∧ wx.cell? ⟨bt', ot' + k * 2 + 1, none⟩ = some (.int .u64 x.t))) (by kernel_rfl) HH.out (fun hH => ?_)
      refine wpAnyH_take (i := 0) rfl (by kernel_rfl) (by kernel_rfl) (by kernel_rfl) (fun _ _ _ h => h) (yieldsIf_cell (.pointer (some ⟨g0, 3, none⟩)) rfl (fun w h => by go_simp)) hH ?_
      try simp only [List.getElem_toArray, List.getElem_cons_succ, List.getElem_cons_zero, Act.put, List.setIfInBounds_toArray, List.set_cons_zero, List.set_cons_succ]
      refine wpAnyH_take (i := 1) rfl (by kernel_rfl) (by kernel_rfl) (by kernel_rfl) (fun _ _ _ h => h) (yieldsIf_cell (.slice (some ⟨bt, ot, none⟩) TL.length ct) rfl (fun w h => by have j0 : w.cell? ⟨g0, 3, none⟩ = some (.slice (some ⟨bt, ot, none⟩) TL.length ct) := (h.2.1).cell 3; go_simp)) hH ?_
      try simp only [List.getElem_toArray, List.getElem_cons_succ, List.getElem_cons_zero, Act.put, List.setIfInBounds_toArray, List.set_cons_zero, List.set_cons_succ]
      refine wpAnyH_take (i := 2) rfl (by kernel_rfl) (by kernel_rfl) (by kernel_rfl) (fun _ _ _ h => h) (yieldsIf_pure _ (.int .i64 (k : Int)) rfl (.inl rfl) rfl) hH ?_
      try simp only [List.getElem_toArray, List.getElem_cons_succ, List.getElem_cons_zero, Act.put, List.setIfInBounds_toArray, List.set_cons_zero, List.set_cons_succ]
      refine wpAnyH_take (i := 3) rfl (by kernel_rfl) (by kernel_rfl) (by kernel_rfl) (fun _ _ _ h => h) (yieldsIf_cell (.pointer (some ⟨bt, ot + k * 2, none⟩)) rfl (fun w h => by go_simp)) hH ?_
      try simp only [List.getElem_toArray, List.getElem_cons_succ, List.getElem_cons_zero, Act.put, List.setIfInBounds_toArray, List.set_cons_zero, List.set_cons_succ]
      refine wpAnyH_take (i := 4) rfl (by kernel_rfl) (by kernel_rfl) (by kernel_rfl) (fun _ _ _ h => h) (yieldsIf_cell (.agg #[.int .u64 x.f, .int .u64 x.t]) rfl (fun w h => by have e0 := (h.2.2.2.1).1; have e1 := (h.2.2.2.1).2; go_simp)) hH ?_
      try simp only [List.getElem_toArray, List.getElem_cons_succ, List.getElem_cons_zero, Act.put, List.setIfInBounds_toArray, List.set_cons_zero, List.set_cons_succ]
      refine wpAnyH_take (i := 5) rfl (by kernel_rfl) (by kernel_rfl) (by kernel_rfl) (fun _ _ _ h => h) (yieldsIf_cell (.pointer (some ⟨g1, 3, none⟩)) rfl (fun w h => by go_simp)) hH ?_
      try simp only [List.getElem_toArray, List.getElem_cons_succ, List.getElem_cons_zero, Act.put, List.setIfInBounds_toArray, List.set_cons_zero, List.set_cons_succ]
      refine wpAnyH_take (i := 6) rfl (by kernel_rfl) (by kernel_rfl) (by kernel_rfl) (fun _ _ _ h => h) (yieldsIf_cell (.slice (some ⟨bt', ot', none⟩) TL.length ct') rfl (fun w h => by have j0 : w.cell? ⟨g1, 3, none⟩ = some (.slice (some ⟨bt', ot', none⟩) TL.length ct') := (h.2.2.1).cell 3; go_simp)) hH ?_
      try simp only [List.getElem_toArray, List.getElem_cons_succ, List.getElem_cons_zero, Act.put, List.setIfInBounds_toArray, List.set_cons_zero, List.set_cons_succ]
      refine wpAnyH_take (i := 7) rfl (by kernel_rfl) (by kernel_rfl) (by kernel_rfl) (fun _ _ _ h => h) (yieldsIf_pure _ (.int .i64 (k : Int)) rfl (.inl rfl) rfl) hH ?_
      try simp only [List.getElem_toArray, List.getElem_cons_succ, List.getElem_cons_zero, Act.put, List.setIfInBounds_toArray, List.set_cons_zero, List.set_cons_succ]
      refine wpAnyH_take (i := 8) rfl (by kernel_rfl) (by kernel_rfl) (by kernel_rfl) (fun _ _ _ h => h) (yieldsIf_cell (.pointer (some ⟨bt', ot' + k * 2, none⟩)) rfl (fun w h => by go_simp)) hH ?_
      try simp only [List.getElem_toArray, List.getElem_cons_succ, List.getElem_cons_zero, Act.put, List.setIfInBounds_toArray, List.set_cons_zero, List.set_cons_succ]
      refine wpAnyH_take (i := 9) rfl (by kernel_rfl) (by kernel_rfl) (by kernel_rfl) (fun _ _ _ h => h) (yieldsIf_cell (.agg #[.int .u64 x.f, .int .u64 x.t]) rfl (fun w h => by have e0 := (h.2.2.2.2).1; have e1 := (h.2.2.2.2).2; go_simp)) hH ?_
      try simp only [List.getElem_toArray, List.getElem_cons_succ, List.getElem_cons_zero, Act.put, List.setIfInBounds_toArray, List.set_cons_zero, List.set_cons_succ]
      refine wpAnyH_take (i := 10) rfl (by kernel_rfl) (by kernel_rfl) (by kernel_rfl) (fun _ _ _ h => h) (yIf_bin _ _ _ _ _ (.agg #[.int .u64 x.f, .int .u64 x.t]) (.agg #[.int .u64 x.f, .int .u64 x.t]) (.bool false) rfl rfl rfl rfl (fun w => guardRg _ _ _ _ w) (fun w => run_ne_rg0 _ _ w)) hH ?_
      try simp only [List.getElem_toArray, List.getElem_cons_succ, List.getElem_cons_zero, Act.put, List.setIfInBounds_toArray, List.set_cons_zero, List.set_cons_succ]
      refine wpAnyH_done (by kernel_rfl) ?_ _
      have KN : BK2 w g0 29 #[.int .u64 a, .int .u64 b, .int .u64 f, .slice (some ⟨bt, ot, none⟩) TL.length ct, .slice Ak KL.length ck] g1 29 #[.int .u64 a, .int .u64 b, .int .u64 f, .slice (some ⟨bt', ot', none⟩) TL.length ct', .slice Ak' KL.length ck'] wy.drew := ⟨hH.2.1, hH.2.2.1, hH.1⟩
      have HK := Lib.hid KN
      clear hH KN HH
      go_wp2_with fail
      go_roundw
      case rel => exact ⟨k + 1, by omega, by go_num, HK.out⟩
      case measure => simp [intOf]; omega
    · obtain rfl : k = TL.length := by omega
      have x3 : wy.cell? ⟨g0, 3, none⟩ = some (.slice At TL.length ct) := kb.b.cell 3
      have K1 := Lib.hid kb
      clear kb
      go_wp2_with fail
      clear x3 hlt hk
      go_loopw [6] (fun s5 wr => ∃ k : Nat, k ≤ KL.length ∧ s5 = .int .i64 k ∧ BK2 w g0 29 #[.int .u64 a, .int .u64 b, .int .u64 f, .slice At TL.length ct, .slice Ak KL.length ck] g1 29 #[.int .u64 a, .int .u64 b, .int .u64 f, .slice At' TL.length ct', .slice Ak' KL.length ck'] wr) (fun s _ => KL.length - (intOf s).toNat)
      case atStart => exact ⟨0, Nat.zero_le _, rfl, K1.out⟩
      case round =>
        obtain ⟨k, hk, rfl, kb⟩ := hrel
        obtain ⟨wy, rfl⟩ : ∃ wy : World, wy = wr := ⟨_, rfl⟩
        clear K1
        by_cases hlt : k < KL.length
        · obtain ⟨x, hx⟩ : ∃ x, KL[k]? = some x := ⟨_, List.getElem?_eq_getElem hlt⟩
          obtain ⟨bt, ot, e, hbt, p0⟩ := reads_kp HQ1.out rfl hx
          subst e
          obtain ⟨bt', ot', e, hbt', q0⟩ := reads_kp HQ2.out rfl hx
          subst e
          have kb0 := kb.b
          have kb1 := kb.c
          have hBw := kb.hB
          have x3 : wy.cell? ⟨g0, 4, none⟩ = some (.slice (some ⟨bt, ot, none⟩) KL.length ck) := kb0.cell 4
          have r1 : (wy.cell? ⟨bt, ot + k, none⟩ = some (.int .u64 x)) := (hBw.cell (p := ⟨bt, ot + k, none⟩) hbt).trans p0
          have r2 : (wy.cell? ⟨bt', ot' + k, none⟩ = some (.int .u64 x)) := (hBw.cell (p := ⟨bt', ot' + k, none⟩) hbt').trans q0
          clear p0 q0
          have HH := Lib.hid (And.intro hBw.drew (And.intro kb0.drew (And.intro kb1.drew (And.intro r1 r2))))
          have hki : (k : Int) < KL.length := by omega
          have hk0 : (0 : Int) ≤ k := by omega
          have hg0y := kb0.lt
          clear kb kb0 kb1 hBw r1 r2 hx
          go_upto_region 11 with fail
          clear x3
          refine wp_region_held_drew (S := fun wx => Below w.heap.size w wx ∧ Blk wx g0 29 #[.int .u64 a, .int .u64 b, .int .u64 f, .slice At TL.length ct, .slice (some ⟨bt, ot, none⟩) KL.length ck] ∧ Blk wx g1 29 #[.int .u64 a, .int .u64 b, .int .u64 f, .slice At' TL.length ct', .slice (some ⟨bt', ot', none⟩) KL.length ck'] ∧ (wx.cell? ⟨bt, ot + k, none⟩ = some (.int .u64 x)) ∧ (wx.cell? ⟨bt', ot' + k, none⟩ = some (.int .u64 x))) (by kernel_rfl) HH.out (fun hH => ?_)
          refine wpAnyH_take (i := 0) rfl (by kernel_rfl) (by kernel_rfl) (by kernel_rfl) (fun _ _ _ h => h) (yieldsIf_cell (.pointer (some ⟨g0, 4, none⟩)) rfl (fun w h => by go_simp)) hH ?_
          try simp only [List.getElem_toArray, List.getElem_cons_succ, List.getElem_cons_zero, Act.put, List.setIfInBounds_toArray, List.set_cons_zero, List.set_cons_succ]
          refine wpAnyH_take (i := 1) rfl (by kernel_rfl) (by kernel_rfl) (by kernel_rfl) (fun _ _ _ h => h) (yieldsIf_cell (.slice (some ⟨bt, ot, none⟩) KL.length ck) rfl (fun w h => by have j0 : w.cell? ⟨g0, 4, none⟩ = some (.slice (some ⟨bt, ot, none⟩) KL.length ck) := (h.2.1).cell 4; go_simp)) hH ?_
          try simp only [List.getElem_toArray, List.getElem_cons_succ, List.getElem_cons_zero, Act.put, List.setIfInBounds_toArray, List.set_cons_zero, List.set_cons_succ]
          refine wpAnyH_take (i := 2) rfl (by kernel_rfl) (by kernel_rfl) (by kernel_rfl) (fun _ _ _ h => h) (yieldsIf_pure _ (.int .i64 (k : Int)) rfl (.inl rfl) rfl) hH ?_
          try simp only [List.getElem_toArray, List.getElem_cons_succ, List.getElem_cons_zero, Act.put, List.setIfInBounds_toArray, List.set_cons_zero, List.set_cons_succ]
          refine wpAnyH_take (i := 3) rfl (by kernel_rfl) (by kernel_rfl) (by kernel_rfl) (fun _ _ _ h => h) (yieldsIf_cell (.pointer (some ⟨bt, ot + k, none⟩)) rfl (fun w h => by go_simp)) hH ?_
          try simp only [List.getElem_toArray, List.getElem_cons_succ, List.getElem_cons_zero, Act.put, List.setIfInBounds_toArray, List.set_cons_zero, List.set_cons_succ]
          refine wpAnyH_take (i := 4) rfl (by kernel_rfl) (by kernel_rfl) (by kernel_rfl) (fun _ _ _ h => h) (yieldsIf_cell (.int .u64 x) rfl (fun w h => by have e0 := h.2.2.2.1; go_simp)) hH ?_
          try simp only [List.getElem_toArray, List.getElem_cons_succ, List.getElem_cons_zero, Act.put, List.setIfInBounds_toArray, List.set_cons_zero, List.set_cons_succ]
          refine wpAnyH_take (i := 5) rfl (by kernel_rfl) (by kernel_rfl) (by kernel_rfl) (fun _ _ _ h => h) (yieldsIf_cell (.pointer (some ⟨g1, 4, none⟩)) rfl (fun w h => by go_simp)) hH ?_
          try simp only [List.getElem_toArray, List.getElem_cons_succ, List.getElem_cons_zero, Act.put, List.setIfInBounds_toArray, List.set_cons_zero, List.set_cons_succ]
          refine wpAnyH_take (i := 6) rfl (by kernel_rfl) (by kernel_rfl) (by kernel_rfl) (fun _ _ _ h => h) (yieldsIf_cell (.slice (some ⟨bt', ot', none⟩) KL.length ck') rfl (fun w h => by have j0 : w.cell? ⟨g1, 4, none⟩ = some (.slice (some ⟨bt', ot', none⟩) KL.length ck') := (h.2.2.1).cell 4; go_simp)) hH ?_
          try simp only [List.getElem_toArray, List.getElem_cons_succ, List.getElem_cons_zero, Act.put, List.setIfInBounds_toArray, List.set_cons_zero, List.set_cons_succ]
          refine wpAnyH_take (i := 7) rfl (by kernel_rfl) (by kernel_rfl) (by kernel_rfl) (fun _ _ _ h => h) (yieldsIf_pure _ (.int .i64 (k : Int)) rfl (.inl rfl) rfl) hH ?_
          try simp only [List.getElem_toArray, List.getElem_cons_succ, List.getElem_cons_zero, Act.put, List.setIfInBounds_toArray, List.set_cons_zero, List.set_cons_succ]
          refine wpAnyH_take (i := 8) rfl (by kernel_rfl) (by kernel_rfl) (by kernel_rfl) (fun _ _ _ h => h) (yieldsIf_cell (.pointer (some ⟨bt', ot' + k, none⟩)) rfl (fun w h => by go_simp)) hH ?_
          try simp only [List.getElem_toArray, List.getElem_cons_succ, List.getElem_cons_zero, Act.put, List.setIfInBounds_toArray, List.set_cons_zero, List.set_cons_succ]
          refine wpAnyH_take (i := 9) rfl (by kernel_rfl) (by kernel_rfl) (by kernel_rfl) (fun _ _ _ h => h) (yieldsIf_cell (.int .u64 x) rfl (fun w h => by have e0 := h.2.2.2.2; go_simp)) hH ?_
          try simp only [List.getElem_toArray, List.getElem_cons_succ, List.getElem_cons_zero, Act.put, List.setIfInBounds_toArray, List.set_cons_zero, List.set_cons_succ]
          refine wpAnyH_take (i := 10) rfl (by kernel_rfl) (by kernel_rfl) (by kernel_rfl) (fun _ _ _ h => h) (yieldsIf_cell (.bool false) rfl (fun w h => by go_simp)) hH ?_
          try simp only [List.getElem_toArray, List.getElem_cons_succ, List.getElem_cons_zero, Act.put, List.setIfInBounds_toArray, List.set_cons_zero, List.set_cons_succ]
          refine wpAnyH_done (by kernel_rfl) ?_ _
          have KN : BK2 w g0 29 #[.int .u64 a, .int .u64 b, .int .u64 f, .slice At TL.length ct, .slice (some ⟨bt, ot, none⟩) KL.length ck] g1 29 #[.int .u64 a, .int .u64 b, .int .u64 f, .slice At' TL.length ct', .slice (some ⟨bt', ot', none⟩) KL.length ck'] wy.drew := ⟨hH.2.1, hH.2.2.1, hH.1⟩
          have HK := Lib.hid KN
          clear hH KN HH
          go_wp2_with fail
          go_roundw
          case rel => exact ⟨k + 1, by omega, by go_num, HK.out⟩
          case measure => simp [intOf]; omega
        · obtain rfl : k = KL.length := by omega
          have x4 : wy.cell? ⟨g0, 4, none⟩ = some (.slice Ak KL.length ck) := kb.b.cell 4
          have HK := Lib.hid kb.hB
          clear kb
          go_wp2_with fail
          go_ret
          exact ⟨rfl, HK.out⟩

set_option maxRecDepth 100000 in
set_option maxHeartbeats 4000000 in
theorem SamePeer_raw (node th old : Int) (su : Bool) (g n r : Int) (SL : List Sl) (cs cs' : Nat) (As As' : Option Addr) (a b f : Int) (TL : List Rg) (KL : List Int) (ct ct' ck ck' : Nat) (At At' Ak Ak' : Option Addr) (w : World)
    (SS : ∀ w', Below w.heap.size w w' → Calls Try.prog 66 #[.agg #[.int .u64 g, .int .u64 n, .int .u64 r, .slice As SL.length cs], .agg #[.int .u64 g, .int .u64 n, .int .u64 r, .slice As' SL.length cs']] w' (RetB true w'))
    (SR : ∀ w', Below w.heap.size w w' → Calls Try.prog 67 #[.agg #[.int .u64 a, .int .u64 b, .int .u64 f, .slice At TL.length ct, .slice Ak KL.length ck], .agg #[.int .u64 a, .int .u64 b, .int .u64 f, .slice At' TL.length ct', .slice Ak' KL.length ck']] w' (RetB true w')) :
    Calls Try.prog 22 #[.agg #[.int .i64 node, .int .u64 th, .bool su, .int .u64 old, .int .u64 g, .int .u64 n, .int .u64 r, .slice As SL.length cs, .int .u64 a, .int .u64 b, .int .u64 f, .slice At TL.length ct, .slice Ak KL.length ck], .agg #[.int .i64 node, .int .u64 th, .bool su, .int .u64 old, .int .u64 g, .int .u64 n, .int .u64 r, .slice As' SL.length cs', .int .u64 a, .int .u64 b, .int .u64 f, .slice At' TL.length ct', .slice Ak' KL.length ck']] w (RetB true w) := by
  have SS' := Lib.hid SS
  have SR' := Lib.hid SR
  clear SS SR
  go_enter Try.func22, Try.ntmps22
  go_upto_region 1 with fail
  have k0 : BK2 w w.heap.size 31 #[.int .i64 node, .int .u64 th, .bool su, .int .u64 old, .int .u64 g, .int .u64 n, .int .u64 r, .slice As SL.length cs, .int .u64 a, .int .u64 b, .int .u64 f, .slice At TL.length ct, .slice Ak KL.length ck] (w.heap.size + 1) 31 #[.int .i64 node, .int .u64 th, .bool su, .int .u64 old, .int .u64 g, .int .u64 n, .int .u64 r, .slice As' SL.length cs', .int .u64 a, .int .u64 b, .int .u64 f, .slice At' TL.length ct', .slice Ak' KL.length ck'] _ := ⟨(Blk.new w 31 #[.int .i64 node, .int .u64 th, .bool su, .int .u64 old, .int .u64 g, .int .u64 n, .int .u64 r, .slice As SL.length cs, .int .u64 a, .int .u64 b, .int .u64 f, .slice At TL.length ct, .slice Ak KL.length ck]).alloc (.cells #[.int .i64 node, .int .u64 th, .bool su, .int .u64 old, .int .u64 g, .int .u64 n, .int .u64 r, .slice As' SL.length cs', .int .u64 a, .int .u64 b, .int .u64 f, .slice At' TL.length ct', .slice Ak' KL.length ck'] 31), Blk.new1 w (.cells #[.int .i64 node, .int .u64 th, .bool su, .int .u64 old, .int .u64 g, .int .u64 n, .int .u64 r, .slice As SL.length cs, .int .u64 a, .int .u64 b, .int .u64 f, .slice At TL.length ct, .slice Ak KL.length ck] 31) 31 #[.int .i64 node, .int .u64 th, .bool su, .int .u64 old, .int .u64 g, .int .u64 n, .int .u64 r, .slice As' SL.length cs', .int .u64 a, .int .u64 b, .int .u64 f, .slice At' TL.length ct', .slice Ak' KL.length ck'], bal (bal (Below.refl _ _) (.cells #[.int .i64 node, .int .u64 th, .bool su, .int .u64 old, .int .u64 g, .int .u64 n, .int .u64 r, .slice As SL.length cs, .int .u64 a, .int .u64 b, .int .u64 f, .slice At TL.length ct, .slice Ak KL.length ck] 31)) (.cells #[.int .i64 node, .int .u64 th, .bool su, .int .u64 old, .int .u64 g, .int .u64 n, .int .u64 r, .slice As' SL.length cs', .int .u64 a, .int .u64 b, .int .u64 f, .slice At' TL.length ct', .slice Ak' KL.length ck'] 31)⟩
  obtain ⟨g1, hg1⟩ : ∃ g1, w.heap.size + 1 = g1 := ⟨_, rfl⟩
  rw [hg1] at k0 ⊢
  clear hg1
  obtain ⟨g0, hg0⟩ : ∃ g0, w.heap.size = g0 := ⟨_, rfl⟩
  rw [hg0] at k0 ⊢
  clear hg0
  generalize (w.alloc (.cells #[.int .i64 node, .int .u64 th, .bool su, .int .u64 old, .int .u64 g, .int .u64 n, .int .u64 r, .slice As SL.length cs, .int .u64 a, .int .u64 b, .int .u64 f, .slice At TL.length ct, .slice Ak KL.length ck] 31)).alloc (.cells #[.int .i64 node, .int .u64 th, .bool su, .int .u64 old, .int .u64 g, .int .u64 n, .int .u64 r, .slice As' SL.length cs', .int .u64 a, .int .u64 b, .int .u64 f, .slice At' TL.length ct', .slice Ak' KL.length ck'] 31) = w1 at k0 ⊢
  obtain ⟨x0, x1, x2, x3, x4, x5, x6, x7, _, _, _, _, _⟩ := k0.b.c13
  obtain ⟨y0, y1, y2, y3, y4, y5, y6, y7, _, _, _, _, _⟩ := k0.c.c13
  have K1 := Lib.hid k0
  clear k0
  cases su
  all_goals
    go_wp2_with fail
    refine (SS'.out _ K1.out.hB).mono ?_
    rintro e w2 ⟨rfl, hb⟩
    have kk := K1.out.below hb
    clear K1 hb x0 x1 x2 x3 x4 x5 x6 x7 y0 y1 y2 y3 y4 y5 y6 y7
    obtain ⟨_, _, _, _, _, _, _, _, x8, x9, x10, x11, x12⟩ := kk.b.c13
    obtain ⟨_, _, _, _, _, _, _, _, y8, y9, y10, y11, y12⟩ := kk.c.c13
    have K1 := Lib.hid kk
    clear kk
    go_wp2_with fail
    refine (SR'.out _ K1.out.hB).mono ?_
    rintro e w3 ⟨rfl, hb⟩
    have HB := Lib.hid (bnext K1.out.hB hb)
    clear K1 hb x8 x9 x10 x11 x12 y8 y9 y10 y11 y12
    go_wp2_with fail
    go_ret
    exact ⟨rfl, HB.out⟩

theorem SamePeer_same (p : Pr) (V V' : Value) (w : World) (h : PrAt w V p) (h' : PrAt w V' p) : Calls Try.prog 22 #[V, V'] w (RetB true w) := by
  obtain ⟨vs, vt, vk, rfl, h1, h2, h3⟩ := h
  obtain ⟨As, cs, rfl⟩ := h1.form
  obtain ⟨At, ct, rfl⟩ := h2.form
  obtain ⟨Ak, ck, rfl⟩ := h3.form
  obtain ⟨vs, vt, vk, rfl, h4, h5, h6⟩ := h'
  obtain ⟨As', cs', rfl⟩ := h4.form
  obtain ⟨At', ct', rfl⟩ := h5.form
  obtain ⟨Ak', ck', rfl⟩ := h6.form
  exact SamePeer_raw _ _ _ _ _ _ _ p.s.sl _ _ _ _ _ _ _ p.r.tk p.r.kp _ _ _ _ _ _ _ _ w (fun w' hb => SameSend_same _ _ _ _ _ _ _ _ w' (h1.below hb) (h4.below hb)) (fun w' hb => SameRecv_same _ _ _ _ _ _ _ _ _ _ _ _ _ w' (h2.below hb) (h5.below hb) (h3.below hb) (h6.below hb))

end Go.Proofs.Ytfgkkflbpfocjaa

