/- Whether the credit inequality holds (the program): the inequality. -/
import Derived.Test.YtfgkkflbpfocjaaZc49
import Derived.Test.YtfgkkflbpfocjaaZc50
namespace Go.Proofs.Ytfgkkflbpfocjaa
open Go.RowKit Go.Shelf
set_option linter.unusedVariables false
set_option linter.unusedSimpArgs false
attribute [local go_sem] Oper.semAt_some

set_option maxRecDepth 100000 in
set_option maxHeartbeats 4000000 in
theorem ph_before (node th old : Int) (su : Bool) (g n r : Int) (S cs : Nat) (As : Option Addr) (a b f : Int) (T ct : Nat) (At : Option Addr) (K ck : Nat) (Ak : Option Addr) (node' th' old' : Int) (su' : Bool) (g' n' r' : Int) (S' cs' : Nat) (As' : Option Addr) (a' b' f' : Int) (T' ct' : Nat) (At' : Option Addr) (K' ck' : Nat) (Ak' : Option Addr) (bs br : Int) (w : World) (CS : ∀ w', Below w.heap.size w w' → Calls Try.prog 20 #[.agg #[.int .i64 node, .int .u64 th, .bool su, .int .u64 old, .int .u64 g, .int .u64 n, .int .u64 r, .slice As S cs, .int .u64 a, .int .u64 b, .int .u64 f, .slice At T ct, .slice Ak K ck]] w' (RetI .i64 0 w')) (CR : ∀ w', Below w.heap.size w w' → Calls Try.prog 20 #[.agg #[.int .i64 node', .int .u64 th', .bool su', .int .u64 old', .int .u64 g', .int .u64 n', .int .u64 r', .slice As' S' cs', .int .u64 a', .int .u64 b', .int .u64 f', .slice At' T' ct', .slice Ak' K' ck']] w' (RetI .i64 0 w')) (h0 : ¬ bs < 1) (h1 : ¬ bs > 1099511627776) (h2 : ¬ br < 1) (h3 : ¬ br > 1099511627776) (us hl : Int) (US : ∀ w', Below w.heap.size w w' → Calls Try.prog 39 #[.agg #[.int .u64 g, .int .u64 n, .int .u64 r, .slice As S cs]] w' (Ret2 .u64 .i64 us 0 w')) (HE : ∀ w', Below w.heap.size w w' → Calls Try.prog 41 #[.agg #[.int .i64 node', .int .u64 th', .bool su', .int .u64 old', .int .u64 g', .int .u64 n', .int .u64 r', .slice As' S' cs', .int .u64 a', .int .u64 b', .int .u64 f', .slice At' T' ct', .slice Ak' K' ck']] w' (fun e w'' => e = .returned (.tuple #[.int .u64 hl, .bool true]) ∧ Below w'.heap.size w' w'')) (SL : List Sl) (hSl : S = SL.length) (z : Rec) (hRd : Reads w 5 As S (flat SL)) (hcs : S ≤ cs ∧ cs ≤ maxLen) (hwf : ∀ x ∈ SL, (0 ≤ x.off ∧ x.off ≤ 18446744073709551615) ∧ (0 ≤ x.size ∧ x.size ≤ 18446744073709551615)) (hps : ∀ x ∈ SL, (stE z x.off x.size).2 = 0 ∨ (stE z x.off x.size).2 = 14)
    (ST : ∀ w', Below w.heap.size w w' → ∀ off size : Int, (0 ≤ off ∧ off ≤ 18446744073709551615) → (0 ≤ size ∧ size ≤ 18446744073709551615) → Calls Try.prog 77 #[.agg #[.int .u64 a', .int .u64 b', .int .u64 f', .slice At' T' ct', .slice Ak' K' ck'], .int .u64 off, .int .u64 size] w' (Ret2 .i64 .i64 (stE z off size).1 (stE z off size).2 w')) (hus : 0 ≤ us ∧ us ≤ 1125899906842624) (q1 : (th != br) = true) (q2 : decide (th < br) = true) (q3 : (th' != bs) = false) (q4 : su' = false) :
    Calls Try.prog 13 #[.agg #[.int .i64 node, .int .u64 th, .bool su, .int .u64 old, .int .u64 g, .int .u64 n, .int .u64 r, .slice As S cs, .int .u64 a, .int .u64 b, .int .u64 f, .slice At T ct, .slice Ak K ck], .int .u64 bs, .agg #[.int .i64 node', .int .u64 th', .bool su', .int .u64 old', .int .u64 g', .int .u64 n', .int .u64 r', .slice As' S' cs', .int .u64 a', .int .u64 b', .int .u64 f', .slice At' T' ct', .slice Ak' K' ck'], .int .u64 br] w (fun e w' => e = .returned (.tuple #[.bool (decide (us + 0 ≤ hl)), .int .i64 0]) ∧ Below w.heap.size w w') := by
  subst q4
  have CS' := Lib.hid CS
  clear CS
  have CR' := Lib.hid CR
  clear CR
  have US' := Lib.hid US
  clear US
  have HE' := Lib.hid HE
  clear HE
  have hRd' := Lib.hid hRd
  clear hRd
  have hwf' := Lib.hid hwf
  clear hwf
  have hps' := Lib.hid hps
  clear hps
  have ST' := Lib.hid ST
  clear ST
  have hSl' := Lib.hid hSl
  clear hSl
  refine (callsIn_wide (n := 3)).1 ?_
  refine callsIn_of_wp_marks Try.func13 rfl trivial ?_ rfl
  simp only [Try.ntmps13, List.size_toArray, List.length_cons, List.length_nil, Nat.reduceAdd, Nat.reduceSub, Array.replicate_succ, Array.replicate_zero, List.push_toArray, List.append_toArray, List.nil_append, List.cons_append]
  gi_upto_region 1 with fail
  have k0 : BK2 w w.heap.size 31 #[.int .i64 node, .int .u64 th, .bool su, .int .u64 old, .int .u64 g, .int .u64 n, .int .u64 r, .slice As S cs, .int .u64 a, .int .u64 b, .int .u64 f, .slice At T ct, .slice Ak K ck] (w.heap.size + 1) 31 #[.int .i64 node', .int .u64 th', .bool false, .int .u64 old', .int .u64 g', .int .u64 n', .int .u64 r', .slice As' S' cs', .int .u64 a', .int .u64 b', .int .u64 f', .slice At' T' ct', .slice Ak' K' ck'] _ := ⟨(Blk.new w 31 #[.int .i64 node, .int .u64 th, .bool su, .int .u64 old, .int .u64 g, .int .u64 n, .int .u64 r, .slice As S cs, .int .u64 a, .int .u64 b, .int .u64 f, .slice At T ct, .slice Ak K ck]).alloc (.cells #[.int .i64 node', .int .u64 th', .bool false, .int .u64 old', .int .u64 g', .int .u64 n', .int .u64 r', .slice As' S' cs', .int .u64 a', .int .u64 b', .int .u64 f', .slice At' T' ct', .slice Ak' K' ck'] 31), Blk.new1 w (.cells #[.int .i64 node, .int .u64 th, .bool su, .int .u64 old, .int .u64 g, .int .u64 n, .int .u64 r, .slice As S cs, .int .u64 a, .int .u64 b, .int .u64 f, .slice At T ct, .slice Ak K ck] 31) 31 #[.int .i64 node', .int .u64 th', .bool false, .int .u64 old', .int .u64 g', .int .u64 n', .int .u64 r', .slice As' S' cs', .int .u64 a', .int .u64 b', .int .u64 f', .slice At' T' ct', .slice Ak' K' ck'], bal (bal (Below.refl _ _) (.cells #[.int .i64 node, .int .u64 th, .bool su, .int .u64 old, .int .u64 g, .int .u64 n, .int .u64 r, .slice As S cs, .int .u64 a, .int .u64 b, .int .u64 f, .slice At T ct, .slice Ak K ck] 31)) (.cells #[.int .i64 node', .int .u64 th', .bool false, .int .u64 old', .int .u64 g', .int .u64 n', .int .u64 r', .slice As' S' cs', .int .u64 a', .int .u64 b', .int .u64 f', .slice At' T' ct', .slice Ak' K' ck'] 31)⟩
  have G1 : Hid (w.heap.size ≤ w.heap.size) := Lib.hid (Nat.le_refl _)
  obtain ⟨g1, hg1⟩ : ∃ g1, w.heap.size + 1 = g1 := ⟨_, rfl⟩
  rw [hg1] at k0 ⊢
  clear hg1
  obtain ⟨g0, hg0⟩ : ∃ g0, w.heap.size = g0 := ⟨_, rfl⟩
  rw [hg0] at k0 ⊢
  clear hg0 G1
  generalize (w.alloc (.cells #[.int .i64 node, .int .u64 th, .bool su, .int .u64 old, .int .u64 g, .int .u64 n, .int .u64 r, .slice As S cs, .int .u64 a, .int .u64 b, .int .u64 f, .slice At T ct, .slice Ak K ck] 31)).alloc (.cells #[.int .i64 node', .int .u64 th', .bool false, .int .u64 old', .int .u64 g', .int .u64 n', .int .u64 r', .slice As' S' cs', .int .u64 a', .int .u64 b', .int .u64 f', .slice At' T' ct', .slice Ak' K' ck'] 31) = w1 at k0 ⊢
  obtain ⟨x0, x1, x2, x3, x4, x5, x6, x7, x8, x9, x10, x11, x12⟩ := k0.b.c13
  obtain ⟨y0, y1, y2, y3, y4, y5, y6, y7, y8, y9, y10, y11, y12⟩ := k0.c.c13
  have K1 := Lib.hid k0
  clear k0
  gi_wp2
  refine ⟨trivial, ?_⟩
  refine (callsIn_wide.2 (CS'.out _ K1.out.hB)).mono ?_
  rintro e w2 ⟨rfl, hb⟩
  have kk := K1.out.below hb
  clear K1 x0 x1 x2 x3 x4 x5 x6 x7 x8 x9 x10 x11 x12 y0 y1 y2 y3 y4 y5 y6 y7 y8 y9 y10 y11 y12 hb
  obtain ⟨x0, x1, x2, x3, x4, x5, x6, x7, x8, x9, x10, x11, x12⟩ := kk.b.c13
  obtain ⟨y0, y1, y2, y3, y4, y5, y6, y7, y8, y9, y10, y11, y12⟩ := kk.c.c13
  have hl0 := kk.b.lt
  have hl1 := kk.c.lt
  have K1 := Lib.hid kk
  clear kk
  gi_wp2
  refine ⟨trivial, ?_⟩
  refine (callsIn_wide.2 (CR'.out _ K1.out.hB)).mono ?_
  rintro e w3 ⟨rfl, hb⟩
  have kk := K1.out.below hb
  clear K1 x0 x1 x2 x3 x4 x5 x6 x7 x8 x9 x10 x11 x12 y0 y1 y2 y3 y4 y5 y6 y7 y8 y9 y10 y11 y12 hb
  obtain ⟨x0, x1, x2, x3, x4, x5, x6, x7, x8, x9, x10, x11, x12⟩ := kk.b.c13
  obtain ⟨y0, y1, y2, y3, y4, y5, y6, y7, y8, y9, y10, y11, y12⟩ := kk.c.c13
  have hl0 := kk.b.lt
  have hl1 := kk.c.lt
  have K1 := Lib.hid kk
  clear kk
  gi_wp2
  refine ⟨trivial, ?_⟩
  refine (callsIn_wide.2 (US'.out _ K1.out.hB)).mono ?_
  rintro e w4 ⟨rfl, hb⟩
  have kk := K1.out.below hb
  clear K1 x0 x1 x2 x3 x4 x5 x6 x7 x8 x9 x10 x11 x12 y0 y1 y2 y3 y4 y5 y6 y7 y8 y9 y10 y11 y12 hb
  obtain ⟨x0, x1, x2, x3, x4, x5, x6, x7, x8, x9, x10, x11, x12⟩ := kk.b.c13
  obtain ⟨y0, y1, y2, y3, y4, y5, y6, y7, y8, y9, y10, y11, y12⟩ := kk.c.c13
  have hl0 := kk.b.lt
  have hl1 := kk.c.lt
  have K1 := Lib.hid kk
  clear kk
  gi_wp2
  refine ⟨trivial, ?_⟩
  refine (callsIn_wide.2 (counted_raw _ _ _ _ _ _ _ _ _ _ _ _ _ _ _ _ _ _ _ _ _ _ _ _ _ _ _ _)).mono ?_
  rintro e w5 ⟨rfl, hw5⟩
  rw [World.size_alloc]
  have hb : Below w4.heap.size w4 w5 := by rw [hw5]; exact bal (bal (bal (bal (Below.refl _ _) _) _) _) _
  have kk := K1.out.below hb
  have hz : w5.heap.size = w4.heap.size + 1 + 1 + 1 + 1 := by rw [hw5]; simp
  have kB : Boxed w5 w4.heap.size 22 (.int .u64 us) := by rw [hw5]; exact ((Blk.new w4 22 #[.int .u64 us]).alloc _ |>.alloc _ |>.alloc _)
  have kS : Blk w5 (w4.heap.size + 1) 31 #[.int .i64 node, .int .u64 th, .bool su, .int .u64 old, .int .u64 g, .int .u64 n, .int .u64 r, .slice As S cs, .int .u64 a, .int .u64 b, .int .u64 f, .slice At T ct, .slice Ak K ck] := by rw [hw5]; exact ((Blk.new1 w4 (.cells #[.int .u64 us] 22) 31 #[.int .i64 node, .int .u64 th, .bool su, .int .u64 old, .int .u64 g, .int .u64 n, .int .u64 r, .slice As S cs, .int .u64 a, .int .u64 b, .int .u64 f, .slice At T ct, .slice Ak K ck]).alloc _ |>.alloc _)
  have kR : Blk w5 (w4.heap.size + 1 + 1) 31 #[.int .i64 node', .int .u64 th', .bool false, .int .u64 old', .int .u64 g', .int .u64 n', .int .u64 r', .slice As' S' cs', .int .u64 a', .int .u64 b', .int .u64 f', .slice At' T' ct', .slice Ak' K' ck'] := by rw [hw5]; exact ((Blk.new2 w4 (.cells #[.int .u64 us] 22) (.cells #[.int .i64 node, .int .u64 th, .bool su, .int .u64 old, .int .u64 g, .int .u64 n, .int .u64 r, .slice As S cs, .int .u64 a, .int .u64 b, .int .u64 f, .slice At T ct, .slice Ak K ck] 31) 31 #[.int .i64 node', .int .u64 th', .bool false, .int .u64 old', .int .u64 g', .int .u64 n', .int .u64 r', .slice As' S' cs', .int .u64 a', .int .u64 b', .int .u64 f', .slice At' T' ct', .slice Ak' K' ck']).alloc _)
  have kA : Blk w5 (w4.heap.size + 1 + 1 + 1) 4 #[.bool true] := by
    have := Blk.new (((w4.alloc (.cells #[.int .u64 us] 22)).alloc (.cells #[.int .i64 node, .int .u64 th, .bool su, .int .u64 old, .int .u64 g, .int .u64 n, .int .u64 r, .slice As S cs, .int .u64 a, .int .u64 b, .int .u64 f, .slice At T ct, .slice Ak K ck] 31)).alloc (.cells #[.int .i64 node', .int .u64 th', .bool false, .int .u64 old', .int .u64 g', .int .u64 n', .int .u64 r', .slice As' S' cs', .int .u64 a', .int .u64 b', .int .u64 f', .slice At' T' ct', .slice Ak' K' ck'] 31)) 4 #[.bool true]
    rw [World.size_alloc, World.size_alloc, World.size_alloc] at this
    rw [hw5]; exact this
  have hwB : w.heap.size ≤ w4.heap.size := K1.out.hB.size
  obtain ⟨B, hB⟩ : ∃ B, w4.heap.size = B := ⟨_, rfl⟩
  rw [hB] at hz kB kS kR kA hl0 hl1 hwB ⊢
  have hb5 := kk.hB
  have KK := Lib.hid kk
  have HZ := Lib.hid hz
  have HBB := Lib.hid hwB
  clear K1 hw5 hb hB kk x0 x1 x2 x3 x4 x5 x6 x7 x8 x9 x10 x11 x12 y0 y1 y2 y3 y4 y5 y6 y7 y8 y9 y10 y11 y12
  clear hz hwB
  gi_wp2
  have hz1 : B + 1 + 1 + 1 < w5.heap.size := by have := HZ.out; omega
  have hz2 : w5.heap.size ≤ B + 1 + 1 + 1 + 1 := by have := HZ.out; omega
  have hwB := HBB.out
  refine' wpIn_rangeFunc_ownH rfl (by omega) (gf := 76) (lb := #[.pointer (some ⟨B + 1 + 1 + 1, 0, none⟩), .pointer (some ⟨B + 1, 0, none⟩), .pointer (some ⟨B + 1 + 1, 0, none⟩)]) rfl trivial (enters_of Try.func76 (by kernel_rfl) rfl)
    (Kp := KpH w.heap.size (B + 1 + 1 + 1) (B + 1) (B + 1 + 1))
    (counted_stops _ (by omega) w (B + 1 + 1 + 1) (B + 1) (B + 1 + 1) true S cs As SL hSl'.out #[.int .i64 node, .int .u64 th, .bool su, .int .u64 old, .int .u64 g, .int .u64 n, .int .u64 r, .slice As S cs, .int .u64 a, .int .u64 b, .int .u64 f, .slice At T ct, .slice Ak K ck] #[.int .i64 node', .int .u64 th', .bool false, .int .u64 old', .int .u64 g', .int .u64 n', .int .u64 r', .slice As' S' cs', .int .u64 a', .int .u64 b', .int .u64 f', .slice At' T' ct', .slice Ak' K' ck'] z rfl a' b' f' (.slice At' T' ct') (.slice Ak' K' ck') rfl rfl rfl rfl rfl hRd'.out hcs hwf'.out hps'.out ST'.out w5 hb5 kA kS kR)
    (fun h1 h2 => h1.trans h2) (fun W l o o' hl hg ho hk => ⟨belowK_b (w := w5) (by omega) W l o o' hl hg ho hk, World.putObj_heap_other (by omega), World.putObj_heap_other (by omega), World.putObj_heap_other (by omega)⟩) (Below.refl _ _) (fun _ => rfl)
    (fun pre W => Boxed W B 22 (.int .u64 (IntKind.u64.wrap (us + szSum pre))) ∧ (Below w.heap.size w5 W ∧ KpH w.heap.size g0 g1 g1 w5 W))
    (fun _ _ _ => False)
    (OwnFrom.and (Own.from (boxed_own B 22 (fun pre => .int .u64 (IntKind.u64.wrap (us + szSum pre)))) _) (ownFrom_kph (by omega) (by omega) (by omega) (by omega) (by omega)))
    (fun _ _ _ _ _ hs _ _ => hs)
    ⟨by show Boxed w5 B 22 (.int .u64 (IntKind.u64.wrap (us + 0))); rw [Int.add_zero, IntWalk.u64_in _ (by omega)]; exact kB, Below.refl _ _, KpH.refl⟩
    (AxH _ (B + 1 + 1 + 1 + 1)) (fun x a' => axH_own x a') ?assign ?body ?done ?stop
  case assign =>
    intro l pre x W KK hI hK
    obtain ⟨hv, hBW, hkW⟩ := hI
    obtain ⟨gx, hgx⟩ : ∃ gx, W.heap.size = gx := ⟨_, rfl⟩
    have hsz := hBW.size
    have hkp : KpH w.heap.size (B + 1 + 1 + 1) (B + 1) (B + 1 + 1) W (W.alloc (.cells #[.int .u64 x.off, .int .u64 x.size, .int .i64 x.node, .int .u64 x.seq, .int .i64 x.io] 81)) := kph_of (bal (Below.refl _ _) _) (Below.refl _ _) (by omega) (by omega) (by omega) (by omega)
    have hkg : KpH w.heap.size g0 g1 g1 W (W.alloc (.cells #[.int .u64 x.off, .int .u64 x.size, .int .i64 x.node, .int .u64 x.seq, .int .i64 x.io] 81)) := kph_of (bal (Below.refl _ _) _) (Below.refl _ _) (by omega) (by omega) (by omega) (by omega)
    have hk2 := hK _ _ ((KeepsOthers.alloc W _).from _) hkp ⟨hv.alloc _, hBW.trans hkg.hB, hkW.trans hkg⟩ ⟨gx, rfl, by rw [← hgx]; exact Blk.new W 81 #[.int .u64 x.off, .int .u64 x.size, .int .i64 x.node, .int .u64 x.seq, .int .i64 x.io], by omega⟩
    clear hsz hkp hkg hv hBW hkW hK
    unfold Sl.val
    gi_wp2
    exact hk2
  case body =>
    rintro l pre x a' W _ _ ⟨hv, hBW, hkW⟩ ⟨gx, rfl, hx, hgx⟩ hlt
    have hsz := hBW.size
    have hvs := hv.set (.int .u64 (IntKind.u64.wrap (us + szSum (pre ++ [x]))))
    rw [szSum_snoc, ← Int.add_assoc, ← wrap_add] at hvs
    have hc := hv.cell
    have hf := hv.frozen
    have hlB := hv.lt
    have x1 : W.cell? ⟨gx, 1, none⟩ = some (.int .u64 x.size) := hx.cell 1
    have hkp : KpH w.heap.size (B + 1 + 1 + 1) (B + 1) (B + 1 + 1) W (W.setCell ⟨B, 0, none⟩ (.int .u64 (IntKind.u64.wrap (IntKind.u64.wrap (us + szSum pre) + x.size)))) := ⟨(Below.refl _ _).setCell (p := ⟨B, 0, none⟩) (by show _ ≤ B; omega) _, Below.heap_setCell _ _ _ _ (by show _ ≠ B; omega), Below.heap_setCell _ _ _ _ (by show _ ≠ B; omega), Below.heap_setCell _ _ _ _ (by show _ ≠ B; omega)⟩
    have hkg : KpH w.heap.size g0 g1 g1 W (W.setCell ⟨B, 0, none⟩ (.int .u64 (IntKind.u64.wrap (IntKind.u64.wrap (us + szSum pre) + x.size)))) := ⟨hkp.hB, Below.heap_setCell _ _ _ _ (by show _ ≠ B; omega), Below.heap_setCell _ _ _ _ (by show _ ≠ B; omega), Below.heap_setCell _ _ _ _ (by show _ ≠ B; omega)⟩
    have HH := Lib.hid (And.intro hkp (And.intro hvs (And.intro (hBW.trans hkg.hB) (hkW.trans hkg))))
    have HSN := Lib.hid (show IntKind.u64.wrap (us + szSum (pre ++ [x])) = IntKind.u64.wrap (IntKind.u64.wrap (us + szSum pre) + x.size) by rw [szSum_snoc, ← Int.add_assoc, wrap_add])
    obtain ⟨c, hcc⟩ : ∃ c, IntKind.u64.wrap (us + szSum pre) = c := ⟨_, rfl⟩
    rw [hcc] at hc HH HSN
    clear hcc hkp hkg hvs hv hBW hkW hx hsz
    gi_wp2
    exact ⟨(KeepsOthers.setCell _ _ _).from _, HH.out.1, by rw [HSN.out]; exact HH.out.2.1, HH.out.2.2⟩
  case done =>
    rintro D ys W hD hys ⟨hv, hBW, hkW⟩ hK
    have hc := hv.cell
    have e1 : IntKind.u64.wrap (us + szSum ys) = us + 0 := by
      unfold IsCt at hys
      rw [if_pos rfl] at hys; rw [hys]; exact IntWalk.u64_in _ (by simp only [szSum]; omega)
    rw [e1] at hc
    have kr : Blk W g1 31 #[.int .i64 node', .int .u64 th', .bool false, .int .u64 old', .int .u64 g', .int .u64 n', .int .u64 r', .slice As' S' cs', .int .u64 a', .int .u64 b', .int .u64 f', .slice At' T' ct', .slice Ak' K' ck'] := hkW.e2.trans KK.out.c
    obtain ⟨y0, y1, y2, y3, y4, y5, y6, y7, y8, y9, y10, y11, y12⟩ := kr.c13
    have hBw : Below w.heap.size w W := hb5.trans hBW
    have hlD : D < W.heap.size := (Array.getElem?_eq_some_iff.1 hK).1
    have hlB := hv.lt
    have HBw := Lib.hid hBw
    have HKK := Lib.hid hK
    clear hv hBW hkW e1 hys hBw hK kr
    gi_wp2
    refine ⟨trivial, ?_⟩
    refine (callsIn_wide.2 (HE'.out _ HBw.out)).mono ?_
    rintro e w7 ⟨rfl, hb7⟩
    have c7 := (hb7.cell (p := ⟨B, 0, none⟩) hlB).trans hc
    have hK7 : w7.heap[D]? = some (.deferred (some [])) := (hb7.block D hlD).trans HKK.out
    have HB7 := Lib.hid (HBw.out.trans (hb7.mono HBw.out.size))
    clear hb7 hc y0 y1 y2 y3 y4 y5 y6 y7 y8 y9 y10 y11 y12
    gi_wp2
    refine ⟨by simp, .inl ⟨_, _, rfl, run_takeDeferred hK7, ?_⟩⟩
    have hfin : Below w.heap.size w (w7.putObj D (.deferred none)) := HB7.out.trans (belowK_b (w := w5) (by omega) w7 D (.deferred (some [])) (.deferred none) hD hK7 rfl rfl)
    refine ⟨.tuple #[.bool (decide (us + 0 ≤ hl)), .int .i64 0], by simp [results, Try.results13, go_sem], rfl, hfin⟩
  case stop =>
    rintro D c pre W _ _ h _
    exact h.elim

set_option maxRecDepth 100000 in
set_option maxHeartbeats 4000000 in
theorem ph_now (node th old : Int) (su : Bool) (g n r : Int) (S cs : Nat) (As : Option Addr) (a b f : Int) (T ct : Nat) (At : Option Addr) (K ck : Nat) (Ak : Option Addr) (node' th' old' : Int) (su' : Bool) (g' n' r' : Int) (S' cs' : Nat) (As' : Option Addr) (a' b' f' : Int) (T' ct' : Nat) (At' : Option Addr) (K' ck' : Nat) (Ak' : Option Addr) (bs br : Int) (w : World) (CS : ∀ w', Below w.heap.size w w' → Calls Try.prog 20 #[.agg #[.int .i64 node, .int .u64 th, .bool su, .int .u64 old, .int .u64 g, .int .u64 n, .int .u64 r, .slice As S cs, .int .u64 a, .int .u64 b, .int .u64 f, .slice At T ct, .slice Ak K ck]] w' (RetI .i64 0 w')) (CR : ∀ w', Below w.heap.size w w' → Calls Try.prog 20 #[.agg #[.int .i64 node', .int .u64 th', .bool su', .int .u64 old', .int .u64 g', .int .u64 n', .int .u64 r', .slice As' S' cs', .int .u64 a', .int .u64 b', .int .u64 f', .slice At' T' ct', .slice Ak' K' ck']] w' (RetI .i64 0 w')) (h0 : ¬ bs < 1) (h1 : ¬ bs > 1099511627776) (h2 : ¬ br < 1) (h3 : ¬ br > 1099511627776) (us hl : Int) (US : ∀ w', Below w.heap.size w w' → Calls Try.prog 39 #[.agg #[.int .u64 g, .int .u64 n, .int .u64 r, .slice As S cs]] w' (Ret2 .u64 .i64 us 0 w')) (HE : ∀ w', Below w.heap.size w w' → Calls Try.prog 41 #[.agg #[.int .i64 node', .int .u64 th', .bool su', .int .u64 old', .int .u64 g', .int .u64 n', .int .u64 r', .slice As' S' cs', .int .u64 a', .int .u64 b', .int .u64 f', .slice At' T' ct', .slice Ak' K' ck']] w' (fun e w'' => e = .returned (.tuple #[.int .u64 hl, .bool true]) ∧ Below w'.heap.size w' w'')) (SL : List Sl) (hSl : S = SL.length) (z : Rec) (hRd : Reads w 5 As S (flat SL)) (hcs : S ≤ cs ∧ cs ≤ maxLen) (hwf : ∀ x ∈ SL, (0 ≤ x.off ∧ x.off ≤ 18446744073709551615) ∧ (0 ≤ x.size ∧ x.size ≤ 18446744073709551615)) (hps : ∀ x ∈ SL, (stE z x.off x.size).2 = 0 ∨ (stE z x.off x.size).2 = 14)
    (ST : ∀ w', Below w.heap.size w w' → ∀ off size : Int, (0 ≤ off ∧ off ≤ 18446744073709551615) → (0 ≤ size ∧ size ≤ 18446744073709551615) → Calls Try.prog 77 #[.agg #[.int .u64 a', .int .u64 b', .int .u64 f', .slice At' T' ct', .slice Ak' K' ck'], .int .u64 off, .int .u64 size] w' (Ret2 .i64 .i64 (stE z off size).1 (stE z off size).2 w')) (hus : 0 ≤ us ∧ us ≤ 1125899906842624)  (hop : 0 ≤ opn' z SL ∧ opn' z SL ≤ 1125899906842624) (q1 : (th != br) = false) (q2 : decide (th < br) = false) (q3 : (th' != bs) = false) :
    Calls Try.prog 13 #[.agg #[.int .i64 node, .int .u64 th, .bool su, .int .u64 old, .int .u64 g, .int .u64 n, .int .u64 r, .slice As S cs, .int .u64 a, .int .u64 b, .int .u64 f, .slice At T ct, .slice Ak K ck], .int .u64 bs, .agg #[.int .i64 node', .int .u64 th', .bool su', .int .u64 old', .int .u64 g', .int .u64 n', .int .u64 r', .slice As' S' cs', .int .u64 a', .int .u64 b', .int .u64 f', .slice At' T' ct', .slice Ak' K' ck'], .int .u64 br] w (fun e w' => e = .returned (.tuple #[.bool (decide (us + opn' z SL ≤ hl)), .int .i64 0]) ∧ Below w.heap.size w w') := by
  have CS' := Lib.hid CS
  clear CS
  have CR' := Lib.hid CR
  clear CR
  have US' := Lib.hid US
  clear US
  have HE' := Lib.hid HE
  clear HE
  have hRd' := Lib.hid hRd
  clear hRd
  have hwf' := Lib.hid hwf
  clear hwf
  have hps' := Lib.hid hps
  clear hps
  have ST' := Lib.hid ST
  clear ST
  have hSl' := Lib.hid hSl
  clear hSl
  have hop' := Lib.hid hop
  clear hop
  refine (callsIn_wide (n := 3)).1 ?_
  refine callsIn_of_wp_marks Try.func13 rfl trivial ?_ rfl
  simp only [Try.ntmps13, List.size_toArray, List.length_cons, List.length_nil, Nat.reduceAdd, Nat.reduceSub, Array.replicate_succ, Array.replicate_zero, List.push_toArray, List.append_toArray, List.nil_append, List.cons_append]
  gi_upto_region 1 with fail
  have k0 : BK2 w w.heap.size 31 #[.int .i64 node, .int .u64 th, .bool su, .int .u64 old, .int .u64 g, .int .u64 n, .int .u64 r, .slice As S cs, .int .u64 a, .int .u64 b, .int .u64 f, .slice At T ct, .slice Ak K ck] (w.heap.size + 1) 31 #[.int .i64 node', .int .u64 th', .bool su', .int .u64 old', .int .u64 g', .int .u64 n', .int .u64 r', .slice As' S' cs', .int .u64 a', .int .u64 b', .int .u64 f', .slice At' T' ct', .slice Ak' K' ck'] _ := ⟨(Blk.new w 31 #[.int .i64 node, .int .u64 th, .bool su, .int .u64 old, .int .u64 g, .int .u64 n, .int .u64 r, .slice As S cs, .int .u64 a, .int .u64 b, .int .u64 f, .slice At T ct, .slice Ak K ck]).alloc (.cells #[.int .i64 node', .int .u64 th', .bool su', .int .u64 old', .int .u64 g', .int .u64 n', .int .u64 r', .slice As' S' cs', .int .u64 a', .int .u64 b', .int .u64 f', .slice At' T' ct', .slice Ak' K' ck'] 31), Blk.new1 w (.cells #[.int .i64 node, .int .u64 th, .bool su, .int .u64 old, .int .u64 g, .int .u64 n, .int .u64 r, .slice As S cs, .int .u64 a, .int .u64 b, .int .u64 f, .slice At T ct, .slice Ak K ck] 31) 31 #[.int .i64 node', .int .u64 th', .bool su', .int .u64 old', .int .u64 g', .int .u64 n', .int .u64 r', .slice As' S' cs', .int .u64 a', .int .u64 b', .int .u64 f', .slice At' T' ct', .slice Ak' K' ck'], bal (bal (Below.refl _ _) (.cells #[.int .i64 node, .int .u64 th, .bool su, .int .u64 old, .int .u64 g, .int .u64 n, .int .u64 r, .slice As S cs, .int .u64 a, .int .u64 b, .int .u64 f, .slice At T ct, .slice Ak K ck] 31)) (.cells #[.int .i64 node', .int .u64 th', .bool su', .int .u64 old', .int .u64 g', .int .u64 n', .int .u64 r', .slice As' S' cs', .int .u64 a', .int .u64 b', .int .u64 f', .slice At' T' ct', .slice Ak' K' ck'] 31)⟩
  have G1 : Hid (w.heap.size ≤ w.heap.size) := Lib.hid (Nat.le_refl _)
  obtain ⟨g1, hg1⟩ : ∃ g1, w.heap.size + 1 = g1 := ⟨_, rfl⟩
  rw [hg1] at k0 ⊢
  clear hg1
  obtain ⟨g0, hg0⟩ : ∃ g0, w.heap.size = g0 := ⟨_, rfl⟩
  rw [hg0] at k0 ⊢
  clear hg0 G1
  generalize (w.alloc (.cells #[.int .i64 node, .int .u64 th, .bool su, .int .u64 old, .int .u64 g, .int .u64 n, .int .u64 r, .slice As S cs, .int .u64 a, .int .u64 b, .int .u64 f, .slice At T ct, .slice Ak K ck] 31)).alloc (.cells #[.int .i64 node', .int .u64 th', .bool su', .int .u64 old', .int .u64 g', .int .u64 n', .int .u64 r', .slice As' S' cs', .int .u64 a', .int .u64 b', .int .u64 f', .slice At' T' ct', .slice Ak' K' ck'] 31) = w1 at k0 ⊢
  obtain ⟨x0, x1, x2, x3, x4, x5, x6, x7, x8, x9, x10, x11, x12⟩ := k0.b.c13
  obtain ⟨y0, y1, y2, y3, y4, y5, y6, y7, y8, y9, y10, y11, y12⟩ := k0.c.c13
  have K1 := Lib.hid k0
  clear k0
  gi_wp2
  refine ⟨trivial, ?_⟩
  refine (callsIn_wide.2 (CS'.out _ K1.out.hB)).mono ?_
  rintro e w2 ⟨rfl, hb⟩
  have kk := K1.out.below hb
  clear K1 x0 x1 x2 x3 x4 x5 x6 x7 x8 x9 x10 x11 x12 y0 y1 y2 y3 y4 y5 y6 y7 y8 y9 y10 y11 y12 hb
  obtain ⟨x0, x1, x2, x3, x4, x5, x6, x7, x8, x9, x10, x11, x12⟩ := kk.b.c13
  obtain ⟨y0, y1, y2, y3, y4, y5, y6, y7, y8, y9, y10, y11, y12⟩ := kk.c.c13
  have hl0 := kk.b.lt
  have hl1 := kk.c.lt
  have K1 := Lib.hid kk
  clear kk
  gi_wp2
  refine ⟨trivial, ?_⟩
  refine (callsIn_wide.2 (CR'.out _ K1.out.hB)).mono ?_
  rintro e w3 ⟨rfl, hb⟩
  have kk := K1.out.below hb
  clear K1 x0 x1 x2 x3 x4 x5 x6 x7 x8 x9 x10 x11 x12 y0 y1 y2 y3 y4 y5 y6 y7 y8 y9 y10 y11 y12 hb
  obtain ⟨x0, x1, x2, x3, x4, x5, x6, x7, x8, x9, x10, x11, x12⟩ := kk.b.c13
  obtain ⟨y0, y1, y2, y3, y4, y5, y6, y7, y8, y9, y10, y11, y12⟩ := kk.c.c13
  have hl0 := kk.b.lt
  have hl1 := kk.c.lt
  have K1 := Lib.hid kk
  clear kk
  gi_wp2
  refine ⟨trivial, ?_⟩
  refine (callsIn_wide.2 (US'.out _ K1.out.hB)).mono ?_
  rintro e w4 ⟨rfl, hb⟩
  have kk := K1.out.below hb
  clear K1 x0 x1 x2 x3 x4 x5 x6 x7 x8 x9 x10 x11 x12 y0 y1 y2 y3 y4 y5 y6 y7 y8 y9 y10 y11 y12 hb
  obtain ⟨x0, x1, x2, x3, x4, x5, x6, x7, x8, x9, x10, x11, x12⟩ := kk.b.c13
  obtain ⟨y0, y1, y2, y3, y4, y5, y6, y7, y8, y9, y10, y11, y12⟩ := kk.c.c13
  have hl0 := kk.b.lt
  have hl1 := kk.c.lt
  have K1 := Lib.hid kk
  clear kk
  gi_wp2
  refine ⟨trivial, ?_⟩
  refine (callsIn_wide.2 (counted_raw _ _ _ _ _ _ _ _ _ _ _ _ _ _ _ _ _ _ _ _ _ _ _ _ _ _ _ _)).mono ?_
  rintro e w5 ⟨rfl, hw5⟩
  rw [World.size_alloc]
  have hb : Below w4.heap.size w4 w5 := by rw [hw5]; exact bal (bal (bal (bal (Below.refl _ _) _) _) _) _
  have kk := K1.out.below hb
  have hz : w5.heap.size = w4.heap.size + 1 + 1 + 1 + 1 := by rw [hw5]; simp
  have kB : Boxed w5 w4.heap.size 22 (.int .u64 us) := by rw [hw5]; exact ((Blk.new w4 22 #[.int .u64 us]).alloc _ |>.alloc _ |>.alloc _)
  have kS : Blk w5 (w4.heap.size + 1) 31 #[.int .i64 node, .int .u64 th, .bool su, .int .u64 old, .int .u64 g, .int .u64 n, .int .u64 r, .slice As S cs, .int .u64 a, .int .u64 b, .int .u64 f, .slice At T ct, .slice Ak K ck] := by rw [hw5]; exact ((Blk.new1 w4 (.cells #[.int .u64 us] 22) 31 #[.int .i64 node, .int .u64 th, .bool su, .int .u64 old, .int .u64 g, .int .u64 n, .int .u64 r, .slice As S cs, .int .u64 a, .int .u64 b, .int .u64 f, .slice At T ct, .slice Ak K ck]).alloc _ |>.alloc _)
  have kR : Blk w5 (w4.heap.size + 1 + 1) 31 #[.int .i64 node', .int .u64 th', .bool su', .int .u64 old', .int .u64 g', .int .u64 n', .int .u64 r', .slice As' S' cs', .int .u64 a', .int .u64 b', .int .u64 f', .slice At' T' ct', .slice Ak' K' ck'] := by rw [hw5]; exact ((Blk.new2 w4 (.cells #[.int .u64 us] 22) (.cells #[.int .i64 node, .int .u64 th, .bool su, .int .u64 old, .int .u64 g, .int .u64 n, .int .u64 r, .slice As S cs, .int .u64 a, .int .u64 b, .int .u64 f, .slice At T ct, .slice Ak K ck] 31) 31 #[.int .i64 node', .int .u64 th', .bool su', .int .u64 old', .int .u64 g', .int .u64 n', .int .u64 r', .slice As' S' cs', .int .u64 a', .int .u64 b', .int .u64 f', .slice At' T' ct', .slice Ak' K' ck']).alloc _)
  have kA : Blk w5 (w4.heap.size + 1 + 1 + 1) 4 #[.bool false] := by
    have := Blk.new (((w4.alloc (.cells #[.int .u64 us] 22)).alloc (.cells #[.int .i64 node, .int .u64 th, .bool su, .int .u64 old, .int .u64 g, .int .u64 n, .int .u64 r, .slice As S cs, .int .u64 a, .int .u64 b, .int .u64 f, .slice At T ct, .slice Ak K ck] 31)).alloc (.cells #[.int .i64 node', .int .u64 th', .bool su', .int .u64 old', .int .u64 g', .int .u64 n', .int .u64 r', .slice As' S' cs', .int .u64 a', .int .u64 b', .int .u64 f', .slice At' T' ct', .slice Ak' K' ck'] 31)) 4 #[.bool false]
    rw [World.size_alloc, World.size_alloc, World.size_alloc] at this
    rw [hw5]; exact this
  have hwB : w.heap.size ≤ w4.heap.size := K1.out.hB.size
  obtain ⟨B, hB⟩ : ∃ B, w4.heap.size = B := ⟨_, rfl⟩
  rw [hB] at hz kB kS kR kA hl0 hl1 hwB ⊢
  have hb5 := kk.hB
  have KK := Lib.hid kk
  have HZ := Lib.hid hz
  have HBB := Lib.hid hwB
  clear K1 hw5 hb hB kk x0 x1 x2 x3 x4 x5 x6 x7 x8 x9 x10 x11 x12 y0 y1 y2 y3 y4 y5 y6 y7 y8 y9 y10 y11 y12
  clear hz hwB
  gi_wp2
  have hz1 : B + 1 + 1 + 1 < w5.heap.size := by have := HZ.out; omega
  have hz2 : w5.heap.size ≤ B + 1 + 1 + 1 + 1 := by have := HZ.out; omega
  have hwB := HBB.out
  refine' wpIn_rangeFunc_ownH rfl (by omega) (gf := 76) (lb := #[.pointer (some ⟨B + 1 + 1 + 1, 0, none⟩), .pointer (some ⟨B + 1, 0, none⟩), .pointer (some ⟨B + 1 + 1, 0, none⟩)]) rfl trivial (enters_of Try.func76 (by kernel_rfl) rfl)
    (Kp := KpH w.heap.size (B + 1 + 1 + 1) (B + 1) (B + 1 + 1))
    (counted_stops _ (by omega) w (B + 1 + 1 + 1) (B + 1) (B + 1 + 1) false S cs As SL hSl'.out #[.int .i64 node, .int .u64 th, .bool su, .int .u64 old, .int .u64 g, .int .u64 n, .int .u64 r, .slice As S cs, .int .u64 a, .int .u64 b, .int .u64 f, .slice At T ct, .slice Ak K ck] #[.int .i64 node', .int .u64 th', .bool su', .int .u64 old', .int .u64 g', .int .u64 n', .int .u64 r', .slice As' S' cs', .int .u64 a', .int .u64 b', .int .u64 f', .slice At' T' ct', .slice Ak' K' ck'] z rfl a' b' f' (.slice At' T' ct') (.slice Ak' K' ck') rfl rfl rfl rfl rfl hRd'.out hcs hwf'.out hps'.out ST'.out w5 hb5 kA kS kR)
    (fun h1 h2 => h1.trans h2) (fun W l o o' hl hg ho hk => ⟨belowK_b (w := w5) (by omega) W l o o' hl hg ho hk, World.putObj_heap_other (by omega), World.putObj_heap_other (by omega), World.putObj_heap_other (by omega)⟩) (Below.refl _ _) (fun _ => rfl)
    (fun pre W => Boxed W B 22 (.int .u64 (IntKind.u64.wrap (us + szSum pre))) ∧ (Below w.heap.size w5 W ∧ KpH w.heap.size g0 g1 g1 w5 W))
    (fun _ _ _ => False)
    (OwnFrom.and (Own.from (boxed_own B 22 (fun pre => .int .u64 (IntKind.u64.wrap (us + szSum pre)))) _) (ownFrom_kph (by omega) (by omega) (by omega) (by omega) (by omega)))
    (fun _ _ _ _ _ hs _ _ => hs)
    ⟨by show Boxed w5 B 22 (.int .u64 (IntKind.u64.wrap (us + 0))); rw [Int.add_zero, IntWalk.u64_in _ (by omega)]; exact kB, Below.refl _ _, KpH.refl⟩
    (AxH _ (B + 1 + 1 + 1 + 1)) (fun x a' => axH_own x a') ?assign ?body ?done ?stop
  case assign =>
    intro l pre x W KK hI hK
    obtain ⟨hv, hBW, hkW⟩ := hI
    obtain ⟨gx, hgx⟩ : ∃ gx, W.heap.size = gx := ⟨_, rfl⟩
    have hsz := hBW.size
    have hkp : KpH w.heap.size (B + 1 + 1 + 1) (B + 1) (B + 1 + 1) W (W.alloc (.cells #[.int .u64 x.off, .int .u64 x.size, .int .i64 x.node, .int .u64 x.seq, .int .i64 x.io] 81)) := kph_of (bal (Below.refl _ _) _) (Below.refl _ _) (by omega) (by omega) (by omega) (by omega)
    have hkg : KpH w.heap.size g0 g1 g1 W (W.alloc (.cells #[.int .u64 x.off, .int .u64 x.size, .int .i64 x.node, .int .u64 x.seq, .int .i64 x.io] 81)) := kph_of (bal (Below.refl _ _) _) (Below.refl _ _) (by omega) (by omega) (by omega) (by omega)
    have hk2 := hK _ _ ((KeepsOthers.alloc W _).from _) hkp ⟨hv.alloc _, hBW.trans hkg.hB, hkW.trans hkg⟩ ⟨gx, rfl, by rw [← hgx]; exact Blk.new W 81 #[.int .u64 x.off, .int .u64 x.size, .int .i64 x.node, .int .u64 x.seq, .int .i64 x.io], by omega⟩
    clear hsz hkp hkg hv hBW hkW hK
    unfold Sl.val
    gi_wp2
    exact hk2
  case body =>
    rintro l pre x a' W _ _ ⟨hv, hBW, hkW⟩ ⟨gx, rfl, hx, hgx⟩ hlt
    have hsz := hBW.size
    have hvs := hv.set (.int .u64 (IntKind.u64.wrap (us + szSum (pre ++ [x]))))
    rw [szSum_snoc, ← Int.add_assoc, ← wrap_add] at hvs
    have hc := hv.cell
    have hf := hv.frozen
    have hlB := hv.lt
    have x1 : W.cell? ⟨gx, 1, none⟩ = some (.int .u64 x.size) := hx.cell 1
    have hkp : KpH w.heap.size (B + 1 + 1 + 1) (B + 1) (B + 1 + 1) W (W.setCell ⟨B, 0, none⟩ (.int .u64 (IntKind.u64.wrap (IntKind.u64.wrap (us + szSum pre) + x.size)))) := ⟨(Below.refl _ _).setCell (p := ⟨B, 0, none⟩) (by show _ ≤ B; omega) _, Below.heap_setCell _ _ _ _ (by show _ ≠ B; omega), Below.heap_setCell _ _ _ _ (by show _ ≠ B; omega), Below.heap_setCell _ _ _ _ (by show _ ≠ B; omega)⟩
    have hkg : KpH w.heap.size g0 g1 g1 W (W.setCell ⟨B, 0, none⟩ (.int .u64 (IntKind.u64.wrap (IntKind.u64.wrap (us + szSum pre) + x.size)))) := ⟨hkp.hB, Below.heap_setCell _ _ _ _ (by show _ ≠ B; omega), Below.heap_setCell _ _ _ _ (by show _ ≠ B; omega), Below.heap_setCell _ _ _ _ (by show _ ≠ B; omega)⟩
    have HH := Lib.hid (And.intro hkp (And.intro hvs (And.intro (hBW.trans hkg.hB) (hkW.trans hkg))))
    have HSN := Lib.hid (show IntKind.u64.wrap (us + szSum (pre ++ [x])) = IntKind.u64.wrap (IntKind.u64.wrap (us + szSum pre) + x.size) by rw [szSum_snoc, ← Int.add_assoc, wrap_add])
    obtain ⟨c, hcc⟩ : ∃ c, IntKind.u64.wrap (us + szSum pre) = c := ⟨_, rfl⟩
    rw [hcc] at hc HH HSN
    clear hcc hkp hkg hvs hv hBW hkW hx hsz
    gi_wp2
    exact ⟨(KeepsOthers.setCell _ _ _).from _, HH.out.1, by rw [HSN.out]; exact HH.out.2.1, HH.out.2.2⟩
  case done =>
    rintro D ys W hD hys ⟨hv, hBW, hkW⟩ hK
    have hc := hv.cell
    have e1 : IntKind.u64.wrap (us + szSum ys) = us + opn' z SL := by
      unfold IsCt at hys
      rw [if_neg (by simp)] at hys; rw [hys, szSum_ctd]; exact IntWalk.u64_in _ (by have := hop'.out; omega)
    rw [e1] at hc
    have kr : Blk W g1 31 #[.int .i64 node', .int .u64 th', .bool su', .int .u64 old', .int .u64 g', .int .u64 n', .int .u64 r', .slice As' S' cs', .int .u64 a', .int .u64 b', .int .u64 f', .slice At' T' ct', .slice Ak' K' ck'] := hkW.e2.trans KK.out.c
    obtain ⟨y0, y1, y2, y3, y4, y5, y6, y7, y8, y9, y10, y11, y12⟩ := kr.c13
    have hBw : Below w.heap.size w W := hb5.trans hBW
    have hlD : D < W.heap.size := (Array.getElem?_eq_some_iff.1 hK).1
    have hlB := hv.lt
    have HBw := Lib.hid hBw
    have HKK := Lib.hid hK
    clear hv hBW hkW e1 hys hBw hK kr
    gi_wp2
    refine ⟨trivial, ?_⟩
    refine (callsIn_wide.2 (HE'.out _ HBw.out)).mono ?_
    rintro e w7 ⟨rfl, hb7⟩
    have c7 := (hb7.cell (p := ⟨B, 0, none⟩) hlB).trans hc
    have hK7 : w7.heap[D]? = some (.deferred (some [])) := (hb7.block D hlD).trans HKK.out
    have HB7 := Lib.hid (HBw.out.trans (hb7.mono HBw.out.size))
    clear hb7 hc y0 y1 y2 y3 y4 y5 y6 y7 y8 y9 y10 y11 y12
    gi_wp2
    refine ⟨by simp, .inl ⟨_, _, rfl, run_takeDeferred hK7, ?_⟩⟩
    have hfin : Below w.heap.size w (w7.putObj D (.deferred none)) := HB7.out.trans (belowK_b (w := w5) (by omega) w7 D (.deferred (some [])) (.deferred none) hD hK7 rfl rfl)
    refine ⟨.tuple #[.bool (decide (us + opn' z SL ≤ hl)), .int .i64 0], by simp [results, Try.results13, go_sem], rfl, hfin⟩
  case stop =>
    rintro D c pre W _ _ h _
    exact h.elim

end Go.Proofs.Ytfgkkflbpfocjaa

