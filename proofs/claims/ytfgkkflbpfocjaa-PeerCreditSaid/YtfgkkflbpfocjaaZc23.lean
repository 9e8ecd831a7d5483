/- A frame met without an error (the program). -/
import Derived.Test.YtfgkkflbpfocjaaZc22
namespace Go.Proofs.Ytfgkkflbpfocjaa
open Go.RowKit
open List renaming getElem_toArray → zz1, getElem_cons_succ → zz2, getElem_cons_zero → zz3, setIfInBounds_toArray → zz4, set_cons_zero → zz5, set_cons_succ → zz6
set_option linter.unusedVariables false
set_option linter.unusedSimpArgs false

/-- what the last statement of a meeting reads and writes -/
structure SMet (w : World) (gp gj g2 : Nat) (PV JV : Array Value) (wx : World) : Prop where
  p : Blk wx gp 31 PV
  j : Blk wx gj 101 JV
  d : ∃ C, Blk wx g2 31 C ∧ C.size = 13
  hB : Below w.heap.size w wx
theorem SMet.drew {w wx : World} {gp gj g2 : Nat} {PV JV : Array Value} (h : SMet w gp gj g2 PV JV wx) : SMet w gp gj g2 PV JV wx.drew := ⟨h.p, h.j, h.d, h.hB.drew⟩
theorem SMet.drewN {w wx : World} {gp gj g2 : Nat} {PV JV : Array Value} (h : SMet w gp gj g2 PV JV wx) (n : Nat) : SMet w gp gj g2 PV JV (wx.drewN n) := ⟨h.p, h.j, h.d, below_drewN h.hB n⟩
theorem SMet.set {w wx : World} {gp gj g2 : Nat} {PV JV : Array Value} (h : SMet w gp gj g2 PV JV wx) (cs : Array Value) (hs : cs.size = 13) (h1 : ¬ gp = g2) (h2 : ¬ gj = g2) (hg : w.heap.size ≤ g2) : SMet w gp gj g2 PV JV (wx.setCells g2 0 cs.toList) := by
  obtain ⟨C, hC, hz⟩ := h.d
  exact ⟨h.p.farAll h1 _ _, h.j.farAll h2 _ _, ⟨cs, hC.setAll (by rw [hz, hs]), hs⟩, below_setCells hg _ _ h.hB⟩

set_option maxRecDepth 100000 in
set_option maxHeartbeats 4000000 in
theorem meet_stale (node th old : Int) (su : Bool) (g n r : Int) (SL : List Sl) (S cs : Nat) (As : Option Addr) (a b f : Int) (TL : List Rg) (T ct : Nat) (At : Option Addr) (KL : List Int) (K ck : Nat) (Ak : Option Addr) (kind frm tto mine yours fa fb inode iseq ioff bnode bseq boff dest prio born life total : Int) (data : ByteArray) (boot : Int) (w : World) (PC : ∀ w', Below w.heap.size w w' → Calls Try.prog 20 #[.agg #[.int .i64 node, .int .u64 th, .bool su, .int .u64 old, .int .u64 g, .int .u64 n, .int .u64 r, .slice As S cs, .int .u64 a, .int .u64 b, .int .u64 f, .slice At T ct, .slice Ak K ck]] w' (RetI .i64 0 w')) (FC : ∀ w, Calls Try.prog 53 #[.agg #[.int .i64 kind, .int .i64 frm, .int .i64 tto, .int .u64 mine, .int .u64 yours, .int .u64 fa, .int .u64 fb, .int .i64 inode, .int .u64 iseq, .int .i64 ioff, .int .i64 bnode, .int .u64 bseq, .int .i64 boff, .int .i64 dest, .int .i64 prio, .int .i64 born, .int .i64 life, .int .i64 total, .string data]] w (RetI .i64 0 w)) (CO : ∀ w', Below w.heap.size w w' → Calls Try.prog 54 #[.agg #[.int .i64 node, .int .u64 th, .bool su, .int .u64 old, .int .u64 g, .int .u64 n, .int .u64 r, .slice As S cs, .int .u64 a, .int .u64 b, .int .u64 f, .slice At T ct, .slice Ak K ck]] w' (fun e w'' => ∃ gp As' cs' At' ct' Ak' ck', e = .returned (.pointer (some ⟨gp, 0, none⟩)) ∧ Blk w'' gp 31 #[.int .i64 node, .int .u64 th, .bool su, .int .u64 old, .int .u64 g, .int .u64 n, .int .u64 r, .slice As' S cs', .int .u64 a, .int .u64 b, .int .u64 f, .slice At' T ct', .slice Ak' K ck'] ∧ w'.heap.size ≤ gp ∧ SlsB (gp + 1) w'' (.slice As' S cs') SL ∧ RgsB (gp + 1) w'' (.slice At' T ct') TL ∧ KpsB (gp + 1) w'' (.slice Ak' K ck') KL ∧ Below w'.heap.size w' w'')) (h1 : ¬ boot < 1) (h2 : ¬ boot > 1099511627776) (hk : frm = node) (hm : mine < th) :
    Calls Try.prog 18 #[.agg #[.int .i64 node, .int .u64 th, .bool su, .int .u64 old, .int .u64 g, .int .u64 n, .int .u64 r, .slice As S cs, .int .u64 a, .int .u64 b, .int .u64 f, .slice At T ct, .slice Ak K ck], .int .u64 boot, .agg #[.int .i64 kind, .int .i64 frm, .int .i64 tto, .int .u64 mine, .int .u64 yours, .int .u64 fa, .int .u64 fb, .int .i64 inode, .int .u64 iseq, .int .i64 ioff, .int .i64 bnode, .int .u64 bseq, .int .i64 boff, .int .i64 dest, .int .i64 prio, .int .i64 born, .int .i64 life, .int .i64 total, .string data]] w (fun e w' => ∃ As' cs' At' ct' Ak' ck', e = .returned (.tuple #[.agg #[.int .i64 node, .int .u64 th, .bool su, .int .u64 old, .int .u64 g, .int .u64 n, .int .u64 r, .slice As' S cs', .int .u64 a, .int .u64 b, .int .u64 f, .slice At' T ct', .slice Ak' K ck'], .int .i64 1, .bool false, .int .i64 0]) ∧ SlsB w.heap.size w' (.slice As' S cs') SL ∧ RgsB w.heap.size w' (.slice At' T ct') TL ∧ KpsB w.heap.size w' (.slice Ak' K ck') KL ∧ Below w.heap.size w w') := by
  have PC' := Lib.hid PC
  have FC' := Lib.hid FC
  have CO' := Lib.hid CO
  have c1 : (frm != node) = false := by simpa using hk
  clear PC FC CO hk
  go_enter Try.func18, Try.ntmps18
  go_wp2_with fail
  have k0 := (Blk.new w 31 #[.int .i64 node, .int .u64 th, .bool su, .int .u64 old, .int .u64 g, .int .u64 n, .int .u64 r, .slice As S cs, .int .u64 a, .int .u64 b, .int .u64 f, .slice At T ct, .slice Ak K ck]).alloc (.cells #[.int .i64 kind, .int .i64 frm, .int .i64 tto, .int .u64 mine, .int .u64 yours, .int .u64 fa, .int .u64 fb, .int .i64 inode, .int .u64 iseq, .int .i64 ioff, .int .i64 bnode, .int .u64 bseq, .int .i64 boff, .int .i64 dest, .int .i64 prio, .int .i64 born, .int .i64 life, .int .i64 total, .string data] 51)
  have k0 := k0.alloc (.cells #[.int .i64 0, .int .u64 0, .bool false, .int .u64 0, .int .u64 0, .int .u64 0, .int .u64 0, .slice none 0 0, .int .u64 0, .int .u64 0, .int .u64 0, .slice none 0 0, .slice none 0 0] 31)
  have k1 := (Blk.new1 w (.cells #[.int .i64 node, .int .u64 th, .bool su, .int .u64 old, .int .u64 g, .int .u64 n, .int .u64 r, .slice As S cs, .int .u64 a, .int .u64 b, .int .u64 f, .slice At T ct, .slice Ak K ck] 31) 51 #[.int .i64 kind, .int .i64 frm, .int .i64 tto, .int .u64 mine, .int .u64 yours, .int .u64 fa, .int .u64 fb, .int .i64 inode, .int .u64 iseq, .int .i64 ioff, .int .i64 bnode, .int .u64 bseq, .int .i64 boff, .int .i64 dest, .int .i64 prio, .int .i64 born, .int .i64 life, .int .i64 total, .string data]).alloc (.cells #[.int .i64 0, .int .u64 0, .bool false, .int .u64 0, .int .u64 0, .int .u64 0, .int .u64 0, .slice none 0 0, .int .u64 0, .int .u64 0, .int .u64 0, .slice none 0 0, .slice none 0 0] 31)
  have k2 := Blk.new2 w (.cells #[.int .i64 node, .int .u64 th, .bool su, .int .u64 old, .int .u64 g, .int .u64 n, .int .u64 r, .slice As S cs, .int .u64 a, .int .u64 b, .int .u64 f, .slice At T ct, .slice Ak K ck] 31) (.cells #[.int .i64 kind, .int .i64 frm, .int .i64 tto, .int .u64 mine, .int .u64 yours, .int .u64 fa, .int .u64 fb, .int .i64 inode, .int .u64 iseq, .int .i64 ioff, .int .i64 bnode, .int .u64 bseq, .int .i64 boff, .int .i64 dest, .int .i64 prio, .int .i64 born, .int .i64 life, .int .i64 total, .string data] 51) 31 #[.int .i64 0, .int .u64 0, .bool false, .int .u64 0, .int .u64 0, .int .u64 0, .int .u64 0, .slice none 0 0, .int .u64 0, .int .u64 0, .int .u64 0, .slice none 0 0, .slice none 0 0]
  have hB := bal (bal (bal (Below.refl w.heap.size w) (.cells #[.int .i64 node, .int .u64 th, .bool su, .int .u64 old, .int .u64 g, .int .u64 n, .int .u64 r, .slice As S cs, .int .u64 a, .int .u64 b, .int .u64 f, .slice At T ct, .slice Ak K ck] 31)) (.cells #[.int .i64 kind, .int .i64 frm, .int .i64 tto, .int .u64 mine, .int .u64 yours, .int .u64 fa, .int .u64 fb, .int .i64 inode, .int .u64 iseq, .int .i64 ioff, .int .i64 bnode, .int .u64 bseq, .int .i64 boff, .int .i64 dest, .int .i64 prio, .int .i64 born, .int .i64 life, .int .i64 total, .string data] 51)) (.cells #[.int .i64 0, .int .u64 0, .bool false, .int .u64 0, .int .u64 0, .int .u64 0, .int .u64 0, .slice none 0 0, .int .u64 0, .int .u64 0, .int .u64 0, .slice none 0 0, .slice none 0 0] 31)
  have k3 : BK3 w w.heap.size 31 #[.int .i64 node, .int .u64 th, .bool su, .int .u64 old, .int .u64 g, .int .u64 n, .int .u64 r, .slice As S cs, .int .u64 a, .int .u64 b, .int .u64 f, .slice At T ct, .slice Ak K ck] (w.heap.size + 1) 51 #[.int .i64 kind, .int .i64 frm, .int .i64 tto, .int .u64 mine, .int .u64 yours, .int .u64 fa, .int .u64 fb, .int .i64 inode, .int .u64 iseq, .int .i64 ioff, .int .i64 bnode, .int .u64 bseq, .int .i64 boff, .int .i64 dest, .int .i64 prio, .int .i64 born, .int .i64 life, .int .i64 total, .string data] (w.heap.size + 1 + 1) 31 #[.int .i64 0, .int .u64 0, .bool false, .int .u64 0, .int .u64 0, .int .u64 0, .int .u64 0, .slice none 0 0, .int .u64 0, .int .u64 0, .int .u64 0, .slice none 0 0, .slice none 0 0] _ := ⟨k0, k1, k2, hB⟩
  clear k0 k1 k2
  have HG := Lib.hid (show w.heap.size ≤ w.heap.size + 1 + 1 by omega)
  have n02 : ¬ w.heap.size = w.heap.size + 1 + 1 := by omega
  have n12 : ¬ w.heap.size + 1 = w.heap.size + 1 + 1 := by omega
  refine (PC'.out _ hB).mono ?_
  rintro e w1 ⟨rfl, hb1⟩
  have kk := k3.below hb1
  clear k3 hb1 hB PC'
  obtain ⟨g2, hg2⟩ : ∃ g2, w.heap.size + 1 + 1 = g2 := ⟨_, rfl⟩
  obtain ⟨g1, hg1⟩ : ∃ g1, w.heap.size + 1 = g1 := ⟨_, rfl⟩
  rw [hg2] at kk HG n02 n12 ⊢
  rw [hg1] at kk n12 ⊢
  obtain ⟨g0, hg0⟩ : ∃ g0, w.heap.size = g0 := ⟨_, rfl⟩
  rw [hg0] at kk HG n02 ⊢
  have HG0 := Lib.hid hg0
  clear hg2 hg1 hg0
  have hl0 := kk.b.lt
  have hl1 := kk.c.lt
  have hl2 := kk.d.lt
  have kd := kk.d
  have kb := kk.b
  have kc := kk.c
  have K1 := Lib.hid kk
  clear kk
  clear kd kb
  go_wp2_with (refine wpList_load_row (by rfl) 51 _ (by rfl) g1 (by rfl) 51 #[.int .i64 kind, .int .i64 frm, .int .i64 tto, .int .u64 mine, .int .u64 yours, .int .u64 fa, .int .u64 fb, .int .i64 inode, .int .u64 iseq, .int .i64 ioff, .int .i64 bnode, .int .u64 bseq, .int .i64 boff, .int .i64 dest, .int .i64 prio, .int .i64 born, .int .i64 life, .int .i64 total, .string data] (0, 0) _ kc Try.underlying51 (by rfl) (by kernel_rfl) ?_)
  refine (FC'.out _).mono ?_
  rintro e w2 ⟨rfl, hb2⟩
  have kk := K1.out.below hb2
  clear K1 hb2 kc FC'
  have kd := kk.d
  have kb := kk.b
  have kc := kk.c
  have hl0 := kk.b.lt
  have hl1 := kk.c.lt
  have hl2 := kk.d.lt
  have K1 := Lib.hid kk
  clear kk
  have x0 : w2.cell? ⟨g0, 0, none⟩ = some (.int .i64 node) := kb.cell 0
  have y1 : w2.cell? ⟨g1, 1, none⟩ = some (.int .i64 frm) := kc.cell 1
  clear kd kb kc
  go_upto_region 10 with fail
  clear x0 y1 hl0 hl1 hl2
  have KQ := K1.out.drew
  have hbj : ∀ (gp : Nat) (wx : World), (Instr.build 101 #[(0, .pointer (some ⟨gp, 0, none⟩)), (1, .int .u64 boot), (2, .agg #[.int .i64 kind, .int .i64 frm, .int .i64 tto, .int .u64 mine, .int .u64 yours, .int .u64 fa, .int .u64 fb, .int .i64 inode, .int .u64 iseq, .int .i64 ioff, .int .i64 bnode, .int .u64 bseq, .int .i64 boff, .int .i64 dest, .int .i64 prio, .int .i64 born, .int .i64 life, .int .i64 total, .string data])]).run Try.prog wx = .ok (.agg #[.pointer (some ⟨gp, 0, none⟩), .int .u64 boot, .int .i64 kind, .int .i64 frm, .int .i64 tto, .int .u64 mine, .int .u64 yours, .int .u64 fa, .int .u64 fb, .int .i64 inode, .int .u64 iseq, .int .i64 ioff, .int .i64 bnode, .int .u64 bseq, .int .i64 boff, .int .i64 dest, .int .i64 prio, .int .i64 born, .int .i64 life, .int .i64 total, .string data, .bool false]) wx := fun gp wx => by kernel_rfl
  go_cut [10] (fun s wx => ∃ gj gp As' cs' At' ct' Ak' ck', s = .pointer (some ⟨gj, 0, none⟩) ∧ BK3 w g0 31 #[.int .i64 node, .int .u64 th, .bool su, .int .u64 old, .int .u64 g, .int .u64 n, .int .u64 r, .slice As S cs, .int .u64 a, .int .u64 b, .int .u64 f, .slice At T ct, .slice Ak K ck] g1 51 #[.int .i64 kind, .int .i64 frm, .int .i64 tto, .int .u64 mine, .int .u64 yours, .int .u64 fa, .int .u64 fb, .int .i64 inode, .int .u64 iseq, .int .i64 ioff, .int .i64 bnode, .int .u64 bseq, .int .i64 boff, .int .i64 dest, .int .i64 prio, .int .i64 born, .int .i64 life, .int .i64 total, .string data] g2 31 #[.int .i64 0, .int .u64 0, .bool false, .int .u64 0, .int .u64 0, .int .u64 0, .int .u64 0, .slice none 0 0, .int .u64 0, .int .u64 0, .int .u64 0, .slice none 0 0, .slice none 0 0] wx ∧ Blk wx gp 31 #[.int .i64 node, .int .u64 th, .bool su, .int .u64 old, .int .u64 g, .int .u64 n, .int .u64 r, .slice As' S cs', .int .u64 a, .int .u64 b, .int .u64 f, .slice At' T ct', .slice Ak' K ck'] ∧ Blk wx gj 101 #[.pointer (some ⟨gp, 0, none⟩), .int .u64 boot, .int .i64 kind, .int .i64 frm, .int .i64 tto, .int .u64 mine, .int .u64 yours, .int .u64 fa, .int .u64 fb, .int .i64 inode, .int .u64 iseq, .int .i64 ioff, .int .i64 bnode, .int .u64 bseq, .int .i64 boff, .int .i64 dest, .int .i64 prio, .int .i64 born, .int .i64 life, .int .i64 total, .string data, .bool false] ∧ g2 < gp ∧ gp < gj ∧ SlsB (gp + 1) wx (.slice As' S cs') SL ∧ RgsB (gp + 1) wx (.slice At' T ct') TL ∧ KpsB (gp + 1) wx (.slice Ak' K ck') KL)
  case first =>
    refine wp_region_held_drew (S := fun wx => BK3 w g0 31 #[.int .i64 node, .int .u64 th, .bool su, .int .u64 old, .int .u64 g, .int .u64 n, .int .u64 r, .slice As S cs, .int .u64 a, .int .u64 b, .int .u64 f, .slice At T ct, .slice Ak K ck] g1 51 #[.int .i64 kind, .int .i64 frm, .int .i64 tto, .int .u64 mine, .int .u64 yours, .int .u64 fa, .int .u64 fb, .int .i64 inode, .int .u64 iseq, .int .i64 ioff, .int .i64 bnode, .int .u64 bseq, .int .i64 boff, .int .i64 dest, .int .i64 prio, .int .i64 born, .int .i64 life, .int .i64 total, .string data] g2 31 #[.int .i64 0, .int .u64 0, .bool false, .int .u64 0, .int .u64 0, .int .u64 0, .int .u64 0, .slice none 0 0, .int .u64 0, .int .u64 0, .int .u64 0, .slice none 0 0, .slice none 0 0] wx) (by kernel_rfl) KQ (fun hH => ?_)
    refine tkH 0 rfl (yieldsIf_row g0 31 #[.int .i64 node, .int .u64 th, .bool su, .int .u64 old, .int .u64 g, .int .u64 n, .int .u64 r, .slice As S cs, .int .u64 a, .int .u64 b, .int .u64 f, .slice At T ct, .slice Ak K ck] 31 _ _ rfl rfl rfl (fun w h => h.b) Try.underlying31 rfl (by kernel_rfl)) hH ?_
    refine tkH 2 rfl (yieldsIf_pure _ (.int .u64 boot) rfl (.inl rfl) rfl) hH ?_
    refine tkH 3 rfl (yieldsIf_row g1 51 #[.int .i64 kind, .int .i64 frm, .int .i64 tto, .int .u64 mine, .int .u64 yours, .int .u64 fa, .int .u64 fb, .int .i64 inode, .int .u64 iseq, .int .i64 ioff, .int .i64 bnode, .int .u64 bseq, .int .i64 boff, .int .i64 dest, .int .i64 prio, .int .i64 born, .int .i64 life, .int .i64 total, .string data] 51 _ _ rfl rfl rfl (fun w h => h.c) Try.underlying51 rfl (by kernel_rfl)) hH ?_
    simp only [zz1, zz2, zz3, Act.put, zz4, zz5, zz6]
    refine rdH [1] ?_
    refine c1H rfl fun KK hK => ?_
    go_simp
    refine (CO'.out _ KQ.hB).mono ?_
    rintro e wn ⟨gp, As', cs', At', ct', Ak', ck', rfl, kp, hgp, Rs, Rt, Rk, hbn⟩
    have KN := KQ.below hbn
    refine hK.out _ _ KN (fun hH2 => ?_)
    clear hK KK hH
    refine tkH 4 rfl (yieldsIf_build _ _ #[(0, .pointer (some ⟨gp, 0, none⟩)), (1, .int .u64 boot), (2, .agg #[.int .i64 kind, .int .i64 frm, .int .i64 tto, .int .u64 mine, .int .u64 yours, .int .u64 fa, .int .u64 fb, .int .i64 inode, .int .u64 iseq, .int .i64 ioff, .int .i64 bnode, .int .u64 bseq, .int .i64 boff, .int .i64 dest, .int .i64 prio, .int .i64 born, .int .i64 life, .int .i64 total, .string data])] (.agg #[.pointer (some ⟨gp, 0, none⟩), .int .u64 boot, .int .i64 kind, .int .i64 frm, .int .i64 tto, .int .u64 mine, .int .u64 yours, .int .u64 fa, .int .u64 fb, .int .i64 inode, .int .u64 iseq, .int .i64 ioff, .int .i64 bnode, .int .u64 bseq, .int .i64 boff, .int .i64 dest, .int .i64 prio, .int .i64 born, .int .i64 life, .int .i64 total, .string data, .bool false]) rfl rfl (by kernel_rfl) (hbj gp)) hH2 ?_
    simp only [zz1, zz2, zz3, Act.put, zz4, zz5, zz6]
    refine rdH [5] ?_
    refine c1H rfl fun KK hK => ?_
    have hlt := hbn.size
    go_simp
    have hb3 : BK3 w g0 31 #[.int .i64 node, .int .u64 th, .bool su, .int .u64 old, .int .u64 g, .int .u64 n, .int .u64 r, .slice As S cs, .int .u64 a, .int .u64 b, .int .u64 f, .slice At T ct, .slice Ak K ck] g1 51 #[.int .i64 kind, .int .i64 frm, .int .i64 tto, .int .u64 mine, .int .u64 yours, .int .u64 fa, .int .u64 fb, .int .i64 inode, .int .u64 iseq, .int .i64 ioff, .int .i64 bnode, .int .u64 bseq, .int .i64 boff, .int .i64 dest, .int .i64 prio, .int .i64 born, .int .i64 life, .int .i64 total, .string data] g2 31 #[.int .i64 0, .int .u64 0, .bool false, .int .u64 0, .int .u64 0, .int .u64 0, .int .u64 0, .slice none 0 0, .int .u64 0, .int .u64 0, .int .u64 0, .slice none 0 0, .slice none 0 0] (wn.alloc (.cells #[.pointer (some ⟨gp, 0, none⟩), .int .u64 boot, .int .i64 kind, .int .i64 frm, .int .i64 tto, .int .u64 mine, .int .u64 yours, .int .u64 fa, .int .u64 fb, .int .i64 inode, .int .u64 iseq, .int .i64 ioff, .int .i64 bnode, .int .u64 bseq, .int .i64 boff, .int .i64 dest, .int .i64 prio, .int .i64 born, .int .i64 life, .int .i64 total, .string data, .bool false] 101)) := KN.below (bal (Below.refl _ _) _)
    refine hK.out _ _ hb3 (fun hH3 => ?_)
    clear hK KK hH2
    refine tkH 6 rfl (yieldsIf_pure _ (.pointer (some ⟨wn.heap.size, 0, none⟩)) rfl (.inr rfl) rfl) hH3 ?_
    simp only [zz1, zz2, zz3, Act.put, zz4, zz5, zz6]
    refine wpAnyH_done (by kernel_rfl) ?_ _
    go_wp2_with fail
    go_meet
    refine ⟨wn.heap.size, gp, As', cs', At', ct', Ak', ck', rfl, hb3, kp.alloc _, Blk.new wn 101 #[.pointer (some ⟨gp, 0, none⟩), .int .u64 boot, .int .i64 kind, .int .i64 frm, .int .i64 tto, .int .u64 mine, .int .u64 yours, .int .u64 fa, .int .u64 fb, .int .i64 inode, .int .u64 iseq, .int .i64 ioff, .int .i64 bnode, .int .u64 bseq, .int .i64 boff, .int .i64 dest, .int .i64 prio, .int .i64 born, .int .i64 life, .int .i64 total, .string data, .bool false], ?_, kp.lt, Rs.alloc _, Rt.alloc _, Rk.alloc _⟩
    have := KQ.d.lt
    omega
  case rest =>
    obtain ⟨gj, gp, As', cs', At', ct', Ak', ck', rfl, KN, KP, KJ, hg2p, hgpj, Rs, Rt, Rk⟩ := hcut
    clear hbj KQ K1
    have x1 : wc.cell? ⟨g0, 1, none⟩ = some (.int .u64 th) := KN.b.cell 1
    have y3 : wc.cell? ⟨g1, 3, none⟩ = some (.int .u64 mine) := KN.c.cell 3
    have hlj := KJ.lt
    have hlp := KP.lt
    have hne : gj ≠ gp := by omega
    have hnp : ¬ gp = g2 := by omega
    have hnj : ¬ gj = g2 := by omega
    have hw0 : Hid (w.heap.size ≤ g2) := Lib.hid (by have := HG.out; have := HG0.out; omega)
    obtain ⟨NE, NP, NJ⟩ := (⟨Lib.hid hne, Lib.hid hnp, Lib.hid hnj⟩ : Hid (gj ≠ gp) ∧ Hid (¬ gp = g2) ∧ Hid (¬ gj = g2))
    clear hne hnp hnj
    go_upto_region 12 with fail
    clear x1 y3
    have j0 : wc.cell? ⟨gj, 0, none⟩ = some (.pointer (some ⟨gp, 0, none⟩)) := KJ.cell 0
    have kd := KN.d
    go_wp2_with (first | (refine wpList_load_row (by rfl) 31 _ (by rfl) gp (by rfl) 31 #[.int .i64 node, .int .u64 th, .bool su, .int .u64 old, .int .u64 g, .int .u64 n, .int .u64 r, .slice As' S cs', .int .u64 a, .int .u64 b, .int .u64 f, .slice At' T ct', .slice Ak' K ck'] (0, 0) _ KP Try.underlying31 (by rfl) (by kernel_rfl) ?_) | (refine wpList_store_mid (by rfl) 31 _ _ (by rfl) g2 0 #[.int .i64 node, .int .u64 th, .bool su, .int .u64 old, .int .u64 g, .int .u64 n, .int .u64 r, .slice As' S cs', .int .u64 a, .int .u64 b, .int .u64 f, .slice At' T ct', .slice Ak' K ck'] (by rfl) (by rfl) (Blk.there kd 0 _ (Nat.le_refl 13)) (by kernel_rfl) (by kernel_rfl) ?_))
    refine bodyPost_ret (results_cell3 rfl _ _ g2 31 #[.int .i64 node, .int .u64 th, .bool su, .int .u64 old, .int .u64 g, .int .u64 n, .int .u64 r, .slice As' S cs', .int .u64 a, .int .u64 b, .int .u64 f, .slice At' T ct', .slice Ak' K ck'] (0, 0) _ rfl (Blk.setAll KN.d rfl) Try.underlying31 (by rfl) (by kernel_rfl)) rfl ?_
    exact ⟨As', cs', At', ct', Ak', ck', rfl, (RowB.setCells (by omega) _ 0 Rs).low (by have := hw0.out; omega), (RowB.setCells (by omega) _ 0 Rt).low (by have := hw0.out; omega), (RowB.setCells (by omega) _ 0 Rk).low (by have := hw0.out; omega), below_setCells hw0.out _ 0 KN.hB⟩

set_option maxRecDepth 100000 in
set_option maxHeartbeats 4000000 in
theorem meet_nu (node th old : Int) (su : Bool) (g n r : Int) (SL : List Sl) (S cs : Nat) (As : Option Addr) (a b f : Int) (TL : List Rg) (T ct : Nat) (At : Option Addr) (KL : List Int) (K ck : Nat) (Ak : Option Addr) (kind frm tto mine yours fa fb inode iseq ioff bnode bseq boff dest prio born life total : Int) (data : ByteArray) (boot : Int) (w : World) (PC : ∀ w', Below w.heap.size w w' → Calls Try.prog 20 #[.agg #[.int .i64 node, .int .u64 th, .bool su, .int .u64 old, .int .u64 g, .int .u64 n, .int .u64 r, .slice As S cs, .int .u64 a, .int .u64 b, .int .u64 f, .slice At T ct, .slice Ak K ck]] w' (RetI .i64 0 w')) (FC : ∀ w, Calls Try.prog 53 #[.agg #[.int .i64 kind, .int .i64 frm, .int .i64 tto, .int .u64 mine, .int .u64 yours, .int .u64 fa, .int .u64 fb, .int .i64 inode, .int .u64 iseq, .int .i64 ioff, .int .i64 bnode, .int .u64 bseq, .int .i64 boff, .int .i64 dest, .int .i64 prio, .int .i64 born, .int .i64 life, .int .i64 total, .string data]] w (RetI .i64 0 w)) (CO : ∀ w', Below w.heap.size w w' → Calls Try.prog 54 #[.agg #[.int .i64 node, .int .u64 th, .bool su, .int .u64 old, .int .u64 g, .int .u64 n, .int .u64 r, .slice As S cs, .int .u64 a, .int .u64 b, .int .u64 f, .slice At T ct, .slice Ak K ck]] w' (fun e w'' => ∃ gp As' cs' At' ct' Ak' ck', e = .returned (.pointer (some ⟨gp, 0, none⟩)) ∧ Blk w'' gp 31 #[.int .i64 node, .int .u64 th, .bool su, .int .u64 old, .int .u64 g, .int .u64 n, .int .u64 r, .slice As' S cs', .int .u64 a, .int .u64 b, .int .u64 f, .slice At' T ct', .slice Ak' K ck'] ∧ w'.heap.size ≤ gp ∧ SlsB (gp + 1) w'' (.slice As' S cs') SL ∧ RgsB (gp + 1) w'' (.slice At' T ct') TL ∧ KpsB (gp + 1) w'' (.slice Ak' K ck') KL ∧ Below w'.heap.size w' w'')) (h1 : ¬ boot < 1) (h2 : ¬ boot > 1099511627776) (hk : frm = node) (hm : ¬ mine > th) (hm2 : ¬ mine < th) (hy : yours ≠ boot) :
    Calls Try.prog 18 #[.agg #[.int .i64 node, .int .u64 th, .bool su, .int .u64 old, .int .u64 g, .int .u64 n, .int .u64 r, .slice As S cs, .int .u64 a, .int .u64 b, .int .u64 f, .slice At T ct, .slice Ak K ck], .int .u64 boot, .agg #[.int .i64 kind, .int .i64 frm, .int .i64 tto, .int .u64 mine, .int .u64 yours, .int .u64 fa, .int .u64 fb, .int .i64 inode, .int .u64 iseq, .int .i64 ioff, .int .i64 bnode, .int .u64 bseq, .int .i64 boff, .int .i64 dest, .int .i64 prio, .int .i64 born, .int .i64 life, .int .i64 total, .string data]] w (fun e w' => ∃ As' cs' At' ct' Ak' ck', e = .returned (.tuple #[.agg #[.int .i64 node, .int .u64 th, .bool su, .int .u64 old, .int .u64 g, .int .u64 n, .int .u64 r, .slice As' S cs', .int .u64 a, .int .u64 b, .int .u64 f, .slice At' T ct', .slice Ak' K ck'], .int .i64 2, .bool true, .int .i64 0]) ∧ SlsB w.heap.size w' (.slice As' S cs') SL ∧ RgsB w.heap.size w' (.slice At' T ct') TL ∧ KpsB w.heap.size w' (.slice Ak' K ck') KL ∧ Below w.heap.size w w') := by
  have PC' := Lib.hid PC
  have FC' := Lib.hid FC
  have CO' := Lib.hid CO
  have c1 : (frm != node) = false := by simpa using hk
  clear PC FC CO hk
  go_enter Try.func18, Try.ntmps18
  go_wp2_with fail
  have k0 := (Blk.new w 31 #[.int .i64 node, .int .u64 th, .bool su, .int .u64 old, .int .u64 g, .int .u64 n, .int .u64 r, .slice As S cs, .int .u64 a, .int .u64 b, .int .u64 f, .slice At T ct, .slice Ak K ck]).alloc (.cells #[.int .i64 kind, .int .i64 frm, .int .i64 tto, .int .u64 mine, .int .u64 yours, .int .u64 fa, .int .u64 fb, .int .i64 inode, .int .u64 iseq, .int .i64 ioff, .int .i64 bnode, .int .u64 bseq, .int .i64 boff, .int .i64 dest, .int .i64 prio, .int .i64 born, .int .i64 life, .int .i64 total, .string data] 51)
  have k0 := k0.alloc (.cells #[.int .i64 0, .int .u64 0, .bool false, .int .u64 0, .int .u64 0, .int .u64 0, .int .u64 0, .slice none 0 0, .int .u64 0, .int .u64 0, .int .u64 0, .slice none 0 0, .slice none 0 0] 31)
  have k1 := (Blk.new1 w (.cells #[.int .i64 node, .int .u64 th, .bool su, .int .u64 old, .int .u64 g, .int .u64 n, .int .u64 r, .slice As S cs, .int .u64 a, .int .u64 b, .int .u64 f, .slice At T ct, .slice Ak K ck] 31) 51 #[.int .i64 kind, .int .i64 frm, .int .i64 tto, .int .u64 mine, .int .u64 yours, .int .u64 fa, .int .u64 fb, .int .i64 inode, .int .u64 iseq, .int .i64 ioff, .int .i64 bnode, .int .u64 bseq, .int .i64 boff, .int .i64 dest, .int .i64 prio, .int .i64 born, .int .i64 life, .int .i64 total, .string data]).alloc (.cells #[.int .i64 0, .int .u64 0, .bool false, .int .u64 0, .int .u64 0, .int .u64 0, .int .u64 0, .slice none 0 0, .int .u64 0, .int .u64 0, .int .u64 0, .slice none 0 0, .slice none 0 0] 31)
  have k2 := Blk.new2 w (.cells #[.int .i64 node, .int .u64 th, .bool su, .int .u64 old, .int .u64 g, .int .u64 n, .int .u64 r, .slice As S cs, .int .u64 a, .int .u64 b, .int .u64 f, .slice At T ct, .slice Ak K ck] 31) (.cells #[.int .i64 kind, .int .i64 frm, .int .i64 tto, .int .u64 mine, .int .u64 yours, .int .u64 fa, .int .u64 fb, .int .i64 inode, .int .u64 iseq, .int .i64 ioff, .int .i64 bnode, .int .u64 bseq, .int .i64 boff, .int .i64 dest, .int .i64 prio, .int .i64 born, .int .i64 life, .int .i64 total, .string data] 51) 31 #[.int .i64 0, .int .u64 0, .bool false, .int .u64 0, .int .u64 0, .int .u64 0, .int .u64 0, .slice none 0 0, .int .u64 0, .int .u64 0, .int .u64 0, .slice none 0 0, .slice none 0 0]
  have hB := bal (bal (bal (Below.refl w.heap.size w) (.cells #[.int .i64 node, .int .u64 th, .bool su, .int .u64 old, .int .u64 g, .int .u64 n, .int .u64 r, .slice As S cs, .int .u64 a, .int .u64 b, .int .u64 f, .slice At T ct, .slice Ak K ck] 31)) (.cells #[.int .i64 kind, .int .i64 frm, .int .i64 tto, .int .u64 mine, .int .u64 yours, .int .u64 fa, .int .u64 fb, .int .i64 inode, .int .u64 iseq, .int .i64 ioff, .int .i64 bnode, .int .u64 bseq, .int .i64 boff, .int .i64 dest, .int .i64 prio, .int .i64 born, .int .i64 life, .int .i64 total, .string data] 51)) (.cells #[.int .i64 0, .int .u64 0, .bool false, .int .u64 0, .int .u64 0, .int .u64 0, .int .u64 0, .slice none 0 0, .int .u64 0, .int .u64 0, .int .u64 0, .slice none 0 0, .slice none 0 0] 31)
  have k3 : BK3 w w.heap.size 31 #[.int .i64 node, .int .u64 th, .bool su, .int .u64 old, .int .u64 g, .int .u64 n, .int .u64 r, .slice As S cs, .int .u64 a, .int .u64 b, .int .u64 f, .slice At T ct, .slice Ak K ck] (w.heap.size + 1) 51 #[.int .i64 kind, .int .i64 frm, .int .i64 tto, .int .u64 mine, .int .u64 yours, .int .u64 fa, .int .u64 fb, .int .i64 inode, .int .u64 iseq, .int .i64 ioff, .int .i64 bnode, .int .u64 bseq, .int .i64 boff, .int .i64 dest, .int .i64 prio, .int .i64 born, .int .i64 life, .int .i64 total, .string data] (w.heap.size + 1 + 1) 31 #[.int .i64 0, .int .u64 0, .bool false, .int .u64 0, .int .u64 0, .int .u64 0, .int .u64 0, .slice none 0 0, .int .u64 0, .int .u64 0, .int .u64 0, .slice none 0 0, .slice none 0 0] _ := ⟨k0, k1, k2, hB⟩
  clear k0 k1 k2
  have HG := Lib.hid (show w.heap.size ≤ w.heap.size + 1 + 1 by omega)
  have n02 : ¬ w.heap.size = w.heap.size + 1 + 1 := by omega
  have n12 : ¬ w.heap.size + 1 = w.heap.size + 1 + 1 := by omega
  refine (PC'.out _ hB).mono ?_
  rintro e w1 ⟨rfl, hb1⟩
  have kk := k3.below hb1
  clear k3 hb1 hB PC'
  obtain ⟨g2, hg2⟩ : ∃ g2, w.heap.size + 1 + 1 = g2 := ⟨_, rfl⟩
  obtain ⟨g1, hg1⟩ : ∃ g1, w.heap.size + 1 = g1 := ⟨_, rfl⟩
  rw [hg2] at kk HG n02 n12 ⊢
  rw [hg1] at kk n12 ⊢
  obtain ⟨g0, hg0⟩ : ∃ g0, w.heap.size = g0 := ⟨_, rfl⟩
  rw [hg0] at kk HG n02 ⊢
  have HG0 := Lib.hid hg0
  clear hg2 hg1 hg0
  have hl0 := kk.b.lt
  have hl1 := kk.c.lt
  have hl2 := kk.d.lt
  have kd := kk.d
  have kb := kk.b
  have kc := kk.c
  have K1 := Lib.hid kk
  clear kk
  clear kd kb
  go_wp2_with (refine wpList_load_row (by rfl) 51 _ (by rfl) g1 (by rfl) 51 #[.int .i64 kind, .int .i64 frm, .int .i64 tto, .int .u64 mine, .int .u64 yours, .int .u64 fa, .int .u64 fb, .int .i64 inode, .int .u64 iseq, .int .i64 ioff, .int .i64 bnode, .int .u64 bseq, .int .i64 boff, .int .i64 dest, .int .i64 prio, .int .i64 born, .int .i64 life, .int .i64 total, .string data] (0, 0) _ kc Try.underlying51 (by rfl) (by kernel_rfl) ?_)
  refine (FC'.out _).mono ?_
  rintro e w2 ⟨rfl, hb2⟩
  have kk := K1.out.below hb2
  clear K1 hb2 kc FC'
  have kd := kk.d
  have kb := kk.b
  have kc := kk.c
  have hl0 := kk.b.lt
  have hl1 := kk.c.lt
  have hl2 := kk.d.lt
  have K1 := Lib.hid kk
  clear kk
  have x0 : w2.cell? ⟨g0, 0, none⟩ = some (.int .i64 node) := kb.cell 0
  have y1 : w2.cell? ⟨g1, 1, none⟩ = some (.int .i64 frm) := kc.cell 1
  clear kd kb kc
  go_upto_region 10 with fail
  clear x0 y1 hl0 hl1 hl2
  have KQ := K1.out.drew
  have hbj : ∀ (gp : Nat) (wx : World), (Instr.build 101 #[(0, .pointer (some ⟨gp, 0, none⟩)), (1, .int .u64 boot), (2, .agg #[.int .i64 kind, .int .i64 frm, .int .i64 tto, .int .u64 mine, .int .u64 yours, .int .u64 fa, .int .u64 fb, .int .i64 inode, .int .u64 iseq, .int .i64 ioff, .int .i64 bnode, .int .u64 bseq, .int .i64 boff, .int .i64 dest, .int .i64 prio, .int .i64 born, .int .i64 life, .int .i64 total, .string data])]).run Try.prog wx = .ok (.agg #[.pointer (some ⟨gp, 0, none⟩), .int .u64 boot, .int .i64 kind, .int .i64 frm, .int .i64 tto, .int .u64 mine, .int .u64 yours, .int .u64 fa, .int .u64 fb, .int .i64 inode, .int .u64 iseq, .int .i64 ioff, .int .i64 bnode, .int .u64 bseq, .int .i64 boff, .int .i64 dest, .int .i64 prio, .int .i64 born, .int .i64 life, .int .i64 total, .string data, .bool false]) wx := fun gp wx => by kernel_rfl
  go_cut [10] (fun s wx => ∃ gj gp As' cs' At' ct' Ak' ck', s = .pointer (some ⟨gj, 0, none⟩) ∧ BK3 w g0 31 #[.int .i64 node, .int .u64 th, .bool su, .int .u64 old, .int .u64 g, .int .u64 n, .int .u64 r, .slice As S cs, .int .u64 a, .int .u64 b, .int .u64 f, .slice At T ct, .slice Ak K ck] g1 51 #[.int .i64 kind, .int .i64 frm, .int .i64 tto, .int .u64 mine, .int .u64 yours, .int .u64 fa, .int .u64 fb, .int .i64 inode, .int .u64 iseq, .int .i64 ioff, .int .i64 bnode, .int .u64 bseq, .int .i64 boff, .int .i64 dest, .int .i64 prio, .int .i64 born, .int .i64 life, .int .i64 total, .string data] g2 31 #[.int .i64 0, .int .u64 0, .bool false, .int .u64 0, .int .u64 0, .int .u64 0, .int .u64 0, .slice none 0 0, .int .u64 0, .int .u64 0, .int .u64 0, .slice none 0 0, .slice none 0 0] wx ∧ Blk wx gp 31 #[.int .i64 node, .int .u64 th, .bool su, .int .u64 old, .int .u64 g, .int .u64 n, .int .u64 r, .slice As' S cs', .int .u64 a, .int .u64 b, .int .u64 f, .slice At' T ct', .slice Ak' K ck'] ∧ Blk wx gj 101 #[.pointer (some ⟨gp, 0, none⟩), .int .u64 boot, .int .i64 kind, .int .i64 frm, .int .i64 tto, .int .u64 mine, .int .u64 yours, .int .u64 fa, .int .u64 fb, .int .i64 inode, .int .u64 iseq, .int .i64 ioff, .int .i64 bnode, .int .u64 bseq, .int .i64 boff, .int .i64 dest, .int .i64 prio, .int .i64 born, .int .i64 life, .int .i64 total, .string data, .bool false] ∧ g2 < gp ∧ gp < gj ∧ SlsB (gp + 1) wx (.slice As' S cs') SL ∧ RgsB (gp + 1) wx (.slice At' T ct') TL ∧ KpsB (gp + 1) wx (.slice Ak' K ck') KL)
  case first =>
    refine wp_region_held_drew (S := fun wx => BK3 w g0 31 #[.int .i64 node, .int .u64 th, .bool su, .int .u64 old, .int .u64 g, .int .u64 n, .int .u64 r, .slice As S cs, .int .u64 a, .int .u64 b, .int .u64 f, .slice At T ct, .slice Ak K ck] g1 51 #[.int .i64 kind, .int .i64 frm, .int .i64 tto, .int .u64 mine, .int .u64 yours, .int .u64 fa, .int .u64 fb, .int .i64 inode, .int .u64 iseq, .int .i64 ioff, .int .i64 bnode, .int .u64 bseq, .int .i64 boff, .int .i64 dest, .int .i64 prio, .int .i64 born, .int .i64 life, .int .i64 total, .string data] g2 31 #[.int .i64 0, .int .u64 0, .bool false, .int .u64 0, .int .u64 0, .int .u64 0, .int .u64 0, .slice none 0 0, .int .u64 0, .int .u64 0, .int .u64 0, .slice none 0 0, .slice none 0 0] wx) (by kernel_rfl) KQ (fun hH => ?_)
    refine tkH 0 rfl (yieldsIf_row g0 31 #[.int .i64 node, .int .u64 th, .bool su, .int .u64 old, .int .u64 g, .int .u64 n, .int .u64 r, .slice As S cs, .int .u64 a, .int .u64 b, .int .u64 f, .slice At T ct, .slice Ak K ck] 31 _ _ rfl rfl rfl (fun w h => h.b) Try.underlying31 rfl (by kernel_rfl)) hH ?_
    refine tkH 2 rfl (yieldsIf_pure _ (.int .u64 boot) rfl (.inl rfl) rfl) hH ?_
    refine tkH 3 rfl (yieldsIf_row g1 51 #[.int .i64 kind, .int .i64 frm, .int .i64 tto, .int .u64 mine, .int .u64 yours, .int .u64 fa, .int .u64 fb, .int .i64 inode, .int .u64 iseq, .int .i64 ioff, .int .i64 bnode, .int .u64 bseq, .int .i64 boff, .int .i64 dest, .int .i64 prio, .int .i64 born, .int .i64 life, .int .i64 total, .string data] 51 _ _ rfl rfl rfl (fun w h => h.c) Try.underlying51 rfl (by kernel_rfl)) hH ?_
    simp only [zz1, zz2, zz3, Act.put, zz4, zz5, zz6]
    refine rdH [1] ?_
    refine c1H rfl fun KK hK => ?_
    go_simp
    refine (CO'.out _ KQ.hB).mono ?_
    rintro e wn ⟨gp, As', cs', At', ct', Ak', ck', rfl, kp, hgp, Rs, Rt, Rk, hbn⟩
    have KN := KQ.below hbn
    refine hK.out _ _ KN (fun hH2 => ?_)
    clear hK KK hH
    refine tkH 4 rfl (yieldsIf_build _ _ #[(0, .pointer (some ⟨gp, 0, none⟩)), (1, .int .u64 boot), (2, .agg #[.int .i64 kind, .int .i64 frm, .int .i64 tto, .int .u64 mine, .int .u64 yours, .int .u64 fa, .int .u64 fb, .int .i64 inode, .int .u64 iseq, .int .i64 ioff, .int .i64 bnode, .int .u64 bseq, .int .i64 boff, .int .i64 dest, .int .i64 prio, .int .i64 born, .int .i64 life, .int .i64 total, .string data])] (.agg #[.pointer (some ⟨gp, 0, none⟩), .int .u64 boot, .int .i64 kind, .int .i64 frm, .int .i64 tto, .int .u64 mine, .int .u64 yours, .int .u64 fa, .int .u64 fb, .int .i64 inode, .int .u64 iseq, .int .i64 ioff, .int .i64 bnode, .int .u64 bseq, .int .i64 boff, .int .i64 dest, .int .i64 prio, .int .i64 born, .int .i64 life, .int .i64 total, .string data, .bool false]) rfl rfl (by kernel_rfl) (hbj gp)) hH2 ?_
    simp only [zz1, zz2, zz3, Act.put, zz4, zz5, zz6]
    refine rdH [5] ?_
    refine c1H rfl fun KK hK => ?_
    have hlt := hbn.size
    go_simp
    have hb3 : BK3 w g0 31 #[.int .i64 node, .int .u64 th, .bool su, .int .u64 old, .int .u64 g, .int .u64 n, .int .u64 r, .slice As S cs, .int .u64 a, .int .u64 b, .int .u64 f, .slice At T ct, .slice Ak K ck] g1 51 #[.int .i64 kind, .int .i64 frm, .int .i64 tto, .int .u64 mine, .int .u64 yours, .int .u64 fa, .int .u64 fb, .int .i64 inode, .int .u64 iseq, .int .i64 ioff, .int .i64 bnode, .int .u64 bseq, .int .i64 boff, .int .i64 dest, .int .i64 prio, .int .i64 born, .int .i64 life, .int .i64 total, .string data] g2 31 #[.int .i64 0, .int .u64 0, .bool false, .int .u64 0, .int .u64 0, .int .u64 0, .int .u64 0, .slice none 0 0, .int .u64 0, .int .u64 0, .int .u64 0, .slice none 0 0, .slice none 0 0] (wn.alloc (.cells #[.pointer (some ⟨gp, 0, none⟩), .int .u64 boot, .int .i64 kind, .int .i64 frm, .int .i64 tto, .int .u64 mine, .int .u64 yours, .int .u64 fa, .int .u64 fb, .int .i64 inode, .int .u64 iseq, .int .i64 ioff, .int .i64 bnode, .int .u64 bseq, .int .i64 boff, .int .i64 dest, .int .i64 prio, .int .i64 born, .int .i64 life, .int .i64 total, .string data, .bool false] 101)) := KN.below (bal (Below.refl _ _) _)
    refine hK.out _ _ hb3 (fun hH3 => ?_)
    clear hK KK hH2
    refine tkH 6 rfl (yieldsIf_pure _ (.pointer (some ⟨wn.heap.size, 0, none⟩)) rfl (.inr rfl) rfl) hH3 ?_
    simp only [zz1, zz2, zz3, Act.put, zz4, zz5, zz6]
    refine wpAnyH_done (by kernel_rfl) ?_ _
    go_wp2_with fail
    go_meet
    refine ⟨wn.heap.size, gp, As', cs', At', ct', Ak', ck', rfl, hb3, kp.alloc _, Blk.new wn 101 #[.pointer (some ⟨gp, 0, none⟩), .int .u64 boot, .int .i64 kind, .int .i64 frm, .int .i64 tto, .int .u64 mine, .int .u64 yours, .int .u64 fa, .int .u64 fb, .int .i64 inode, .int .u64 iseq, .int .i64 ioff, .int .i64 bnode, .int .u64 bseq, .int .i64 boff, .int .i64 dest, .int .i64 prio, .int .i64 born, .int .i64 life, .int .i64 total, .string data, .bool false], ?_, kp.lt, Rs.alloc _, Rt.alloc _, Rk.alloc _⟩
    have := KQ.d.lt
    omega
  case rest =>
    obtain ⟨gj, gp, As', cs', At', ct', Ak', ck', rfl, KN, KP, KJ, hg2p, hgpj, Rs, Rt, Rk⟩ := hcut
    clear hbj KQ K1
    have x1 : wc.cell? ⟨g0, 1, none⟩ = some (.int .u64 th) := KN.b.cell 1
    have y3 : wc.cell? ⟨g1, 3, none⟩ = some (.int .u64 mine) := KN.c.cell 3
    have hlj := KJ.lt
    have hlp := KP.lt
    have hne : gj ≠ gp := by omega
    have hnp : ¬ gp = g2 := by omega
    have hnj : ¬ gj = g2 := by omega
    have hw0 : Hid (w.heap.size ≤ g2) := Lib.hid (by have := HG.out; have := HG0.out; omega)
    obtain ⟨NE, NP, NJ⟩ := (⟨Lib.hid hne, Lib.hid hnp, Lib.hid hnj⟩ : Hid (gj ≠ gp) ∧ Hid (¬ gp = g2) ∧ Hid (¬ gj = g2))
    clear hne hnp hnj
    go_upto_region 13 with fail
    clear x1 y3
    go_wp2_with fail
    refine (learn_no gj gp node th old su g n r S cs' As' a b f T ct' At' K ck' Ak' boot kind frm tto mine yours fa fb inode iseq ioff bnode bseq boff dest prio born life total data false wc KJ KP NE.out (by omega)).mono ?_
    rintro e wl ⟨rfl, k1, rfl⟩
    have KP1 := KP.drewN k1
    have KJ1 := KJ.drewN k1
    have KD1 := KN.d.drewN k1
    have hB1 := below_drewN KN.hB k1
    have hl1 : wc.heap.size ≤ (wc.drewN k1).heap.size := Nat.le_refl _
    replace Rs : SlsB (gp + 1) (wc.drewN k1) (.slice As' S cs') SL := Rs
    replace Rt : RgsB (gp + 1) (wc.drewN k1) (.slice At' T ct') TL := Rt
    replace Rk : KpsB (gp + 1) (wc.drewN k1) (.slice Ak' K ck') KL := Rk
    clear KN KP KJ
    generalize wc.drewN k1 = wl at KP1 KJ1 KD1 hB1 hl1 Rs Rt Rk ⊢
    clear hlj hlp
    have hlj := KJ1.lt
    have hlp := KP1.lt
    go_wp2_with fail
    refine (verdict_unk gj gp node th old su g n r S cs' As' a b f T ct' At' K ck' Ak' boot kind frm tto mine yours fa fb inode iseq ioff bnode bseq boff dest prio born life total data false wl KJ1 KP1 NE.out hy).mono ?_
    rintro e wv ⟨rfl, k2, rfl⟩
    have KP2 := KP1.drewN k2
    have KJ2 := KJ1.drewN k2
    have KD2 := KD1.drewN k2
    have hB2 := below_drewN hB1 k2
    replace Rs : SlsB (gp + 1) (wl.drewN k2) (.slice As' S cs') SL := Rs
    replace Rt : RgsB (gp + 1) (wl.drewN k2) (.slice At' T ct') TL := Rt
    replace Rk : KpsB (gp + 1) (wl.drewN k2) (.slice Ak' K ck') KL := Rk
    clear KP1 KJ1 KD1 hB1
    generalize wl.drewN k2 = wv at KP2 KJ2 KD2 hB2 Rs Rt Rk ⊢
    clear hlj hlp
    have hlj := KJ2.lt
    have hlp := KP2.lt
    have SM0 : SMet w gp gj g2 #[.int .i64 node, .int .u64 th, .bool su, .int .u64 old, .int .u64 g, .int .u64 n, .int .u64 r, .slice As' S cs', .int .u64 a, .int .u64 b, .int .u64 f, .slice At' T ct', .slice Ak' K ck'] #[.pointer (some ⟨gp, 0, none⟩), .int .u64 boot, .int .i64 kind, .int .i64 frm, .int .i64 tto, .int .u64 mine, .int .u64 yours, .int .u64 fa, .int .u64 fb, .int .i64 inode, .int .u64 iseq, .int .i64 ioff, .int .i64 bnode, .int .u64 bseq, .int .i64 boff, .int .i64 dest, .int .i64 prio, .int .i64 born, .int .i64 life, .int .i64 total, .string data, .bool false] wv.drew := SMet.drew ⟨KP2, KJ2, ⟨_, KD2, rfl⟩, hB2⟩
    replace Rs : SlsB (gp + 1) wv.drew (.slice As' S cs') SL := Rs
    replace Rt : RgsB (gp + 1) wv.drew (.slice At' T ct') TL := Rt
    replace Rk : KpsB (gp + 1) wv.drew (.slice Ak' K ck') KL := Rk
    clear KP2 KJ2 KD2 hB2
    go_upto_region 14 with fail
    refine wp_region_held_drew (S := fun wx => SMet w gp gj g2 #[.int .i64 node, .int .u64 th, .bool su, .int .u64 old, .int .u64 g, .int .u64 n, .int .u64 r, .slice As' S cs', .int .u64 a, .int .u64 b, .int .u64 f, .slice At' T ct', .slice Ak' K ck'] #[.pointer (some ⟨gp, 0, none⟩), .int .u64 boot, .int .i64 kind, .int .i64 frm, .int .i64 tto, .int .u64 mine, .int .u64 yours, .int .u64 fa, .int .u64 fb, .int .i64 inode, .int .u64 iseq, .int .i64 ioff, .int .i64 bnode, .int .u64 bseq, .int .i64 boff, .int .i64 dest, .int .i64 prio, .int .i64 born, .int .i64 life, .int .i64 total, .string data, .bool false] wx) (by kernel_rfl) SM0 (fun hH => ?_)
    refine tkH 0 rfl (yieldsIf_pure _ (.pointer (some ⟨gj, 0, none⟩)) rfl (.inl rfl) rfl) hH ?_
    simp only [zz1, zz2, zz3, Act.put, zz4, zz5, zz6]
    refine tkH 1 rfl (yieldsIf_cell (.pointer (some ⟨gj, 0, none⟩)) rfl (fun w h => rfl)) hH ?_
    simp only [zz1, zz2, zz3, Act.put, zz4, zz5, zz6]
    refine tkH 2 rfl (yieldsIf_cell (.pointer (some ⟨gj, 0, none⟩)) rfl (fun w h => by go_simp)) hH ?_
    simp only [zz1, zz2, zz3, Act.put, zz4, zz5, zz6]
    refine tkH 3 rfl (yieldsIf_cell (.pointer (some ⟨gp, 0, none⟩)) rfl (fun w h => by have j0 : w.cell? ⟨gj, 0, none⟩ = some (.pointer (some ⟨gp, 0, none⟩)) := h.j.cell 0; go_simp)) hH ?_
    simp only [zz1, zz2, zz3, Act.put, zz4, zz5, zz6]
    refine tkH 4 rfl (yieldsIf_cell (.pointer (some ⟨gp, 0, none⟩)) rfl (fun w h => rfl)) hH ?_
    simp only [zz1, zz2, zz3, Act.put, zz4, zz5, zz6]
    refine tkH 5 rfl (yieldsIf_row gp 31 #[.int .i64 node, .int .u64 th, .bool su, .int .u64 old, .int .u64 g, .int .u64 n, .int .u64 r, .slice As' S cs', .int .u64 a, .int .u64 b, .int .u64 f, .slice At' T ct', .slice Ak' K ck'] 31 _ _ rfl rfl rfl (fun w h => h.p) Try.underlying31 rfl (by kernel_rfl)) hH ?_
    simp only [zz1, zz2, zz3, Act.put, zz4, zz5, zz6]
    refine tkH 6 rfl (yieldsIf_pure _ (.int .i64 2) rfl (.inl rfl) rfl) hH ?_
    simp only [zz1, zz2, zz3, Act.put, zz4, zz5, zz6]
    refine tkH 7 rfl (yieldsIf_pure _ (.pointer (some ⟨gj, 0, none⟩)) rfl (.inl rfl) rfl) hH ?_
    simp only [zz1, zz2, zz3, Act.put, zz4, zz5, zz6]
    refine tkH 8 rfl (yieldsIf_pure _ (.int .i64 2) rfl (.inl rfl) rfl) hH ?_
    simp only [zz1, zz2, zz3, Act.put, zz4, zz5, zz6]
    refine rdH [9] ?_
    refine c1H rfl fun KK hK => ?_
    go_simp
    refine (owed_2 gj gp node th old su g n r S cs' As' a b f T ct' At' K ck' Ak' boot kind frm tto mine yours fa fb inode iseq ioff bnode bseq boff dest prio born life total data false _ hH.j hH.p NE.out).mono ?_
    rintro e wn ⟨rfl, rfl⟩
    refine hK.out _ _ hH (fun hH2 => ?_)
    clear hK KK hH
    refine rdH [10] ?_
    refine c1H rfl fun KK hK => ?_
    rw [if_pos (by rfl)]
    obtain ⟨CZ, hCZ, hCs⟩ := hH2.d
    refine wp_store_mid 31 _ _ rfl g2 0 #[.int .i64 node, .int .u64 th, .bool su, .int .u64 old, .int .u64 g, .int .u64 n, .int .u64 r, .slice As' S cs', .int .u64 a, .int .u64 b, .int .u64 f, .slice At' T ct', .slice Ak' K ck'] rfl rfl (Blk.there hCZ 0 _ (by rw [hCs]; exact Nat.le_refl 13)) (by kernel_rfl) (by kernel_rfl) ?_
    have SM1 := hH2.set #[.int .i64 node, .int .u64 th, .bool su, .int .u64 old, .int .u64 g, .int .u64 n, .int .u64 r, .slice As' S cs', .int .u64 a, .int .u64 b, .int .u64 f, .slice At' T ct', .slice Ak' K ck'] rfl NP.out NJ.out hw0.out
    have KF : Blk ((World.drew wv).setCells g2 0 (Array.toList #[.int .i64 node, .int .u64 th, .bool su, .int .u64 old, .int .u64 g, .int .u64 n, .int .u64 r, .slice As' S cs', .int .u64 a, .int .u64 b, .int .u64 f, .slice At' T ct', .slice Ak' K ck'])) g2 31 #[.int .i64 node, .int .u64 th, .bool su, .int .u64 old, .int .u64 g, .int .u64 n, .int .u64 r, .slice As' S cs', .int .u64 a, .int .u64 b, .int .u64 f, .slice At' T ct', .slice Ak' K ck'] := hCZ.setAll (by rw [hCs]; rfl)
    refine hK.out _ _ SM1 (fun hH3 => ?_)
    clear hK KK
    simp only [zz1, zz2, zz3, Act.put, zz4, zz5, zz6]
    refine tkH 11 rfl (yieldsIf_pure _ (.int .i64 2) rfl (.inr rfl) rfl) hH3 ?_
    simp only [zz1, zz2, zz3, Act.put, zz4, zz5, zz6]
    refine tkH 12 rfl (yieldsIf_pure _ (.bool true) rfl (.inr rfl) rfl) hH3 ?_
    simp only [zz1, zz2, zz3, Act.put, zz4, zz5, zz6]
    refine tkH 13 rfl (yieldsIf_pure _ (.int .i64 0) rfl (.inr rfl) rfl) hH3 ?_
    simp only [zz1, zz2, zz3, Act.put, zz4, zz5, zz6]
    refine wpAnyH_done (by kernel_rfl) ?_ _
    go_wp2_with fail
    refine bodyPost_ret (results_cell3 rfl _ _ g2 31 #[.int .i64 node, .int .u64 th, .bool su, .int .u64 old, .int .u64 g, .int .u64 n, .int .u64 r, .slice As' S cs', .int .u64 a, .int .u64 b, .int .u64 f, .slice At' T ct', .slice Ak' K ck'] (0, 0) _ rfl KF Try.underlying31 (by rfl) (by kernel_rfl)) rfl ?_
    exact ⟨As', cs', At', ct', Ak', ck', rfl, (RowB.setCells (by omega) _ 0 Rs).low (by have := hw0.out; omega), (RowB.setCells (by omega) _ 0 Rt).low (by have := hw0.out; omega), (RowB.setCells (by omega) _ 0 Rk).low (by have := hw0.out; omega), hH3.hB⟩

set_option maxRecDepth 100000 in
set_option maxHeartbeats 4000000 in
theorem meet_nf (node th old : Int) (su : Bool) (g n r : Int) (SL : List Sl) (S cs : Nat) (As : Option Addr) (a b f : Int) (TL : List Rg) (T ct : Nat) (At : Option Addr) (KL : List Int) (K ck : Nat) (Ak : Option Addr) (kind frm tto mine yours fa fb inode iseq ioff bnode bseq boff dest prio born life total : Int) (data : ByteArray) (boot : Int) (w : World) (PC : ∀ w', Below w.heap.size w w' → Calls Try.prog 20 #[.agg #[.int .i64 node, .int .u64 th, .bool su, .int .u64 old, .int .u64 g, .int .u64 n, .int .u64 r, .slice As S cs, .int .u64 a, .int .u64 b, .int .u64 f, .slice At T ct, .slice Ak K ck]] w' (RetI .i64 0 w')) (FC : ∀ w, Calls Try.prog 53 #[.agg #[.int .i64 kind, .int .i64 frm, .int .i64 tto, .int .u64 mine, .int .u64 yours, .int .u64 fa, .int .u64 fb, .int .i64 inode, .int .u64 iseq, .int .i64 ioff, .int .i64 bnode, .int .u64 bseq, .int .i64 boff, .int .i64 dest, .int .i64 prio, .int .i64 born, .int .i64 life, .int .i64 total, .string data]] w (RetI .i64 0 w)) (CO : ∀ w', Below w.heap.size w w' → Calls Try.prog 54 #[.agg #[.int .i64 node, .int .u64 th, .bool su, .int .u64 old, .int .u64 g, .int .u64 n, .int .u64 r, .slice As S cs, .int .u64 a, .int .u64 b, .int .u64 f, .slice At T ct, .slice Ak K ck]] w' (fun e w'' => ∃ gp As' cs' At' ct' Ak' ck', e = .returned (.pointer (some ⟨gp, 0, none⟩)) ∧ Blk w'' gp 31 #[.int .i64 node, .int .u64 th, .bool su, .int .u64 old, .int .u64 g, .int .u64 n, .int .u64 r, .slice As' S cs', .int .u64 a, .int .u64 b, .int .u64 f, .slice At' T ct', .slice Ak' K ck'] ∧ w'.heap.size ≤ gp ∧ SlsB (gp + 1) w'' (.slice As' S cs') SL ∧ RgsB (gp + 1) w'' (.slice At' T ct') TL ∧ KpsB (gp + 1) w'' (.slice Ak' K ck') KL ∧ Below w'.heap.size w' w'')) (h1 : ¬ boot < 1) (h2 : ¬ boot > 1099511627776) (hk : frm = node) (hm : ¬ mine > th) (hm2 : ¬ mine < th) (hy : yours = boot) :
    Calls Try.prog 18 #[.agg #[.int .i64 node, .int .u64 th, .bool su, .int .u64 old, .int .u64 g, .int .u64 n, .int .u64 r, .slice As S cs, .int .u64 a, .int .u64 b, .int .u64 f, .slice At T ct, .slice Ak K ck], .int .u64 boot, .agg #[.int .i64 kind, .int .i64 frm, .int .i64 tto, .int .u64 mine, .int .u64 yours, .int .u64 fa, .int .u64 fb, .int .i64 inode, .int .u64 iseq, .int .i64 ioff, .int .i64 bnode, .int .u64 bseq, .int .i64 boff, .int .i64 dest, .int .i64 prio, .int .i64 born, .int .i64 life, .int .i64 total, .string data]] w (fun e w' => ∃ As' cs' At' ct' Ak' ck', e = .returned (.tuple #[.agg #[.int .i64 node, .int .u64 th, .bool true, .int .u64 0, .int .u64 g, .int .u64 n, .int .u64 r, .slice As' S cs', .int .u64 a, .int .u64 b, .int .u64 f, .slice At' T ct', .slice Ak' K ck'], .int .i64 3, .bool false, .int .i64 0]) ∧ SlsB w.heap.size w' (.slice As' S cs') SL ∧ RgsB w.heap.size w' (.slice At' T ct') TL ∧ KpsB w.heap.size w' (.slice Ak' K ck') KL ∧ Below w.heap.size w w') := by
  have HY := Lib.hid hy
  clear hy
  have PC' := Lib.hid PC
  have FC' := Lib.hid FC
  have CO' := Lib.hid CO
  have c1 : (frm != node) = false := by simpa using hk
  clear PC FC CO hk
  go_enter Try.func18, Try.ntmps18
  go_wp2_with fail
  have k0 := (Blk.new w 31 #[.int .i64 node, .int .u64 th, .bool su, .int .u64 old, .int .u64 g, .int .u64 n, .int .u64 r, .slice As S cs, .int .u64 a, .int .u64 b, .int .u64 f, .slice At T ct, .slice Ak K ck]).alloc (.cells #[.int .i64 kind, .int .i64 frm, .int .i64 tto, .int .u64 mine, .int .u64 yours, .int .u64 fa, .int .u64 fb, .int .i64 inode, .int .u64 iseq, .int .i64 ioff, .int .i64 bnode, .int .u64 bseq, .int .i64 boff, .int .i64 dest, .int .i64 prio, .int .i64 born, .int .i64 life, .int .i64 total, .string data] 51)
  have k0 := k0.alloc (.cells #[.int .i64 0, .int .u64 0, .bool false, .int .u64 0, .int .u64 0, .int .u64 0, .int .u64 0, .slice none 0 0, .int .u64 0, .int .u64 0, .int .u64 0, .slice none 0 0, .slice none 0 0] 31)
  have k1 := (Blk.new1 w (.cells #[.int .i64 node, .int .u64 th, .bool su, .int .u64 old, .int .u64 g, .int .u64 n, .int .u64 r, .slice As S cs, .int .u64 a, .int .u64 b, .int .u64 f, .slice At T ct, .slice Ak K ck] 31) 51 #[.int .i64 kind, .int .i64 frm, .int .i64 tto, .int .u64 mine, .int .u64 yours, .int .u64 fa, .int .u64 fb, .int .i64 inode, .int .u64 iseq, .int .i64 ioff, .int .i64 bnode, .int .u64 bseq, .int .i64 boff, .int .i64 dest, .int .i64 prio, .int .i64 born, .int .i64 life, .int .i64 total, .string data]).alloc (.cells #[.int .i64 0, .int .u64 0, .bool false, .int .u64 0, .int .u64 0, .int .u64 0, .int .u64 0, .slice none 0 0, .int .u64 0, .int .u64 0, .int .u64 0, .slice none 0 0, .slice none 0 0] 31)
  have k2 := Blk.new2 w (.cells #[.int .i64 node, .int .u64 th, .bool su, .int .u64 old, .int .u64 g, .int .u64 n, .int .u64 r, .slice As S cs, .int .u64 a, .int .u64 b, .int .u64 f, .slice At T ct, .slice Ak K ck] 31) (.cells #[.int .i64 kind, .int .i64 frm, .int .i64 tto, .int .u64 mine, .int .u64 yours, .int .u64 fa, .int .u64 fb, .int .i64 inode, .int .u64 iseq, .int .i64 ioff, .int .i64 bnode, .int .u64 bseq, .int .i64 boff, .int .i64 dest, .int .i64 prio, .int .i64 born, .int .i64 life, .int .i64 total, .string data] 51) 31 #[.int .i64 0, .int .u64 0, .bool false, .int .u64 0, .int .u64 0, .int .u64 0, .int .u64 0, .slice none 0 0, .int .u64 0, .int .u64 0, .int .u64 0, .slice none 0 0, .slice none 0 0]
  have hB := bal (bal (bal (Below.refl w.heap.size w) (.cells #[.int .i64 node, .int .u64 th, .bool su, .int .u64 old, .int .u64 g, .int .u64 n, .int .u64 r, .slice As S cs, .int .u64 a, .int .u64 b, .int .u64 f, .slice At T ct, .slice Ak K ck] 31)) (.cells #[.int .i64 kind, .int .i64 frm, .int .i64 tto, .int .u64 mine, .int .u64 yours, .int .u64 fa, .int .u64 fb, .int .i64 inode, .int .u64 iseq, .int .i64 ioff, .int .i64 bnode, .int .u64 bseq, .int .i64 boff, .int .i64 dest, .int .i64 prio, .int .i64 born, .int .i64 life, .int .i64 total, .string data] 51)) (.cells #[.int .i64 0, .int .u64 0, .bool false, .int .u64 0, .int .u64 0, .int .u64 0, .int .u64 0, .slice none 0 0, .int .u64 0, .int .u64 0, .int .u64 0, .slice none 0 0, .slice none 0 0] 31)
  have k3 : BK3 w w.heap.size 31 #[.int .i64 node, .int .u64 th, .bool su, .int .u64 old, .int .u64 g, .int .u64 n, .int .u64 r, .slice As S cs, .int .u64 a, .int .u64 b, .int .u64 f, .slice At T ct, .slice Ak K ck] (w.heap.size + 1) 51 #[.int .i64 kind, .int .i64 frm, .int .i64 tto, .int .u64 mine, .int .u64 yours, .int .u64 fa, .int .u64 fb, .int .i64 inode, .int .u64 iseq, .int .i64 ioff, .int .i64 bnode, .int .u64 bseq, .int .i64 boff, .int .i64 dest, .int .i64 prio, .int .i64 born, .int .i64 life, .int .i64 total, .string data] (w.heap.size + 1 + 1) 31 #[.int .i64 0, .int .u64 0, .bool false, .int .u64 0, .int .u64 0, .int .u64 0, .int .u64 0, .slice none 0 0, .int .u64 0, .int .u64 0, .int .u64 0, .slice none 0 0, .slice none 0 0] _ := ⟨k0, k1, k2, hB⟩
  clear k0 k1 k2
  have HG := Lib.hid (show w.heap.size ≤ w.heap.size + 1 + 1 by omega)
  have n02 : ¬ w.heap.size = w.heap.size + 1 + 1 := by omega
  have n12 : ¬ w.heap.size + 1 = w.heap.size + 1 + 1 := by omega
  refine (PC'.out _ hB).mono ?_
  rintro e w1 ⟨rfl, hb1⟩
  have kk := k3.below hb1
  clear k3 hb1 hB PC'
  obtain ⟨g2, hg2⟩ : ∃ g2, w.heap.size + 1 + 1 = g2 := ⟨_, rfl⟩
  obtain ⟨g1, hg1⟩ : ∃ g1, w.heap.size + 1 = g1 := ⟨_, rfl⟩
  rw [hg2] at kk HG n02 n12 ⊢
  rw [hg1] at kk n12 ⊢
  obtain ⟨g0, hg0⟩ : ∃ g0, w.heap.size = g0 := ⟨_, rfl⟩
  rw [hg0] at kk HG n02 ⊢
  have HG0 := Lib.hid hg0
  clear hg2 hg1 hg0
  have hl0 := kk.b.lt
  have hl1 := kk.c.lt
  have hl2 := kk.d.lt
  have kd := kk.d
  have kb := kk.b
  have kc := kk.c
  have K1 := Lib.hid kk
  clear kk
  clear kd kb
  go_wp2_with (refine wpList_load_row (by rfl) 51 _ (by rfl) g1 (by rfl) 51 #[.int .i64 kind, .int .i64 frm, .int .i64 tto, .int .u64 mine, .int .u64 yours, .int .u64 fa, .int .u64 fb, .int .i64 inode, .int .u64 iseq, .int .i64 ioff, .int .i64 bnode, .int .u64 bseq, .int .i64 boff, .int .i64 dest, .int .i64 prio, .int .i64 born, .int .i64 life, .int .i64 total, .string data] (0, 0) _ kc Try.underlying51 (by rfl) (by kernel_rfl) ?_)
  refine (FC'.out _).mono ?_
  rintro e w2 ⟨rfl, hb2⟩
  have kk := K1.out.below hb2
  clear K1 hb2 kc FC'
  have kd := kk.d
  have kb := kk.b
  have kc := kk.c
  have hl0 := kk.b.lt
  have hl1 := kk.c.lt
  have hl2 := kk.d.lt
  have K1 := Lib.hid kk
  clear kk
  have x0 : w2.cell? ⟨g0, 0, none⟩ = some (.int .i64 node) := kb.cell 0
  have y1 : w2.cell? ⟨g1, 1, none⟩ = some (.int .i64 frm) := kc.cell 1
  clear kd kb kc
  go_upto_region 10 with fail
  clear x0 y1 hl0 hl1 hl2
  have KQ := K1.out.drew
  have hbj : ∀ (gp : Nat) (wx : World), (Instr.build 101 #[(0, .pointer (some ⟨gp, 0, none⟩)), (1, .int .u64 boot), (2, .agg #[.int .i64 kind, .int .i64 frm, .int .i64 tto, .int .u64 mine, .int .u64 yours, .int .u64 fa, .int .u64 fb, .int .i64 inode, .int .u64 iseq, .int .i64 ioff, .int .i64 bnode, .int .u64 bseq, .int .i64 boff, .int .i64 dest, .int .i64 prio, .int .i64 born, .int .i64 life, .int .i64 total, .string data])]).run Try.prog wx = .ok (.agg #[.pointer (some ⟨gp, 0, none⟩), .int .u64 boot, .int .i64 kind, .int .i64 frm, .int .i64 tto, .int .u64 mine, .int .u64 yours, .int .u64 fa, .int .u64 fb, .int .i64 inode, .int .u64 iseq, .int .i64 ioff, .int .i64 bnode, .int .u64 bseq, .int .i64 boff, .int .i64 dest, .int .i64 prio, .int .i64 born, .int .i64 life, .int .i64 total, .string data, .bool false]) wx := fun gp wx => by kernel_rfl
  go_cut [10] (fun s wx => ∃ gj gp As' cs' At' ct' Ak' ck', s = .pointer (some ⟨gj, 0, none⟩) ∧ BK3 w g0 31 #[.int .i64 node, .int .u64 th, .bool su, .int .u64 old, .int .u64 g, .int .u64 n, .int .u64 r, .slice As S cs, .int .u64 a, .int .u64 b, .int .u64 f, .slice At T ct, .slice Ak K ck] g1 51 #[.int .i64 kind, .int .i64 frm, .int .i64 tto, .int .u64 mine, .int .u64 yours, .int .u64 fa, .int .u64 fb, .int .i64 inode, .int .u64 iseq, .int .i64 ioff, .int .i64 bnode, .int .u64 bseq, .int .i64 boff, .int .i64 dest, .int .i64 prio, .int .i64 born, .int .i64 life, .int .i64 total, .string data] g2 31 #[.int .i64 0, .int .u64 0, .bool false, .int .u64 0, .int .u64 0, .int .u64 0, .int .u64 0, .slice none 0 0, .int .u64 0, .int .u64 0, .int .u64 0, .slice none 0 0, .slice none 0 0] wx ∧ Blk wx gp 31 #[.int .i64 node, .int .u64 th, .bool su, .int .u64 old, .int .u64 g, .int .u64 n, .int .u64 r, .slice As' S cs', .int .u64 a, .int .u64 b, .int .u64 f, .slice At' T ct', .slice Ak' K ck'] ∧ Blk wx gj 101 #[.pointer (some ⟨gp, 0, none⟩), .int .u64 boot, .int .i64 kind, .int .i64 frm, .int .i64 tto, .int .u64 mine, .int .u64 yours, .int .u64 fa, .int .u64 fb, .int .i64 inode, .int .u64 iseq, .int .i64 ioff, .int .i64 bnode, .int .u64 bseq, .int .i64 boff, .int .i64 dest, .int .i64 prio, .int .i64 born, .int .i64 life, .int .i64 total, .string data, .bool false] ∧ g2 < gp ∧ gp < gj ∧ SlsB (gp + 1) wx (.slice As' S cs') SL ∧ RgsB (gp + 1) wx (.slice At' T ct') TL ∧ KpsB (gp + 1) wx (.slice Ak' K ck') KL)
  case first =>
    refine wp_region_held_drew (S := fun wx => BK3 w g0 31 #[.int .i64 node, .int .u64 th, .bool su, .int .u64 old, .int .u64 g, .int .u64 n, .int .u64 r, .slice As S cs, .int .u64 a, .int .u64 b, .int .u64 f, .slice At T ct, .slice Ak K ck] g1 51 #[.int .i64 kind, .int .i64 frm, .int .i64 tto, .int .u64 mine, .int .u64 yours, .int .u64 fa, .int .u64 fb, .int .i64 inode, .int .u64 iseq, .int .i64 ioff, .int .i64 bnode, .int .u64 bseq, .int .i64 boff, .int .i64 dest, .int .i64 prio, .int .i64 born, .int .i64 life, .int .i64 total, .string data] g2 31 #[.int .i64 0, .int .u64 0, .bool false, .int .u64 0, .int .u64 0, .int .u64 0, .int .u64 0, .slice none 0 0, .int .u64 0, .int .u64 0, .int .u64 0, .slice none 0 0, .slice none 0 0] wx) (by kernel_rfl) KQ (fun hH => ?_)
    refine tkH 0 rfl (yieldsIf_row g0 31 #[.int .i64 node, .int .u64 th, .bool su, .int .u64 old, .int .u64 g, .int .u64 n, .int .u64 r, .slice As S cs, .int .u64 a, .int .u64 b, .int .u64 f, .slice At T ct, .slice Ak K ck] 31 _ _ rfl rfl rfl (fun w h => h.b) Try.underlying31 rfl (by kernel_rfl)) hH ?_
    refine tkH 2 rfl (yieldsIf_pure _ (.int .u64 boot) rfl (.inl rfl) rfl) hH ?_
    refine tkH 3 rfl (yieldsIf_row g1 51 #[.int .i64 kind, .int .i64 frm, .int .i64 tto, .int .u64 mine, .int .u64 yours, .int .u64 fa, .int .u64 fb, .int .i64 inode, .int .u64 iseq, .int .i64 ioff, .int .i64 bnode, .int .u64 bseq, .int .i64 boff, .int .i64 dest, .int .i64 prio, .int .i64 born, .int .i64 life, .int .i64 total, .string data] 51 _ _ rfl rfl rfl (fun w h => h.c) Try.underlying51 rfl (by kernel_rfl)) hH ?_
    simp only [zz1, zz2, zz3, Act.put, zz4, zz5, zz6]
    refine rdH [1] ?_
    refine c1H rfl fun KK hK => ?_
    go_simp
    refine (CO'.out _ KQ.hB).mono ?_
    rintro e wn ⟨gp, As', cs', At', ct', Ak', ck', rfl, kp, hgp, Rs, Rt, Rk, hbn⟩
    have KN := KQ.below hbn
    refine hK.out _ _ KN (fun hH2 => ?_)
    clear hK KK hH
    refine tkH 4 rfl (yieldsIf_build _ _ #[(0, .pointer (some ⟨gp, 0, none⟩)), (1, .int .u64 boot), (2, .agg #[.int .i64 kind, .int .i64 frm, .int .i64 tto, .int .u64 mine, .int .u64 yours, .int .u64 fa, .int .u64 fb, .int .i64 inode, .int .u64 iseq, .int .i64 ioff, .int .i64 bnode, .int .u64 bseq, .int .i64 boff, .int .i64 dest, .int .i64 prio, .int .i64 born, .int .i64 life, .int .i64 total, .string data])] (.agg #[.pointer (some ⟨gp, 0, none⟩), .int .u64 boot, .int .i64 kind, .int .i64 frm, .int .i64 tto, .int .u64 mine, .int .u64 yours, .int .u64 fa, .int .u64 fb, .int .i64 inode, .int .u64 iseq, .int .i64 ioff, .int .i64 bnode, .int .u64 bseq, .int .i64 boff, .int .i64 dest, .int .i64 prio, .int .i64 born, .int .i64 life, .int .i64 total, .string data, .bool false]) rfl rfl (by kernel_rfl) (hbj gp)) hH2 ?_
    simp only [zz1, zz2, zz3, Act.put, zz4, zz5, zz6]
    refine rdH [5] ?_
    refine c1H rfl fun KK hK => ?_
    have hlt := hbn.size
    go_simp
    have hb3 : BK3 w g0 31 #[.int .i64 node, .int .u64 th, .bool su, .int .u64 old, .int .u64 g, .int .u64 n, .int .u64 r, .slice As S cs, .int .u64 a, .int .u64 b, .int .u64 f, .slice At T ct, .slice Ak K ck] g1 51 #[.int .i64 kind, .int .i64 frm, .int .i64 tto, .int .u64 mine, .int .u64 yours, .int .u64 fa, .int .u64 fb, .int .i64 inode, .int .u64 iseq, .int .i64 ioff, .int .i64 bnode, .int .u64 bseq, .int .i64 boff, .int .i64 dest, .int .i64 prio, .int .i64 born, .int .i64 life, .int .i64 total, .string data] g2 31 #[.int .i64 0, .int .u64 0, .bool false, .int .u64 0, .int .u64 0, .int .u64 0, .int .u64 0, .slice none 0 0, .int .u64 0, .int .u64 0, .int .u64 0, .slice none 0 0, .slice none 0 0] (wn.alloc (.cells #[.pointer (some ⟨gp, 0, none⟩), .int .u64 boot, .int .i64 kind, .int .i64 frm, .int .i64 tto, .int .u64 mine, .int .u64 yours, .int .u64 fa, .int .u64 fb, .int .i64 inode, .int .u64 iseq, .int .i64 ioff, .int .i64 bnode, .int .u64 bseq, .int .i64 boff, .int .i64 dest, .int .i64 prio, .int .i64 born, .int .i64 life, .int .i64 total, .string data, .bool false] 101)) := KN.below (bal (Below.refl _ _) _)
    refine hK.out _ _ hb3 (fun hH3 => ?_)
    clear hK KK hH2
    refine tkH 6 rfl (yieldsIf_pure _ (.pointer (some ⟨wn.heap.size, 0, none⟩)) rfl (.inr rfl) rfl) hH3 ?_
    simp only [zz1, zz2, zz3, Act.put, zz4, zz5, zz6]
    refine wpAnyH_done (by kernel_rfl) ?_ _
    go_wp2_with fail
    go_meet
    refine ⟨wn.heap.size, gp, As', cs', At', ct', Ak', ck', rfl, hb3, kp.alloc _, Blk.new wn 101 #[.pointer (some ⟨gp, 0, none⟩), .int .u64 boot, .int .i64 kind, .int .i64 frm, .int .i64 tto, .int .u64 mine, .int .u64 yours, .int .u64 fa, .int .u64 fb, .int .i64 inode, .int .u64 iseq, .int .i64 ioff, .int .i64 bnode, .int .u64 bseq, .int .i64 boff, .int .i64 dest, .int .i64 prio, .int .i64 born, .int .i64 life, .int .i64 total, .string data, .bool false], ?_, kp.lt, Rs.alloc _, Rt.alloc _, Rk.alloc _⟩
    have := KQ.d.lt
    omega
  case rest =>
    obtain ⟨gj, gp, As', cs', At', ct', Ak', ck', rfl, KN, KP, KJ, hg2p, hgpj, Rs, Rt, Rk⟩ := hcut
    clear hbj KQ K1
    have x1 : wc.cell? ⟨g0, 1, none⟩ = some (.int .u64 th) := KN.b.cell 1
    have y3 : wc.cell? ⟨g1, 3, none⟩ = some (.int .u64 mine) := KN.c.cell 3
    have hlj := KJ.lt
    have hlp := KP.lt
    have hne : gj ≠ gp := by omega
    have hnp : ¬ gp = g2 := by omega
    have hnj : ¬ gj = g2 := by omega
    have hw0 : Hid (w.heap.size ≤ g2) := Lib.hid (by have := HG.out; have := HG0.out; omega)
    obtain ⟨NE, NP, NJ⟩ := (⟨Lib.hid hne, Lib.hid hnp, Lib.hid hnj⟩ : Hid (gj ≠ gp) ∧ Hid (¬ gp = g2) ∧ Hid (¬ gj = g2))
    clear hne hnp hnj
    go_upto_region 13 with fail
    clear x1 y3
    go_wp2_with fail
    refine (learn_no gj gp node th old su g n r S cs' As' a b f T ct' At' K ck' Ak' boot kind frm tto mine yours fa fb inode iseq ioff bnode bseq boff dest prio born life total data false wc KJ KP NE.out (by omega)).mono ?_
    rintro e wl ⟨rfl, k1, rfl⟩
    have KP1 := KP.drewN k1
    have KJ1 := KJ.drewN k1
    have KD1 := KN.d.drewN k1
    have hB1 := below_drewN KN.hB k1
    have hl1 : wc.heap.size ≤ (wc.drewN k1).heap.size := Nat.le_refl _
    replace Rs : SlsB (gp + 1) (wc.drewN k1) (.slice As' S cs') SL := Rs
    replace Rt : RgsB (gp + 1) (wc.drewN k1) (.slice At' T ct') TL := Rt
    replace Rk : KpsB (gp + 1) (wc.drewN k1) (.slice Ak' K ck') KL := Rk
    clear KN KP KJ
    generalize wc.drewN k1 = wl at KP1 KJ1 KD1 hB1 hl1 Rs Rt Rk ⊢
    clear hlj hlp
    have hlj := KJ1.lt
    have hlp := KP1.lt
    go_wp2_with fail
    refine (verdict_fresh gj gp node th old su g n r S cs' As' a b f T ct' At' K ck' Ak' boot kind frm tto mine yours fa fb inode iseq ioff bnode bseq boff dest prio born life total data false wl KJ1 KP1 NE.out HY.out (g2 + 1) (by omega) (by omega)).mono ?_
    rintro e wv ⟨rfl, KP2, KJ2, hbl, hrow⟩
    have KD2 : Blk wv g2 31 #[.int .i64 0, .int .u64 0, .bool false, .int .u64 0, .int .u64 0, .int .u64 0, .int .u64 0, .slice none 0 0, .int .u64 0, .int .u64 0, .int .u64 0, .slice none 0 0, .slice none 0 0] := (hbl.block g2 (by omega)).trans KD1
    have hB2 : Below w.heap.size w wv := hB1.trans (hbl.mono (by have := hw0.out; omega))
    clear hbl KD1 KP1 KJ1
    replace Rs := hrow _ _ _ _ Rs
    replace Rt := hrow _ _ _ _ Rt
    replace Rk := hrow _ _ _ _ Rk
    clear hrow
    clear hlj hlp
    have hlj := KJ2.lt
    have hlp := KP2.lt
    have SM0 : SMet w gp gj g2 #[.int .i64 node, .int .u64 th, .bool true, .int .u64 0, .int .u64 g, .int .u64 n, .int .u64 r, .slice As' S cs', .int .u64 a, .int .u64 b, .int .u64 f, .slice At' T ct', .slice Ak' K ck'] #[.pointer (some ⟨gp, 0, none⟩), .int .u64 boot, .int .i64 kind, .int .i64 frm, .int .i64 tto, .int .u64 mine, .int .u64 yours, .int .u64 fa, .int .u64 fb, .int .i64 inode, .int .u64 iseq, .int .i64 ioff, .int .i64 bnode, .int .u64 bseq, .int .i64 boff, .int .i64 dest, .int .i64 prio, .int .i64 born, .int .i64 life, .int .i64 total, .string data, .bool false] wv.drew := SMet.drew ⟨KP2, KJ2, ⟨_, KD2, rfl⟩, hB2⟩
    replace Rs : SlsB (gp + 1) wv.drew (.slice As' S cs') SL := Rs
    replace Rt : RgsB (gp + 1) wv.drew (.slice At' T ct') TL := Rt
    replace Rk : KpsB (gp + 1) wv.drew (.slice Ak' K ck') KL := Rk
    clear KP2 KJ2 KD2 hB2
    go_upto_region 14 with fail
    refine wp_region_held_drew (S := fun wx => SMet w gp gj g2 #[.int .i64 node, .int .u64 th, .bool true, .int .u64 0, .int .u64 g, .int .u64 n, .int .u64 r, .slice As' S cs', .int .u64 a, .int .u64 b, .int .u64 f, .slice At' T ct', .slice Ak' K ck'] #[.pointer (some ⟨gp, 0, none⟩), .int .u64 boot, .int .i64 kind, .int .i64 frm, .int .i64 tto, .int .u64 mine, .int .u64 yours, .int .u64 fa, .int .u64 fb, .int .i64 inode, .int .u64 iseq, .int .i64 ioff, .int .i64 bnode, .int .u64 bseq, .int .i64 boff, .int .i64 dest, .int .i64 prio, .int .i64 born, .int .i64 life, .int .i64 total, .string data, .bool false] wx) (by kernel_rfl) SM0 (fun hH => ?_)
    refine tkH 0 rfl (yieldsIf_pure _ (.pointer (some ⟨gj, 0, none⟩)) rfl (.inl rfl) rfl) hH ?_
    simp only [zz1, zz2, zz3, Act.put, zz4, zz5, zz6]
    refine tkH 1 rfl (yieldsIf_cell (.pointer (some ⟨gj, 0, none⟩)) rfl (fun w h => rfl)) hH ?_
    simp only [zz1, zz2, zz3, Act.put, zz4, zz5, zz6]
    refine tkH 2 rfl (yieldsIf_cell (.pointer (some ⟨gj, 0, none⟩)) rfl (fun w h => by go_simp)) hH ?_
    simp only [zz1, zz2, zz3, Act.put, zz4, zz5, zz6]
    refine tkH 3 rfl (yieldsIf_cell (.pointer (some ⟨gp, 0, none⟩)) rfl (fun w h => by have j0 : w.cell? ⟨gj, 0, none⟩ = some (.pointer (some ⟨gp, 0, none⟩)) := h.j.cell 0; go_simp)) hH ?_
    simp only [zz1, zz2, zz3, Act.put, zz4, zz5, zz6]
    refine tkH 4 rfl (yieldsIf_cell (.pointer (some ⟨gp, 0, none⟩)) rfl (fun w h => rfl)) hH ?_
    simp only [zz1, zz2, zz3, Act.put, zz4, zz5, zz6]
    refine tkH 5 rfl (yieldsIf_row gp 31 #[.int .i64 node, .int .u64 th, .bool true, .int .u64 0, .int .u64 g, .int .u64 n, .int .u64 r, .slice As' S cs', .int .u64 a, .int .u64 b, .int .u64 f, .slice At' T ct', .slice Ak' K ck'] 31 _ _ rfl rfl rfl (fun w h => h.p) Try.underlying31 rfl (by kernel_rfl)) hH ?_
    simp only [zz1, zz2, zz3, Act.put, zz4, zz5, zz6]
    refine tkH 6 rfl (yieldsIf_pure _ (.int .i64 3) rfl (.inl rfl) rfl) hH ?_
    simp only [zz1, zz2, zz3, Act.put, zz4, zz5, zz6]
    refine tkH 7 rfl (yieldsIf_pure _ (.pointer (some ⟨gj, 0, none⟩)) rfl (.inl rfl) rfl) hH ?_
    simp only [zz1, zz2, zz3, Act.put, zz4, zz5, zz6]
    refine tkH 8 rfl (yieldsIf_pure _ (.int .i64 3) rfl (.inl rfl) rfl) hH ?_
    simp only [zz1, zz2, zz3, Act.put, zz4, zz5, zz6]
    refine rdH [9] ?_
    refine c1H rfl fun KK hK => ?_
    go_simp
    refine (owed_3 gj gp node th 0 true g n r S cs' As' a b f T ct' At' K ck' Ak' boot kind frm tto mine yours fa fb inode iseq ioff bnode bseq boff dest prio born life total data false _ hH.j hH.p NE.out).mono ?_
    rintro e wn ⟨rfl, rfl⟩
    refine hK.out _ _ hH (fun hH2 => ?_)
    clear hK KK hH
    refine rdH [10] ?_
    refine c1H rfl fun KK hK => ?_
    rw [if_pos (by rfl)]
    obtain ⟨CZ, hCZ, hCs⟩ := hH2.d
    refine wp_store_mid 31 _ _ rfl g2 0 #[.int .i64 node, .int .u64 th, .bool true, .int .u64 0, .int .u64 g, .int .u64 n, .int .u64 r, .slice As' S cs', .int .u64 a, .int .u64 b, .int .u64 f, .slice At' T ct', .slice Ak' K ck'] rfl rfl (Blk.there hCZ 0 _ (by rw [hCs]; exact Nat.le_refl 13)) (by kernel_rfl) (by kernel_rfl) ?_
    have SM1 := hH2.set #[.int .i64 node, .int .u64 th, .bool true, .int .u64 0, .int .u64 g, .int .u64 n, .int .u64 r, .slice As' S cs', .int .u64 a, .int .u64 b, .int .u64 f, .slice At' T ct', .slice Ak' K ck'] rfl NP.out NJ.out hw0.out
    have KF : Blk ((World.drew wv).setCells g2 0 (Array.toList #[.int .i64 node, .int .u64 th, .bool true, .int .u64 0, .int .u64 g, .int .u64 n, .int .u64 r, .slice As' S cs', .int .u64 a, .int .u64 b, .int .u64 f, .slice At' T ct', .slice Ak' K ck'])) g2 31 #[.int .i64 node, .int .u64 th, .bool true, .int .u64 0, .int .u64 g, .int .u64 n, .int .u64 r, .slice As' S cs', .int .u64 a, .int .u64 b, .int .u64 f, .slice At' T ct', .slice Ak' K ck'] := hCZ.setAll (by rw [hCs]; rfl)
    refine hK.out _ _ SM1 (fun hH3 => ?_)
    clear hK KK
    simp only [zz1, zz2, zz3, Act.put, zz4, zz5, zz6]
    refine tkH 11 rfl (yieldsIf_pure _ (.int .i64 3) rfl (.inr rfl) rfl) hH3 ?_
    simp only [zz1, zz2, zz3, Act.put, zz4, zz5, zz6]
    refine tkH 12 rfl (yieldsIf_pure _ (.bool false) rfl (.inr rfl) rfl) hH3 ?_
    simp only [zz1, zz2, zz3, Act.put, zz4, zz5, zz6]
    refine tkH 13 rfl (yieldsIf_pure _ (.int .i64 0) rfl (.inr rfl) rfl) hH3 ?_
    simp only [zz1, zz2, zz3, Act.put, zz4, zz5, zz6]
    refine wpAnyH_done (by kernel_rfl) ?_ _
    go_wp2_with fail
    refine bodyPost_ret (results_cell3 rfl _ _ g2 31 #[.int .i64 node, .int .u64 th, .bool true, .int .u64 0, .int .u64 g, .int .u64 n, .int .u64 r, .slice As' S cs', .int .u64 a, .int .u64 b, .int .u64 f, .slice At' T ct', .slice Ak' K ck'] (0, 0) _ rfl KF Try.underlying31 (by rfl) (by kernel_rfl)) rfl ?_
    exact ⟨As', cs', At', ct', Ak', ck', rfl, (RowB.setCells (by omega) _ 0 Rs).low (by have := hw0.out; omega), (RowB.setCells (by omega) _ 0 Rt).low (by have := hw0.out; omega), (RowB.setCells (by omega) _ 0 Rk).low (by have := hw0.out; omega), hH3.hB⟩

set_option maxRecDepth 100000 in
set_option maxHeartbeats 4000000 in
theorem meet_lu (node th old : Int) (su : Bool) (g n r : Int) (SL : List Sl) (S cs : Nat) (As : Option Addr) (a b f : Int) (TL : List Rg) (T ct : Nat) (At : Option Addr) (KL : List Int) (K ck : Nat) (Ak : Option Addr) (kind frm tto mine yours fa fb inode iseq ioff bnode bseq boff dest prio born life total : Int) (data : ByteArray) (boot : Int) (w : World) (PC : ∀ w', Below w.heap.size w w' → Calls Try.prog 20 #[.agg #[.int .i64 node, .int .u64 th, .bool su, .int .u64 old, .int .u64 g, .int .u64 n, .int .u64 r, .slice As S cs, .int .u64 a, .int .u64 b, .int .u64 f, .slice At T ct, .slice Ak K ck]] w' (RetI .i64 0 w')) (FC : ∀ w, Calls Try.prog 53 #[.agg #[.int .i64 kind, .int .i64 frm, .int .i64 tto, .int .u64 mine, .int .u64 yours, .int .u64 fa, .int .u64 fb, .int .i64 inode, .int .u64 iseq, .int .i64 ioff, .int .i64 bnode, .int .u64 bseq, .int .i64 boff, .int .i64 dest, .int .i64 prio, .int .i64 born, .int .i64 life, .int .i64 total, .string data]] w (RetI .i64 0 w)) (CO : ∀ w', Below w.heap.size w w' → Calls Try.prog 54 #[.agg #[.int .i64 node, .int .u64 th, .bool su, .int .u64 old, .int .u64 g, .int .u64 n, .int .u64 r, .slice As S cs, .int .u64 a, .int .u64 b, .int .u64 f, .slice At T ct, .slice Ak K ck]] w' (fun e w'' => ∃ gp As' cs' At' ct' Ak' ck', e = .returned (.pointer (some ⟨gp, 0, none⟩)) ∧ Blk w'' gp 31 #[.int .i64 node, .int .u64 th, .bool su, .int .u64 old, .int .u64 g, .int .u64 n, .int .u64 r, .slice As' S cs', .int .u64 a, .int .u64 b, .int .u64 f, .slice At' T ct', .slice Ak' K ck'] ∧ w'.heap.size ≤ gp ∧ SlsB (gp + 1) w'' (.slice As' S cs') SL ∧ RgsB (gp + 1) w'' (.slice At' T ct') TL ∧ KpsB (gp + 1) w'' (.slice Ak' K ck') KL ∧ Below w'.heap.size w' w'')) (h1 : ¬ boot < 1) (h2 : ¬ boot > 1099511627776) (hk : frm = node) (hm : mine > th) (hy : yours ≠ boot) :
    Calls Try.prog 18 #[.agg #[.int .i64 node, .int .u64 th, .bool su, .int .u64 old, .int .u64 g, .int .u64 n, .int .u64 r, .slice As S cs, .int .u64 a, .int .u64 b, .int .u64 f, .slice At T ct, .slice Ak K ck], .int .u64 boot, .agg #[.int .i64 kind, .int .i64 frm, .int .i64 tto, .int .u64 mine, .int .u64 yours, .int .u64 fa, .int .u64 fb, .int .i64 inode, .int .u64 iseq, .int .i64 ioff, .int .i64 bnode, .int .u64 bseq, .int .i64 boff, .int .i64 dest, .int .i64 prio, .int .i64 born, .int .i64 life, .int .i64 total, .string data]] w (fun e w' => e = .returned (.tuple #[.agg #[.int .i64 node, .int .u64 mine, .bool false, .int .u64 0, .int .u64 0, .int .u64 0, .int .u64 0, .slice none 0 0, .int .u64 0, .int .u64 0, .int .u64 0, .slice none 0 0, .slice none 0 0], .int .i64 2, .bool true, .int .i64 0]) ∧ Below w.heap.size w w') := by
  have PC' := Lib.hid PC
  have FC' := Lib.hid FC
  have CO' := Lib.hid CO
  have c1 : (frm != node) = false := by simpa using hk
  clear PC FC CO hk
  go_enter Try.func18, Try.ntmps18
  go_wp2_with fail
  have k0 := (Blk.new w 31 #[.int .i64 node, .int .u64 th, .bool su, .int .u64 old, .int .u64 g, .int .u64 n, .int .u64 r, .slice As S cs, .int .u64 a, .int .u64 b, .int .u64 f, .slice At T ct, .slice Ak K ck]).alloc (.cells #[.int .i64 kind, .int .i64 frm, .int .i64 tto, .int .u64 mine, .int .u64 yours, .int .u64 fa, .int .u64 fb, .int .i64 inode, .int .u64 iseq, .int .i64 ioff, .int .i64 bnode, .int .u64 bseq, .int .i64 boff, .int .i64 dest, .int .i64 prio, .int .i64 born, .int .i64 life, .int .i64 total, .string data] 51)
  have k0 := k0.alloc (.cells #[.int .i64 0, .int .u64 0, .bool false, .int .u64 0, .int .u64 0, .int .u64 0, .int .u64 0, .slice none 0 0, .int .u64 0, .int .u64 0, .int .u64 0, .slice none 0 0, .slice none 0 0] 31)
  have k1 := (Blk.new1 w (.cells #[.int .i64 node, .int .u64 th, .bool su, .int .u64 old, .int .u64 g, .int .u64 n, .int .u64 r, .slice As S cs, .int .u64 a, .int .u64 b, .int .u64 f, .slice At T ct, .slice Ak K ck] 31) 51 #[.int .i64 kind, .int .i64 frm, .int .i64 tto, .int .u64 mine, .int .u64 yours, .int .u64 fa, .int .u64 fb, .int .i64 inode, .int .u64 iseq, .int .i64 ioff, .int .i64 bnode, .int .u64 bseq, .int .i64 boff, .int .i64 dest, .int .i64 prio, .int .i64 born, .int .i64 life, .int .i64 total, .string data]).alloc (.cells #[.int .i64 0, .int .u64 0, .bool false, .int .u64 0, .int .u64 0, .int .u64 0, .int .u64 0, .slice none 0 0, .int .u64 0, .int .u64 0, .int .u64 0, .slice none 0 0, .slice none 0 0] 31)
  have k2 := Blk.new2 w (.cells #[.int .i64 node, .int .u64 th, .bool su, .int .u64 old, .int .u64 g, .int .u64 n, .int .u64 r, .slice As S cs, .int .u64 a, .int .u64 b, .int .u64 f, .slice At T ct, .slice Ak K ck] 31) (.cells #[.int .i64 kind, .int .i64 frm, .int .i64 tto, .int .u64 mine, .int .u64 yours, .int .u64 fa, .int .u64 fb, .int .i64 inode, .int .u64 iseq, .int .i64 ioff, .int .i64 bnode, .int .u64 bseq, .int .i64 boff, .int .i64 dest, .int .i64 prio, .int .i64 born, .int .i64 life, .int .i64 total, .string data] 51) 31 #[.int .i64 0, .int .u64 0, .bool false, .int .u64 0, .int .u64 0, .int .u64 0, .int .u64 0, .slice none 0 0, .int .u64 0, .int .u64 0, .int .u64 0, .slice none 0 0, .slice none 0 0]
  have hB := bal (bal (bal (Below.refl w.heap.size w) (.cells #[.int .i64 node, .int .u64 th, .bool su, .int .u64 old, .int .u64 g, .int .u64 n, .int .u64 r, .slice As S cs, .int .u64 a, .int .u64 b, .int .u64 f, .slice At T ct, .slice Ak K ck] 31)) (.cells #[.int .i64 kind, .int .i64 frm, .int .i64 tto, .int .u64 mine, .int .u64 yours, .int .u64 fa, .int .u64 fb, .int .i64 inode, .int .u64 iseq, .int .i64 ioff, .int .i64 bnode, .int .u64 bseq, .int .i64 boff, .int .i64 dest, .int .i64 prio, .int .i64 born, .int .i64 life, .int .i64 total, .string data] 51)) (.cells #[.int .i64 0, .int .u64 0, .bool false, .int .u64 0, .int .u64 0, .int .u64 0, .int .u64 0, .slice none 0 0, .int .u64 0, .int .u64 0, .int .u64 0, .slice none 0 0, .slice none 0 0] 31)
  have k3 : BK3 w w.heap.size 31 #[.int .i64 node, .int .u64 th, .bool su, .int .u64 old, .int .u64 g, .int .u64 n, .int .u64 r, .slice As S cs, .int .u64 a, .int .u64 b, .int .u64 f, .slice At T ct, .slice Ak K ck] (w.heap.size + 1) 51 #[.int .i64 kind, .int .i64 frm, .int .i64 tto, .int .u64 mine, .int .u64 yours, .int .u64 fa, .int .u64 fb, .int .i64 inode, .int .u64 iseq, .int .i64 ioff, .int .i64 bnode, .int .u64 bseq, .int .i64 boff, .int .i64 dest, .int .i64 prio, .int .i64 born, .int .i64 life, .int .i64 total, .string data] (w.heap.size + 1 + 1) 31 #[.int .i64 0, .int .u64 0, .bool false, .int .u64 0, .int .u64 0, .int .u64 0, .int .u64 0, .slice none 0 0, .int .u64 0, .int .u64 0, .int .u64 0, .slice none 0 0, .slice none 0 0] _ := ⟨k0, k1, k2, hB⟩
  clear k0 k1 k2
  have HG := Lib.hid (show w.heap.size ≤ w.heap.size + 1 + 1 by omega)
  have n02 : ¬ w.heap.size = w.heap.size + 1 + 1 := by omega
  have n12 : ¬ w.heap.size + 1 = w.heap.size + 1 + 1 := by omega
  refine (PC'.out _ hB).mono ?_
  rintro e w1 ⟨rfl, hb1⟩
  have kk := k3.below hb1
  clear k3 hb1 hB PC'
  obtain ⟨g2, hg2⟩ : ∃ g2, w.heap.size + 1 + 1 = g2 := ⟨_, rfl⟩
  obtain ⟨g1, hg1⟩ : ∃ g1, w.heap.size + 1 = g1 := ⟨_, rfl⟩
  rw [hg2] at kk HG n02 n12 ⊢
  rw [hg1] at kk n12 ⊢
  obtain ⟨g0, hg0⟩ : ∃ g0, w.heap.size = g0 := ⟨_, rfl⟩
  rw [hg0] at kk HG n02 ⊢
  have HG0 := Lib.hid hg0
  clear hg2 hg1 hg0
  have hl0 := kk.b.lt
  have hl1 := kk.c.lt
  have hl2 := kk.d.lt
  have kd := kk.d
  have kb := kk.b
  have kc := kk.c
  have K1 := Lib.hid kk
  clear kk
  clear kd kb
  go_wp2_with (refine wpList_load_row (by rfl) 51 _ (by rfl) g1 (by rfl) 51 #[.int .i64 kind, .int .i64 frm, .int .i64 tto, .int .u64 mine, .int .u64 yours, .int .u64 fa, .int .u64 fb, .int .i64 inode, .int .u64 iseq, .int .i64 ioff, .int .i64 bnode, .int .u64 bseq, .int .i64 boff, .int .i64 dest, .int .i64 prio, .int .i64 born, .int .i64 life, .int .i64 total, .string data] (0, 0) _ kc Try.underlying51 (by rfl) (by kernel_rfl) ?_)
  refine (FC'.out _).mono ?_
  rintro e w2 ⟨rfl, hb2⟩
  have kk := K1.out.below hb2
  clear K1 hb2 kc FC'
  have kd := kk.d
  have kb := kk.b
  have kc := kk.c
  have hl0 := kk.b.lt
  have hl1 := kk.c.lt
  have hl2 := kk.d.lt
  have K1 := Lib.hid kk
  clear kk
  have x0 : w2.cell? ⟨g0, 0, none⟩ = some (.int .i64 node) := kb.cell 0
  have y1 : w2.cell? ⟨g1, 1, none⟩ = some (.int .i64 frm) := kc.cell 1
  clear kd kb kc
  go_upto_region 10 with fail
  clear x0 y1 hl0 hl1 hl2
  have KQ := K1.out.drew
  have hbj : ∀ (gp : Nat) (wx : World), (Instr.build 101 #[(0, .pointer (some ⟨gp, 0, none⟩)), (1, .int .u64 boot), (2, .agg #[.int .i64 kind, .int .i64 frm, .int .i64 tto, .int .u64 mine, .int .u64 yours, .int .u64 fa, .int .u64 fb, .int .i64 inode, .int .u64 iseq, .int .i64 ioff, .int .i64 bnode, .int .u64 bseq, .int .i64 boff, .int .i64 dest, .int .i64 prio, .int .i64 born, .int .i64 life, .int .i64 total, .string data])]).run Try.prog wx = .ok (.agg #[.pointer (some ⟨gp, 0, none⟩), .int .u64 boot, .int .i64 kind, .int .i64 frm, .int .i64 tto, .int .u64 mine, .int .u64 yours, .int .u64 fa, .int .u64 fb, .int .i64 inode, .int .u64 iseq, .int .i64 ioff, .int .i64 bnode, .int .u64 bseq, .int .i64 boff, .int .i64 dest, .int .i64 prio, .int .i64 born, .int .i64 life, .int .i64 total, .string data, .bool false]) wx := fun gp wx => by kernel_rfl
  go_cut [10] (fun s wx => ∃ gj gp As' cs' At' ct' Ak' ck', s = .pointer (some ⟨gj, 0, none⟩) ∧ BK3 w g0 31 #[.int .i64 node, .int .u64 th, .bool su, .int .u64 old, .int .u64 g, .int .u64 n, .int .u64 r, .slice As S cs, .int .u64 a, .int .u64 b, .int .u64 f, .slice At T ct, .slice Ak K ck] g1 51 #[.int .i64 kind, .int .i64 frm, .int .i64 tto, .int .u64 mine, .int .u64 yours, .int .u64 fa, .int .u64 fb, .int .i64 inode, .int .u64 iseq, .int .i64 ioff, .int .i64 bnode, .int .u64 bseq, .int .i64 boff, .int .i64 dest, .int .i64 prio, .int .i64 born, .int .i64 life, .int .i64 total, .string data] g2 31 #[.int .i64 0, .int .u64 0, .bool false, .int .u64 0, .int .u64 0, .int .u64 0, .int .u64 0, .slice none 0 0, .int .u64 0, .int .u64 0, .int .u64 0, .slice none 0 0, .slice none 0 0] wx ∧ Blk wx gp 31 #[.int .i64 node, .int .u64 th, .bool su, .int .u64 old, .int .u64 g, .int .u64 n, .int .u64 r, .slice As' S cs', .int .u64 a, .int .u64 b, .int .u64 f, .slice At' T ct', .slice Ak' K ck'] ∧ Blk wx gj 101 #[.pointer (some ⟨gp, 0, none⟩), .int .u64 boot, .int .i64 kind, .int .i64 frm, .int .i64 tto, .int .u64 mine, .int .u64 yours, .int .u64 fa, .int .u64 fb, .int .i64 inode, .int .u64 iseq, .int .i64 ioff, .int .i64 bnode, .int .u64 bseq, .int .i64 boff, .int .i64 dest, .int .i64 prio, .int .i64 born, .int .i64 life, .int .i64 total, .string data, .bool false] ∧ g2 < gp ∧ gp < gj ∧ SlsB (gp + 1) wx (.slice As' S cs') SL ∧ RgsB (gp + 1) wx (.slice At' T ct') TL ∧ KpsB (gp + 1) wx (.slice Ak' K ck') KL)
  case first =>
    refine wp_region_held_drew (S := fun wx => BK3 w g0 31 #[.int .i64 node, .int .u64 th, .bool su, .int .u64 old, .int .u64 g, .int .u64 n, .int .u64 r, .slice As S cs, .int .u64 a, .int .u64 b, .int .u64 f, .slice At T ct, .slice Ak K ck] g1 51 #[.int .i64 kind, .int .i64 frm, .int .i64 tto, .int .u64 mine, .int .u64 yours, .int .u64 fa, .int .u64 fb, .int .i64 inode, .int .u64 iseq, .int .i64 ioff, .int .i64 bnode, .int .u64 bseq, .int .i64 boff, .int .i64 dest, .int .i64 prio, .int .i64 born, .int .i64 life, .int .i64 total, .string data] g2 31 #[.int .i64 0, .int .u64 0, .bool false, .int .u64 0, .int .u64 0, .int .u64 0, .int .u64 0, .slice none 0 0, .int .u64 0, .int .u64 0, .int .u64 0, .slice none 0 0, .slice none 0 0] wx) (by kernel_rfl) KQ (fun hH => ?_)
    refine tkH 0 rfl (yieldsIf_row g0 31 #[.int .i64 node, .int .u64 th, .bool su, .int .u64 old, .int .u64 g, .int .u64 n, .int .u64 r, .slice As S cs, .int .u64 a, .int .u64 b, .int .u64 f, .slice At T ct, .slice Ak K ck] 31 _ _ rfl rfl rfl (fun w h => h.b) Try.underlying31 rfl (by kernel_rfl)) hH ?_
    refine tkH 2 rfl (yieldsIf_pure _ (.int .u64 boot) rfl (.inl rfl) rfl) hH ?_
    refine tkH 3 rfl (yieldsIf_row g1 51 #[.int .i64 kind, .int .i64 frm, .int .i64 tto, .int .u64 mine, .int .u64 yours, .int .u64 fa, .int .u64 fb, .int .i64 inode, .int .u64 iseq, .int .i64 ioff, .int .i64 bnode, .int .u64 bseq, .int .i64 boff, .int .i64 dest, .int .i64 prio, .int .i64 born, .int .i64 life, .int .i64 total, .string data] 51 _ _ rfl rfl rfl (fun w h => h.c) Try.underlying51 rfl (by kernel_rfl)) hH ?_
    simp only [zz1, zz2, zz3, Act.put, zz4, zz5, zz6]
    refine rdH [1] ?_
    refine c1H rfl fun KK hK => ?_
    go_simp
    refine (CO'.out _ KQ.hB).mono ?_
    rintro e wn ⟨gp, As', cs', At', ct', Ak', ck', rfl, kp, hgp, Rs, Rt, Rk, hbn⟩
    have KN := KQ.below hbn
    refine hK.out _ _ KN (fun hH2 => ?_)
    clear hK KK hH
    refine tkH 4 rfl (yieldsIf_build _ _ #[(0, .pointer (some ⟨gp, 0, none⟩)), (1, .int .u64 boot), (2, .agg #[.int .i64 kind, .int .i64 frm, .int .i64 tto, .int .u64 mine, .int .u64 yours, .int .u64 fa, .int .u64 fb, .int .i64 inode, .int .u64 iseq, .int .i64 ioff, .int .i64 bnode, .int .u64 bseq, .int .i64 boff, .int .i64 dest, .int .i64 prio, .int .i64 born, .int .i64 life, .int .i64 total, .string data])] (.agg #[.pointer (some ⟨gp, 0, none⟩), .int .u64 boot, .int .i64 kind, .int .i64 frm, .int .i64 tto, .int .u64 mine, .int .u64 yours, .int .u64 fa, .int .u64 fb, .int .i64 inode, .int .u64 iseq, .int .i64 ioff, .int .i64 bnode, .int .u64 bseq, .int .i64 boff, .int .i64 dest, .int .i64 prio, .int .i64 born, .int .i64 life, .int .i64 total, .string data, .bool false]) rfl rfl (by kernel_rfl) (hbj gp)) hH2 ?_
    simp only [zz1, zz2, zz3, Act.put, zz4, zz5, zz6]
    refine rdH [5] ?_
    refine c1H rfl fun KK hK => ?_
    have hlt := hbn.size
    go_simp
    have hb3 : BK3 w g0 31 #[.int .i64 node, .int .u64 th, .bool su, .int .u64 old, .int .u64 g, .int .u64 n, .int .u64 r, .slice As S cs, .int .u64 a, .int .u64 b, .int .u64 f, .slice At T ct, .slice Ak K ck] g1 51 #[.int .i64 kind, .int .i64 frm, .int .i64 tto, .int .u64 mine, .int .u64 yours, .int .u64 fa, .int .u64 fb, .int .i64 inode, .int .u64 iseq, .int .i64 ioff, .int .i64 bnode, .int .u64 bseq, .int .i64 boff, .int .i64 dest, .int .i64 prio, .int .i64 born, .int .i64 life, .int .i64 total, .string data] g2 31 #[.int .i64 0, .int .u64 0, .bool false, .int .u64 0, .int .u64 0, .int .u64 0, .int .u64 0, .slice none 0 0, .int .u64 0, .int .u64 0, .int .u64 0, .slice none 0 0, .slice none 0 0] (wn.alloc (.cells #[.pointer (some ⟨gp, 0, none⟩), .int .u64 boot, .int .i64 kind, .int .i64 frm, .int .i64 tto, .int .u64 mine, .int .u64 yours, .int .u64 fa, .int .u64 fb, .int .i64 inode, .int .u64 iseq, .int .i64 ioff, .int .i64 bnode, .int .u64 bseq, .int .i64 boff, .int .i64 dest, .int .i64 prio, .int .i64 born, .int .i64 life, .int .i64 total, .string data, .bool false] 101)) := KN.below (bal (Below.refl _ _) _)
    refine hK.out _ _ hb3 (fun hH3 => ?_)
    clear hK KK hH2
    refine tkH 6 rfl (yieldsIf_pure _ (.pointer (some ⟨wn.heap.size, 0, none⟩)) rfl (.inr rfl) rfl) hH3 ?_
    simp only [zz1, zz2, zz3, Act.put, zz4, zz5, zz6]
    refine wpAnyH_done (by kernel_rfl) ?_ _
    go_wp2_with fail
    go_meet
    refine ⟨wn.heap.size, gp, As', cs', At', ct', Ak', ck', rfl, hb3, kp.alloc _, Blk.new wn 101 #[.pointer (some ⟨gp, 0, none⟩), .int .u64 boot, .int .i64 kind, .int .i64 frm, .int .i64 tto, .int .u64 mine, .int .u64 yours, .int .u64 fa, .int .u64 fb, .int .i64 inode, .int .u64 iseq, .int .i64 ioff, .int .i64 bnode, .int .u64 bseq, .int .i64 boff, .int .i64 dest, .int .i64 prio, .int .i64 born, .int .i64 life, .int .i64 total, .string data, .bool false], ?_, kp.lt, Rs.alloc _, Rt.alloc _, Rk.alloc _⟩
    have := KQ.d.lt
    omega
  case rest =>
    obtain ⟨gj, gp, As', cs', At', ct', Ak', ck', rfl, KN, KP, KJ, hg2p, hgpj, Rs, Rt, Rk⟩ := hcut
    clear hbj KQ K1
    have x1 : wc.cell? ⟨g0, 1, none⟩ = some (.int .u64 th) := KN.b.cell 1
    have y3 : wc.cell? ⟨g1, 3, none⟩ = some (.int .u64 mine) := KN.c.cell 3
    have hlj := KJ.lt
    have hlp := KP.lt
    have hne : gj ≠ gp := by omega
    have hnp : ¬ gp = g2 := by omega
    have hnj : ¬ gj = g2 := by omega
    have hw0 : Hid (w.heap.size ≤ g2) := Lib.hid (by have := HG.out; have := HG0.out; omega)
    obtain ⟨NE, NP, NJ⟩ := (⟨Lib.hid hne, Lib.hid hnp, Lib.hid hnj⟩ : Hid (gj ≠ gp) ∧ Hid (¬ gp = g2) ∧ Hid (¬ gj = g2))
    clear hne hnp hnj
    have hm2 : ¬ mine < th := by omega
    go_upto_region 13 with fail
    clear x1 y3
    go_wp2_with fail
    refine (learn_yes gj gp node th old su g n r S cs' As' a b f T ct' At' K ck' Ak' boot kind frm tto mine yours fa fb inode iseq ioff bnode bseq boff dest prio born life total data false wc KJ KP NE.out (by omega) (g2 + 1) (by omega) (by omega)).mono ?_
    rintro e wl ⟨rfl, KP1, KJ1, hbl⟩
    have KD1 : Blk wl g2 31 #[.int .i64 0, .int .u64 0, .bool false, .int .u64 0, .int .u64 0, .int .u64 0, .int .u64 0, .slice none 0 0, .int .u64 0, .int .u64 0, .int .u64 0, .slice none 0 0, .slice none 0 0] := (hbl.block g2 (by omega)).trans KN.d
    have hB1 : Below w.heap.size w wl := KN.hB.trans (hbl.mono (by have := hw0.out; omega))
    have hl1 : wc.heap.size ≤ wl.heap.size := hbl.size
    clear hbl KN KP KJ
    clear hlj hlp
    have hlj := KJ1.lt
    have hlp := KP1.lt
    go_wp2_with fail
    refine (verdict_unk gj gp node mine 0 false 0 0 0 0 0 none 0 0 0 0 0 none 0 0 none boot kind frm tto mine yours fa fb inode iseq ioff bnode bseq boff dest prio born life total data true wl KJ1 KP1 NE.out hy).mono ?_
    rintro e wv ⟨rfl, k2, rfl⟩
    have KP2 := KP1.drewN k2
    have KJ2 := KJ1.drewN k2
    have KD2 := KD1.drewN k2
    have hB2 := below_drewN hB1 k2
    clear KP1 KJ1 KD1 hB1
    generalize wl.drewN k2 = wv at KP2 KJ2 KD2 hB2 ⊢
    clear Rs Rt Rk
    clear hlj hlp
    have hlj := KJ2.lt
    have hlp := KP2.lt
    have SM0 : SMet w gp gj g2 #[.int .i64 node, .int .u64 mine, .bool false, .int .u64 0, .int .u64 0, .int .u64 0, .int .u64 0, .slice none 0 0, .int .u64 0, .int .u64 0, .int .u64 0, .slice none 0 0, .slice none 0 0] #[.pointer (some ⟨gp, 0, none⟩), .int .u64 boot, .int .i64 kind, .int .i64 frm, .int .i64 tto, .int .u64 mine, .int .u64 yours, .int .u64 fa, .int .u64 fb, .int .i64 inode, .int .u64 iseq, .int .i64 ioff, .int .i64 bnode, .int .u64 bseq, .int .i64 boff, .int .i64 dest, .int .i64 prio, .int .i64 born, .int .i64 life, .int .i64 total, .string data, .bool true] wv.drew := SMet.drew ⟨KP2, KJ2, ⟨_, KD2, rfl⟩, hB2⟩
    clear KP2 KJ2 KD2 hB2
    go_upto_region 14 with fail
    refine wp_region_held_drew (S := fun wx => SMet w gp gj g2 #[.int .i64 node, .int .u64 mine, .bool false, .int .u64 0, .int .u64 0, .int .u64 0, .int .u64 0, .slice none 0 0, .int .u64 0, .int .u64 0, .int .u64 0, .slice none 0 0, .slice none 0 0] #[.pointer (some ⟨gp, 0, none⟩), .int .u64 boot, .int .i64 kind, .int .i64 frm, .int .i64 tto, .int .u64 mine, .int .u64 yours, .int .u64 fa, .int .u64 fb, .int .i64 inode, .int .u64 iseq, .int .i64 ioff, .int .i64 bnode, .int .u64 bseq, .int .i64 boff, .int .i64 dest, .int .i64 prio, .int .i64 born, .int .i64 life, .int .i64 total, .string data, .bool true] wx) (by kernel_rfl) SM0 (fun hH => ?_)
    refine tkH 0 rfl (yieldsIf_pure _ (.pointer (some ⟨gj, 0, none⟩)) rfl (.inl rfl) rfl) hH ?_
    simp only [zz1, zz2, zz3, Act.put, zz4, zz5, zz6]
    refine tkH 1 rfl (yieldsIf_cell (.pointer (some ⟨gj, 0, none⟩)) rfl (fun w h => rfl)) hH ?_
    simp only [zz1, zz2, zz3, Act.put, zz4, zz5, zz6]
    refine tkH 2 rfl (yieldsIf_cell (.pointer (some ⟨gj, 0, none⟩)) rfl (fun w h => by go_simp)) hH ?_
    simp only [zz1, zz2, zz3, Act.put, zz4, zz5, zz6]
    refine tkH 3 rfl (yieldsIf_cell (.pointer (some ⟨gp, 0, none⟩)) rfl (fun w h => by have j0 : w.cell? ⟨gj, 0, none⟩ = some (.pointer (some ⟨gp, 0, none⟩)) := h.j.cell 0; go_simp)) hH ?_
    simp only [zz1, zz2, zz3, Act.put, zz4, zz5, zz6]
    refine tkH 4 rfl (yieldsIf_cell (.pointer (some ⟨gp, 0, none⟩)) rfl (fun w h => rfl)) hH ?_
    simp only [zz1, zz2, zz3, Act.put, zz4, zz5, zz6]
    refine tkH 5 rfl (yieldsIf_row gp 31 #[.int .i64 node, .int .u64 mine, .bool false, .int .u64 0, .int .u64 0, .int .u64 0, .int .u64 0, .slice none 0 0, .int .u64 0, .int .u64 0, .int .u64 0, .slice none 0 0, .slice none 0 0] 31 _ _ rfl rfl rfl (fun w h => h.p) Try.underlying31 rfl (by kernel_rfl)) hH ?_
    simp only [zz1, zz2, zz3, Act.put, zz4, zz5, zz6]
    refine tkH 6 rfl (yieldsIf_pure _ (.int .i64 2) rfl (.inl rfl) rfl) hH ?_
    simp only [zz1, zz2, zz3, Act.put, zz4, zz5, zz6]
    refine tkH 7 rfl (yieldsIf_pure _ (.pointer (some ⟨gj, 0, none⟩)) rfl (.inl rfl) rfl) hH ?_
    simp only [zz1, zz2, zz3, Act.put, zz4, zz5, zz6]
    refine tkH 8 rfl (yieldsIf_pure _ (.int .i64 2) rfl (.inl rfl) rfl) hH ?_
    simp only [zz1, zz2, zz3, Act.put, zz4, zz5, zz6]
    refine rdH [9] ?_
    refine c1H rfl fun KK hK => ?_
    go_simp
    refine (owed_2 gj gp node mine 0 false 0 0 0 0 0 none 0 0 0 0 0 none 0 0 none boot kind frm tto mine yours fa fb inode iseq ioff bnode bseq boff dest prio born life total data true _ hH.j hH.p NE.out).mono ?_
    rintro e wn ⟨rfl, rfl⟩
    refine hK.out _ _ hH (fun hH2 => ?_)
    clear hK KK hH
    refine rdH [10] ?_
    refine c1H rfl fun KK hK => ?_
    rw [if_pos (by rfl)]
    obtain ⟨CZ, hCZ, hCs⟩ := hH2.d
    refine wp_store_mid 31 _ _ rfl g2 0 #[.int .i64 node, .int .u64 mine, .bool false, .int .u64 0, .int .u64 0, .int .u64 0, .int .u64 0, .slice none 0 0, .int .u64 0, .int .u64 0, .int .u64 0, .slice none 0 0, .slice none 0 0] rfl rfl (Blk.there hCZ 0 _ (by rw [hCs]; exact Nat.le_refl 13)) (by kernel_rfl) (by kernel_rfl) ?_
    have SM1 := hH2.set #[.int .i64 node, .int .u64 mine, .bool false, .int .u64 0, .int .u64 0, .int .u64 0, .int .u64 0, .slice none 0 0, .int .u64 0, .int .u64 0, .int .u64 0, .slice none 0 0, .slice none 0 0] rfl NP.out NJ.out hw0.out
    have KF : Blk ((World.drew wv).setCells g2 0 (Array.toList #[.int .i64 node, .int .u64 mine, .bool false, .int .u64 0, .int .u64 0, .int .u64 0, .int .u64 0, .slice none 0 0, .int .u64 0, .int .u64 0, .int .u64 0, .slice none 0 0, .slice none 0 0])) g2 31 #[.int .i64 node, .int .u64 mine, .bool false, .int .u64 0, .int .u64 0, .int .u64 0, .int .u64 0, .slice none 0 0, .int .u64 0, .int .u64 0, .int .u64 0, .slice none 0 0, .slice none 0 0] := hCZ.setAll (by rw [hCs]; rfl)
    refine hK.out _ _ SM1 (fun hH3 => ?_)
    clear hK KK
    simp only [zz1, zz2, zz3, Act.put, zz4, zz5, zz6]
    refine tkH 11 rfl (yieldsIf_pure _ (.int .i64 2) rfl (.inr rfl) rfl) hH3 ?_
    simp only [zz1, zz2, zz3, Act.put, zz4, zz5, zz6]
    refine tkH 12 rfl (yieldsIf_pure _ (.bool true) rfl (.inr rfl) rfl) hH3 ?_
    simp only [zz1, zz2, zz3, Act.put, zz4, zz5, zz6]
    refine tkH 13 rfl (yieldsIf_pure _ (.int .i64 0) rfl (.inr rfl) rfl) hH3 ?_
    simp only [zz1, zz2, zz3, Act.put, zz4, zz5, zz6]
    refine wpAnyH_done (by kernel_rfl) ?_ _
    go_wp2_with fail
    refine bodyPost_ret (results_cell3 rfl _ _ g2 31 #[.int .i64 node, .int .u64 mine, .bool false, .int .u64 0, .int .u64 0, .int .u64 0, .int .u64 0, .slice none 0 0, .int .u64 0, .int .u64 0, .int .u64 0, .slice none 0 0, .slice none 0 0] (0, 0) _ rfl KF Try.underlying31 (by rfl) (by kernel_rfl)) rfl ?_
    exact ⟨rfl, hH3.hB⟩

set_option maxRecDepth 100000 in
set_option maxHeartbeats 4000000 in
theorem meet_lf (node th old : Int) (su : Bool) (g n r : Int) (SL : List Sl) (S cs : Nat) (As : Option Addr) (a b f : Int) (TL : List Rg) (T ct : Nat) (At : Option Addr) (KL : List Int) (K ck : Nat) (Ak : Option Addr) (kind frm tto mine yours fa fb inode iseq ioff bnode bseq boff dest prio born life total : Int) (data : ByteArray) (boot : Int) (w : World) (PC : ∀ w', Below w.heap.size w w' → Calls Try.prog 20 #[.agg #[.int .i64 node, .int .u64 th, .bool su, .int .u64 old, .int .u64 g, .int .u64 n, .int .u64 r, .slice As S cs, .int .u64 a, .int .u64 b, .int .u64 f, .slice At T ct, .slice Ak K ck]] w' (RetI .i64 0 w')) (FC : ∀ w, Calls Try.prog 53 #[.agg #[.int .i64 kind, .int .i64 frm, .int .i64 tto, .int .u64 mine, .int .u64 yours, .int .u64 fa, .int .u64 fb, .int .i64 inode, .int .u64 iseq, .int .i64 ioff, .int .i64 bnode, .int .u64 bseq, .int .i64 boff, .int .i64 dest, .int .i64 prio, .int .i64 born, .int .i64 life, .int .i64 total, .string data]] w (RetI .i64 0 w)) (CO : ∀ w', Below w.heap.size w w' → Calls Try.prog 54 #[.agg #[.int .i64 node, .int .u64 th, .bool su, .int .u64 old, .int .u64 g, .int .u64 n, .int .u64 r, .slice As S cs, .int .u64 a, .int .u64 b, .int .u64 f, .slice At T ct, .slice Ak K ck]] w' (fun e w'' => ∃ gp As' cs' At' ct' Ak' ck', e = .returned (.pointer (some ⟨gp, 0, none⟩)) ∧ Blk w'' gp 31 #[.int .i64 node, .int .u64 th, .bool su, .int .u64 old, .int .u64 g, .int .u64 n, .int .u64 r, .slice As' S cs', .int .u64 a, .int .u64 b, .int .u64 f, .slice At' T ct', .slice Ak' K ck'] ∧ w'.heap.size ≤ gp ∧ SlsB (gp + 1) w'' (.slice As' S cs') SL ∧ RgsB (gp + 1) w'' (.slice At' T ct') TL ∧ KpsB (gp + 1) w'' (.slice Ak' K ck') KL ∧ Below w'.heap.size w' w'')) (h1 : ¬ boot < 1) (h2 : ¬ boot > 1099511627776) (hk : frm = node) (hm : mine > th) (hy : yours = boot) :
    Calls Try.prog 18 #[.agg #[.int .i64 node, .int .u64 th, .bool su, .int .u64 old, .int .u64 g, .int .u64 n, .int .u64 r, .slice As S cs, .int .u64 a, .int .u64 b, .int .u64 f, .slice At T ct, .slice Ak K ck], .int .u64 boot, .agg #[.int .i64 kind, .int .i64 frm, .int .i64 tto, .int .u64 mine, .int .u64 yours, .int .u64 fa, .int .u64 fb, .int .i64 inode, .int .u64 iseq, .int .i64 ioff, .int .i64 bnode, .int .u64 bseq, .int .i64 boff, .int .i64 dest, .int .i64 prio, .int .i64 born, .int .i64 life, .int .i64 total, .string data]] w (fun e w' => e = .returned (.tuple #[.agg #[.int .i64 node, .int .u64 mine, .bool true, .int .u64 0, .int .u64 0, .int .u64 0, .int .u64 0, .slice none 0 0, .int .u64 0, .int .u64 0, .int .u64 0, .slice none 0 0, .slice none 0 0], .int .i64 3, .bool true, .int .i64 0]) ∧ Below w.heap.size w w') := by
  have HY := Lib.hid hy
  clear hy
  have PC' := Lib.hid PC
  have FC' := Lib.hid FC
  have CO' := Lib.hid CO
  have c1 : (frm != node) = false := by simpa using hk
  clear PC FC CO hk
  go_enter Try.func18, Try.ntmps18
  go_wp2_with fail
  have k0 := (Blk.new w 31 #[.int .i64 node, .int .u64 th, .bool su, .int .u64 old, .int .u64 g, .int .u64 n, .int .u64 r, .slice As S cs, .int .u64 a, .int .u64 b, .int .u64 f, .slice At T ct, .slice Ak K ck]).alloc (.cells #[.int .i64 kind, .int .i64 frm, .int .i64 tto, .int .u64 mine, .int .u64 yours, .int .u64 fa, .int .u64 fb, .int .i64 inode, .int .u64 iseq, .int .i64 ioff, .int .i64 bnode, .int .u64 bseq, .int .i64 boff, .int .i64 dest, .int .i64 prio, .int .i64 born, .int .i64 life, .int .i64 total, .string data] 51)
  have k0 := k0.alloc (.cells #[.int .i64 0, .int .u64 0, .bool false, .int .u64 0, .int .u64 0, .int .u64 0, .int .u64 0, .slice none 0 0, .int .u64 0, .int .u64 0, .int .u64 0, .slice none 0 0, .slice none 0 0] 31)
  have k1 := (Blk.new1 w (.cells #[.int .i64 node, .int .u64 th, .bool su, .int .u64 old, .int .u64 g, .int .u64 n, .int .u64 r, .slice As S cs, .int .u64 a, .int .u64 b, .int .u64 f, .slice At T ct, .slice Ak K ck] 31) 51 #[.int .i64 kind, .int .i64 frm, .int .i64 tto, .int .u64 mine, .int .u64 yours, .int .u64 fa, .int .u64 fb, .int .i64 inode, .int .u64 iseq, .int .i64 ioff, .int .i64 bnode, .int .u64 bseq, .int .i64 boff, .int .i64 dest, .int .i64 prio, .int .i64 born, .int .i64 life, .int .i64 total, .string data]).alloc (.cells #[.int .i64 0, .int .u64 0, .bool false, .int .u64 0, .int .u64 0, .int .u64 0, .int .u64 0, .slice none 0 0, .int .u64 0, .int .u64 0, .int .u64 0, .slice none 0 0, .slice none 0 0] 31)
  have k2 := Blk.new2 w (.cells #[.int .i64 node, .int .u64 th, .bool su, .int .u64 old, .int .u64 g, .int .u64 n, .int .u64 r, .slice As S cs, .int .u64 a, .int .u64 b, .int .u64 f, .slice At T ct, .slice Ak K ck] 31) (.cells #[.int .i64 kind, .int .i64 frm, .int .i64 tto, .int .u64 mine, .int .u64 yours, .int .u64 fa, .int .u64 fb, .int .i64 inode, .int .u64 iseq, .int .i64 ioff, .int .i64 bnode, .int .u64 bseq, .int .i64 boff, .int .i64 dest, .int .i64 prio, .int .i64 born, .int .i64 life, .int .i64 total, .string data] 51) 31 #[.int .i64 0, .int .u64 0, .bool false, .int .u64 0, .int .u64 0, .int .u64 0, .int .u64 0, .slice none 0 0, .int .u64 0, .int .u64 0, .int .u64 0, .slice none 0 0, .slice none 0 0]
  have hB := bal (bal (bal (Below.refl w.heap.size w) (.cells #[.int .i64 node, .int .u64 th, .bool su, .int .u64 old, .int .u64 g, .int .u64 n, .int .u64 r, .slice As S cs, .int .u64 a, .int .u64 b, .int .u64 f, .slice At T ct, .slice Ak K ck] 31)) (.cells #[.int .i64 kind, .int .i64 frm, .int .i64 tto, .int .u64 mine, .int .u64 yours, .int .u64 fa, .int .u64 fb, .int .i64 inode, .int .u64 iseq, .int .i64 ioff, .int .i64 bnode, .int .u64 bseq, .int .i64 boff, .int .i64 dest, .int .i64 prio, .int .i64 born, .int .i64 life, .int .i64 total, .string data] 51)) (.cells #[.int .i64 0, .int .u64 0, .bool false, .int .u64 0, .int .u64 0, .int .u64 0, .int .u64 0, .slice none 0 0, .int .u64 0, .int .u64 0, .int .u64 0, .slice none 0 0, .slice none 0 0] 31)
  have k3 : BK3 w w.heap.size 31 #[.int .i64 node, .int .u64 th, .bool su, .int .u64 old, .int .u64 g, .int .u64 n, .int .u64 r, .slice As S cs, .int .u64 a, .int .u64 b, .int .u64 f, .slice At T ct, .slice Ak K ck] (w.heap.size + 1) 51 #[.int .i64 kind, .int .i64 frm, .int .i64 tto, .int .u64 mine, .int .u64 yours, .int .u64 fa, .int .u64 fb, .int .i64 inode, .int .u64 iseq, .int .i64 ioff, .int .i64 bnode, .int .u64 bseq, .int .i64 boff, .int .i64 dest, .int .i64 prio, .int .i64 born, .int .i64 life, .int .i64 total, .string data] (w.heap.size + 1 + 1) 31 #[.int .i64 0, .int .u64 0, .bool false, .int .u64 0, .int .u64 0, .int .u64 0, .int .u64 0, .slice none 0 0, .int .u64 0, .int .u64 0, .int .u64 0, .slice none 0 0, .slice none 0 0] _ := ⟨k0, k1, k2, hB⟩
  clear k0 k1 k2
  have HG := Lib.hid (show w.heap.size ≤ w.heap.size + 1 + 1 by omega)
  have n02 : ¬ w.heap.size = w.heap.size + 1 + 1 := by omega
  have n12 : ¬ w.heap.size + 1 = w.heap.size + 1 + 1 := by omega
  refine (PC'.out _ hB).mono ?_
  rintro e w1 ⟨rfl, hb1⟩
  have kk := k3.below hb1
  clear k3 hb1 hB PC'
  obtain ⟨g2, hg2⟩ : ∃ g2, w.heap.size + 1 + 1 = g2 := ⟨_, rfl⟩
  obtain ⟨g1, hg1⟩ : ∃ g1, w.heap.size + 1 = g1 := ⟨_, rfl⟩
  rw [hg2] at kk HG n02 n12 ⊢
  rw [hg1] at kk n12 ⊢
  obtain ⟨g0, hg0⟩ : ∃ g0, w.heap.size = g0 := ⟨_, rfl⟩
  rw [hg0] at kk HG n02 ⊢
  have HG0 := Lib.hid hg0
  clear hg2 hg1 hg0
  have hl0 := kk.b.lt
  have hl1 := kk.c.lt
  have hl2 := kk.d.lt
  have kd := kk.d
  have kb := kk.b
  have kc := kk.c
  have K1 := Lib.hid kk
  clear kk
  clear kd kb
  go_wp2_with (refine wpList_load_row (by rfl) 51 _ (by rfl) g1 (by rfl) 51 #[.int .i64 kind, .int .i64 frm, .int .i64 tto, .int .u64 mine, .int .u64 yours, .int .u64 fa, .int .u64 fb, .int .i64 inode, .int .u64 iseq, .int .i64 ioff, .int .i64 bnode, .int .u64 bseq, .int .i64 boff, .int .i64 dest, .int .i64 prio, .int .i64 born, .int .i64 life, .int .i64 total, .string data] (0, 0) _ kc Try.underlying51 (by rfl) (by kernel_rfl) ?_)
  refine (FC'.out _).mono ?_
  rintro e w2 ⟨rfl, hb2⟩
  have kk := K1.out.below hb2
  clear K1 hb2 kc FC'
  have kd := kk.d
  have kb := kk.b
  have kc := kk.c
  have hl0 := kk.b.lt
  have hl1 := kk.c.lt
  have hl2 := kk.d.lt
  have K1 := Lib.hid kk
  clear kk
  have x0 : w2.cell? ⟨g0, 0, none⟩ = some (.int .i64 node) := kb.cell 0
  have y1 : w2.cell? ⟨g1, 1, none⟩ = some (.int .i64 frm) := kc.cell 1
  clear kd kb kc
  go_upto_region 10 with fail
  clear x0 y1 hl0 hl1 hl2
  have KQ := K1.out.drew
  have hbj : ∀ (gp : Nat) (wx : World), (Instr.build 101 #[(0, .pointer (some ⟨gp, 0, none⟩)), (1, .int .u64 boot), (2, .agg #[.int .i64 kind, .int .i64 frm, .int .i64 tto, .int .u64 mine, .int .u64 yours, .int .u64 fa, .int .u64 fb, .int .i64 inode, .int .u64 iseq, .int .i64 ioff, .int .i64 bnode, .int .u64 bseq, .int .i64 boff, .int .i64 dest, .int .i64 prio, .int .i64 born, .int .i64 life, .int .i64 total, .string data])]).run Try.prog wx = .ok (.agg #[.pointer (some ⟨gp, 0, none⟩), .int .u64 boot, .int .i64 kind, .int .i64 frm, .int .i64 tto, .int .u64 mine, .int .u64 yours, .int .u64 fa, .int .u64 fb, .int .i64 inode, .int .u64 iseq, .int .i64 ioff, .int .i64 bnode, .int .u64 bseq, .int .i64 boff, .int .i64 dest, .int .i64 prio, .int .i64 born, .int .i64 life, .int .i64 total, .string data, .bool false]) wx := fun gp wx => by kernel_rfl
  go_cut [10] (fun s wx => ∃ gj gp As' cs' At' ct' Ak' ck', s = .pointer (some ⟨gj, 0, none⟩) ∧ BK3 w g0 31 #[.int .i64 node, .int .u64 th, .bool su, .int .u64 old, .int .u64 g, .int .u64 n, .int .u64 r, .slice As S cs, .int .u64 a, .int .u64 b, .int .u64 f, .slice At T ct, .slice Ak K ck] g1 51 #[.int .i64 kind, .int .i64 frm, .int .i64 tto, .int .u64 mine, .int .u64 yours, .int .u64 fa, .int .u64 fb, .int .i64 inode, .int .u64 iseq, .int .i64 ioff, .int .i64 bnode, .int .u64 bseq, .int .i64 boff, .int .i64 dest, .int .i64 prio, .int .i64 born, .int .i64 life, .int .i64 total, .string data] g2 31 #[.int .i64 0, .int .u64 0, .bool false, .int .u64 0, .int .u64 0, .int .u64 0, .int .u64 0, .slice none 0 0, .int .u64 0, .int .u64 0, .int .u64 0, .slice none 0 0, .slice none 0 0] wx ∧ Blk wx gp 31 #[.int .i64 node, .int .u64 th, .bool su, .int .u64 old, .int .u64 g, .int .u64 n, .int .u64 r, .slice As' S cs', .int .u64 a, .int .u64 b, .int .u64 f, .slice At' T ct', .slice Ak' K ck'] ∧ Blk wx gj 101 #[.pointer (some ⟨gp, 0, none⟩), .int .u64 boot, .int .i64 kind, .int .i64 frm, .int .i64 tto, .int .u64 mine, .int .u64 yours, .int .u64 fa, .int .u64 fb, .int .i64 inode, .int .u64 iseq, .int .i64 ioff, .int .i64 bnode, .int .u64 bseq, .int .i64 boff, .int .i64 dest, .int .i64 prio, .int .i64 born, .int .i64 life, .int .i64 total, .string data, .bool false] ∧ g2 < gp ∧ gp < gj ∧ SlsB (gp + 1) wx (.slice As' S cs') SL ∧ RgsB (gp + 1) wx (.slice At' T ct') TL ∧ KpsB (gp + 1) wx (.slice Ak' K ck') KL)
  case first =>
    refine wp_region_held_drew (S := fun wx => BK3 w g0 31 #[.int .i64 node, .int .u64 th, .bool su, .int .u64 old, .int .u64 g, .int .u64 n, .int .u64 r, .slice As S cs, .int .u64 a, .int .u64 b, .int .u64 f, .slice At T ct, .slice Ak K ck] g1 51 #[.int .i64 kind, .int .i64 frm, .int .i64 tto, .int .u64 mine, .int .u64 yours, .int .u64 fa, .int .u64 fb, .int .i64 inode, .int .u64 iseq, .int .i64 ioff, .int .i64 bnode, .int .u64 bseq, .int .i64 boff, .int .i64 dest, .int .i64 prio, .int .i64 born, .int .i64 life, .int .i64 total, .string data] g2 31 #[.int .i64 0, .int .u64 0, .bool false, .int .u64 0, .int .u64 0, .int .u64 0, .int .u64 0, .slice none 0 0, .int .u64 0, .int .u64 0, .int .u64 0, .slice none 0 0, .slice none 0 0] wx) (by kernel_rfl) KQ (fun hH => ?_)
    refine tkH 0 rfl (yieldsIf_row g0 31 #[.int .i64 node, .int .u64 th, .bool su, .int .u64 old, .int .u64 g, .int .u64 n, .int .u64 r, .slice As S cs, .int .u64 a, .int .u64 b, .int .u64 f, .slice At T ct, .slice Ak K ck] 31 _ _ rfl rfl rfl (fun w h => h.b) Try.underlying31 rfl (by kernel_rfl)) hH ?_
    refine tkH 2 rfl (yieldsIf_pure _ (.int .u64 boot) rfl (.inl rfl) rfl) hH ?_
    refine tkH 3 rfl (yieldsIf_row g1 51 #[.int .i64 kind, .int .i64 frm, .int .i64 tto, .int .u64 mine, .int .u64 yours, .int .u64 fa, .int .u64 fb, .int .i64 inode, .int .u64 iseq, .int .i64 ioff, .int .i64 bnode, .int .u64 bseq, .int .i64 boff, .int .i64 dest, .int .i64 prio, .int .i64 born, .int .i64 life, .int .i64 total, .string data] 51 _ _ rfl rfl rfl (fun w h => h.c) Try.underlying51 rfl (by kernel_rfl)) hH ?_
    simp only [zz1, zz2, zz3, Act.put, zz4, zz5, zz6]
    refine rdH [1] ?_
    refine c1H rfl fun KK hK => ?_
    go_simp
    refine (CO'.out _ KQ.hB).mono ?_
    rintro e wn ⟨gp, As', cs', At', ct', Ak', ck', rfl, kp, hgp, Rs, Rt, Rk, hbn⟩
    have KN := KQ.below hbn
    refine hK.out _ _ KN (fun hH2 => ?_)
    clear hK KK hH
    refine tkH 4 rfl (yieldsIf_build _ _ #[(0, .pointer (some ⟨gp, 0, none⟩)), (1, .int .u64 boot), (2, .agg #[.int .i64 kind, .int .i64 frm, .int .i64 tto, .int .u64 mine, .int .u64 yours, .int .u64 fa, .int .u64 fb, .int .i64 inode, .int .u64 iseq, .int .i64 ioff, .int .i64 bnode, .int .u64 bseq, .int .i64 boff, .int .i64 dest, .int .i64 prio, .int .i64 born, .int .i64 life, .int .i64 total, .string data])] (.agg #[.pointer (some ⟨gp, 0, none⟩), .int .u64 boot, .int .i64 kind, .int .i64 frm, .int .i64 tto, .int .u64 mine, .int .u64 yours, .int .u64 fa, .int .u64 fb, .int .i64 inode, .int .u64 iseq, .int .i64 ioff, .int .i64 bnode, .int .u64 bseq, .int .i64 boff, .int .i64 dest, .int .i64 prio, .int .i64 born, .int .i64 life, .int .i64 total, .string data, .bool false]) rfl rfl (by kernel_rfl) (hbj gp)) hH2 ?_
    simp only [zz1, zz2, zz3, Act.put, zz4, zz5, zz6]
    refine rdH [5] ?_
    refine c1H rfl fun KK hK => ?_
    have hlt := hbn.size
    go_simp
    have hb3 : BK3 w g0 31 #[.int .i64 node, .int .u64 th, .bool su, .int .u64 old, .int .u64 g, .int .u64 n, .int .u64 r, .slice As S cs, .int .u64 a, .int .u64 b, .int .u64 f, .slice At T ct, .slice Ak K ck] g1 51 #[.int .i64 kind, .int .i64 frm, .int .i64 tto, .int .u64 mine, .int .u64 yours, .int .u64 fa, .int .u64 fb, .int .i64 inode, .int .u64 iseq, .int .i64 ioff, .int .i64 bnode, .int .u64 bseq, .int .i64 boff, .int .i64 dest, .int .i64 prio, .int .i64 born, .int .i64 life, .int .i64 total, .string data] g2 31 #[.int .i64 0, .int .u64 0, .bool false, .int .u64 0, .int .u64 0, .int .u64 0, .int .u64 0, .slice none 0 0, .int .u64 0, .int .u64 0, .int .u64 0, .slice none 0 0, .slice none 0 0] (wn.alloc (.cells #[.pointer (some ⟨gp, 0, none⟩), .int .u64 boot, .int .i64 kind, .int .i64 frm, .int .i64 tto, .int .u64 mine, .int .u64 yours, .int .u64 fa, .int .u64 fb, .int .i64 inode, .int .u64 iseq, .int .i64 ioff, .int .i64 bnode, .int .u64 bseq, .int .i64 boff, .int .i64 dest, .int .i64 prio, .int .i64 born, .int .i64 life, .int .i64 total, .string data, .bool false] 101)) := KN.below (bal (Below.refl _ _) _)
    refine hK.out _ _ hb3 (fun hH3 => ?_)
    clear hK KK hH2
    refine tkH 6 rfl (yieldsIf_pure _ (.pointer (some ⟨wn.heap.size, 0, none⟩)) rfl (.inr rfl) rfl) hH3 ?_
    simp only [zz1, zz2, zz3, Act.put, zz4, zz5, zz6]
    refine wpAnyH_done (by kernel_rfl) ?_ _
    go_wp2_with fail
    go_meet
    refine ⟨wn.heap.size, gp, As', cs', At', ct', Ak', ck', rfl, hb3, kp.alloc _, Blk.new wn 101 #[.pointer (some ⟨gp, 0, none⟩), .int .u64 boot, .int .i64 kind, .int .i64 frm, .int .i64 tto, .int .u64 mine, .int .u64 yours, .int .u64 fa, .int .u64 fb, .int .i64 inode, .int .u64 iseq, .int .i64 ioff, .int .i64 bnode, .int .u64 bseq, .int .i64 boff, .int .i64 dest, .int .i64 prio, .int .i64 born, .int .i64 life, .int .i64 total, .string data, .bool false], ?_, kp.lt, Rs.alloc _, Rt.alloc _, Rk.alloc _⟩
    have := KQ.d.lt
    omega
  case rest =>
    obtain ⟨gj, gp, As', cs', At', ct', Ak', ck', rfl, KN, KP, KJ, hg2p, hgpj, Rs, Rt, Rk⟩ := hcut
    clear hbj KQ K1
    have x1 : wc.cell? ⟨g0, 1, none⟩ = some (.int .u64 th) := KN.b.cell 1
    have y3 : wc.cell? ⟨g1, 3, none⟩ = some (.int .u64 mine) := KN.c.cell 3
    have hlj := KJ.lt
    have hlp := KP.lt
    have hne : gj ≠ gp := by omega
    have hnp : ¬ gp = g2 := by omega
    have hnj : ¬ gj = g2 := by omega
    have hw0 : Hid (w.heap.size ≤ g2) := Lib.hid (by have := HG.out; have := HG0.out; omega)
    obtain ⟨NE, NP, NJ⟩ := (⟨Lib.hid hne, Lib.hid hnp, Lib.hid hnj⟩ : Hid (gj ≠ gp) ∧ Hid (¬ gp = g2) ∧ Hid (¬ gj = g2))
    clear hne hnp hnj
    have hm2 : ¬ mine < th := by omega
    go_upto_region 13 with fail
    clear x1 y3
    go_wp2_with fail
    refine (learn_yes gj gp node th old su g n r S cs' As' a b f T ct' At' K ck' Ak' boot kind frm tto mine yours fa fb inode iseq ioff bnode bseq boff dest prio born life total data false wc KJ KP NE.out (by omega) (g2 + 1) (by omega) (by omega)).mono ?_
    rintro e wl ⟨rfl, KP1, KJ1, hbl⟩
    have KD1 : Blk wl g2 31 #[.int .i64 0, .int .u64 0, .bool false, .int .u64 0, .int .u64 0, .int .u64 0, .int .u64 0, .slice none 0 0, .int .u64 0, .int .u64 0, .int .u64 0, .slice none 0 0, .slice none 0 0] := (hbl.block g2 (by omega)).trans KN.d
    have hB1 : Below w.heap.size w wl := KN.hB.trans (hbl.mono (by have := hw0.out; omega))
    have hl1 : wc.heap.size ≤ wl.heap.size := hbl.size
    clear hbl KN KP KJ
    clear hlj hlp
    have hlj := KJ1.lt
    have hlp := KP1.lt
    go_wp2_with fail
    refine (verdict_fresh gj gp node mine 0 false 0 0 0 0 0 none 0 0 0 0 0 none 0 0 none boot kind frm tto mine yours fa fb inode iseq ioff bnode bseq boff dest prio born life total data true wl KJ1 KP1 NE.out HY.out (g2 + 1) (by omega) (by omega)).mono ?_
    rintro e wv ⟨rfl, KP2, KJ2, hbl, hrow⟩
    have KD2 : Blk wv g2 31 #[.int .i64 0, .int .u64 0, .bool false, .int .u64 0, .int .u64 0, .int .u64 0, .int .u64 0, .slice none 0 0, .int .u64 0, .int .u64 0, .int .u64 0, .slice none 0 0, .slice none 0 0] := (hbl.block g2 (by omega)).trans KD1
    have hB2 : Below w.heap.size w wv := hB1.trans (hbl.mono (by have := hw0.out; omega))
    clear hbl KD1 KP1 KJ1
    clear hrow
    clear Rs Rt Rk
    clear hlj hlp
    have hlj := KJ2.lt
    have hlp := KP2.lt
    have SM0 : SMet w gp gj g2 #[.int .i64 node, .int .u64 mine, .bool true, .int .u64 0, .int .u64 0, .int .u64 0, .int .u64 0, .slice none 0 0, .int .u64 0, .int .u64 0, .int .u64 0, .slice none 0 0, .slice none 0 0] #[.pointer (some ⟨gp, 0, none⟩), .int .u64 boot, .int .i64 kind, .int .i64 frm, .int .i64 tto, .int .u64 mine, .int .u64 yours, .int .u64 fa, .int .u64 fb, .int .i64 inode, .int .u64 iseq, .int .i64 ioff, .int .i64 bnode, .int .u64 bseq, .int .i64 boff, .int .i64 dest, .int .i64 prio, .int .i64 born, .int .i64 life, .int .i64 total, .string data, .bool true] wv.drew := SMet.drew ⟨KP2, KJ2, ⟨_, KD2, rfl⟩, hB2⟩
    clear KP2 KJ2 KD2 hB2
    go_upto_region 14 with fail
    refine wp_region_held_drew (S := fun wx => SMet w gp gj g2 #[.int .i64 node, .int .u64 mine, .bool true, .int .u64 0, .int .u64 0, .int .u64 0, .int .u64 0, .slice none 0 0, .int .u64 0, .int .u64 0, .int .u64 0, .slice none 0 0, .slice none 0 0] #[.pointer (some ⟨gp, 0, none⟩), .int .u64 boot, .int .i64 kind, .int .i64 frm, .int .i64 tto, .int .u64 mine, .int .u64 yours, .int .u64 fa, .int .u64 fb, .int .i64 inode, .int .u64 iseq, .int .i64 ioff, .int .i64 bnode, .int .u64 bseq, .int .i64 boff, .int .i64 dest, .int .i64 prio, .int .i64 born, .int .i64 life, .int .i64 total, .string data, .bool true] wx) (by kernel_rfl) SM0 (fun hH => ?_)
    refine tkH 0 rfl (yieldsIf_pure _ (.pointer (some ⟨gj, 0, none⟩)) rfl (.inl rfl) rfl) hH ?_
    simp only [zz1, zz2, zz3, Act.put, zz4, zz5, zz6]
    refine tkH 1 rfl (yieldsIf_cell (.pointer (some ⟨gj, 0, none⟩)) rfl (fun w h => rfl)) hH ?_
    simp only [zz1, zz2, zz3, Act.put, zz4, zz5, zz6]
    refine tkH 2 rfl (yieldsIf_cell (.pointer (some ⟨gj, 0, none⟩)) rfl (fun w h => by go_simp)) hH ?_
    simp only [zz1, zz2, zz3, Act.put, zz4, zz5, zz6]
    refine tkH 3 rfl (yieldsIf_cell (.pointer (some ⟨gp, 0, none⟩)) rfl (fun w h => by have j0 : w.cell? ⟨gj, 0, none⟩ = some (.pointer (some ⟨gp, 0, none⟩)) := h.j.cell 0; go_simp)) hH ?_
    simp only [zz1, zz2, zz3, Act.put, zz4, zz5, zz6]
    refine tkH 4 rfl (yieldsIf_cell (.pointer (some ⟨gp, 0, none⟩)) rfl (fun w h => rfl)) hH ?_
    simp only [zz1, zz2, zz3, Act.put, zz4, zz5, zz6]
    refine tkH 5 rfl (yieldsIf_row gp 31 #[.int .i64 node, .int .u64 mine, .bool true, .int .u64 0, .int .u64 0, .int .u64 0, .int .u64 0, .slice none 0 0, .int .u64 0, .int .u64 0, .int .u64 0, .slice none 0 0, .slice none 0 0] 31 _ _ rfl rfl rfl (fun w h => h.p) Try.underlying31 rfl (by kernel_rfl)) hH ?_
    simp only [zz1, zz2, zz3, Act.put, zz4, zz5, zz6]
    refine tkH 6 rfl (yieldsIf_pure _ (.int .i64 3) rfl (.inl rfl) rfl) hH ?_
    simp only [zz1, zz2, zz3, Act.put, zz4, zz5, zz6]
    refine tkH 7 rfl (yieldsIf_pure _ (.pointer (some ⟨gj, 0, none⟩)) rfl (.inl rfl) rfl) hH ?_
    simp only [zz1, zz2, zz3, Act.put, zz4, zz5, zz6]
    refine tkH 8 rfl (yieldsIf_pure _ (.int .i64 3) rfl (.inl rfl) rfl) hH ?_
    simp only [zz1, zz2, zz3, Act.put, zz4, zz5, zz6]
    refine rdH [9] ?_
    refine c1H rfl fun KK hK => ?_
    go_simp
    refine (owed_3 gj gp node mine 0 true 0 0 0 0 0 none 0 0 0 0 0 none 0 0 none boot kind frm tto mine yours fa fb inode iseq ioff bnode bseq boff dest prio born life total data true _ hH.j hH.p NE.out).mono ?_
    rintro e wn ⟨rfl, rfl⟩
    refine hK.out _ _ hH (fun hH2 => ?_)
    clear hK KK hH
    refine rdH [10] ?_
    refine c1H rfl fun KK hK => ?_
    rw [if_pos (by rfl)]
    obtain ⟨CZ, hCZ, hCs⟩ := hH2.d
    refine wp_store_mid 31 _ _ rfl g2 0 #[.int .i64 node, .int .u64 mine, .bool true, .int .u64 0, .int .u64 0, .int .u64 0, .int .u64 0, .slice none 0 0, .int .u64 0, .int .u64 0, .int .u64 0, .slice none 0 0, .slice none 0 0] rfl rfl (Blk.there hCZ 0 _ (by rw [hCs]; exact Nat.le_refl 13)) (by kernel_rfl) (by kernel_rfl) ?_
    have SM1 := hH2.set #[.int .i64 node, .int .u64 mine, .bool true, .int .u64 0, .int .u64 0, .int .u64 0, .int .u64 0, .slice none 0 0, .int .u64 0, .int .u64 0, .int .u64 0, .slice none 0 0, .slice none 0 0] rfl NP.out NJ.out hw0.out
    have KF : Blk ((World.drew wv).setCells g2 0 (Array.toList #[.int .i64 node, .int .u64 mine, .bool true, .int .u64 0, .int .u64 0, .int .u64 0, .int .u64 0, .slice none 0 0, .int .u64 0, .int .u64 0, .int .u64 0, .slice none 0 0, .slice none 0 0])) g2 31 #[.int .i64 node, .int .u64 mine, .bool true, .int .u64 0, .int .u64 0, .int .u64 0, .int .u64 0, .slice none 0 0, .int .u64 0, .int .u64 0, .int .u64 0, .slice none 0 0, .slice none 0 0] := hCZ.setAll (by rw [hCs]; rfl)
    refine hK.out _ _ SM1 (fun hH3 => ?_)
    clear hK KK
    simp only [zz1, zz2, zz3, Act.put, zz4, zz5, zz6]
    refine tkH 11 rfl (yieldsIf_pure _ (.int .i64 3) rfl (.inr rfl) rfl) hH3 ?_
    simp only [zz1, zz2, zz3, Act.put, zz4, zz5, zz6]
    refine tkH 12 rfl (yieldsIf_pure _ (.bool true) rfl (.inr rfl) rfl) hH3 ?_
    simp only [zz1, zz2, zz3, Act.put, zz4, zz5, zz6]
    refine tkH 13 rfl (yieldsIf_pure _ (.int .i64 0) rfl (.inr rfl) rfl) hH3 ?_
    simp only [zz1, zz2, zz3, Act.put, zz4, zz5, zz6]
    refine wpAnyH_done (by kernel_rfl) ?_ _
    go_wp2_with fail
    refine bodyPost_ret (results_cell3 rfl _ _ g2 31 #[.int .i64 node, .int .u64 mine, .bool true, .int .u64 0, .int .u64 0, .int .u64 0, .int .u64 0, .slice none 0 0, .int .u64 0, .int .u64 0, .int .u64 0, .slice none 0 0, .slice none 0 0] (0, 0) _ rfl KF Try.underlying31 (by rfl) (by kernel_rfl)) rfl ?_
    exact ⟨rfl, hH3.hB⟩

end Go.Proofs.Ytfgkkflbpfocjaa

