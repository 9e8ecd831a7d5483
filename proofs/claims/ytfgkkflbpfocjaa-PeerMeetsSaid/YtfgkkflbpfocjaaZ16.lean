/- A frame met (the reference), whole. Peers copied, and compared with themselves. The same peer in two places is the same. The law PeerMeets. -/
import Derived.Test.YtfgkkflbpfocjaaZ15
import Derived.Test.YtfgkkflbpfocjaaZ12
import Derived.Test.YtfgkkflbpfocjaaZ13
import Derived.Test.YtfgkkflbpfocjaaZ7
namespace Go.Proofs.Ytfgkkflbpfocjaa
open Go.RowKit
set_option linter.unusedVariables false
set_option linter.unusedSimpArgs false

theorem rMeet_any (p : Pr) (hw : WfP p) (boot : Int) (f : Fr) (V : Value) (w : World) (hV : PrAt w V p) :
    Calls Try.prog 19 #[V, .int .u64 boot, f.val] w (RetMet (mtV p boot f) (metE p boot f) w) := by
  have CK := fun w' (hb : Below w.heap.size w w') => rpCheck_any p hw V w' (hV.below hb)
  have BC := fun w => boots_any boot w
  have FC := fun w => rfrCheck_any f w
  obtain ⟨vs, vt, vk, rfl, hs, ht, hk⟩ := hV
  obtain ⟨As, cs, rfl⟩ := hs.form
  obtain ⟨At, ct, rfl⟩ := ht.form
  obtain ⟨Ak, ck, rfl⟩ := hk.form
  have hz : metE p boot f ≠ 0 → mtV p boot f = (zPr, 0, false) := fun h => if_neg h
  have hm : metE p boot f = if chkP p ≠ 0 then chkP p else if ¬ bootOk boot then 2 else if frE f ≠ 0 then frE f else if f.frm ≠ p.node then 7 else 0 := rfl
  unfold Fr.val at FC ⊢
  by_cases c1 : chkP p = 0
  · rw [if_neg (by omega)] at hm
    rw [c1] at CK
    by_cases b1 : bootOk boot
    · rw [if_neg (by simp [b1])] at hm
      simp only [b1, if_true] at BC
      by_cases c2 : frE f = 0
      · rw [if_neg (by omega)] at hm
        rw [c2] at FC
        by_cases c3 : f.frm = p.node
        · rw [if_neg (by omega)] at hm
          have hv : mtV p boot f = met p boot f := if_pos hm
          rw [hv, hm]
          obtain ⟨l1, l2, l3⟩ := chkP_len c1
          have CO : ∀ w', Below w.heap.size w w' → Calls Try.prog 59 #[.agg #[.int .i64 p.node, .int .u64 p.theirs, .bool p.sure, .int .u64 p.old, .int .u64 p.s.g, .int .u64 p.s.n, .int .u64 p.s.r, .slice As p.s.sl.length cs, .int .u64 p.r.g, .int .u64 p.r.r, .int .u64 p.r.fl, .slice At p.r.tk.length ct, .slice Ak p.r.kp.length ck]] w' (fun e w'' => ∃ As' cs' At' ct' Ak' ck', e = .returned (.agg #[.int .i64 p.node, .int .u64 p.theirs, .bool p.sure, .int .u64 p.old, .int .u64 p.s.g, .int .u64 p.s.n, .int .u64 p.s.r, .slice As' p.s.sl.length cs', .int .u64 p.r.g, .int .u64 p.r.r, .int .u64 p.r.fl, .slice At' p.r.tk.length ct', .slice Ak' p.r.kp.length ck']) ∧ (SlsB w'.heap.size w'' (.slice As' p.s.sl.length cs') p.s.sl ∧ RgsB w'.heap.size w'' (.slice At' p.r.tk.length ct') p.r.tk ∧ KpsB w'.heap.size w'' (.slice Ak' p.r.kp.length ck') p.r.kp) ∧ Below w'.heap.size w' w'') := fun w' hb => by
            refine (rown20_any p.node p.theirs p.old p.sure p.s.g p.s.n p.s.r p.s.sl p.r.g p.r.r p.r.fl p.r.tk p.r.kp _ _ _ w' (hs.below hb) (ht.below hb) (hk.below hb) l1 l2 l3).mono ?_
            rintro e w'' ⟨ws, wt, wk, rfl, r1, r2, r3, hb'⟩
            obtain ⟨As', cs', rfl⟩ := SlsAt.form (w := w'') r1.at
            obtain ⟨At', ct', rfl⟩ := RgsAt.form (w := w'') r2.at
            obtain ⟨Ak', ck', rfl⟩ := KpsAt.form (w := w'') r3.at
            exact ⟨As', cs', At', ct', Ak', ck', rfl, ⟨r1.low (by omega), r2.low (by omega), r3.low (by omega)⟩, hb'⟩
          by_cases m1 : f.mine < p.theirs
          · refine (rm_stale p.node p.theirs p.old p.sure p.s.g p.s.n p.s.r p.s.sl p.s.sl.length cs As p.r.g p.r.r p.r.fl p.r.tk p.r.tk.length ct At p.r.kp p.r.kp.length ck Ak f.kind f.frm f.to f.mine f.yours f.a f.b f.inode f.iseq f.ioff f.bn.node f.bn.seq f.bn.off f.bn.dest f.bn.prio f.bn.born f.bn.life f.bn.total f.bn.data boot w CK BC FC CO (nek_f c3) m1).mono ?_
            rintro e w' ⟨As', cs', At', ct', Ak', ck', rfl, ⟨h1, h2, h3⟩, hb⟩
            unfold met
            rw [if_pos m1]
            exact ⟨_, rfl, ⟨_, _, _, _, _, _, rfl, h1, h2, h3⟩, hb⟩
          · by_cases m2 : f.mine > p.theirs
            · by_cases y : f.yours = boot
              · refine (rm_lf p.node p.theirs p.old p.sure p.s.g p.s.n p.s.r p.s.sl p.s.sl.length cs As p.r.g p.r.r p.r.fl p.r.tk p.r.tk.length ct At p.r.kp p.r.kp.length ck Ak f.kind f.frm f.to f.mine f.yours f.a f.b f.inode f.iseq f.ioff f.bn.node f.bn.seq f.bn.off f.bn.dest f.bn.prio f.bn.born f.bn.life f.bn.total f.bn.data boot w CK BC FC CO (nek_f c3) m1 m2 (nek_f y)).mono ?_
                rintro e w' ⟨rfl, hb⟩
                unfold met lrn
                rw [if_neg m1, if_neg (by omega), if_pos m2]
                refine ⟨_, ?_, zPr_at' _ w' p.node f.mine true 0, hb⟩
                show _ = Ending.returned (.tuple #[_, _, .bool (decide (p.theirs < f.mine)), _])
                rw [decide_eq_true m2]
              · refine (rm_lu p.node p.theirs p.old p.sure p.s.g p.s.n p.s.r p.s.sl p.s.sl.length cs As p.r.g p.r.r p.r.fl p.r.tk p.r.tk.length ct At p.r.kp p.r.kp.length ck Ak f.kind f.frm f.to f.mine f.yours f.a f.b f.inode f.iseq f.ioff f.bn.node f.bn.seq f.bn.off f.bn.dest f.bn.prio f.bn.born f.bn.life f.bn.total f.bn.data boot w CK BC FC CO (nek_f c3) m1 m2 (nek_t y)).mono ?_
                rintro e w' ⟨rfl, hb⟩
                unfold met lrn
                rw [if_neg m1, if_pos y, if_pos m2]
                exact ⟨_, rfl, zPr_at' _ w' p.node f.mine false 0, hb⟩
            · by_cases y : f.yours = boot
              · refine (rm_nf p.node p.theirs p.old p.sure p.s.g p.s.n p.s.r p.s.sl p.s.sl.length cs As p.r.g p.r.r p.r.fl p.r.tk p.r.tk.length ct At p.r.kp p.r.kp.length ck Ak f.kind f.frm f.to f.mine f.yours f.a f.b f.inode f.iseq f.ioff f.bn.node f.bn.seq f.bn.off f.bn.dest f.bn.prio f.bn.born f.bn.life f.bn.total f.bn.data boot w CK BC FC CO (nek_f c3) m1 m2 (decide_eq_false m2) (nek_f y)).mono ?_
                rintro e w' ⟨As', cs', At', ct', Ak', ck', rfl, ⟨h1, h2, h3⟩, hb⟩
                unfold met lrn
                rw [if_neg m1, if_neg (by omega), if_neg m2]
                refine ⟨_, ?_, ⟨_, _, _, _, _, _, rfl, h1, h2, h3⟩, hb⟩
                show _ = Ending.returned (.tuple #[_, _, .bool (decide (p.theirs < f.mine)), _])
                rw [decide_eq_false m2]
              · refine (rm_nu p.node p.theirs p.old p.sure p.s.g p.s.n p.s.r p.s.sl p.s.sl.length cs As p.r.g p.r.r p.r.fl p.r.tk p.r.tk.length ct At p.r.kp p.r.kp.length ck Ak f.kind f.frm f.to f.mine f.yours f.a f.b f.inode f.iseq f.ioff f.bn.node f.bn.seq f.bn.off f.bn.dest f.bn.prio f.bn.born f.bn.life f.bn.total f.bn.data boot w CK BC FC CO (nek_f c3) m1 m2 (decide_eq_false m2) (nek_t y)).mono ?_
                rintro e w' ⟨As', cs', At', ct', Ak', ck', rfl, ⟨h1, h2, h3⟩, hb⟩
                unfold met lrn
                rw [if_neg m1, if_pos y, if_neg m2]
                exact ⟨_, rfl, ⟨_, _, _, _, _, _, rfl, h1, h2, h3⟩, hb⟩
        · rw [if_pos c3] at hm
          rw [hz (by omega), hm]
          refine (rm_k p.node p.theirs p.old p.sure p.s.g p.s.n p.s.r p.s.sl p.s.sl.length cs As p.r.g p.r.r p.r.fl p.r.tk p.r.tk.length ct At p.r.kp p.r.kp.length ck Ak f.kind f.frm f.to f.mine f.yours f.a f.b f.inode f.iseq f.ioff f.bn.node f.bn.seq f.bn.off f.bn.dest f.bn.prio f.bn.born f.bn.life f.bn.total f.bn.data boot w CK BC FC (nek_t c3)).mono ?_
          rintro e w' ⟨rfl, hb⟩
          exact ⟨_, rfl, zPr_at _ w', hb⟩
      · rw [if_pos c2] at hm
        rw [hz (by omega), hm]
        refine (rm_f p.node p.theirs p.old p.sure p.s.g p.s.n p.s.r p.s.sl p.s.sl.length cs As p.r.g p.r.r p.r.fl p.r.tk p.r.tk.length ct At p.r.kp p.r.kp.length ck Ak f.kind f.frm f.to f.mine f.yours f.a f.b f.inode f.iseq f.ioff f.bn.node f.bn.seq f.bn.off f.bn.dest f.bn.prio f.bn.born f.bn.life f.bn.total f.bn.data boot w (frE f) CK BC FC c2).mono ?_
        rintro e w' ⟨rfl, hb⟩
        exact ⟨_, rfl, zPr_at _ w', hb⟩
    · rw [if_pos b1] at hm
      simp only [b1, if_false] at BC
      rw [hz (by omega), hm]
      refine (rm_b p.node p.theirs p.old p.sure p.s.g p.s.n p.s.r p.s.sl p.s.sl.length cs As p.r.g p.r.r p.r.fl p.r.tk p.r.tk.length ct At p.r.kp p.r.kp.length ck Ak f.kind f.frm f.to f.mine f.yours f.a f.b f.inode f.iseq f.ioff f.bn.node f.bn.seq f.bn.off f.bn.dest f.bn.prio f.bn.born f.bn.life f.bn.total f.bn.data boot w CK BC).mono ?_
      rintro e w' ⟨rfl, hb⟩
      exact ⟨_, rfl, zPr_at _ w', hb⟩
  · rw [if_pos c1] at hm
    rw [hz (by omega), hm]
    refine (rm_p p.node p.theirs p.old p.sure p.s.g p.s.n p.s.r p.s.sl p.s.sl.length cs As p.r.g p.r.r p.r.fl p.r.tk p.r.tk.length ct At p.r.kp p.r.kp.length ck Ak f.kind f.frm f.to f.mine f.yours f.a f.b f.inode f.iseq f.ioff f.bn.node f.bn.seq f.bn.off f.bn.dest f.bn.prio f.bn.born f.bn.life f.bn.total f.bn.data boot w (chkP p) CK c1).mono ?_
    rintro e w' ⟨rfl, hb⟩
    exact ⟨_, rfl, zPr_at _ w', hb⟩
end Go.Proofs.Ytfgkkflbpfocjaa

namespace Go.Proofs.Ytfgkkflbpfocjaa
open Go.RowKit
set_option linter.unusedVariables false
set_option linter.unusedSimpArgs false

set_option maxRecDepth 100000 in
set_option maxHeartbeats 4000000 in
theorem ownp_raw (node th old : Int) (su : Bool) (g n r : Int) (SL : List Sl) (S cs : Nat) (As : Option Addr) (a b f : Int) (TL : List Rg) (T ct : Nat) (At : Option Addr) (KL : List Int) (K ck : Nat) (Ak : Option Addr) (w : World)
    (OS : ∀ w', Below w.heap.size w w' → Calls Try.prog 51 #[.agg #[.int .u64 g, .int .u64 n, .int .u64 r, .slice As S cs]] w' (fun e w'' => ∃ As' cs', e = .returned (.agg #[.int .u64 g, .int .u64 n, .int .u64 r, .slice As' S cs']) ∧ SlsB w'.heap.size w'' (.slice As' S cs') SL ∧ Below w'.heap.size w' w''))
    (OR : ∀ w', Below w.heap.size w w' → Calls Try.prog 52 #[.agg #[.int .u64 a, .int .u64 b, .int .u64 f, .slice At T ct, .slice Ak K ck]] w' (fun e w'' => ∃ At' ct' Ak' ck', e = .returned (.agg #[.int .u64 a, .int .u64 b, .int .u64 f, .slice At' T ct', .slice Ak' K ck']) ∧ RgsB w'.heap.size w'' (.slice At' T ct') TL ∧ KpsB w'.heap.size w'' (.slice Ak' K ck') KL ∧ Below w'.heap.size w' w'')) :
    Calls Try.prog 17 #[.agg #[.int .i64 node, .int .u64 th, .bool su, .int .u64 old, .int .u64 g, .int .u64 n, .int .u64 r, .slice As S cs, .int .u64 a, .int .u64 b, .int .u64 f, .slice At T ct, .slice Ak K ck]] w (fun e w' => ∃ As' cs' At' ct' Ak' ck', e = .returned (.agg #[.int .i64 node, .int .u64 th, .bool su, .int .u64 old, .int .u64 g, .int .u64 n, .int .u64 r, .slice As' S cs', .int .u64 a, .int .u64 b, .int .u64 f, .slice At' T ct', .slice Ak' K ck']) ∧ SlsB w.heap.size w' (.slice As' S cs') SL ∧ RgsB w.heap.size w' (.slice At' T ct') TL ∧ KpsB w.heap.size w' (.slice Ak' K ck') KL ∧ Below w.heap.size w w') := by
  have OS' := Lib.hid OS
  clear OS
  have OR' := Lib.hid OR
  clear OR
  go_enter Try.func17, Try.ntmps17
  go_upto_region 1 with fail
  have k0 := (Blk.new w 31 #[.int .i64 node, .int .u64 th, .bool su, .int .u64 old, .int .u64 g, .int .u64 n, .int .u64 r, .slice As S cs, .int .u64 a, .int .u64 b, .int .u64 f, .slice At T ct, .slice Ak K ck]).alloc (.cells #[.int .i64 0, .int .u64 0, .bool false, .int .u64 0, .int .u64 0, .int .u64 0, .int .u64 0, .slice none 0 0, .int .u64 0, .int .u64 0, .int .u64 0, .slice none 0 0, .slice none 0 0] 31)
  have k1 := Blk.new1 w (.cells #[.int .i64 node, .int .u64 th, .bool su, .int .u64 old, .int .u64 g, .int .u64 n, .int .u64 r, .slice As S cs, .int .u64 a, .int .u64 b, .int .u64 f, .slice At T ct, .slice Ak K ck] 31) 31 #[.int .i64 0, .int .u64 0, .bool false, .int .u64 0, .int .u64 0, .int .u64 0, .int .u64 0, .slice none 0 0, .int .u64 0, .int .u64 0, .int .u64 0, .slice none 0 0, .slice none 0 0]
  have hB := bal (bal (Below.refl w.heap.size w) (.cells #[.int .i64 node, .int .u64 th, .bool su, .int .u64 old, .int .u64 g, .int .u64 n, .int .u64 r, .slice As S cs, .int .u64 a, .int .u64 b, .int .u64 f, .slice At T ct, .slice Ak K ck] 31)) (.cells #[.int .i64 0, .int .u64 0, .bool false, .int .u64 0, .int .u64 0, .int .u64 0, .int .u64 0, .slice none 0 0, .int .u64 0, .int .u64 0, .int .u64 0, .slice none 0 0, .slice none 0 0] 31)
  have HW : w.heap.size + 1 + 1 ≤ ((w.alloc (.cells #[.int .i64 node, .int .u64 th, .bool su, .int .u64 old, .int .u64 g, .int .u64 n, .int .u64 r, .slice As S cs, .int .u64 a, .int .u64 b, .int .u64 f, .slice At T ct, .slice Ak K ck] 31)).alloc (.cells #[.int .i64 0, .int .u64 0, .bool false, .int .u64 0, .int .u64 0, .int .u64 0, .int .u64 0, .slice none 0 0, .int .u64 0, .int .u64 0, .int .u64 0, .slice none 0 0, .slice none 0 0] 31)).heap.size := by simp
  generalize (w.alloc (.cells #[.int .i64 node, .int .u64 th, .bool su, .int .u64 old, .int .u64 g, .int .u64 n, .int .u64 r, .slice As S cs, .int .u64 a, .int .u64 b, .int .u64 f, .slice At T ct, .slice Ak K ck] 31)).alloc (.cells #[.int .i64 0, .int .u64 0, .bool false, .int .u64 0, .int .u64 0, .int .u64 0, .int .u64 0, .slice none 0 0, .int .u64 0, .int .u64 0, .int .u64 0, .slice none 0 0, .slice none 0 0] 31) = W at k0 k1 hB HW ⊢
  obtain ⟨g1, hg1⟩ : ∃ g1, w.heap.size + 1 = g1 := ⟨_, rfl⟩
  have HG1 : Hid (w.heap.size ≤ g1) := Lib.hid (by omega)
  rw [hg1] at k1 HW ⊢
  obtain ⟨g0, hg0⟩ : ∃ g0, w.heap.size = g0 := ⟨_, rfl⟩
  have HG0 : Hid (w.heap.size ≤ g0) := Lib.hid (by omega)
  have NE : Hid (¬ g1 = g0 ∧ g0 < g1 + 1) := Lib.hid (by omega)
  rw [hg0] at k0 ⊢
  clear hg0 hg1
  obtain ⟨x0, x1, x2, x3, x4, x5, x6, x7, x8, x9, x10, x11, x12⟩ := k0.c13
  go_wp2_with fail
  refine (OS'.out _ hB).mono ?_
  rintro e U ⟨As', cs', rfl, hr, hbu⟩
  have hr := RowB.low hr HW
  replace k0 := k0.below hbu
  replace k1 := k1.below hbu
  have hBu := bnext hB hbu
  have hHW := Nat.le_trans HW hbu.size
  clear hbu hB x0 x1 x2 x3 x4 x5 x6 x7 x8 x9 x10 x11 x12 HW
  obtain ⟨x0, x1, x2, x3, x4, x5, x6, x7, x8, x9, x10, x11, x12⟩ := k0.c13
  obtain ⟨f0, f1, f2, f3, f4, f5, f6, f7, f8, f9, f10, f11, f12⟩ := k0.f13
  have hl0 := k0.lt
  go_upto_region 2 with fail
  replace k0 : Blk ((((U.setCell ⟨g0, 4, none⟩ (.int .u64 g)).setCell ⟨g0, 5, none⟩ (.int .u64 n)).setCell ⟨g0, 6, none⟩ (.int .u64 r)).setCell ⟨g0, 7, none⟩ (.slice As' S cs')) g0 31 #[.int .i64 node, .int .u64 th, .bool su, .int .u64 old, .int .u64 g, .int .u64 n, .int .u64 r, .slice As' S cs', .int .u64 a, .int .u64 b, .int .u64 f, .slice At T ct, .slice Ak K ck] := (((k0.set 4 (.int .u64 g)).set 5 (.int .u64 n)).set 6 (.int .u64 r)).set 7 (.slice As' S cs')
  replace k1 := (((k1.far (p := ⟨g0, 4, none⟩) NE.out.1 (.int .u64 g)).far (p := ⟨g0, 5, none⟩) NE.out.1 (.int .u64 n)).far (p := ⟨g0, 6, none⟩) NE.out.1 (.int .u64 r)).far (p := ⟨g0, 7, none⟩) NE.out.1 (.slice As' S cs')
  have hB := (((hBu.setCell (p := ⟨g0, 4, none⟩) HG0.out (.int .u64 g)).setCell (p := ⟨g0, 5, none⟩) HG0.out (.int .u64 n)).setCell (p := ⟨g0, 6, none⟩) HG0.out (.int .u64 r)).setCell (p := ⟨g0, 7, none⟩) HG0.out (.slice As' S cs')
  replace hr := (((hr.set (p := ⟨g0, 4, none⟩) NE.out.2 (.int .u64 g)).set (p := ⟨g0, 5, none⟩) NE.out.2 (.int .u64 n)).set (p := ⟨g0, 6, none⟩) NE.out.2 (.int .u64 r)).set (p := ⟨g0, 7, none⟩) NE.out.2 (.slice As' S cs')
  have hz : g1 + 1 ≤ ((((U.setCell ⟨g0, 4, none⟩ (.int .u64 g)).setCell ⟨g0, 5, none⟩ (.int .u64 n)).setCell ⟨g0, 6, none⟩ (.int .u64 r)).setCell ⟨g0, 7, none⟩ (.slice As' S cs')).heap.size := by simp only [World.size_setCell]; exact hHW
  clear x0 x1 x2 x3 x4 x5 x6 x7 x8 x9 x10 x11 x12 f0 f1 f2 f3 f4 f5 f6 f7 f8 f9 f10 f11 f12 hl0 hBu hHW
  generalize (((U.setCell ⟨g0, 4, none⟩ (.int .u64 g)).setCell ⟨g0, 5, none⟩ (.int .u64 n)).setCell ⟨g0, 6, none⟩ (.int .u64 r)).setCell ⟨g0, 7, none⟩ (.slice As' S cs') = W2 at k0 k1 hB hr hz ⊢
  obtain ⟨x0, x1, x2, x3, x4, x5, x6, x7, x8, x9, x10, x11, x12⟩ := k0.c13
  go_wp2_with fail
  refine (OR'.out _ hB).mono ?_
  rintro e U2 ⟨At', ct', Ak', ck', rfl, ht, hk, hbu⟩
  have ht := RowB.low ht hz
  have hk := RowB.low hk hz
  replace hr := hr.below hbu
  replace k0 := k0.below hbu
  replace k1 := k1.below hbu
  have hBu := bnext hB hbu
  clear hbu hB x0 x1 x2 x3 x4 x5 x6 x7 x8 x9 x10 x11 x12 hz
  obtain ⟨x0, x1, x2, x3, x4, x5, x6, x7, x8, x9, x10, x11, x12⟩ := k0.c13
  obtain ⟨f0, f1, f2, f3, f4, f5, f6, f7, f8, f9, f10, f11, f12⟩ := k0.f13
  have hl0 := k0.lt
  go_upto_region 3 with fail
  replace k0 : Blk (((((U2.setCell ⟨g0, 8, none⟩ (.int .u64 a)).setCell ⟨g0, 9, none⟩ (.int .u64 b)).setCell ⟨g0, 10, none⟩ (.int .u64 f)).setCell ⟨g0, 11, none⟩ (.slice At' T ct')).setCell ⟨g0, 12, none⟩ (.slice Ak' K ck')) g0 31 #[.int .i64 node, .int .u64 th, .bool su, .int .u64 old, .int .u64 g, .int .u64 n, .int .u64 r, .slice As' S cs', .int .u64 a, .int .u64 b, .int .u64 f, .slice At' T ct', .slice Ak' K ck'] := ((((k0.set 8 (.int .u64 a)).set 9 (.int .u64 b)).set 10 (.int .u64 f)).set 11 (.slice At' T ct')).set 12 (.slice Ak' K ck')

  replace k1 := (((((k1.far (p := ⟨g0, 8, none⟩) NE.out.1 (.int .u64 a)).far (p := ⟨g0, 9, none⟩) NE.out.1 (.int .u64 b)).far (p := ⟨g0, 10, none⟩) NE.out.1 (.int .u64 f)).far (p := ⟨g0, 11, none⟩) NE.out.1 (.slice At' T ct')).far (p := ⟨g0, 12, none⟩) NE.out.1 (.slice Ak' K ck'))
  have hB := (((((hBu.setCell (p := ⟨g0, 8, none⟩) HG0.out (.int .u64 a)).setCell (p := ⟨g0, 9, none⟩) HG0.out (.int .u64 b)).setCell (p := ⟨g0, 10, none⟩) HG0.out (.int .u64 f)).setCell (p := ⟨g0, 11, none⟩) HG0.out (.slice At' T ct')).setCell (p := ⟨g0, 12, none⟩) HG0.out (.slice Ak' K ck'))
  replace hr := (((((hr.set (p := ⟨g0, 8, none⟩) NE.out.2 (.int .u64 a)).set (p := ⟨g0, 9, none⟩) NE.out.2 (.int .u64 b)).set (p := ⟨g0, 10, none⟩) NE.out.2 (.int .u64 f)).set (p := ⟨g0, 11, none⟩) NE.out.2 (.slice At' T ct')).set (p := ⟨g0, 12, none⟩) NE.out.2 (.slice Ak' K ck'))
  replace ht := (((((ht.set (p := ⟨g0, 8, none⟩) NE.out.2 (.int .u64 a)).set (p := ⟨g0, 9, none⟩) NE.out.2 (.int .u64 b)).set (p := ⟨g0, 10, none⟩) NE.out.2 (.int .u64 f)).set (p := ⟨g0, 11, none⟩) NE.out.2 (.slice At' T ct')).set (p := ⟨g0, 12, none⟩) NE.out.2 (.slice Ak' K ck'))
  replace hk := (((((hk.set (p := ⟨g0, 8, none⟩) NE.out.2 (.int .u64 a)).set (p := ⟨g0, 9, none⟩) NE.out.2 (.int .u64 b)).set (p := ⟨g0, 10, none⟩) NE.out.2 (.int .u64 f)).set (p := ⟨g0, 11, none⟩) NE.out.2 (.slice At' T ct')).set (p := ⟨g0, 12, none⟩) NE.out.2 (.slice Ak' K ck'))
  clear x0 x1 x2 x3 x4 x5 x6 x7 x8 x9 x10 x11 x12 f0 f1 f2 f3 f4 f5 f6 f7 f8 f9 f10 f11 f12 hl0 hBu
  generalize (((((U2.setCell ⟨g0, 8, none⟩ (.int .u64 a)).setCell ⟨g0, 9, none⟩ (.int .u64 b)).setCell ⟨g0, 10, none⟩ (.int .u64 f)).setCell ⟨g0, 11, none⟩ (.slice At' T ct')).setCell ⟨g0, 12, none⟩ (.slice Ak' K ck')) = W3 at k0 k1 hB hr ht hk ⊢
  go_wp2_with (first | (refine wpList_load_row (by rfl) 31 _ (by rfl) g0 (by rfl) 31 #[.int .i64 node, .int .u64 th, .bool su, .int .u64 old, .int .u64 g, .int .u64 n, .int .u64 r, .slice As' S cs', .int .u64 a, .int .u64 b, .int .u64 f, .slice At' T ct', .slice Ak' K ck'] (0, 0) _ k0 Try.underlying31 (by rfl) (by kernel_rfl) ?_) | (refine wpList_store_mid (by rfl) 31 _ _ (by rfl) g1 0 #[.int .i64 node, .int .u64 th, .bool su, .int .u64 old, .int .u64 g, .int .u64 n, .int .u64 r, .slice As' S cs', .int .u64 a, .int .u64 b, .int .u64 f, .slice At' T ct', .slice Ak' K ck'] (by rfl) (by rfl) (Blk.there k1 0 _ (Nat.le_refl 13)) (by kernel_rfl) (by kernel_rfl) ?_))
  refine bodyPost_ret (results_cell_row rfl _ _ g1 31 #[.int .i64 node, .int .u64 th, .bool su, .int .u64 old, .int .u64 g, .int .u64 n, .int .u64 r, .slice As' S cs', .int .u64 a, .int .u64 b, .int .u64 f, .slice At' T ct', .slice Ak' K ck'] (0, 0) _ rfl (k1.setAll rfl) Try.underlying31 (by rfl) (by kernel_rfl)) rfl ?_
  have h1 : w.heap.size ≤ g1 + 1 := by have := HG1.out; omega
  exact ⟨As', cs', At', ct', Ak', ck', rfl, (hr.setCells (by omega) _ 0).low h1, (ht.setCells (by omega) _ 0).low h1, (hk.setCells (by omega) _ 0).low h1, below_setCells HG1.out _ 0 hB⟩

theorem OwnPeer_any (p : Pr) (h1 : p.s.sl.length ≤ 100000) (h2 : p.r.tk.length ≤ 100000) (h3 : p.r.kp.length ≤ 100000) (V : Value) (w : World) (hV : PrAt w V p) :
    Calls Try.prog 17 #[V] w (fun e w' => ∃ V', e = .returned V' ∧ PrB w.heap.size w' V' p ∧ Below w.heap.size w w') := by
  obtain ⟨vs, vt, vk, rfl, hs, ht, hk⟩ := hV
  obtain ⟨As, cs, rfl⟩ := hs.form
  obtain ⟨At, ct, rfl⟩ := ht.form
  obtain ⟨Ak, ck, rfl⟩ := hk.form
  refine (ownp_raw p.node p.theirs p.old p.sure p.s.g p.s.n p.s.r p.s.sl p.s.sl.length cs As p.r.g p.r.r p.r.fl p.r.tk p.r.tk.length ct At p.r.kp p.r.kp.length ck Ak w (fun w' hb => ?_) (fun w' hb => ?_)).mono ?_
  · refine (OwnSend_any p.s.g p.s.n p.s.r p.s.sl _ w' (hs.below hb) h1).mono ?_
    rintro e w'' ⟨ws, rfl, r1, hb'⟩
    obtain ⟨As', cs', rfl⟩ := SlsAt.form (w := w'') r1.at
    exact ⟨As', cs', rfl, r1.low (by omega), hb'⟩
  · refine (OwnRecv_any p.r.g p.r.r p.r.fl p.r.tk p.r.kp _ _ w' (ht.below hb) (hk.below hb) h2 h3).mono ?_
    rintro e w'' ⟨wt, wk, rfl, r2, r3, hb'⟩
    obtain ⟨At', ct', rfl⟩ := RgsAt.form (w := w'') r2.at
    obtain ⟨Ak', ck', rfl⟩ := KpsAt.form (w := w'') r3.at
    exact ⟨At', ct', Ak', ck', rfl, r2.low (by omega), r3.low (by omega), hb'⟩
  · rintro e w' ⟨As', cs', At', ct', Ak', ck', rfl, r1, r2, r3, hb⟩
    exact ⟨_, rfl, ⟨As', cs', At', ct', Ak', ck', rfl, r1, r2, r3⟩, hb⟩

end Go.Proofs.Ytfgkkflbpfocjaa

namespace Go.Proofs.Ytfgkkflbpfocjaa
open Go.RowKit
set_option linter.unusedVariables false
set_option linter.unusedSimpArgs false

theorem run_ne_sl0 (a b : Int) (c d e : Int) (w : World) : (binOp .neq 81 (.agg #[.int .u64 a, .int .u64 b, .int .i64 c, .int .u64 d, .int .i64 e]) (.agg #[.int .u64 a, .int .u64 b, .int .i64 c, .int .u64 d, .int .i64 e])).run Try.prog w = .ok (.bool false) w := by
  have h : (binOp .neq 81 (.agg #[.int .u64 a, .int .u64 b, .int .i64 c, .int .u64 d, .int .i64 e]) (.agg #[.int .u64 a, .int .u64 b, .int .i64 c, .int .u64 d, .int .i64 e])).run Try.prog w = .ok (.bool (!((((a == a) && (b == b)) && ((c == c) && (d == d) && (e == e)))))) w := by
    go_simp
  rw [h]; simp
theorem guardSl (x y : Operand) (a b : Array Value) (w : World) : (eqGuard .neq 81 x y (.agg a) (.agg b)).run Try.prog w = .ok () w := by kernel_rfl
theorem guardRg (x y : Operand) (a b : Array Value) (w : World) : (eqGuard .neq 74 x y (.agg a) (.agg b)).run Try.prog w = .ok () w := by kernel_rfl
theorem run_ne_rg0 (a b : Int) (w : World) : (binOp .neq 74 (.agg #[.int .u64 a, .int .u64 b]) (.agg #[.int .u64 a, .int .u64 b])).run Try.prog w = .ok (.bool false) w := by
  go_simp

set_option maxRecDepth 100000 in
set_option maxHeartbeats 4000000 in
theorem SameSend_same (g n r : Int) (SL : List Sl) (cs cs' : Nat) (As As' : Option Addr) (w : World) (h1 : SlsAt w (.slice As SL.length cs) SL) (h2 : SlsAt w (.slice As' SL.length cs') SL) :
    Calls Try.prog 66 #[.agg #[.int .u64 g, .int .u64 n, .int .u64 r, .slice As SL.length cs], .agg #[.int .u64 g, .int .u64 n, .int .u64 r, .slice As' SL.length cs']] w (RetB true w) := by
  obtain ⟨_, _, e, hc1, hc2, hR1⟩ := id h1
  cases e
  obtain ⟨_, _, e, hc3, hc4, hR2⟩ := id h2
  cases e
  unfold maxLen at hc2 hc4
  have HR1 := Lib.hid hR1
  have HR2 := Lib.hid hR2
  clear h1 h2 hR1 hR2
  go_enter Try.func66, Try.ntmps66
  go_upto_region 1 with fail
  have k0 : BK2 w w.heap.size 25 #[.int .u64 g, .int .u64 n, .int .u64 r, .slice As SL.length cs] (w.heap.size + 1) 25 #[.int .u64 g, .int .u64 n, .int .u64 r, .slice As' SL.length cs'] _ := ⟨(Blk.new w 25 #[.int .u64 g, .int .u64 n, .int .u64 r, .slice As SL.length cs]).alloc (.cells #[.int .u64 g, .int .u64 n, .int .u64 r, .slice As' SL.length cs'] 25), Blk.new1 w (.cells #[.int .u64 g, .int .u64 n, .int .u64 r, .slice As SL.length cs] 25) 25 #[.int .u64 g, .int .u64 n, .int .u64 r, .slice As' SL.length cs'], bal (bal (Below.refl _ _) (.cells #[.int .u64 g, .int .u64 n, .int .u64 r, .slice As SL.length cs] 25)) (.cells #[.int .u64 g, .int .u64 n, .int .u64 r, .slice As' SL.length cs'] 25)⟩
  obtain ⟨g1, hg1⟩ : ∃ g1, w.heap.size + 1 = g1 := ⟨_, rfl⟩
  rw [hg1] at k0 ⊢
  clear hg1
  obtain ⟨g0, hg0⟩ : ∃ g0, w.heap.size = g0 := ⟨_, rfl⟩
  rw [hg0] at k0 ⊢
  clear hg0
  generalize (w.alloc (.cells #[.int .u64 g, .int .u64 n, .int .u64 r, .slice As SL.length cs] 25)).alloc (.cells #[.int .u64 g, .int .u64 n, .int .u64 r, .slice As' SL.length cs'] 25) = w1 at k0 ⊢
  obtain ⟨x0, x1, x2, x3⟩ := k0.b.c4
  obtain ⟨y0, y1, y2, y3⟩ := k0.c.c4
  have K1 := Lib.hid k0
  clear k0
  go_wp2_with fail
  clear x0 x1 x2 x3 y0 y1 y2 y3
  go_loopw [5] (fun s5 wr => ∃ k : Nat, k ≤ SL.length ∧ s5 = .int .i64 k ∧ BK2 w g0 25 #[.int .u64 g, .int .u64 n, .int .u64 r, .slice As SL.length cs] g1 25 #[.int .u64 g, .int .u64 n, .int .u64 r, .slice As' SL.length cs'] wr) (fun s _ => SL.length - (intOf s).toNat)
  case atStart => exact ⟨0, Nat.zero_le _, rfl, K1.out⟩
  case round =>
    obtain ⟨k, hk, rfl, kb⟩ := hrel
    obtain ⟨wy, rfl⟩ : ∃ wy : World, wy = wr := ⟨_, rfl⟩
    clear K1
    by_cases hlt : k < SL.length
    · obtain ⟨x, hx⟩ : ∃ x, SL[k]? = some x := ⟨_, List.getElem?_eq_getElem hlt⟩
      obtain ⟨bt, ot, e, hbt, p0, p1, p2, p3, p4⟩ := slot_cells HR1.out rfl hx
      subst e
      obtain ⟨bt', ot', e, hbt', q0, q1, q2, q3, q4⟩ := slot_cells HR2.out rfl hx
      subst e
      have kb0 := kb.b
      have kb1 := kb.c
      have hBw := kb.hB
      have x3 : wy.cell? ⟨g0, 3, none⟩ = some (.slice (some ⟨bt, ot, none⟩) SL.length cs) := kb0.cell 3
      have r1 : (wy.cell? ⟨bt, ot + k * 5, none⟩ = some (.int .u64 x.off) ∧ wy.cell? ⟨bt, ot + k * 5 + 1, none⟩ = some (.int .u64 x.size) ∧ wy.cell? ⟨bt, ot + k * 5 + 2, none⟩ = some (.int .i64 x.node) ∧ wy.cell? ⟨bt, ot + k * 5 + 3, none⟩ = some (.int .u64 x.seq) ∧ wy.cell? ⟨bt, ot + k * 5 + 4, none⟩ = some (.int .i64 x.io)) := ⟨(hBw.cell (p := ⟨bt, ot + k * 5, none⟩) hbt).trans p0, (hBw.cell (p := ⟨bt, ot + k * 5 + 1, none⟩) hbt).trans p1, (hBw.cell (p := ⟨bt, ot + k * 5 + 2, none⟩) hbt).trans p2, (hBw.cell (p := ⟨bt, ot + k * 5 + 3, none⟩) hbt).trans p3, (hBw.cell (p := ⟨bt, ot + k * 5 + 4, none⟩) hbt).trans p4⟩
      have r2 : (wy.cell? ⟨bt', ot' + k * 5, none⟩ = some (.int .u64 x.off) ∧ wy.cell? ⟨bt', ot' + k * 5 + 1, none⟩ = some (.int .u64 x.size) ∧ wy.cell? ⟨bt', ot' + k * 5 + 2, none⟩ = some (.int .i64 x.node) ∧ wy.cell? ⟨bt', ot' + k * 5 + 3, none⟩ = some (.int .u64 x.seq) ∧ wy.cell? ⟨bt', ot' + k * 5 + 4, none⟩ = some (.int .i64 x.io)) := ⟨(hBw.cell (p := ⟨bt', ot' + k * 5, none⟩) hbt').trans q0, (hBw.cell (p := ⟨bt', ot' + k * 5 + 1, none⟩) hbt').trans q1, (hBw.cell (p := ⟨bt', ot' + k * 5 + 2, none⟩) hbt').trans q2, (hBw.cell (p := ⟨bt', ot' + k * 5 + 3, none⟩) hbt').trans q3, (hBw.cell (p := ⟨bt', ot' + k * 5 + 4, none⟩) hbt').trans q4⟩
      have HH := Lib.hid (And.intro hBw.drew (And.intro kb0.drew (And.intro kb1.drew (And.intro r1 r2))))
      have hki : (k : Int) < SL.length := by omega
      have hk0 : (0 : Int) ≤ k := by omega
      have hg0y := kb0.lt
      clear kb kb0 kb1 hBw r1 r2 p0 p1 p2 p3 p4 q0 q1 q2 q3 q4 hx
      go_upto_region 6 with fail
      clear x3
      refine wp_region_held_drew (S := fun wx => Below w.heap.size w wx ∧ Blk wx g0 25 #[.int .u64 g, .int .u64 n, .int .u64 r, .slice (some ⟨bt, ot, none⟩) SL.length cs] ∧ Blk wx g1 25 #[.int .u64 g, .int .u64 n, .int .u64 r, .slice (some ⟨bt', ot', none⟩) SL.length cs'] ∧ (wx.cell? ⟨bt, ot + k * 5, none⟩ = some (.int .u64 x.off) ∧ wx.cell? ⟨bt, ot + k * 5 + 1, none⟩ = some (.int .u64 x.size) ∧ wx.cell? ⟨bt, ot + k * 5 + 2, none⟩ = some (.int .i64 x.node) ∧ wx.cell? ⟨bt, ot + k * 5 + 3, none⟩ = some (.int .u64 x.seq) ∧ wx.cell? ⟨bt, ot + k * 5 + 4, none⟩ = some (.int .i64 x.io)) ∧ (wx.cell? ⟨bt', ot' + k * 5, none⟩ = some (.int .u64 x.off) ∧ wx.cell? ⟨bt', ot' + k * 5 + 1, none⟩ = some (.int .u64 x.size) ∧ wx.cell? ⟨bt', ot' + k * 5 + 2, none⟩ = some (.int .i64 x.node) ∧ wx.cell? ⟨bt', ot' + k * 5 + 3, none⟩ = some (.int .u64 x.seq) ∧ wx.cell? ⟨bt', ot' + k * 5 + 4, none⟩ = some (.int .i64 x.io))) (by kernel_rfl) HH.out (fun hH => ?_)
      refine wpAnyH_take (i := 0) rfl (by kernel_rfl) (by kernel_rfl) (by kernel_rfl) (fun _ _ _ h => h) (yieldsIf_cell (.pointer (some ⟨g0, 3, none⟩)) rfl (fun w h => by go_simp)) hH ?_
      try simp only [List.getElem_toArray, List.getElem_cons_succ, List.getElem_cons_zero, Act.put, List.setIfInBounds_toArray, List.set_cons_zero, List.set_cons_succ]
      refine wpAnyH_take (i := 1) rfl (by kernel_rfl) (by kernel_rfl) (by kernel_rfl) (fun _ _ _ h => h) (yieldsIf_cell (.slice (some ⟨bt, ot, none⟩) SL.length cs) rfl (fun w h => by have j0 : w.cell? ⟨g0, 3, none⟩ = some (.slice (some ⟨bt, ot, none⟩) SL.length cs) := (h.2.1).cell 3; go_simp)) hH ?_
      try simp only [List.getElem_toArray, List.getElem_cons_succ, List.getElem_cons_zero, Act.put, List.setIfInBounds_toArray, List.set_cons_zero, List.set_cons_succ]
      refine wpAnyH_take (i := 2) rfl (by kernel_rfl) (by kernel_rfl) (by kernel_rfl) (fun _ _ _ h => h) (yieldsIf_pure _ (.int .i64 (k : Int)) rfl (.inl rfl) rfl) hH ?_
      try simp only [List.getElem_toArray, List.getElem_cons_succ, List.getElem_cons_zero, Act.put, List.setIfInBounds_toArray, List.set_cons_zero, List.set_cons_succ]
      refine wpAnyH_take (i := 3) rfl (by kernel_rfl) (by kernel_rfl) (by kernel_rfl) (fun _ _ _ h => h) (yieldsIf_cell (.pointer (some ⟨bt, ot + k * 5, none⟩)) rfl (fun w h => by go_simp)) hH ?_
      try simp only [List.getElem_toArray, List.getElem_cons_succ, List.getElem_cons_zero, Act.put, List.setIfInBounds_toArray, List.set_cons_zero, List.set_cons_succ]
      refine wpAnyH_take (i := 4) rfl (by kernel_rfl) (by kernel_rfl) (by kernel_rfl) (fun _ _ _ h => h) (yieldsIf_cell (.agg #[.int .u64 x.off, .int .u64 x.size, .int .i64 x.node, .int .u64 x.seq, .int .i64 x.io]) rfl (fun w h => by have e0 := (h.2.2.2.1).1; have e1 := (h.2.2.2.1).2.1; have e2 := (h.2.2.2.1).2.2.1; have e3 := (h.2.2.2.1).2.2.2.1; have e4 := (h.2.2.2.1).2.2.2.2; go_simp)) hH ?_
      try simp only [List.getElem_toArray, List.getElem_cons_succ, List.getElem_cons_zero, Act.put, List.setIfInBounds_toArray, List.set_cons_zero, List.set_cons_succ]
      refine wpAnyH_take (i := 5) rfl (by kernel_rfl) (by kernel_rfl) (by kernel_rfl) (fun _ _ _ h => h) (yieldsIf_cell (.pointer (some ⟨g1, 3, none⟩)) rfl (fun w h => by go_simp)) hH ?_
      try simp only [List.getElem_toArray, List.getElem_cons_succ, List.getElem_cons_zero, Act.put, List.setIfInBounds_toArray, List.set_cons_zero, List.set_cons_succ]
      refine wpAnyH_take (i := 6) rfl (by kernel_rfl) (by kernel_rfl) (by kernel_rfl) (fun _ _ _ h => h) (yieldsIf_cell (.slice (some ⟨bt', ot', none⟩) SL.length cs') rfl (fun w h => by have j0 : w.cell? ⟨g1, 3, none⟩ = some (.slice (some ⟨bt', ot', none⟩) SL.length cs') := (h.2.2.1).cell 3; go_simp)) hH ?_
      try simp only [List.getElem_toArray, List.getElem_cons_succ, List.getElem_cons_zero, Act.put, List.setIfInBounds_toArray, List.set_cons_zero, List.set_cons_succ]
      refine wpAnyH_take (i := 7) rfl (by kernel_rfl) (by kernel_rfl) (by kernel_rfl) (fun _ _ _ h => h) (yieldsIf_pure _ (.int .i64 (k : Int)) rfl (.inl rfl) rfl) hH ?_
      try simp only [List.getElem_toArray, List.getElem_cons_succ, List.getElem_cons_zero, Act.put, List.setIfInBounds_toArray, List.set_cons_zero, List.set_cons_succ]
      refine wpAnyH_take (i := 8) rfl (by kernel_rfl) (by kernel_rfl) (by kernel_rfl) (fun _ _ _ h => h) (yieldsIf_cell (.pointer (some ⟨bt', ot' + k * 5, none⟩)) rfl (fun w h => by go_simp)) hH ?_
      try simp only [List.getElem_toArray, List.getElem_cons_succ, List.getElem_cons_zero, Act.put, List.setIfInBounds_toArray, List.set_cons_zero, List.set_cons_succ]
      refine wpAnyH_take (i := 9) rfl (by kernel_rfl) (by kernel_rfl) (by kernel_rfl) (fun _ _ _ h => h) (yieldsIf_cell (.agg #[.int .u64 x.off, .int .u64 x.size, .int .i64 x.node, .int .u64 x.seq, .int .i64 x.io]) rfl (fun w h => by have e0 := (h.2.2.2.2).1; have e1 := (h.2.2.2.2).2.1; have e2 := (h.2.2.2.2).2.2.1; have e3 := (h.2.2.2.2).2.2.2.1; have e4 := (h.2.2.2.2).2.2.2.2; go_simp)) hH ?_
      try simp only [List.getElem_toArray, List.getElem_cons_succ, List.getElem_cons_zero, Act.put, List.setIfInBounds_toArray, List.set_cons_zero, List.set_cons_succ]
      refine wpAnyH_take (i := 10) rfl (by kernel_rfl) (by kernel_rfl) (by kernel_rfl) (fun _ _ _ h => h) (yieldsIf_bin _ _ _ _ _ (.agg #[.int .u64 x.off, .int .u64 x.size, .int .i64 x.node, .int .u64 x.seq, .int .i64 x.io]) (.agg #[.int .u64 x.off, .int .u64 x.size, .int .i64 x.node, .int .u64 x.seq, .int .i64 x.io]) (.bool false) rfl rfl rfl rfl (fun w => guardSl _ _ _ _ w) (fun w => run_ne_sl0 _ _ _ _ _ w)) hH ?_
      try simp only [List.getElem_toArray, List.getElem_cons_succ, List.getElem_cons_zero, Act.put, List.setIfInBounds_toArray, List.set_cons_zero, List.set_cons_succ]
      refine wpAnyH_done (by kernel_rfl) ?_ _
      have KN : BK2 w g0 25 #[.int .u64 g, .int .u64 n, .int .u64 r, .slice (some ⟨bt, ot, none⟩) SL.length cs] g1 25 #[.int .u64 g, .int .u64 n, .int .u64 r, .slice (some ⟨bt', ot', none⟩) SL.length cs'] wy.drew := ⟨hH.2.1, hH.2.2.1, hH.1⟩
      have HK := Lib.hid KN
      clear hH KN HH
      go_wp2_with fail
      go_roundw
      case rel => exact ⟨k + 1, by omega, by go_num, HK.out⟩
      case measure => simp [intOf]; omega
    · obtain rfl : k = SL.length := by omega
      have x3 : wy.cell? ⟨g0, 3, none⟩ = some (.slice As SL.length cs) := kb.b.cell 3
      have HK := Lib.hid kb.hB
      clear kb
      go_wp2_with fail
      go_ret
      exact ⟨rfl, HK.out⟩

set_option maxRecDepth 100000 in
set_option maxHeartbeats 4000000 in
theorem SameRecv_same (a b f : Int) (TL : List Rg) (KL : List Int) (ct ct' ck ck' : Nat) (At At' Ak Ak' : Option Addr) (w : World) (h1 : RgsAt w (.slice At TL.length ct) TL) (h2 : RgsAt w (.slice At' TL.length ct') TL) (h3 : KpsAt w (.slice Ak KL.length ck) KL) (h4 : KpsAt w (.slice Ak' KL.length ck') KL) :
    Calls Try.prog 67 #[.agg #[.int .u64 a, .int .u64 b, .int .u64 f, .slice At TL.length ct, .slice Ak KL.length ck], .agg #[.int .u64 a, .int .u64 b, .int .u64 f, .slice At' TL.length ct', .slice Ak' KL.length ck']] w (RetB true w) := by
  obtain ⟨_, _, e, hc1, hc2, hR1⟩ := id h1
  cases e
  obtain ⟨_, _, e, hc3, hc4, hR2⟩ := id h2
  cases e
  obtain ⟨_, _, e, hc5, hc6, hQ1⟩ := id h3
  cases e
  obtain ⟨_, _, e, hc7, hc8, hQ2⟩ := id h4
  cases e
  unfold maxLen at hc2 hc4 hc6 hc8
  have HR1 := Lib.hid hR1
  have HR2 := Lib.hid hR2
  have HQ1 := Lib.hid hQ1
  have HQ2 := Lib.hid hQ2
  clear h1 h2 h3 h4 hR1 hR2 hQ1 hQ2
  go_enter Try.func67, Try.ntmps67
  go_upto_region 1 with fail
  have k0 : BK2 w w.heap.size 29 #[.int .u64 a, .int .u64 b, .int .u64 f, .slice At TL.length ct, .slice Ak KL.length ck] (w.heap.size + 1) 29 #[.int .u64 a, .int .u64 b, .int .u64 f, .slice At' TL.length ct', .slice Ak' KL.length ck'] _ := ⟨(Blk.new w 29 #[.int .u64 a, .int .u64 b, .int .u64 f, .slice At TL.length ct, .slice Ak KL.length ck]).alloc (.cells #[.int .u64 a, .int .u64 b, .int .u64 f, .slice At' TL.length ct', .slice Ak' KL.length ck'] 29), Blk.new1 w (.cells #[.int .u64 a, .int .u64 b, .int .u64 f, .slice At TL.length ct, .slice Ak KL.length ck] 29) 29 #[.int .u64 a, .int .u64 b, .int .u64 f, .slice At' TL.length ct', .slice Ak' KL.length ck'], bal (bal (Below.refl _ _) (.cells #[.int .u64 a, .int .u64 b, .int .u64 f, .slice At TL.length ct, .slice Ak KL.length ck] 29)) (.cells #[.int .u64 a, .int .u64 b, .int .u64 f, .slice At' TL.length ct', .slice Ak' KL.length ck'] 29)⟩
  obtain ⟨g1, hg1⟩ : ∃ g1, w.heap.size + 1 = g1 := ⟨_, rfl⟩
  rw [hg1] at k0 ⊢
  clear hg1
  obtain ⟨g0, hg0⟩ : ∃ g0, w.heap.size = g0 := ⟨_, rfl⟩
  rw [hg0] at k0 ⊢
  clear hg0
  generalize (w.alloc (.cells #[.int .u64 a, .int .u64 b, .int .u64 f, .slice At TL.length ct, .slice Ak KL.length ck] 29)).alloc (.cells #[.int .u64 a, .int .u64 b, .int .u64 f, .slice At' TL.length ct', .slice Ak' KL.length ck'] 29) = w1 at k0 ⊢
  obtain ⟨x0, x1, x2, x3, x4⟩ := k0.b.c5
  obtain ⟨y0, y1, y2, y3, y4⟩ := k0.c.c5
  have K1 := Lib.hid k0
  clear k0
  go_wp2_with fail
  clear x0 x1 x2 x3 x4 y0 y1 y2 y3 y4
  go_loopw [5] (fun s5 wr => ∃ k : Nat, k ≤ TL.length ∧ s5 = .int .i64 k ∧ BK2 w g0 29 #[.int .u64 a, .int .u64 b, .int .u64 f, .slice At TL.length ct, .slice Ak KL.length ck] g1 29 #[.int .u64 a, .int .u64 b, .int .u64 f, .slice At' TL.length ct', .slice Ak' KL.length ck'] wr) (fun s _ => TL.length - (intOf s).toNat)
  case atStart => exact ⟨0, Nat.zero_le _, rfl, K1.out⟩
  case round =>
    obtain ⟨k, hk, rfl, kb⟩ := hrel
    obtain ⟨wy, rfl⟩ : ∃ wy : World, wy = wr := ⟨_, rfl⟩
    clear K1
    by_cases hlt : k < TL.length
    · obtain ⟨x, hx⟩ : ∃ x, TL[k]? = some x := ⟨_, List.getElem?_eq_getElem hlt⟩
      obtain ⟨bt, ot, e, hbt, p0, p1⟩ := reads_rg HR1.out rfl hx
      subst e
      obtain ⟨bt', ot', e, hbt', q0, q1⟩ := reads_rg HR2.out rfl hx
      subst e
      have kb0 := kb.b
      have kb1 := kb.c
      have hBw := kb.hB
      have x3 : wy.cell? ⟨g0, 3, none⟩ = some (.slice (some ⟨bt, ot, none⟩) TL.length ct) := kb0.cell 3
      have r1 : (wy.cell? ⟨bt, ot + k * 2, none⟩ = some (.int .u64 x.f) ∧ wy.cell? ⟨bt, ot + k * 2 + 1, none⟩ = some (.int .u64 x.t)) := ⟨(hBw.cell (p := ⟨bt, ot + k * 2, none⟩) hbt).trans p0, (hBw.cell (p := ⟨bt, ot + k * 2 + 1, none⟩) hbt).trans p1⟩
      have r2 : (wy.cell? ⟨bt', ot' + k * 2, none⟩ = some (.int .u64 x.f) ∧ wy.cell? ⟨bt', ot' + k * 2 + 1, none⟩ = some (.int .u64 x.t)) := ⟨(hBw.cell (p := ⟨bt', ot' + k * 2, none⟩) hbt').trans q0, (hBw.cell (p := ⟨bt', ot' + k * 2 + 1, none⟩) hbt').trans q1⟩
      clear p0 p1 q0 q1
      have HH := Lib.hid (And.intro hBw.drew (And.intro kb0.drew (And.intro kb1.drew (And.intro r1 r2))))
      have hki : (k : Int) < TL.length := by omega
      have hk0 : (0 : Int) ≤ k := by omega
      have hg0y := kb0.lt
      clear kb kb0 kb1 hBw r1 r2 hx
      go_upto_region 6 with fail
      clear x3
      refine wp_region_held_drew (S := fun wx => Below w.heap.size w wx ∧ Blk wx g0 29 #[.int .u64 a, .int .u64 b, .int .u64 f, .slice (some ⟨bt, ot, none⟩) TL.length ct, .slice Ak KL.length ck] ∧ Blk wx g1 29 #[.int .u64 a, .int .u64 b, .int .u64 f, .slice (some ⟨bt', ot', none⟩) TL.length ct', .slice Ak' KL.length ck'] ∧ (wx.cell? ⟨bt, ot + k * 2, none⟩ = some (.int .u64 x.f) ∧ wx.cell? ⟨bt, ot + k * 2 + 1, none⟩ = some (.int .u64 x.t)) ∧ (wx.cell? ⟨bt', ot' + k * 2, none⟩ = some (.int .u64 x.f) ∧ wx.cell? ⟨bt', ot' + k * 2 + 1, none⟩ = some (.int .u64 x.t))) (by kernel_rfl) HH.out (fun hH => ?_)
      refine wpAnyH_take (i := 0) rfl (by kernel_rfl) (by kernel_rfl) (by kernel_rfl) (fun _ _ _ h => h) (yieldsIf_cell (.pointer (some ⟨g0, 3, none⟩)) rfl (fun w h => by go_simp)) hH ?_
      try simp only [List.getElem_toArray, List.getElem_cons_succ, List.getElem_cons_zero, Act.put, List.setIfInBounds_toArray, List.set_cons_zero, List.set_cons_succ]
      refine wpAnyH_take (i := 1) rfl (by kernel_rfl) (by kernel_rfl) (by kernel_rfl) (fun _ _ _ h => h) (yieldsIf_cell (.slice (some ⟨bt, ot, none⟩) TL.length ct) rfl (fun w h => by have j0 : w.cell? ⟨g0, 3, none⟩ = some (.slice (some ⟨bt, ot, none⟩) TL.length ct) := (h.2.1).cell 3; go_simp)) hH ?_
      try simp only [List.getElem_toArray, List.getElem_cons_succ, List.getElem_cons_zero, Act.put, List.setIfInBounds_toArray, List.set_cons_zero, List.set_cons_succ]
      refine wpAnyH_take (i := 2) rfl (by kernel_rfl) (by kernel_rfl) (by kernel_rfl) (fun _ _ _ h => h) (yieldsIf_pure _ (.int .i64 (k : Int)) rfl (.inl rfl) rfl) hH ?_
      try simp only [List.getElem_toArray, List.getElem_cons_succ, List.getElem_cons_zero, Act.put, List.setIfInBounds_toArray, List.set_cons_zero, List.set_cons_succ]
      refine wpAnyH_take (i := 3) rfl (by kernel_rfl) (by kernel_rfl) (by kernel_rfl) (fun _ _ _ h => h) (yieldsIf_cell (.pointer (some ⟨bt, ot + k * 2, none⟩)) rfl (fun w h => by go_simp)) hH ?_
      try simp only [List.getElem_toArray, List.getElem_cons_succ, List.getElem_cons_zero, Act.put, List.setIfInBounds_toArray, List.set_cons_zero, List.set_cons_succ]
      refine wpAnyH_take (i := 4) rfl (by kernel_rfl) (by kernel_rfl) (by kernel_rfl) (fun _ _ _ h => h) (yieldsIf_cell (.agg #[.int .u64 x.f, .int .u64 x.t]) rfl (fun w h => by have e0 := (h.2.2.2.1).1; have e1 := (h.2.2.2.1).2; go_simp)) hH ?_
      try simp only [List.getElem_toArray, List.getElem_cons_succ, List.getElem_cons_zero, Act.put, List.setIfInBounds_toArray, List.set_cons_zero, List.set_cons_succ]
      refine wpAnyH_take (i := 5) rfl (by kernel_rfl) (by kernel_rfl) (by kernel_rfl) (fun _ _ _ h => h) (yieldsIf_cell (.pointer (some ⟨g1, 3, none⟩)) rfl (fun w h => by go_simp)) hH ?_
      try simp only [List.getElem_toArray, List.getElem_cons_succ, List.getElem_cons_zero, Act.put, List.setIfInBounds_toArray, List.set_cons_zero, List.set_cons_succ]
      refine wpAnyH_take (i := 6) rfl (by kernel_rfl) (by kernel_rfl) (by kernel_rfl) (fun _ _ _ h => h) (yieldsIf_cell (.slice (some ⟨bt', ot', none⟩) TL.length ct') rfl (fun w h => by have j0 : w.cell? ⟨g1, 3, none⟩ = some (.slice (some ⟨bt', ot', none⟩) TL.length ct') := (h.2.2.1).cell 3; go_simp)) hH ?_
      try simp only [List.getElem_toArray, List.getElem_cons_succ, List.getElem_cons_zero, Act.put, List.setIfInBounds_toArray, List.set_cons_zero, List.set_cons_succ]
      refine wpAnyH_take (i := 7) rfl (by kernel_rfl) (by kernel_rfl) (by kernel_rfl) (fun _ _ _ h => h) (yieldsIf_pure _ (.int .i64 (k : Int)) rfl (.inl rfl) rfl) hH ?_
      try simp only [List.getElem_toArray, List.getElem_cons_succ, List.getElem_cons_zero, Act.put, List.setIfInBounds_toArray, List.set_cons_zero, List.set_cons_succ]
      refine wpAnyH_take (i := 8) rfl (by kernel_rfl) (by kernel_rfl) (by kernel_rfl) (fun _ _ _ h => h) (yieldsIf_cell (.pointer (some ⟨bt', ot' + k * 2, none⟩)) rfl (fun w h => by go_simp)) hH ?_
      try simp only [List.getElem_toArray, List.getElem_cons_succ, List.getElem_cons_zero, Act.put, List.setIfInBounds_toArray, List.set_cons_zero, List.set_cons_succ]
      refine wpAnyH_take (i := 9) rfl (by kernel_rfl) (by kernel_rfl) (by kernel_rfl) (fun _ _ _ h => h) (yieldsIf_cell (.agg #[.int .u64 x.f, .int .u64 x.t]) rfl (fun w h => by have e0 := (h.2.2.2.2).1; have e1 := (h.2.2.2.2).2; go_simp)) hH ?_
      try simp only [List.getElem_toArray, List.getElem_cons_succ, List.getElem_cons_zero, Act.put, List.setIfInBounds_toArray, List.set_cons_zero, List.set_cons_succ]
      refine wpAnyH_take (i := 10) rfl (by kernel_rfl) (by kernel_rfl) (by kernel_rfl) (fun _ _ _ h => h) (yieldsIf_bin _ _ _ _ _ (.agg #[.int .u64 x.f, .int .u64 x.t]) (.agg #[.int .u64 x.f, .int .u64 x.t]) (.bool false) rfl rfl rfl rfl (fun w => guardRg _ _ _ _ w) (fun w => run_ne_rg0 _ _ w)) hH ?_
      try simp only [List.getElem_toArray, List.getElem_cons_succ, List.getElem_cons_zero, Act.put, List.setIfInBounds_toArray, List.set_cons_zero, List.set_cons_succ]
      refine wpAnyH_done (by kernel_rfl) ?_ _
      have KN : BK2 w g0 29 #[.int .u64 a, .int .u64 b, .int .u64 f, .slice (some ⟨bt, ot, none⟩) TL.length ct, .slice Ak KL.length ck] g1 29 #[.int .u64 a, .int .u64 b, .int .u64 f, .slice (some ⟨bt', ot', none⟩) TL.length ct', .slice Ak' KL.length ck'] wy.drew := ⟨hH.2.1, hH.2.2.1, hH.1⟩
      have HK := Lib.hid KN
      clear hH KN HH
      go_wp2_with fail
      go_roundw
      case rel => exact ⟨k + 1, by omega, by go_num, HK.out⟩
      case measure => simp [intOf]; omega
    · obtain rfl : k = TL.length := by omega
      have x3 : wy.cell? ⟨g0, 3, none⟩ = some (.slice At TL.length ct) := kb.b.cell 3
      have K1 := Lib.hid kb
      clear kb
      go_wp2_with fail
      clear x3 hlt hk
      go_loopw [6] (fun s5 wr => ∃ k : Nat, k ≤ KL.length ∧ s5 = .int .i64 k ∧ BK2 w g0 29 #[.int .u64 a, .int .u64 b, .int .u64 f, .slice At TL.length ct, .slice Ak KL.length ck] g1 29 #[.int .u64 a, .int .u64 b, .int .u64 f, .slice At' TL.length ct', .slice Ak' KL.length ck'] wr) (fun s _ => KL.length - (intOf s).toNat)
      case atStart => exact ⟨0, Nat.zero_le _, rfl, K1.out⟩
      case round =>
        obtain ⟨k, hk, rfl, kb⟩ := hrel
        obtain ⟨wy, rfl⟩ : ∃ wy : World, wy = wr := ⟨_, rfl⟩
        clear K1
        by_cases hlt : k < KL.length
        · obtain ⟨x, hx⟩ : ∃ x, KL[k]? = some x := ⟨_, List.getElem?_eq_getElem hlt⟩
          obtain ⟨bt, ot, e, hbt, p0⟩ := reads_kp HQ1.out rfl hx
          subst e
          obtain ⟨bt', ot', e, hbt', q0⟩ := reads_kp HQ2.out rfl hx
          subst e
          have kb0 := kb.b
          have kb1 := kb.c
          have hBw := kb.hB
          have x3 : wy.cell? ⟨g0, 4, none⟩ = some (.slice (some ⟨bt, ot, none⟩) KL.length ck) := kb0.cell 4
          have r1 : (wy.cell? ⟨bt, ot + k, none⟩ = some (.int .u64 x)) := (hBw.cell (p := ⟨bt, ot + k, none⟩) hbt).trans p0
          have r2 : (wy.cell? ⟨bt', ot' + k, none⟩ = some (.int .u64 x)) := (hBw.cell (p := ⟨bt', ot' + k, none⟩) hbt').trans q0
          clear p0 q0
          have HH := Lib.hid (And.intro hBw.drew (And.intro kb0.drew (And.intro kb1.drew (And.intro r1 r2))))
          have hki : (k : Int) < KL.length := by omega
          have hk0 : (0 : Int) ≤ k := by omega
          have hg0y := kb0.lt
          clear kb kb0 kb1 hBw r1 r2 hx
          go_upto_region 11 with fail
          clear x3
          refine wp_region_held_drew (S := fun wx => Below w.heap.size w wx ∧ Blk wx g0 29 #[.int .u64 a, .int .u64 b, .int .u64 f, .slice At TL.length ct, .slice (some ⟨bt, ot, none⟩) KL.length ck] ∧ Blk wx g1 29 #[.int .u64 a, .int .u64 b, .int .u64 f, .slice At' TL.length ct', .slice (some ⟨bt', ot', none⟩) KL.length ck'] ∧ (wx.cell? ⟨bt, ot + k, none⟩ = some (.int .u64 x)) ∧ (wx.cell? ⟨bt', ot' + k, none⟩ = some (.int .u64 x))) (by kernel_rfl) HH.out (fun hH => ?_)
          refine wpAnyH_take (i := 0) rfl (by kernel_rfl) (by kernel_rfl) (by kernel_rfl) (fun _ _ _ h => h) (yieldsIf_cell (.pointer (some ⟨g0, 4, none⟩)) rfl (fun w h => by go_simp)) hH ?_
          try simp only [List.getElem_toArray, List.getElem_cons_succ, List.getElem_cons_zero, Act.put, List.setIfInBounds_toArray, List.set_cons_zero, List.set_cons_succ]
          refine wpAnyH_take (i := 1) rfl (by kernel_rfl) (by kernel_rfl) (by kernel_rfl) (fun _ _ _ h => h) (yieldsIf_cell (.slice (some ⟨bt, ot, none⟩) KL.length ck) rfl (fun w h => by have j0 : w.cell? ⟨g0, 4, none⟩ = some (.slice (some ⟨bt, ot, none⟩) KL.length ck) := (h.2.1).cell 4; go_simp)) hH ?_
          try simp only [List.getElem_toArray, List.getElem_cons_succ, List.getElem_cons_zero, Act.put, List.setIfInBounds_toArray, List.set_cons_zero, List.set_cons_succ]
          refine wpAnyH_take (i := 2) rfl (by kernel_rfl) (by kernel_rfl) (by kernel_rfl) (fun _ _ _ h => h) (yieldsIf_pure _ (.int .i64 (k : Int)) rfl (.inl rfl) rfl) hH ?_
          try simp only [List.getElem_toArray, List.getElem_cons_succ, List.getElem_cons_zero, Act.put, List.setIfInBounds_toArray, List.set_cons_zero, List.set_cons_succ]
          refine wpAnyH_take (i := 3) rfl (by kernel_rfl) (by kernel_rfl) (by kernel_rfl) (fun _ _ _ h => h) (yieldsIf_cell (.pointer (some ⟨bt, ot + k, none⟩)) rfl (fun w h => by go_simp)) hH ?_
          try simp only [List.getElem_toArray, List.getElem_cons_succ, List.getElem_cons_zero, Act.put, List.setIfInBounds_toArray, List.set_cons_zero, List.set_cons_succ]
          refine wpAnyH_take (i := 4) rfl (by kernel_rfl) (by kernel_rfl) (by kernel_rfl) (fun _ _ _ h => h) (yieldsIf_cell (.int .u64 x) rfl (fun w h => by have e0 := h.2.2.2.1; go_simp)) hH ?_
          try simp only [List.getElem_toArray, List.getElem_cons_succ, List.getElem_cons_zero, Act.put, List.setIfInBounds_toArray, List.set_cons_zero, List.set_cons_succ]
          refine wpAnyH_take (i := 5) rfl (by kernel_rfl) (by kernel_rfl) (by kernel_rfl) (fun _ _ _ h => h) (yieldsIf_cell (.pointer (some ⟨g1, 4, none⟩)) rfl (fun w h => by go_simp)) hH ?_
          try simp only [List.getElem_toArray, List.getElem_cons_succ, List.getElem_cons_zero, Act.put, List.setIfInBounds_toArray, List.set_cons_zero, List.set_cons_succ]
          refine wpAnyH_take (i := 6) rfl (by kernel_rfl) (by kernel_rfl) (by kernel_rfl) (fun _ _ _ h => h) (yieldsIf_cell (.slice (some ⟨bt', ot', none⟩) KL.length ck') rfl (fun w h => by have j0 : w.cell? ⟨g1, 4, none⟩ = some (.slice (some ⟨bt', ot', none⟩) KL.length ck') := (h.2.2.1).cell 4; go_simp)) hH ?_
          try simp only [List.getElem_toArray, List.getElem_cons_succ, List.getElem_cons_zero, Act.put, List.setIfInBounds_toArray, List.set_cons_zero, List.set_cons_succ]
          refine wpAnyH_take (i := 7) rfl (by kernel_rfl) (by kernel_rfl) (by kernel_rfl) (fun _ _ _ h => h) (yieldsIf_pure _ (.int .i64 (k : Int)) rfl (.inl rfl) rfl) hH ?_
          try simp only [List.getElem_toArray, List.getElem_cons_succ, List.getElem_cons_zero, Act.put, List.setIfInBounds_toArray, List.set_cons_zero, List.set_cons_succ]
          refine wpAnyH_take (i := 8) rfl (by kernel_rfl) (by kernel_rfl) (by kernel_rfl) (fun _ _ _ h => h) (yieldsIf_cell (.pointer (some ⟨bt', ot' + k, none⟩)) rfl (fun w h => by go_simp)) hH ?_
          try simp only [List.getElem_toArray, List.getElem_cons_succ, List.getElem_cons_zero, Act.put, List.setIfInBounds_toArray, List.set_cons_zero, List.set_cons_succ]
          refine wpAnyH_take (i := 9) rfl (by kernel_rfl) (by kernel_rfl) (by kernel_rfl) (fun _ _ _ h => h) (yieldsIf_cell (.int .u64 x) rfl (fun w h => by have e0 := h.2.2.2.2; go_simp)) hH ?_
          try simp only [List.getElem_toArray, List.getElem_cons_succ, List.getElem_cons_zero, Act.put, List.setIfInBounds_toArray, List.set_cons_zero, List.set_cons_succ]
          refine wpAnyH_take (i := 10) rfl (by kernel_rfl) (by kernel_rfl) (by kernel_rfl) (fun _ _ _ h => h) (yieldsIf_cell (.bool false) rfl (fun w h => by go_simp)) hH ?_
          try simp only [List.getElem_toArray, List.getElem_cons_succ, List.getElem_cons_zero, Act.put, List.setIfInBounds_toArray, List.set_cons_zero, List.set_cons_succ]
          refine wpAnyH_done (by kernel_rfl) ?_ _
          have KN : BK2 w g0 29 #[.int .u64 a, .int .u64 b, .int .u64 f, .slice At TL.length ct, .slice (some ⟨bt, ot, none⟩) KL.length ck] g1 29 #[.int .u64 a, .int .u64 b, .int .u64 f, .slice At' TL.length ct', .slice (some ⟨bt', ot', none⟩) KL.length ck'] wy.drew := ⟨hH.2.1, hH.2.2.1, hH.1⟩
          have HK := Lib.hid KN
          clear hH KN HH
          go_wp2_with fail
          go_roundw
          case rel => exact ⟨k + 1, by omega, by go_num, HK.out⟩
          case measure => simp [intOf]; omega
        · obtain rfl : k = KL.length := by omega
          have x4 : wy.cell? ⟨g0, 4, none⟩ = some (.slice Ak KL.length ck) := kb.b.cell 4
          have HK := Lib.hid kb.hB
          clear kb
          go_wp2_with fail
          go_ret
          exact ⟨rfl, HK.out⟩

set_option maxRecDepth 100000 in
set_option maxHeartbeats 4000000 in
theorem SamePeer_raw (node th old : Int) (su : Bool) (g n r : Int) (SL : List Sl) (cs cs' : Nat) (As As' : Option Addr) (a b f : Int) (TL : List Rg) (KL : List Int) (ct ct' ck ck' : Nat) (At At' Ak Ak' : Option Addr) (w : World)
    (SS : ∀ w', Below w.heap.size w w' → Calls Try.prog 66 #[.agg #[.int .u64 g, .int .u64 n, .int .u64 r, .slice As SL.length cs], .agg #[.int .u64 g, .int .u64 n, .int .u64 r, .slice As' SL.length cs']] w' (RetB true w'))
    (SR : ∀ w', Below w.heap.size w w' → Calls Try.prog 67 #[.agg #[.int .u64 a, .int .u64 b, .int .u64 f, .slice At TL.length ct, .slice Ak KL.length ck], .agg #[.int .u64 a, .int .u64 b, .int .u64 f, .slice At' TL.length ct', .slice Ak' KL.length ck']] w' (RetB true w')) :
    Calls Try.prog 22 #[.agg #[.int .i64 node, .int .u64 th, .bool su, .int .u64 old, .int .u64 g, .int .u64 n, .int .u64 r, .slice As SL.length cs, .int .u64 a, .int .u64 b, .int .u64 f, .slice At TL.length ct, .slice Ak KL.length ck], .agg #[.int .i64 node, .int .u64 th, .bool su, .int .u64 old, .int .u64 g, .int .u64 n, .int .u64 r, .slice As' SL.length cs', .int .u64 a, .int .u64 b, .int .u64 f, .slice At' TL.length ct', .slice Ak' KL.length ck']] w (RetB true w) := by
  have SS' := Lib.hid SS
  have SR' := Lib.hid SR
  clear SS SR
  go_enter Try.func22, Try.ntmps22
  go_upto_region 1 with fail
  have k0 : BK2 w w.heap.size 31 #[.int .i64 node, .int .u64 th, .bool su, .int .u64 old, .int .u64 g, .int .u64 n, .int .u64 r, .slice As SL.length cs, .int .u64 a, .int .u64 b, .int .u64 f, .slice At TL.length ct, .slice Ak KL.length ck] (w.heap.size + 1) 31 #[.int .i64 node, .int .u64 th, .bool su, .int .u64 old, .int .u64 g, .int .u64 n, .int .u64 r, .slice As' SL.length cs', .int .u64 a, .int .u64 b, .int .u64 f, .slice At' TL.length ct', .slice Ak' KL.length ck'] _ := ⟨(Blk.new w 31 #[.int .i64 node, .int .u64 th, .bool su, .int .u64 old, .int .u64 g, .int .u64 n, .int .u64 r, .slice As SL.length cs, .int .u64 a, .int .u64 b, .int .u64 f, .slice At TL.length ct, .slice Ak KL.length ck]).alloc (.cells #[.int .i64 node, .int .u64 th, .bool su, .int .u64 old, .int .u64 g, .int .u64 n, .int .u64 r, .slice As' SL.length cs', .int .u64 a, .int .u64 b, .int .u64 f, .slice At' TL.length ct', .slice Ak' KL.length ck'] 31), Blk.new1 w (.cells #[.int .i64 node, .int .u64 th, .bool su, .int .u64 old, .int .u64 g, .int .u64 n, .int .u64 r, .slice As SL.length cs, .int .u64 a, .int .u64 b, .int .u64 f, .slice At TL.length ct, .slice Ak KL.length ck] 31) 31 #[.int .i64 node, .int .u64 th, .bool su, .int .u64 old, .int .u64 g, .int .u64 n, .int .u64 r, .slice As' SL.length cs', .int .u64 a, .int .u64 b, .int .u64 f, .slice At' TL.length ct', .slice Ak' KL.length ck'], bal (bal (Below.refl _ _) (.cells #[.int .i64 node, .int .u64 th, .bool su, .int .u64 old, .int .u64 g, .int .u64 n, .int .u64 r, .slice As SL.length cs, .int .u64 a, .int .u64 b, .int .u64 f, .slice At TL.length ct, .slice Ak KL.length ck] 31)) (.cells #[.int .i64 node, .int .u64 th, .bool su, .int .u64 old, .int .u64 g, .int .u64 n, .int .u64 r, .slice As' SL.length cs', .int .u64 a, .int .u64 b, .int .u64 f, .slice At' TL.length ct', .slice Ak' KL.length ck'] 31)⟩
  obtain ⟨g1, hg1⟩ : ∃ g1, w.heap.size + 1 = g1 := ⟨_, rfl⟩
  rw [hg1] at k0 ⊢
  clear hg1
  obtain ⟨g0, hg0⟩ : ∃ g0, w.heap.size = g0 := ⟨_, rfl⟩
  rw [hg0] at k0 ⊢
  clear hg0
  generalize (w.alloc (.cells #[.int .i64 node, .int .u64 th, .bool su, .int .u64 old, .int .u64 g, .int .u64 n, .int .u64 r, .slice As SL.length cs, .int .u64 a, .int .u64 b, .int .u64 f, .slice At TL.length ct, .slice Ak KL.length ck] 31)).alloc (.cells #[.int .i64 node, .int .u64 th, .bool su, .int .u64 old, .int .u64 g, .int .u64 n, .int .u64 r, .slice As' SL.length cs', .int .u64 a, .int .u64 b, .int .u64 f, .slice At' TL.length ct', .slice Ak' KL.length ck'] 31) = w1 at k0 ⊢
  obtain ⟨x0, x1, x2, x3, x4, x5, x6, x7, _, _, _, _, _⟩ := k0.b.c13
  obtain ⟨y0, y1, y2, y3, y4, y5, y6, y7, _, _, _, _, _⟩ := k0.c.c13
  have K1 := Lib.hid k0
  clear k0
  cases su
  all_goals
    go_wp2_with fail
    refine (SS'.out _ K1.out.hB).mono ?_
    rintro e w2 ⟨rfl, hb⟩
    have kk := K1.out.below hb
    clear K1 hb x0 x1 x2 x3 x4 x5 x6 x7 y0 y1 y2 y3 y4 y5 y6 y7
    obtain ⟨_, _, _, _, _, _, _, _, x8, x9, x10, x11, x12⟩ := kk.b.c13
    obtain ⟨_, _, _, _, _, _, _, _, y8, y9, y10, y11, y12⟩ := kk.c.c13
    have K1 := Lib.hid kk
    clear kk
    go_wp2_with fail
    refine (SR'.out _ K1.out.hB).mono ?_
    rintro e w3 ⟨rfl, hb⟩
    have HB := Lib.hid (bnext K1.out.hB hb)
    clear K1 hb x8 x9 x10 x11 x12 y8 y9 y10 y11 y12
    go_wp2_with fail
    go_ret
    exact ⟨rfl, HB.out⟩

theorem SamePeer_same (p : Pr) (V V' : Value) (w : World) (h : PrAt w V p) (h' : PrAt w V' p) : Calls Try.prog 22 #[V, V'] w (RetB true w) := by
  obtain ⟨vs, vt, vk, rfl, h1, h2, h3⟩ := h
  obtain ⟨As, cs, rfl⟩ := h1.form
  obtain ⟨At, ct, rfl⟩ := h2.form
  obtain ⟨Ak, ck, rfl⟩ := h3.form
  obtain ⟨vs, vt, vk, rfl, h4, h5, h6⟩ := h'
  obtain ⟨As', cs', rfl⟩ := h4.form
  obtain ⟨At', ct', rfl⟩ := h5.form
  obtain ⟨Ak', ck', rfl⟩ := h6.form
  exact SamePeer_raw _ _ _ _ _ _ _ p.s.sl _ _ _ _ _ _ _ p.r.tk p.r.kp _ _ _ _ _ _ _ _ w (fun w' hb => SameSend_same _ _ _ _ _ _ _ _ w' (h1.below hb) (h4.below hb)) (fun w' hb => SameRecv_same _ _ _ _ _ _ _ _ _ _ _ _ _ w' (h2.below hb) (h5.below hb) (h3.below hb) (h6.below hb))

end Go.Proofs.Ytfgkkflbpfocjaa

namespace Go.Proofs.Ytfgkkflbpfocjaa
open Go.RowKit
set_option linter.unusedVariables false
set_option linter.unusedSimpArgs false

theorem PrB.form {B : Nat} {w : World} {V : Value} {p : Pr} (h : PrB B w V p) : ∃ As cs At ct Ak ck, V = .agg #[.int .i64 p.node, .int .u64 p.theirs, .bool p.sure, .int .u64 p.old, .int .u64 p.s.g, .int .u64 p.s.n, .int .u64 p.s.r, .slice As p.s.sl.length cs, .int .u64 p.r.g, .int .u64 p.r.r, .int .u64 p.r.fl, .slice At p.r.tk.length ct, .slice Ak p.r.kp.length ck] := by
  obtain ⟨As, cs, At, ct, Ak, ck, rfl, _⟩ := h
  exact ⟨_, _, _, _, _, _, rfl⟩

set_option maxRecDepth 100000 in
set_option maxHeartbeats 4000000 in
theorem pm_1 (p : Pr) (boot : Int) (f : Fr) (A0 : Option Addr) (a0 : Nat) (B0 : Option Addr) (b0 : Nat) (C0 : Option Addr) (c0 : Nat) (w : World) (LG : ∀ w', Below w.heap.size w w' → Calls Try.prog 11 #[.agg #[.int .i64 p.node, .int .u64 p.theirs, .bool p.sure, .int .u64 p.old, .int .u64 p.s.g, .int .u64 p.s.n, .int .u64 p.s.r, .slice A0 p.s.sl.length a0, .int .u64 p.r.g, .int .u64 p.r.r, .int .u64 p.r.fl, .slice B0 p.r.tk.length b0, .slice C0 p.r.kp.length c0]] w' (RetB true w')) :
    Calls Try.prog 5 #[.agg #[.int .i64 p.node, .int .u64 p.theirs, .bool p.sure, .int .u64 p.old, .int .u64 p.s.g, .int .u64 p.s.n, .int .u64 p.s.r, .slice A0 p.s.sl.length a0, .int .u64 p.r.g, .int .u64 p.r.r, .int .u64 p.r.fl, .slice B0 p.r.tk.length b0, .slice C0 p.r.kp.length c0], .int .u64 boot, .agg #[.int .i64 f.kind, .int .i64 f.frm, .int .i64 f.to, .int .u64 f.mine, .int .u64 f.yours, .int .u64 f.a, .int .u64 f.b, .int .i64 f.inode, .int .u64 f.iseq, .int .i64 f.ioff, .int .i64 f.bn.node, .int .u64 f.bn.seq, .int .i64 f.bn.off, .int .i64 f.bn.dest, .int .i64 f.bn.prio, .int .i64 f.bn.born, .int .i64 f.bn.life, .int .i64 f.bn.total, .string f.bn.data]] w (RetB true w) := by
  have LG' := Lib.hid LG
  clear LG
  go_enter Try.func5, Try.ntmps5
  go_upto_region 1 with fail
  have k0 : BK2 w w.heap.size 31 #[.int .i64 p.node, .int .u64 p.theirs, .bool p.sure, .int .u64 p.old, .int .u64 p.s.g, .int .u64 p.s.n, .int .u64 p.s.r, .slice A0 p.s.sl.length a0, .int .u64 p.r.g, .int .u64 p.r.r, .int .u64 p.r.fl, .slice B0 p.r.tk.length b0, .slice C0 p.r.kp.length c0] (w.heap.size + 1) 51 #[.int .i64 f.kind, .int .i64 f.frm, .int .i64 f.to, .int .u64 f.mine, .int .u64 f.yours, .int .u64 f.a, .int .u64 f.b, .int .i64 f.inode, .int .u64 f.iseq, .int .i64 f.ioff, .int .i64 f.bn.node, .int .u64 f.bn.seq, .int .i64 f.bn.off, .int .i64 f.bn.dest, .int .i64 f.bn.prio, .int .i64 f.bn.born, .int .i64 f.bn.life, .int .i64 f.bn.total, .string f.bn.data] _ := ⟨(Blk.new w 31 #[.int .i64 p.node, .int .u64 p.theirs, .bool p.sure, .int .u64 p.old, .int .u64 p.s.g, .int .u64 p.s.n, .int .u64 p.s.r, .slice A0 p.s.sl.length a0, .int .u64 p.r.g, .int .u64 p.r.r, .int .u64 p.r.fl, .slice B0 p.r.tk.length b0, .slice C0 p.r.kp.length c0]).alloc (.cells #[.int .i64 f.kind, .int .i64 f.frm, .int .i64 f.to, .int .u64 f.mine, .int .u64 f.yours, .int .u64 f.a, .int .u64 f.b, .int .i64 f.inode, .int .u64 f.iseq, .int .i64 f.ioff, .int .i64 f.bn.node, .int .u64 f.bn.seq, .int .i64 f.bn.off, .int .i64 f.bn.dest, .int .i64 f.bn.prio, .int .i64 f.bn.born, .int .i64 f.bn.life, .int .i64 f.bn.total, .string f.bn.data] 51), Blk.new1 w (.cells #[.int .i64 p.node, .int .u64 p.theirs, .bool p.sure, .int .u64 p.old, .int .u64 p.s.g, .int .u64 p.s.n, .int .u64 p.s.r, .slice A0 p.s.sl.length a0, .int .u64 p.r.g, .int .u64 p.r.r, .int .u64 p.r.fl, .slice B0 p.r.tk.length b0, .slice C0 p.r.kp.length c0] 31) 51 #[.int .i64 f.kind, .int .i64 f.frm, .int .i64 f.to, .int .u64 f.mine, .int .u64 f.yours, .int .u64 f.a, .int .u64 f.b, .int .i64 f.inode, .int .u64 f.iseq, .int .i64 f.ioff, .int .i64 f.bn.node, .int .u64 f.bn.seq, .int .i64 f.bn.off, .int .i64 f.bn.dest, .int .i64 f.bn.prio, .int .i64 f.bn.born, .int .i64 f.bn.life, .int .i64 f.bn.total, .string f.bn.data], bal (bal (Below.refl _ _) (.cells #[.int .i64 p.node, .int .u64 p.theirs, .bool p.sure, .int .u64 p.old, .int .u64 p.s.g, .int .u64 p.s.n, .int .u64 p.s.r, .slice A0 p.s.sl.length a0, .int .u64 p.r.g, .int .u64 p.r.r, .int .u64 p.r.fl, .slice B0 p.r.tk.length b0, .slice C0 p.r.kp.length c0] 31)) (.cells #[.int .i64 f.kind, .int .i64 f.frm, .int .i64 f.to, .int .u64 f.mine, .int .u64 f.yours, .int .u64 f.a, .int .u64 f.b, .int .i64 f.inode, .int .u64 f.iseq, .int .i64 f.ioff, .int .i64 f.bn.node, .int .u64 f.bn.seq, .int .i64 f.bn.off, .int .i64 f.bn.dest, .int .i64 f.bn.prio, .int .i64 f.bn.born, .int .i64 f.bn.life, .int .i64 f.bn.total, .string f.bn.data] 51)⟩
  obtain ⟨g1, hg1⟩ : ∃ g1, w.heap.size + 1 = g1 := ⟨_, rfl⟩
  rw [hg1] at k0 ⊢
  clear hg1
  obtain ⟨g0, hg0⟩ : ∃ g0, w.heap.size = g0 := ⟨_, rfl⟩
  rw [hg0] at k0 ⊢
  clear hg0
  generalize (w.alloc (.cells #[.int .i64 p.node, .int .u64 p.theirs, .bool p.sure, .int .u64 p.old, .int .u64 p.s.g, .int .u64 p.s.n, .int .u64 p.s.r, .slice A0 p.s.sl.length a0, .int .u64 p.r.g, .int .u64 p.r.r, .int .u64 p.r.fl, .slice B0 p.r.tk.length b0, .slice C0 p.r.kp.length c0] 31)).alloc (.cells #[.int .i64 f.kind, .int .i64 f.frm, .int .i64 f.to, .int .u64 f.mine, .int .u64 f.yours, .int .u64 f.a, .int .u64 f.b, .int .i64 f.inode, .int .u64 f.iseq, .int .i64 f.ioff, .int .i64 f.bn.node, .int .u64 f.bn.seq, .int .i64 f.bn.off, .int .i64 f.bn.dest, .int .i64 f.bn.prio, .int .i64 f.bn.born, .int .i64 f.bn.life, .int .i64 f.bn.total, .string f.bn.data] 51) = w1 at k0 ⊢
  have K1 := Lib.hid k0
  have kb := k0.b
  have kc := k0.c
  clear k0
  go_wp2_with (refine wpList_load_row (by rfl) 31 _ (by rfl) g0 (by rfl) 31 #[.int .i64 p.node, .int .u64 p.theirs, .bool p.sure, .int .u64 p.old, .int .u64 p.s.g, .int .u64 p.s.n, .int .u64 p.s.r, .slice A0 p.s.sl.length a0, .int .u64 p.r.g, .int .u64 p.r.r, .int .u64 p.r.fl, .slice B0 p.r.tk.length b0, .slice C0 p.r.kp.length c0] (0, 0) _ kb Try.underlying31 (by rfl) (by kernel_rfl) ?_)
  refine (LG'.out _ K1.out.hB).mono ?_
  rintro e w2 ⟨rfl, hb1⟩
  have kk := K1.out.below hb1
  clear K1 kb kc hb1
  have kb := kk.b
  have kc := kk.c
  have hl0 := kb.lt
  have hl1 := kc.lt
  have K1 := Lib.hid kk
  clear kk
  go_wp2_with fail
  refine (awake_any _).mono ?_
  rintro e w3 ⟨rfl, hb1⟩
  have HB := Lib.hid (bnext K1.out.hB hb1)
  clear K1 kb kc hb1
  go_wp2_with fail
  go_ret
  exact ⟨rfl, HB.out⟩

set_option maxRecDepth 100000 in
set_option maxHeartbeats 4000000 in
theorem pm_2 (p : Pr) (boot : Int) (f : Fr) (A0 : Option Addr) (a0 : Nat) (B0 : Option Addr) (b0 : Nat) (C0 : Option Addr) (c0 : Nat) (w : World) (LG : ∀ w', Below w.heap.size w w' → Calls Try.prog 11 #[.agg #[.int .i64 p.node, .int .u64 p.theirs, .bool p.sure, .int .u64 p.old, .int .u64 p.s.g, .int .u64 p.s.n, .int .u64 p.s.r, .slice A0 p.s.sl.length a0, .int .u64 p.r.g, .int .u64 p.r.r, .int .u64 p.r.fl, .slice B0 p.r.tk.length b0, .slice C0 p.r.kp.length c0]] w' (RetB false w')) (hd : decide ((f.bn.data.size : Int) > 1100) = true) :
    Calls Try.prog 5 #[.agg #[.int .i64 p.node, .int .u64 p.theirs, .bool p.sure, .int .u64 p.old, .int .u64 p.s.g, .int .u64 p.s.n, .int .u64 p.s.r, .slice A0 p.s.sl.length a0, .int .u64 p.r.g, .int .u64 p.r.r, .int .u64 p.r.fl, .slice B0 p.r.tk.length b0, .slice C0 p.r.kp.length c0], .int .u64 boot, .agg #[.int .i64 f.kind, .int .i64 f.frm, .int .i64 f.to, .int .u64 f.mine, .int .u64 f.yours, .int .u64 f.a, .int .u64 f.b, .int .i64 f.inode, .int .u64 f.iseq, .int .i64 f.ioff, .int .i64 f.bn.node, .int .u64 f.bn.seq, .int .i64 f.bn.off, .int .i64 f.bn.dest, .int .i64 f.bn.prio, .int .i64 f.bn.born, .int .i64 f.bn.life, .int .i64 f.bn.total, .string f.bn.data]] w (RetB true w) := by
  have LG' := Lib.hid LG
  clear LG
  go_enter Try.func5, Try.ntmps5
  go_upto_region 1 with fail
  have k0 : BK2 w w.heap.size 31 #[.int .i64 p.node, .int .u64 p.theirs, .bool p.sure, .int .u64 p.old, .int .u64 p.s.g, .int .u64 p.s.n, .int .u64 p.s.r, .slice A0 p.s.sl.length a0, .int .u64 p.r.g, .int .u64 p.r.r, .int .u64 p.r.fl, .slice B0 p.r.tk.length b0, .slice C0 p.r.kp.length c0] (w.heap.size + 1) 51 #[.int .i64 f.kind, .int .i64 f.frm, .int .i64 f.to, .int .u64 f.mine, .int .u64 f.yours, .int .u64 f.a, .int .u64 f.b, .int .i64 f.inode, .int .u64 f.iseq, .int .i64 f.ioff, .int .i64 f.bn.node, .int .u64 f.bn.seq, .int .i64 f.bn.off, .int .i64 f.bn.dest, .int .i64 f.bn.prio, .int .i64 f.bn.born, .int .i64 f.bn.life, .int .i64 f.bn.total, .string f.bn.data] _ := ⟨(Blk.new w 31 #[.int .i64 p.node, .int .u64 p.theirs, .bool p.sure, .int .u64 p.old, .int .u64 p.s.g, .int .u64 p.s.n, .int .u64 p.s.r, .slice A0 p.s.sl.length a0, .int .u64 p.r.g, .int .u64 p.r.r, .int .u64 p.r.fl, .slice B0 p.r.tk.length b0, .slice C0 p.r.kp.length c0]).alloc (.cells #[.int .i64 f.kind, .int .i64 f.frm, .int .i64 f.to, .int .u64 f.mine, .int .u64 f.yours, .int .u64 f.a, .int .u64 f.b, .int .i64 f.inode, .int .u64 f.iseq, .int .i64 f.ioff, .int .i64 f.bn.node, .int .u64 f.bn.seq, .int .i64 f.bn.off, .int .i64 f.bn.dest, .int .i64 f.bn.prio, .int .i64 f.bn.born, .int .i64 f.bn.life, .int .i64 f.bn.total, .string f.bn.data] 51), Blk.new1 w (.cells #[.int .i64 p.node, .int .u64 p.theirs, .bool p.sure, .int .u64 p.old, .int .u64 p.s.g, .int .u64 p.s.n, .int .u64 p.s.r, .slice A0 p.s.sl.length a0, .int .u64 p.r.g, .int .u64 p.r.r, .int .u64 p.r.fl, .slice B0 p.r.tk.length b0, .slice C0 p.r.kp.length c0] 31) 51 #[.int .i64 f.kind, .int .i64 f.frm, .int .i64 f.to, .int .u64 f.mine, .int .u64 f.yours, .int .u64 f.a, .int .u64 f.b, .int .i64 f.inode, .int .u64 f.iseq, .int .i64 f.ioff, .int .i64 f.bn.node, .int .u64 f.bn.seq, .int .i64 f.bn.off, .int .i64 f.bn.dest, .int .i64 f.bn.prio, .int .i64 f.bn.born, .int .i64 f.bn.life, .int .i64 f.bn.total, .string f.bn.data], bal (bal (Below.refl _ _) (.cells #[.int .i64 p.node, .int .u64 p.theirs, .bool p.sure, .int .u64 p.old, .int .u64 p.s.g, .int .u64 p.s.n, .int .u64 p.s.r, .slice A0 p.s.sl.length a0, .int .u64 p.r.g, .int .u64 p.r.r, .int .u64 p.r.fl, .slice B0 p.r.tk.length b0, .slice C0 p.r.kp.length c0] 31)) (.cells #[.int .i64 f.kind, .int .i64 f.frm, .int .i64 f.to, .int .u64 f.mine, .int .u64 f.yours, .int .u64 f.a, .int .u64 f.b, .int .i64 f.inode, .int .u64 f.iseq, .int .i64 f.ioff, .int .i64 f.bn.node, .int .u64 f.bn.seq, .int .i64 f.bn.off, .int .i64 f.bn.dest, .int .i64 f.bn.prio, .int .i64 f.bn.born, .int .i64 f.bn.life, .int .i64 f.bn.total, .string f.bn.data] 51)⟩
  obtain ⟨g1, hg1⟩ : ∃ g1, w.heap.size + 1 = g1 := ⟨_, rfl⟩
  rw [hg1] at k0 ⊢
  clear hg1
  obtain ⟨g0, hg0⟩ : ∃ g0, w.heap.size = g0 := ⟨_, rfl⟩
  rw [hg0] at k0 ⊢
  clear hg0
  generalize (w.alloc (.cells #[.int .i64 p.node, .int .u64 p.theirs, .bool p.sure, .int .u64 p.old, .int .u64 p.s.g, .int .u64 p.s.n, .int .u64 p.s.r, .slice A0 p.s.sl.length a0, .int .u64 p.r.g, .int .u64 p.r.r, .int .u64 p.r.fl, .slice B0 p.r.tk.length b0, .slice C0 p.r.kp.length c0] 31)).alloc (.cells #[.int .i64 f.kind, .int .i64 f.frm, .int .i64 f.to, .int .u64 f.mine, .int .u64 f.yours, .int .u64 f.a, .int .u64 f.b, .int .i64 f.inode, .int .u64 f.iseq, .int .i64 f.ioff, .int .i64 f.bn.node, .int .u64 f.bn.seq, .int .i64 f.bn.off, .int .i64 f.bn.dest, .int .i64 f.bn.prio, .int .i64 f.bn.born, .int .i64 f.bn.life, .int .i64 f.bn.total, .string f.bn.data] 51) = w1 at k0 ⊢
  have K1 := Lib.hid k0
  have kb := k0.b
  have kc := k0.c
  clear k0
  go_wp2_with (refine wpList_load_row (by rfl) 31 _ (by rfl) g0 (by rfl) 31 #[.int .i64 p.node, .int .u64 p.theirs, .bool p.sure, .int .u64 p.old, .int .u64 p.s.g, .int .u64 p.s.n, .int .u64 p.s.r, .slice A0 p.s.sl.length a0, .int .u64 p.r.g, .int .u64 p.r.r, .int .u64 p.r.fl, .slice B0 p.r.tk.length b0, .slice C0 p.r.kp.length c0] (0, 0) _ kb Try.underlying31 (by rfl) (by kernel_rfl) ?_)
  refine (LG'.out _ K1.out.hB).mono ?_
  rintro e w2 ⟨rfl, hb1⟩
  have kk := K1.out.below hb1
  clear K1 kb kc hb1
  have kb := kk.b
  have kc := kk.c
  have hl0 := kb.lt
  have hl1 := kc.lt
  have K1 := Lib.hid kk
  clear kk
  have d18 : w2.cell? ⟨g1, 18, none⟩ = some (.string f.bn.data) := kc.cell 18
  go_wp2_with fail
  refine (awake_any _).mono ?_
  rintro e w3 ⟨rfl, hb1⟩
  have HB := Lib.hid (bnext K1.out.hB hb1)
  clear K1 kb kc hb1
  go_wp2_with fail
  go_ret
  exact ⟨rfl, HB.out⟩

set_option maxRecDepth 100000 in
set_option maxHeartbeats 4000000 in
theorem pm_3 (p : Pr) (boot : Int) (f : Fr) (A0 : Option Addr) (a0 : Nat) (B0 : Option Addr) (b0 : Nat) (C0 : Option Addr) (c0 : Nat) (w : World) (LG : ∀ w', Below w.heap.size w w' → Calls Try.prog 11 #[.agg #[.int .i64 p.node, .int .u64 p.theirs, .bool p.sure, .int .u64 p.old, .int .u64 p.s.g, .int .u64 p.s.n, .int .u64 p.s.r, .slice A0 p.s.sl.length a0, .int .u64 p.r.g, .int .u64 p.r.r, .int .u64 p.r.fl, .slice B0 p.r.tk.length b0, .slice C0 p.r.kp.length c0]] w' (RetB false w')) (hd : decide ((f.bn.data.size : Int) > 1100) = false) (OW : ∀ w', Below w.heap.size w w' → Calls Try.prog 17 #[.agg #[.int .i64 p.node, .int .u64 p.theirs, .bool p.sure, .int .u64 p.old, .int .u64 p.s.g, .int .u64 p.s.n, .int .u64 p.s.r, .slice A0 p.s.sl.length a0, .int .u64 p.r.g, .int .u64 p.r.r, .int .u64 p.r.fl, .slice B0 p.r.tk.length b0, .slice C0 p.r.kp.length c0]] w' (fun e w'' => ∃ V', e = .returned V' ∧ PrB w'.heap.size w'' V' p ∧ Below w'.heap.size w' w'')) (q : Pr) (vd : Int) (hl : Bool) (er : Int) (MT : ∀ V w', PrAt w' V p → Calls Try.prog 18 #[V, .int .u64 boot, .agg #[.int .i64 f.kind, .int .i64 f.frm, .int .i64 f.to, .int .u64 f.mine, .int .u64 f.yours, .int .u64 f.a, .int .u64 f.b, .int .i64 f.inode, .int .u64 f.iseq, .int .i64 f.ioff, .int .i64 f.bn.node, .int .u64 f.bn.seq, .int .i64 f.bn.off, .int .i64 f.bn.dest, .int .i64 f.bn.prio, .int .i64 f.bn.born, .int .i64 f.bn.life, .int .i64 f.bn.total, .string f.bn.data]] w' (RetMet (q, vd, hl) er w')) (RM : ∀ V w', PrAt w' V p → Calls Try.prog 19 #[V, .int .u64 boot, .agg #[.int .i64 f.kind, .int .i64 f.frm, .int .i64 f.to, .int .u64 f.mine, .int .u64 f.yours, .int .u64 f.a, .int .u64 f.b, .int .i64 f.inode, .int .u64 f.iseq, .int .i64 f.ioff, .int .i64 f.bn.node, .int .u64 f.bn.seq, .int .i64 f.bn.off, .int .i64 f.bn.dest, .int .i64 f.bn.prio, .int .i64 f.bn.born, .int .i64 f.bn.life, .int .i64 f.bn.total, .string f.bn.data]] w' (RetMet (q, vd, hl) er w')) (ce : Int) (CK : ∀ V w', PrAt w' V p → Calls Try.prog 20 #[V] w' (RetI .i64 ce w')) (RK : ∀ V w', PrAt w' V p → Calls Try.prog 21 #[V] w' (RetI .i64 ce w')) (HV : PrAt w (.agg #[.int .i64 p.node, .int .u64 p.theirs, .bool p.sure, .int .u64 p.old, .int .u64 p.s.g, .int .u64 p.s.n, .int .u64 p.s.r, .slice A0 p.s.sl.length a0, .int .u64 p.r.g, .int .u64 p.r.r, .int .u64 p.r.fl, .slice B0 p.r.tk.length b0, .slice C0 p.r.kp.length c0]) p) :
    Calls Try.prog 5 #[.agg #[.int .i64 p.node, .int .u64 p.theirs, .bool p.sure, .int .u64 p.old, .int .u64 p.s.g, .int .u64 p.s.n, .int .u64 p.s.r, .slice A0 p.s.sl.length a0, .int .u64 p.r.g, .int .u64 p.r.r, .int .u64 p.r.fl, .slice B0 p.r.tk.length b0, .slice C0 p.r.kp.length c0], .int .u64 boot, .agg #[.int .i64 f.kind, .int .i64 f.frm, .int .i64 f.to, .int .u64 f.mine, .int .u64 f.yours, .int .u64 f.a, .int .u64 f.b, .int .i64 f.inode, .int .u64 f.iseq, .int .i64 f.ioff, .int .i64 f.bn.node, .int .u64 f.bn.seq, .int .i64 f.bn.off, .int .i64 f.bn.dest, .int .i64 f.bn.prio, .int .i64 f.bn.born, .int .i64 f.bn.life, .int .i64 f.bn.total, .string f.bn.data]] w (RetB true w) := by
  have LG' := Lib.hid LG
  clear LG
  have OW' := Lib.hid OW
  clear OW
  have MT' := Lib.hid MT
  clear MT
  have RM' := Lib.hid RM
  clear RM
  have CK' := Lib.hid CK
  clear CK
  have RK' := Lib.hid RK
  clear RK
  have HV' := Lib.hid HV
  clear HV
  go_enter Try.func5, Try.ntmps5
  go_upto_region 1 with fail
  have k0 : BK2 w w.heap.size 31 #[.int .i64 p.node, .int .u64 p.theirs, .bool p.sure, .int .u64 p.old, .int .u64 p.s.g, .int .u64 p.s.n, .int .u64 p.s.r, .slice A0 p.s.sl.length a0, .int .u64 p.r.g, .int .u64 p.r.r, .int .u64 p.r.fl, .slice B0 p.r.tk.length b0, .slice C0 p.r.kp.length c0] (w.heap.size + 1) 51 #[.int .i64 f.kind, .int .i64 f.frm, .int .i64 f.to, .int .u64 f.mine, .int .u64 f.yours, .int .u64 f.a, .int .u64 f.b, .int .i64 f.inode, .int .u64 f.iseq, .int .i64 f.ioff, .int .i64 f.bn.node, .int .u64 f.bn.seq, .int .i64 f.bn.off, .int .i64 f.bn.dest, .int .i64 f.bn.prio, .int .i64 f.bn.born, .int .i64 f.bn.life, .int .i64 f.bn.total, .string f.bn.data] _ := ⟨(Blk.new w 31 #[.int .i64 p.node, .int .u64 p.theirs, .bool p.sure, .int .u64 p.old, .int .u64 p.s.g, .int .u64 p.s.n, .int .u64 p.s.r, .slice A0 p.s.sl.length a0, .int .u64 p.r.g, .int .u64 p.r.r, .int .u64 p.r.fl, .slice B0 p.r.tk.length b0, .slice C0 p.r.kp.length c0]).alloc (.cells #[.int .i64 f.kind, .int .i64 f.frm, .int .i64 f.to, .int .u64 f.mine, .int .u64 f.yours, .int .u64 f.a, .int .u64 f.b, .int .i64 f.inode, .int .u64 f.iseq, .int .i64 f.ioff, .int .i64 f.bn.node, .int .u64 f.bn.seq, .int .i64 f.bn.off, .int .i64 f.bn.dest, .int .i64 f.bn.prio, .int .i64 f.bn.born, .int .i64 f.bn.life, .int .i64 f.bn.total, .string f.bn.data] 51), Blk.new1 w (.cells #[.int .i64 p.node, .int .u64 p.theirs, .bool p.sure, .int .u64 p.old, .int .u64 p.s.g, .int .u64 p.s.n, .int .u64 p.s.r, .slice A0 p.s.sl.length a0, .int .u64 p.r.g, .int .u64 p.r.r, .int .u64 p.r.fl, .slice B0 p.r.tk.length b0, .slice C0 p.r.kp.length c0] 31) 51 #[.int .i64 f.kind, .int .i64 f.frm, .int .i64 f.to, .int .u64 f.mine, .int .u64 f.yours, .int .u64 f.a, .int .u64 f.b, .int .i64 f.inode, .int .u64 f.iseq, .int .i64 f.ioff, .int .i64 f.bn.node, .int .u64 f.bn.seq, .int .i64 f.bn.off, .int .i64 f.bn.dest, .int .i64 f.bn.prio, .int .i64 f.bn.born, .int .i64 f.bn.life, .int .i64 f.bn.total, .string f.bn.data], bal (bal (Below.refl _ _) (.cells #[.int .i64 p.node, .int .u64 p.theirs, .bool p.sure, .int .u64 p.old, .int .u64 p.s.g, .int .u64 p.s.n, .int .u64 p.s.r, .slice A0 p.s.sl.length a0, .int .u64 p.r.g, .int .u64 p.r.r, .int .u64 p.r.fl, .slice B0 p.r.tk.length b0, .slice C0 p.r.kp.length c0] 31)) (.cells #[.int .i64 f.kind, .int .i64 f.frm, .int .i64 f.to, .int .u64 f.mine, .int .u64 f.yours, .int .u64 f.a, .int .u64 f.b, .int .i64 f.inode, .int .u64 f.iseq, .int .i64 f.ioff, .int .i64 f.bn.node, .int .u64 f.bn.seq, .int .i64 f.bn.off, .int .i64 f.bn.dest, .int .i64 f.bn.prio, .int .i64 f.bn.born, .int .i64 f.bn.life, .int .i64 f.bn.total, .string f.bn.data] 51)⟩
  obtain ⟨g1, hg1⟩ : ∃ g1, w.heap.size + 1 = g1 := ⟨_, rfl⟩
  rw [hg1] at k0 ⊢
  clear hg1
  obtain ⟨g0, hg0⟩ : ∃ g0, w.heap.size = g0 := ⟨_, rfl⟩
  rw [hg0] at k0 ⊢
  clear hg0
  generalize (w.alloc (.cells #[.int .i64 p.node, .int .u64 p.theirs, .bool p.sure, .int .u64 p.old, .int .u64 p.s.g, .int .u64 p.s.n, .int .u64 p.s.r, .slice A0 p.s.sl.length a0, .int .u64 p.r.g, .int .u64 p.r.r, .int .u64 p.r.fl, .slice B0 p.r.tk.length b0, .slice C0 p.r.kp.length c0] 31)).alloc (.cells #[.int .i64 f.kind, .int .i64 f.frm, .int .i64 f.to, .int .u64 f.mine, .int .u64 f.yours, .int .u64 f.a, .int .u64 f.b, .int .i64 f.inode, .int .u64 f.iseq, .int .i64 f.ioff, .int .i64 f.bn.node, .int .u64 f.bn.seq, .int .i64 f.bn.off, .int .i64 f.bn.dest, .int .i64 f.bn.prio, .int .i64 f.bn.born, .int .i64 f.bn.life, .int .i64 f.bn.total, .string f.bn.data] 51) = w1 at k0 ⊢
  have K1 := Lib.hid k0
  have kb := k0.b
  have kc := k0.c
  clear k0
  go_wp2_with (refine wpList_load_row (by rfl) 31 _ (by rfl) g0 (by rfl) 31 #[.int .i64 p.node, .int .u64 p.theirs, .bool p.sure, .int .u64 p.old, .int .u64 p.s.g, .int .u64 p.s.n, .int .u64 p.s.r, .slice A0 p.s.sl.length a0, .int .u64 p.r.g, .int .u64 p.r.r, .int .u64 p.r.fl, .slice B0 p.r.tk.length b0, .slice C0 p.r.kp.length c0] (0, 0) _ kb Try.underlying31 (by rfl) (by kernel_rfl) ?_)
  refine (LG'.out _ K1.out.hB).mono ?_
  rintro e w2 ⟨rfl, hb1⟩
  have kk := K1.out.below hb1
  clear K1 kb kc hb1
  have kb := kk.b
  have kc := kk.c
  have hl0 := kb.lt
  have hl1 := kc.lt
  have K1 := Lib.hid kk
  clear kk
  have d18 : w2.cell? ⟨g1, 18, none⟩ = some (.string f.bn.data) := kc.cell 18
  go_wp2_with (refine wpList_load_row (by rfl) 31 _ (by rfl) g0 (by rfl) 31 #[.int .i64 p.node, .int .u64 p.theirs, .bool p.sure, .int .u64 p.old, .int .u64 p.s.g, .int .u64 p.s.n, .int .u64 p.s.r, .slice A0 p.s.sl.length a0, .int .u64 p.r.g, .int .u64 p.r.r, .int .u64 p.r.fl, .slice B0 p.r.tk.length b0, .slice C0 p.r.kp.length c0] (0, 0) _ kb Try.underlying31 (by rfl) (by kernel_rfl) ?_)
  refine (OW'.out _ K1.out.hB).mono ?_
  rintro e w3 ⟨V1, rfl, hV1, hb⟩
  have kk := K1.out.below hb
  obtain ⟨A1, a1, B1, b1, C1, c1, rfl⟩ := hV1.form
  have RX : PrAt (w3.alloc (.cells #[.int .i64 p.node, .int .u64 p.theirs, .bool p.sure, .int .u64 p.old, .int .u64 p.s.g, .int .u64 p.s.n, .int .u64 p.s.r, .slice A1 p.s.sl.length a1, .int .u64 p.r.g, .int .u64 p.r.r, .int .u64 p.r.fl, .slice B1 p.r.tk.length b1, .slice C1 p.r.kp.length c1] 31)) (.agg #[.int .i64 p.node, .int .u64 p.theirs, .bool p.sure, .int .u64 p.old, .int .u64 p.s.g, .int .u64 p.s.n, .int .u64 p.s.r, .slice A1 p.s.sl.length a1, .int .u64 p.r.g, .int .u64 p.r.r, .int .u64 p.r.fl, .slice B1 p.r.tk.length b1, .slice C1 p.r.kp.length c1]) p := hV1.at.below (bal (Below.refl _ _) _)
  clear K1 kb kc hb d18 hl0 hl1 hV1
  go_upto_region 4 with (first | (refine wpList_alloc_z (by rfl) 31 (by rfl) _ rfl #[.int .i64 0, .int .u64 0, .bool false, .int .u64 0, .int .u64 0, .int .u64 0, .int .u64 0, .slice none 0 0, .int .u64 0, .int .u64 0, .int .u64 0, .slice none 0 0, .slice none 0 0] (fun w => by kernel_rfl) ?_) | (refine wpList_store_new (by rfl) 31 _ _ (by rfl) w3 #[.int .i64 0, .int .u64 0, .bool false, .int .u64 0, .int .u64 0, .int .u64 0, .int .u64 0, .slice none 0 0, .int .u64 0, .int .u64 0, .int .u64 0, .slice none 0 0, .slice none 0 0] #[.int .i64 p.node, .int .u64 p.theirs, .bool p.sure, .int .u64 p.old, .int .u64 p.s.g, .int .u64 p.s.n, .int .u64 p.s.r, .slice A1 p.s.sl.length a1, .int .u64 p.r.g, .int .u64 p.r.r, .int .u64 p.r.fl, .slice B1 p.r.tk.length b1, .slice C1 p.r.kp.length c1] rfl (by rfl) (by rfl) (by kernel_rfl) rfl (by kernel_rfl) ?_))
  have k7 := Blk.new w3 31 #[.int .i64 p.node, .int .u64 p.theirs, .bool p.sure, .int .u64 p.old, .int .u64 p.s.g, .int .u64 p.s.n, .int .u64 p.s.r, .slice A1 p.s.sl.length a1, .int .u64 p.r.g, .int .u64 p.r.r, .int .u64 p.r.fl, .slice B1 p.r.tk.length b1, .slice C1 p.r.kp.length c1]
  have kb := kk.b.alloc (.cells #[.int .i64 p.node, .int .u64 p.theirs, .bool p.sure, .int .u64 p.old, .int .u64 p.s.g, .int .u64 p.s.n, .int .u64 p.s.r, .slice A1 p.s.sl.length a1, .int .u64 p.r.g, .int .u64 p.r.r, .int .u64 p.r.fl, .slice B1 p.r.tk.length b1, .slice C1 p.r.kp.length c1] 31)
  have kc := kk.c.alloc (.cells #[.int .i64 p.node, .int .u64 p.theirs, .bool p.sure, .int .u64 p.old, .int .u64 p.s.g, .int .u64 p.s.n, .int .u64 p.s.r, .slice A1 p.s.sl.length a1, .int .u64 p.r.g, .int .u64 p.r.r, .int .u64 p.r.fl, .slice B1 p.r.tk.length b1, .slice C1 p.r.kp.length c1] 31)
  have hB := bal kk.hB (.cells #[.int .i64 p.node, .int .u64 p.theirs, .bool p.sure, .int .u64 p.old, .int .u64 p.s.g, .int .u64 p.s.n, .int .u64 p.s.r, .slice A1 p.s.sl.length a1, .int .u64 p.r.g, .int .u64 p.r.r, .int .u64 p.r.fl, .slice B1 p.r.tk.length b1, .slice C1 p.r.kp.length c1] 31)
  obtain ⟨g7, hg7⟩ : ∃ g7, w3.heap.size = g7 := ⟨_, rfl⟩
  rw [hg7] at k7 ⊢
  clear hg7 kk
  generalize w3.alloc (.cells #[.int .i64 p.node, .int .u64 p.theirs, .bool p.sure, .int .u64 p.old, .int .u64 p.s.g, .int .u64 p.s.n, .int .u64 p.s.r, .slice A1 p.s.sl.length a1, .int .u64 p.r.g, .int .u64 p.r.r, .int .u64 p.r.fl, .slice B1 p.r.tk.length b1, .slice C1 p.r.kp.length c1] 31) = w4 at k7 kb kc hB RX ⊢
  have hl0 := kb.lt
  have hl1 := kc.lt
  have hl7 := k7.lt
  go_wp2_with (first | (refine wpList_load_row (by rfl) 31 _ (by rfl) g7 (by rfl) 31 #[.int .i64 p.node, .int .u64 p.theirs, .bool p.sure, .int .u64 p.old, .int .u64 p.s.g, .int .u64 p.s.n, .int .u64 p.s.r, .slice A1 p.s.sl.length a1, .int .u64 p.r.g, .int .u64 p.r.r, .int .u64 p.r.fl, .slice B1 p.r.tk.length b1, .slice C1 p.r.kp.length c1] (0, 0) _ k7 Try.underlying31 (by rfl) (by kernel_rfl) ?_) | (refine wpList_load_row (by rfl) 51 _ (by rfl) g1 (by rfl) 51 #[.int .i64 f.kind, .int .i64 f.frm, .int .i64 f.to, .int .u64 f.mine, .int .u64 f.yours, .int .u64 f.a, .int .u64 f.b, .int .i64 f.inode, .int .u64 f.iseq, .int .i64 f.ioff, .int .i64 f.bn.node, .int .u64 f.bn.seq, .int .i64 f.bn.off, .int .i64 f.bn.dest, .int .i64 f.bn.prio, .int .i64 f.bn.born, .int .i64 f.bn.life, .int .i64 f.bn.total, .string f.bn.data] (0, 0) _ kc Try.underlying51 (by rfl) (by kernel_rfl) ?_))
  refine (MT'.out _ _ RX).mono ?_
  rintro e w5 ⟨V2, rfl, hV2, hb⟩
  obtain ⟨A2, a2, B2, b2, C2, c2, rfl⟩ := hV2.form
  replace RX := RX.below (hb.trans ((bal (Below.refl _ _) (.cells #[.int .i64 q.node, .int .u64 q.theirs, .bool q.sure, .int .u64 q.old, .int .u64 q.s.g, .int .u64 q.s.n, .int .u64 q.s.r, .slice A2 q.s.sl.length a2, .int .u64 q.r.g, .int .u64 q.r.r, .int .u64 q.r.fl, .slice B2 q.r.tk.length b2, .slice C2 q.r.kp.length c2] 31)).mono hb.size))
  have RA : PrAt (w5.alloc (.cells #[.int .i64 q.node, .int .u64 q.theirs, .bool q.sure, .int .u64 q.old, .int .u64 q.s.g, .int .u64 q.s.n, .int .u64 q.s.r, .slice A2 q.s.sl.length a2, .int .u64 q.r.g, .int .u64 q.r.r, .int .u64 q.r.fl, .slice B2 q.r.tk.length b2, .slice C2 q.r.kp.length c2] 31)) (.agg #[.int .i64 q.node, .int .u64 q.theirs, .bool q.sure, .int .u64 q.old, .int .u64 q.s.g, .int .u64 q.s.n, .int .u64 q.s.r, .slice A2 q.s.sl.length a2, .int .u64 q.r.g, .int .u64 q.r.r, .int .u64 q.r.fl, .slice B2 q.r.tk.length b2, .slice C2 q.r.kp.length c2]) q := hV2.at.below (bal (Below.refl _ _) _)
  replace kb := (kb.below hb).alloc (.cells #[.int .i64 q.node, .int .u64 q.theirs, .bool q.sure, .int .u64 q.old, .int .u64 q.s.g, .int .u64 q.s.n, .int .u64 q.s.r, .slice A2 q.s.sl.length a2, .int .u64 q.r.g, .int .u64 q.r.r, .int .u64 q.r.fl, .slice B2 q.r.tk.length b2, .slice C2 q.r.kp.length c2] 31)
  replace kc := (kc.below hb).alloc (.cells #[.int .i64 q.node, .int .u64 q.theirs, .bool q.sure, .int .u64 q.old, .int .u64 q.s.g, .int .u64 q.s.n, .int .u64 q.s.r, .slice A2 q.s.sl.length a2, .int .u64 q.r.g, .int .u64 q.r.r, .int .u64 q.r.fl, .slice B2 q.r.tk.length b2, .slice C2 q.r.kp.length c2] 31)
  replace k7 := (k7.below hb).alloc (.cells #[.int .i64 q.node, .int .u64 q.theirs, .bool q.sure, .int .u64 q.old, .int .u64 q.s.g, .int .u64 q.s.n, .int .u64 q.s.r, .slice A2 q.s.sl.length a2, .int .u64 q.r.g, .int .u64 q.r.r, .int .u64 q.r.fl, .slice B2 q.r.tk.length b2, .slice C2 q.r.kp.length c2] 31)
  have hB5 := bal (bnext hB hb) (.cells #[.int .i64 q.node, .int .u64 q.theirs, .bool q.sure, .int .u64 q.old, .int .u64 q.s.g, .int .u64 q.s.n, .int .u64 q.s.r, .slice A2 q.s.sl.length a2, .int .u64 q.r.g, .int .u64 q.r.r, .int .u64 q.r.fl, .slice B2 q.r.tk.length b2, .slice C2 q.r.kp.length c2] 31)
  clear hb hB hl0 hl1 hl7 hV2
  go_upto_region 5 with (first | (refine wpList_alloc_z (by rfl) 31 (by rfl) _ rfl #[.int .i64 0, .int .u64 0, .bool false, .int .u64 0, .int .u64 0, .int .u64 0, .int .u64 0, .slice none 0 0, .int .u64 0, .int .u64 0, .int .u64 0, .slice none 0 0, .slice none 0 0] (fun w => by kernel_rfl) ?_) | (refine wpList_store_new (by rfl) 31 _ _ (by rfl) w5 #[.int .i64 0, .int .u64 0, .bool false, .int .u64 0, .int .u64 0, .int .u64 0, .int .u64 0, .slice none 0 0, .int .u64 0, .int .u64 0, .int .u64 0, .slice none 0 0, .slice none 0 0] #[.int .i64 q.node, .int .u64 q.theirs, .bool q.sure, .int .u64 q.old, .int .u64 q.s.g, .int .u64 q.s.n, .int .u64 q.s.r, .slice A2 q.s.sl.length a2, .int .u64 q.r.g, .int .u64 q.r.r, .int .u64 q.r.fl, .slice B2 q.r.tk.length b2, .slice C2 q.r.kp.length c2] rfl (by rfl) (by rfl) (by kernel_rfl) rfl (by kernel_rfl) ?_))
  have k8 := Blk.new w5 31 #[.int .i64 q.node, .int .u64 q.theirs, .bool q.sure, .int .u64 q.old, .int .u64 q.s.g, .int .u64 q.s.n, .int .u64 q.s.r, .slice A2 q.s.sl.length a2, .int .u64 q.r.g, .int .u64 q.r.r, .int .u64 q.r.fl, .slice B2 q.r.tk.length b2, .slice C2 q.r.kp.length c2]
  obtain ⟨g8, hg8⟩ : ∃ g8, w5.heap.size = g8 := ⟨_, rfl⟩
  rw [hg8] at k8 ⊢
  clear hg8
  generalize w5.alloc (.cells #[.int .i64 q.node, .int .u64 q.theirs, .bool q.sure, .int .u64 q.old, .int .u64 q.s.g, .int .u64 q.s.n, .int .u64 q.s.r, .slice A2 q.s.sl.length a2, .int .u64 q.r.g, .int .u64 q.r.r, .int .u64 q.r.fl, .slice B2 q.r.tk.length b2, .slice C2 q.r.kp.length c2] 31) = w6 at k7 k8 kb kc hB5 RX RA ⊢
  have hl0 := kb.lt
  have hl1 := kc.lt
  have hl7 := k7.lt
  have hl8 := k8.lt
  go_wp2_with (first | (refine wpList_load_row (by rfl) 31 _ (by rfl) g0 (by rfl) 31 #[.int .i64 p.node, .int .u64 p.theirs, .bool p.sure, .int .u64 p.old, .int .u64 p.s.g, .int .u64 p.s.n, .int .u64 p.s.r, .slice A0 p.s.sl.length a0, .int .u64 p.r.g, .int .u64 p.r.r, .int .u64 p.r.fl, .slice B0 p.r.tk.length b0, .slice C0 p.r.kp.length c0] (0, 0) _ kb Try.underlying31 (by rfl) (by kernel_rfl) ?_) | (refine wpList_load_row (by rfl) 51 _ (by rfl) g1 (by rfl) 51 #[.int .i64 f.kind, .int .i64 f.frm, .int .i64 f.to, .int .u64 f.mine, .int .u64 f.yours, .int .u64 f.a, .int .u64 f.b, .int .i64 f.inode, .int .u64 f.iseq, .int .i64 f.ioff, .int .i64 f.bn.node, .int .u64 f.bn.seq, .int .i64 f.bn.off, .int .i64 f.bn.dest, .int .i64 f.bn.prio, .int .i64 f.bn.born, .int .i64 f.bn.life, .int .i64 f.bn.total, .string f.bn.data] (0, 0) _ kc Try.underlying51 (by rfl) (by kernel_rfl) ?_))
  refine (RM'.out _ _ (HV'.out.below hB5)).mono ?_
  rintro e w7 ⟨V3, rfl, hV3, hb⟩
  obtain ⟨A3, a3, B3, b3, C3, c3, rfl⟩ := hV3.form
  have hb' := hb.trans ((bal (Below.refl _ _) (.cells #[.int .i64 q.node, .int .u64 q.theirs, .bool q.sure, .int .u64 q.old, .int .u64 q.s.g, .int .u64 q.s.n, .int .u64 q.s.r, .slice A3 q.s.sl.length a3, .int .u64 q.r.g, .int .u64 q.r.r, .int .u64 q.r.fl, .slice B3 q.r.tk.length b3, .slice C3 q.r.kp.length c3] 31)).mono hb.size)
  replace RX := RX.below hb'
  replace RA := RA.below hb'
  have RB : PrAt (w7.alloc (.cells #[.int .i64 q.node, .int .u64 q.theirs, .bool q.sure, .int .u64 q.old, .int .u64 q.s.g, .int .u64 q.s.n, .int .u64 q.s.r, .slice A3 q.s.sl.length a3, .int .u64 q.r.g, .int .u64 q.r.r, .int .u64 q.r.fl, .slice B3 q.r.tk.length b3, .slice C3 q.r.kp.length c3] 31)) (.agg #[.int .i64 q.node, .int .u64 q.theirs, .bool q.sure, .int .u64 q.old, .int .u64 q.s.g, .int .u64 q.s.n, .int .u64 q.s.r, .slice A3 q.s.sl.length a3, .int .u64 q.r.g, .int .u64 q.r.r, .int .u64 q.r.fl, .slice B3 q.r.tk.length b3, .slice C3 q.r.kp.length c3]) q := hV3.at.below (bal (Below.refl _ _) _)
  replace kb := kb.below hb'
  replace k7 := k7.below hb'
  replace k8 := k8.below hb'
  have hB7 := bnext hB5 hb'
  clear hb hb' hB5 hl0 hl1 hl7 hl8 hV3 kc
  go_upto_region 6 with (first | (refine wpList_alloc_z (by rfl) 31 (by rfl) _ rfl #[.int .i64 0, .int .u64 0, .bool false, .int .u64 0, .int .u64 0, .int .u64 0, .int .u64 0, .slice none 0 0, .int .u64 0, .int .u64 0, .int .u64 0, .slice none 0 0, .slice none 0 0] (fun w => by kernel_rfl) ?_) | (refine wpList_store_new (by rfl) 31 _ _ (by rfl) w7 #[.int .i64 0, .int .u64 0, .bool false, .int .u64 0, .int .u64 0, .int .u64 0, .int .u64 0, .slice none 0 0, .int .u64 0, .int .u64 0, .int .u64 0, .slice none 0 0, .slice none 0 0] #[.int .i64 q.node, .int .u64 q.theirs, .bool q.sure, .int .u64 q.old, .int .u64 q.s.g, .int .u64 q.s.n, .int .u64 q.s.r, .slice A3 q.s.sl.length a3, .int .u64 q.r.g, .int .u64 q.r.r, .int .u64 q.r.fl, .slice B3 q.r.tk.length b3, .slice C3 q.r.kp.length c3] rfl (by rfl) (by rfl) (by kernel_rfl) rfl (by kernel_rfl) ?_))
  have k12 := Blk.new w7 31 #[.int .i64 q.node, .int .u64 q.theirs, .bool q.sure, .int .u64 q.old, .int .u64 q.s.g, .int .u64 q.s.n, .int .u64 q.s.r, .slice A3 q.s.sl.length a3, .int .u64 q.r.g, .int .u64 q.r.r, .int .u64 q.r.fl, .slice B3 q.r.tk.length b3, .slice C3 q.r.kp.length c3]
  obtain ⟨g12, hg12⟩ : ∃ g12, w7.heap.size = g12 := ⟨_, rfl⟩
  rw [hg12] at k12 ⊢
  clear hg12
  generalize w7.alloc (.cells #[.int .i64 q.node, .int .u64 q.theirs, .bool q.sure, .int .u64 q.old, .int .u64 q.s.g, .int .u64 q.s.n, .int .u64 q.s.r, .slice A3 q.s.sl.length a3, .int .u64 q.r.g, .int .u64 q.r.r, .int .u64 q.r.fl, .slice B3 q.r.tk.length b3, .slice C3 q.r.kp.length c3] 31) = w8 at k7 k8 k12 kb hB7 RX RA RB ⊢
  refine wp_region_held_drew (S := fun wx => Below w.heap.size w wx ∧ Blk wx g0 31 #[.int .i64 p.node, .int .u64 p.theirs, .bool p.sure, .int .u64 p.old, .int .u64 p.s.g, .int .u64 p.s.n, .int .u64 p.s.r, .slice A0 p.s.sl.length a0, .int .u64 p.r.g, .int .u64 p.r.r, .int .u64 p.r.fl, .slice B0 p.r.tk.length b0, .slice C0 p.r.kp.length c0] ∧ Blk wx g7 31 #[.int .i64 p.node, .int .u64 p.theirs, .bool p.sure, .int .u64 p.old, .int .u64 p.s.g, .int .u64 p.s.n, .int .u64 p.s.r, .slice A1 p.s.sl.length a1, .int .u64 p.r.g, .int .u64 p.r.r, .int .u64 p.r.fl, .slice B1 p.r.tk.length b1, .slice C1 p.r.kp.length c1] ∧ Blk wx g8 31 #[.int .i64 q.node, .int .u64 q.theirs, .bool q.sure, .int .u64 q.old, .int .u64 q.s.g, .int .u64 q.s.n, .int .u64 q.s.r, .slice A2 q.s.sl.length a2, .int .u64 q.r.g, .int .u64 q.r.r, .int .u64 q.r.fl, .slice B2 q.r.tk.length b2, .slice C2 q.r.kp.length c2] ∧ Blk wx g12 31 #[.int .i64 q.node, .int .u64 q.theirs, .bool q.sure, .int .u64 q.old, .int .u64 q.s.g, .int .u64 q.s.n, .int .u64 q.s.r, .slice A3 q.s.sl.length a3, .int .u64 q.r.g, .int .u64 q.r.r, .int .u64 q.r.fl, .slice B3 q.r.tk.length b3, .slice C3 q.r.kp.length c3] ∧ PrAt wx (.agg #[.int .i64 p.node, .int .u64 p.theirs, .bool p.sure, .int .u64 p.old, .int .u64 p.s.g, .int .u64 p.s.n, .int .u64 p.s.r, .slice A1 p.s.sl.length a1, .int .u64 p.r.g, .int .u64 p.r.r, .int .u64 p.r.fl, .slice B1 p.r.tk.length b1, .slice C1 p.r.kp.length c1]) p ∧ PrAt wx (.agg #[.int .i64 q.node, .int .u64 q.theirs, .bool q.sure, .int .u64 q.old, .int .u64 q.s.g, .int .u64 q.s.n, .int .u64 q.s.r, .slice A2 q.s.sl.length a2, .int .u64 q.r.g, .int .u64 q.r.r, .int .u64 q.r.fl, .slice B2 q.r.tk.length b2, .slice C2 q.r.kp.length c2]) q ∧ PrAt wx (.agg #[.int .i64 q.node, .int .u64 q.theirs, .bool q.sure, .int .u64 q.old, .int .u64 q.s.g, .int .u64 q.s.n, .int .u64 q.s.r, .slice A3 q.s.sl.length a3, .int .u64 q.r.g, .int .u64 q.r.r, .int .u64 q.r.fl, .slice B3 q.r.tk.length b3, .slice C3 q.r.kp.length c3]) q) (by kernel_rfl) ⟨hB7.drew, kb.drew, k7.drew, k8.drew, k12.drew, RX, RA, RB⟩ (fun hH => ?_)
  clear hB7 kb k7 k8 k12 RX RA RB
  refine wpAnyH_take (i := 0) rfl (by kernel_rfl) (by kernel_rfl) (by kernel_rfl) (fun _ _ _ h => h) (yieldsIf_row (g7) 31 #[.int .i64 p.node, .int .u64 p.theirs, .bool p.sure, .int .u64 p.old, .int .u64 p.s.g, .int .u64 p.s.n, .int .u64 p.s.r, .slice A1 p.s.sl.length a1, .int .u64 p.r.g, .int .u64 p.r.r, .int .u64 p.r.fl, .slice B1 p.r.tk.length b1, .slice C1 p.r.kp.length c1] 31 _ _ rfl rfl rfl (fun w h => h.2.2.1) Try.underlying31 rfl (by kernel_rfl)) hH ?_
  try simp only [List.getElem_toArray, List.getElem_cons_succ, List.getElem_cons_zero, Act.put, List.setIfInBounds_toArray, List.set_cons_zero, List.set_cons_succ]
  refine wpAnyH_take (i := 2) rfl (by kernel_rfl) (by kernel_rfl) (by kernel_rfl) (fun _ _ _ h => h) (yieldsIf_row (g0) 31 #[.int .i64 p.node, .int .u64 p.theirs, .bool p.sure, .int .u64 p.old, .int .u64 p.s.g, .int .u64 p.s.n, .int .u64 p.s.r, .slice A0 p.s.sl.length a0, .int .u64 p.r.g, .int .u64 p.r.r, .int .u64 p.r.fl, .slice B0 p.r.tk.length b0, .slice C0 p.r.kp.length c0] 31 _ _ rfl rfl rfl (fun w h => h.2.1) Try.underlying31 rfl (by kernel_rfl)) hH ?_
  try simp only [List.getElem_toArray, List.getElem_cons_succ, List.getElem_cons_zero, Act.put, List.setIfInBounds_toArray, List.set_cons_zero, List.set_cons_succ]
  refine wpAnyH_ready (rs := [1]) (by kernel_rfl) (by simp) ?_
  refine AllReadyH.cons rfl (fun KK hK => ?_) AllReadyH.nil
  go_simp
  refine (CK'.out _ _ hH.2.2.2.2.2.1).mono ?_
  rintro e x1 ⟨rfl, hb1⟩
  refine hK.out _ _ ⟨bnext hH.1 hb1, hH.2.1.below hb1, hH.2.2.1.below hb1, hH.2.2.2.1.below hb1, hH.2.2.2.2.1.below hb1, hH.2.2.2.2.2.1.below hb1, hH.2.2.2.2.2.2.1.below hb1, hH.2.2.2.2.2.2.2.below hb1⟩ (fun hH1 => ?_)
  clear hK KK hb1 hH
  try simp only [List.getElem_toArray, List.getElem_cons_succ, List.getElem_cons_zero, Act.put, List.setIfInBounds_toArray, List.set_cons_zero, List.set_cons_succ]
  refine wpAnyH_ready (rs := [3]) (by kernel_rfl) (by simp) ?_
  refine AllReadyH.cons rfl (fun KK hK => ?_) AllReadyH.nil
  go_simp
  refine (RK'.out _ _ (HV'.out.below hH1.1)).mono ?_
  rintro e x2 ⟨rfl, hb2⟩
  refine hK.out _ _ ⟨bnext hH1.1 hb2, hH1.2.1.below hb2, hH1.2.2.1.below hb2, hH1.2.2.2.1.below hb2, hH1.2.2.2.2.1.below hb2, hH1.2.2.2.2.2.1.below hb2, hH1.2.2.2.2.2.2.1.below hb2, hH1.2.2.2.2.2.2.2.below hb2⟩ (fun hH2 => ?_)
  clear hK KK hb2 hH1
  try simp only [List.getElem_toArray, List.getElem_cons_succ, List.getElem_cons_zero, Act.put, List.setIfInBounds_toArray, List.set_cons_zero, List.set_cons_succ]
  refine wpAnyH_take (i := 4) rfl (by kernel_rfl) (by kernel_rfl) (by kernel_rfl) (fun _ _ _ h => h) (yieldsIf_cell (.bool true) rfl (fun w h => by go_simp)) hH2 ?_
  try simp only [List.getElem_toArray, List.getElem_cons_succ, List.getElem_cons_zero, Act.put, List.setIfInBounds_toArray, List.set_cons_zero, List.set_cons_succ]
  refine wpAnyH_take (i := 5) rfl (by kernel_rfl) (by kernel_rfl) (by kernel_rfl) (fun _ _ _ h => h) (yieldsIf_pure _ (.bool true) rfl (.inl rfl) rfl) hH2 ?_
  try simp only [List.getElem_toArray, List.getElem_cons_succ, List.getElem_cons_zero, Act.put, List.setIfInBounds_toArray, List.set_cons_zero, List.set_cons_succ]
  refine wpAnyH_take (i := 6) rfl (by kernel_rfl) (by kernel_rfl) (by kernel_rfl) (fun _ _ _ h => h) (yieldsIf_row (g8) 31 #[.int .i64 q.node, .int .u64 q.theirs, .bool q.sure, .int .u64 q.old, .int .u64 q.s.g, .int .u64 q.s.n, .int .u64 q.s.r, .slice A2 q.s.sl.length a2, .int .u64 q.r.g, .int .u64 q.r.r, .int .u64 q.r.fl, .slice B2 q.r.tk.length b2, .slice C2 q.r.kp.length c2] 31 _ _ rfl rfl rfl (fun w h => h.2.2.2.1) Try.underlying31 rfl (by kernel_rfl)) hH2 ?_
  try simp only [List.getElem_toArray, List.getElem_cons_succ, List.getElem_cons_zero, Act.put, List.setIfInBounds_toArray, List.set_cons_zero, List.set_cons_succ]
  refine wpAnyH_take (i := 7) rfl (by kernel_rfl) (by kernel_rfl) (by kernel_rfl) (fun _ _ _ h => h) (yieldsIf_row (g12) 31 #[.int .i64 q.node, .int .u64 q.theirs, .bool q.sure, .int .u64 q.old, .int .u64 q.s.g, .int .u64 q.s.n, .int .u64 q.s.r, .slice A3 q.s.sl.length a3, .int .u64 q.r.g, .int .u64 q.r.r, .int .u64 q.r.fl, .slice B3 q.r.tk.length b3, .slice C3 q.r.kp.length c3] 31 _ _ rfl rfl rfl (fun w h => h.2.2.2.2.1) Try.underlying31 rfl (by kernel_rfl)) hH2 ?_
  try simp only [List.getElem_toArray, List.getElem_cons_succ, List.getElem_cons_zero, Act.put, List.setIfInBounds_toArray, List.set_cons_zero, List.set_cons_succ]
  refine wpAnyH_ready (rs := [8]) (by kernel_rfl) (by simp) ?_
  refine AllReadyH.cons rfl (fun KK hK => ?_) AllReadyH.nil
  go_simp
  refine (SamePeer_same q _ _ _ hH2.2.2.2.2.2.2.1 hH2.2.2.2.2.2.2.2).mono ?_
  rintro e x3 ⟨rfl, hb3⟩
  refine hK.out _ _ ⟨bnext hH2.1 hb3, hH2.2.1.below hb3, hH2.2.2.1.below hb3, hH2.2.2.2.1.below hb3, hH2.2.2.2.2.1.below hb3, hH2.2.2.2.2.2.1.below hb3, hH2.2.2.2.2.2.2.1.below hb3, hH2.2.2.2.2.2.2.2.below hb3⟩ (fun hH3 => ?_)
  clear hK KK hb3 hH2
  try simp only [List.getElem_toArray, List.getElem_cons_succ, List.getElem_cons_zero, Act.put, List.setIfInBounds_toArray, List.set_cons_zero, List.set_cons_succ]
  refine wpAnyH_take (i := 9) rfl (by kernel_rfl) (by kernel_rfl) (by kernel_rfl) (fun _ _ _ h => h) (yieldsIf_cell (.bool true) rfl (fun w h => by go_simp)) hH3 ?_
  try simp only [List.getElem_toArray, List.getElem_cons_succ, List.getElem_cons_zero, Act.put, List.setIfInBounds_toArray, List.set_cons_zero, List.set_cons_succ]
  refine wpAnyH_take (i := 10) rfl (by kernel_rfl) (by kernel_rfl) (by kernel_rfl) (fun _ _ _ h => h) (yieldsIf_pure _ (.bool true) rfl (.inl rfl) rfl) hH3 ?_
  try simp only [List.getElem_toArray, List.getElem_cons_succ, List.getElem_cons_zero, Act.put, List.setIfInBounds_toArray, List.set_cons_zero, List.set_cons_succ]
  refine wpAnyH_take (i := 11) rfl (by kernel_rfl) (by kernel_rfl) (by kernel_rfl) (fun _ _ _ h => h) (yieldsIf_pure _ (.int .i64 vd) rfl (.inl rfl) rfl) hH3 ?_
  try simp only [List.getElem_toArray, List.getElem_cons_succ, List.getElem_cons_zero, Act.put, List.setIfInBounds_toArray, List.set_cons_zero, List.set_cons_succ]
  refine wpAnyH_take (i := 12) rfl (by kernel_rfl) (by kernel_rfl) (by kernel_rfl) (fun _ _ _ h => h) (yieldsIf_pure _ (.int .i64 vd) rfl (.inl rfl) rfl) hH3 ?_
  try simp only [List.getElem_toArray, List.getElem_cons_succ, List.getElem_cons_zero, Act.put, List.setIfInBounds_toArray, List.set_cons_zero, List.set_cons_succ]
  refine wpAnyH_take (i := 13) rfl (by kernel_rfl) (by kernel_rfl) (by kernel_rfl) (fun _ _ _ h => h) (yieldsIf_cell (.bool true) rfl (fun w h => by go_simp)) hH3 ?_
  try simp only [List.getElem_toArray, List.getElem_cons_succ, List.getElem_cons_zero, Act.put, List.setIfInBounds_toArray, List.set_cons_zero, List.set_cons_succ]
  refine wpAnyH_take (i := 14) rfl (by kernel_rfl) (by kernel_rfl) (by kernel_rfl) (fun _ _ _ h => h) (yieldsIf_cell (.bool true) rfl (fun w h => by go_simp)) hH3 ?_
  try simp only [List.getElem_toArray, List.getElem_cons_succ, List.getElem_cons_zero, Act.put, List.setIfInBounds_toArray, List.set_cons_zero, List.set_cons_succ]
  refine wpAnyH_take (i := 15) rfl (by kernel_rfl) (by kernel_rfl) (by kernel_rfl) (fun _ _ _ h => h) (yieldsIf_pure _ (.bool true) rfl (.inl rfl) rfl) hH3 ?_
  try simp only [List.getElem_toArray, List.getElem_cons_succ, List.getElem_cons_zero, Act.put, List.setIfInBounds_toArray, List.set_cons_zero, List.set_cons_succ]
  refine wpAnyH_take (i := 16) rfl (by kernel_rfl) (by kernel_rfl) (by kernel_rfl) (fun _ _ _ h => h) (yieldsIf_pure _ (.bool hl) rfl (.inl rfl) rfl) hH3 ?_
  try simp only [List.getElem_toArray, List.getElem_cons_succ, List.getElem_cons_zero, Act.put, List.setIfInBounds_toArray, List.set_cons_zero, List.set_cons_succ]
  refine wpAnyH_take (i := 17) rfl (by kernel_rfl) (by kernel_rfl) (by kernel_rfl) (fun _ _ _ h => h) (yieldsIf_pure _ (.bool hl) rfl (.inl rfl) rfl) hH3 ?_
  try simp only [List.getElem_toArray, List.getElem_cons_succ, List.getElem_cons_zero, Act.put, List.setIfInBounds_toArray, List.set_cons_zero, List.set_cons_succ]
  refine wpAnyH_take (i := 18) rfl (by kernel_rfl) (by kernel_rfl) (by kernel_rfl) (fun _ _ _ h => h) (yieldsIf_cell (.bool true) rfl (fun w h => by go_simp)) hH3 ?_
  try simp only [List.getElem_toArray, List.getElem_cons_succ, List.getElem_cons_zero, Act.put, List.setIfInBounds_toArray, List.set_cons_zero, List.set_cons_succ]
  refine wpAnyH_take (i := 19) rfl (by kernel_rfl) (by kernel_rfl) (by kernel_rfl) (fun _ _ _ h => h) (yieldsIf_cell (.bool true) rfl (fun w h => by go_simp)) hH3 ?_
  try simp only [List.getElem_toArray, List.getElem_cons_succ, List.getElem_cons_zero, Act.put, List.setIfInBounds_toArray, List.set_cons_zero, List.set_cons_succ]
  refine wpAnyH_take (i := 20) rfl (by kernel_rfl) (by kernel_rfl) (by kernel_rfl) (fun _ _ _ h => h) (yieldsIf_pure _ (.bool true) rfl (.inl rfl) rfl) hH3 ?_
  try simp only [List.getElem_toArray, List.getElem_cons_succ, List.getElem_cons_zero, Act.put, List.setIfInBounds_toArray, List.set_cons_zero, List.set_cons_succ]
  refine wpAnyH_take (i := 21) rfl (by kernel_rfl) (by kernel_rfl) (by kernel_rfl) (fun _ _ _ h => h) (yieldsIf_pure _ (.int .i64 er) rfl (.inl rfl) rfl) hH3 ?_
  try simp only [List.getElem_toArray, List.getElem_cons_succ, List.getElem_cons_zero, Act.put, List.setIfInBounds_toArray, List.set_cons_zero, List.set_cons_succ]
  refine wpAnyH_take (i := 22) rfl (by kernel_rfl) (by kernel_rfl) (by kernel_rfl) (fun _ _ _ h => h) (yieldsIf_pure _ (.int .i64 er) rfl (.inl rfl) rfl) hH3 ?_
  try simp only [List.getElem_toArray, List.getElem_cons_succ, List.getElem_cons_zero, Act.put, List.setIfInBounds_toArray, List.set_cons_zero, List.set_cons_succ]
  refine wpAnyH_take (i := 23) rfl (by kernel_rfl) (by kernel_rfl) (by kernel_rfl) (fun _ _ _ h => h) (yieldsIf_cell (.bool true) rfl (fun w h => by go_simp)) hH3 ?_
  try simp only [List.getElem_toArray, List.getElem_cons_succ, List.getElem_cons_zero, Act.put, List.setIfInBounds_toArray, List.set_cons_zero, List.set_cons_succ]
  refine wpAnyH_take (i := 24) rfl (by kernel_rfl) (by kernel_rfl) (by kernel_rfl) (fun _ _ _ h => h) (yieldsIf_cell (.bool true) rfl (fun w h => by go_simp)) hH3 ?_
  try simp only [List.getElem_toArray, List.getElem_cons_succ, List.getElem_cons_zero, Act.put, List.setIfInBounds_toArray, List.set_cons_zero, List.set_cons_succ]
  refine wpAnyH_take (i := 25) rfl (by kernel_rfl) (by kernel_rfl) (by kernel_rfl) (fun _ _ _ h => h) (yieldsIf_pure _ (.bool true) rfl (.inl rfl) rfl) hH3 ?_
  try simp only [List.getElem_toArray, List.getElem_cons_succ, List.getElem_cons_zero, Act.put, List.setIfInBounds_toArray, List.set_cons_zero, List.set_cons_succ]
  refine wpAnyH_take (i := 26) rfl (by kernel_rfl) (by kernel_rfl) (by kernel_rfl) (fun _ _ _ h => h) (yieldsIf_row (g7) 31 #[.int .i64 p.node, .int .u64 p.theirs, .bool p.sure, .int .u64 p.old, .int .u64 p.s.g, .int .u64 p.s.n, .int .u64 p.s.r, .slice A1 p.s.sl.length a1, .int .u64 p.r.g, .int .u64 p.r.r, .int .u64 p.r.fl, .slice B1 p.r.tk.length b1, .slice C1 p.r.kp.length c1] 31 _ _ rfl rfl rfl (fun w h => h.2.2.1) Try.underlying31 rfl (by kernel_rfl)) hH3 ?_
  try simp only [List.getElem_toArray, List.getElem_cons_succ, List.getElem_cons_zero, Act.put, List.setIfInBounds_toArray, List.set_cons_zero, List.set_cons_succ]
  refine wpAnyH_take (i := 27) rfl (by kernel_rfl) (by kernel_rfl) (by kernel_rfl) (fun _ _ _ h => h) (yieldsIf_row (g0) 31 #[.int .i64 p.node, .int .u64 p.theirs, .bool p.sure, .int .u64 p.old, .int .u64 p.s.g, .int .u64 p.s.n, .int .u64 p.s.r, .slice A0 p.s.sl.length a0, .int .u64 p.r.g, .int .u64 p.r.r, .int .u64 p.r.fl, .slice B0 p.r.tk.length b0, .slice C0 p.r.kp.length c0] 31 _ _ rfl rfl rfl (fun w h => h.2.1) Try.underlying31 rfl (by kernel_rfl)) hH3 ?_
  try simp only [List.getElem_toArray, List.getElem_cons_succ, List.getElem_cons_zero, Act.put, List.setIfInBounds_toArray, List.set_cons_zero, List.set_cons_succ]
  refine wpAnyH_ready (rs := [28]) (by kernel_rfl) (by simp) ?_
  refine AllReadyH.cons rfl (fun KK hK => ?_) AllReadyH.nil
  go_simp
  refine (SamePeer_same p _ _ _ hH3.2.2.2.2.2.1 (HV'.out.below hH3.1)).mono ?_
  rintro e x4 ⟨rfl, hb4⟩
  refine hK.out _ _ ⟨bnext hH3.1 hb4, hH3.2.1.below hb4, hH3.2.2.1.below hb4, hH3.2.2.2.1.below hb4, hH3.2.2.2.2.1.below hb4, hH3.2.2.2.2.2.1.below hb4, hH3.2.2.2.2.2.2.1.below hb4, hH3.2.2.2.2.2.2.2.below hb4⟩ (fun hH4 => ?_)
  clear hK KK hb4 hH3
  try simp only [List.getElem_toArray, List.getElem_cons_succ, List.getElem_cons_zero, Act.put, List.setIfInBounds_toArray, List.set_cons_zero, List.set_cons_succ]
  refine wpAnyH_take (i := 29) rfl (by kernel_rfl) (by kernel_rfl) (by kernel_rfl) (fun _ _ _ h => h) (yieldsIf_cell (.bool true) rfl (fun w h => by go_simp)) hH4 ?_
  try simp only [List.getElem_toArray, List.getElem_cons_succ, List.getElem_cons_zero, Act.put, List.setIfInBounds_toArray, List.set_cons_zero, List.set_cons_succ]
  refine wpAnyH_take (i := 30) rfl (by kernel_rfl) (by kernel_rfl) (by kernel_rfl) (fun _ _ _ h => h) (yieldsIf_pure _ (.bool true) rfl (.inl rfl) rfl) hH4 ?_
  try simp only [List.getElem_toArray, List.getElem_cons_succ, List.getElem_cons_zero, Act.put, List.setIfInBounds_toArray, List.set_cons_zero, List.set_cons_succ]
  refine wpAnyH_ready (rs := [31]) (by kernel_rfl) (by simp) ?_
  refine AllReadyH.cons rfl (fun KK hK => ?_) AllReadyH.nil
  go_simp
  refine (awake_any _).mono ?_
  rintro e x5 ⟨rfl, hb5⟩
  refine hK.out _ _ ⟨bnext hH4.1 hb5, hH4.2.1.below hb5, hH4.2.2.1.below hb5, hH4.2.2.2.1.below hb5, hH4.2.2.2.2.1.below hb5, hH4.2.2.2.2.2.1.below hb5, hH4.2.2.2.2.2.2.1.below hb5, hH4.2.2.2.2.2.2.2.below hb5⟩ (fun hH5 => ?_)
  clear hK KK hb5 hH4
  try simp only [List.getElem_toArray, List.getElem_cons_succ, List.getElem_cons_zero, Act.put, List.setIfInBounds_toArray, List.set_cons_zero, List.set_cons_succ]
  refine wpAnyH_take (i := 32) rfl (by kernel_rfl) (by kernel_rfl) (by kernel_rfl) (fun _ _ _ h => h) (yieldsIf_cell (.bool true) rfl (fun w h => by go_simp)) hH5 ?_
  try simp only [List.getElem_toArray, List.getElem_cons_succ, List.getElem_cons_zero, Act.put, List.setIfInBounds_toArray, List.set_cons_zero, List.set_cons_succ]
  refine wpAnyH_take (i := 33) rfl (by kernel_rfl) (by kernel_rfl) (by kernel_rfl) (fun _ _ _ h => h) (yieldsIf_pure _ (.bool true) rfl (.inr rfl) rfl) hH5 ?_
  try simp only [List.getElem_toArray, List.getElem_cons_succ, List.getElem_cons_zero, Act.put, List.setIfInBounds_toArray, List.set_cons_zero, List.set_cons_succ]
  refine wpAnyH_done (by kernel_rfl) ?_ _
  have HB := Lib.hid hH5.1
  clear hH5
  go_wp2_with fail
  go_ret
  exact ⟨rfl, HB.out⟩

theorem PeerMeets_t (p : Pr) (hw : WfP p) (boot : Int) (f : Fr) (hf : WfF f) (V : Value) (w : World) (hV : PrAt w V p) :
    Calls Try.prog 5 #[V, .int .u64 boot, f.val] w (RetB true w) := by
  have LG := fun w' (hb : Below w.heap.size w w') => large_any p V w' (hV.below hb)
  have HV := hV
  obtain ⟨vs, vt, vk, rfl, hs1, hs2, hs3⟩ := hV
  obtain ⟨As, cs, rfl⟩ := hs1.form
  obtain ⟨Bs, ds, rfl⟩ := hs2.form
  obtain ⟨Cs, es, rfl⟩ := hs3.form
  obtain ⟨ls, hls⟩ : ∃ ls, decide (110 < p.s.sl.length ∨ 60 < p.r.tk.length ∨ 60 < p.r.kp.length) = ls := ⟨_, rfl⟩
  rw [hls] at LG
  cases ls
  · have hl : ¬ (110 < p.s.sl.length ∨ 60 < p.r.tk.length ∨ 60 < p.r.kp.length) := of_decide_eq_false hls
    by_cases hd : (f.bn.data.size : Int) > 1100
    · exact pm_2 p boot f _ _ _ _ _ _ w LG (decide_eq_true hd)
    · refine pm_3 p boot f _ _ _ _ _ _ w LG (decide_eq_false hd) (fun w' hb => OwnPeer_any p (by omega) (by omega) (by omega) _ w' (HV.below hb)) (mtV p boot f).1 (mtV p boot f).2.1 (mtV p boot f).2.2 (metE p boot f) (fun V w' h => Meet_any p hw boot f hf V w' h) (fun V w' h => rMeet_any p hw boot f V w' h) (chkP p) (fun V w' h => pCheck_any p hw V w' h) (fun V w' h => rpCheck_any p hw V w' h) HV
  · exact pm_1 p boot f _ _ _ _ _ _ w LG

end Go.Proofs.Ytfgkkflbpfocjaa

