/- Contracts: bundles. Frames: equality, what a kind uses, limits. Frames checked (the program). A peer copied (the program). Rows of 13 and 22 cells that are set. Worlds that differ in some blocks alone. A frame judged (the program): learning, the verdict, what is owed. A frame met (the program): the errors. -/
import Derived.Test.YtfgkkflbpfocjaaZ3
import Derived.Deep.MidRow
import Derived.Great.BuildSlice
import Derived.Deep.WholeRow
import Derived.Test.YtfgkkflbpfocjaaZ1
namespace Go.Proofs.Ytfgkkflbpfocjaa.Bu
open Go.RowKit
set_option linter.unusedVariables false
set_option linter.unusedSimpArgs false

section
variable {w : World} {g : Nat} {t : TypeId} {a b c d e f h i j : Value}
theorem _root_.Go.Proofs.Ytfgkkflbpfocjaa.Blk.c9 (k : Blk w g t #[a, b, c, d, e, f, h, i, j]) : w.cell? ⟨g, 0, none⟩ = some a ∧ w.cell? ⟨g, 1, none⟩ = some b ∧ w.cell? ⟨g, 2, none⟩ = some c ∧ w.cell? ⟨g, 3, none⟩ = some d ∧ w.cell? ⟨g, 4, none⟩ = some e ∧ w.cell? ⟨g, 5, none⟩ = some f ∧ w.cell? ⟨g, 6, none⟩ = some h ∧ w.cell? ⟨g, 7, none⟩ = some i ∧ w.cell? ⟨g, 8, none⟩ = some j :=
  ⟨k.cell 0, k.cell 1, k.cell 2, k.cell 3, k.cell 4, k.cell 5, k.cell 6, k.cell 7, k.cell 8⟩
theorem _root_.Go.Proofs.Ytfgkkflbpfocjaa.Blk.f9 (k : Blk w g t #[a, b, c, d, e, f, h, i, j]) : w.frozen? ⟨g, 0, none⟩ = false ∧ w.frozen? ⟨g, 1, none⟩ = false ∧ w.frozen? ⟨g, 2, none⟩ = false ∧ w.frozen? ⟨g, 3, none⟩ = false ∧ w.frozen? ⟨g, 4, none⟩ = false ∧ w.frozen? ⟨g, 5, none⟩ = false ∧ w.frozen? ⟨g, 6, none⟩ = false ∧ w.frozen? ⟨g, 7, none⟩ = false ∧ w.frozen? ⟨g, 8, none⟩ = false :=
  ⟨k.frozen 0, k.frozen 1, k.frozen 2, k.frozen 3, k.frozen 4, k.frozen 5, k.frozen 6, k.frozen 7, k.frozen 8⟩
end

set_option maxHeartbeats 2000000 in
theorem rCheckID_any (node seq io : Int) (w : World) :
    Calls Try.prog 82 #[.agg #[.int .i64 node, .int .u64 seq, .int .i64 io]] w (RetI (idE node seq io) w) := by
  by_cases a : 1 ≤ node
  · skip
    by_cases b : node ≤ 16
    · skip
      by_cases c : seq ≤ 1099511627776
      · skip
        by_cases d : 0 ≤ io
        · skip
          by_cases f : io ≤ 19999
          · skip
            have f' : ¬ 20000 ≤ io := by omega
            have R : Hid (idE node seq io = 0) := Lib.hid (if_pos ⟨a, b, d, f, c⟩)
            go_enter Try.func82, Try.ntmps82
            go_wp2_with fail
            go_ret
            exact ⟨ret_int R.out.symm, (by repeat (first | with_reducible exact Below.refl _ _ | with_reducible refine Below.drew ?_ | with_reducible refine below_drewN ?_ _ | with_reducible refine bal ?_ _ | with_reducible refine bset ?_ (by first | (simp; done) | (simp; omega)) _ | with_reducible refine bnext ?_ (by assumption) | with_reducible assumption))⟩
          · have nf : 20000 ≤ io := by omega
            have R : Hid (idE node seq io = 2) := Lib.hid (if_neg (fun e => f e.2.2.2.1))
            go_enter Try.func82, Try.ntmps82
            go_wp2_with fail
            go_ret
            exact ⟨ret_int R.out.symm, (by repeat (first | with_reducible exact Below.refl _ _ | with_reducible refine Below.drew ?_ | with_reducible refine below_drewN ?_ _ | with_reducible refine bal ?_ _ | with_reducible refine bset ?_ (by first | (simp; done) | (simp; omega)) _ | with_reducible refine bnext ?_ (by assumption) | with_reducible assumption))⟩
        · have nd : io < 0 := by omega
          have R : Hid (idE node seq io = 2) := Lib.hid (if_neg (fun e => d e.2.2.1))
          go_enter Try.func82, Try.ntmps82
          go_wp2_with fail
          go_ret
          exact ⟨ret_int R.out.symm, (by repeat (first | with_reducible exact Below.refl _ _ | with_reducible refine Below.drew ?_ | with_reducible refine below_drewN ?_ _ | with_reducible refine bal ?_ _ | with_reducible refine bset ?_ (by first | (simp; done) | (simp; omega)) _ | with_reducible refine bnext ?_ (by assumption) | with_reducible assumption))⟩
      · have nc : 1099511627776 < seq := by omega
        have R : Hid (idE node seq io = 2) := Lib.hid (if_neg (fun e => c e.2.2.2.2))
        go_enter Try.func82, Try.ntmps82
        go_wp2_with fail
        go_ret
        exact ⟨ret_int R.out.symm, (by repeat (first | with_reducible exact Below.refl _ _ | with_reducible refine Below.drew ?_ | with_reducible refine below_drewN ?_ _ | with_reducible refine bal ?_ _ | with_reducible refine bset ?_ (by first | (simp; done) | (simp; omega)) _ | with_reducible refine bnext ?_ (by assumption) | with_reducible assumption))⟩
    · have nb : 16 < node := by omega
      have R : Hid (idE node seq io = 2) := Lib.hid (if_neg (fun e => b e.2.1))
      go_enter Try.func82, Try.ntmps82
      go_wp2_with fail
      go_ret
      exact ⟨ret_int R.out.symm, (by repeat (first | with_reducible exact Below.refl _ _ | with_reducible refine Below.drew ?_ | with_reducible refine below_drewN ?_ _ | with_reducible refine bal ?_ _ | with_reducible refine bset ?_ (by first | (simp; done) | (simp; omega)) _ | with_reducible refine bnext ?_ (by assumption) | with_reducible assumption))⟩
  · have na : node < 1 := by omega
    have R : Hid (idE node seq io = 2) := Lib.hid (if_neg (fun e => a e.1))
    go_enter Try.func82, Try.ntmps82
    go_wp2_with fail
    go_ret
    exact ⟨ret_int R.out.symm, (by repeat (first | with_reducible exact Below.refl _ _ | with_reducible refine Below.drew ?_ | with_reducible refine below_drewN ?_ _ | with_reducible refine bal ?_ _ | with_reducible refine bset ?_ (by first | (simp; done) | (simp; omega)) _ | with_reducible refine bnext ?_ (by assumption) | with_reducible assumption))⟩

set_option maxRecDepth 100000 in
set_option maxHeartbeats 4000000 in
theorem Check_any (x : Bn) (w : World) : Calls Try.prog 90 #[x.val] w (RetI (bE x) w) := by
  rw [Bn.val_eq]
  have hsz : x.data.size ≤ x.data.size := Nat.le_refl _
  have hB0 : ∀ {w2 : World}, Below w.heap.size w w2 → Below w.heap.size w w2 := fun h => h
  by_cases hid : IdOk x.node x.seq x.off
  · have H1 := Lib.hid hid
    have ho := hid.2.2
    have I := Lib.hid (idE_ok hid)
    clear hid
    by_cases hf : Fok x
    · have HF := Lib.hid hf
      have D : Hid ((!([⟨x.dest, 1, 16⟩, ⟨x.prio, 0, 2⟩, ⟨x.born, 0, 1099511627776⟩, ⟨x.life, 1, 1048576⟩, ⟨x.total, 1, 20000⟩] : List Lm).any Lm.bad) = true) := Lib.hid (by unfold Fok at hf; simp [Lm.bad]; omega)
      have ht := hf.2.2.2.2
      clear hf
      by_cases hs : x.data.size = 0
      · have R : Hid (bE x = 11) := Lib.hid (bE_s H1.out HF.out hs)
        have hs1 : ((x.data.size : Int) == 0) = true := by rw [hs]; rfl
        clear hs
        go_enter Try.func90, Try.ntmps90
        go_wp2_with fail
        refine (CheckID_any x.node x.seq x.off _).mono ?_
        rintro e w1 ⟨rfl, hb1⟩
        rw [I.out]
        have k1 := (Blk.new w 49 #[.int .i64 x.node, .int .u64 x.seq, .int .i64 x.off, .int .i64 x.dest, .int .i64 x.prio, .int .i64 x.born, .int .i64 x.life, .int .i64 x.total, .string x.data]).below hb1
        obtain ⟨x0, x1, x2, x3, x4, x5, x6, x7, x8⟩ := k1.c9
        have hB1 := bnext (bal (Below.refl w.heap.size w) (.cells #[.int .i64 x.node, .int .u64 x.seq, .int .i64 x.off, .int .i64 x.dest, .int .i64 x.prio, .int .i64 x.born, .int .i64 x.life, .int .i64 x.total, .string x.data] 49)) hb1
        have hl1 := k1.lt
        have K1 := Lib.hid k1
        clear hb1 k1
        go_wp2_with fail
        refine (within_any [⟨x.dest, 1, 16⟩, ⟨x.prio, 0, 2⟩, ⟨x.born, 0, 1099511627776⟩, ⟨x.life, 1, 1048576⟩, ⟨x.total, 1, 20000⟩] _ _ (lm_lit (t := 155) (Blk.new _ _ _) 5 rfl (by decide))).mono ?_
        rintro e w2 ⟨rfl, hb2⟩
        rw [D.out]
        have hB2 := bnext (bal hB1 (.cells #[.int .i64 x.dest, .int .i64 1, .int .i64 16, .int .i64 x.prio, .int .i64 0, .int .i64 2, .int .i64 x.born, .int .i64 0, .int .i64 1099511627776, .int .i64 x.life, .int .i64 1, .int .i64 1048576, .int .i64 x.total, .int .i64 1, .int .i64 20000] 155)) hb2
        have k2 := (K1.out.alloc (.cells #[.int .i64 x.dest, .int .i64 1, .int .i64 16, .int .i64 x.prio, .int .i64 0, .int .i64 2, .int .i64 x.born, .int .i64 0, .int .i64 1099511627776, .int .i64 x.life, .int .i64 1, .int .i64 1048576, .int .i64 x.total, .int .i64 1, .int .i64 20000] 155)).below hb2
        clear x0 x1 x2 x3 x4 x5 x6 x7 x8 hb2
        obtain ⟨x0, x1, x2, x3, x4, x5, x6, x7, x8⟩ := k2.c9
        clear k2
        go_wp2_with fail
        go_ret
        exact ⟨ret_int R.out.symm, hB2⟩
      · have hs1 : ((x.data.size : Int) == 0) = false := beq_eq_false_iff_ne.2 (by omega)
        by_cases hl : 1000 < x.data.size
        · have R : Hid (bE x = 4) := Lib.hid (bE_l H1.out HF.out hs hl)
          have hl1 : (x.data.size : Int) > 1000 := by omega
          go_enter Try.func90, Try.ntmps90
          go_wp2_with fail
          refine (CheckID_any x.node x.seq x.off _).mono ?_
          rintro e w1 ⟨rfl, hb1⟩
          rw [I.out]
          have k1 := (Blk.new w 49 #[.int .i64 x.node, .int .u64 x.seq, .int .i64 x.off, .int .i64 x.dest, .int .i64 x.prio, .int .i64 x.born, .int .i64 x.life, .int .i64 x.total, .string x.data]).below hb1
          obtain ⟨x0, x1, x2, x3, x4, x5, x6, x7, x8⟩ := k1.c9
          have hB1 := bnext (bal (Below.refl w.heap.size w) (.cells #[.int .i64 x.node, .int .u64 x.seq, .int .i64 x.off, .int .i64 x.dest, .int .i64 x.prio, .int .i64 x.born, .int .i64 x.life, .int .i64 x.total, .string x.data] 49)) hb1
          have hl1 := k1.lt
          have K1 := Lib.hid k1
          clear hb1 k1
          go_wp2_with fail
          refine (within_any [⟨x.dest, 1, 16⟩, ⟨x.prio, 0, 2⟩, ⟨x.born, 0, 1099511627776⟩, ⟨x.life, 1, 1048576⟩, ⟨x.total, 1, 20000⟩] _ _ (lm_lit (t := 155) (Blk.new _ _ _) 5 rfl (by decide))).mono ?_
          rintro e w2 ⟨rfl, hb2⟩
          rw [D.out]
          have hB2 := bnext (bal hB1 (.cells #[.int .i64 x.dest, .int .i64 1, .int .i64 16, .int .i64 x.prio, .int .i64 0, .int .i64 2, .int .i64 x.born, .int .i64 0, .int .i64 1099511627776, .int .i64 x.life, .int .i64 1, .int .i64 1048576, .int .i64 x.total, .int .i64 1, .int .i64 20000] 155)) hb2
          have k2 := (K1.out.alloc (.cells #[.int .i64 x.dest, .int .i64 1, .int .i64 16, .int .i64 x.prio, .int .i64 0, .int .i64 2, .int .i64 x.born, .int .i64 0, .int .i64 1099511627776, .int .i64 x.life, .int .i64 1, .int .i64 1048576, .int .i64 x.total, .int .i64 1, .int .i64 20000] 155)).below hb2
          clear x0 x1 x2 x3 x4 x5 x6 x7 x8 hb2
          obtain ⟨x0, x1, x2, x3, x4, x5, x6, x7, x8⟩ := k2.c9
          clear k2
          go_wp2_with fail
          go_ret
          exact ⟨ret_int R.out.symm, hB2⟩
        · have hl' : ¬ (x.data.size : Int) > 1000 := by omega
          have WS : IntKind.i64.wrap (x.total - x.data.size) = x.total - x.data.size := IntWalk.i64_in _ (by omega)
          by_cases ht : x.total < x.off + x.data.size
          · have R : Hid (bE x = 12) := Lib.hid (bE_t H1.out HF.out hs hl ht)
            have ht1 : x.off > x.total - x.data.size := by omega
            go_enter Try.func90, Try.ntmps90
            go_wp2_with fail
            refine (CheckID_any x.node x.seq x.off _).mono ?_
            rintro e w1 ⟨rfl, hb1⟩
            rw [I.out]
            have k1 := (Blk.new w 49 #[.int .i64 x.node, .int .u64 x.seq, .int .i64 x.off, .int .i64 x.dest, .int .i64 x.prio, .int .i64 x.born, .int .i64 x.life, .int .i64 x.total, .string x.data]).below hb1
            obtain ⟨x0, x1, x2, x3, x4, x5, x6, x7, x8⟩ := k1.c9
            have hB1 := bnext (bal (Below.refl w.heap.size w) (.cells #[.int .i64 x.node, .int .u64 x.seq, .int .i64 x.off, .int .i64 x.dest, .int .i64 x.prio, .int .i64 x.born, .int .i64 x.life, .int .i64 x.total, .string x.data] 49)) hb1
            have hl1 := k1.lt
            have K1 := Lib.hid k1
            clear hb1 k1
            go_wp2_with fail
            refine (within_any [⟨x.dest, 1, 16⟩, ⟨x.prio, 0, 2⟩, ⟨x.born, 0, 1099511627776⟩, ⟨x.life, 1, 1048576⟩, ⟨x.total, 1, 20000⟩] _ _ (lm_lit (t := 155) (Blk.new _ _ _) 5 rfl (by decide))).mono ?_
            rintro e w2 ⟨rfl, hb2⟩
            rw [D.out]
            have hB2 := bnext (bal hB1 (.cells #[.int .i64 x.dest, .int .i64 1, .int .i64 16, .int .i64 x.prio, .int .i64 0, .int .i64 2, .int .i64 x.born, .int .i64 0, .int .i64 1099511627776, .int .i64 x.life, .int .i64 1, .int .i64 1048576, .int .i64 x.total, .int .i64 1, .int .i64 20000] 155)) hb2
            have k2 := (K1.out.alloc (.cells #[.int .i64 x.dest, .int .i64 1, .int .i64 16, .int .i64 x.prio, .int .i64 0, .int .i64 2, .int .i64 x.born, .int .i64 0, .int .i64 1099511627776, .int .i64 x.life, .int .i64 1, .int .i64 1048576, .int .i64 x.total, .int .i64 1, .int .i64 20000] 155)).below hb2
            clear x0 x1 x2 x3 x4 x5 x6 x7 x8 hb2
            obtain ⟨x0, x1, x2, x3, x4, x5, x6, x7, x8⟩ := k2.c9
            clear k2
            go_wp2_with fail
            go_ret
            exact ⟨ret_int R.out.symm, hB2⟩
          · have R : Hid (bE x = 0) := Lib.hid (bE_0 H1.out HF.out hs hl ht)
            have ht1 : ¬ x.off > x.total - x.data.size := by omega
            go_enter Try.func90, Try.ntmps90
            go_wp2_with fail
            refine (CheckID_any x.node x.seq x.off _).mono ?_
            rintro e w1 ⟨rfl, hb1⟩
            rw [I.out]
            have k1 := (Blk.new w 49 #[.int .i64 x.node, .int .u64 x.seq, .int .i64 x.off, .int .i64 x.dest, .int .i64 x.prio, .int .i64 x.born, .int .i64 x.life, .int .i64 x.total, .string x.data]).below hb1
            obtain ⟨x0, x1, x2, x3, x4, x5, x6, x7, x8⟩ := k1.c9
            have hB1 := bnext (bal (Below.refl w.heap.size w) (.cells #[.int .i64 x.node, .int .u64 x.seq, .int .i64 x.off, .int .i64 x.dest, .int .i64 x.prio, .int .i64 x.born, .int .i64 x.life, .int .i64 x.total, .string x.data] 49)) hb1
            have hl1 := k1.lt
            have K1 := Lib.hid k1
            clear hb1 k1
            go_wp2_with fail
            refine (within_any [⟨x.dest, 1, 16⟩, ⟨x.prio, 0, 2⟩, ⟨x.born, 0, 1099511627776⟩, ⟨x.life, 1, 1048576⟩, ⟨x.total, 1, 20000⟩] _ _ (lm_lit (t := 155) (Blk.new _ _ _) 5 rfl (by decide))).mono ?_
            rintro e w2 ⟨rfl, hb2⟩
            rw [D.out]
            have hB2 := bnext (bal hB1 (.cells #[.int .i64 x.dest, .int .i64 1, .int .i64 16, .int .i64 x.prio, .int .i64 0, .int .i64 2, .int .i64 x.born, .int .i64 0, .int .i64 1099511627776, .int .i64 x.life, .int .i64 1, .int .i64 1048576, .int .i64 x.total, .int .i64 1, .int .i64 20000] 155)) hb2
            have k2 := (K1.out.alloc (.cells #[.int .i64 x.dest, .int .i64 1, .int .i64 16, .int .i64 x.prio, .int .i64 0, .int .i64 2, .int .i64 x.born, .int .i64 0, .int .i64 1099511627776, .int .i64 x.life, .int .i64 1, .int .i64 1048576, .int .i64 x.total, .int .i64 1, .int .i64 20000] 155)).below hb2
            clear x0 x1 x2 x3 x4 x5 x6 x7 x8 hb2
            obtain ⟨x0, x1, x2, x3, x4, x5, x6, x7, x8⟩ := k2.c9
            clear k2
            go_wp2_with fail
            go_ret
            exact ⟨ret_int R.out.symm, hB2⟩
    · have R : Hid (bE x = 2) := Lib.hid (bE_f H1.out hf)
      have D : Hid ((!([⟨x.dest, 1, 16⟩, ⟨x.prio, 0, 2⟩, ⟨x.born, 0, 1099511627776⟩, ⟨x.life, 1, 1048576⟩, ⟨x.total, 1, 20000⟩] : List Lm).any Lm.bad) = false) := Lib.hid (by unfold Fok at hf; simp [Lm.bad]; omega)
      clear hf
      go_enter Try.func90, Try.ntmps90
      go_wp2_with fail
      refine (CheckID_any x.node x.seq x.off _).mono ?_
      rintro e w1 ⟨rfl, hb1⟩
      rw [I.out]
      have k1 := (Blk.new w 49 #[.int .i64 x.node, .int .u64 x.seq, .int .i64 x.off, .int .i64 x.dest, .int .i64 x.prio, .int .i64 x.born, .int .i64 x.life, .int .i64 x.total, .string x.data]).below hb1
      obtain ⟨x0, x1, x2, x3, x4, x5, x6, x7, x8⟩ := k1.c9
      have hB1 := bnext (bal (Below.refl w.heap.size w) (.cells #[.int .i64 x.node, .int .u64 x.seq, .int .i64 x.off, .int .i64 x.dest, .int .i64 x.prio, .int .i64 x.born, .int .i64 x.life, .int .i64 x.total, .string x.data] 49)) hb1
      have hl1 := k1.lt
      have K1 := Lib.hid k1
      clear hb1 k1
      go_wp2_with fail
      refine (within_any [⟨x.dest, 1, 16⟩, ⟨x.prio, 0, 2⟩, ⟨x.born, 0, 1099511627776⟩, ⟨x.life, 1, 1048576⟩, ⟨x.total, 1, 20000⟩] _ _ (lm_lit (t := 155) (Blk.new _ _ _) 5 rfl (by decide))).mono ?_
      rintro e w2 ⟨rfl, hb2⟩
      rw [D.out]
      have hB2 := bnext (bal hB1 (.cells #[.int .i64 x.dest, .int .i64 1, .int .i64 16, .int .i64 x.prio, .int .i64 0, .int .i64 2, .int .i64 x.born, .int .i64 0, .int .i64 1099511627776, .int .i64 x.life, .int .i64 1, .int .i64 1048576, .int .i64 x.total, .int .i64 1, .int .i64 20000] 155)) hb2
      have k2 := (K1.out.alloc (.cells #[.int .i64 x.dest, .int .i64 1, .int .i64 16, .int .i64 x.prio, .int .i64 0, .int .i64 2, .int .i64 x.born, .int .i64 0, .int .i64 1099511627776, .int .i64 x.life, .int .i64 1, .int .i64 1048576, .int .i64 x.total, .int .i64 1, .int .i64 20000] 155)).below hb2
      clear x0 x1 x2 x3 x4 x5 x6 x7 x8 hb2
      obtain ⟨x0, x1, x2, x3, x4, x5, x6, x7, x8⟩ := k2.c9
      clear k2
      go_wp2_with fail
      go_ret
      exact ⟨ret_int R.out.symm, hB2⟩
  · have R : Hid (bE x = 2) := Lib.hid (bE_id hid)
    have I := Lib.hid (idE_ne hid)
    clear hid
    go_enter Try.func90, Try.ntmps90
    go_wp2_with fail
    refine (CheckID_any x.node x.seq x.off _).mono ?_
    rintro e w1 ⟨rfl, hb1⟩
    rw [I.out]
    have hB1 := bnext (bal (Below.refl w.heap.size w) (.cells #[.int .i64 x.node, .int .u64 x.seq, .int .i64 x.off, .int .i64 x.dest, .int .i64 x.prio, .int .i64 x.born, .int .i64 x.life, .int .i64 x.total, .string x.data] 49)) hb1
    clear hb1
    go_wp2_with fail
    go_ret
    exact ⟨ret_int R.out.symm, hB1⟩

set_option maxRecDepth 100000 in
set_option maxHeartbeats 8000000 in
theorem rCheck_any (x : Bn) (w : World) : Calls Try.prog 96 #[x.val] w (RetI (bE x) w) := by
  rw [Bn.val_eq]
  by_cases hid : IdOk x.node x.seq x.off
  · have H1 := Lib.hid hid
    have ho := hid.2.2
    have I := Lib.hid (idE_ok hid)
    clear hid
    by_cases a1 : 1 ≤ x.dest
    · skip
      by_cases a2 : x.dest ≤ 16
      · skip
        by_cases b1 : 0 ≤ x.prio
        · skip
          by_cases b2 : x.prio ≤ 2
          · skip
            by_cases c1 : 0 ≤ x.born
            · skip
              by_cases c2 : x.born ≤ 1099511627776
              · skip
                by_cases d1 : 1 ≤ x.life
                · skip
                  by_cases d2 : x.life ≤ 1048576
                  · skip
                    by_cases e1 : 1 ≤ x.total
                    · skip
                      by_cases e2 : x.total ≤ 20000
                      · skip
                        have HF : Hid (Fok x) := Lib.hid ⟨⟨a1, a2⟩, ⟨b1, b2⟩, ⟨c1, c2⟩, ⟨d1, d2⟩, ⟨e1, e2⟩⟩
                        by_cases hs : x.data.size = 0
                        · have R : Hid (bE x = 11) := Lib.hid (bE_s H1.out HF.out hs)
                          have hs1 : ((x.data.size : Int) == 0) = true := by rw [hs]; rfl
                          clear hs
                          go_enter Try.func96, Try.ntmps96
                          go_wp2_with fail
                          refine (rCheckID_any x.node x.seq x.off _).mono ?_
                          rintro e w1 ⟨rfl, hb1⟩
                          rw [I.out]
                          have k1 := (Blk.new w 49 #[.int .i64 x.node, .int .u64 x.seq, .int .i64 x.off, .int .i64 x.dest, .int .i64 x.prio, .int .i64 x.born, .int .i64 x.life, .int .i64 x.total, .string x.data]).below hb1
                          obtain ⟨x0, x1, x2, x3, x4, x5, x6, x7, x8⟩ := k1.c9
                          have hB1 := bnext (bal (Below.refl w.heap.size w) (.cells #[.int .i64 x.node, .int .u64 x.seq, .int .i64 x.off, .int .i64 x.dest, .int .i64 x.prio, .int .i64 x.born, .int .i64 x.life, .int .i64 x.total, .string x.data] 49)) hb1
                          clear hb1 k1
                          go_wp2_with fail
                          go_ret
                          exact ⟨ret_int R.out.symm, hB1⟩
                        · have hs1 : ((x.data.size : Int) == 0) = false := beq_eq_false_iff_ne.2 (by omega)
                          by_cases hl : 1000 < x.data.size
                          · have R : Hid (bE x = 4) := Lib.hid (bE_l H1.out HF.out hs hl)
                            have hl1 : (x.data.size : Int) > 1000 := by omega
                            go_enter Try.func96, Try.ntmps96
                            go_wp2_with fail
                            refine (rCheckID_any x.node x.seq x.off _).mono ?_
                            rintro e w1 ⟨rfl, hb1⟩
                            rw [I.out]
                            have k1 := (Blk.new w 49 #[.int .i64 x.node, .int .u64 x.seq, .int .i64 x.off, .int .i64 x.dest, .int .i64 x.prio, .int .i64 x.born, .int .i64 x.life, .int .i64 x.total, .string x.data]).below hb1
                            obtain ⟨x0, x1, x2, x3, x4, x5, x6, x7, x8⟩ := k1.c9
                            have hB1 := bnext (bal (Below.refl w.heap.size w) (.cells #[.int .i64 x.node, .int .u64 x.seq, .int .i64 x.off, .int .i64 x.dest, .int .i64 x.prio, .int .i64 x.born, .int .i64 x.life, .int .i64 x.total, .string x.data] 49)) hb1
                            clear hb1 k1
                            go_wp2_with fail
                            go_ret
                            exact ⟨ret_int R.out.symm, hB1⟩
                          · have hl' : ¬ (x.data.size : Int) > 1000 := by omega
                            have WS : IntKind.i64.wrap (x.off + x.data.size) = x.off + x.data.size := IntWalk.i64_in _ (by omega)
                            by_cases ht : x.total < x.off + x.data.size
                            · have R : Hid (bE x = 12) := Lib.hid (bE_t H1.out HF.out hs hl ht)
                              have ht1 : x.off + x.data.size > x.total := by omega
                              go_enter Try.func96, Try.ntmps96
                              go_wp2_with fail
                              refine (rCheckID_any x.node x.seq x.off _).mono ?_
                              rintro e w1 ⟨rfl, hb1⟩
                              rw [I.out]
                              have k1 := (Blk.new w 49 #[.int .i64 x.node, .int .u64 x.seq, .int .i64 x.off, .int .i64 x.dest, .int .i64 x.prio, .int .i64 x.born, .int .i64 x.life, .int .i64 x.total, .string x.data]).below hb1
                              obtain ⟨x0, x1, x2, x3, x4, x5, x6, x7, x8⟩ := k1.c9
                              have hB1 := bnext (bal (Below.refl w.heap.size w) (.cells #[.int .i64 x.node, .int .u64 x.seq, .int .i64 x.off, .int .i64 x.dest, .int .i64 x.prio, .int .i64 x.born, .int .i64 x.life, .int .i64 x.total, .string x.data] 49)) hb1
                              clear hb1 k1
                              go_wp2_with fail
                              go_ret
                              exact ⟨ret_int R.out.symm, hB1⟩
                            · have R : Hid (bE x = 0) := Lib.hid (bE_0 H1.out HF.out hs hl ht)
                              have ht1 : ¬ x.off + x.data.size > x.total := by omega
                              go_enter Try.func96, Try.ntmps96
                              go_wp2_with fail
                              refine (rCheckID_any x.node x.seq x.off _).mono ?_
                              rintro e w1 ⟨rfl, hb1⟩
                              rw [I.out]
                              have k1 := (Blk.new w 49 #[.int .i64 x.node, .int .u64 x.seq, .int .i64 x.off, .int .i64 x.dest, .int .i64 x.prio, .int .i64 x.born, .int .i64 x.life, .int .i64 x.total, .string x.data]).below hb1
                              obtain ⟨x0, x1, x2, x3, x4, x5, x6, x7, x8⟩ := k1.c9
                              have hB1 := bnext (bal (Below.refl w.heap.size w) (.cells #[.int .i64 x.node, .int .u64 x.seq, .int .i64 x.off, .int .i64 x.dest, .int .i64 x.prio, .int .i64 x.born, .int .i64 x.life, .int .i64 x.total, .string x.data] 49)) hb1
                              clear hb1 k1
                              go_wp2_with fail
                              go_ret
                              exact ⟨ret_int R.out.symm, hB1⟩
                      · have ne2 : 20000 < x.total := by omega
                        have R : Hid (bE x = 2) := Lib.hid (bE_f H1.out (fun e => e2 e.2.2.2.2.2))
                        go_enter Try.func96, Try.ntmps96
                        go_wp2_with fail
                        refine (rCheckID_any x.node x.seq x.off _).mono ?_
                        rintro e w1 ⟨rfl, hb1⟩
                        rw [I.out]
                        have k1 := (Blk.new w 49 #[.int .i64 x.node, .int .u64 x.seq, .int .i64 x.off, .int .i64 x.dest, .int .i64 x.prio, .int .i64 x.born, .int .i64 x.life, .int .i64 x.total, .string x.data]).below hb1
                        obtain ⟨x0, x1, x2, x3, x4, x5, x6, x7, x8⟩ := k1.c9
                        have hB1 := bnext (bal (Below.refl w.heap.size w) (.cells #[.int .i64 x.node, .int .u64 x.seq, .int .i64 x.off, .int .i64 x.dest, .int .i64 x.prio, .int .i64 x.born, .int .i64 x.life, .int .i64 x.total, .string x.data] 49)) hb1
                        clear hb1 k1
                        go_wp2_with fail
                        go_ret
                        exact ⟨ret_int R.out.symm, hB1⟩
                    · have ne1 : x.total < 1 := by omega
                      have R : Hid (bE x = 2) := Lib.hid (bE_f H1.out (fun e => e1 e.2.2.2.2.1))
                      go_enter Try.func96, Try.ntmps96
                      go_wp2_with fail
                      refine (rCheckID_any x.node x.seq x.off _).mono ?_
                      rintro e w1 ⟨rfl, hb1⟩
                      rw [I.out]
                      have k1 := (Blk.new w 49 #[.int .i64 x.node, .int .u64 x.seq, .int .i64 x.off, .int .i64 x.dest, .int .i64 x.prio, .int .i64 x.born, .int .i64 x.life, .int .i64 x.total, .string x.data]).below hb1
                      obtain ⟨x0, x1, x2, x3, x4, x5, x6, x7, x8⟩ := k1.c9
                      have hB1 := bnext (bal (Below.refl w.heap.size w) (.cells #[.int .i64 x.node, .int .u64 x.seq, .int .i64 x.off, .int .i64 x.dest, .int .i64 x.prio, .int .i64 x.born, .int .i64 x.life, .int .i64 x.total, .string x.data] 49)) hb1
                      clear hb1 k1
                      go_wp2_with fail
                      go_ret
                      exact ⟨ret_int R.out.symm, hB1⟩
                  · have nd2 : 1048576 < x.life := by omega
                    have R : Hid (bE x = 2) := Lib.hid (bE_f H1.out (fun e => d2 e.2.2.2.1.2))
                    go_enter Try.func96, Try.ntmps96
                    go_wp2_with fail
                    refine (rCheckID_any x.node x.seq x.off _).mono ?_
                    rintro e w1 ⟨rfl, hb1⟩
                    rw [I.out]
                    have k1 := (Blk.new w 49 #[.int .i64 x.node, .int .u64 x.seq, .int .i64 x.off, .int .i64 x.dest, .int .i64 x.prio, .int .i64 x.born, .int .i64 x.life, .int .i64 x.total, .string x.data]).below hb1
                    obtain ⟨x0, x1, x2, x3, x4, x5, x6, x7, x8⟩ := k1.c9
                    have hB1 := bnext (bal (Below.refl w.heap.size w) (.cells #[.int .i64 x.node, .int .u64 x.seq, .int .i64 x.off, .int .i64 x.dest, .int .i64 x.prio, .int .i64 x.born, .int .i64 x.life, .int .i64 x.total, .string x.data] 49)) hb1
                    clear hb1 k1
                    go_wp2_with fail
                    go_ret
                    exact ⟨ret_int R.out.symm, hB1⟩
                · have nd1 : x.life < 1 := by omega
                  have R : Hid (bE x = 2) := Lib.hid (bE_f H1.out (fun e => d1 e.2.2.2.1.1))
                  go_enter Try.func96, Try.ntmps96
                  go_wp2_with fail
                  refine (rCheckID_any x.node x.seq x.off _).mono ?_
                  rintro e w1 ⟨rfl, hb1⟩
                  rw [I.out]
                  have k1 := (Blk.new w 49 #[.int .i64 x.node, .int .u64 x.seq, .int .i64 x.off, .int .i64 x.dest, .int .i64 x.prio, .int .i64 x.born, .int .i64 x.life, .int .i64 x.total, .string x.data]).below hb1
                  obtain ⟨x0, x1, x2, x3, x4, x5, x6, x7, x8⟩ := k1.c9
                  have hB1 := bnext (bal (Below.refl w.heap.size w) (.cells #[.int .i64 x.node, .int .u64 x.seq, .int .i64 x.off, .int .i64 x.dest, .int .i64 x.prio, .int .i64 x.born, .int .i64 x.life, .int .i64 x.total, .string x.data] 49)) hb1
                  clear hb1 k1
                  go_wp2_with fail
                  go_ret
                  exact ⟨ret_int R.out.symm, hB1⟩
              · have nc2 : 1099511627776 < x.born := by omega
                have R : Hid (bE x = 2) := Lib.hid (bE_f H1.out (fun e => c2 e.2.2.1.2))
                go_enter Try.func96, Try.ntmps96
                go_wp2_with fail
                refine (rCheckID_any x.node x.seq x.off _).mono ?_
                rintro e w1 ⟨rfl, hb1⟩
                rw [I.out]
                have k1 := (Blk.new w 49 #[.int .i64 x.node, .int .u64 x.seq, .int .i64 x.off, .int .i64 x.dest, .int .i64 x.prio, .int .i64 x.born, .int .i64 x.life, .int .i64 x.total, .string x.data]).below hb1
                obtain ⟨x0, x1, x2, x3, x4, x5, x6, x7, x8⟩ := k1.c9
                have hB1 := bnext (bal (Below.refl w.heap.size w) (.cells #[.int .i64 x.node, .int .u64 x.seq, .int .i64 x.off, .int .i64 x.dest, .int .i64 x.prio, .int .i64 x.born, .int .i64 x.life, .int .i64 x.total, .string x.data] 49)) hb1
                clear hb1 k1
                go_wp2_with fail
                go_ret
                exact ⟨ret_int R.out.symm, hB1⟩
            · have nc1 : x.born < 0 := by omega
              have R : Hid (bE x = 2) := Lib.hid (bE_f H1.out (fun e => c1 e.2.2.1.1))
              go_enter Try.func96, Try.ntmps96
              go_wp2_with fail
              refine (rCheckID_any x.node x.seq x.off _).mono ?_
              rintro e w1 ⟨rfl, hb1⟩
              rw [I.out]
              have k1 := (Blk.new w 49 #[.int .i64 x.node, .int .u64 x.seq, .int .i64 x.off, .int .i64 x.dest, .int .i64 x.prio, .int .i64 x.born, .int .i64 x.life, .int .i64 x.total, .string x.data]).below hb1
              obtain ⟨x0, x1, x2, x3, x4, x5, x6, x7, x8⟩ := k1.c9
              have hB1 := bnext (bal (Below.refl w.heap.size w) (.cells #[.int .i64 x.node, .int .u64 x.seq, .int .i64 x.off, .int .i64 x.dest, .int .i64 x.prio, .int .i64 x.born, .int .i64 x.life, .int .i64 x.total, .string x.data] 49)) hb1
              clear hb1 k1
              go_wp2_with fail
              go_ret
              exact ⟨ret_int R.out.symm, hB1⟩
          · have nb2 : 2 < x.prio := by omega
            have R : Hid (bE x = 2) := Lib.hid (bE_f H1.out (fun e => b2 e.2.1.2))
            go_enter Try.func96, Try.ntmps96
            go_wp2_with fail
            refine (rCheckID_any x.node x.seq x.off _).mono ?_
            rintro e w1 ⟨rfl, hb1⟩
            rw [I.out]
            have k1 := (Blk.new w 49 #[.int .i64 x.node, .int .u64 x.seq, .int .i64 x.off, .int .i64 x.dest, .int .i64 x.prio, .int .i64 x.born, .int .i64 x.life, .int .i64 x.total, .string x.data]).below hb1
            obtain ⟨x0, x1, x2, x3, x4, x5, x6, x7, x8⟩ := k1.c9
            have hB1 := bnext (bal (Below.refl w.heap.size w) (.cells #[.int .i64 x.node, .int .u64 x.seq, .int .i64 x.off, .int .i64 x.dest, .int .i64 x.prio, .int .i64 x.born, .int .i64 x.life, .int .i64 x.total, .string x.data] 49)) hb1
            clear hb1 k1
            go_wp2_with fail
            go_ret
            exact ⟨ret_int R.out.symm, hB1⟩
        · have nb1 : x.prio < 0 := by omega
          have R : Hid (bE x = 2) := Lib.hid (bE_f H1.out (fun e => b1 e.2.1.1))
          go_enter Try.func96, Try.ntmps96
          go_wp2_with fail
          refine (rCheckID_any x.node x.seq x.off _).mono ?_
          rintro e w1 ⟨rfl, hb1⟩
          rw [I.out]
          have k1 := (Blk.new w 49 #[.int .i64 x.node, .int .u64 x.seq, .int .i64 x.off, .int .i64 x.dest, .int .i64 x.prio, .int .i64 x.born, .int .i64 x.life, .int .i64 x.total, .string x.data]).below hb1
          obtain ⟨x0, x1, x2, x3, x4, x5, x6, x7, x8⟩ := k1.c9
          have hB1 := bnext (bal (Below.refl w.heap.size w) (.cells #[.int .i64 x.node, .int .u64 x.seq, .int .i64 x.off, .int .i64 x.dest, .int .i64 x.prio, .int .i64 x.born, .int .i64 x.life, .int .i64 x.total, .string x.data] 49)) hb1
          clear hb1 k1
          go_wp2_with fail
          go_ret
          exact ⟨ret_int R.out.symm, hB1⟩
      · have na2 : 16 < x.dest := by omega
        have R : Hid (bE x = 2) := Lib.hid (bE_f H1.out (fun e => a2 e.1.2))
        go_enter Try.func96, Try.ntmps96
        go_wp2_with fail
        refine (rCheckID_any x.node x.seq x.off _).mono ?_
        rintro e w1 ⟨rfl, hb1⟩
        rw [I.out]
        have k1 := (Blk.new w 49 #[.int .i64 x.node, .int .u64 x.seq, .int .i64 x.off, .int .i64 x.dest, .int .i64 x.prio, .int .i64 x.born, .int .i64 x.life, .int .i64 x.total, .string x.data]).below hb1
        obtain ⟨x0, x1, x2, x3, x4, x5, x6, x7, x8⟩ := k1.c9
        have hB1 := bnext (bal (Below.refl w.heap.size w) (.cells #[.int .i64 x.node, .int .u64 x.seq, .int .i64 x.off, .int .i64 x.dest, .int .i64 x.prio, .int .i64 x.born, .int .i64 x.life, .int .i64 x.total, .string x.data] 49)) hb1
        clear hb1 k1
        go_wp2_with fail
        go_ret
        exact ⟨ret_int R.out.symm, hB1⟩
    · have na1 : x.dest < 1 := by omega
      have R : Hid (bE x = 2) := Lib.hid (bE_f H1.out (fun e => a1 e.1.1))
      go_enter Try.func96, Try.ntmps96
      go_wp2_with fail
      refine (rCheckID_any x.node x.seq x.off _).mono ?_
      rintro e w1 ⟨rfl, hb1⟩
      rw [I.out]
      have k1 := (Blk.new w 49 #[.int .i64 x.node, .int .u64 x.seq, .int .i64 x.off, .int .i64 x.dest, .int .i64 x.prio, .int .i64 x.born, .int .i64 x.life, .int .i64 x.total, .string x.data]).below hb1
      obtain ⟨x0, x1, x2, x3, x4, x5, x6, x7, x8⟩ := k1.c9
      have hB1 := bnext (bal (Below.refl w.heap.size w) (.cells #[.int .i64 x.node, .int .u64 x.seq, .int .i64 x.off, .int .i64 x.dest, .int .i64 x.prio, .int .i64 x.born, .int .i64 x.life, .int .i64 x.total, .string x.data] 49)) hb1
      clear hb1 k1
      go_wp2_with fail
      go_ret
      exact ⟨ret_int R.out.symm, hB1⟩
  · have R : Hid (bE x = 2) := Lib.hid (bE_id hid)
    have I := Lib.hid (idE_ne hid)
    clear hid
    go_enter Try.func96, Try.ntmps96
    go_wp2_with fail
    refine (rCheckID_any x.node x.seq x.off _).mono ?_
    rintro e w1 ⟨rfl, hb1⟩
    rw [I.out]
    have k1 := (Blk.new w 49 #[.int .i64 x.node, .int .u64 x.seq, .int .i64 x.off, .int .i64 x.dest, .int .i64 x.prio, .int .i64 x.born, .int .i64 x.life, .int .i64 x.total, .string x.data]).below hb1
    obtain ⟨x0, x1, x2, x3, x4, x5, x6, x7, x8⟩ := k1.c9
    have hB1 := bnext (bal (Below.refl w.heap.size w) (.cells #[.int .i64 x.node, .int .u64 x.seq, .int .i64 x.off, .int .i64 x.dest, .int .i64 x.prio, .int .i64 x.born, .int .i64 x.life, .int .i64 x.total, .string x.data] 49)) hb1
    clear hb1 k1
    go_wp2_with fail
    go_ret
    exact ⟨ret_int R.out.symm, hB1⟩
end Go.Proofs.Ytfgkkflbpfocjaa.Bu

namespace Go.Proofs.Ytfgkkflbpfocjaa
open Go.RowKit
set_option linter.unusedVariables false
set_option linter.unusedSimpArgs false

/-- equality of frames, field by field -/
def frEqB (x0 x1 x2 x3 x4 x5 x6 x7 x8 x9 x10 x11 x12 x13 x14 x15 x16 x17 : Int) (s : ByteArray) (y0 y1 y2 y3 y4 y5 y6 y7 y8 y9 y10 y11 y12 y13 y14 y15 y16 y17 : Int) (s' : ByteArray) : Bool := x0 == y0 && x1 == y1 && x2 == y2 && x3 == y3 && x4 == y4 && x5 == y5 && x6 == y6 && x7 == y7 && x8 == y8 && x9 == y9 && x10 == y10 && x11 == y11 && x12 == y12 && x13 == y13 && x14 == y14 && x15 == y15 && x16 == y16 && x17 == y17 && s.toList == s'.toList
theorem frEqB_self (x0 x1 x2 x3 x4 x5 x6 x7 x8 x9 x10 x11 x12 x13 x14 x15 x16 x17 : Int) (s : ByteArray) : frEqB x0 x1 x2 x3 x4 x5 x6 x7 x8 x9 x10 x11 x12 x13 x14 x15 x16 x17 s x0 x1 x2 x3 x4 x5 x6 x7 x8 x9 x10 x11 x12 x13 x14 x15 x16 x17 s = true := by unfold frEqB; simp
theorem ba_ext {a b : ByteArray} (h : a.toList = b.toList) : a = b := by
  rw [ByteArray.toList_eq, ByteArray.toList_eq] at h
  cases a; cases b
  simp at h
  rw [h]
theorem frEqB_iff {x0 x1 x2 x3 x4 x5 x6 x7 x8 x9 x10 x11 x12 x13 x14 x15 x16 x17 : Int} {s : ByteArray} {y0 y1 y2 y3 y4 y5 y6 y7 y8 y9 y10 y11 y12 y13 y14 y15 y16 y17 : Int} {s' : ByteArray} : frEqB x0 x1 x2 x3 x4 x5 x6 x7 x8 x9 x10 x11 x12 x13 x14 x15 x16 x17 s y0 y1 y2 y3 y4 y5 y6 y7 y8 y9 y10 y11 y12 y13 y14 y15 y16 y17 s' = true ↔ (x0 = y0 ∧ x1 = y1 ∧ x2 = y2 ∧ x3 = y3 ∧ x4 = y4 ∧ x5 = y5 ∧ x6 = y6 ∧ x7 = y7 ∧ x8 = y8 ∧ x9 = y9 ∧ x10 = y10 ∧ x11 = y11 ∧ x12 = y12 ∧ x13 = y13 ∧ x14 = y14 ∧ x15 = y15 ∧ x16 = y16 ∧ x17 = y17 ∧ s = s') := by
  unfold frEqB
  simp only [Bool.and_eq_true, beq_iff_eq]
  constructor
  · rintro ⟨⟨⟨⟨⟨⟨⟨⟨⟨⟨⟨⟨⟨⟨⟨⟨⟨⟨h0, h1⟩, h2⟩, h3⟩, h4⟩, h5⟩, h6⟩, h7⟩, h8⟩, h9⟩, h10⟩, h11⟩, h12⟩, h13⟩, h14⟩, h15⟩, h16⟩, h17⟩, h18⟩
    exact ⟨h0, h1, h2, h3, h4, h5, h6, h7, h8, h9, h10, h11, h12, h13, h14, h15, h16, h17, ba_ext h18⟩
  · rintro ⟨h0, h1, h2, h3, h4, h5, h6, h7, h8, h9, h10, h11, h12, h13, h14, h15, h16, h17, h18⟩
    exact ⟨⟨⟨⟨⟨⟨⟨⟨⟨⟨⟨⟨⟨⟨⟨⟨⟨⟨h0, h1⟩, h2⟩, h3⟩, h4⟩, h5⟩, h6⟩, h7⟩, h8⟩, h9⟩, h10⟩, h11⟩, h12⟩, h13⟩, h14⟩, h15⟩, h16⟩, h17⟩, by rw [h18]⟩
set_option maxHeartbeats 2000000 in
theorem run_ne_fr (x0 x1 x2 x3 x4 x5 x6 x7 x8 x9 x10 x11 x12 x13 x14 x15 x16 x17 : Int) (s : ByteArray) (y0 y1 y2 y3 y4 y5 y6 y7 y8 y9 y10 y11 y12 y13 y14 y15 y16 y17 : Int) (s' : ByteArray) (w : World) :
    (binOp .neq 51 (.agg #[.int .i64 x0, .int .i64 x1, .int .i64 x2, .int .u64 x3, .int .u64 x4, .int .u64 x5, .int .u64 x6, .int .i64 x7, .int .u64 x8, .int .i64 x9, .int .i64 x10, .int .u64 x11, .int .i64 x12, .int .i64 x13, .int .i64 x14, .int .i64 x15, .int .i64 x16, .int .i64 x17, .string s]) (.agg #[.int .i64 y0, .int .i64 y1, .int .i64 y2, .int .u64 y3, .int .u64 y4, .int .u64 y5, .int .u64 y6, .int .i64 y7, .int .u64 y8, .int .i64 y9, .int .i64 y10, .int .u64 y11, .int .i64 y12, .int .i64 y13, .int .i64 y14, .int .i64 y15, .int .i64 y16, .int .i64 y17, .string s'])).run Try.prog w = .ok (.bool (!(frEqB x0 x1 x2 x3 x4 x5 x6 x7 x8 x9 x10 x11 x12 x13 x14 x15 x16 x17 s y0 y1 y2 y3 y4 y5 y6 y7 y8 y9 y10 y11 y12 y13 y14 y15 y16 y17 s'))) w := by
  unfold frEqB
  go_simp
  by_cases h0 : x0 = y0
  case neg => simp [h0]
  by_cases h1 : x1 = y1
  case neg => simp [h0, h1]
  by_cases h2 : x2 = y2
  case neg => simp [h0, h1, h2]
  by_cases h3 : x3 = y3
  case neg => simp [h0, h1, h2, h3]
  by_cases h4 : x4 = y4
  case neg => simp [h0, h1, h2, h3, h4]
  by_cases h5 : x5 = y5
  case neg => simp [h0, h1, h2, h3, h4, h5]
  by_cases h6 : x6 = y6
  case neg => simp [h0, h1, h2, h3, h4, h5, h6]
  by_cases h7 : x7 = y7
  case neg => simp [h0, h1, h2, h3, h4, h5, h6, h7]
  by_cases h8 : x8 = y8
  case neg => simp [h0, h1, h2, h3, h4, h5, h6, h7, h8]
  by_cases h9 : x9 = y9
  case neg => simp [h0, h1, h2, h3, h4, h5, h6, h7, h8, h9]
  by_cases h10 : x10 = y10
  case neg => simp [h0, h1, h2, h3, h4, h5, h6, h7, h8, h9, h10]
  by_cases h11 : x11 = y11
  case neg => simp [h0, h1, h2, h3, h4, h5, h6, h7, h8, h9, h10, h11]
  by_cases h12 : x12 = y12
  case neg => simp [h0, h1, h2, h3, h4, h5, h6, h7, h8, h9, h10, h11, h12]
  by_cases h13 : x13 = y13
  case neg => simp [h0, h1, h2, h3, h4, h5, h6, h7, h8, h9, h10, h11, h12, h13]
  by_cases h14 : x14 = y14
  case neg => simp [h0, h1, h2, h3, h4, h5, h6, h7, h8, h9, h10, h11, h12, h13, h14]
  by_cases h15 : x15 = y15
  case neg => simp [h0, h1, h2, h3, h4, h5, h6, h7, h8, h9, h10, h11, h12, h13, h14, h15]
  by_cases h16 : x16 = y16
  case neg => simp [h0, h1, h2, h3, h4, h5, h6, h7, h8, h9, h10, h11, h12, h13, h14, h15, h16]
  by_cases h17 : x17 = y17
  case neg => simp [h0, h1, h2, h3, h4, h5, h6, h7, h8, h9, h10, h11, h12, h13, h14, h15, h16, h17]
  by_cases h18 : s.toList = s'.toList
  · simp [h0, h1, h2, h3, h4, h5, h6, h7, h8, h9, h10, h11, h12, h13, h14, h15, h16, h17, h18]
  · simp [h0, h1, h2, h3, h4, h5, h6, h7, h8, h9, h10, h11, h12, h13, h14, h15, h16, h17, h18]
section
variable {w : World} {g : Nat} {t : TypeId} {c0 c1 c2 c3 c4 c5 c6 c7 c8 c9 c10 c11 c12 c13 c14 c15 c16 c17 c18 : Value}
theorem Blk.c19 (h : Blk w g t #[c0, c1, c2, c3, c4, c5, c6, c7, c8, c9, c10, c11, c12, c13, c14, c15, c16, c17, c18]) : w.cell? ⟨g, 0, none⟩ = some c0 ∧ w.cell? ⟨g, 1, none⟩ = some c1 ∧ w.cell? ⟨g, 2, none⟩ = some c2 ∧ w.cell? ⟨g, 3, none⟩ = some c3 ∧ w.cell? ⟨g, 4, none⟩ = some c4 ∧ w.cell? ⟨g, 5, none⟩ = some c5 ∧ w.cell? ⟨g, 6, none⟩ = some c6 ∧ w.cell? ⟨g, 7, none⟩ = some c7 ∧ w.cell? ⟨g, 8, none⟩ = some c8 ∧ w.cell? ⟨g, 9, none⟩ = some c9 ∧ w.cell? ⟨g, 10, none⟩ = some c10 ∧ w.cell? ⟨g, 11, none⟩ = some c11 ∧ w.cell? ⟨g, 12, none⟩ = some c12 ∧ w.cell? ⟨g, 13, none⟩ = some c13 ∧ w.cell? ⟨g, 14, none⟩ = some c14 ∧ w.cell? ⟨g, 15, none⟩ = some c15 ∧ w.cell? ⟨g, 16, none⟩ = some c16 ∧ w.cell? ⟨g, 17, none⟩ = some c17 ∧ w.cell? ⟨g, 18, none⟩ = some c18 := ⟨h.cell 0, h.cell 1, h.cell 2, h.cell 3, h.cell 4, h.cell 5, h.cell 6, h.cell 7, h.cell 8, h.cell 9, h.cell 10, h.cell 11, h.cell 12, h.cell 13, h.cell 14, h.cell 15, h.cell 16, h.cell 17, h.cell 18⟩
theorem Blk.f19 (h : Blk w g t #[c0, c1, c2, c3, c4, c5, c6, c7, c8, c9, c10, c11, c12, c13, c14, c15, c16, c17, c18]) : w.frozen? ⟨g, 0, none⟩ = false ∧ w.frozen? ⟨g, 1, none⟩ = false ∧ w.frozen? ⟨g, 2, none⟩ = false ∧ w.frozen? ⟨g, 3, none⟩ = false ∧ w.frozen? ⟨g, 4, none⟩ = false ∧ w.frozen? ⟨g, 5, none⟩ = false ∧ w.frozen? ⟨g, 6, none⟩ = false ∧ w.frozen? ⟨g, 7, none⟩ = false ∧ w.frozen? ⟨g, 8, none⟩ = false ∧ w.frozen? ⟨g, 9, none⟩ = false ∧ w.frozen? ⟨g, 10, none⟩ = false ∧ w.frozen? ⟨g, 11, none⟩ = false ∧ w.frozen? ⟨g, 12, none⟩ = false ∧ w.frozen? ⟨g, 13, none⟩ = false ∧ w.frozen? ⟨g, 14, none⟩ = false ∧ w.frozen? ⟨g, 15, none⟩ = false ∧ w.frozen? ⟨g, 16, none⟩ = false ∧ w.frozen? ⟨g, 17, none⟩ = false ∧ w.frozen? ⟨g, 18, none⟩ = false := ⟨h.frozen 0, h.frozen 1, h.frozen 2, h.frozen 3, h.frozen 4, h.frozen 5, h.frozen 6, h.frozen 7, h.frozen 8, h.frozen 9, h.frozen 10, h.frozen 11, h.frozen 12, h.frozen 13, h.frozen 14, h.frozen 15, h.frozen 16, h.frozen 17, h.frozen 18⟩
end
theorem zeroFr (w : World) : (zeroValue 51).run Try.prog w = .ok (.agg #[.int .i64 0, .int .i64 0, .int .i64 0, .int .u64 0, .int .u64 0, .int .u64 0, .int .u64 0, .int .i64 0, .int .u64 0, .int .i64 0, .int .i64 0, .int .u64 0, .int .i64 0, .int .i64 0, .int .i64 0, .int .i64 0, .int .i64 0, .int .i64 0, .string ⟨#[]⟩]) w := by kernel_rfl
theorem buildFr (k f t : Int) (m y : Int) (w : World) : (Instr.build 51 #[(0, .int .i64 k), (1, .int .i64 f), (2, .int .i64 t), (3, .int .u64 m), (4, .int .u64 y)]).run Try.prog w = .ok (.agg #[.int .i64 k, .int .i64 f, .int .i64 t, .int .u64 m, .int .u64 y, .int .u64 0, .int .u64 0, .int .i64 0, .int .u64 0, .int .i64 0, .int .i64 0, .int .u64 0, .int .i64 0, .int .i64 0, .int .i64 0, .int .i64 0, .int .i64 0, .int .i64 0, .string ⟨#[]⟩]) w := by
  kernel_rfl
/-- a frame's value -/
def Fr.val (f : Fr) : Value := .agg #[.int .i64 f.kind, .int .i64 f.frm, .int .i64 f.to, .int .u64 f.mine, .int .u64 f.yours, .int .u64 f.a, .int .u64 f.b, .int .i64 f.inode, .int .u64 f.iseq, .int .i64 f.ioff, .int .i64 f.bn.node, .int .u64 f.bn.seq, .int .i64 f.bn.off, .int .i64 f.bn.dest, .int .i64 f.bn.prio, .int .i64 f.bn.born, .int .i64 f.bn.life, .int .i64 f.bn.total, .string f.bn.data]
def uA (k : Int) : Bool := decide (2 ≤ k ∧ k ≤ 7)
def uB (k : Int) : Bool := decide (k = 3 ∨ k = 4 ∨ k = 6)
def uN (k : Int) : Bool := decide (k = 3)
def uI (k : Int) : Bool := decide (k = 5 ∨ k = 6)
def uOk (k : Int) : Bool := decide (1 ≤ k ∧ k ≤ 7)
def RetU (k : Int) (w : World) (e : Ending) (w' : World) : Prop := e = .returned (.tuple #[.agg #[.bool (uA k), .bool (uB k), .bool (uN k), .bool (uI k)], .bool (uOk k)]) ∧ Below w.heap.size w w'
set_option maxRecDepth 100000 in
set_option maxHeartbeats 4000000 in
theorem uses_any (k : Int) (w : World) : Calls Try.prog 88 #[.int .i64 k] w (RetU k w) := by
  have hlt : w.heap.size < w.heap.size + 1 := by omega
  by_cases k1 : k = 1
  case pos =>
    subst k1
    clear hlt
    go_enter Try.func88, Try.ntmps88
    go_wp2_with fail
    refine bodyPost_ret (v := .tuple #[.agg #[.bool false, .bool false, .bool false, .bool false], .bool true]) (by simp [results, Try.results88, go_sem, newcell]) rfl ?_
    exact ⟨rfl, (by repeat (first | with_reducible exact Below.refl _ _ | with_reducible refine Below.drew ?_ | with_reducible refine below_drewN ?_ _ | with_reducible refine bal ?_ _ | with_reducible refine bset ?_ (by first | (simp; done) | (simp; omega)) _ | with_reducible refine bnext ?_ (by assumption) | with_reducible assumption))⟩
  by_cases k3 : k = 3
  case pos =>
    subst k3
    clear hlt
    go_enter Try.func88, Try.ntmps88
    go_wp2_with fail
    refine bodyPost_ret (v := .tuple #[.agg #[.bool true, .bool true, .bool true, .bool false], .bool true]) (by simp [results, Try.results88, go_sem, newcell]) rfl ?_
    exact ⟨rfl, (by repeat (first | with_reducible exact Below.refl _ _ | with_reducible refine Below.drew ?_ | with_reducible refine below_drewN ?_ _ | with_reducible refine bal ?_ _ | with_reducible refine bset ?_ (by first | (simp; done) | (simp; omega)) _ | with_reducible refine bnext ?_ (by assumption) | with_reducible assumption))⟩
  by_cases k6 : k = 6
  case pos =>
    subst k6
    clear hlt
    go_enter Try.func88, Try.ntmps88
    go_wp2_with fail
    refine bodyPost_ret (v := .tuple #[.agg #[.bool true, .bool true, .bool false, .bool true], .bool true]) (by simp [results, Try.results88, go_sem, newcell]) rfl ?_
    exact ⟨rfl, (by repeat (first | with_reducible exact Below.refl _ _ | with_reducible refine Below.drew ?_ | with_reducible refine below_drewN ?_ _ | with_reducible refine bal ?_ _ | with_reducible refine bset ?_ (by first | (simp; done) | (simp; omega)) _ | with_reducible refine bnext ?_ (by assumption) | with_reducible assumption))⟩
  by_cases k5 : k = 5
  case pos =>
    subst k5
    clear hlt
    go_enter Try.func88, Try.ntmps88
    go_wp2_with fail
    refine bodyPost_ret (v := .tuple #[.agg #[.bool true, .bool false, .bool false, .bool true], .bool true]) (by simp [results, Try.results88, go_sem, newcell]) rfl ?_
    exact ⟨rfl, (by repeat (first | with_reducible exact Below.refl _ _ | with_reducible refine Below.drew ?_ | with_reducible refine below_drewN ?_ _ | with_reducible refine bal ?_ _ | with_reducible refine bset ?_ (by first | (simp; done) | (simp; omega)) _ | with_reducible refine bnext ?_ (by assumption) | with_reducible assumption))⟩
  by_cases k2 : k = 2
  case pos =>
    subst k2
    clear hlt
    go_enter Try.func88, Try.ntmps88
    go_wp2_with fail
    refine bodyPost_ret (v := .tuple #[.agg #[.bool true, .bool false, .bool false, .bool false], .bool true]) (by simp [results, Try.results88, go_sem, newcell]) rfl ?_
    exact ⟨rfl, (by repeat (first | with_reducible exact Below.refl _ _ | with_reducible refine Below.drew ?_ | with_reducible refine below_drewN ?_ _ | with_reducible refine bal ?_ _ | with_reducible refine bset ?_ (by first | (simp; done) | (simp; omega)) _ | with_reducible refine bnext ?_ (by assumption) | with_reducible assumption))⟩
  by_cases k7 : k = 7
  case pos =>
    subst k7
    clear hlt
    go_enter Try.func88, Try.ntmps88
    go_wp2_with fail
    refine bodyPost_ret (v := .tuple #[.agg #[.bool true, .bool false, .bool false, .bool false], .bool true]) (by simp [results, Try.results88, go_sem, newcell]) rfl ?_
    exact ⟨rfl, (by repeat (first | with_reducible exact Below.refl _ _ | with_reducible refine Below.drew ?_ | with_reducible refine below_drewN ?_ _ | with_reducible refine bal ?_ _ | with_reducible refine bset ?_ (by first | (simp; done) | (simp; omega)) _ | with_reducible refine bnext ?_ (by assumption) | with_reducible assumption))⟩
  by_cases k4 : k = 4
  case pos =>
    subst k4
    clear hlt
    go_enter Try.func88, Try.ntmps88
    go_wp2_with fail
    refine bodyPost_ret (v := .tuple #[.agg #[.bool true, .bool true, .bool false, .bool false], .bool true]) (by simp [results, Try.results88, go_sem, newcell]) rfl ?_
    exact ⟨rfl, (by repeat (first | with_reducible exact Below.refl _ _ | with_reducible refine Below.drew ?_ | with_reducible refine below_drewN ?_ _ | with_reducible refine bal ?_ _ | with_reducible refine bset ?_ (by first | (simp; done) | (simp; omega)) _ | with_reducible refine bnext ?_ (by assumption) | with_reducible assumption))⟩
  
  have e1 : uA k = false := decide_eq_false (by omega)
  have e2 : uB k = false := decide_eq_false (by omega)
  have e3 : uN k = false := decide_eq_false (by omega)
  have e4 : uI k = false := decide_eq_false (by omega)
  have e5 : uOk k = false := decide_eq_false (by omega)
  have E : Hid (∀ w e w', (e = .returned (.tuple #[.agg #[.bool false, .bool false, .bool false, .bool false], .bool false]) ∧ Below w.heap.size w w') → RetU k w e w') := Lib.hid (fun w e w' h => by unfold RetU; rw [e1, e2, e3, e4, e5]; exact h)
  clear e1 e2 e3 e4 e5 hlt
  have b1 : (k == 1) = false := beq_eq_false_iff_ne.2 k1
  have b3 : (k == 3) = false := beq_eq_false_iff_ne.2 k3
  have b6 : (k == 6) = false := beq_eq_false_iff_ne.2 k6
  have b5 : (k == 5) = false := beq_eq_false_iff_ne.2 k5
  have b2 : (k == 2) = false := beq_eq_false_iff_ne.2 k2
  have b7 : (k == 7) = false := beq_eq_false_iff_ne.2 k7
  have b4 : (k == 4) = false := beq_eq_false_iff_ne.2 k4
  clear k1 k3 k6 k5 k2 k7 k4
  go_enter Try.func88, Try.ntmps88
  go_wp2_with fail
  refine bodyPost_ret (v := .tuple #[.agg #[.bool false, .bool false, .bool false, .bool false], .bool false]) (by simp [results, Try.results88, go_sem, newcell]) rfl (E.out _ _ _ ?_)
  exact ⟨rfl, (by repeat (first | with_reducible exact Below.refl _ _ | with_reducible refine Below.drew ?_ | with_reducible refine below_drewN ?_ _ | with_reducible refine bal ?_ _ | with_reducible refine bset ?_ (by first | (simp; done) | (simp; omega)) _ | with_reducible refine bnext ?_ (by assumption) | with_reducible assumption))⟩

def loF (k : Int) : Int := if k = 6 then 1 else 0
def hiF (k a : Int) : Int := if k = 3 then a else if k = 6 then 3 else 1125899906842624
set_option maxRecDepth 100000 in
set_option maxHeartbeats 4000000 in
theorem limits_any (kind frm tto mine yours a b inode iseq ioff node seq off dest prio born life total : Int) (data : ByteArray) (w : World) : Calls Try.prog 89 #[.agg #[.int .i64 kind, .int .i64 frm, .int .i64 tto, .int .u64 mine, .int .u64 yours, .int .u64 a, .int .u64 b, .int .i64 inode, .int .u64 iseq, .int .i64 ioff, .int .i64 node, .int .u64 seq, .int .i64 off, .int .i64 dest, .int .i64 prio, .int .i64 born, .int .i64 life, .int .i64 total, .string data]] w (Ret2 .u64 .u64 (loF kind) (hiF kind a) w) := by
  by_cases k3 : kind = 3
  · have R : Hid (loF kind = 0 ∧ hiF kind a = a) := Lib.hid (by unfold loF hiF; rw [if_neg (by omega), if_pos k3]; exact ⟨rfl, rfl⟩)
    have kb : (kind == 3) = true := by simp [k3]
    rw [R.out.1, R.out.2]
    clear k3
    go_enter Try.func89, Try.ntmps89
    go_upto_region 3 with fail
    go_quiet (fail)
    go_wp2_with fail
    go_ret2
    exact ⟨rfl, (by repeat (first | with_reducible exact Below.refl _ _ | with_reducible refine Below.drew ?_ | with_reducible refine below_drewN ?_ _ | with_reducible refine bal ?_ _ | with_reducible refine bset ?_ (by first | (simp; done) | (simp; omega)) _ | with_reducible refine bnext ?_ (by assumption) | with_reducible assumption))⟩
  · have kb : (kind == 3) = false := beq_eq_false_iff_ne.2 k3
    by_cases k6 : kind = 6
    · have R : Hid (loF kind = 1 ∧ hiF kind a = 3) := Lib.hid (by unfold loF hiF; rw [if_pos k6, if_neg k3, if_pos k6]; exact ⟨rfl, rfl⟩)
      have kc : (kind == 6) = true := by simp [k6]
      rw [R.out.1, R.out.2]
      clear k3 k6
      go_enter Try.func89, Try.ntmps89
      go_wp2_with fail
      go_ret2
      exact ⟨rfl, (by repeat (first | with_reducible exact Below.refl _ _ | with_reducible refine Below.drew ?_ | with_reducible refine below_drewN ?_ _ | with_reducible refine bal ?_ _ | with_reducible refine bset ?_ (by first | (simp; done) | (simp; omega)) _ | with_reducible refine bnext ?_ (by assumption) | with_reducible assumption))⟩
    · have R : Hid (loF kind = 0 ∧ hiF kind a = 1125899906842624) := Lib.hid (by unfold loF hiF; rw [if_neg k6, if_neg k3, if_neg k6]; exact ⟨rfl, rfl⟩)
      have kc : (kind == 6) = false := beq_eq_false_iff_ne.2 k6
      rw [R.out.1, R.out.2]
      clear k3 k6
      go_enter Try.func89, Try.ntmps89
      go_wp2_with fail
      go_ret2
      exact ⟨rfl, (by repeat (first | with_reducible exact Below.refl _ _ | with_reducible refine Below.drew ?_ | with_reducible refine below_drewN ?_ _ | with_reducible refine bal ?_ _ | with_reducible refine bset ?_ (by first | (simp; done) | (simp; omega)) _ | with_reducible refine bnext ?_ (by assumption) | with_reducible assumption))⟩
end Go.Proofs.Ytfgkkflbpfocjaa

namespace Go.Proofs.Ytfgkkflbpfocjaa
open Go.RowKit
set_option linter.unusedVariables false
set_option linter.unusedSimpArgs false

/-- a whole value into the block that was made last -/
theorem wpList_store_new {P : Program} {ops : Array Oper} {rest : List Oper} {op : Oper} {a : Act} {w : World} {Q : Exit → Act → World → Prop} (hgd : op.guard = none) (ty : TypeId) (x y : Operand) (ho : op.op = .store ty x y)
    (w0 : World) (c c' : Array Value) (hw : w = w0.alloc (.cells c ty)) (hx : a.eval x = .pointer (some ⟨w0.heap.size, 0, none⟩)) (hy : a.eval y = .agg c')
    (hi : (P.info? ty).map (·.size) = some c'.size) (hcc : c.size = c'.size) (h1 : c'.all (·.oneCell') = true)
    (h : wpList P ops Q rest (a.put op.dst undef) (w0.alloc (.cells c' ty))) : wpList P ops Q (op :: rest) a w := by
  subst hw
  refine wpList_plain hgd fun K hK => ?_
  unfold Oper.wp execOp
  simp only [ho, hx, hy, Instr.storeAt, Instr.sureAddr, Sem.run_bind, Sem.run_pure, Result.andThen_ok, run_storeVar_new w0 ty c c' hi hcc h1]
  exact hK _ _ h
/-- a new variable -/
theorem wpList_alloc_z {P : Program} {ops : Array Oper} {rest : List Oper} {op : Oper} {a : Act} {w : World} {Q : Exit → Act → World → Prop} (hgd : op.guard = none) (ty : TypeId) (ho : op.op = .alloc ty)
    (d : Option Tmp) (hd : op.dst = d) (z : Array Value) (hz : ∀ w, (zeroValue ty).run P w = .ok (.agg z) w)
    (h : wpList P ops Q rest (a.put d (.pointer (some ⟨w.heap.size, 0, none⟩))) (w.alloc (.cells z ty))) : wpList P ops Q (op :: rest) a w := by
  subst hd
  refine wpList_plain hgd fun K hK => ?_
  have hr : (Instr.alloc ty true (.tuple #[])).run P w = .ok (.pointer (some ⟨w.heap.size, 0, none⟩)) (w.alloc (.cells z ty)) := by
    simp [Instr.alloc, Sem.run_bind, hz, newVar, newRow, newObj, Value.cells, Result.andThen]
    rfl
  unfold Oper.wp execOp
  simp only [ho, Sem.run_bind, Sem.run_pure, Result.andThen_ok, hr]
  exact hK _ _ h
theorem Blk.range {w : World} {g : Nat} {t : TypeId} {cs : Array Value} (h : Blk w g t cs) (o : Nat) (L : List Value) (hL : ∀ j v, L[j]? = some v → cs[o + j]? = some v) : w.rangeAt g o L := fun j v hj => (h.cell (o + j)).trans (hL j v hj)
theorem Blk.there {w : World} {g : Nat} {t : TypeId} {cs : Array Value} (h : Blk w g t cs) (o n : Nat) (hn : o + n ≤ cs.size) : w.there g o n := fun j hj => ⟨by rw [h.cell, Array.getElem?_eq_getElem (by omega)]; rfl, h.frozen _⟩
/-- three blocks that are known whole -/
structure BK3 (w : World) (g : Nat) (t : TypeId) (cs : Array Value) (g' : Nat) (t' : TypeId) (cs' : Array Value) (g'' : Nat) (t'' : TypeId) (cs'' : Array Value) (wx : World) : Prop where
  b : Blk wx g t cs
  c : Blk wx g' t' cs'
  d : Blk wx g'' t'' cs''
  hB : Below w.heap.size w wx
section
variable {w wx wy : World} {g g' g'' : Nat} {t t' t'' : TypeId} {cs cs' cs'' : Array Value}
theorem BK3.below (h : BK3 w g t cs g' t' cs' g'' t'' cs'' wx) (hb : Below wx.heap.size wx wy) : BK3 w g t cs g' t' cs' g'' t'' cs'' wy := ⟨h.b.below hb, h.c.below hb, h.d.below hb, bnext h.hB hb⟩
theorem BK3.drew (h : BK3 w g t cs g' t' cs' g'' t'' cs'' wx) : BK3 w g t cs g' t' cs' g'' t'' cs'' wx.drew := h.below (Below.refl _ _).drew
end
/-- a frame's numbers are machine numbers -/
structure WfF (f : Fr) : Prop where
  mine : 0 ≤ f.mine ∧ f.mine ≤ 18446744073709551615
  yours : 0 ≤ f.yours ∧ f.yours ≤ 18446744073709551615
  a : 0 ≤ f.a ∧ f.a ≤ 18446744073709551615
  b : 0 ≤ f.b ∧ f.b ≤ 18446744073709551615
def Fr.bareG (f : Fr) : Prop := (uA f.kind = false → f.a = 0) ∧ (uB f.kind = false → f.b = 0) ∧ (uI f.kind = false → f.inode = 0 ∧ f.iseq = 0 ∧ f.ioff = 0) ∧ (uN f.kind = false → f.bn = zBn)
instance (f : Fr) : Decidable f.bareG := by unfold Fr.bareG; exact inferInstance
theorem bareG_iff {f : Fr} (h : 1 ≤ f.kind ∧ f.kind ≤ 7) : f.bareG ↔ f.bare := by
  unfold Fr.bareG Fr.bare uA uB uN uI
  simp only [decide_eq_false_iff_not]
  constructor
  · rintro ⟨h1, h2, h3, h4⟩
    exact ⟨fun e => h1 (by omega), fun e => h2 (by omega), fun e => h3 (by omega), fun e => h4 (by omega)⟩
  · rintro ⟨h1, h2, h3, h4⟩
    exact ⟨fun e => h1 (by omega), fun e => h2 (by omega), fun e => h3 (by omega), fun e => h4 (by omega)⟩
theorem frE_gen (f : Fr) (hw : WfF f) : frE f = if uOk f.kind = false then 7 else if f.out then 2 else if (uA f.kind = true ∧ 1125899906842624 < f.a) ∨ (uB f.kind = true ∧ (f.b < loF f.kind ∨ hiF f.kind f.a < f.b)) then 2 else if uN f.kind = true ∧ Bu.bE f.bn ≠ 0 then Bu.bE f.bn else if uI f.kind = true ∧ Bu.idE f.inode f.iseq f.ioff ≠ 0 then Bu.idE f.inode f.iseq f.ioff else if f.bareG then 0 else 3 := by
  have hb := hw.b.1
  unfold frE
  by_cases hk : 1 ≤ f.kind ∧ f.kind ≤ 7
  case neg =>
    have e0 : uOk f.kind = false := decide_eq_false hk
    rw [if_pos (by omega), if_pos e0]
  have e0 : ¬ uOk f.kind = false := by rw [show uOk f.kind = true from decide_eq_true hk]; decide
  rw [if_neg (show ¬ (f.kind < 1 ∨ 7 < f.kind) by omega), if_neg e0]
  by_cases ho : f.out
  case pos => rw [if_pos ho, if_pos ho]
  rw [if_neg ho, if_neg ho]
  have h1 : (f.aBig ∨ f.bBad) ↔ ((uA f.kind = true ∧ 1125899906842624 < f.a) ∨ (uB f.kind = true ∧ (f.b < loF f.kind ∨ hiF f.kind f.a < f.b))) := by
    unfold Fr.aBig Fr.bBad uA uB loF hiF
    simp only [decide_eq_true_eq]
    by_cases k3 : f.kind = 3
    · rw [if_neg (by omega), if_pos k3]; omega
    · by_cases k6 : f.kind = 6
      · rw [if_pos k6, if_neg k3, if_pos k6]; omega
      · rw [if_neg k6, if_neg k3, if_neg k6]; omega
  by_cases h2 : f.aBig ∨ f.bBad
  case pos => rw [if_pos h2, if_pos (h1.1 h2)]
  rw [if_neg h2, if_neg (fun h => h2 (h1.2 h))]
  have hbg := bareG_iff hk
  have fin : (if ¬ f.bare then (3 : Int) else 0) = if f.bareG then 0 else 3 := by
    by_cases d : f.bare
    · rw [if_neg (fun h => h d), if_pos (hbg.2 d)]
    · rw [if_pos d, if_neg (fun h => d (hbg.1 h))]
  rw [fin]
  by_cases n3 : f.kind = 3
  · have e1 : uN f.kind = true := decide_eq_true n3
    have e2 : ¬ (uI f.kind = true ∧ Bu.idE f.inode f.iseq f.ioff ≠ 0) := fun h => by have := of_decide_eq_true h.1; omega
    have h3 : f.inE = Bu.bE f.bn := if_pos n3
    rw [h3, if_neg e2]
    by_cases c : Bu.bE f.bn ≠ 0
    · rw [if_pos c, if_pos ⟨e1, c⟩]
    · rw [if_neg c, if_neg (show ¬ (uN f.kind = true ∧ Bu.bE f.bn ≠ 0) from fun h => c h.2)]
  · have e1 : ¬ (uN f.kind = true ∧ Bu.bE f.bn ≠ 0) := fun h => n3 (of_decide_eq_true h.1)
    rw [if_neg e1]
    by_cases n5 : f.kind = 5 ∨ f.kind = 6
    · have e2 : uI f.kind = true := decide_eq_true n5
      have h3 : f.inE = Bu.idE f.inode f.iseq f.ioff := (if_neg n3).trans (if_pos n5)
      rw [h3]
      by_cases c : Bu.idE f.inode f.iseq f.ioff ≠ 0
      · rw [if_pos c, if_pos ⟨e2, c⟩]
      · rw [if_neg c, if_neg (show ¬ (uI f.kind = true ∧ Bu.idE f.inode f.iseq f.ioff ≠ 0) from fun h => c h.2)]
    · have e2 : ¬ (uI f.kind = true ∧ Bu.idE f.inode f.iseq f.ioff ≠ 0) := fun h => n5 (of_decide_eq_true h.1)
      have h3 : f.inE = 0 := (if_neg n3).trans (if_neg n5)
      rw [h3, if_neg (fun h => h rfl), if_neg e2]
end Go.Proofs.Ytfgkkflbpfocjaa

namespace Go.Proofs.Ytfgkkflbpfocjaa
open Go.RowKit
set_option linter.unusedVariables false
set_option linter.unusedSimpArgs false

def RetSls (l : List Sl) (w : World) (e : Ending) (w' : World) : Prop := ∃ A c, e = .returned (.slice A l.length c) ∧ SlsB w.heap.size w' (.slice A l.length c) l ∧ Below w.heap.size w w'
theorem CloneS_any (l : List Sl) (v : Value) (w : World) (h : SlsAt w v l) (hl : l.length ≤ 100000) : Calls Try.prog 92 #[v] w (RetSls l w) := by
  refine (Clone_any v l w h hl).mono ?_
  rintro e w' ⟨v', rfl, hown, hB⟩
  obtain ⟨A, c, rfl, _⟩ := SlAt.own hown
  exact ⟨A, c, rfl, RowB.own hown (Nat.le_refl _), hB⟩
/-- a copied peer, by its address -/
def RetCop (node th old : Int) (su : Bool) (g n r : Int) (S : List Sl) (a b f : Int) (T : List Rg) (K : List Int) (w : World) (e : Ending) (w' : World) : Prop := ∃ gp As cs At ct Ak ck, e = .returned (.pointer (some ⟨gp, 0, none⟩)) ∧ Blk w' gp 31 #[.int .i64 node, .int .u64 th, .bool su, .int .u64 old, .int .u64 g, .int .u64 n, .int .u64 r, .slice As S.length cs, .int .u64 a, .int .u64 b, .int .u64 f, .slice At T.length ct, .slice Ak K.length ck] ∧ w.heap.size ≤ gp ∧ SlsB (gp + 1) w' (.slice As S.length cs) S ∧ RgsB (gp + 1) w' (.slice At T.length ct) T ∧ KpsB (gp + 1) w' (.slice Ak K.length ck) K ∧ Below w.heap.size w w'


set_option maxRecDepth 100000 in
set_option maxHeartbeats 4000000 in
theorem copied_any (node th old : Int) (su : Bool) (g n r : Int) (S : List Sl) (a b f : Int) (T : List Rg) (K : List Int) (vs vt vk : Value) (w : World) (hs : SlsAt w vs S) (ht : RgsAt w vt T) (hk : KpsAt w vk K) (hsl : S.length ≤ 100000) (htl : T.length ≤ 100000) (hkl : K.length ≤ 100000) :
    Calls Try.prog 54 #[.agg #[.int .i64 node, .int .u64 th, .bool su, .int .u64 old, .int .u64 g, .int .u64 n, .int .u64 r, vs, .int .u64 a, .int .u64 b, .int .u64 f, vt, vk]] w (RetCop node th old su g n r S a b f T K w) := by
  obtain ⟨As, cs, rfl⟩ := hs.form
  obtain ⟨At, ct, rfl⟩ := ht.form
  obtain ⟨Ak, ck, rfl⟩ := hk.form
  have HS := Lib.hid hs
  have HT := Lib.hid ht
  have HK := Lib.hid hk
  clear hs ht hk
  go_enter Try.func54, Try.ntmps54
  go_upto_region 1 with fail
  have k0 := Blk.new w 31 #[.int .i64 node, .int .u64 th, .bool su, .int .u64 old, .int .u64 g, .int .u64 n, .int .u64 r, .slice As S.length cs, .int .u64 a, .int .u64 b, .int .u64 f, .slice At T.length ct, .slice Ak K.length ck]
  have hB := bal (Below.refl w.heap.size w) (.cells #[.int .i64 node, .int .u64 th, .bool su, .int .u64 old, .int .u64 g, .int .u64 n, .int .u64 r, .slice As S.length cs, .int .u64 a, .int .u64 b, .int .u64 f, .slice At T.length ct, .slice Ak K.length ck] 31)
  obtain ⟨g0, hg0⟩ : ∃ g0, w.heap.size = g0 := ⟨_, rfl⟩
  have HG0 := Lib.hid hg0
  have hg1 : g0 + 1 = (w.alloc (.cells #[.int .i64 node, .int .u64 th, .bool su, .int .u64 old, .int .u64 g, .int .u64 n, .int .u64 r, .slice As S.length cs, .int .u64 a, .int .u64 b, .int .u64 f, .slice At T.length ct, .slice Ak K.length ck] 31)).heap.size := by rw [World.size_alloc, hg0]
  rw [hg0] at k0 ⊢
  generalize w.alloc (.cells #[.int .i64 node, .int .u64 th, .bool su, .int .u64 old, .int .u64 g, .int .u64 n, .int .u64 r, .slice As S.length cs, .int .u64 a, .int .u64 b, .int .u64 f, .slice At T.length ct, .slice Ak K.length ck] 31) = W0 at k0 hB hg1 ⊢
  have hgz : g0 + 1 ≤ W0.heap.size := by omega
  clear hg0 hg1
  obtain ⟨_, _, _, _, _, _, _, x7, _, _, _, _, _⟩ := k0.c13
  obtain ⟨_, _, _, _, _, _, _, f7, _, _, _, _, _⟩ := k0.f13
  have hl0 := k0.lt
  go_wp2_with fail
  refine (CloneS_any S _ _ (HS.out.below hB) hsl).mono ?_
  rintro e U ⟨Bs, ds, rfl, hr, hbu⟩
  have Rs : SlsB (g0 + 1) U (.slice Bs S.length ds) S := RowB.low hr (by omega)
  replace k0 := k0.below hbu
  have hBu := bnext hB hbu
  have hsz := hbu.size
  clear hr hbu hB x7 f7 hl0
  obtain ⟨_, _, _, _, _, _, _, x7, _, _, _, _, _⟩ := k0.c13
  obtain ⟨_, _, _, _, _, _, _, f7, _, _, _, _, _⟩ := k0.f13
  have hl0 := k0.lt
  go_upto_region 2 with fail
  replace k0 : Blk (U.setCell ⟨g0, 7, none⟩ (.slice Bs S.length ds)) g0 31 #[.int .i64 node, .int .u64 th, .bool su, .int .u64 old, .int .u64 g, .int .u64 n, .int .u64 r, .slice Bs S.length ds, .int .u64 a, .int .u64 b, .int .u64 f, .slice At T.length ct, .slice Ak K.length ck] := k0.set 7 (.slice Bs S.length ds)
  have hB := bset hBu (p := ⟨g0, 7, none⟩) (by show w.heap.size ≤ g0; rw [HG0.out]; omega) (.slice Bs S.length ds)
  replace Rs := RowB.set Rs (p := ⟨g0, 7, none⟩) (by show g0 < _; omega) (.slice Bs S.length ds)
  have hgz0 : g0 + 1 ≤ (U.setCell ⟨g0, 7, none⟩ (.slice Bs S.length ds)).heap.size := by rw [World.size_setCell]; omega
  generalize U.setCell ⟨g0, 7, none⟩ (.slice Bs S.length ds) = W1 at k0 hB hgz0 Rs ⊢
  clear hBu hsz x7 f7 hl0 hgz
  obtain ⟨_, _, _, _, _, _, _, _, _, _, _, x11, _⟩ := k0.c13
  obtain ⟨_, _, _, _, _, _, _, _, _, _, _, f11, _⟩ := k0.f13
  have hl0 := k0.lt
  go_wp2_with fail
  refine (CloneR_any T _ _ (HT.out.below hB) htl).mono ?_
  rintro e U ⟨Bt, dt, rfl, hr, hbu⟩
  have Rt : RgsB (g0 + 1) U (.slice Bt T.length dt) T := RowB.low hr (by omega)
  replace k0 := k0.below hbu
  have hBu := bnext hB hbu
  replace Rs := RowB.below Rs hbu
  have hsz := hbu.size
  clear hr hbu hB x11 f11 hl0
  obtain ⟨_, _, _, _, _, _, _, _, _, _, _, x11, _⟩ := k0.c13
  obtain ⟨_, _, _, _, _, _, _, _, _, _, _, f11, _⟩ := k0.f13
  have hl0 := k0.lt
  go_upto_region 3 with fail
  replace k0 : Blk (U.setCell ⟨g0, 11, none⟩ (.slice Bt T.length dt)) g0 31 #[.int .i64 node, .int .u64 th, .bool su, .int .u64 old, .int .u64 g, .int .u64 n, .int .u64 r, .slice Bs S.length ds, .int .u64 a, .int .u64 b, .int .u64 f, .slice Bt T.length dt, .slice Ak K.length ck] := k0.set 11 (.slice Bt T.length dt)
  have hB := bset hBu (p := ⟨g0, 11, none⟩) (by show w.heap.size ≤ g0; rw [HG0.out]; omega) (.slice Bt T.length dt)
  replace Rs := RowB.set Rs (p := ⟨g0, 11, none⟩) (by show g0 < _; omega) (.slice Bt T.length dt)
  replace Rt := RowB.set Rt (p := ⟨g0, 11, none⟩) (by show g0 < _; omega) (.slice Bt T.length dt)
  have hgz1 : g0 + 1 ≤ (U.setCell ⟨g0, 11, none⟩ (.slice Bt T.length dt)).heap.size := by rw [World.size_setCell]; omega
  generalize U.setCell ⟨g0, 11, none⟩ (.slice Bt T.length dt) = W2 at k0 hB hgz1 Rs Rt ⊢
  clear hBu hsz x11 f11 hl0 hgz0
  obtain ⟨_, _, _, _, _, _, _, _, _, _, _, _, x12⟩ := k0.c13
  obtain ⟨_, _, _, _, _, _, _, _, _, _, _, _, f12⟩ := k0.f13
  have hl0 := k0.lt
  go_wp2_with fail
  refine (CloneK_any K _ _ (HK.out.below hB) hkl).mono ?_
  rintro e U ⟨Bk, dk, rfl, hr, hbu⟩
  have Rk : KpsB (g0 + 1) U (.slice Bk K.length dk) K := RowB.low hr (by omega)
  replace k0 := k0.below hbu
  have hBu := bnext hB hbu
  replace Rs := RowB.below Rs hbu
  replace Rt := RowB.below Rt hbu
  have hsz := hbu.size
  clear hr hbu hB x12 f12 hl0
  obtain ⟨_, _, _, _, _, _, _, _, _, _, _, _, x12⟩ := k0.c13
  obtain ⟨_, _, _, _, _, _, _, _, _, _, _, _, f12⟩ := k0.f13
  have hl0 := k0.lt
  go_upto_region 4 with fail
  replace k0 : Blk (U.setCell ⟨g0, 12, none⟩ (.slice Bk K.length dk)) g0 31 #[.int .i64 node, .int .u64 th, .bool su, .int .u64 old, .int .u64 g, .int .u64 n, .int .u64 r, .slice Bs S.length ds, .int .u64 a, .int .u64 b, .int .u64 f, .slice Bt T.length dt, .slice Bk K.length dk] := k0.set 12 (.slice Bk K.length dk)
  have hB := bset hBu (p := ⟨g0, 12, none⟩) (by show w.heap.size ≤ g0; rw [HG0.out]; omega) (.slice Bk K.length dk)
  replace Rs := RowB.set Rs (p := ⟨g0, 12, none⟩) (by show g0 < _; omega) (.slice Bk K.length dk)
  replace Rt := RowB.set Rt (p := ⟨g0, 12, none⟩) (by show g0 < _; omega) (.slice Bk K.length dk)
  replace Rk := RowB.set Rk (p := ⟨g0, 12, none⟩) (by show g0 < _; omega) (.slice Bk K.length dk)
  have hgz2 : g0 + 1 ≤ (U.setCell ⟨g0, 12, none⟩ (.slice Bk K.length dk)).heap.size := by rw [World.size_setCell]; omega
  generalize U.setCell ⟨g0, 12, none⟩ (.slice Bk K.length dk) = W3 at k0 hB hgz2 Rs Rt Rk ⊢
  clear hBu hsz x12 f12 hl0 hgz1
  go_wp2_with fail
  go_ret
  exact ⟨g0, Bs, ds, Bt, dt, Bk, dk, rfl, k0, by rw [HG0.out]; omega, Rs, Rt, Rk, hB⟩
end Go.Proofs.Ytfgkkflbpfocjaa

namespace Go.Proofs.Ytfgkkflbpfocjaa
open Go.RowKit
set_option linter.unusedVariables false

theorem set13a (c0 c1 c2 c3 c4 c5 c6 c7 c8 c9 c10 c11 c12 d0 d1 d2 d3 d4 d5 d6 d7 d8 d9 d10 d11 d12 : Value) : ((((((((((((((#[c0, c1, c2, c3, c4, c5, c6, c7, c8, c9, c10, c11, c12] : Array Value)).setIfInBounds 0 d0).setIfInBounds 1 d1).setIfInBounds 2 d2).setIfInBounds 3 d3).setIfInBounds 4 d4).setIfInBounds 5 d5).setIfInBounds 6 d6).setIfInBounds 7 d7).setIfInBounds 8 d8).setIfInBounds 9 d9).setIfInBounds 10 d10).setIfInBounds 11 d11).setIfInBounds 12 d12 = #[d0, d1, d2, d3, d4, d5, d6, d7, d8, d9, d10, d11, d12] := by kernel_rfl
theorem set13b (c0 c1 c2 c3 c4 c5 c6 c7 c8 c9 c10 c11 c12 a b : Value) : (((#[c0, c1, c2, c3, c4, c5, c6, c7, c8, c9, c10, c11, c12] : Array Value)).setIfInBounds 2 a).setIfInBounds 3 b = #[c0, c1, a, b, c4, c5, c6, c7, c8, c9, c10, c11, c12] := by kernel_rfl
theorem set22a (e0 e1 e2 e3 e4 e5 e6 e7 e8 e9 e10 e11 e12 e13 e14 e15 e16 e17 e18 e19 e20 e21 u : Value) : (#[e0, e1, e2, e3, e4, e5, e6, e7, e8, e9, e10, e11, e12, e13, e14, e15, e16, e17, e18, e19, e20, e21] : Array Value).setIfInBounds 21 u = #[e0, e1, e2, e3, e4, e5, e6, e7, e8, e9, e10, e11, e12, e13, e14, e15, e16, e17, e18, e19, e20, u] := by kernel_rfl
section
variable {w : World} {g g' : Nat} {t t' : TypeId} {cs : Array Value}
theorem Blk.set13 {c0 c1 c2 c3 c4 c5 c6 c7 c8 c9 c10 c11 c12 : Value} (h : Blk w g t #[c0, c1, c2, c3, c4, c5, c6, c7, c8, c9, c10, c11, c12]) (d0 d1 d2 d3 d4 d5 d6 d7 d8 d9 d10 d11 d12 : Value) : Blk ((((((((((((((w).setCell ⟨g, 0, none⟩ d0).setCell ⟨g, 1, none⟩ d1).setCell ⟨g, 2, none⟩ d2).setCell ⟨g, 3, none⟩ d3).setCell ⟨g, 4, none⟩ d4).setCell ⟨g, 5, none⟩ d5).setCell ⟨g, 6, none⟩ d6).setCell ⟨g, 7, none⟩ d7).setCell ⟨g, 8, none⟩ d8).setCell ⟨g, 9, none⟩ d9).setCell ⟨g, 10, none⟩ d10).setCell ⟨g, 11, none⟩ d11).setCell ⟨g, 12, none⟩ d12) g t #[d0, d1, d2, d3, d4, d5, d6, d7, d8, d9, d10, d11, d12] := by
  have k := (Blk.set ((Blk.set ((Blk.set ((Blk.set ((Blk.set ((Blk.set ((Blk.set ((Blk.set ((Blk.set ((Blk.set ((Blk.set ((Blk.set ((Blk.set (h) 0 d0)) 1 d1)) 2 d2)) 3 d3)) 4 d4)) 5 d5)) 6 d6)) 7 d7)) 8 d8)) 9 d9)) 10 d10)) 11 d11)) 12 d12)
  rw [set13a] at k
  exact k
theorem Blk.set23 {c0 c1 c2 c3 c4 c5 c6 c7 c8 c9 c10 c11 c12 : Value} (h : Blk w g t #[c0, c1, c2, c3, c4, c5, c6, c7, c8, c9, c10, c11, c12]) (a b : Value) : Blk (((w).setCell ⟨g, 2, none⟩ a).setCell ⟨g, 3, none⟩ b) g t #[c0, c1, a, b, c4, c5, c6, c7, c8, c9, c10, c11, c12] := by
  have k := (Blk.set ((Blk.set (h) 2 a)) 3 b)
  rw [set13b] at k
  exact k
theorem Blk.set22 {e0 e1 e2 e3 e4 e5 e6 e7 e8 e9 e10 e11 e12 e13 e14 e15 e16 e17 e18 e19 e20 e21 : Value} (h : Blk w g t #[e0, e1, e2, e3, e4, e5, e6, e7, e8, e9, e10, e11, e12, e13, e14, e15, e16, e17, e18, e19, e20, e21]) (u : Value) : Blk (w.setCell ⟨g, 21, none⟩ u) g t #[e0, e1, e2, e3, e4, e5, e6, e7, e8, e9, e10, e11, e12, e13, e14, e15, e16, e17, e18, e19, e20, u] := by
  have k := Blk.set h 21 u
  rw [set22a] at k
  exact k
theorem Blk.far13 (h : Blk w g t cs) (hn : ¬ g = g') (d0 d1 d2 d3 d4 d5 d6 d7 d8 d9 d10 d11 d12 : Value) : Blk ((((((((((((((w).setCell ⟨g', 0, none⟩ d0).setCell ⟨g', 1, none⟩ d1).setCell ⟨g', 2, none⟩ d2).setCell ⟨g', 3, none⟩ d3).setCell ⟨g', 4, none⟩ d4).setCell ⟨g', 5, none⟩ d5).setCell ⟨g', 6, none⟩ d6).setCell ⟨g', 7, none⟩ d7).setCell ⟨g', 8, none⟩ d8).setCell ⟨g', 9, none⟩ d9).setCell ⟨g', 10, none⟩ d10).setCell ⟨g', 11, none⟩ d11).setCell ⟨g', 12, none⟩ d12) g t cs := (Blk.far ((Blk.far ((Blk.far ((Blk.far ((Blk.far ((Blk.far ((Blk.far ((Blk.far ((Blk.far ((Blk.far ((Blk.far ((Blk.far ((Blk.far (h) (p := ⟨g', 0, none⟩) hn d0)) (p := ⟨g', 1, none⟩) hn d1)) (p := ⟨g', 2, none⟩) hn d2)) (p := ⟨g', 3, none⟩) hn d3)) (p := ⟨g', 4, none⟩) hn d4)) (p := ⟨g', 5, none⟩) hn d5)) (p := ⟨g', 6, none⟩) hn d6)) (p := ⟨g', 7, none⟩) hn d7)) (p := ⟨g', 8, none⟩) hn d8)) (p := ⟨g', 9, none⟩) hn d9)) (p := ⟨g', 10, none⟩) hn d10)) (p := ⟨g', 11, none⟩) hn d11)) (p := ⟨g', 12, none⟩) hn d12)
theorem Blk.far23 (h : Blk w g t cs) (hn : ¬ g = g') (a b : Value) : Blk (((w).setCell ⟨g', 2, none⟩ a).setCell ⟨g', 3, none⟩ b) g t cs := (Blk.far ((Blk.far (h) (p := ⟨g', 2, none⟩) hn a)) (p := ⟨g', 3, none⟩) hn b)
end
end Go.Proofs.Ytfgkkflbpfocjaa

namespace Go.Proofs.Ytfgkkflbpfocjaa
open Go.RowKit
set_option linter.unusedVariables false
set_option linter.unusedSimpArgs false

/-- of the blocks that there were, those in S alone may have changed -/
structure Only (S : Nat → Prop) (w w' : World) : Prop where
  os : w'.os = w.os
  tape : w'.tape = w.tape
  output : w'.output = w.output
  size : w.heap.size ≤ w'.heap.size
  block : ∀ k, k < w.heap.size → ¬ S k → w'.heap[k]? = w.heap[k]?
section
variable {S : Nat → Prop} {w w' w'' : World}
theorem Only.refl (S : Nat → Prop) (w : World) : Only S w w := ⟨rfl, rfl, rfl, Nat.le_refl _, fun _ _ _ => rfl⟩
theorem Only.trans (h : Only S w w') (k : Only S w' w'') : Only S w w'' :=
  ⟨k.os.trans h.os, k.tape.trans h.tape, k.output.trans h.output, Nat.le_trans h.size k.size, fun i hi hs => (k.block i (Nat.lt_of_lt_of_le hi h.size) hs).trans (h.block i hi hs)⟩
theorem Only.mono {T : Nat → Prop} (h : Only S w w') (hs : ∀ k, S k → T k) : Only T w w' := ⟨h.os, h.tape, h.output, h.size, fun i hi ht => h.block i hi (fun c => ht (hs i c))⟩
theorem Only.of_below (h : Below w.heap.size w w') : Only S w w' := ⟨h.os, h.tape, h.output, h.size, fun k hk _ => h.block k hk⟩
theorem Only.below (h : Only S w w') (k : Below w'.heap.size w' w'') : Only S w w'' := h.trans (Only.of_below k)
theorem Only.alloc (h : Only S w w') (o : Obj) : Only S w (w'.alloc o) := h.below ((Below.refl _ _).alloc (Nat.le_refl _) o)
theorem Only.drew (h : Only S w w') : Only S w w'.drew := ⟨h.os, h.tape, h.output, h.size, h.block⟩
theorem Only.drewN (h : Only S w w') (n : Nat) : Only S w (w'.drewN n) := ⟨h.os, h.tape, h.output, h.size, h.block⟩
theorem Only.set (h : Only S w w') {p : Addr} (hp : S p.block ∨ w.heap.size ≤ p.block) (u : Value) : Only S w (w'.setCell p u) := by
  refine ⟨h.os, h.tape, h.output, by rw [World.size_setCell]; exact h.size, fun k hk hs => (Below.heap_setCell w' p u k ?_).trans (h.block k hk hs)⟩
  rintro rfl
  rcases hp with hp | hp
  · exact hs hp
  · omega
theorem Only.to_below {B : Nat} (h : Only S w w') (hS : ∀ k, S k → B ≤ k) (hB : B ≤ w.heap.size) : Below B w w' := ⟨h.os, h.tape, h.output, h.size, fun k hk => h.block k (by omega) (fun c => by have := hS k c; omega)⟩
theorem Only.grown {row : Option Nat} (h : Only S w w') (hg : w'.grownBy w'' row) (hr : ∀ k, row = some k → S k ∨ w.heap.size ≤ k) : Only S w w'' := by
  refine ⟨hg.os.trans h.os, hg.tape.trans h.tape, hg.output.trans h.output, Nat.le_trans h.size hg.size, fun k hk hs => (hg.block k (Nat.lt_of_lt_of_le hk h.size) ?_).trans (h.block k hk hs)⟩
  intro e
  rcases hr k e.symm with a | a
  · exact hs a
  · omega
theorem Only.cell (h : Only S w w') {b : Nat} (hb : b < w.heap.size) (hs : ¬ S b) (o : Nat) : w'.cell? ⟨b, o, none⟩ = w.cell? ⟨b, o, none⟩ := World.cell?_of_block (h.block b hb hs)
theorem Only.frozen (h : Only S w w') {b : Nat} (hb : b < w.heap.size) (hs : ¬ S b) (o : Nat) : w'.frozen? ⟨b, o, none⟩ = w.frozen? ⟨b, o, none⟩ := World.frozen?_of_block (h.block b hb hs)
theorem Blk.only {g : Nat} {t : TypeId} {cs : Array Value} (h : Blk w g t cs) (ho : Only S w w') (hs : ¬ S g) : Blk w' g t cs := (ho.block g h.lt hs).trans h
theorem own_only {base : Nat} {e : TypeId} {size n : Nat} {v : Value} {xs : List Value} (hr : w.ownsRow base e size v n xs) (h : Only S w w') (hs : ∀ g, v.ownBlock = some g → ¬ S g) : w'.ownsRow base e size v n xs := by
  rcases hr.2 with ⟨rfl, hx⟩ | ⟨g, cap, cur, rfl, hb, hh, rest⟩
  · exact ⟨hr.1, .inl ⟨rfl, hx⟩⟩
  · have hlt : g < w.heap.size := (Array.getElem?_eq_some_iff.1 hh).1
    exact ⟨hr.1, .inr ⟨g, cap, cur, rfl, hb, (h.block g hlt (hs g rfl)).trans hh, rest⟩⟩
end
end Go.Proofs.Ytfgkkflbpfocjaa

namespace Go.Proofs.Ytfgkkflbpfocjaa
open Go.RowKit
set_option linter.unusedVariables false
set_option linter.unusedSimpArgs false


set_option maxRecDepth 100000 in
set_option maxHeartbeats 4000000 in
theorem learn_no (gj gp : Nat) (node th old : Int) (su : Bool) (g n r : Int) (S cs : Nat) (As : Option Addr) (a b f : Int) (T ct : Nat) (At : Option Addr) (K ck : Nat) (Ak : Option Addr) (boot : Int) (kind frm tto mine yours fa fb inode iseq ioff bnode bseq boff dest prio born life total : Int) (data : ByteArray) (lr : Bool) (w : World) (hJ : Blk w gj 101 #[.pointer (some ⟨gp, 0, none⟩), .int .u64 boot, .int .i64 kind, .int .i64 frm, .int .i64 tto, .int .u64 mine, .int .u64 yours, .int .u64 fa, .int .u64 fb, .int .i64 inode, .int .u64 iseq, .int .i64 ioff, .int .i64 bnode, .int .u64 bseq, .int .i64 boff, .int .i64 dest, .int .i64 prio, .int .i64 born, .int .i64 life, .int .i64 total, .string data, .bool lr]) (hP : Blk w gp 31 #[.int .i64 node, .int .u64 th, .bool su, .int .u64 old, .int .u64 g, .int .u64 n, .int .u64 r, .slice As S cs, .int .u64 a, .int .u64 b, .int .u64 f, .slice At T ct, .slice Ak K ck]) (hne : gj ≠ gp) (hm : ¬ mine > th) :
    Calls Try.prog 55 #[.pointer (some ⟨gj, 0, none⟩)] w (fun e w' => e = .returned (.pointer (some ⟨gj, 0, none⟩)) ∧ ∃ k, w' = w.drewN k) := by
  have HJ := Lib.hid hJ
  have HP := Lib.hid hP
  have j0 := hJ.cell 0
  have j1 := hJ.cell 1
  have j5 := hJ.cell 5
  have j6 := hJ.cell 6
  have j21 := hJ.cell 21
  have jf := hJ.frozen 21
  have p0 := hP.cell 0
  have p1 := hP.cell 1
  replace j0 : w.cell? ⟨gj, 0, none⟩ = some (.pointer (some ⟨gp, 0, none⟩)) := j0
  replace j1 : w.cell? ⟨gj, 1, none⟩ = some (.int .u64 boot) := j1
  replace j5 : w.cell? ⟨gj, 5, none⟩ = some (.int .u64 mine) := j5
  replace j6 : w.cell? ⟨gj, 6, none⟩ = some (.int .u64 yours) := j6
  replace j21 : w.cell? ⟨gj, 21, none⟩ = some (.bool lr) := j21
  replace p0 : w.cell? ⟨gp, 0, none⟩ = some (.int .i64 node) := p0
  replace p1 : w.cell? ⟨gp, 1, none⟩ = some (.int .u64 th) := p1
  have hlj := hJ.lt
  have hlp := hP.lt
  have hn1 : ¬ gj = gp := hne
  have hn2 : ¬ gp = gj := fun h => hne h.symm
  clear hJ hP hne j1 j6 j21 jf p0
  go_enter Try.func55, Try.ntmps55
  go_upto_region 1 with fail
  go_quiet (fail)
  go_wp2_with fail
  go_ret
  exact ⟨rfl, _, rfl⟩


set_option maxRecDepth 100000 in
set_option maxHeartbeats 4000000 in
theorem learn_yes (gj gp : Nat) (node th old : Int) (su : Bool) (g n r : Int) (S cs : Nat) (As : Option Addr) (a b f : Int) (T ct : Nat) (At : Option Addr) (K ck : Nat) (Ak : Option Addr) (boot : Int) (kind frm tto mine yours fa fb inode iseq ioff bnode bseq boff dest prio born life total : Int) (data : ByteArray) (lr : Bool) (w : World) (hJ : Blk w gj 101 #[.pointer (some ⟨gp, 0, none⟩), .int .u64 boot, .int .i64 kind, .int .i64 frm, .int .i64 tto, .int .u64 mine, .int .u64 yours, .int .u64 fa, .int .u64 fb, .int .i64 inode, .int .u64 iseq, .int .i64 ioff, .int .i64 bnode, .int .u64 bseq, .int .i64 boff, .int .i64 dest, .int .i64 prio, .int .i64 born, .int .i64 life, .int .i64 total, .string data, .bool lr]) (hP : Blk w gp 31 #[.int .i64 node, .int .u64 th, .bool su, .int .u64 old, .int .u64 g, .int .u64 n, .int .u64 r, .slice As S cs, .int .u64 a, .int .u64 b, .int .u64 f, .slice At T ct, .slice Ak K ck]) (hne : gj ≠ gp) (hm : mine > th) (B : Nat) (hBj : B ≤ gj) (hBp : B ≤ gp) :
    Calls Try.prog 55 #[.pointer (some ⟨gj, 0, none⟩)] w (fun e w' => e = .returned (.pointer (some ⟨gj, 0, none⟩)) ∧ Blk w' gp 31 #[.int .i64 node, .int .u64 mine, .bool false, .int .u64 0, .int .u64 0, .int .u64 0, .int .u64 0, .slice none 0 0, .int .u64 0, .int .u64 0, .int .u64 0, .slice none 0 0, .slice none 0 0] ∧ Blk w' gj 101 #[.pointer (some ⟨gp, 0, none⟩), .int .u64 boot, .int .i64 kind, .int .i64 frm, .int .i64 tto, .int .u64 mine, .int .u64 yours, .int .u64 fa, .int .u64 fb, .int .i64 inode, .int .u64 iseq, .int .i64 ioff, .int .i64 bnode, .int .u64 bseq, .int .i64 boff, .int .i64 dest, .int .i64 prio, .int .i64 born, .int .i64 life, .int .i64 total, .string data, .bool true] ∧ Below B w w') := by
  have HJ := Lib.hid hJ
  have HP := Lib.hid hP
  have j0 := hJ.cell 0
  have j1 := hJ.cell 1
  have j5 := hJ.cell 5
  have j6 := hJ.cell 6
  have j21 := hJ.cell 21
  have jf := hJ.frozen 21
  have p0 := hP.cell 0
  have p1 := hP.cell 1
  replace j0 : w.cell? ⟨gj, 0, none⟩ = some (.pointer (some ⟨gp, 0, none⟩)) := j0
  replace j1 : w.cell? ⟨gj, 1, none⟩ = some (.int .u64 boot) := j1
  replace j5 : w.cell? ⟨gj, 5, none⟩ = some (.int .u64 mine) := j5
  replace j6 : w.cell? ⟨gj, 6, none⟩ = some (.int .u64 yours) := j6
  replace j21 : w.cell? ⟨gj, 21, none⟩ = some (.bool lr) := j21
  replace p0 : w.cell? ⟨gp, 0, none⟩ = some (.int .i64 node) := p0
  replace p1 : w.cell? ⟨gp, 1, none⟩ = some (.int .u64 th) := p1
  have hlj := hJ.lt
  have hlp := hP.lt
  have hn1 : ¬ gj = gp := hne
  have hn2 : ¬ gp = gj := fun h => hne h.symm
  obtain ⟨c0, c1, c2, c3, c4, c5, c6, c7, c8, c9, c10, c11, c12⟩ := hP.c13
  obtain ⟨f0, f1, f2, f3, f4, f5, f6, f7, f8, f9, f10, f11, f12⟩ := hP.f13
  clear hJ hP hne p0 p1
  go_enter Try.func55, Try.ntmps55
  go_upto_region 1 with fail
  go_quiet (fail)
  go_upto_region 2 with fail
  go_region
  all_goals
    go_wp2_with fail
    go_ret
    refine ⟨rfl, ?_, ?_, ?_⟩
    · exact Blk.far (Blk.set13 (HP.out.drewN _) (.int .i64 node) (.int .u64 mine) (.bool false) (.int .u64 0) (.int .u64 0) (.int .u64 0) (.int .u64 0) (.slice none 0 0) (.int .u64 0) (.int .u64 0) (.int .u64 0) (.slice none 0 0) (.slice none 0 0)) (p := ⟨gj, 21, none⟩) hn2 (.bool true)
    · exact Blk.set22 (Blk.far13 (HJ.out.drewN _) hn1 (.int .i64 node) (.int .u64 mine) (.bool false) (.int .u64 0) (.int .u64 0) (.int .u64 0) (.int .u64 0) (.slice none 0 0) (.int .u64 0) (.int .u64 0) (.int .u64 0) (.slice none 0 0) (.slice none 0 0)) (.bool true)
    · repeat (first | with_reducible exact Below.refl _ _ | with_reducible refine Below.drew ?_ | with_reducible refine below_drewN ?_ _ | with_reducible refine Below.setCell ?_ (by first | exact hBp | exact hBj) _)


set_option maxRecDepth 100000 in
set_option maxHeartbeats 4000000 in
theorem verdict_unk (gj gp : Nat) (node th old : Int) (su : Bool) (g n r : Int) (S cs : Nat) (As : Option Addr) (a b f : Int) (T ct : Nat) (At : Option Addr) (K ck : Nat) (Ak : Option Addr) (boot : Int) (kind frm tto mine yours fa fb inode iseq ioff bnode bseq boff dest prio born life total : Int) (data : ByteArray) (lr : Bool) (w : World) (hJ : Blk w gj 101 #[.pointer (some ⟨gp, 0, none⟩), .int .u64 boot, .int .i64 kind, .int .i64 frm, .int .i64 tto, .int .u64 mine, .int .u64 yours, .int .u64 fa, .int .u64 fb, .int .i64 inode, .int .u64 iseq, .int .i64 ioff, .int .i64 bnode, .int .u64 bseq, .int .i64 boff, .int .i64 dest, .int .i64 prio, .int .i64 born, .int .i64 life, .int .i64 total, .string data, .bool lr]) (hP : Blk w gp 31 #[.int .i64 node, .int .u64 th, .bool su, .int .u64 old, .int .u64 g, .int .u64 n, .int .u64 r, .slice As S cs, .int .u64 a, .int .u64 b, .int .u64 f, .slice At T ct, .slice Ak K ck]) (hne : gj ≠ gp) (hm : yours ≠ boot) :
    Calls Try.prog 56 #[.pointer (some ⟨gj, 0, none⟩)] w (fun e w' => e = .returned (.int .i64 2) ∧ ∃ k, w' = w.drewN k) := by
  have HJ := Lib.hid hJ
  have HP := Lib.hid hP
  have j0 := hJ.cell 0
  have j1 := hJ.cell 1
  have j5 := hJ.cell 5
  have j6 := hJ.cell 6
  have j21 := hJ.cell 21
  have jf := hJ.frozen 21
  have p0 := hP.cell 0
  have p1 := hP.cell 1
  replace j0 : w.cell? ⟨gj, 0, none⟩ = some (.pointer (some ⟨gp, 0, none⟩)) := j0
  replace j1 : w.cell? ⟨gj, 1, none⟩ = some (.int .u64 boot) := j1
  replace j5 : w.cell? ⟨gj, 5, none⟩ = some (.int .u64 mine) := j5
  replace j6 : w.cell? ⟨gj, 6, none⟩ = some (.int .u64 yours) := j6
  replace j21 : w.cell? ⟨gj, 21, none⟩ = some (.bool lr) := j21
  replace p0 : w.cell? ⟨gp, 0, none⟩ = some (.int .i64 node) := p0
  replace p1 : w.cell? ⟨gp, 1, none⟩ = some (.int .u64 th) := p1
  have hlj := hJ.lt
  have hlp := hP.lt
  have hn1 : ¬ gj = gp := hne
  have hn2 : ¬ gp = gj := fun h => hne h.symm
  have hb : (yours != boot) = true := by simpa using hm
  clear hJ hP hne j5 j21 jf p0 p1 hm
  go_enter Try.func56, Try.ntmps56
  go_upto_region 1 with fail
  go_quiet (fail)
  go_wp2_with fail
  go_ret
  exact ⟨rfl, _, rfl⟩


set_option maxRecDepth 100000 in
set_option maxHeartbeats 4000000 in
theorem verdict_fresh (gj gp : Nat) (node th old : Int) (su : Bool) (g n r : Int) (S cs : Nat) (As : Option Addr) (a b f : Int) (T ct : Nat) (At : Option Addr) (K ck : Nat) (Ak : Option Addr) (boot : Int) (kind frm tto mine yours fa fb inode iseq ioff bnode bseq boff dest prio born life total : Int) (data : ByteArray) (lr : Bool) (w : World) (hJ : Blk w gj 101 #[.pointer (some ⟨gp, 0, none⟩), .int .u64 boot, .int .i64 kind, .int .i64 frm, .int .i64 tto, .int .u64 mine, .int .u64 yours, .int .u64 fa, .int .u64 fb, .int .i64 inode, .int .u64 iseq, .int .i64 ioff, .int .i64 bnode, .int .u64 bseq, .int .i64 boff, .int .i64 dest, .int .i64 prio, .int .i64 born, .int .i64 life, .int .i64 total, .string data, .bool lr]) (hP : Blk w gp 31 #[.int .i64 node, .int .u64 th, .bool su, .int .u64 old, .int .u64 g, .int .u64 n, .int .u64 r, .slice As S cs, .int .u64 a, .int .u64 b, .int .u64 f, .slice At T ct, .slice Ak K ck]) (hne : gj ≠ gp) (hm : yours = boot) (B : Nat) (hBj : B ≤ gj) (hBp : B ≤ gp) :
    Calls Try.prog 56 #[.pointer (some ⟨gj, 0, none⟩)] w (fun e w' => e = .returned (.int .i64 3) ∧ Blk w' gp 31 #[.int .i64 node, .int .u64 th, .bool true, .int .u64 0, .int .u64 g, .int .u64 n, .int .u64 r, .slice As S cs, .int .u64 a, .int .u64 b, .int .u64 f, .slice At T ct, .slice Ak K ck] ∧ Blk w' gj 101 #[.pointer (some ⟨gp, 0, none⟩), .int .u64 boot, .int .i64 kind, .int .i64 frm, .int .i64 tto, .int .u64 mine, .int .u64 yours, .int .u64 fa, .int .u64 fb, .int .i64 inode, .int .u64 iseq, .int .i64 ioff, .int .i64 bnode, .int .u64 bseq, .int .i64 boff, .int .i64 dest, .int .i64 prio, .int .i64 born, .int .i64 life, .int .i64 total, .string data, .bool lr] ∧ Below B w w' ∧ (∀ k v n xs, RowB (gp + 1) w k v n xs → RowB (gp + 1) w' k v n xs)) := by
  have HJ := Lib.hid hJ
  have HP := Lib.hid hP
  have j0 := hJ.cell 0
  have j1 := hJ.cell 1
  have j5 := hJ.cell 5
  have j6 := hJ.cell 6
  have j21 := hJ.cell 21
  have jf := hJ.frozen 21
  have p0 := hP.cell 0
  have p1 := hP.cell 1
  replace j0 : w.cell? ⟨gj, 0, none⟩ = some (.pointer (some ⟨gp, 0, none⟩)) := j0
  replace j1 : w.cell? ⟨gj, 1, none⟩ = some (.int .u64 boot) := j1
  replace j5 : w.cell? ⟨gj, 5, none⟩ = some (.int .u64 mine) := j5
  replace j6 : w.cell? ⟨gj, 6, none⟩ = some (.int .u64 yours) := j6
  replace j21 : w.cell? ⟨gj, 21, none⟩ = some (.bool lr) := j21
  replace p0 : w.cell? ⟨gp, 0, none⟩ = some (.int .i64 node) := p0
  replace p1 : w.cell? ⟨gp, 1, none⟩ = some (.int .u64 th) := p1
  have hlj := hJ.lt
  have hlp := hP.lt
  have hn1 : ¬ gj = gp := hne
  have hn2 : ¬ gp = gj := fun h => hne h.symm
  have hb : (yours != boot) = false := by simpa using hm
  have c2 := hP.cell 2
  have c3 := hP.cell 3
  have f2 := hP.frozen 2
  have f3 := hP.frozen 3
  replace c2 : w.cell? ⟨gp, 2, none⟩ = some (.bool su) := c2
  replace c3 : w.cell? ⟨gp, 3, none⟩ = some (.int .u64 old) := c3
  clear hJ hP hne j5 j21 jf p0 p1 hm
  go_enter Try.func56, Try.ntmps56
  go_upto_region 1 with fail
  go_quiet (fail)
  go_upto_region 3 with fail
  go_region
  all_goals
    go_wp2_with fail
    go_ret
    refine ⟨rfl, ?_, ?_, ?_, ?_⟩
    · exact Blk.set23 (HP.out.drewN _) (.bool true) (.int .u64 0)
    · exact Blk.far23 (HJ.out.drewN _) hn1 (.bool true) (.int .u64 0)
    · repeat (first | with_reducible exact Below.refl _ _ | with_reducible refine Below.drew ?_ | with_reducible refine below_drewN ?_ _ | with_reducible refine Below.setCell ?_ (by first | exact hBp | exact hBj) _)
    · intro k v n xs h
      exact RowB.set (RowB.set (RowB.below h (below_drewN (Below.refl _ _) _)) (p := ⟨gp, 2, none⟩) (by show gp < _; omega) _) (p := ⟨gp, 3, none⟩) (by show gp < _; omega) _


set_option maxRecDepth 100000 in
set_option maxHeartbeats 4000000 in
theorem owed_2 (gj gp : Nat) (node th old : Int) (su : Bool) (g n r : Int) (S cs : Nat) (As : Option Addr) (a b f : Int) (T ct : Nat) (At : Option Addr) (K ck : Nat) (Ak : Option Addr) (boot : Int) (kind frm tto mine yours fa fb inode iseq ioff bnode bseq boff dest prio born life total : Int) (data : ByteArray) (lr : Bool) (w : World) (hJ : Blk w gj 101 #[.pointer (some ⟨gp, 0, none⟩), .int .u64 boot, .int .i64 kind, .int .i64 frm, .int .i64 tto, .int .u64 mine, .int .u64 yours, .int .u64 fa, .int .u64 fb, .int .i64 inode, .int .u64 iseq, .int .i64 ioff, .int .i64 bnode, .int .u64 bseq, .int .i64 boff, .int .i64 dest, .int .i64 prio, .int .i64 born, .int .i64 life, .int .i64 total, .string data, .bool lr]) (hP : Blk w gp 31 #[.int .i64 node, .int .u64 th, .bool su, .int .u64 old, .int .u64 g, .int .u64 n, .int .u64 r, .slice As S cs, .int .u64 a, .int .u64 b, .int .u64 f, .slice At T ct, .slice Ak K ck]) (hne : gj ≠ gp) :
    Calls Try.prog 57 #[.pointer (some ⟨gj, 0, none⟩), .int .i64 2] w (fun e w' => e = .returned (.bool true) ∧ w' = w) := by
  have HJ := Lib.hid hJ
  have HP := Lib.hid hP
  have j0 := hJ.cell 0
  have j1 := hJ.cell 1
  have j5 := hJ.cell 5
  have j6 := hJ.cell 6
  have j21 := hJ.cell 21
  have jf := hJ.frozen 21
  have p0 := hP.cell 0
  have p1 := hP.cell 1
  replace j0 : w.cell? ⟨gj, 0, none⟩ = some (.pointer (some ⟨gp, 0, none⟩)) := j0
  replace j1 : w.cell? ⟨gj, 1, none⟩ = some (.int .u64 boot) := j1
  replace j5 : w.cell? ⟨gj, 5, none⟩ = some (.int .u64 mine) := j5
  replace j6 : w.cell? ⟨gj, 6, none⟩ = some (.int .u64 yours) := j6
  replace j21 : w.cell? ⟨gj, 21, none⟩ = some (.bool lr) := j21
  replace p0 : w.cell? ⟨gp, 0, none⟩ = some (.int .i64 node) := p0
  replace p1 : w.cell? ⟨gp, 1, none⟩ = some (.int .u64 th) := p1
  have hlj := hJ.lt
  have hlp := hP.lt
  have hn1 : ¬ gj = gp := hne
  have hn2 : ¬ gp = gj := fun h => hne h.symm
  clear hJ hP hne j0 j1 j5 j6 jf p0 p1
  go_enter Try.func57, Try.ntmps57
  go_wp2_with fail
  go_ret
  exact ⟨rfl, rfl⟩


set_option maxRecDepth 100000 in
set_option maxHeartbeats 4000000 in
theorem owed_3 (gj gp : Nat) (node th old : Int) (su : Bool) (g n r : Int) (S cs : Nat) (As : Option Addr) (a b f : Int) (T ct : Nat) (At : Option Addr) (K ck : Nat) (Ak : Option Addr) (boot : Int) (kind frm tto mine yours fa fb inode iseq ioff bnode bseq boff dest prio born life total : Int) (data : ByteArray) (lr : Bool) (w : World) (hJ : Blk w gj 101 #[.pointer (some ⟨gp, 0, none⟩), .int .u64 boot, .int .i64 kind, .int .i64 frm, .int .i64 tto, .int .u64 mine, .int .u64 yours, .int .u64 fa, .int .u64 fb, .int .i64 inode, .int .u64 iseq, .int .i64 ioff, .int .i64 bnode, .int .u64 bseq, .int .i64 boff, .int .i64 dest, .int .i64 prio, .int .i64 born, .int .i64 life, .int .i64 total, .string data, .bool lr]) (hP : Blk w gp 31 #[.int .i64 node, .int .u64 th, .bool su, .int .u64 old, .int .u64 g, .int .u64 n, .int .u64 r, .slice As S cs, .int .u64 a, .int .u64 b, .int .u64 f, .slice At T ct, .slice Ak K ck]) (hne : gj ≠ gp) :
    Calls Try.prog 57 #[.pointer (some ⟨gj, 0, none⟩), .int .i64 3] w (fun e w' => e = .returned (.bool lr) ∧ w' = w) := by
  have HJ := Lib.hid hJ
  have HP := Lib.hid hP
  have j0 := hJ.cell 0
  have j1 := hJ.cell 1
  have j5 := hJ.cell 5
  have j6 := hJ.cell 6
  have j21 := hJ.cell 21
  have jf := hJ.frozen 21
  have p0 := hP.cell 0
  have p1 := hP.cell 1
  replace j0 : w.cell? ⟨gj, 0, none⟩ = some (.pointer (some ⟨gp, 0, none⟩)) := j0
  replace j1 : w.cell? ⟨gj, 1, none⟩ = some (.int .u64 boot) := j1
  replace j5 : w.cell? ⟨gj, 5, none⟩ = some (.int .u64 mine) := j5
  replace j6 : w.cell? ⟨gj, 6, none⟩ = some (.int .u64 yours) := j6
  replace j21 : w.cell? ⟨gj, 21, none⟩ = some (.bool lr) := j21
  replace p0 : w.cell? ⟨gp, 0, none⟩ = some (.int .i64 node) := p0
  replace p1 : w.cell? ⟨gp, 1, none⟩ = some (.int .u64 th) := p1
  have hlj := hJ.lt
  have hlp := hP.lt
  have hn1 : ¬ gj = gp := hne
  have hn2 : ¬ gp = gj := fun h => hne h.symm
  clear hJ hP hne j0 j1 j5 j6 jf p0 p1
  go_enter Try.func57, Try.ntmps57
  go_wp2_with fail
  go_ret
  exact ⟨rfl, rfl⟩

end Go.Proofs.Ytfgkkflbpfocjaa

namespace Go.Proofs.Ytfgkkflbpfocjaa
open Go.RowKit
set_option linter.unusedVariables false
set_option linter.unusedSimpArgs false

/-- the results: a struct in a cell, and three more -/
theorem results_cell3 {P : Program} {fn : Func} {p u1 u2 u3 : Tmp} {ty : TypeId} (h : fn.results = #[.cell p ty, .tmp u1, .tmp u2, .tmp u3]) (tmps : Array Value) (w : World) (g : Nat) (t : TypeId) (cs : Array Value) (fr : Nat × Nat) (d : TypeDesc)
    (hp : tmps.getD p undef = .pointer (some ⟨g, 0, none⟩)) (hg : w.heap[g]? = some (.cells cs t fr))
    (hu : P.underlying ty = some d) (hd : (match d with | .struct _ | .array _ _ => true | _ => false) = true) (hi : (P.info? ty).map (·.size) = some cs.size) :
    (results fn tmps).run P w = .ok (.tuple #[.agg cs, tmps.getD u1 undef, tmps.getD u2 undef, tmps.getD u3 undef]) w := by
  have hp' : tmps[p]?.getD undef = .pointer (some ⟨g, 0, none⟩) := by simpa using hp
  simp [results, h, hp', asAddr, run_loadVar_row w g t ty cs fr d hg hu hd hi, Sem.run_bind, Result.andThen]

set_option maxRecDepth 100000 in
set_option maxHeartbeats 4000000 in
theorem meet_bad (node th old : Int) (su : Bool) (g n r : Int) (S cs : Nat) (As : Option Addr) (a b f : Int) (T ct : Nat) (At : Option Addr) (K ck : Nat) (Ak : Option Addr) (kind frm tto mine yours fa fb inode iseq ioff bnode bseq boff dest prio born life total : Int) (data : ByteArray) (boot ce fe : Int) (w : World) (PC : ∀ w', Below w.heap.size w w' → Calls Try.prog 20 #[.agg #[.int .i64 node, .int .u64 th, .bool su, .int .u64 old, .int .u64 g, .int .u64 n, .int .u64 r, .slice As S cs, .int .u64 a, .int .u64 b, .int .u64 f, .slice At T ct, .slice Ak K ck]] w' (RetI .i64 ce w')) (hc : ce ≠ 0) :
    Calls Try.prog 18 #[.agg #[.int .i64 node, .int .u64 th, .bool su, .int .u64 old, .int .u64 g, .int .u64 n, .int .u64 r, .slice As S cs, .int .u64 a, .int .u64 b, .int .u64 f, .slice At T ct, .slice Ak K ck], .int .u64 boot, .agg #[.int .i64 kind, .int .i64 frm, .int .i64 tto, .int .u64 mine, .int .u64 yours, .int .u64 fa, .int .u64 fb, .int .i64 inode, .int .u64 iseq, .int .i64 ioff, .int .i64 bnode, .int .u64 bseq, .int .i64 boff, .int .i64 dest, .int .i64 prio, .int .i64 born, .int .i64 life, .int .i64 total, .string data]] w (fun e w' => e = .returned (.tuple #[.agg #[.int .i64 0, .int .u64 0, .bool false, .int .u64 0, .int .u64 0, .int .u64 0, .int .u64 0, .slice none 0 0, .int .u64 0, .int .u64 0, .int .u64 0, .slice none 0 0, .slice none 0 0], .int .i64 0, .bool false, .int .i64 ce]) ∧ Below w.heap.size w w') := by
  have PC' := Lib.hid PC
  have c1 : (ce != 0) = true := by simpa using hc
  have c2 : (ce == 0) = false := by simpa using hc
  clear PC hc
  go_enter Try.func18, Try.ntmps18
  go_wp2_with fail
  have k0 := (Blk.new w 31 #[.int .i64 node, .int .u64 th, .bool su, .int .u64 old, .int .u64 g, .int .u64 n, .int .u64 r, .slice As S cs, .int .u64 a, .int .u64 b, .int .u64 f, .slice At T ct, .slice Ak K ck]).alloc (.cells #[.int .i64 kind, .int .i64 frm, .int .i64 tto, .int .u64 mine, .int .u64 yours, .int .u64 fa, .int .u64 fb, .int .i64 inode, .int .u64 iseq, .int .i64 ioff, .int .i64 bnode, .int .u64 bseq, .int .i64 boff, .int .i64 dest, .int .i64 prio, .int .i64 born, .int .i64 life, .int .i64 total, .string data] 51)
  have k0 := k0.alloc (.cells #[.int .i64 0, .int .u64 0, .bool false, .int .u64 0, .int .u64 0, .int .u64 0, .int .u64 0, .slice none 0 0, .int .u64 0, .int .u64 0, .int .u64 0, .slice none 0 0, .slice none 0 0] 31)
  have k1 := (Blk.new1 w (.cells #[.int .i64 node, .int .u64 th, .bool su, .int .u64 old, .int .u64 g, .int .u64 n, .int .u64 r, .slice As S cs, .int .u64 a, .int .u64 b, .int .u64 f, .slice At T ct, .slice Ak K ck] 31) 51 #[.int .i64 kind, .int .i64 frm, .int .i64 tto, .int .u64 mine, .int .u64 yours, .int .u64 fa, .int .u64 fb, .int .i64 inode, .int .u64 iseq, .int .i64 ioff, .int .i64 bnode, .int .u64 bseq, .int .i64 boff, .int .i64 dest, .int .i64 prio, .int .i64 born, .int .i64 life, .int .i64 total, .string data]).alloc (.cells #[.int .i64 0, .int .u64 0, .bool false, .int .u64 0, .int .u64 0, .int .u64 0, .int .u64 0, .slice none 0 0, .int .u64 0, .int .u64 0, .int .u64 0, .slice none 0 0, .slice none 0 0] 31)
  have k2 := Blk.new2 w (.cells #[.int .i64 node, .int .u64 th, .bool su, .int .u64 old, .int .u64 g, .int .u64 n, .int .u64 r, .slice As S cs, .int .u64 a, .int .u64 b, .int .u64 f, .slice At T ct, .slice Ak K ck] 31) (.cells #[.int .i64 kind, .int .i64 frm, .int .i64 tto, .int .u64 mine, .int .u64 yours, .int .u64 fa, .int .u64 fb, .int .i64 inode, .int .u64 iseq, .int .i64 ioff, .int .i64 bnode, .int .u64 bseq, .int .i64 boff, .int .i64 dest, .int .i64 prio, .int .i64 born, .int .i64 life, .int .i64 total, .string data] 51) 31 #[.int .i64 0, .int .u64 0, .bool false, .int .u64 0, .int .u64 0, .int .u64 0, .int .u64 0, .slice none 0 0, .int .u64 0, .int .u64 0, .int .u64 0, .slice none 0 0, .slice none 0 0]
  have hB := bal (bal (bal (Below.refl w.heap.size w) (.cells #[.int .i64 node, .int .u64 th, .bool su, .int .u64 old, .int .u64 g, .int .u64 n, .int .u64 r, .slice As S cs, .int .u64 a, .int .u64 b, .int .u64 f, .slice At T ct, .slice Ak K ck] 31)) (.cells #[.int .i64 kind, .int .i64 frm, .int .i64 tto, .int .u64 mine, .int .u64 yours, .int .u64 fa, .int .u64 fb, .int .i64 inode, .int .u64 iseq, .int .i64 ioff, .int .i64 bnode, .int .u64 bseq, .int .i64 boff, .int .i64 dest, .int .i64 prio, .int .i64 born, .int .i64 life, .int .i64 total, .string data] 51)) (.cells #[.int .i64 0, .int .u64 0, .bool false, .int .u64 0, .int .u64 0, .int .u64 0, .int .u64 0, .slice none 0 0, .int .u64 0, .int .u64 0, .int .u64 0, .slice none 0 0, .slice none 0 0] 31)
  have k3 : BK3 w w.heap.size 31 #[.int .i64 node, .int .u64 th, .bool su, .int .u64 old, .int .u64 g, .int .u64 n, .int .u64 r, .slice As S cs, .int .u64 a, .int .u64 b, .int .u64 f, .slice At T ct, .slice Ak K ck] (w.heap.size + 1) 51 #[.int .i64 kind, .int .i64 frm, .int .i64 tto, .int .u64 mine, .int .u64 yours, .int .u64 fa, .int .u64 fb, .int .i64 inode, .int .u64 iseq, .int .i64 ioff, .int .i64 bnode, .int .u64 bseq, .int .i64 boff, .int .i64 dest, .int .i64 prio, .int .i64 born, .int .i64 life, .int .i64 total, .string data] (w.heap.size + 1 + 1) 31 #[.int .i64 0, .int .u64 0, .bool false, .int .u64 0, .int .u64 0, .int .u64 0, .int .u64 0, .slice none 0 0, .int .u64 0, .int .u64 0, .int .u64 0, .slice none 0 0, .slice none 0 0] _ := ⟨k0, k1, k2, hB⟩
  clear k0 k1 k2
  have HG := Lib.hid (show w.heap.size ≤ w.heap.size + 1 + 1 by omega)
  have n02 : ¬ w.heap.size = w.heap.size + 1 + 1 := by omega
  have n12 : ¬ w.heap.size + 1 = w.heap.size + 1 + 1 := by omega
  refine (PC'.out _ hB).mono ?_
  rintro e w1 ⟨rfl, hb1⟩
  have kk := k3.below hb1
  clear k3 hb1 hB PC'
  obtain ⟨g2, hg2⟩ : ∃ g2, w.heap.size + 1 + 1 = g2 := ⟨_, rfl⟩
  obtain ⟨g1, hg1⟩ : ∃ g1, w.heap.size + 1 = g1 := ⟨_, rfl⟩
  rw [hg2] at kk HG n02 n12 ⊢
  rw [hg1] at kk n12 ⊢
  obtain ⟨g0, hg0⟩ : ∃ g0, w.heap.size = g0 := ⟨_, rfl⟩
  rw [hg0] at kk HG n02 ⊢
  have HG0 := Lib.hid hg0
  clear hg2 hg1 hg0
  have hl0 := kk.b.lt
  have hl1 := kk.c.lt
  have hl2 := kk.d.lt
  have kd := kk.d
  have kb := kk.b
  have kc := kk.c
  have K1 := Lib.hid kk
  clear kk
  obtain ⟨z0, z1, z2, z3, z4, z5, z6, z7, z8, z9, z10, z11, z12⟩ := kd.c13
  obtain ⟨f0, f1, f2, f3, f4, f5, f6, f7, f8, f9, f10, f11, f12⟩ := kd.f13
  clear kd kb kc
  go_wp2_with fail
  have kf := Blk.set13 K1.out.d (.int .i64 0) (.int .u64 0) (.bool false) (.int .u64 0) (.int .u64 0) (.int .u64 0) (.int .u64 0) (.slice none 0 0) (.int .u64 0) (.int .u64 0) (.int .u64 0) (.slice none 0 0) (.slice none 0 0)
  clear z0 z1 z2 z3 z4 z5 z6 z7 z8 z9 z10 z11 z12 f0 f1 f2 f3 f4 f5 f6 f7 f8 f9 f10 f11 f12
  refine bodyPost_ret (results_cell3 rfl _ _ g2 31 #[.int .i64 0, .int .u64 0, .bool false, .int .u64 0, .int .u64 0, .int .u64 0, .int .u64 0, .slice none 0 0, .int .u64 0, .int .u64 0, .int .u64 0, .slice none 0 0, .slice none 0 0] (0, 0) _ rfl kf Try.underlying31 (by rfl) (by kernel_rfl)) rfl ?_
  refine ⟨rfl, ?_⟩
  have hb := K1.out.hB
  repeat (first | with_reducible exact hb | with_reducible refine Below.setCell ?_ (by first | exact HG.out | exact HG0.out ▸ HG.out) _)

set_option maxRecDepth 100000 in
set_option maxHeartbeats 4000000 in
theorem meet_boot1 (node th old : Int) (su : Bool) (g n r : Int) (S cs : Nat) (As : Option Addr) (a b f : Int) (T ct : Nat) (At : Option Addr) (K ck : Nat) (Ak : Option Addr) (kind frm tto mine yours fa fb inode iseq ioff bnode bseq boff dest prio born life total : Int) (data : ByteArray) (boot ce fe : Int) (w : World) (PC : ∀ w', Below w.heap.size w w' → Calls Try.prog 20 #[.agg #[.int .i64 node, .int .u64 th, .bool su, .int .u64 old, .int .u64 g, .int .u64 n, .int .u64 r, .slice As S cs, .int .u64 a, .int .u64 b, .int .u64 f, .slice At T ct, .slice Ak K ck]] w' (RetI .i64 0 w')) (h1 : boot < 1) :
    Calls Try.prog 18 #[.agg #[.int .i64 node, .int .u64 th, .bool su, .int .u64 old, .int .u64 g, .int .u64 n, .int .u64 r, .slice As S cs, .int .u64 a, .int .u64 b, .int .u64 f, .slice At T ct, .slice Ak K ck], .int .u64 boot, .agg #[.int .i64 kind, .int .i64 frm, .int .i64 tto, .int .u64 mine, .int .u64 yours, .int .u64 fa, .int .u64 fb, .int .i64 inode, .int .u64 iseq, .int .i64 ioff, .int .i64 bnode, .int .u64 bseq, .int .i64 boff, .int .i64 dest, .int .i64 prio, .int .i64 born, .int .i64 life, .int .i64 total, .string data]] w (fun e w' => e = .returned (.tuple #[.agg #[.int .i64 0, .int .u64 0, .bool false, .int .u64 0, .int .u64 0, .int .u64 0, .int .u64 0, .slice none 0 0, .int .u64 0, .int .u64 0, .int .u64 0, .slice none 0 0, .slice none 0 0], .int .i64 0, .bool false, .int .i64 2]) ∧ Below w.heap.size w w') := by
  have PC' := Lib.hid PC
  clear PC
  go_enter Try.func18, Try.ntmps18
  go_wp2_with fail
  have k0 := (Blk.new w 31 #[.int .i64 node, .int .u64 th, .bool su, .int .u64 old, .int .u64 g, .int .u64 n, .int .u64 r, .slice As S cs, .int .u64 a, .int .u64 b, .int .u64 f, .slice At T ct, .slice Ak K ck]).alloc (.cells #[.int .i64 kind, .int .i64 frm, .int .i64 tto, .int .u64 mine, .int .u64 yours, .int .u64 fa, .int .u64 fb, .int .i64 inode, .int .u64 iseq, .int .i64 ioff, .int .i64 bnode, .int .u64 bseq, .int .i64 boff, .int .i64 dest, .int .i64 prio, .int .i64 born, .int .i64 life, .int .i64 total, .string data] 51)
  have k0 := k0.alloc (.cells #[.int .i64 0, .int .u64 0, .bool false, .int .u64 0, .int .u64 0, .int .u64 0, .int .u64 0, .slice none 0 0, .int .u64 0, .int .u64 0, .int .u64 0, .slice none 0 0, .slice none 0 0] 31)
  have k1 := (Blk.new1 w (.cells #[.int .i64 node, .int .u64 th, .bool su, .int .u64 old, .int .u64 g, .int .u64 n, .int .u64 r, .slice As S cs, .int .u64 a, .int .u64 b, .int .u64 f, .slice At T ct, .slice Ak K ck] 31) 51 #[.int .i64 kind, .int .i64 frm, .int .i64 tto, .int .u64 mine, .int .u64 yours, .int .u64 fa, .int .u64 fb, .int .i64 inode, .int .u64 iseq, .int .i64 ioff, .int .i64 bnode, .int .u64 bseq, .int .i64 boff, .int .i64 dest, .int .i64 prio, .int .i64 born, .int .i64 life, .int .i64 total, .string data]).alloc (.cells #[.int .i64 0, .int .u64 0, .bool false, .int .u64 0, .int .u64 0, .int .u64 0, .int .u64 0, .slice none 0 0, .int .u64 0, .int .u64 0, .int .u64 0, .slice none 0 0, .slice none 0 0] 31)
  have k2 := Blk.new2 w (.cells #[.int .i64 node, .int .u64 th, .bool su, .int .u64 old, .int .u64 g, .int .u64 n, .int .u64 r, .slice As S cs, .int .u64 a, .int .u64 b, .int .u64 f, .slice At T ct, .slice Ak K ck] 31) (.cells #[.int .i64 kind, .int .i64 frm, .int .i64 tto, .int .u64 mine, .int .u64 yours, .int .u64 fa, .int .u64 fb, .int .i64 inode, .int .u64 iseq, .int .i64 ioff, .int .i64 bnode, .int .u64 bseq, .int .i64 boff, .int .i64 dest, .int .i64 prio, .int .i64 born, .int .i64 life, .int .i64 total, .string data] 51) 31 #[.int .i64 0, .int .u64 0, .bool false, .int .u64 0, .int .u64 0, .int .u64 0, .int .u64 0, .slice none 0 0, .int .u64 0, .int .u64 0, .int .u64 0, .slice none 0 0, .slice none 0 0]
  have hB := bal (bal (bal (Below.refl w.heap.size w) (.cells #[.int .i64 node, .int .u64 th, .bool su, .int .u64 old, .int .u64 g, .int .u64 n, .int .u64 r, .slice As S cs, .int .u64 a, .int .u64 b, .int .u64 f, .slice At T ct, .slice Ak K ck] 31)) (.cells #[.int .i64 kind, .int .i64 frm, .int .i64 tto, .int .u64 mine, .int .u64 yours, .int .u64 fa, .int .u64 fb, .int .i64 inode, .int .u64 iseq, .int .i64 ioff, .int .i64 bnode, .int .u64 bseq, .int .i64 boff, .int .i64 dest, .int .i64 prio, .int .i64 born, .int .i64 life, .int .i64 total, .string data] 51)) (.cells #[.int .i64 0, .int .u64 0, .bool false, .int .u64 0, .int .u64 0, .int .u64 0, .int .u64 0, .slice none 0 0, .int .u64 0, .int .u64 0, .int .u64 0, .slice none 0 0, .slice none 0 0] 31)
  have k3 : BK3 w w.heap.size 31 #[.int .i64 node, .int .u64 th, .bool su, .int .u64 old, .int .u64 g, .int .u64 n, .int .u64 r, .slice As S cs, .int .u64 a, .int .u64 b, .int .u64 f, .slice At T ct, .slice Ak K ck] (w.heap.size + 1) 51 #[.int .i64 kind, .int .i64 frm, .int .i64 tto, .int .u64 mine, .int .u64 yours, .int .u64 fa, .int .u64 fb, .int .i64 inode, .int .u64 iseq, .int .i64 ioff, .int .i64 bnode, .int .u64 bseq, .int .i64 boff, .int .i64 dest, .int .i64 prio, .int .i64 born, .int .i64 life, .int .i64 total, .string data] (w.heap.size + 1 + 1) 31 #[.int .i64 0, .int .u64 0, .bool false, .int .u64 0, .int .u64 0, .int .u64 0, .int .u64 0, .slice none 0 0, .int .u64 0, .int .u64 0, .int .u64 0, .slice none 0 0, .slice none 0 0] _ := ⟨k0, k1, k2, hB⟩
  clear k0 k1 k2
  have HG := Lib.hid (show w.heap.size ≤ w.heap.size + 1 + 1 by omega)
  have n02 : ¬ w.heap.size = w.heap.size + 1 + 1 := by omega
  have n12 : ¬ w.heap.size + 1 = w.heap.size + 1 + 1 := by omega
  refine (PC'.out _ hB).mono ?_
  rintro e w1 ⟨rfl, hb1⟩
  have kk := k3.below hb1
  clear k3 hb1 hB PC'
  obtain ⟨g2, hg2⟩ : ∃ g2, w.heap.size + 1 + 1 = g2 := ⟨_, rfl⟩
  obtain ⟨g1, hg1⟩ : ∃ g1, w.heap.size + 1 = g1 := ⟨_, rfl⟩
  rw [hg2] at kk HG n02 n12 ⊢
  rw [hg1] at kk n12 ⊢
  obtain ⟨g0, hg0⟩ : ∃ g0, w.heap.size = g0 := ⟨_, rfl⟩
  rw [hg0] at kk HG n02 ⊢
  have HG0 := Lib.hid hg0
  clear hg2 hg1 hg0
  have hl0 := kk.b.lt
  have hl1 := kk.c.lt
  have hl2 := kk.d.lt
  have kd := kk.d
  have kb := kk.b
  have kc := kk.c
  have K1 := Lib.hid kk
  clear kk
  obtain ⟨z0, z1, z2, z3, z4, z5, z6, z7, z8, z9, z10, z11, z12⟩ := kd.c13
  obtain ⟨f0, f1, f2, f3, f4, f5, f6, f7, f8, f9, f10, f11, f12⟩ := kd.f13
  clear kd kb kc
  go_wp2_with fail
  have kf := Blk.set13 K1.out.d (.int .i64 0) (.int .u64 0) (.bool false) (.int .u64 0) (.int .u64 0) (.int .u64 0) (.int .u64 0) (.slice none 0 0) (.int .u64 0) (.int .u64 0) (.int .u64 0) (.slice none 0 0) (.slice none 0 0)
  clear z0 z1 z2 z3 z4 z5 z6 z7 z8 z9 z10 z11 z12 f0 f1 f2 f3 f4 f5 f6 f7 f8 f9 f10 f11 f12
  refine bodyPost_ret (results_cell3 rfl _ _ g2 31 #[.int .i64 0, .int .u64 0, .bool false, .int .u64 0, .int .u64 0, .int .u64 0, .int .u64 0, .slice none 0 0, .int .u64 0, .int .u64 0, .int .u64 0, .slice none 0 0, .slice none 0 0] (0, 0) _ rfl kf Try.underlying31 (by rfl) (by kernel_rfl)) rfl ?_
  refine ⟨rfl, ?_⟩
  have hb := K1.out.hB
  repeat (first | with_reducible exact hb | with_reducible refine Below.setCell ?_ (by first | exact HG.out | exact HG0.out ▸ HG.out) _)

set_option maxRecDepth 100000 in
set_option maxHeartbeats 4000000 in
theorem meet_boot2 (node th old : Int) (su : Bool) (g n r : Int) (S cs : Nat) (As : Option Addr) (a b f : Int) (T ct : Nat) (At : Option Addr) (K ck : Nat) (Ak : Option Addr) (kind frm tto mine yours fa fb inode iseq ioff bnode bseq boff dest prio born life total : Int) (data : ByteArray) (boot ce fe : Int) (w : World) (PC : ∀ w', Below w.heap.size w w' → Calls Try.prog 20 #[.agg #[.int .i64 node, .int .u64 th, .bool su, .int .u64 old, .int .u64 g, .int .u64 n, .int .u64 r, .slice As S cs, .int .u64 a, .int .u64 b, .int .u64 f, .slice At T ct, .slice Ak K ck]] w' (RetI .i64 0 w')) (h1 : ¬ boot < 1) (h2 : boot > 1099511627776) :
    Calls Try.prog 18 #[.agg #[.int .i64 node, .int .u64 th, .bool su, .int .u64 old, .int .u64 g, .int .u64 n, .int .u64 r, .slice As S cs, .int .u64 a, .int .u64 b, .int .u64 f, .slice At T ct, .slice Ak K ck], .int .u64 boot, .agg #[.int .i64 kind, .int .i64 frm, .int .i64 tto, .int .u64 mine, .int .u64 yours, .int .u64 fa, .int .u64 fb, .int .i64 inode, .int .u64 iseq, .int .i64 ioff, .int .i64 bnode, .int .u64 bseq, .int .i64 boff, .int .i64 dest, .int .i64 prio, .int .i64 born, .int .i64 life, .int .i64 total, .string data]] w (fun e w' => e = .returned (.tuple #[.agg #[.int .i64 0, .int .u64 0, .bool false, .int .u64 0, .int .u64 0, .int .u64 0, .int .u64 0, .slice none 0 0, .int .u64 0, .int .u64 0, .int .u64 0, .slice none 0 0, .slice none 0 0], .int .i64 0, .bool false, .int .i64 2]) ∧ Below w.heap.size w w') := by
  have PC' := Lib.hid PC
  clear PC
  go_enter Try.func18, Try.ntmps18
  go_wp2_with fail
  have k0 := (Blk.new w 31 #[.int .i64 node, .int .u64 th, .bool su, .int .u64 old, .int .u64 g, .int .u64 n, .int .u64 r, .slice As S cs, .int .u64 a, .int .u64 b, .int .u64 f, .slice At T ct, .slice Ak K ck]).alloc (.cells #[.int .i64 kind, .int .i64 frm, .int .i64 tto, .int .u64 mine, .int .u64 yours, .int .u64 fa, .int .u64 fb, .int .i64 inode, .int .u64 iseq, .int .i64 ioff, .int .i64 bnode, .int .u64 bseq, .int .i64 boff, .int .i64 dest, .int .i64 prio, .int .i64 born, .int .i64 life, .int .i64 total, .string data] 51)
  have k0 := k0.alloc (.cells #[.int .i64 0, .int .u64 0, .bool false, .int .u64 0, .int .u64 0, .int .u64 0, .int .u64 0, .slice none 0 0, .int .u64 0, .int .u64 0, .int .u64 0, .slice none 0 0, .slice none 0 0] 31)
  have k1 := (Blk.new1 w (.cells #[.int .i64 node, .int .u64 th, .bool su, .int .u64 old, .int .u64 g, .int .u64 n, .int .u64 r, .slice As S cs, .int .u64 a, .int .u64 b, .int .u64 f, .slice At T ct, .slice Ak K ck] 31) 51 #[.int .i64 kind, .int .i64 frm, .int .i64 tto, .int .u64 mine, .int .u64 yours, .int .u64 fa, .int .u64 fb, .int .i64 inode, .int .u64 iseq, .int .i64 ioff, .int .i64 bnode, .int .u64 bseq, .int .i64 boff, .int .i64 dest, .int .i64 prio, .int .i64 born, .int .i64 life, .int .i64 total, .string data]).alloc (.cells #[.int .i64 0, .int .u64 0, .bool false, .int .u64 0, .int .u64 0, .int .u64 0, .int .u64 0, .slice none 0 0, .int .u64 0, .int .u64 0, .int .u64 0, .slice none 0 0, .slice none 0 0] 31)
  have k2 := Blk.new2 w (.cells #[.int .i64 node, .int .u64 th, .bool su, .int .u64 old, .int .u64 g, .int .u64 n, .int .u64 r, .slice As S cs, .int .u64 a, .int .u64 b, .int .u64 f, .slice At T ct, .slice Ak K ck] 31) (.cells #[.int .i64 kind, .int .i64 frm, .int .i64 tto, .int .u64 mine, .int .u64 yours, .int .u64 fa, .int .u64 fb, .int .i64 inode, .int .u64 iseq, .int .i64 ioff, .int .i64 bnode, .int .u64 bseq, .int .i64 boff, .int .i64 dest, .int .i64 prio, .int .i64 born, .int .i64 life, .int .i64 total, .string data] 51) 31 #[.int .i64 0, .int .u64 0, .bool false, .int .u64 0, .int .u64 0, .int .u64 0, .int .u64 0, .slice none 0 0, .int .u64 0, .int .u64 0, .int .u64 0, .slice none 0 0, .slice none 0 0]
  have hB := bal (bal (bal (Below.refl w.heap.size w) (.cells #[.int .i64 node, .int .u64 th, .bool su, .int .u64 old, .int .u64 g, .int .u64 n, .int .u64 r, .slice As S cs, .int .u64 a, .int .u64 b, .int .u64 f, .slice At T ct, .slice Ak K ck] 31)) (.cells #[.int .i64 kind, .int .i64 frm, .int .i64 tto, .int .u64 mine, .int .u64 yours, .int .u64 fa, .int .u64 fb, .int .i64 inode, .int .u64 iseq, .int .i64 ioff, .int .i64 bnode, .int .u64 bseq, .int .i64 boff, .int .i64 dest, .int .i64 prio, .int .i64 born, .int .i64 life, .int .i64 total, .string data] 51)) (.cells #[.int .i64 0, .int .u64 0, .bool false, .int .u64 0, .int .u64 0, .int .u64 0, .int .u64 0, .slice none 0 0, .int .u64 0, .int .u64 0, .int .u64 0, .slice none 0 0, .slice none 0 0] 31)
  have k3 : BK3 w w.heap.size 31 #[.int .i64 node, .int .u64 th, .bool su, .int .u64 old, .int .u64 g, .int .u64 n, .int .u64 r, .slice As S cs, .int .u64 a, .int .u64 b, .int .u64 f, .slice At T ct, .slice Ak K ck] (w.heap.size + 1) 51 #[.int .i64 kind, .int .i64 frm, .int .i64 tto, .int .u64 mine, .int .u64 yours, .int .u64 fa, .int .u64 fb, .int .i64 inode, .int .u64 iseq, .int .i64 ioff, .int .i64 bnode, .int .u64 bseq, .int .i64 boff, .int .i64 dest, .int .i64 prio, .int .i64 born, .int .i64 life, .int .i64 total, .string data] (w.heap.size + 1 + 1) 31 #[.int .i64 0, .int .u64 0, .bool false, .int .u64 0, .int .u64 0, .int .u64 0, .int .u64 0, .slice none 0 0, .int .u64 0, .int .u64 0, .int .u64 0, .slice none 0 0, .slice none 0 0] _ := ⟨k0, k1, k2, hB⟩
  clear k0 k1 k2
  have HG := Lib.hid (show w.heap.size ≤ w.heap.size + 1 + 1 by omega)
  have n02 : ¬ w.heap.size = w.heap.size + 1 + 1 := by omega
  have n12 : ¬ w.heap.size + 1 = w.heap.size + 1 + 1 := by omega
  refine (PC'.out _ hB).mono ?_
  rintro e w1 ⟨rfl, hb1⟩
  have kk := k3.below hb1
  clear k3 hb1 hB PC'
  obtain ⟨g2, hg2⟩ : ∃ g2, w.heap.size + 1 + 1 = g2 := ⟨_, rfl⟩
  obtain ⟨g1, hg1⟩ : ∃ g1, w.heap.size + 1 = g1 := ⟨_, rfl⟩
  rw [hg2] at kk HG n02 n12 ⊢
  rw [hg1] at kk n12 ⊢
  obtain ⟨g0, hg0⟩ : ∃ g0, w.heap.size = g0 := ⟨_, rfl⟩
  rw [hg0] at kk HG n02 ⊢
  have HG0 := Lib.hid hg0
  clear hg2 hg1 hg0
  have hl0 := kk.b.lt
  have hl1 := kk.c.lt
  have hl2 := kk.d.lt
  have kd := kk.d
  have kb := kk.b
  have kc := kk.c
  have K1 := Lib.hid kk
  clear kk
  obtain ⟨z0, z1, z2, z3, z4, z5, z6, z7, z8, z9, z10, z11, z12⟩ := kd.c13
  obtain ⟨f0, f1, f2, f3, f4, f5, f6, f7, f8, f9, f10, f11, f12⟩ := kd.f13
  clear kd kb kc
  go_wp2_with fail
  have kf := Blk.set13 K1.out.d (.int .i64 0) (.int .u64 0) (.bool false) (.int .u64 0) (.int .u64 0) (.int .u64 0) (.int .u64 0) (.slice none 0 0) (.int .u64 0) (.int .u64 0) (.int .u64 0) (.slice none 0 0) (.slice none 0 0)
  clear z0 z1 z2 z3 z4 z5 z6 z7 z8 z9 z10 z11 z12 f0 f1 f2 f3 f4 f5 f6 f7 f8 f9 f10 f11 f12
  refine bodyPost_ret (results_cell3 rfl _ _ g2 31 #[.int .i64 0, .int .u64 0, .bool false, .int .u64 0, .int .u64 0, .int .u64 0, .int .u64 0, .slice none 0 0, .int .u64 0, .int .u64 0, .int .u64 0, .slice none 0 0, .slice none 0 0] (0, 0) _ rfl kf Try.underlying31 (by rfl) (by kernel_rfl)) rfl ?_
  refine ⟨rfl, ?_⟩
  have hb := K1.out.hB
  repeat (first | with_reducible exact hb | with_reducible refine Below.setCell ?_ (by first | exact HG.out | exact HG0.out ▸ HG.out) _)

set_option maxRecDepth 100000 in
set_option maxHeartbeats 4000000 in
theorem meet_frame (node th old : Int) (su : Bool) (g n r : Int) (S cs : Nat) (As : Option Addr) (a b f : Int) (T ct : Nat) (At : Option Addr) (K ck : Nat) (Ak : Option Addr) (kind frm tto mine yours fa fb inode iseq ioff bnode bseq boff dest prio born life total : Int) (data : ByteArray) (boot ce fe : Int) (w : World) (PC : ∀ w', Below w.heap.size w w' → Calls Try.prog 20 #[.agg #[.int .i64 node, .int .u64 th, .bool su, .int .u64 old, .int .u64 g, .int .u64 n, .int .u64 r, .slice As S cs, .int .u64 a, .int .u64 b, .int .u64 f, .slice At T ct, .slice Ak K ck]] w' (RetI .i64 0 w')) (FC : ∀ w, Calls Try.prog 53 #[.agg #[.int .i64 kind, .int .i64 frm, .int .i64 tto, .int .u64 mine, .int .u64 yours, .int .u64 fa, .int .u64 fb, .int .i64 inode, .int .u64 iseq, .int .i64 ioff, .int .i64 bnode, .int .u64 bseq, .int .i64 boff, .int .i64 dest, .int .i64 prio, .int .i64 born, .int .i64 life, .int .i64 total, .string data]] w (RetI .i64 fe w)) (h1 : ¬ boot < 1) (h2 : ¬ boot > 1099511627776) (hf : fe ≠ 0) :
    Calls Try.prog 18 #[.agg #[.int .i64 node, .int .u64 th, .bool su, .int .u64 old, .int .u64 g, .int .u64 n, .int .u64 r, .slice As S cs, .int .u64 a, .int .u64 b, .int .u64 f, .slice At T ct, .slice Ak K ck], .int .u64 boot, .agg #[.int .i64 kind, .int .i64 frm, .int .i64 tto, .int .u64 mine, .int .u64 yours, .int .u64 fa, .int .u64 fb, .int .i64 inode, .int .u64 iseq, .int .i64 ioff, .int .i64 bnode, .int .u64 bseq, .int .i64 boff, .int .i64 dest, .int .i64 prio, .int .i64 born, .int .i64 life, .int .i64 total, .string data]] w (fun e w' => e = .returned (.tuple #[.agg #[.int .i64 0, .int .u64 0, .bool false, .int .u64 0, .int .u64 0, .int .u64 0, .int .u64 0, .slice none 0 0, .int .u64 0, .int .u64 0, .int .u64 0, .slice none 0 0, .slice none 0 0], .int .i64 0, .bool false, .int .i64 fe]) ∧ Below w.heap.size w w') := by
  have PC' := Lib.hid PC
  have FC' := Lib.hid FC
  have c1 : (fe != 0) = true := by simpa using hf
  have c2 : (fe == 0) = false := by simpa using hf
  clear PC FC hf
  go_enter Try.func18, Try.ntmps18
  go_wp2_with fail
  have k0 := (Blk.new w 31 #[.int .i64 node, .int .u64 th, .bool su, .int .u64 old, .int .u64 g, .int .u64 n, .int .u64 r, .slice As S cs, .int .u64 a, .int .u64 b, .int .u64 f, .slice At T ct, .slice Ak K ck]).alloc (.cells #[.int .i64 kind, .int .i64 frm, .int .i64 tto, .int .u64 mine, .int .u64 yours, .int .u64 fa, .int .u64 fb, .int .i64 inode, .int .u64 iseq, .int .i64 ioff, .int .i64 bnode, .int .u64 bseq, .int .i64 boff, .int .i64 dest, .int .i64 prio, .int .i64 born, .int .i64 life, .int .i64 total, .string data] 51)
  have k0 := k0.alloc (.cells #[.int .i64 0, .int .u64 0, .bool false, .int .u64 0, .int .u64 0, .int .u64 0, .int .u64 0, .slice none 0 0, .int .u64 0, .int .u64 0, .int .u64 0, .slice none 0 0, .slice none 0 0] 31)
  have k1 := (Blk.new1 w (.cells #[.int .i64 node, .int .u64 th, .bool su, .int .u64 old, .int .u64 g, .int .u64 n, .int .u64 r, .slice As S cs, .int .u64 a, .int .u64 b, .int .u64 f, .slice At T ct, .slice Ak K ck] 31) 51 #[.int .i64 kind, .int .i64 frm, .int .i64 tto, .int .u64 mine, .int .u64 yours, .int .u64 fa, .int .u64 fb, .int .i64 inode, .int .u64 iseq, .int .i64 ioff, .int .i64 bnode, .int .u64 bseq, .int .i64 boff, .int .i64 dest, .int .i64 prio, .int .i64 born, .int .i64 life, .int .i64 total, .string data]).alloc (.cells #[.int .i64 0, .int .u64 0, .bool false, .int .u64 0, .int .u64 0, .int .u64 0, .int .u64 0, .slice none 0 0, .int .u64 0, .int .u64 0, .int .u64 0, .slice none 0 0, .slice none 0 0] 31)
  have k2 := Blk.new2 w (.cells #[.int .i64 node, .int .u64 th, .bool su, .int .u64 old, .int .u64 g, .int .u64 n, .int .u64 r, .slice As S cs, .int .u64 a, .int .u64 b, .int .u64 f, .slice At T ct, .slice Ak K ck] 31) (.cells #[.int .i64 kind, .int .i64 frm, .int .i64 tto, .int .u64 mine, .int .u64 yours, .int .u64 fa, .int .u64 fb, .int .i64 inode, .int .u64 iseq, .int .i64 ioff, .int .i64 bnode, .int .u64 bseq, .int .i64 boff, .int .i64 dest, .int .i64 prio, .int .i64 born, .int .i64 life, .int .i64 total, .string data] 51) 31 #[.int .i64 0, .int .u64 0, .bool false, .int .u64 0, .int .u64 0, .int .u64 0, .int .u64 0, .slice none 0 0, .int .u64 0, .int .u64 0, .int .u64 0, .slice none 0 0, .slice none 0 0]
  have hB := bal (bal (bal (Below.refl w.heap.size w) (.cells #[.int .i64 node, .int .u64 th, .bool su, .int .u64 old, .int .u64 g, .int .u64 n, .int .u64 r, .slice As S cs, .int .u64 a, .int .u64 b, .int .u64 f, .slice At T ct, .slice Ak K ck] 31)) (.cells #[.int .i64 kind, .int .i64 frm, .int .i64 tto, .int .u64 mine, .int .u64 yours, .int .u64 fa, .int .u64 fb, .int .i64 inode, .int .u64 iseq, .int .i64 ioff, .int .i64 bnode, .int .u64 bseq, .int .i64 boff, .int .i64 dest, .int .i64 prio, .int .i64 born, .int .i64 life, .int .i64 total, .string data] 51)) (.cells #[.int .i64 0, .int .u64 0, .bool false, .int .u64 0, .int .u64 0, .int .u64 0, .int .u64 0, .slice none 0 0, .int .u64 0, .int .u64 0, .int .u64 0, .slice none 0 0, .slice none 0 0] 31)
  have k3 : BK3 w w.heap.size 31 #[.int .i64 node, .int .u64 th, .bool su, .int .u64 old, .int .u64 g, .int .u64 n, .int .u64 r, .slice As S cs, .int .u64 a, .int .u64 b, .int .u64 f, .slice At T ct, .slice Ak K ck] (w.heap.size + 1) 51 #[.int .i64 kind, .int .i64 frm, .int .i64 tto, .int .u64 mine, .int .u64 yours, .int .u64 fa, .int .u64 fb, .int .i64 inode, .int .u64 iseq, .int .i64 ioff, .int .i64 bnode, .int .u64 bseq, .int .i64 boff, .int .i64 dest, .int .i64 prio, .int .i64 born, .int .i64 life, .int .i64 total, .string data] (w.heap.size + 1 + 1) 31 #[.int .i64 0, .int .u64 0, .bool false, .int .u64 0, .int .u64 0, .int .u64 0, .int .u64 0, .slice none 0 0, .int .u64 0, .int .u64 0, .int .u64 0, .slice none 0 0, .slice none 0 0] _ := ⟨k0, k1, k2, hB⟩
  clear k0 k1 k2
  have HG := Lib.hid (show w.heap.size ≤ w.heap.size + 1 + 1 by omega)
  have n02 : ¬ w.heap.size = w.heap.size + 1 + 1 := by omega
  have n12 : ¬ w.heap.size + 1 = w.heap.size + 1 + 1 := by omega
  refine (PC'.out _ hB).mono ?_
  rintro e w1 ⟨rfl, hb1⟩
  have kk := k3.below hb1
  clear k3 hb1 hB PC'
  obtain ⟨g2, hg2⟩ : ∃ g2, w.heap.size + 1 + 1 = g2 := ⟨_, rfl⟩
  obtain ⟨g1, hg1⟩ : ∃ g1, w.heap.size + 1 = g1 := ⟨_, rfl⟩
  rw [hg2] at kk HG n02 n12 ⊢
  rw [hg1] at kk n12 ⊢
  obtain ⟨g0, hg0⟩ : ∃ g0, w.heap.size = g0 := ⟨_, rfl⟩
  rw [hg0] at kk HG n02 ⊢
  have HG0 := Lib.hid hg0
  clear hg2 hg1 hg0
  have hl0 := kk.b.lt
  have hl1 := kk.c.lt
  have hl2 := kk.d.lt
  have kd := kk.d
  have kb := kk.b
  have kc := kk.c
  have K1 := Lib.hid kk
  clear kk
  clear kd kb
  go_wp2_with (refine wpList_load_row (by rfl) 51 _ (by rfl) g1 (by rfl) 51 #[.int .i64 kind, .int .i64 frm, .int .i64 tto, .int .u64 mine, .int .u64 yours, .int .u64 fa, .int .u64 fb, .int .i64 inode, .int .u64 iseq, .int .i64 ioff, .int .i64 bnode, .int .u64 bseq, .int .i64 boff, .int .i64 dest, .int .i64 prio, .int .i64 born, .int .i64 life, .int .i64 total, .string data] (0, 0) _ kc Try.underlying51 (by rfl) (by kernel_rfl) ?_)
  refine (FC'.out _).mono ?_
  rintro e w2 ⟨rfl, hb2⟩
  have kk := K1.out.below hb2
  clear K1 hb2 kc FC'
  have kd := kk.d
  have kb := kk.b
  have kc := kk.c
  have hl0 := kk.b.lt
  have hl1 := kk.c.lt
  have hl2 := kk.d.lt
  have K1 := Lib.hid kk
  clear kk
  obtain ⟨z0, z1, z2, z3, z4, z5, z6, z7, z8, z9, z10, z11, z12⟩ := kd.c13
  obtain ⟨f0, f1, f2, f3, f4, f5, f6, f7, f8, f9, f10, f11, f12⟩ := kd.f13
  clear kd kb kc
  go_wp2_with fail
  have kf := Blk.set13 K1.out.d (.int .i64 0) (.int .u64 0) (.bool false) (.int .u64 0) (.int .u64 0) (.int .u64 0) (.int .u64 0) (.slice none 0 0) (.int .u64 0) (.int .u64 0) (.int .u64 0) (.slice none 0 0) (.slice none 0 0)
  clear z0 z1 z2 z3 z4 z5 z6 z7 z8 z9 z10 z11 z12 f0 f1 f2 f3 f4 f5 f6 f7 f8 f9 f10 f11 f12
  refine bodyPost_ret (results_cell3 rfl _ _ g2 31 #[.int .i64 0, .int .u64 0, .bool false, .int .u64 0, .int .u64 0, .int .u64 0, .int .u64 0, .slice none 0 0, .int .u64 0, .int .u64 0, .int .u64 0, .slice none 0 0, .slice none 0 0] (0, 0) _ rfl kf Try.underlying31 (by rfl) (by kernel_rfl)) rfl ?_
  refine ⟨rfl, ?_⟩
  have hb := K1.out.hB
  repeat (first | with_reducible exact hb | with_reducible refine Below.setCell ?_ (by first | exact HG.out | exact HG0.out ▸ HG.out) _)

set_option maxRecDepth 100000 in
set_option maxHeartbeats 4000000 in
theorem meet_kind (node th old : Int) (su : Bool) (g n r : Int) (S cs : Nat) (As : Option Addr) (a b f : Int) (T ct : Nat) (At : Option Addr) (K ck : Nat) (Ak : Option Addr) (kind frm tto mine yours fa fb inode iseq ioff bnode bseq boff dest prio born life total : Int) (data : ByteArray) (boot ce fe : Int) (w : World) (PC : ∀ w', Below w.heap.size w w' → Calls Try.prog 20 #[.agg #[.int .i64 node, .int .u64 th, .bool su, .int .u64 old, .int .u64 g, .int .u64 n, .int .u64 r, .slice As S cs, .int .u64 a, .int .u64 b, .int .u64 f, .slice At T ct, .slice Ak K ck]] w' (RetI .i64 0 w')) (FC : ∀ w, Calls Try.prog 53 #[.agg #[.int .i64 kind, .int .i64 frm, .int .i64 tto, .int .u64 mine, .int .u64 yours, .int .u64 fa, .int .u64 fb, .int .i64 inode, .int .u64 iseq, .int .i64 ioff, .int .i64 bnode, .int .u64 bseq, .int .i64 boff, .int .i64 dest, .int .i64 prio, .int .i64 born, .int .i64 life, .int .i64 total, .string data]] w (RetI .i64 0 w)) (h1 : ¬ boot < 1) (h2 : ¬ boot > 1099511627776) (hk : frm ≠ node) :
    Calls Try.prog 18 #[.agg #[.int .i64 node, .int .u64 th, .bool su, .int .u64 old, .int .u64 g, .int .u64 n, .int .u64 r, .slice As S cs, .int .u64 a, .int .u64 b, .int .u64 f, .slice At T ct, .slice Ak K ck], .int .u64 boot, .agg #[.int .i64 kind, .int .i64 frm, .int .i64 tto, .int .u64 mine, .int .u64 yours, .int .u64 fa, .int .u64 fb, .int .i64 inode, .int .u64 iseq, .int .i64 ioff, .int .i64 bnode, .int .u64 bseq, .int .i64 boff, .int .i64 dest, .int .i64 prio, .int .i64 born, .int .i64 life, .int .i64 total, .string data]] w (fun e w' => e = .returned (.tuple #[.agg #[.int .i64 0, .int .u64 0, .bool false, .int .u64 0, .int .u64 0, .int .u64 0, .int .u64 0, .slice none 0 0, .int .u64 0, .int .u64 0, .int .u64 0, .slice none 0 0, .slice none 0 0], .int .i64 0, .bool false, .int .i64 7]) ∧ Below w.heap.size w w') := by
  have PC' := Lib.hid PC
  have FC' := Lib.hid FC
  have c1 : (frm != node) = true := by simpa using hk
  clear PC FC hk
  go_enter Try.func18, Try.ntmps18
  go_wp2_with fail
  have k0 := (Blk.new w 31 #[.int .i64 node, .int .u64 th, .bool su, .int .u64 old, .int .u64 g, .int .u64 n, .int .u64 r, .slice As S cs, .int .u64 a, .int .u64 b, .int .u64 f, .slice At T ct, .slice Ak K ck]).alloc (.cells #[.int .i64 kind, .int .i64 frm, .int .i64 tto, .int .u64 mine, .int .u64 yours, .int .u64 fa, .int .u64 fb, .int .i64 inode, .int .u64 iseq, .int .i64 ioff, .int .i64 bnode, .int .u64 bseq, .int .i64 boff, .int .i64 dest, .int .i64 prio, .int .i64 born, .int .i64 life, .int .i64 total, .string data] 51)
  have k0 := k0.alloc (.cells #[.int .i64 0, .int .u64 0, .bool false, .int .u64 0, .int .u64 0, .int .u64 0, .int .u64 0, .slice none 0 0, .int .u64 0, .int .u64 0, .int .u64 0, .slice none 0 0, .slice none 0 0] 31)
  have k1 := (Blk.new1 w (.cells #[.int .i64 node, .int .u64 th, .bool su, .int .u64 old, .int .u64 g, .int .u64 n, .int .u64 r, .slice As S cs, .int .u64 a, .int .u64 b, .int .u64 f, .slice At T ct, .slice Ak K ck] 31) 51 #[.int .i64 kind, .int .i64 frm, .int .i64 tto, .int .u64 mine, .int .u64 yours, .int .u64 fa, .int .u64 fb, .int .i64 inode, .int .u64 iseq, .int .i64 ioff, .int .i64 bnode, .int .u64 bseq, .int .i64 boff, .int .i64 dest, .int .i64 prio, .int .i64 born, .int .i64 life, .int .i64 total, .string data]).alloc (.cells #[.int .i64 0, .int .u64 0, .bool false, .int .u64 0, .int .u64 0, .int .u64 0, .int .u64 0, .slice none 0 0, .int .u64 0, .int .u64 0, .int .u64 0, .slice none 0 0, .slice none 0 0] 31)
  have k2 := Blk.new2 w (.cells #[.int .i64 node, .int .u64 th, .bool su, .int .u64 old, .int .u64 g, .int .u64 n, .int .u64 r, .slice As S cs, .int .u64 a, .int .u64 b, .int .u64 f, .slice At T ct, .slice Ak K ck] 31) (.cells #[.int .i64 kind, .int .i64 frm, .int .i64 tto, .int .u64 mine, .int .u64 yours, .int .u64 fa, .int .u64 fb, .int .i64 inode, .int .u64 iseq, .int .i64 ioff, .int .i64 bnode, .int .u64 bseq, .int .i64 boff, .int .i64 dest, .int .i64 prio, .int .i64 born, .int .i64 life, .int .i64 total, .string data] 51) 31 #[.int .i64 0, .int .u64 0, .bool false, .int .u64 0, .int .u64 0, .int .u64 0, .int .u64 0, .slice none 0 0, .int .u64 0, .int .u64 0, .int .u64 0, .slice none 0 0, .slice none 0 0]
  have hB := bal (bal (bal (Below.refl w.heap.size w) (.cells #[.int .i64 node, .int .u64 th, .bool su, .int .u64 old, .int .u64 g, .int .u64 n, .int .u64 r, .slice As S cs, .int .u64 a, .int .u64 b, .int .u64 f, .slice At T ct, .slice Ak K ck] 31)) (.cells #[.int .i64 kind, .int .i64 frm, .int .i64 tto, .int .u64 mine, .int .u64 yours, .int .u64 fa, .int .u64 fb, .int .i64 inode, .int .u64 iseq, .int .i64 ioff, .int .i64 bnode, .int .u64 bseq, .int .i64 boff, .int .i64 dest, .int .i64 prio, .int .i64 born, .int .i64 life, .int .i64 total, .string data] 51)) (.cells #[.int .i64 0, .int .u64 0, .bool false, .int .u64 0, .int .u64 0, .int .u64 0, .int .u64 0, .slice none 0 0, .int .u64 0, .int .u64 0, .int .u64 0, .slice none 0 0, .slice none 0 0] 31)
  have k3 : BK3 w w.heap.size 31 #[.int .i64 node, .int .u64 th, .bool su, .int .u64 old, .int .u64 g, .int .u64 n, .int .u64 r, .slice As S cs, .int .u64 a, .int .u64 b, .int .u64 f, .slice At T ct, .slice Ak K ck] (w.heap.size + 1) 51 #[.int .i64 kind, .int .i64 frm, .int .i64 tto, .int .u64 mine, .int .u64 yours, .int .u64 fa, .int .u64 fb, .int .i64 inode, .int .u64 iseq, .int .i64 ioff, .int .i64 bnode, .int .u64 bseq, .int .i64 boff, .int .i64 dest, .int .i64 prio, .int .i64 born, .int .i64 life, .int .i64 total, .string data] (w.heap.size + 1 + 1) 31 #[.int .i64 0, .int .u64 0, .bool false, .int .u64 0, .int .u64 0, .int .u64 0, .int .u64 0, .slice none 0 0, .int .u64 0, .int .u64 0, .int .u64 0, .slice none 0 0, .slice none 0 0] _ := ⟨k0, k1, k2, hB⟩
  clear k0 k1 k2
  have HG := Lib.hid (show w.heap.size ≤ w.heap.size + 1 + 1 by omega)
  have n02 : ¬ w.heap.size = w.heap.size + 1 + 1 := by omega
  have n12 : ¬ w.heap.size + 1 = w.heap.size + 1 + 1 := by omega
  refine (PC'.out _ hB).mono ?_
  rintro e w1 ⟨rfl, hb1⟩
  have kk := k3.below hb1
  clear k3 hb1 hB PC'
  obtain ⟨g2, hg2⟩ : ∃ g2, w.heap.size + 1 + 1 = g2 := ⟨_, rfl⟩
  obtain ⟨g1, hg1⟩ : ∃ g1, w.heap.size + 1 = g1 := ⟨_, rfl⟩
  rw [hg2] at kk HG n02 n12 ⊢
  rw [hg1] at kk n12 ⊢
  obtain ⟨g0, hg0⟩ : ∃ g0, w.heap.size = g0 := ⟨_, rfl⟩
  rw [hg0] at kk HG n02 ⊢
  have HG0 := Lib.hid hg0
  clear hg2 hg1 hg0
  have hl0 := kk.b.lt
  have hl1 := kk.c.lt
  have hl2 := kk.d.lt
  have kd := kk.d
  have kb := kk.b
  have kc := kk.c
  have K1 := Lib.hid kk
  clear kk
  clear kd kb
  go_wp2_with (refine wpList_load_row (by rfl) 51 _ (by rfl) g1 (by rfl) 51 #[.int .i64 kind, .int .i64 frm, .int .i64 tto, .int .u64 mine, .int .u64 yours, .int .u64 fa, .int .u64 fb, .int .i64 inode, .int .u64 iseq, .int .i64 ioff, .int .i64 bnode, .int .u64 bseq, .int .i64 boff, .int .i64 dest, .int .i64 prio, .int .i64 born, .int .i64 life, .int .i64 total, .string data] (0, 0) _ kc Try.underlying51 (by rfl) (by kernel_rfl) ?_)
  refine (FC'.out _).mono ?_
  rintro e w2 ⟨rfl, hb2⟩
  have kk := K1.out.below hb2
  clear K1 hb2 kc FC'
  have kd := kk.d
  have kb := kk.b
  have kc := kk.c
  have hl0 := kk.b.lt
  have hl1 := kk.c.lt
  have hl2 := kk.d.lt
  have K1 := Lib.hid kk
  clear kk
  obtain ⟨x0, _, _, _, _, _, _, _, _, _, _, _, _⟩ := kb.c13
  obtain ⟨_, y1, _, _, _, _, _, _, _, _, _, _, _, _, _, _, _, _, _⟩ := kc.c19
  obtain ⟨z0, z1, z2, z3, z4, z5, z6, z7, z8, z9, z10, z11, z12⟩ := kd.c13
  obtain ⟨f0, f1, f2, f3, f4, f5, f6, f7, f8, f9, f10, f11, f12⟩ := kd.f13
  clear kd kb kc
  go_wp2_with fail
  have kf := Blk.set13 K1.out.d (.int .i64 0) (.int .u64 0) (.bool false) (.int .u64 0) (.int .u64 0) (.int .u64 0) (.int .u64 0) (.slice none 0 0) (.int .u64 0) (.int .u64 0) (.int .u64 0) (.slice none 0 0) (.slice none 0 0)
  clear z0 z1 z2 z3 z4 z5 z6 z7 z8 z9 z10 z11 z12 f0 f1 f2 f3 f4 f5 f6 f7 f8 f9 f10 f11 f12
  refine bodyPost_ret (results_cell3 rfl _ _ g2 31 #[.int .i64 0, .int .u64 0, .bool false, .int .u64 0, .int .u64 0, .int .u64 0, .int .u64 0, .slice none 0 0, .int .u64 0, .int .u64 0, .int .u64 0, .slice none 0 0, .slice none 0 0] (0, 0) _ rfl kf Try.underlying31 (by rfl) (by kernel_rfl)) rfl ?_
  refine ⟨rfl, ?_⟩
  have hb := K1.out.hB
  repeat (first | with_reducible exact hb | with_reducible refine Below.setCell ?_ (by first | exact HG.out | exact HG0.out ▸ HG.out) _)

end Go.Proofs.Ytfgkkflbpfocjaa

