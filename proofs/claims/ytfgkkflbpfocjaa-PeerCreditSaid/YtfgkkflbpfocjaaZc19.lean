/- Contracts: bundles. -/
import Derived.Test.YtfgkkflbpfocjaaZc18
namespace Go.Proofs.Ytfgkkflbpfocjaa.Bu
open Go.RowKit
set_option linter.unusedVariables false
set_option linter.unusedSimpArgs false

section
variable {w : World} {g : Nat} {t : TypeId} {a b c d e f h i j : Value}
theorem _root_.Go.Proofs.Ytfgkkflbpfocjaa.Blk.c9 (k : Blk w g t #[a, b, c, d, e, f, h, i, j]) : w.cell? ⟨g, 0, none⟩ = some a ∧ w.cell? ⟨g, 1, none⟩ = some b ∧ w.cell? ⟨g, 2, none⟩ = some c ∧ w.cell? ⟨g, 3, none⟩ = some d ∧ w.cell? ⟨g, 4, none⟩ = some e ∧ w.cell? ⟨g, 5, none⟩ = some f ∧ w.cell? ⟨g, 6, none⟩ = some h ∧ w.cell? ⟨g, 7, none⟩ = some i ∧ w.cell? ⟨g, 8, none⟩ = some j :=
  ⟨k.cell 0, k.cell 1, k.cell 2, k.cell 3, k.cell 4, k.cell 5, k.cell 6, k.cell 7, k.cell 8⟩
theorem _root_.Go.Proofs.Ytfgkkflbpfocjaa.Blk.f9 (k : Blk w g t #[a, b, c, d, e, f, h, i, j]) : w.frozen? ⟨g, 0, none⟩ = false ∧ w.frozen? ⟨g, 1, none⟩ = false ∧ w.frozen? ⟨g, 2, none⟩ = false ∧ w.frozen? ⟨g, 3, none⟩ = false ∧ w.frozen? ⟨g, 4, none⟩ = false ∧ w.frozen? ⟨g, 5, none⟩ = false ∧ w.frozen? ⟨g, 6, none⟩ = false ∧ w.frozen? ⟨g, 7, none⟩ = false ∧ w.frozen? ⟨g, 8, none⟩ = false :=
  ⟨k.frozen 0, k.frozen 1, k.frozen 2, k.frozen 3, k.frozen 4, k.frozen 5, k.frozen 6, k.frozen 7, k.frozen 8⟩
end

set_option maxHeartbeats 2000000 in
theorem rCheckID_any (node seq io : Int) (w : World) :
    Calls Try.prog 82 #[.agg #[.int .i64 node, .int .u64 seq, .int .i64 io]] w (RetI (idE node seq io) w) := by
  by_cases a : 1 ≤ node
  · skip
    by_cases b : node ≤ 16
    · skip
      by_cases c : seq ≤ 1099511627776
      · skip
        by_cases d : 0 ≤ io
        · skip
          by_cases f : io ≤ 19999
          · skip
            have f' : ¬ 20000 ≤ io := by omega
            have R : Hid (idE node seq io = 0) := Lib.hid (if_pos ⟨a, b, d, f, c⟩)
            go_enter Try.func82, Try.ntmps82
            go_wp2_with fail
            go_ret
            exact ⟨ret_int R.out.symm, (by repeat (first | with_reducible exact Below.refl _ _ | with_reducible refine Below.drew ?_ | with_reducible refine below_drewN ?_ _ | with_reducible refine bal ?_ _ | with_reducible refine bset ?_ (by first | (simp; done) | (simp; omega)) _ | with_reducible refine bnext ?_ (by assumption) | with_reducible assumption))⟩
          · have nf : 20000 ≤ io := by omega
            have R : Hid (idE node seq io = 2) := Lib.hid (if_neg (fun e => f e.2.2.2.1))
            go_enter Try.func82, Try.ntmps82
            go_wp2_with fail
            go_ret
            exact ⟨ret_int R.out.symm, (by repeat (first | with_reducible exact Below.refl _ _ | with_reducible refine Below.drew ?_ | with_reducible refine below_drewN ?_ _ | with_reducible refine bal ?_ _ | with_reducible refine bset ?_ (by first | (simp; done) | (simp; omega)) _ | with_reducible refine bnext ?_ (by assumption) | with_reducible assumption))⟩
        · have nd : io < 0 := by omega
          have R : Hid (idE node seq io = 2) := Lib.hid (if_neg (fun e => d e.2.2.1))
          go_enter Try.func82, Try.ntmps82
          go_wp2_with fail
          go_ret
          exact ⟨ret_int R.out.symm, (by repeat (first | with_reducible exact Below.refl _ _ | with_reducible refine Below.drew ?_ | with_reducible refine below_drewN ?_ _ | with_reducible refine bal ?_ _ | with_reducible refine bset ?_ (by first | (simp; done) | (simp; omega)) _ | with_reducible refine bnext ?_ (by assumption) | with_reducible assumption))⟩
      · have nc : 1099511627776 < seq := by omega
        have R : Hid (idE node seq io = 2) := Lib.hid (if_neg (fun e => c e.2.2.2.2))
        go_enter Try.func82, Try.ntmps82
        go_wp2_with fail
        go_ret
        exact ⟨ret_int R.out.symm, (by repeat (first | with_reducible exact Below.refl _ _ | with_reducible refine Below.drew ?_ | with_reducible refine below_drewN ?_ _ | with_reducible refine bal ?_ _ | with_reducible refine bset ?_ (by first | (simp; done) | (simp; omega)) _ | with_reducible refine bnext ?_ (by assumption) | with_reducible assumption))⟩
    · have nb : 16 < node := by omega
      have R : Hid (idE node seq io = 2) := Lib.hid (if_neg (fun e => b e.2.1))
      go_enter Try.func82, Try.ntmps82
      go_wp2_with fail
      go_ret
      exact ⟨ret_int R.out.symm, (by repeat (first | with_reducible exact Below.refl _ _ | with_reducible refine Below.drew ?_ | with_reducible refine below_drewN ?_ _ | with_reducible refine bal ?_ _ | with_reducible refine bset ?_ (by first | (simp; done) | (simp; omega)) _ | with_reducible refine bnext ?_ (by assumption) | with_reducible assumption))⟩
  · have na : node < 1 := by omega
    have R : Hid (idE node seq io = 2) := Lib.hid (if_neg (fun e => a e.1))
    go_enter Try.func82, Try.ntmps82
    go_wp2_with fail
    go_ret
    exact ⟨ret_int R.out.symm, (by repeat (first | with_reducible exact Below.refl _ _ | with_reducible refine Below.drew ?_ | with_reducible refine below_drewN ?_ _ | with_reducible refine bal ?_ _ | with_reducible refine bset ?_ (by first | (simp; done) | (simp; omega)) _ | with_reducible refine bnext ?_ (by assumption) | with_reducible assumption))⟩

set_option maxRecDepth 100000 in
set_option maxHeartbeats 4000000 in
theorem Check_any (x : Bn) (w : World) : Calls Try.prog 90 #[x.val] w (RetI (bE x) w) := by
  rw [Bn.val_eq]
  have hsz : x.data.size ≤ x.data.size := Nat.le_refl _
  have hB0 : ∀ {w2 : World}, Below w.heap.size w w2 → Below w.heap.size w w2 := fun h => h
  by_cases hid : IdOk x.node x.seq x.off
  · have H1 := Lib.hid hid
    have ho := hid.2.2
    have I := Lib.hid (idE_ok hid)
    clear hid
    by_cases hf : Fok x
    · have HF := Lib.hid hf
      have D : Hid ((!([⟨x.dest, 1, 16⟩, ⟨x.prio, 0, 2⟩, ⟨x.born, 0, 1099511627776⟩, ⟨x.life, 1, 1048576⟩, ⟨x.total, 1, 20000⟩] : List Lm).any Lm.bad) = true) := Lib.hid (by unfold Fok at hf; simp [Lm.bad]; omega)
      have ht := hf.2.2.2.2
      clear hf
      by_cases hs : x.data.size = 0
      · have R : Hid (bE x = 11) := Lib.hid (bE_s H1.out HF.out hs)
        have hs1 : ((x.data.size : Int) == 0) = true := by rw [hs]; rfl
        clear hs
        go_enter Try.func90, Try.ntmps90
        go_wp2_with fail
        refine (CheckID_any x.node x.seq x.off _).mono ?_
        rintro e w1 ⟨rfl, hb1⟩
        rw [I.out]
        have k1 := (Blk.new w 49 #[.int .i64 x.node, .int .u64 x.seq, .int .i64 x.off, .int .i64 x.dest, .int .i64 x.prio, .int .i64 x.born, .int .i64 x.life, .int .i64 x.total, .string x.data]).below hb1
        obtain ⟨x0, x1, x2, x3, x4, x5, x6, x7, x8⟩ := k1.c9
        have hB1 := bnext (bal (Below.refl w.heap.size w) (.cells #[.int .i64 x.node, .int .u64 x.seq, .int .i64 x.off, .int .i64 x.dest, .int .i64 x.prio, .int .i64 x.born, .int .i64 x.life, .int .i64 x.total, .string x.data] 49)) hb1
        have hl1 := k1.lt
        have K1 := Lib.hid k1
        clear hb1 k1
        go_wp2_with fail
        refine (within_any [⟨x.dest, 1, 16⟩, ⟨x.prio, 0, 2⟩, ⟨x.born, 0, 1099511627776⟩, ⟨x.life, 1, 1048576⟩, ⟨x.total, 1, 20000⟩] _ _ (lm_lit (t := 155) (Blk.new _ _ _) 5 rfl (by decide))).mono ?_
        rintro e w2 ⟨rfl, hb2⟩
        rw [D.out]
        have hB2 := bnext (bal hB1 (.cells #[.int .i64 x.dest, .int .i64 1, .int .i64 16, .int .i64 x.prio, .int .i64 0, .int .i64 2, .int .i64 x.born, .int .i64 0, .int .i64 1099511627776, .int .i64 x.life, .int .i64 1, .int .i64 1048576, .int .i64 x.total, .int .i64 1, .int .i64 20000] 155)) hb2
        have k2 := (K1.out.alloc (.cells #[.int .i64 x.dest, .int .i64 1, .int .i64 16, .int .i64 x.prio, .int .i64 0, .int .i64 2, .int .i64 x.born, .int .i64 0, .int .i64 1099511627776, .int .i64 x.life, .int .i64 1, .int .i64 1048576, .int .i64 x.total, .int .i64 1, .int .i64 20000] 155)).below hb2
        clear x0 x1 x2 x3 x4 x5 x6 x7 x8 hb2
        obtain ⟨x0, x1, x2, x3, x4, x5, x6, x7, x8⟩ := k2.c9
        clear k2
        go_wp2_with fail
        go_ret
        exact ⟨ret_int R.out.symm, hB2⟩
      · have hs1 : ((x.data.size : Int) == 0) = false := beq_eq_false_iff_ne.2 (by omega)
        by_cases hl : 1000 < x.data.size
        · have R : Hid (bE x = 4) := Lib.hid (bE_l H1.out HF.out hs hl)
          have hl1 : (x.data.size : Int) > 1000 := by omega
          go_enter Try.func90, Try.ntmps90
          go_wp2_with fail
          refine (CheckID_any x.node x.seq x.off _).mono ?_
          rintro e w1 ⟨rfl, hb1⟩
          rw [I.out]
          have k1 := (Blk.new w 49 #[.int .i64 x.node, .int .u64 x.seq, .int .i64 x.off, .int .i64 x.dest, .int .i64 x.prio, .int .i64 x.born, .int .i64 x.life, .int .i64 x.total, .string x.data]).below hb1
          obtain ⟨x0, x1, x2, x3, x4, x5, x6, x7, x8⟩ := k1.c9
          have hB1 := bnext (bal (Below.refl w.heap.size w) (.cells #[.int .i64 x.node, .int .u64 x.seq, .int .i64 x.off, .int .i64 x.dest, .int .i64 x.prio, .int .i64 x.born, .int .i64 x.life, .int .i64 x.total, .string x.data] 49)) hb1
          have hl1 := k1.lt
          have K1 := Lib.hid k1
          clear hb1 k1
          go_wp2_with fail
          refine (within_any [⟨x.dest, 1, 16⟩, ⟨x.prio, 0, 2⟩, ⟨x.born, 0, 1099511627776⟩, ⟨x.life, 1, 1048576⟩, ⟨x.total, 1, 20000⟩] _ _ (lm_lit (t := 155) (Blk.new _ _ _) 5 rfl (by decide))).mono ?_
          rintro e w2 ⟨rfl, hb2⟩
          rw [D.out]
          have hB2 := bnext (bal hB1 (.cells #[.int .i64 x.dest, .int .i64 1, .int .i64 16, .int .i64 x.prio, .int .i64 0, .int .i64 2, .int .i64 x.born, .int .i64 0, .int .i64 1099511627776, .int .i64 x.life, .int .i64 1, .int .i64 1048576, .int .i64 x.total, .int .i64 1, .int .i64 20000] 155)) hb2
          have k2 := (K1.out.alloc (.cells #[.int .i64 x.dest, .int .i64 1, .int .i64 16, .int .i64 x.prio, .int .i64 0, .int .i64 2, .int .i64 x.born, .int .i64 0, .int .i64 1099511627776, .int .i64 x.life, .int .i64 1, .int .i64 1048576, .int .i64 x.total, .int .i64 1, .int .i64 20000] 155)).below hb2
          clear x0 x1 x2 x3 x4 x5 x6 x7 x8 hb2
          obtain ⟨x0, x1, x2, x3, x4, x5, x6, x7, x8⟩ := k2.c9
          clear k2
          go_wp2_with fail
          go_ret
          exact ⟨ret_int R.out.symm, hB2⟩
        · have hl' : ¬ (x.data.size : Int) > 1000 := by omega
          have WS : IntKind.i64.wrap (x.total - x.data.size) = x.total - x.data.size := IntWalk.i64_in _ (by omega)
          by_cases ht : x.total < x.off + x.data.size
          · have R : Hid (bE x = 12) := Lib.hid (bE_t H1.out HF.out hs hl ht)
            have ht1 : x.off > x.total - x.data.size := by omega
            go_enter Try.func90, Try.ntmps90
            go_wp2_with fail
            refine (CheckID_any x.node x.seq x.off _).mono ?_
            rintro e w1 ⟨rfl, hb1⟩
            rw [I.out]
            have k1 := (Blk.new w 49 #[.int .i64 x.node, .int .u64 x.seq, .int .i64 x.off, .int .i64 x.dest, .int .i64 x.prio, .int .i64 x.born, .int .i64 x.life, .int .i64 x.total, .string x.data]).below hb1
            obtain ⟨x0, x1, x2, x3, x4, x5, x6, x7, x8⟩ := k1.c9
            have hB1 := bnext (bal (Below.refl w.heap.size w) (.cells #[.int .i64 x.node, .int .u64 x.seq, .int .i64 x.off, .int .i64 x.dest, .int .i64 x.prio, .int .i64 x.born, .int .i64 x.life, .int .i64 x.total, .string x.data] 49)) hb1
            have hl1 := k1.lt
            have K1 := Lib.hid k1
            clear hb1 k1
            go_wp2_with fail
            refine (within_any [⟨x.dest, 1, 16⟩, ⟨x.prio, 0, 2⟩, ⟨x.born, 0, 1099511627776⟩, ⟨x.life, 1, 1048576⟩, ⟨x.total, 1, 20000⟩] _ _ (lm_lit (t := 155) (Blk.new _ _ _) 5 rfl (by decide))).mono ?_
            rintro e w2 ⟨rfl, hb2⟩
            rw [D.out]
            have hB2 := bnext (bal hB1 (.cells #[.int .i64 x.dest, .int .i64 1, .int .i64 16, .int .i64 x.prio, .int .i64 0, .int .i64 2, .int .i64 x.born, .int .i64 0, .int .i64 1099511627776, .int .i64 x.life, .int .i64 1, .int .i64 1048576, .int .i64 x.total, .int .i64 1, .int .i64 20000] 155)) hb2
            have k2 := (K1.out.alloc (.cells #[.int .i64 x.dest, .int .i64 1, .int .i64 16, .int .i64 x.prio, .int .i64 0, .int .i64 2, .int .i64 x.born, .int .i64 0, .int .i64 1099511627776, .int .i64 x.life, .int .i64 1, .int .i64 1048576, .int .i64 x.total, .int .i64 1, .int .i64 20000] 155)).below hb2
            clear x0 x1 x2 x3 x4 x5 x6 x7 x8 hb2
            obtain ⟨x0, x1, x2, x3, x4, x5, x6, x7, x8⟩ := k2.c9
            clear k2
            go_wp2_with fail
            go_ret
            exact ⟨ret_int R.out.symm, hB2⟩
          · have R : Hid (bE x = 0) := Lib.hid (bE_0 H1.out HF.out hs hl ht)
            have ht1 : ¬ x.off > x.total - x.data.size := by omega
            go_enter Try.func90, Try.ntmps90
            go_wp2_with fail
            refine (CheckID_any x.node x.seq x.off _).mono ?_
            rintro e w1 ⟨rfl, hb1⟩
            rw [I.out]
            have k1 := (Blk.new w 49 #[.int .i64 x.node, .int .u64 x.seq, .int .i64 x.off, .int .i64 x.dest, .int .i64 x.prio, .int .i64 x.born, .int .i64 x.life, .int .i64 x.total, .string x.data]).below hb1
            obtain ⟨x0, x1, x2, x3, x4, x5, x6, x7, x8⟩ := k1.c9
            have hB1 := bnext (bal (Below.refl w.heap.size w) (.cells #[.int .i64 x.node, .int .u64 x.seq, .int .i64 x.off, .int .i64 x.dest, .int .i64 x.prio, .int .i64 x.born, .int .i64 x.life, .int .i64 x.total, .string x.data] 49)) hb1
            have hl1 := k1.lt
            have K1 := Lib.hid k1
            clear hb1 k1
            go_wp2_with fail
            refine (within_any [⟨x.dest, 1, 16⟩, ⟨x.prio, 0, 2⟩, ⟨x.born, 0, 1099511627776⟩, ⟨x.life, 1, 1048576⟩, ⟨x.total, 1, 20000⟩] _ _ (lm_lit (t := 155) (Blk.new _ _ _) 5 rfl (by decide))).mono ?_
            rintro e w2 ⟨rfl, hb2⟩
            rw [D.out]
            have hB2 := bnext (bal hB1 (.cells #[.int .i64 x.dest, .int .i64 1, .int .i64 16, .int .i64 x.prio, .int .i64 0, .int .i64 2, .int .i64 x.born, .int .i64 0, .int .i64 1099511627776, .int .i64 x.life, .int .i64 1, .int .i64 1048576, .int .i64 x.total, .int .i64 1, .int .i64 20000] 155)) hb2
            have k2 := (K1.out.alloc (.cells #[.int .i64 x.dest, .int .i64 1, .int .i64 16, .int .i64 x.prio, .int .i64 0, .int .i64 2, .int .i64 x.born, .int .i64 0, .int .i64 1099511627776, .int .i64 x.life, .int .i64 1, .int .i64 1048576, .int .i64 x.total, .int .i64 1, .int .i64 20000] 155)).below hb2
            clear x0 x1 x2 x3 x4 x5 x6 x7 x8 hb2
            obtain ⟨x0, x1, x2, x3, x4, x5, x6, x7, x8⟩ := k2.c9
            clear k2
            go_wp2_with fail
            go_ret
            exact ⟨ret_int R.out.symm, hB2⟩
    · have R : Hid (bE x = 2) := Lib.hid (bE_f H1.out hf)
      have D : Hid ((!([⟨x.dest, 1, 16⟩, ⟨x.prio, 0, 2⟩, ⟨x.born, 0, 1099511627776⟩, ⟨x.life, 1, 1048576⟩, ⟨x.total, 1, 20000⟩] : List Lm).any Lm.bad) = false) := Lib.hid (by unfold Fok at hf; simp [Lm.bad]; omega)
      clear hf
      go_enter Try.func90, Try.ntmps90
      go_wp2_with fail
      refine (CheckID_any x.node x.seq x.off _).mono ?_
      rintro e w1 ⟨rfl, hb1⟩
      rw [I.out]
      have k1 := (Blk.new w 49 #[.int .i64 x.node, .int .u64 x.seq, .int .i64 x.off, .int .i64 x.dest, .int .i64 x.prio, .int .i64 x.born, .int .i64 x.life, .int .i64 x.total, .string x.data]).below hb1
      obtain ⟨x0, x1, x2, x3, x4, x5, x6, x7, x8⟩ := k1.c9
      have hB1 := bnext (bal (Below.refl w.heap.size w) (.cells #[.int .i64 x.node, .int .u64 x.seq, .int .i64 x.off, .int .i64 x.dest, .int .i64 x.prio, .int .i64 x.born, .int .i64 x.life, .int .i64 x.total, .string x.data] 49)) hb1
      have hl1 := k1.lt
      have K1 := Lib.hid k1
      clear hb1 k1
      go_wp2_with fail
      refine (within_any [⟨x.dest, 1, 16⟩, ⟨x.prio, 0, 2⟩, ⟨x.born, 0, 1099511627776⟩, ⟨x.life, 1, 1048576⟩, ⟨x.total, 1, 20000⟩] _ _ (lm_lit (t := 155) (Blk.new _ _ _) 5 rfl (by decide))).mono ?_
      rintro e w2 ⟨rfl, hb2⟩
      rw [D.out]
      have hB2 := bnext (bal hB1 (.cells #[.int .i64 x.dest, .int .i64 1, .int .i64 16, .int .i64 x.prio, .int .i64 0, .int .i64 2, .int .i64 x.born, .int .i64 0, .int .i64 1099511627776, .int .i64 x.life, .int .i64 1, .int .i64 1048576, .int .i64 x.total, .int .i64 1, .int .i64 20000] 155)) hb2
      have k2 := (K1.out.alloc (.cells #[.int .i64 x.dest, .int .i64 1, .int .i64 16, .int .i64 x.prio, .int .i64 0, .int .i64 2, .int .i64 x.born, .int .i64 0, .int .i64 1099511627776, .int .i64 x.life, .int .i64 1, .int .i64 1048576, .int .i64 x.total, .int .i64 1, .int .i64 20000] 155)).below hb2
      clear x0 x1 x2 x3 x4 x5 x6 x7 x8 hb2
      obtain ⟨x0, x1, x2, x3, x4, x5, x6, x7, x8⟩ := k2.c9
      clear k2
      go_wp2_with fail
      go_ret
      exact ⟨ret_int R.out.symm, hB2⟩
  · have R : Hid (bE x = 2) := Lib.hid (bE_id hid)
    have I := Lib.hid (idE_ne hid)
    clear hid
    go_enter Try.func90, Try.ntmps90
    go_wp2_with fail
    refine (CheckID_any x.node x.seq x.off _).mono ?_
    rintro e w1 ⟨rfl, hb1⟩
    rw [I.out]
    have hB1 := bnext (bal (Below.refl w.heap.size w) (.cells #[.int .i64 x.node, .int .u64 x.seq, .int .i64 x.off, .int .i64 x.dest, .int .i64 x.prio, .int .i64 x.born, .int .i64 x.life, .int .i64 x.total, .string x.data] 49)) hb1
    clear hb1
    go_wp2_with fail
    go_ret
    exact ⟨ret_int R.out.symm, hB1⟩

set_option maxRecDepth 100000 in
set_option maxHeartbeats 8000000 in
theorem rCheck_any (x : Bn) (w : World) : Calls Try.prog 96 #[x.val] w (RetI (bE x) w) := by
  rw [Bn.val_eq]
  by_cases hid : IdOk x.node x.seq x.off
  · have H1 := Lib.hid hid
    have ho := hid.2.2
    have I := Lib.hid (idE_ok hid)
    clear hid
    by_cases a1 : 1 ≤ x.dest
    · skip
      by_cases a2 : x.dest ≤ 16
      · skip
        by_cases b1 : 0 ≤ x.prio
        · skip
          by_cases b2 : x.prio ≤ 2
          · skip
            by_cases c1 : 0 ≤ x.born
            · skip
              by_cases c2 : x.born ≤ 1099511627776
              · skip
                by_cases d1 : 1 ≤ x.life
                · skip
                  by_cases d2 : x.life ≤ 1048576
                  · skip
                    by_cases e1 : 1 ≤ x.total
                    · skip
                      by_cases e2 : x.total ≤ 20000
                      · skip
                        have HF : Hid (Fok x) := Lib.hid ⟨⟨a1, a2⟩, ⟨b1, b2⟩, ⟨c1, c2⟩, ⟨d1, d2⟩, ⟨e1, e2⟩⟩
                        by_cases hs : x.data.size = 0
                        · have R : Hid (bE x = 11) := Lib.hid (bE_s H1.out HF.out hs)
                          have hs1 : ((x.data.size : Int) == 0) = true := by rw [hs]; rfl
                          clear hs
                          go_enter Try.func96, Try.ntmps96
                          go_wp2_with fail
                          refine (rCheckID_any x.node x.seq x.off _).mono ?_
                          rintro e w1 ⟨rfl, hb1⟩
                          rw [I.out]
                          have k1 := (Blk.new w 49 #[.int .i64 x.node, .int .u64 x.seq, .int .i64 x.off, .int .i64 x.dest, .int .i64 x.prio, .int .i64 x.born, .int .i64 x.life, .int .i64 x.total, .string x.data]).below hb1
                          obtain ⟨x0, x1, x2, x3, x4, x5, x6, x7, x8⟩ := k1.c9
                          have hB1 := bnext (bal (Below.refl w.heap.size w) (.cells #[.int .i64 x.node, .int .u64 x.seq, .int .i64 x.off, .int .i64 x.dest, .int .i64 x.prio, .int .i64 x.born, .int .i64 x.life, .int .i64 x.total, .string x.data] 49)) hb1
                          clear hb1 k1
                          go_wp2_with fail
                          go_ret
                          exact ⟨ret_int R.out.symm, hB1⟩
                        · have hs1 : ((x.data.size : Int) == 0) = false := beq_eq_false_iff_ne.2 (by omega)
                          by_cases hl : 1000 < x.data.size
                          · have R : Hid (bE x = 4) := Lib.hid (bE_l H1.out HF.out hs hl)
                            have hl1 : (x.data.size : Int) > 1000 := by omega
                            go_enter Try.func96, Try.ntmps96
                            go_wp2_with fail
                            refine (rCheckID_any x.node x.seq x.off _).mono ?_
                            rintro e w1 ⟨rfl, hb1⟩
                            rw [I.out]
                            have k1 := (Blk.new w 49 #[.int .i64 x.node, .int .u64 x.seq, .int .i64 x.off, .int .i64 x.dest, .int .i64 x.prio, .int .i64 x.born, .int .i64 x.life, .int .i64 x.total, .string x.data]).below hb1
                            obtain ⟨x0, x1, x2, x3, x4, x5, x6, x7, x8⟩ := k1.c9
                            have hB1 := bnext (bal (Below.refl w.heap.size w) (.cells #[.int .i64 x.node, .int .u64 x.seq, .int .i64 x.off, .int .i64 x.dest, .int .i64 x.prio, .int .i64 x.born, .int .i64 x.life, .int .i64 x.total, .string x.data] 49)) hb1
                            clear hb1 k1
                            go_wp2_with fail
                            go_ret
                            exact ⟨ret_int R.out.symm, hB1⟩
                          · have hl' : ¬ (x.data.size : Int) > 1000 := by omega
                            have WS : IntKind.i64.wrap (x.off + x.data.size) = x.off + x.data.size := IntWalk.i64_in _ (by omega)
                            by_cases ht : x.total < x.off + x.data.size
                            · have R : Hid (bE x = 12) := Lib.hid (bE_t H1.out HF.out hs hl ht)
                              have ht1 : x.off + x.data.size > x.total := by omega
                              go_enter Try.func96, Try.ntmps96
                              go_wp2_with fail
                              refine (rCheckID_any x.node x.seq x.off _).mono ?_
                              rintro e w1 ⟨rfl, hb1⟩
                              rw [I.out]
                              have k1 := (Blk.new w 49 #[.int .i64 x.node, .int .u64 x.seq, .int .i64 x.off, .int .i64 x.dest, .int .i64 x.prio, .int .i64 x.born, .int .i64 x.life, .int .i64 x.total, .string x.data]).below hb1
                              obtain ⟨x0, x1, x2, x3, x4, x5, x6, x7, x8⟩ := k1.c9
                              have hB1 := bnext (bal (Below.refl w.heap.size w) (.cells #[.int .i64 x.node, .int .u64 x.seq, .int .i64 x.off, .int .i64 x.dest, .int .i64 x.prio, .int .i64 x.born, .int .i64 x.life, .int .i64 x.total, .string x.data] 49)) hb1
                              clear hb1 k1
                              go_wp2_with fail
                              go_ret
                              exact ⟨ret_int R.out.symm, hB1⟩
                            · have R : Hid (bE x = 0) := Lib.hid (bE_0 H1.out HF.out hs hl ht)
                              have ht1 : ¬ x.off + x.data.size > x.total := by omega
                              go_enter Try.func96, Try.ntmps96
                              go_wp2_with fail
                              refine (rCheckID_any x.node x.seq x.off _).mono ?_
                              rintro e w1 ⟨rfl, hb1⟩
                              rw [I.out]
                              have k1 := (Blk.new w 49 #[.int .i64 x.node, .int .u64 x.seq, .int .i64 x.off, .int .i64 x.dest, .int .i64 x.prio, .int .i64 x.born, .int .i64 x.life, .int .i64 x.total, .string x.data]).below hb1
                              obtain ⟨x0, x1, x2, x3, x4, x5, x6, x7, x8⟩ := k1.c9
                              have hB1 := bnext (bal (Below.refl w.heap.size w) (.cells #[.int .i64 x.node, .int .u64 x.seq, .int .i64 x.off, .int .i64 x.dest, .int .i64 x.prio, .int .i64 x.born, .int .i64 x.life, .int .i64 x.total, .string x.data] 49)) hb1
                              clear hb1 k1
                              go_wp2_with fail
                              go_ret
                              exact ⟨ret_int R.out.symm, hB1⟩
                      · have ne2 : 20000 < x.total := by omega
                        have R : Hid (bE x = 2) := Lib.hid (bE_f H1.out (fun e => e2 e.2.2.2.2.2))
                        go_enter Try.func96, Try.ntmps96
                        go_wp2_with fail
                        refine (rCheckID_any x.node x.seq x.off _).mono ?_
                        rintro e w1 ⟨rfl, hb1⟩
                        rw [I.out]
                        have k1 := (Blk.new w 49 #[.int .i64 x.node, .int .u64 x.seq, .int .i64 x.off, .int .i64 x.dest, .int .i64 x.prio, .int .i64 x.born, .int .i64 x.life, .int .i64 x.total, .string x.data]).below hb1
                        obtain ⟨x0, x1, x2, x3, x4, x5, x6, x7, x8⟩ := k1.c9
                        have hB1 := bnext (bal (Below.refl w.heap.size w) (.cells #[.int .i64 x.node, .int .u64 x.seq, .int .i64 x.off, .int .i64 x.dest, .int .i64 x.prio, .int .i64 x.born, .int .i64 x.life, .int .i64 x.total, .string x.data] 49)) hb1
                        clear hb1 k1
                        go_wp2_with fail
                        go_ret
                        exact ⟨ret_int R.out.symm, hB1⟩
                    · have ne1 : x.total < 1 := by omega
                      have R : Hid (bE x = 2) := Lib.hid (bE_f H1.out (fun e => e1 e.2.2.2.2.1))
                      go_enter Try.func96, Try.ntmps96
                      go_wp2_with fail
                      refine (rCheckID_any x.node x.seq x.off _).mono ?_
                      rintro e w1 ⟨rfl, hb1⟩
                      rw [I.out]
                      have k1 := (Blk.new w 49 #[.int .i64 x.node, .int .u64 x.seq, .int .i64 x.off, .int .i64 x.dest, .int .i64 x.prio, .int .i64 x.born, .int .i64 x.life, .int .i64 x.total, .string x.data]).below hb1
                      obtain ⟨x0, x1, x2, x3, x4, x5, x6, x7, x8⟩ := k1.c9
                      have hB1 := bnext (bal (Below.refl w.heap.size w) (.cells #[.int .i64 x.node, .int .u64 x.seq, .int .i64 x.off, .int .i64 x.dest, .int .i64 x.prio, .int .i64 x.born, .int .i64 x.life, .int .i64 x.total, .string x.data] 49)) hb1
                      clear hb1 k1
                      go_wp2_with fail
                      go_ret
                      exact ⟨ret_int R.out.symm, hB1⟩
                  · have nd2 : 1048576 < x.life := by omega
                    have R : Hid (bE x = 2) := Lib.hid (bE_f H1.out (fun e => d2 e.2.2.2.1.2))
                    go_enter Try.func96, Try.ntmps96
                    go_wp2_with fail
                    refine (rCheckID_any x.node x.seq x.off _).mono ?_
                    rintro e w1 ⟨rfl, hb1⟩
                    rw [I.out]
                    have k1 := (Blk.new w 49 #[.int .i64 x.node, .int .u64 x.seq, .int .i64 x.off, .int .i64 x.dest, .int .i64 x.prio, .int .i64 x.born, .int .i64 x.life, .int .i64 x.total, .string x.data]).below hb1
                    obtain ⟨x0, x1, x2, x3, x4, x5, x6, x7, x8⟩ := k1.c9
                    have hB1 := bnext (bal (Below.refl w.heap.size w) (.cells #[.int .i64 x.node, .int .u64 x.seq, .int .i64 x.off, .int .i64 x.dest, .int .i64 x.prio, .int .i64 x.born, .int .i64 x.life, .int .i64 x.total, .string x.data] 49)) hb1
                    clear hb1 k1
                    go_wp2_with fail
                    go_ret
                    exact ⟨ret_int R.out.symm, hB1⟩
                · have nd1 : x.life < 1 := by omega
                  have R : Hid (bE x = 2) := Lib.hid (bE_f H1.out (fun e => d1 e.2.2.2.1.1))
                  go_enter Try.func96, Try.ntmps96
                  go_wp2_with fail
                  refine (rCheckID_any x.node x.seq x.off _).mono ?_
                  rintro e w1 ⟨rfl, hb1⟩
                  rw [I.out]
                  have k1 := (Blk.new w 49 #[.int .i64 x.node, .int .u64 x.seq, .int .i64 x.off, .int .i64 x.dest, .int .i64 x.prio, .int .i64 x.born, .int .i64 x.life, .int .i64 x.total, .string x.data]).below hb1
                  obtain ⟨x0, x1, x2, x3, x4, x5, x6, x7, x8⟩ := k1.c9
                  have hB1 := bnext (bal (Below.refl w.heap.size w) (.cells #[.int .i64 x.node, .int .u64 x.seq, .int .i64 x.off, .int .i64 x.dest, .int .i64 x.prio, .int .i64 x.born, .int .i64 x.life, .int .i64 x.total, .string x.data] 49)) hb1
                  clear hb1 k1
                  go_wp2_with fail
                  go_ret
                  exact ⟨ret_int R.out.symm, hB1⟩
              · have nc2 : 1099511627776 < x.born := by omega
                have R : Hid (bE x = 2) := Lib.hid (bE_f H1.out (fun e => c2 e.2.2.1.2))
                go_enter Try.func96, Try.ntmps96
                go_wp2_with fail
                refine (rCheckID_any x.node x.seq x.off _).mono ?_
                rintro e w1 ⟨rfl, hb1⟩
                rw [I.out]
                have k1 := (Blk.new w 49 #[.int .i64 x.node, .int .u64 x.seq, .int .i64 x.off, .int .i64 x.dest, .int .i64 x.prio, .int .i64 x.born, .int .i64 x.life, .int .i64 x.total, .string x.data]).below hb1
                obtain ⟨x0, x1, x2, x3, x4, x5, x6, x7, x8⟩ := k1.c9
                have hB1 := bnext (bal (Below.refl w.heap.size w) (.cells #[.int .i64 x.node, .int .u64 x.seq, .int .i64 x.off, .int .i64 x.dest, .int .i64 x.prio, .int .i64 x.born, .int .i64 x.life, .int .i64 x.total, .string x.data] 49)) hb1
                clear hb1 k1
                go_wp2_with fail
                go_ret
                exact ⟨ret_int R.out.symm, hB1⟩
            · have nc1 : x.born < 0 := by omega
              have R : Hid (bE x = 2) := Lib.hid (bE_f H1.out (fun e => c1 e.2.2.1.1))
              go_enter Try.func96, Try.ntmps96
              go_wp2_with fail
              refine (rCheckID_any x.node x.seq x.off _).mono ?_
              rintro e w1 ⟨rfl, hb1⟩
              rw [I.out]
              have k1 := (Blk.new w 49 #[.int .i64 x.node, .int .u64 x.seq, .int .i64 x.off, .int .i64 x.dest, .int .i64 x.prio, .int .i64 x.born, .int .i64 x.life, .int .i64 x.total, .string x.data]).below hb1
              obtain ⟨x0, x1, x2, x3, x4, x5, x6, x7, x8⟩ := k1.c9
              have hB1 := bnext (bal (Below.refl w.heap.size w) (.cells #[.int .i64 x.node, .int .u64 x.seq, .int .i64 x.off, .int .i64 x.dest, .int .i64 x.prio, .int .i64 x.born, .int .i64 x.life, .int .i64 x.total, .string x.data] 49)) hb1
              clear hb1 k1
              go_wp2_with fail
              go_ret
              exact ⟨ret_int R.out.symm, hB1⟩
          · have nb2 : 2 < x.prio := by omega
            have R : Hid (bE x = 2) := Lib.hid (bE_f H1.out (fun e => b2 e.2.1.2))
            go_enter Try.func96, Try.ntmps96
            go_wp2_with fail
            refine (rCheckID_any x.node x.seq x.off _).mono ?_
            rintro e w1 ⟨rfl, hb1⟩
            rw [I.out]
            have k1 := (Blk.new w 49 #[.int .i64 x.node, .int .u64 x.seq, .int .i64 x.off, .int .i64 x.dest, .int .i64 x.prio, .int .i64 x.born, .int .i64 x.life, .int .i64 x.total, .string x.data]).below hb1
            obtain ⟨x0, x1, x2, x3, x4, x5, x6, x7, x8⟩ := k1.c9
            have hB1 := bnext (bal (Below.refl w.heap.size w) (.cells #[.int .i64 x.node, .int .u64 x.seq, .int .i64 x.off, .int .i64 x.dest, .int .i64 x.prio, .int .i64 x.born, .int .i64 x.life, .int .i64 x.total, .string x.data] 49)) hb1
            clear hb1 k1
            go_wp2_with fail
            go_ret
            exact ⟨ret_int R.out.symm, hB1⟩
        · have nb1 : x.prio < 0 := by omega
          have R : Hid (bE x = 2) := Lib.hid (bE_f H1.out (fun e => b1 e.2.1.1))
          go_enter Try.func96, Try.ntmps96
          go_wp2_with fail
          refine (rCheckID_any x.node x.seq x.off _).mono ?_
          rintro e w1 ⟨rfl, hb1⟩
          rw [I.out]
          have k1 := (Blk.new w 49 #[.int .i64 x.node, .int .u64 x.seq, .int .i64 x.off, .int .i64 x.dest, .int .i64 x.prio, .int .i64 x.born, .int .i64 x.life, .int .i64 x.total, .string x.data]).below hb1
          obtain ⟨x0, x1, x2, x3, x4, x5, x6, x7, x8⟩ := k1.c9
          have hB1 := bnext (bal (Below.refl w.heap.size w) (.cells #[.int .i64 x.node, .int .u64 x.seq, .int .i64 x.off, .int .i64 x.dest, .int .i64 x.prio, .int .i64 x.born, .int .i64 x.life, .int .i64 x.total, .string x.data] 49)) hb1
          clear hb1 k1
          go_wp2_with fail
          go_ret
          exact ⟨ret_int R.out.symm, hB1⟩
      · have na2 : 16 < x.dest := by omega
        have R : Hid (bE x = 2) := Lib.hid (bE_f H1.out (fun e => a2 e.1.2))
        go_enter Try.func96, Try.ntmps96
        go_wp2_with fail
        refine (rCheckID_any x.node x.seq x.off _).mono ?_
        rintro e w1 ⟨rfl, hb1⟩
        rw [I.out]
        have k1 := (Blk.new w 49 #[.int .i64 x.node, .int .u64 x.seq, .int .i64 x.off, .int .i64 x.dest, .int .i64 x.prio, .int .i64 x.born, .int .i64 x.life, .int .i64 x.total, .string x.data]).below hb1
        obtain ⟨x0, x1, x2, x3, x4, x5, x6, x7, x8⟩ := k1.c9
        have hB1 := bnext (bal (Below.refl w.heap.size w) (.cells #[.int .i64 x.node, .int .u64 x.seq, .int .i64 x.off, .int .i64 x.dest, .int .i64 x.prio, .int .i64 x.born, .int .i64 x.life, .int .i64 x.total, .string x.data] 49)) hb1
        clear hb1 k1
        go_wp2_with fail
        go_ret
        exact ⟨ret_int R.out.symm, hB1⟩
    · have na1 : x.dest < 1 := by omega
      have R : Hid (bE x = 2) := Lib.hid (bE_f H1.out (fun e => a1 e.1.1))
      go_enter Try.func96, Try.ntmps96
      go_wp2_with fail
      refine (rCheckID_any x.node x.seq x.off _).mono ?_
      rintro e w1 ⟨rfl, hb1⟩
      rw [I.out]
      have k1 := (Blk.new w 49 #[.int .i64 x.node, .int .u64 x.seq, .int .i64 x.off, .int .i64 x.dest, .int .i64 x.prio, .int .i64 x.born, .int .i64 x.life, .int .i64 x.total, .string x.data]).below hb1
      obtain ⟨x0, x1, x2, x3, x4, x5, x6, x7, x8⟩ := k1.c9
      have hB1 := bnext (bal (Below.refl w.heap.size w) (.cells #[.int .i64 x.node, .int .u64 x.seq, .int .i64 x.off, .int .i64 x.dest, .int .i64 x.prio, .int .i64 x.born, .int .i64 x.life, .int .i64 x.total, .string x.data] 49)) hb1
      clear hb1 k1
      go_wp2_with fail
      go_ret
      exact ⟨ret_int R.out.symm, hB1⟩
  · have R : Hid (bE x = 2) := Lib.hid (bE_id hid)
    have I := Lib.hid (idE_ne hid)
    clear hid
    go_enter Try.func96, Try.ntmps96
    go_wp2_with fail
    refine (rCheckID_any x.node x.seq x.off _).mono ?_
    rintro e w1 ⟨rfl, hb1⟩
    rw [I.out]
    have k1 := (Blk.new w 49 #[.int .i64 x.node, .int .u64 x.seq, .int .i64 x.off, .int .i64 x.dest, .int .i64 x.prio, .int .i64 x.born, .int .i64 x.life, .int .i64 x.total, .string x.data]).below hb1
    obtain ⟨x0, x1, x2, x3, x4, x5, x6, x7, x8⟩ := k1.c9
    have hB1 := bnext (bal (Below.refl w.heap.size w) (.cells #[.int .i64 x.node, .int .u64 x.seq, .int .i64 x.off, .int .i64 x.dest, .int .i64 x.prio, .int .i64 x.born, .int .i64 x.life, .int .i64 x.total, .string x.data] 49)) hb1
    clear hb1 k1
    go_wp2_with fail
    go_ret
    exact ⟨ret_int R.out.symm, hB1⟩
end Go.Proofs.Ytfgkkflbpfocjaa.Bu

