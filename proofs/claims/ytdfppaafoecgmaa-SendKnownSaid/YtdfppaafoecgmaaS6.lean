/- SendKnown: the walk. -/
import Derived.Test.YtdfppaafoecgmaaS5
import Derived.Test.YtdfppaafoecgmaaS1
namespace Go.Proofs.Ytdfppaafoecgmaa
open Go.RowKit
set_option linter.unusedVariables false
set_option linter.unusedSimpArgs false

def ledT : Led := ⟨100, 80, 0, [⟨30, 50, 1, 2, 0⟩]⟩
def ledU : Led := ⟨100, 80, 15, [⟨30, 50, 1, 2, 0⟩]⟩
def ledW : Led := ⟨100, 80, 20, [⟨30, 50, 1, 2, 0⟩]⟩
def ledY : Led := ⟨130, 80, 20, [⟨30, 50, 1, 2, 0⟩]⟩
theorem wfT : Wf ledT := ⟨by decide, by decide, by decide, by decide⟩
theorem wfU : Wf ledU := ⟨by decide, by decide, by decide, by decide⟩
theorem wfW : Wf ledW := ⟨by decide, by decide, by decide, by decide⟩
theorem wfY : Wf ledY := ⟨by decide, by decide, by decide, by decide⟩
theorem ref1 (v : Value) (w : World) (hS : SlAt w 5 v 2 (flat led2.sl)) : Calls Try.prog 30 #[.agg #[.int .u64 100, .int .u64 80, .int .u64 0, v], .int .u64 21, .agg #[.int .i64 1, .int .u64 3, .int .i64 0], .int .i64 14, .int .u64 0, .int .i64 8] w (RetB true w) :=
  refused_t (s := led2) (a := zLed) (b := zLed) (k := 0) (by decide) (by decide) wf2 (by decide) (by decide) v w hS
theorem ref2 (v : Value) (w : World) (hS : SlAt w 5 v 2 (flat led2.sl)) : Calls Try.prog 30 #[.agg #[.int .u64 100, .int .u64 80, .int .u64 0, v], .int .u64 10, .agg #[.int .i64 1, .int .u64 1, .int .i64 0], .int .i64 9, .int .u64 1, .int .i64 8] w (RetB true w) :=
  refused_t (s := led2) (a := zLed) (b := zLed) (k := 0) (by decide) (by decide) wf2 (by decide) (by decide) v w hS
theorem ref3 (v : Value) (w : World) (hS : SlAt w 5 v 2 (flat led2.sl)) : Calls Try.prog 30 #[.agg #[.int .u64 100, .int .u64 80, .int .u64 0, v], .int .u64 0, .agg #[.int .i64 1, .int .u64 3, .int .i64 0], .int .i64 2, .int .u64 80, .int .i64 8] w (RetB true w) :=
  refused_t (s := led2) (a := zLed) (b := zLed) (k := 0) (by decide) (by decide) wf2 (by decide) (by decide) v w hS
def SetLit (g n r : Int) (m : Nat) (l : List Sl) (err : Int) (w : World) (e : Ending) (w' : World) : Prop :=
  ∃ A c, e = .returned (.tuple #[.agg #[.int .u64 g, .int .u64 n, .int .u64 r, .slice A m c], .int .i64 err]) ∧ w'.ownsRow w.heap.size 44 5 (.slice A m c) m (flat l) ∧ Below w.heap.size w w'
theorem set1 (v : Value) (w : World) (hS : SlAt w 5 v 2 (flat led2.sl)) : Calls Try.prog 27 #[.agg #[.int .u64 100, .int .u64 80, .int .u64 0, v], .int .u64 0, .agg #[.int .i64 1, .int .u64 1, .int .i64 0]] w (SetLit 100 80 0 1 ledT.sl 0 w) :=
  (Settle_to (s := led2) (a := ledT) (e := 0) (by decide) wf2 v w hS).mono fun _ _ h => h
theorem set2 (v : Value) (w : World) (hS : SlAt w 5 v 1 (flat ledT.sl)) : Calls Try.prog 27 #[.agg #[.int .u64 100, .int .u64 80, .int .u64 0, v], .int .u64 0, .agg #[.int .i64 1, .int .u64 1, .int .i64 0]] w (SetLit 0 0 0 0 zLed.sl 8 w) :=
  (Settle_to (s := ledT) (a := zLed) (e := 8) (by decide) wfT v w hS).mono fun _ _ h => h
theorem set3 (v : Value) (w : World) (hS : SlAt w 5 v 1 (flat ledT.sl)) : Calls Try.prog 27 #[.agg #[.int .u64 100, .int .u64 80, .int .u64 0, v], .int .u64 31, .agg #[.int .i64 1, .int .u64 2, .int .i64 0]] w (SetLit 0 0 0 0 zLed.sl 8 w) :=
  (Settle_to (s := ledT) (a := zLed) (e := 8) (by decide) wfT v w hS).mono fun _ _ h => h
def LedLit (g n r : Int) (m : Nat) (l : List Sl) (k : Int) (w : World) (e : Ending) (w' : World) : Prop :=
  ∃ A c, e = .returned (.tuple #[.agg #[.int .u64 g, .int .u64 n, .int .u64 r, .slice A m c], .int .u64 k, .int .i64 0]) ∧ w'.ownsRow w.heap.size 44 5 (.slice A m c) m (flat l) ∧ Below w.heap.size w w'
theorem giv1 (v : Value) (w : World) (hS : SlAt w 5 v 1 (flat ledT.sl)) : Calls Try.prog 21 #[.agg #[.int .u64 100, .int .u64 80, .int .u64 0, v], .int .u64 15] w (LedLit 100 80 15 1 ledU.sl 15 w) :=
  (Give_to (s := ledT) (a := ledU) (k := 15) (e := 0) (by decide) wfT (by decide) v w hS).mono fun _ _ h => h
theorem giv2 (v : Value) (w : World) (hS : SlAt w 5 v 1 (flat ledU.sl)) : Calls Try.prog 21 #[.agg #[.int .u64 100, .int .u64 80, .int .u64 15, v], .int .u64 10] w (LedLit 100 80 15 1 ledU.sl 0 w) :=
  (Give_to (s := ledU) (a := ledU) (k := 0) (e := 0) (by decide) wfU (by decide) v w hS).mono fun _ _ h => h
theorem giv3 (v : Value) (w : World) (hS : SlAt w 5 v 1 (flat ledU.sl)) : Calls Try.prog 21 #[.agg #[.int .u64 100, .int .u64 80, .int .u64 15, v], .int .u64 100] w (LedLit 100 80 20 1 ledW.sl 5 w) :=
  (Give_to (s := ledU) (a := ledW) (k := 5) (e := 0) (by decide) wfU (by decide) v w hS).mono fun _ _ h => h
theorem gra1 (v : Value) (w : World) (hS : SlAt w 5 v 1 (flat ledW.sl)) : Calls Try.prog 10 #[.agg #[.int .u64 100, .int .u64 80, .int .u64 20, v], .int .u64 90] w (LedLit 100 80 20 1 ledW.sl 0 w) :=
  (Grant_to (s := ledW) (a := ledW) (k := 0) (e := 0) (by decide) wfW v w hS).mono fun _ _ h => h
theorem gra2 (v : Value) (w : World) (hS : SlAt w 5 v 1 (flat ledW.sl)) : Calls Try.prog 10 #[.agg #[.int .u64 100, .int .u64 80, .int .u64 20, v], .int .u64 130] w (LedLit 130 80 20 1 ledY.sl 30 w) :=
  (Grant_to (s := ledW) (a := ledY) (k := 30) (e := 0) (by decide) wfW v w hS).mono fun _ _ h => h
theorem use1 (v : Value) (w : World) (hS : SlAt w 5 v 1 (flat ledU.sl)) : Calls Try.prog 32 #[.agg #[.int .u64 100, .int .u64 80, .int .u64 15, v], .int .u64 5] w (RetB true w) :=
  use_t ledU wfU 5 (by decide) (by decide) v w hS
theorem use2 (v : Value) (w : World) (hS : SlAt w 5 v 1 (flat ledW.sl)) : Calls Try.prog 32 #[.agg #[.int .u64 100, .int .u64 80, .int .u64 20, v], .int .u64 0] w (RetB true w) :=
  use_t ledW wfW 0 (by decide) (by decide) v w hS
theorem use3 (v : Value) (w : World) (hS : SlAt w 5 v 1 (flat ledY.sl)) : Calls Try.prog 32 #[.agg #[.int .u64 130, .int .u64 80, .int .u64 20, v], .int .u64 30] w (RetB true w) :=
  use_t ledY wfY 30 (by decide) (by decide) v w hS
theorem flo1 (v : Value) (w : World) (hS : SlAt w 5 v 1 (flat ledT.sl)) : Calls Try.prog 18 #[.agg #[.int .u64 100, .int .u64 80, .int .u64 0, v]] w (Ret2 .u64 .i64 30 0 w) :=
  flE_t ledT wfT 30 (by decide) (by decide) v w hS

/-- a block of a ledger, and its row -/
def KnownMid (w : World) (B : Nat) (g n r : Int) (A : Option Addr) (m c : Nat) (l : List Sl) (wx : World) : Prop :=
  Blk wx B 26 #[.int .u64 g, .int .u64 n, .int .u64 r, .slice A m c] ∧ wx.ownsRow w.heap.size 44 5 (.slice A m c) m (flat l) ∧ Below w.heap.size w wx

set_option maxRecDepth 100000 in
set_option maxHeartbeats 8000000 in
theorem SendKnown_t (w : World) : Calls Try.prog 6 #[] w (RetB true w) := by
  go_enter Try.func6, Try.ntmps6
  go_wp2_with fail
  refine (two_any w).mono ?_
  rintro e w1 ⟨A, c, rfl, ho, hb1⟩
  have HO0 : Hid (w1.ownsRow w.heap.size 44 5 (.slice A 2 c) 2 (flat led2.sl)) := Lib.hid ho
  clear ho
  go_upto_region 2 with fail
  go_cut [42] (fun s42 wx => s42 = .bool false ∧ KnownMid w w1.heap.size 100 80 0 A 2 c led2.sl wx)
  case first =>
    have kb := (Blk.new w1 26 #[.int .u64 100, .int .u64 80, .int .u64 0, .slice A 2 c])
    have KB := Lib.hid kb
    have HO := Lib.hid (HO0.out.alloc (.cells #[.int .u64 100, .int .u64 80, .int .u64 0, .slice A 2 c] 26))
    have hB := bal hb1 (.cells #[.int .u64 100, .int .u64 80, .int .u64 0, .slice A 2 c] 26)
    obtain ⟨c0, c1, c2, c3⟩ := kb.c4
    clear kb HO0
    go_region_held3 (fun w' => w'.cell? ⟨w1.heap.size, 0, none⟩ = some (.int .u64 100) ∧ w'.cell? ⟨w1.heap.size, 1, none⟩ = some (.int .u64 80) ∧ w'.cell? ⟨w1.heap.size, 2, none⟩ = some (.int .u64 0) ∧ w'.cell? ⟨w1.heap.size, 3, none⟩ = some (.slice A 2 c)) (go_keep)
      (first
        | (go_at_call 31; (first | with_reducible refine (name_any 3 _ (by decide) (by decide)).mono ?_ | with_reducible refine (name_any 1 _ (by decide) (by decide)).mono ?_); rintro e wn ⟨rfl, hbn⟩; have kbn : Blk wn w1.heap.size 26 #[.int .u64 100, .int .u64 80, .int .u64 0, .slice A 2 c] := (by refine Blk.below ?_ hbn; repeat (first | with_reducible exact KB.out | with_reducible refine Blk.alloc ?_ _ | with_reducible refine Blk.drew ?_)); have hon : wn.ownsRow w.heap.size 44 5 (.slice A 2 c) 2 (flat led2.sl) := (by refine own_below hbn ?_; repeat (first | with_reducible exact HO.out | with_reducible refine World.ownsRow.alloc ?_ _ | with_reducible refine World.ownsRow.drew ?_)); have hBn : Below w.heap.size w wn := (by repeat (first | with_reducible exact Below.refl _ _ | with_reducible refine Below.drew ?_ | with_reducible refine below_drewN ?_ _ | with_reducible refine bal ?_ _ | with_reducible refine bset ?_ (by first | (simp; done) | (simp; omega)) _ | with_reducible refine bnext ?_ (by assumption) | with_reducible assumption)); clear KB HO hB c0 c1 c2 c3; have KB := Lib.hid kbn; have HO := Lib.hid hon; have hB := hBn; obtain ⟨c0, c1, c2, c3⟩ := kbn.c4; have qb : ¬ w1.heap.size = wn.heap.size := Nat.ne_of_lt kbn.lt; have qb' : ¬ wn.heap.size = w1.heap.size := fun e => qb e.symm; clear kbn hon hBn)
        | (go_at_call 30; (first | with_reducible refine (ref1 _ _ ?_).mono ?_ | with_reducible refine (ref2 _ _ ?_).mono ?_ | with_reducible refine (ref3 _ _ ?_).mono ?_); (repeat (first | with_reducible exact SlAt.own HO.out | with_reducible refine SlAt.alloc ?_ _ | with_reducible refine SlAt.drew ?_)); rintro e wn ⟨rfl, hbn⟩; have kbn : Blk wn w1.heap.size 26 #[.int .u64 100, .int .u64 80, .int .u64 0, .slice A 2 c] := (by refine Blk.below ?_ hbn; repeat (first | with_reducible exact KB.out | with_reducible refine Blk.alloc ?_ _ | with_reducible refine Blk.drew ?_)); have hon : wn.ownsRow w.heap.size 44 5 (.slice A 2 c) 2 (flat led2.sl) := (by refine own_below hbn ?_; repeat (first | with_reducible exact HO.out | with_reducible refine World.ownsRow.alloc ?_ _ | with_reducible refine World.ownsRow.drew ?_)); have hBn : Below w.heap.size w wn := (by repeat (first | with_reducible exact Below.refl _ _ | with_reducible refine Below.drew ?_ | with_reducible refine below_drewN ?_ _ | with_reducible refine bal ?_ _ | with_reducible refine bset ?_ (by first | (simp; done) | (simp; omega)) _ | with_reducible refine bnext ?_ (by assumption) | with_reducible assumption)); clear KB HO hB c0 c1 c2 c3; have KB := Lib.hid kbn; have HO := Lib.hid hon; have hB := hBn; obtain ⟨c0, c1, c2, c3⟩ := kbn.c4; have qb : ¬ w1.heap.size = wn.heap.size := Nat.ne_of_lt kbn.lt; have qb' : ¬ wn.heap.size = w1.heap.size := fun e => qb e.symm; clear kbn hon hBn))
    all_goals
      go_wp2_with fail
      go_meet
      exact ⟨rfl, KB.out, HO.out, hB⟩
  case rest =>
    obtain ⟨rfl, kb, ho, hB⟩ := hcut
    have KB := Lib.hid kb
    have HO := Lib.hid ho
    have hlb := kb.lt
    obtain ⟨c0, c1, c2, c3⟩ := kb.c4
    clear kb ho
    go_upto_region 4 with fail
    go_cut [3, 4] (fun s3 s4 wx => ∃ (gT : Nat) (AT : Option Addr) (cT : Nat), s3 = .pointer (some ⟨gT, 0, none⟩) ∧ s4 = .int .i64 0 ∧ KnownMid w gT 100 80 0 AT 1 cT ledT.sl wx)
    case first =>
      obtain ⟨W0, hW0⟩ : ∃ W0, W0 = wc := ⟨_, rfl⟩
      have hl0 : w1.heap.size < W0.heap.size := by rw [hW0]; exact hlb
      have qb0 : ¬ w1.heap.size = W0.heap.size := Nat.ne_of_lt hl0
      have qb1 : ¬ W0.heap.size = w1.heap.size := fun e => qb0 e.symm
      subst hW0
      have hzw := hB.size
      go_region_held3 (fun w' => w'.cell? ⟨w1.heap.size, 0, none⟩ = some (.int .u64 100) ∧ w'.cell? ⟨w1.heap.size, 1, none⟩ = some (.int .u64 80) ∧ w'.cell? ⟨w1.heap.size, 2, none⟩ = some (.int .u64 0) ∧ w'.cell? ⟨w1.heap.size, 3, none⟩ = some (.slice A 2 c)) (go_keep)
        (first
          | (go_at_call 31; refine (name_any 1 _ (by decide) (by decide)).mono ?_; rintro e wn ⟨rfl, hbn⟩; (try have kn : Blk wn W0.heap.size 26 #[.int .u64 0, .int .u64 0, .int .u64 0, .slice none 0 0] := (by refine Blk.below ?_ hbn; first | with_reducible exact Blk.new _ _ _ | with_reducible exact Blk.drew (Blk.new _ _ _))); have hzn := hbn.size; (try simp at hzn); have kbn : Blk wn w1.heap.size 26 #[.int .u64 100, .int .u64 80, .int .u64 0, .slice A 2 c] := (by refine Blk.below ?_ hbn; repeat (first | with_reducible exact KB.out | with_reducible refine Blk.alloc ?_ _ | with_reducible refine Blk.drew ?_)); have hon : wn.ownsRow w.heap.size 44 5 (.slice A 2 c) 2 (flat led2.sl) := (by refine own_below hbn ?_; repeat (first | with_reducible exact HO.out | with_reducible refine World.ownsRow.alloc ?_ _ | with_reducible refine World.ownsRow.drew ?_)); have hBn : Below w.heap.size w wn := (by repeat (first | with_reducible exact Below.refl _ _ | with_reducible refine Below.drew ?_ | with_reducible refine below_drewN ?_ _ | with_reducible refine bal ?_ _ | with_reducible refine bset ?_ (by first | (simp; done) | (simp; omega)) _ | with_reducible refine bnext ?_ (by assumption) | with_reducible assumption)); clear KB HO hB c0 c1 c2 c3; have KB := Lib.hid kbn; have HO := Lib.hid hon; have hB := hBn; obtain ⟨c0, c1, c2, c3⟩ := kbn.c4; have qb : ¬ w1.heap.size = wn.heap.size := Nat.ne_of_lt kbn.lt; have qb' : ¬ wn.heap.size = w1.heap.size := fun e => qb e.symm; clear kbn hon hBn)
          | (go_at_call 27; refine (set1 _ _ ?_).mono ?_; (repeat (first | with_reducible exact SlAt.own HO.out | with_reducible refine SlAt.alloc ?_ _ | with_reducible refine SlAt.drew ?_)); rintro e ws ⟨A4, q4, rfl, hs4, hbs⟩; (try have kn2 : Blk ws W0.heap.size 26 #[.int .u64 0, .int .u64 0, .int .u64 0, .slice none 0 0] := (by refine Blk.below ?_ hbs; first | with_reducible exact kn | with_reducible exact Blk.drew kn)); (try have kn2 : Blk ws wn.heap.size 26 #[.int .u64 0, .int .u64 0, .int .u64 0, .slice none 0 0] := (by refine Blk.below ?_ hbs; first | with_reducible exact Blk.new _ _ _ | with_reducible exact Blk.drew (Blk.new _ _ _))); (try obtain ⟨n0, n1, n2, n3⟩ := kn2.c4); (try obtain ⟨m0, m1, m2, m3⟩ := kn2.f4); have hzs := hbs.size; (try simp at hzs); have kbn : Blk ws w1.heap.size 26 #[.int .u64 100, .int .u64 80, .int .u64 0, .slice A 2 c] := (by refine Blk.below ?_ hbs; repeat (first | with_reducible exact KB.out | with_reducible refine Blk.alloc ?_ _ | with_reducible refine Blk.drew ?_)); have hon : ws.ownsRow w.heap.size 44 5 (.slice A 2 c) 2 (flat led2.sl) := (by refine own_below hbs ?_; repeat (first | with_reducible exact HO.out | with_reducible refine World.ownsRow.alloc ?_ _ | with_reducible refine World.ownsRow.drew ?_)); have hBn : Below w.heap.size w ws := (by repeat (first | with_reducible exact Below.refl _ _ | with_reducible refine Below.drew ?_ | with_reducible refine below_drewN ?_ _ | with_reducible refine bal ?_ _ | with_reducible refine bset ?_ (by first | (simp; done) | (simp; omega)) _ | with_reducible refine bnext ?_ (by assumption) | with_reducible assumption)); clear KB HO hB c0 c1 c2 c3; have KB := Lib.hid kbn; have HO := Lib.hid hon; have hB := hBn; obtain ⟨c0, c1, c2, c3⟩ := kbn.c4; have qb : ¬ w1.heap.size = ws.heap.size := Nat.ne_of_lt kbn.lt; have qb' : ¬ ws.heap.size = w1.heap.size := fun e => qb e.symm; clear kbn hon hBn))
      all_goals
        have hzf := hB.size
        clear c0 c1 c2 c3
        go_wp2_with fail
        go_meet
        have hz0 := hb1.size
        have ho5 := own_mono (base' := w.heap.size) hs4 (by first | omega | (simp; omega))
        refine ⟨_, A4, q4, rfl, rfl, ?_, ?_, ?_⟩
        · first | with_reducible exact Blk.new _ _ _ | (with_reducible refine put4 (a := .int .u64 0) (b := .int .u64 0) (c := .int .u64 0) (d := .slice none 0 0) ?_; with_reducible exact kn2)
        · first | with_reducible exact World.ownsRow.alloc ho5 _ | with_reducible exact put4_own kn2 ho5
        · exact (by repeat (first | with_reducible exact Below.refl _ _ | with_reducible refine Below.drew ?_ | with_reducible refine below_drewN ?_ _ | with_reducible refine bal ?_ _ | with_reducible refine bset ?_ (by first | (simp; done) | (simp; omega)) _ | with_reducible refine bnext ?_ (by assumption) | with_reducible assumption))
    case rest =>
      obtain ⟨gT, AT, cT, rfl, rfl, kb, ho, hB5⟩ := hcut
      clear KB HO hB c0 c1 c2 c3 hlb
      have hB := hB5
      have KB := Lib.hid kb
      have HO := Lib.hid ho
      have hlb := kb.lt
      obtain ⟨c0, c1, c2, c3⟩ := kb.c4
      clear kb ho hB5
      go_wp2_with fail
      refine (flo1 _ _ (SlAt.own HO.out)).mono ?_
      rintro e w6 ⟨rfl, hb6⟩
      have hB6 := bnext hB hb6
      have kb6 := KB.out.below hb6
      have ho6 := own_below hb6 HO.out
      clear KB HO hB c0 c1 c2 c3 hlb hb6
      have hB := hB6
      have KB := Lib.hid kb6
      have HO := Lib.hid ho6
      have hlb := kb6.lt
      obtain ⟨c0, c1, c2, c3⟩ := kb6.c4
      clear kb6 ho6 hB6
      go_upto_region 6 with fail
      go_cut [8] (fun s8 wx => s8 = .int .i64 8 ∧ KnownMid w gT 100 80 0 AT 1 cT ledT.sl wx)
      case first =>
        obtain ⟨W0, hW0⟩ : ∃ W0, W0 = w6 := ⟨_, rfl⟩
        have hl0 : gT < W0.heap.size := by rw [hW0]; exact hlb
        have qb0 : ¬ gT = W0.heap.size := Nat.ne_of_lt hl0
        have qb1 : ¬ W0.heap.size = gT := fun e => qb0 e.symm
        subst hW0
        have hzw := hB.size
        go_region_held3 (fun w' => w'.cell? ⟨gT, 0, none⟩ = some (.int .u64 100) ∧ w'.cell? ⟨gT, 1, none⟩ = some (.int .u64 80) ∧ w'.cell? ⟨gT, 2, none⟩ = some (.int .u64 0) ∧ w'.cell? ⟨gT, 3, none⟩ = some (.slice AT 1 cT)) (go_keep)
          (first
            | (go_at_call 31; refine (name_any 1 _ (by decide) (by decide)).mono ?_; rintro e wn ⟨rfl, hbn⟩; (try have kn : Blk wn W0.heap.size 26 #[.int .u64 0, .int .u64 0, .int .u64 0, .slice none 0 0] := (by refine Blk.below ?_ hbn; first | with_reducible exact Blk.new _ _ _ | with_reducible exact Blk.drew (Blk.new _ _ _))); have hzn := hbn.size; (try simp at hzn); have kbn : Blk wn gT 26 #[.int .u64 100, .int .u64 80, .int .u64 0, .slice AT 1 cT] := (by refine Blk.below ?_ hbn; repeat (first | with_reducible exact KB.out | with_reducible refine Blk.alloc ?_ _ | with_reducible refine Blk.drew ?_)); have hon : wn.ownsRow w.heap.size 44 5 (.slice AT 1 cT) 1 (flat ledT.sl) := (by refine own_below hbn ?_; repeat (first | with_reducible exact HO.out | with_reducible refine World.ownsRow.alloc ?_ _ | with_reducible refine World.ownsRow.drew ?_)); have hBn : Below w.heap.size w wn := (by repeat (first | with_reducible exact Below.refl _ _ | with_reducible refine Below.drew ?_ | with_reducible refine below_drewN ?_ _ | with_reducible refine bal ?_ _ | with_reducible refine bset ?_ (by first | (simp; done) | (simp; omega)) _ | with_reducible refine bnext ?_ (by assumption) | with_reducible assumption)); clear KB HO hB c0 c1 c2 c3; have KB := Lib.hid kbn; have HO := Lib.hid hon; have hB := hBn; obtain ⟨c0, c1, c2, c3⟩ := kbn.c4; have qb : ¬ gT = wn.heap.size := Nat.ne_of_lt kbn.lt; have qb' : ¬ wn.heap.size = gT := fun e => qb e.symm; clear kbn hon hBn)
            | (go_at_call 27; refine (set2 _ _ ?_).mono ?_; (repeat (first | with_reducible exact SlAt.own HO.out | with_reducible refine SlAt.alloc ?_ _ | with_reducible refine SlAt.drew ?_)); rintro e ws ⟨A4, q4, rfl, hs4, hbs⟩; (try have kn2 : Blk ws W0.heap.size 26 #[.int .u64 0, .int .u64 0, .int .u64 0, .slice none 0 0] := (by refine Blk.below ?_ hbs; first | with_reducible exact kn | with_reducible exact Blk.drew kn)); (try have kn2 : Blk ws wn.heap.size 26 #[.int .u64 0, .int .u64 0, .int .u64 0, .slice none 0 0] := (by refine Blk.below ?_ hbs; first | with_reducible exact Blk.new _ _ _ | with_reducible exact Blk.drew (Blk.new _ _ _))); (try obtain ⟨n0, n1, n2, n3⟩ := kn2.c4); (try obtain ⟨m0, m1, m2, m3⟩ := kn2.f4); have hzs := hbs.size; (try simp at hzs); have kbn : Blk ws gT 26 #[.int .u64 100, .int .u64 80, .int .u64 0, .slice AT 1 cT] := (by refine Blk.below ?_ hbs; repeat (first | with_reducible exact KB.out | with_reducible refine Blk.alloc ?_ _ | with_reducible refine Blk.drew ?_)); have hon : ws.ownsRow w.heap.size 44 5 (.slice AT 1 cT) 1 (flat ledT.sl) := (by refine own_below hbs ?_; repeat (first | with_reducible exact HO.out | with_reducible refine World.ownsRow.alloc ?_ _ | with_reducible refine World.ownsRow.drew ?_)); have hBn : Below w.heap.size w ws := (by repeat (first | with_reducible exact Below.refl _ _ | with_reducible refine Below.drew ?_ | with_reducible refine below_drewN ?_ _ | with_reducible refine bal ?_ _ | with_reducible refine bset ?_ (by first | (simp; done) | (simp; omega)) _ | with_reducible refine bnext ?_ (by assumption) | with_reducible assumption)); clear KB HO hB c0 c1 c2 c3; have KB := Lib.hid kbn; have HO := Lib.hid hon; have hB := hBn; obtain ⟨c0, c1, c2, c3⟩ := kbn.c4; have qb : ¬ gT = ws.heap.size := Nat.ne_of_lt kbn.lt; have qb' : ¬ ws.heap.size = gT := fun e => qb e.symm; clear kbn hon hBn))
        all_goals
          have hzf := hB.size
          clear c0 c1 c2 c3
          go_wp2_with fail
          go_meet
          refine ⟨rfl, ?_, ?_, ?_⟩
          · first | with_reducible exact Blk.alloc KB.out _ | (with_reducible refine put4_far KB.out ?_; omega)
          · first | with_reducible exact World.ownsRow.alloc HO.out _ | with_reducible exact put4_own kn2 HO.out
          · exact (by repeat (first | with_reducible exact Below.refl _ _ | with_reducible refine Below.drew ?_ | with_reducible refine below_drewN ?_ _ | with_reducible refine bal ?_ _ | with_reducible refine bset ?_ (by first | (simp; done) | (simp; omega)) _ | with_reducible refine bnext ?_ (by assumption) | with_reducible assumption))
      case rest =>
        obtain ⟨rfl, kb, ho, hB5⟩ := hcut
        clear KB HO hB c0 c1 c2 c3 hlb
        have hB := hB5
        have KB := Lib.hid kb
        have HO := Lib.hid ho
        have hlb := kb.lt
        obtain ⟨c0, c1, c2, c3⟩ := kb.c4
        clear kb ho hB5
        go_upto_region 7 with fail
        go_cut [10] (fun s10 wx => s10 = .int .i64 8 ∧ KnownMid w gT 100 80 0 AT 1 cT ledT.sl wx)
        case first =>
          obtain ⟨W0, hW0⟩ : ∃ W0, W0 = wc := ⟨_, rfl⟩
          have hl0 : gT < W0.heap.size := by rw [hW0]; exact hlb
          have qb0 : ¬ gT = W0.heap.size := Nat.ne_of_lt hl0
          have qb1 : ¬ W0.heap.size = gT := fun e => qb0 e.symm
          subst hW0
          have hzw := hB.size
          go_region_held3 (fun w' => w'.cell? ⟨gT, 0, none⟩ = some (.int .u64 100) ∧ w'.cell? ⟨gT, 1, none⟩ = some (.int .u64 80) ∧ w'.cell? ⟨gT, 2, none⟩ = some (.int .u64 0) ∧ w'.cell? ⟨gT, 3, none⟩ = some (.slice AT 1 cT)) (go_keep)
            (first
              | (go_at_call 31; refine (name_any 2 _ (by decide) (by decide)).mono ?_; rintro e wn ⟨rfl, hbn⟩; (try have kn : Blk wn W0.heap.size 26 #[.int .u64 0, .int .u64 0, .int .u64 0, .slice none 0 0] := (by refine Blk.below ?_ hbn; first | with_reducible exact Blk.new _ _ _ | with_reducible exact Blk.drew (Blk.new _ _ _))); have hzn := hbn.size; (try simp at hzn); have kbn : Blk wn gT 26 #[.int .u64 100, .int .u64 80, .int .u64 0, .slice AT 1 cT] := (by refine Blk.below ?_ hbn; repeat (first | with_reducible exact KB.out | with_reducible refine Blk.alloc ?_ _ | with_reducible refine Blk.drew ?_)); have hon : wn.ownsRow w.heap.size 44 5 (.slice AT 1 cT) 1 (flat ledT.sl) := (by refine own_below hbn ?_; repeat (first | with_reducible exact HO.out | with_reducible refine World.ownsRow.alloc ?_ _ | with_reducible refine World.ownsRow.drew ?_)); have hBn : Below w.heap.size w wn := (by repeat (first | with_reducible exact Below.refl _ _ | with_reducible refine Below.drew ?_ | with_reducible refine below_drewN ?_ _ | with_reducible refine bal ?_ _ | with_reducible refine bset ?_ (by first | (simp; done) | (simp; omega)) _ | with_reducible refine bnext ?_ (by assumption) | with_reducible assumption)); clear KB HO hB c0 c1 c2 c3; have KB := Lib.hid kbn; have HO := Lib.hid hon; have hB := hBn; obtain ⟨c0, c1, c2, c3⟩ := kbn.c4; have qb : ¬ gT = wn.heap.size := Nat.ne_of_lt kbn.lt; have qb' : ¬ wn.heap.size = gT := fun e => qb e.symm; clear kbn hon hBn)
              | (go_at_call 27; refine (set3 _ _ ?_).mono ?_; (repeat (first | with_reducible exact SlAt.own HO.out | with_reducible refine SlAt.alloc ?_ _ | with_reducible refine SlAt.drew ?_)); rintro e ws ⟨A4, q4, rfl, hs4, hbs⟩; (try have kn2 : Blk ws W0.heap.size 26 #[.int .u64 0, .int .u64 0, .int .u64 0, .slice none 0 0] := (by refine Blk.below ?_ hbs; first | with_reducible exact kn | with_reducible exact Blk.drew kn)); (try have kn2 : Blk ws wn.heap.size 26 #[.int .u64 0, .int .u64 0, .int .u64 0, .slice none 0 0] := (by refine Blk.below ?_ hbs; first | with_reducible exact Blk.new _ _ _ | with_reducible exact Blk.drew (Blk.new _ _ _))); (try obtain ⟨n0, n1, n2, n3⟩ := kn2.c4); (try obtain ⟨m0, m1, m2, m3⟩ := kn2.f4); have hzs := hbs.size; (try simp at hzs); have kbn : Blk ws gT 26 #[.int .u64 100, .int .u64 80, .int .u64 0, .slice AT 1 cT] := (by refine Blk.below ?_ hbs; repeat (first | with_reducible exact KB.out | with_reducible refine Blk.alloc ?_ _ | with_reducible refine Blk.drew ?_)); have hon : ws.ownsRow w.heap.size 44 5 (.slice AT 1 cT) 1 (flat ledT.sl) := (by refine own_below hbs ?_; repeat (first | with_reducible exact HO.out | with_reducible refine World.ownsRow.alloc ?_ _ | with_reducible refine World.ownsRow.drew ?_)); have hBn : Below w.heap.size w ws := (by repeat (first | with_reducible exact Below.refl _ _ | with_reducible refine Below.drew ?_ | with_reducible refine below_drewN ?_ _ | with_reducible refine bal ?_ _ | with_reducible refine bset ?_ (by first | (simp; done) | (simp; omega)) _ | with_reducible refine bnext ?_ (by assumption) | with_reducible assumption)); clear KB HO hB c0 c1 c2 c3; have KB := Lib.hid kbn; have HO := Lib.hid hon; have hB := hBn; obtain ⟨c0, c1, c2, c3⟩ := kbn.c4; have qb : ¬ gT = ws.heap.size := Nat.ne_of_lt kbn.lt; have qb' : ¬ ws.heap.size = gT := fun e => qb e.symm; clear kbn hon hBn))
          all_goals
            have hzf := hB.size
            clear c0 c1 c2 c3
            go_wp2_with fail
            go_meet
            refine ⟨rfl, ?_, ?_, ?_⟩
            · first | with_reducible exact Blk.alloc KB.out _ | (with_reducible refine put4_far KB.out ?_; omega)
            · first | with_reducible exact World.ownsRow.alloc HO.out _ | with_reducible exact put4_own kn2 HO.out
            · exact (by repeat (first | with_reducible exact Below.refl _ _ | with_reducible refine Below.drew ?_ | with_reducible refine below_drewN ?_ _ | with_reducible refine bal ?_ _ | with_reducible refine bset ?_ (by first | (simp; done) | (simp; omega)) _ | with_reducible refine bnext ?_ (by assumption) | with_reducible assumption))
        case rest =>
          obtain ⟨rfl, kb, ho, hB5⟩ := hcut
          clear KB HO hB c0 c1 c2 c3 hlb
          have KB := Lib.hid kb
          have HO := Lib.hid ho
          clear kb ho
          obtain ⟨t_0, t_1, t_2, t_3⟩ := KB.out.c4
          go_wp2_with fail
          refine (giv1 _ _ (SlAt.own HO.out)).mono ?_
          rintro e w1 ⟨A20, c20, rfl, hown, hb1⟩
          clear t_0 t_1 t_2 t_3
          have t_n1 := Lib.hid (KB.out.below hb1)
          have hB_n1 := bnext hB5 hb1
          clear KB
          have lt_t_1 := t_n1.out.lt
          have U_n1 := Lib.hid hown
          clear hown
          clear hb1
          go_wp2_with fail
          refine (giv2 _ _ (SlAt.own (U_n1.out.alloc _))).mono ?_
          rintro e w2 ⟨A21, c21, rfl, hown, hb2⟩
          have u_n2 := Lib.hid ((Blk.new _ 26 #[.int .u64 100, .int .u64 80, .int .u64 15, .slice A20 1 c20]).below hb2)
          have U_n2 := Lib.hid (own_below hb2 (U_n1.out.alloc _))
          have hB_n2 := bnext (bal hB_n1 _) hb2
          clear U_n1
          have lt_u_2 := u_n2.out.lt
          clear hB_n1
          have V_n2 := Lib.hid hown
          clear hown
          clear hb2
          obtain ⟨u_0, u_1, u_2, u_3⟩ := u_n2.out.c4
          go_wp2_with fail
          refine (giv3 _ _ (SlAt.own (V_n2.out.alloc _))).mono ?_
          rintro e w3 ⟨A22, c22, rfl, hown, hb3⟩
          clear u_0 u_1 u_2 u_3
          have u_n3 := Lib.hid ((u_n2.out.alloc _).below hb3)
          have v_n3 := Lib.hid ((Blk.new _ 26 #[.int .u64 100, .int .u64 80, .int .u64 15, .slice A21 1 c21]).below hb3)
          have U_n3 := Lib.hid (own_below hb3 (U_n2.out.alloc _))
          have hB_n3 := bnext (bal hB_n2 _) hb3
          clear u_n2
          clear U_n2
          have lt_u_3 := u_n3.out.lt
          have lt_v_3 := v_n3.out.lt
          clear hB_n2
          have X_n3 := Lib.hid hown
          clear hown
          clear hb3
          obtain ⟨u_0, u_1, u_2, u_3⟩ := u_n3.out.c4
          go_wp2_with fail
          refine (use1 _ _ (SlAt.own (U_n3.out.alloc _))).mono ?_
          rintro e w4 ⟨rfl, hb4⟩
          clear u_0 u_1 u_2 u_3
          have u_n4 := Lib.hid ((u_n3.out.alloc _).below hb4)
          have x_n4 := Lib.hid ((Blk.new _ 26 #[.int .u64 100, .int .u64 80, .int .u64 20, .slice A22 1 c22]).below hb4)
          have U_n4 := Lib.hid (own_below hb4 (U_n3.out.alloc _))
          have X_n4 := Lib.hid (own_below hb4 (X_n3.out.alloc _))
          have hB_n4 := bnext (bal hB_n3 _) hb4
          clear u_n3
          clear U_n3
          clear X_n3
          have lt_u_4 := u_n4.out.lt
          have lt_x_4 := x_n4.out.lt
          clear hB_n3
          clear hb4
          obtain ⟨u_0, u_1, u_2, u_3⟩ := u_n4.out.c4
          obtain ⟨x_0, x_1, x_2, x_3⟩ := x_n4.out.c4
          go_wp2_with fail
          refine (use2 _ _ (SlAt.own X_n4.out)).mono ?_
          rintro e w5 ⟨rfl, hb5⟩
          clear u_0 u_1 u_2 u_3 x_0 x_1 x_2 x_3
          have u_n5 := Lib.hid (u_n4.out.below hb5)
          have x_n5 := Lib.hid (x_n4.out.below hb5)
          have X_n5 := Lib.hid (own_below hb5 X_n4.out)
          have hB_n5 := bnext hB_n4 hb5
          clear u_n4
          clear x_n4
          clear X_n4
          have lt_u_5 := u_n5.out.lt
          have lt_x_5 := x_n5.out.lt
          clear hB_n4
          clear hb5
          obtain ⟨x_0, x_1, x_2, x_3⟩ := x_n5.out.c4
          go_wp2_with fail
          refine (gra1 _ _ (SlAt.own X_n5.out)).mono ?_
          rintro e w6 ⟨A25, c25, rfl, hown, hb6⟩
          clear x_0 x_1 x_2 x_3
          have x_n6 := Lib.hid (x_n5.out.below hb6)
          have hB_n6 := bnext hB_n5 hb6
          clear x_n5
          have lt_x_6 := x_n6.out.lt
          clear hB_n5
          have Y_n6 := Lib.hid hown
          clear hown
          clear hb6
          go_wp2_with fail
          refine (gra2 _ _ (SlAt.own (Y_n6.out.alloc _))).mono ?_
          rintro e w7 ⟨A26, c26, rfl, hown, hb7⟩
          have y_n7 := Lib.hid ((Blk.new _ 26 #[.int .u64 100, .int .u64 80, .int .u64 20, .slice A25 1 c25]).below hb7)
          have hB_n7 := bnext (bal hB_n6 _) hb7
          have lt_y_7 := y_n7.out.lt
          clear hB_n6
          have Z_n7 := Lib.hid hown
          clear hown
          clear hb7
          go_wp2_with fail
          refine (use3 _ _ (SlAt.own (Z_n7.out.alloc _))).mono ?_
          rintro e w8 ⟨rfl, hb8⟩
          have z_n8 := Lib.hid ((Blk.new _ 26 #[.int .u64 130, .int .u64 80, .int .u64 20, .slice A26 1 c26]).below hb8)
          have Z_n8 := Lib.hid (own_below hb8 (Z_n7.out.alloc _))
          have hB_n8 := bnext (bal hB_n7 _) hb8
          clear Z_n7
          have lt_z_8 := z_n8.out.lt
          clear hB_n7
          clear hb8
          obtain ⟨z_0, z_1, z_2, z_3⟩ := z_n8.out.c4
          go_wp2_with fail
          refine (awake_t _).mono ?_
          rintro e w9 ⟨rfl, hb9⟩
          clear z_0 z_1 z_2 z_3
          have z_n9 := Lib.hid (z_n8.out.below hb9)
          have Z_n9 := Lib.hid (own_below hb9 Z_n8.out)
          have hB_n9 := bnext hB_n8 hb9
          clear z_n8
          clear Z_n8
          have lt_z_9 := z_n9.out.lt
          clear hB_n8
          clear hb9
          go_wp2_with fail
          go_ret
          exact ⟨rfl, hB_n9⟩
end Go.Proofs.Ytdfppaafoecgmaa
