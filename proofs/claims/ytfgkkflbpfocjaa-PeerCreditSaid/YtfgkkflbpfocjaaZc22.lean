/- A frame judged (the program): learning, the verdict, what is owed. A frame met (the program): the errors. Whole structs loaded and stored: run facts for regions that draw their order. -/
import Derived.Test.YtfgkkflbpfocjaaZc21
import Derived.Test.YtfgkkflbpfocjaaZc18
import Derived.Deep.RegionHeld3
namespace Go.Proofs.Ytfgkkflbpfocjaa
open Go.RowKit
set_option linter.unusedVariables false
set_option linter.unusedSimpArgs false

set_option maxRecDepth 100000 in
set_option maxHeartbeats 4000000 in
theorem learn_no (gj gp : Nat) (node th old : Int) (su : Bool) (g n r : Int) (S cs : Nat) (As : Option Addr) (a b f : Int) (T ct : Nat) (At : Option Addr) (K ck : Nat) (Ak : Option Addr) (boot : Int) (kind frm tto mine yours fa fb inode iseq ioff bnode bseq boff dest prio born life total : Int) (data : ByteArray) (lr : Bool) (w : World) (hJ : Blk w gj 101 #[.pointer (some ⟨gp, 0, none⟩), .int .u64 boot, .int .i64 kind, .int .i64 frm, .int .i64 tto, .int .u64 mine, .int .u64 yours, .int .u64 fa, .int .u64 fb, .int .i64 inode, .int .u64 iseq, .int .i64 ioff, .int .i64 bnode, .int .u64 bseq, .int .i64 boff, .int .i64 dest, .int .i64 prio, .int .i64 born, .int .i64 life, .int .i64 total, .string data, .bool lr]) (hP : Blk w gp 31 #[.int .i64 node, .int .u64 th, .bool su, .int .u64 old, .int .u64 g, .int .u64 n, .int .u64 r, .slice As S cs, .int .u64 a, .int .u64 b, .int .u64 f, .slice At T ct, .slice Ak K ck]) (hne : gj ≠ gp) (hm : ¬ mine > th) :
    Calls Try.prog 55 #[.pointer (some ⟨gj, 0, none⟩)] w (fun e w' => e = .returned (.pointer (some ⟨gj, 0, none⟩)) ∧ ∃ k, w' = w.drewN k) := by
  have HJ := Lib.hid hJ
  have HP := Lib.hid hP
  have j0 := hJ.cell 0
  have j1 := hJ.cell 1
  have j5 := hJ.cell 5
  have j6 := hJ.cell 6
  have j21 := hJ.cell 21
  have jf := hJ.frozen 21
  have p0 := hP.cell 0
  have p1 := hP.cell 1
  replace j0 : w.cell? ⟨gj, 0, none⟩ = some (.pointer (some ⟨gp, 0, none⟩)) := j0
  replace j1 : w.cell? ⟨gj, 1, none⟩ = some (.int .u64 boot) := j1
  replace j5 : w.cell? ⟨gj, 5, none⟩ = some (.int .u64 mine) := j5
  replace j6 : w.cell? ⟨gj, 6, none⟩ = some (.int .u64 yours) := j6
  replace j21 : w.cell? ⟨gj, 21, none⟩ = some (.bool lr) := j21
  replace p0 : w.cell? ⟨gp, 0, none⟩ = some (.int .i64 node) := p0
  replace p1 : w.cell? ⟨gp, 1, none⟩ = some (.int .u64 th) := p1
  have hlj := hJ.lt
  have hlp := hP.lt
  have hn1 : ¬ gj = gp := hne
  have hn2 : ¬ gp = gj := fun h => hne h.symm
  clear hJ hP hne j1 j6 j21 jf p0
  go_enter Try.func55, Try.ntmps55
  go_upto_region 1 with fail
  go_quiet (fail)
  go_wp2_with fail
  go_ret
  exact ⟨rfl, _, rfl⟩

set_option maxRecDepth 100000 in
set_option maxHeartbeats 4000000 in
theorem learn_yes (gj gp : Nat) (node th old : Int) (su : Bool) (g n r : Int) (S cs : Nat) (As : Option Addr) (a b f : Int) (T ct : Nat) (At : Option Addr) (K ck : Nat) (Ak : Option Addr) (boot : Int) (kind frm tto mine yours fa fb inode iseq ioff bnode bseq boff dest prio born life total : Int) (data : ByteArray) (lr : Bool) (w : World) (hJ : Blk w gj 101 #[.pointer (some ⟨gp, 0, none⟩), .int .u64 boot, .int .i64 kind, .int .i64 frm, .int .i64 tto, .int .u64 mine, .int .u64 yours, .int .u64 fa, .int .u64 fb, .int .i64 inode, .int .u64 iseq, .int .i64 ioff, .int .i64 bnode, .int .u64 bseq, .int .i64 boff, .int .i64 dest, .int .i64 prio, .int .i64 born, .int .i64 life, .int .i64 total, .string data, .bool lr]) (hP : Blk w gp 31 #[.int .i64 node, .int .u64 th, .bool su, .int .u64 old, .int .u64 g, .int .u64 n, .int .u64 r, .slice As S cs, .int .u64 a, .int .u64 b, .int .u64 f, .slice At T ct, .slice Ak K ck]) (hne : gj ≠ gp) (hm : mine > th) (B : Nat) (hBj : B ≤ gj) (hBp : B ≤ gp) :
    Calls Try.prog 55 #[.pointer (some ⟨gj, 0, none⟩)] w (fun e w' => e = .returned (.pointer (some ⟨gj, 0, none⟩)) ∧ Blk w' gp 31 #[.int .i64 node, .int .u64 mine, .bool false, .int .u64 0, .int .u64 0, .int .u64 0, .int .u64 0, .slice none 0 0, .int .u64 0, .int .u64 0, .int .u64 0, .slice none 0 0, .slice none 0 0] ∧ Blk w' gj 101 #[.pointer (some ⟨gp, 0, none⟩), .int .u64 boot, .int .i64 kind, .int .i64 frm, .int .i64 tto, .int .u64 mine, .int .u64 yours, .int .u64 fa, .int .u64 fb, .int .i64 inode, .int .u64 iseq, .int .i64 ioff, .int .i64 bnode, .int .u64 bseq, .int .i64 boff, .int .i64 dest, .int .i64 prio, .int .i64 born, .int .i64 life, .int .i64 total, .string data, .bool true] ∧ Below B w w') := by
  have HJ := Lib.hid hJ
  have HP := Lib.hid hP
  have j0 := hJ.cell 0
  have j1 := hJ.cell 1
  have j5 := hJ.cell 5
  have j6 := hJ.cell 6
  have j21 := hJ.cell 21
  have jf := hJ.frozen 21
  have p0 := hP.cell 0
  have p1 := hP.cell 1
  replace j0 : w.cell? ⟨gj, 0, none⟩ = some (.pointer (some ⟨gp, 0, none⟩)) := j0
  replace j1 : w.cell? ⟨gj, 1, none⟩ = some (.int .u64 boot) := j1
  replace j5 : w.cell? ⟨gj, 5, none⟩ = some (.int .u64 mine) := j5
  replace j6 : w.cell? ⟨gj, 6, none⟩ = some (.int .u64 yours) := j6
  replace j21 : w.cell? ⟨gj, 21, none⟩ = some (.bool lr) := j21
  replace p0 : w.cell? ⟨gp, 0, none⟩ = some (.int .i64 node) := p0
  replace p1 : w.cell? ⟨gp, 1, none⟩ = some (.int .u64 th) := p1
  have hlj := hJ.lt
  have hlp := hP.lt
  have hn1 : ¬ gj = gp := hne
  have hn2 : ¬ gp = gj := fun h => hne h.symm
  obtain ⟨c0, c1, c2, c3, c4, c5, c6, c7, c8, c9, c10, c11, c12⟩ := hP.c13
  obtain ⟨f0, f1, f2, f3, f4, f5, f6, f7, f8, f9, f10, f11, f12⟩ := hP.f13
  clear hJ hP hne p0 p1
  go_enter Try.func55, Try.ntmps55
  go_upto_region 1 with fail
  go_quiet (fail)
  go_upto_region 2 with fail
  go_region
  all_goals
    go_wp2_with fail
    go_ret
    refine ⟨rfl, ?_, ?_, ?_⟩
    · exact Blk.far (Blk.set13 (HP.out.drewN _) (.int .i64 node) (.int .u64 mine) (.bool false) (.int .u64 0) (.int .u64 0) (.int .u64 0) (.int .u64 0) (.slice none 0 0) (.int .u64 0) (.int .u64 0) (.int .u64 0) (.slice none 0 0) (.slice none 0 0)) (p := ⟨gj, 21, none⟩) hn2 (.bool true)
    · exact Blk.set22 (Blk.far13 (HJ.out.drewN _) hn1 (.int .i64 node) (.int .u64 mine) (.bool false) (.int .u64 0) (.int .u64 0) (.int .u64 0) (.int .u64 0) (.slice none 0 0) (.int .u64 0) (.int .u64 0) (.int .u64 0) (.slice none 0 0) (.slice none 0 0)) (.bool true)
    · repeat (first | with_reducible exact Below.refl _ _ | with_reducible refine Below.drew ?_ | with_reducible refine below_drewN ?_ _ | with_reducible refine Below.setCell ?_ (by first | exact hBp | exact hBj) _)

set_option maxRecDepth 100000 in
set_option maxHeartbeats 4000000 in
theorem verdict_unk (gj gp : Nat) (node th old : Int) (su : Bool) (g n r : Int) (S cs : Nat) (As : Option Addr) (a b f : Int) (T ct : Nat) (At : Option Addr) (K ck : Nat) (Ak : Option Addr) (boot : Int) (kind frm tto mine yours fa fb inode iseq ioff bnode bseq boff dest prio born life total : Int) (data : ByteArray) (lr : Bool) (w : World) (hJ : Blk w gj 101 #[.pointer (some ⟨gp, 0, none⟩), .int .u64 boot, .int .i64 kind, .int .i64 frm, .int .i64 tto, .int .u64 mine, .int .u64 yours, .int .u64 fa, .int .u64 fb, .int .i64 inode, .int .u64 iseq, .int .i64 ioff, .int .i64 bnode, .int .u64 bseq, .int .i64 boff, .int .i64 dest, .int .i64 prio, .int .i64 born, .int .i64 life, .int .i64 total, .string data, .bool lr]) (hP : Blk w gp 31 #[.int .i64 node, .int .u64 th, .bool su, .int .u64 old, .int .u64 g, .int .u64 n, .int .u64 r, .slice As S cs, .int .u64 a, .int .u64 b, .int .u64 f, .slice At T ct, .slice Ak K ck]) (hne : gj ≠ gp) (hm : yours ≠ boot) :
    Calls Try.prog 56 #[.pointer (some ⟨gj, 0, none⟩)] w (fun e w' => e = .returned (.int .i64 2) ∧ ∃ k, w' = w.drewN k) := by
  have HJ := Lib.hid hJ
  have HP := Lib.hid hP
  have j0 := hJ.cell 0
  have j1 := hJ.cell 1
  have j5 := hJ.cell 5
  have j6 := hJ.cell 6
  have j21 := hJ.cell 21
  have jf := hJ.frozen 21
  have p0 := hP.cell 0
  have p1 := hP.cell 1
  replace j0 : w.cell? ⟨gj, 0, none⟩ = some (.pointer (some ⟨gp, 0, none⟩)) := j0
  replace j1 : w.cell? ⟨gj, 1, none⟩ = some (.int .u64 boot) := j1
  replace j5 : w.cell? ⟨gj, 5, none⟩ = some (.int .u64 mine) := j5
  replace j6 : w.cell? ⟨gj, 6, none⟩ = some (.int .u64 yours) := j6
  replace j21 : w.cell? ⟨gj, 21, none⟩ = some (.bool lr) := j21
  replace p0 : w.cell? ⟨gp, 0, none⟩ = some (.int .i64 node) := p0
  replace p1 : w.cell? ⟨gp, 1, none⟩ = some (.int .u64 th) := p1
  have hlj := hJ.lt
  have hlp := hP.lt
  have hn1 : ¬ gj = gp := hne
  have hn2 : ¬ gp = gj := fun h => hne h.symm
  have hb : (yours != boot) = true := by simpa using hm
  clear hJ hP hne j5 j21 jf p0 p1 hm
  go_enter Try.func56, Try.ntmps56
  go_upto_region 1 with fail
  go_quiet (fail)
  go_wp2_with fail
  go_ret
  exact ⟨rfl, _, rfl⟩

set_option maxRecDepth 100000 in
set_option maxHeartbeats 4000000 in
theorem verdict_fresh (gj gp : Nat) (node th old : Int) (su : Bool) (g n r : Int) (S cs : Nat) (As : Option Addr) (a b f : Int) (T ct : Nat) (At : Option Addr) (K ck : Nat) (Ak : Option Addr) (boot : Int) (kind frm tto mine yours fa fb inode iseq ioff bnode bseq boff dest prio born life total : Int) (data : ByteArray) (lr : Bool) (w : World) (hJ : Blk w gj 101 #[.pointer (some ⟨gp, 0, none⟩), .int .u64 boot, .int .i64 kind, .int .i64 frm, .int .i64 tto, .int .u64 mine, .int .u64 yours, .int .u64 fa, .int .u64 fb, .int .i64 inode, .int .u64 iseq, .int .i64 ioff, .int .i64 bnode, .int .u64 bseq, .int .i64 boff, .int .i64 dest, .int .i64 prio, .int .i64 born, .int .i64 life, .int .i64 total, .string data, .bool lr]) (hP : Blk w gp 31 #[.int .i64 node, .int .u64 th, .bool su, .int .u64 old, .int .u64 g, .int .u64 n, .int .u64 r, .slice As S cs, .int .u64 a, .int .u64 b, .int .u64 f, .slice At T ct, .slice Ak K ck]) (hne : gj ≠ gp) (hm : yours = boot) (B : Nat) (hBj : B ≤ gj) (hBp : B ≤ gp) :
    Calls Try.prog 56 #[.pointer (some ⟨gj, 0, none⟩)] w (fun e w' => e = .returned (.int .i64 3) ∧ Blk w' gp 31 #[.int .i64 node, .int .u64 th, .bool true, .int .u64 0, .int .u64 g, .int .u64 n, .int .u64 r, .slice As S cs, .int .u64 a, .int .u64 b, .int .u64 f, .slice At T ct, .slice Ak K ck] ∧ Blk w' gj 101 #[.pointer (some ⟨gp, 0, none⟩), .int .u64 boot, .int .i64 kind, .int .i64 frm, .int .i64 tto, .int .u64 mine, .int .u64 yours, .int .u64 fa, .int .u64 fb, .int .i64 inode, .int .u64 iseq, .int .i64 ioff, .int .i64 bnode, .int .u64 bseq, .int .i64 boff, .int .i64 dest, .int .i64 prio, .int .i64 born, .int .i64 life, .int .i64 total, .string data, .bool lr] ∧ Below B w w' ∧ (∀ k v n xs, RowB (gp + 1) w k v n xs → RowB (gp + 1) w' k v n xs)) := by
  have HJ := Lib.hid hJ
  have HP := Lib.hid hP
  have j0 := hJ.cell 0
  have j1 := hJ.cell 1
  have j5 := hJ.cell 5
  have j6 := hJ.cell 6
  have j21 := hJ.cell 21
  have jf := hJ.frozen 21
  have p0 := hP.cell 0
  have p1 := hP.cell 1
  replace j0 : w.cell? ⟨gj, 0, none⟩ = some (.pointer (some ⟨gp, 0, none⟩)) := j0
  replace j1 : w.cell? ⟨gj, 1, none⟩ = some (.int .u64 boot) := j1
  replace j5 : w.cell? ⟨gj, 5, none⟩ = some (.int .u64 mine) := j5
  replace j6 : w.cell? ⟨gj, 6, none⟩ = some (.int .u64 yours) := j6
  replace j21 : w.cell? ⟨gj, 21, none⟩ = some (.bool lr) := j21
  replace p0 : w.cell? ⟨gp, 0, none⟩ = some (.int .i64 node) := p0
  replace p1 : w.cell? ⟨gp, 1, none⟩ = some (.int .u64 th) := p1
  have hlj := hJ.lt
  have hlp := hP.lt
  have hn1 : ¬ gj = gp := hne
  have hn2 : ¬ gp = gj := fun h => hne h.symm
  have hb : (yours != boot) = false := by simpa using hm
  have c2 := hP.cell 2
  have c3 := hP.cell 3
  have f2 := hP.frozen 2
  have f3 := hP.frozen 3
  replace c2 : w.cell? ⟨gp, 2, none⟩ = some (.bool su) := c2
  replace c3 : w.cell? ⟨gp, 3, none⟩ = some (.int .u64 old) := c3
  clear hJ hP hne j5 j21 jf p0 p1 hm
  go_enter Try.func56, Try.ntmps56
  go_upto_region 1 with fail
  go_quiet (fail)
  go_upto_region 3 with fail
  go_region
  all_goals
    go_wp2_with fail
    go_ret
    refine ⟨rfl, ?_, ?_, ?_, ?_⟩
    · exact Blk.set23 (HP.out.drewN _) (.bool true) (.int .u64 0)
    · exact Blk.far23 (HJ.out.drewN _) hn1 (.bool true) (.int .u64 0)
    · repeat (first | with_reducible exact Below.refl _ _ | with_reducible refine Below.drew ?_ | with_reducible refine below_drewN ?_ _ | with_reducible refine Below.setCell ?_ (by first | exact hBp | exact hBj) _)
    · intro k v n xs h
      exact RowB.set (RowB.set (RowB.below h (below_drewN (Below.refl _ _) _)) (p := ⟨gp, 2, none⟩) (by show gp < _; omega) _) (p := ⟨gp, 3, none⟩) (by show gp < _; omega) _

set_option maxRecDepth 100000 in
set_option maxHeartbeats 4000000 in
theorem owed_2 (gj gp : Nat) (node th old : Int) (su : Bool) (g n r : Int) (S cs : Nat) (As : Option Addr) (a b f : Int) (T ct : Nat) (At : Option Addr) (K ck : Nat) (Ak : Option Addr) (boot : Int) (kind frm tto mine yours fa fb inode iseq ioff bnode bseq boff dest prio born life total : Int) (data : ByteArray) (lr : Bool) (w : World) (hJ : Blk w gj 101 #[.pointer (some ⟨gp, 0, none⟩), .int .u64 boot, .int .i64 kind, .int .i64 frm, .int .i64 tto, .int .u64 mine, .int .u64 yours, .int .u64 fa, .int .u64 fb, .int .i64 inode, .int .u64 iseq, .int .i64 ioff, .int .i64 bnode, .int .u64 bseq, .int .i64 boff, .int .i64 dest, .int .i64 prio, .int .i64 born, .int .i64 life, .int .i64 total, .string data, .bool lr]) (hP : Blk w gp 31 #[.int .i64 node, .int .u64 th, .bool su, .int .u64 old, .int .u64 g, .int .u64 n, .int .u64 r, .slice As S cs, .int .u64 a, .int .u64 b, .int .u64 f, .slice At T ct, .slice Ak K ck]) (hne : gj ≠ gp) :
    Calls Try.prog 57 #[.pointer (some ⟨gj, 0, none⟩), .int .i64 2] w (fun e w' => e = .returned (.bool true) ∧ w' = w) := by
  have HJ := Lib.hid hJ
  have HP := Lib.hid hP
  have j0 := hJ.cell 0
  have j1 := hJ.cell 1
  have j5 := hJ.cell 5
  have j6 := hJ.cell 6
  have j21 := hJ.cell 21
  have jf := hJ.frozen 21
  have p0 := hP.cell 0
  have p1 := hP.cell 1
  replace j0 : w.cell? ⟨gj, 0, none⟩ = some (.pointer (some ⟨gp, 0, none⟩)) := j0
  replace j1 : w.cell? ⟨gj, 1, none⟩ = some (.int .u64 boot) := j1
  replace j5 : w.cell? ⟨gj, 5, none⟩ = some (.int .u64 mine) := j5
  replace j6 : w.cell? ⟨gj, 6, none⟩ = some (.int .u64 yours) := j6
  replace j21 : w.cell? ⟨gj, 21, none⟩ = some (.bool lr) := j21
  replace p0 : w.cell? ⟨gp, 0, none⟩ = some (.int .i64 node) := p0
  replace p1 : w.cell? ⟨gp, 1, none⟩ = some (.int .u64 th) := p1
  have hlj := hJ.lt
  have hlp := hP.lt
  have hn1 : ¬ gj = gp := hne
  have hn2 : ¬ gp = gj := fun h => hne h.symm
  clear hJ hP hne j0 j1 j5 j6 jf p0 p1
  go_enter Try.func57, Try.ntmps57
  go_wp2_with fail
  go_ret
  exact ⟨rfl, rfl⟩

set_option maxRecDepth 100000 in
set_option maxHeartbeats 4000000 in
theorem owed_3 (gj gp : Nat) (node th old : Int) (su : Bool) (g n r : Int) (S cs : Nat) (As : Option Addr) (a b f : Int) (T ct : Nat) (At : Option Addr) (K ck : Nat) (Ak : Option Addr) (boot : Int) (kind frm tto mine yours fa fb inode iseq ioff bnode bseq boff dest prio born life total : Int) (data : ByteArray) (lr : Bool) (w : World) (hJ : Blk w gj 101 #[.pointer (some ⟨gp, 0, none⟩), .int .u64 boot, .int .i64 kind, .int .i64 frm, .int .i64 tto, .int .u64 mine, .int .u64 yours, .int .u64 fa, .int .u64 fb, .int .i64 inode, .int .u64 iseq, .int .i64 ioff, .int .i64 bnode, .int .u64 bseq, .int .i64 boff, .int .i64 dest, .int .i64 prio, .int .i64 born, .int .i64 life, .int .i64 total, .string data, .bool lr]) (hP : Blk w gp 31 #[.int .i64 node, .int .u64 th, .bool su, .int .u64 old, .int .u64 g, .int .u64 n, .int .u64 r, .slice As S cs, .int .u64 a, .int .u64 b, .int .u64 f, .slice At T ct, .slice Ak K ck]) (hne : gj ≠ gp) :
    Calls Try.prog 57 #[.pointer (some ⟨gj, 0, none⟩), .int .i64 3] w (fun e w' => e = .returned (.bool lr) ∧ w' = w) := by
  have HJ := Lib.hid hJ
  have HP := Lib.hid hP
  have j0 := hJ.cell 0
  have j1 := hJ.cell 1
  have j5 := hJ.cell 5
  have j6 := hJ.cell 6
  have j21 := hJ.cell 21
  have jf := hJ.frozen 21
  have p0 := hP.cell 0
  have p1 := hP.cell 1
  replace j0 : w.cell? ⟨gj, 0, none⟩ = some (.pointer (some ⟨gp, 0, none⟩)) := j0
  replace j1 : w.cell? ⟨gj, 1, none⟩ = some (.int .u64 boot) := j1
  replace j5 : w.cell? ⟨gj, 5, none⟩ = some (.int .u64 mine) := j5
  replace j6 : w.cell? ⟨gj, 6, none⟩ = some (.int .u64 yours) := j6
  replace j21 : w.cell? ⟨gj, 21, none⟩ = some (.bool lr) := j21
  replace p0 : w.cell? ⟨gp, 0, none⟩ = some (.int .i64 node) := p0
  replace p1 : w.cell? ⟨gp, 1, none⟩ = some (.int .u64 th) := p1
  have hlj := hJ.lt
  have hlp := hP.lt
  have hn1 : ¬ gj = gp := hne
  have hn2 : ¬ gp = gj := fun h => hne h.symm
  clear hJ hP hne j0 j1 j5 j6 jf p0 p1
  go_enter Try.func57, Try.ntmps57
  go_wp2_with fail
  go_ret
  exact ⟨rfl, rfl⟩

end Go.Proofs.Ytfgkkflbpfocjaa

namespace Go.Proofs.Ytfgkkflbpfocjaa
open Go.RowKit
set_option linter.unusedVariables false
set_option linter.unusedSimpArgs false

/-- the results: a struct in a cell, and three more -/
theorem results_cell3 {P : Program} {fn : Func} {p u1 u2 u3 : Tmp} {ty : TypeId} (h : fn.results = #[.cell p ty, .tmp u1, .tmp u2, .tmp u3]) (tmps : Array Value) (w : World) (g : Nat) (t : TypeId) (cs : Array Value) (fr : Nat × Nat) (d : TypeDesc)
    (hp : tmps.getD p undef = .pointer (some ⟨g, 0, none⟩)) (hg : w.heap[g]? = some (.cells cs t fr))
    (hu : P.underlying ty = some d) (hd : (match d with | .struct _ | .array _ _ => true | _ => false) = true) (hi : (P.info? ty).map (·.size) = some cs.size) :
    (results fn tmps).run P w = .ok (.tuple #[.agg cs, tmps.getD u1 undef, tmps.getD u2 undef, tmps.getD u3 undef]) w := by
  have hp' : tmps[p]?.getD undef = .pointer (some ⟨g, 0, none⟩) := by simpa using hp
  simp [results, h, hp', asAddr, run_loadVar_row w g t ty cs fr d hg hu hd hi, Sem.run_bind, Result.andThen]

end Go.Proofs.Ytfgkkflbpfocjaa

namespace Go.Proofs.Ytfgkkflbpfocjaa
open Go.RowKit
set_option linter.unusedVariables false
set_option linter.unusedSimpArgs false

theorem tkH {P : Program} {md : Region.Mode} {ops : Array Oper} {Q : Exit → Act → World → Prop} {S : World → Prop} (i : Nat) {oi : Oper} {v : Value} {fuel : Nat} {listed : Array Bool} {a : Act} {w : World} (hi : ops[i]? = some oi) (hy : YieldsIf P ops S oi v a) (hS : S w)
    (h : wpAnyH P md ops Q S fuel (listed.setIfInBounds i true) (a.put oi.dst v) w) (hs : Region.noSelect ops = true := by kernel_rfl) (hf : Region.free md ops listed i = true := by kernel_rfl) (hr : (Region.ready md ops listed).contains i = true := by kernel_rfl)
    (hQ : ∀ c a w, Q (.panic c) (a.put oi.dst v) w → Q (.panic c) a w := by exact fun _ _ _ h => h) : wpAnyH P md ops Q S (fuel + 1) listed a w := wpAnyH_take hi hs hf hr hQ hy hS h
theorem rdH {P : Program} {md : Region.Mode} {ops : Array Oper} {Q : Exit → Act → World → Prop} {S : World → Prop} (rs : List Nat) {fuel : Nat} {listed : Array Bool} {a : Act} {w : World} (h : AllReadyH P md ops Q S fuel listed a w rs)
    (hr : Region.ready md ops listed = rs := by kernel_rfl) (hne : rs ≠ [] := by simp) : wpAnyH P md ops Q S (fuel + 1) listed a w := wpAnyH_ready hr hne h
theorem c1H {P : Program} {md : Region.Mode} {ops : Array Oper} {Q : Exit → Act → World → Prop} {S : World → Prop} {fuel : Nat} {listed : Array Bool} {a : Act} {w : World} {i : Nat} {o : Oper} (ho : ops[i]? = some o)
    (h : ∀ K' : Act → World → Prop, Shut (∀ a w, S w → (S w → wpAnyH P md ops Q S fuel (listed.setIfInBounds i true) a w) → K' a w) → if Region.wanted o (yielded ops a.tmps) = true then Oper.wp P o a w K' Q else K' (a.put o.dst undef) w) : AllReadyH P md ops Q S fuel listed a w [i] := AllReadyH.cons ho h AllReadyH.nil
/-- a load of a struct whose block is known whole may be taken first -/
theorem yieldsIf_row {P : Program} {ops : Array Oper} {S : World → Prop} {op : Oper} {a : Act} (g : Nat) (t : TypeId) (cs : Array Value) (ty : TypeId) (x : Operand) (d : TypeDesc) (hw : Region.wanted op (yielded ops a.tmps) = true) (ho : op.op = .load ty x)
    (hx : a.eval x = .pointer (some ⟨g, 0, none⟩)) (hS : ∀ w, S w → Blk w g t cs)
    (hu : P.underlying ty = some d) (hd : (match d with | .struct _ | .array _ _ => true | _ => false) = true) (hi : (P.info? ty).map (·.size) = some cs.size) : YieldsIf P ops S op (.agg cs) a :=
  .inl ⟨hw, fun w hw' => by
    unfold execOp
    simp only [ho, hx, Instr.loadAt, Instr.sureAddr, Sem.run_bind, Sem.run_pure, Result.andThen_ok, run_loadVar_row w g t ty cs (0, 0) d (hS w hw') hu hd hi]⟩
theorem yieldsIf_pure {P : Program} {ops : Array Oper} {S : World → Prop} {op : Oper} {a : Act} (x : Operand) (v : Value) (hw : Region.wanted op (yielded ops a.tmps) = true) (ho : op.op = .move x ∨ op.op = .assign x) (hx : a.eval x = v) : YieldsIf P ops S op v a :=
  .inl ⟨hw, fun w _ => by
    unfold execOp
    rcases ho with ho | ho <;> simp only [ho, hx, Sem.run_pure]⟩
theorem yieldsIf_build {P : Program} {ops : Array Oper} {S : World → Prop} {op : Oper} {a : Act} (t : TypeId) (parts : Array (Nat × Operand)) (parts' : Array (Nat × Value)) (v : Value) (hw : Region.wanted op (yielded ops a.tmps) = true) (ho : op.op = .build t parts) (hp : (parts.map fun (i, x) => (i, a.eval x)) = parts') (h : ∀ w, (Instr.build t parts').run P w = .ok v w) : YieldsIf P ops S op v a :=
  .inl ⟨hw, fun w _ => by
    unfold execOp
    simp only [ho, hp, Sem.run_bind, Sem.run_pure, Result.andThen_ok, h]⟩
theorem yieldsIf_cell {P : Program} {ops : Array Oper} {S : World → Prop} {op : Oper} {a : Act} (v : Value) (hw : Region.wanted op (yielded ops a.tmps) = true) (h : ∀ w, S w → (execOp a.eval op).run P w = .ok (.value v) w) : YieldsIf P ops S op v a := .inl ⟨hw, h⟩
def writeL (C : Array Value) : Nat → List Value → Array Value
  | _, [] => C
  | o, v :: r => writeL (C.setIfInBounds o v) (o + 1) r
theorem writeL_size : ∀ (l : List Value) (C : Array Value) (o : Nat), (writeL C o l).size = C.size
  | [], C, o => rfl
  | v :: r, C, o => by rw [writeL, writeL_size r]; simp
theorem writeL_get : ∀ (l : List Value) (C : Array Value) (o i : Nat), i < C.size → (writeL C o l)[i]? = if o ≤ i ∧ i < o + l.length then l[i - o]? else C[i]?
  | [], C, o, i, _ => by simp only [writeL, List.length_nil, Nat.add_zero]; rw [if_neg (by omega)]
  | v :: r, C, o, i, h => by
    rw [writeL, writeL_get r _ (o + 1) i (by simpa using h)]
    by_cases h1 : o = i
    · subst h1
      rw [if_neg (by omega), if_pos (by simp)]
      simp [h]
    · by_cases h2 : o + 1 ≤ i ∧ i < o + 1 + r.length
      · rw [if_pos h2, if_pos (by simp only [List.length_cons]; omega), show i - o = (i - (o + 1)) + 1 by omega]; simp
      · rw [if_neg h2, if_neg (by simp only [List.length_cons]; omega), Array.getElem?_setIfInBounds_ne h1]
theorem writeL_all {C cs : Array Value} (h : C.size = cs.size) : writeL C 0 cs.toList = cs := by
  refine Array.ext_getElem? fun i => ?_
  by_cases hi : i < C.size
  · rw [writeL_get _ _ _ _ hi, if_pos (by simp; omega)]; simp
  · rw [Array.getElem?_eq_none (by rw [writeL_size]; omega), Array.getElem?_eq_none (by omega)]
theorem Blk.setCells {g : Nat} {t : TypeId} : ∀ (l : List Value) {w : World} {C : Array Value} (o : Nat), Blk w g t C → Blk (w.setCells g o l) g t (writeL C o l)
  | [], _, _, _, h => h
  | v :: r, _, _, o, h => Blk.setCells r (o + 1) (h.set o v)
theorem Blk.setAll {w : World} {g : Nat} {t : TypeId} {C cs : Array Value} (h : Blk w g t C) (hs : C.size = cs.size) : Blk (w.setCells g 0 cs.toList) g t cs := by
  have := Blk.setCells cs.toList 0 h
  rwa [writeL_all hs] at this
theorem Blk.farAll {g g' : Nat} {t : TypeId} {C : Array Value} (hne : ¬ g = g') : ∀ (l : List Value) {w : World} (o : Nat), Blk w g t C → Blk (w.setCells g' o l) g t C
  | [], _, _, h => h
  | v :: r, _, o, h => Blk.farAll hne r (o + 1) (h.far (p := ⟨g', o, none⟩) hne v)
theorem below_setCells {n : Nat} {w : World} {g : Nat} (hg : n ≤ g) : ∀ (l : List Value) {w' : World} (o : Nat), Below n w w' → Below n w (w'.setCells g o l)
  | [], _, _, h => h
  | v :: r, _, o, h => below_setCells hg r (o + 1) (h.setCell (p := ⟨g, o, none⟩) hg v)
theorem RowB.setCells {B : Nat} {k : Nat} {v : Value} {n : Nat} {xs : List Value} {g : Nat} (hg : g < B) : ∀ (l : List Value) {w : World} (o : Nat), RowB B w k v n xs → RowB B (w.setCells g o l) k v n xs
  | [], _, _, h => h
  | u :: r, _, o, h => RowB.setCells hg r (o + 1) (h.set (p := ⟨g, o, none⟩) hg u)
end Go.Proofs.Ytfgkkflbpfocjaa

