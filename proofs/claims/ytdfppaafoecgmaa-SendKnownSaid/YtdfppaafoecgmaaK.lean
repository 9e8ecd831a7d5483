/- Contract: the chapter's examples are well. -/
import Derived.Test.YtdfppaafoecgmaaJ
namespace Go.Proofs.Ytdfppaafoecgmaa
open Go.RowKit
set_option linter.unusedVariables false
set_option linter.unusedSimpArgs false

theorem useE_t (s : Led) (hw : Wf s) (n : Int) (hn : usE s = n) (hc : (chk s).1 = 0) (v : Value) (w : World) (hS : SlAt w 5 v s.sl.length (flat s.sl)) :
    Calls Try.prog 16 #[.agg #[.int .u64 s.g, .int .u64 s.n, .int .u64 s.r, v]] w (Ret2 .u64 .i64 n 0 w) := by
  have h := Usable_any s hw v w hS
  rwa [hn, hc] at h
theorem flE_t (s : Led) (hw : Wf s) (n : Int) (hn : flE s = n) (hc : (chk s).1 = 0) (v : Value) (w : World) (hS : SlAt w 5 v s.sl.length (flat s.sl)) :
    Calls Try.prog 18 #[.agg #[.int .u64 s.g, .int .u64 s.n, .int .u64 s.r, v]] w (Ret2 .u64 .i64 n 0 w) := by
  have h := Floor_any s hw v w hS
  rwa [hn, hc] at h

set_option maxHeartbeats 1000000 in
theorem use_t (s : Led) (hw : Wf s) (n : Int) (hn : usE s = n) (hc : (chk s).1 = 0) (v : Value) (w : World) (hS : SlAt w 5 v s.sl.length (flat s.sl)) :
    Calls Try.prog 32 #[.agg #[.int .u64 s.g, .int .u64 s.n, .int .u64 s.r, v], .int .u64 n] w (RetB true w) := by
  have HC := fun w' (h : SlAt w' 5 v s.sl.length (flat s.sl)) => useE_t s hw n hn hc v w' h
  have HS := Lib.hid hS
  clear hS hn hc hw
  obtain ⟨g, m, r, l⟩ := s
  dsimp only at *
  go_enter Try.func32, Try.ntmps32
  go_wp2_with (first
    | (go_at_call 16; refine (HC _ ?_).mono ?_; exact HS.out.alloc _; rintro e w1 ⟨rfl, hb1⟩))
  go_ret
  exact ⟨rfl, (by repeat (first | with_reducible exact Below.refl _ _ | with_reducible refine Below.drew ?_ | with_reducible refine below_drewN ?_ _ | with_reducible refine bal ?_ _ | with_reducible refine bset ?_ (by first | (simp; done) | (simp; omega)) _ | with_reducible refine bnext ?_ (by assumption) | with_reducible assumption))⟩

set_option maxHeartbeats 1000000 in
theorem awake_t (w : World) : Calls Try.prog 12 #[] w (RetB true w) := by
  go_enter Try.func12, Try.ntmps12
  go_wp2_with fail
  refine (two_any w).mono ?_
  rintro e w1 ⟨A, c, rfl, ho, hb1⟩
  have HS : Hid (SlAt w1 5 (.slice A 2 c) 2 (flat led2.sl)) := Lib.hid (SlAt.own ho)
  clear ho
  go_wp2_with fail
  refine (flE_t led2 wf2 0 (by decide) (by decide) (.slice A 2 c) _ (HS.out.alloc _)).mono ?_
  rintro e w2 ⟨rfl, hb2⟩
  have k2 := (Blk.new w1 26 #[.int .u64 100, .int .u64 80, .int .u64 0, .slice A 2 c]).below hb2
  have hs2 := (HS.out.alloc (.cells #[.int .u64 100, .int .u64 80, .int .u64 0, .slice A 2 c] 26)).below hb2
  go_wp2_with fail
  refine (use_t led0 wf0 100 (by decide) (by decide) (.slice none 0 0) _ (SlAt.nil _ 5)).mono ?_
  rintro e w3 ⟨rfl, hb3⟩
  have k3 := k2.below hb3
  have hs3 := hs2.below hb3
  obtain ⟨c0, c1, c2, c3⟩ := k3.c4
  clear k2 hs2
  go_wp2_with fail
  refine (use_t led2 wf2 20 (by decide) (by decide) (.slice A 2 c) _ hs3).mono ?_
  rintro e w4 ⟨rfl, hb4⟩
  go_wp2_with fail
  go_ret
  exact ⟨rfl, (by repeat (first | with_reducible exact Below.refl _ _ | with_reducible refine Below.drew ?_ | with_reducible refine below_drewN ?_ _ | with_reducible refine bal ?_ _ | with_reducible refine bset ?_ (by first | (simp; done) | (simp; omega)) _ | with_reducible refine bnext ?_ (by assumption) | with_reducible assumption))⟩
end Go.Proofs.Ytdfppaafoecgmaa
