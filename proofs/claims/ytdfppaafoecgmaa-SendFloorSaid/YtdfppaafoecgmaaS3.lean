/- SendTotals: the walk. -/
import Derived.Test.YtdfppaafoecgmaaN10
namespace Go.Proofs.Ytdfppaafoecgmaa
open Go.RowKit
set_option linter.unusedVariables false
set_option linter.unusedSimpArgs false

/-- what lies behind a step that a loop does: the block of the next ledger, the error -/
def StepMid (w : World) (B k : Nat) (s : Led) (A : Option Addr) (c : Nat) (s7 s8 : Value) (wx : World) : Prop :=
  ∃ (g : Nat) (xa xb xc : Int) (XA : Option Addr) (xm xq : Nat) (er : Int), s7 = .pointer (some ⟨g, 0, none⟩) ∧ s8 = .int .i64 er ∧ ¬ B = g ∧ Blk wx g 26 #[.int .u64 xa, .int .u64 xb, .int .u64 xc, .slice XA xm xq] ∧
  Blk wx B 26 #[.int .u64 s.g, .int .u64 s.n, .int .u64 s.r, .slice A s.sl.length c] ∧ wx.ownsRow w.heap.size 44 5 (.slice A s.sl.length c) s.sl.length (flat s.sl) ∧ Below w.heap.size w wx ∧
  ((er = 0 ∧ ∃ l, xm = l.length ∧ wx.ownsRow w.heap.size 44 5 (.slice XA l.length xq) l.length (flat l) ∧ Step k s ⟨xa, xb, xc, l⟩) ∨ er = 14)
theorem use_sum {i : Nat} {s : Led} (h : InvT i s) : usE s + s.n + s.r = s.g ∧ 0 ≤ usE s ∧ (chk s).1 = 0 := by
  have q := inv_n h
  have hk : okL s := h.1
  have e : usE s = s.g - s.n - s.r := by unfold usE usab; rw [if_pos hk]
  exact ⟨by omega, by omega, hk⟩

set_option maxRecDepth 100000 in
set_option maxHeartbeats 8000000 in
theorem SendTotals_t (xs ys : List Int) (v u : Value) (w : World) (hS : SlAt w 1 v xs.length (ints xs)) (hU : SlAt w 1 u ys.length (ints ys)) :
    Calls Try.prog 7 #[v, u] w (RetB true w) := by
  obtain ⟨UA, uc, rfl, hu1, hu2, hUR⟩ := id hU
  have HUR := Lib.hid hUR
  clear hU hUR
  unfold maxLen at hu2
  go_enter Try.func7, Try.ntmps7
  go_wp2_with fail
  refine (Ledger_any xs v w hS).mono ?_
  rintro e w1 ⟨⟨g, n, r, l⟩, A, c, hI, rfl, hown, hb1⟩
  have HI0 := Lib.hid (inv_led hI)
  have HO0 := Lib.hid hown
  clear hI hown hS
  dsimp only at *
  go_wp2_with fail
  go_loopw [6] (fun a wr => ∃ (k : Nat) (s : Led) (A : Option Addr) (c : Nat), k ≤ 40 ∧ a = .int .i64 k ∧ InvT k s ∧ Blk wr w1.heap.size 26 #[.int .u64 s.g, .int .u64 s.n, .int .u64 s.r, .slice A s.sl.length c] ∧ wr.ownsRow w.heap.size 44 5 (.slice A s.sl.length c) s.sl.length (flat s.sl) ∧ Below w.heap.size w wr) (fun a _ => 40 - (intOf a).toNat)
  case atStart => exact ⟨0, ⟨g, n, r, l⟩, A, c, by omega, rfl, HI0.out, Blk.new _ _ _, HO0.out.alloc _, bal hb1 _⟩
  case round =>
    have hz1 : w.heap.size ≤ w1.heap.size := hb1.size
    clear HI0 HO0
    obtain ⟨k, ⟨g, n, r, l⟩, A, c, hk, rfl, hI, kb, ho, hB⟩ := hrel
    have HI := Lib.hid hI
    have KB := Lib.hid kb
    have HO := Lib.hid ho
    have HSR := Lib.hid (SlAt.own ho)
    have hlb := kb.lt
    clear hI ho
    dsimp only at *
    by_cases h1 : k < ys.length
    · have hi1 : (k : Int) < ys.length := by omega
      by_cases h2 : k < 40
      · have hi2 : (k : Int) < 40 := by omega
        have hk40 : k ≤ 40 := hk
        obtain ⟨sb, so, e, hsb, hx⟩ := HUR.out.2 (by omega)
        cases e
        obtain ⟨x, hx0⟩ : ∃ x, ys[k]? = some x := ⟨_, List.getElem?_eq_getElem h1⟩
        have hcw : w.cell? ⟨sb, so + k, none⟩ = some (.int .i64 x) := hx k _ (by simp [ints, hx0])
        have hcx : wr.cell? ⟨sb, so + k, none⟩ = some (.int .i64 x) := ((bcell hB).1 _ _ hsb).trans hcw
        have hsbr : sb < wr.heap.size := by have := hB.size; omega
        have hne1 : ¬ sb = wr.heap.size := by omega
        have hne2 : ¬ wr.heap.size = sb := by omega
        have hne3 : ¬ w1.heap.size = wr.heap.size := by omega
        have hne4 : ¬ wr.heap.size = w1.heap.size := by omega
        clear hx hx0
        obtain ⟨c0, c1, c2, c3⟩ := kb.c4
        clear kb
        have hk0 : (0 : Int) ≤ (k : Int) := by omega
        go_upto_region 5 with fail
        go_cut [7, 8] (fun s7 s8 wx => StepMid w w1.heap.size k ⟨g, n, r, l⟩ A c s7 s8 wx)
        case first =>
          go_region_held3 (fun w' => w'.cell? ⟨w1.heap.size, 0, none⟩ = some (.int .u64 g) ∧ w'.cell? ⟨w1.heap.size, 1, none⟩ = some (.int .u64 n) ∧ w'.cell? ⟨w1.heap.size, 2, none⟩ = some (.int .u64 r) ∧ w'.cell? ⟨w1.heap.size, 3, none⟩ = some (.slice A l.length c) ∧ w'.cell? ⟨sb, so + k, none⟩ = some (.int .i64 x)) (go_keep)
          (first
          | (go_at_call 33; refine (step_res k hk40 ⟨g, n, r, l⟩ HI.out x _ _ ?_).mono ?_; (repeat (first | with_reducible exact HSR.out | with_reducible refine SlAt.alloc ?_ _ | with_reducible refine SlAt.drew ?_)); rintro e w4 ⟨xa, xb, xc, XA, xm, xq, er, rfl, hb4, hst⟩; have hB4 : Below w.heap.size w w4 := (by repeat (first | with_reducible exact Below.refl _ _ | with_reducible refine Below.drew ?_ | with_reducible refine below_drewN ?_ _ | with_reducible refine bal ?_ _ | with_reducible refine bset ?_ (by first | (simp; done) | (simp; omega)) _ | with_reducible refine bnext ?_ (by assumption) | with_reducible assumption)); have kb : Blk w4 w1.heap.size 26 #[.int .u64 g, .int .u64 n, .int .u64 r, .slice A l.length c] := (by refine Blk.below ?_ hb4; repeat (first | with_reducible exact KB.out | with_reducible refine Blk.alloc ?_ _ | with_reducible refine Blk.drew ?_)); have ho4 : w4.ownsRow w.heap.size 44 5 (.slice A l.length c) l.length (flat l) := (by refine own_below hb4 ?_; repeat (first | with_reducible exact HO.out | with_reducible refine World.ownsRow.alloc ?_ _ | with_reducible refine World.ownsRow.drew ?_)); (try have kn : Blk w4 wr.heap.size 26 #[.int .u64 0, .int .u64 0, .int .u64 0, .slice none 0 0] := (by refine Blk.below ?_ hb4; first | with_reducible exact Blk.new _ _ _ | with_reducible exact Blk.drew (Blk.new _ _ _))); have hsc := (bcell hB4).1 sb (so + k) hsb; obtain ⟨c0, c1, c2, c3⟩ := kb.c4; have hcx := hsc.trans hcw; have q4 : ¬ w1.heap.size = w4.heap.size := Nat.ne_of_lt kb.lt; have q4' : ¬ w4.heap.size = w1.heap.size := fun e => q4 e.symm; (try obtain ⟨n0, n1, n2, n3⟩ := kn.c4); (try obtain ⟨m0, m1, m2, m3⟩ := kn.f4); have hz4 := hb4.size; (try simp at hz4); have q5 : ¬ sb = w4.heap.size := (by omega); have q5' : ¬ w4.heap.size = sb := (by omega); have HST := Lib.hid hst; clear hst hsc))
          all_goals
            have hz5 := hB4.size
            clear c0 c1 c2 c3
            go_wp2_with fail
            go_meet
            refine ⟨_, xa, xb, xc, XA, xm, xq, er, rfl, rfl, ?_, ?_, ?_, ?_, ?_, ?_⟩
            · omega
            · first | with_reducible exact Blk.new _ _ _ | (with_reducible refine put4 (a := .int .u64 0) (b := .int .u64 0) (c := .int .u64 0) (d := .slice none 0 0) ?_; with_reducible exact kn)
            · first | with_reducible exact Blk.alloc kb _ | (with_reducible refine put4_far kb ?_; omega)
            · first | with_reducible exact World.ownsRow.alloc ho4 _ | with_reducible exact put4_own kn ho4
            · exact (by repeat (first | with_reducible exact Below.refl _ _ | with_reducible refine Below.drew ?_ | with_reducible refine below_drewN ?_ _ | with_reducible refine bal ?_ _ | with_reducible refine bset ?_ (by first | (simp; done) | (simp; omega)) _ | with_reducible refine bnext ?_ (by assumption) | with_reducible assumption))
            · rcases HST.out with ⟨rfl, l2, rfl, ho2, hs2⟩ | h
              · have ho5 := own_mono (base' := w.heap.size) ho2 (by first | exact hB.size | (simp; omega))
                refine .inl ⟨rfl, l2, rfl, ?_, hs2⟩
                first | with_reducible exact World.ownsRow.alloc ho5 _ | with_reducible exact put4_own kn ho5
              · exact .inr h
        case rest =>
          clear c0 c1 c2 c3 hcx KB HO HSR
          obtain ⟨gn, xa, xb, xc, XA, xm, xq, er, rfl, rfl, hne, kn, kb, ho, hB5, hst⟩ := hcut
          have hln := kn.lt
          have hlb5 := kb.lt
          have hne' : ¬ gn = w1.heap.size := fun e => hne e.symm
          obtain ⟨e0, e1, e2, e3⟩ := kn.c4
          obtain ⟨c0, c1, c2, c3⟩ := kb.c4
          obtain ⟨f0, f1, f2, f3⟩ := kb.f4
          rcases hst with ⟨rfl, l2, rfl, ho2, hs2⟩ | rfl
          · have HI2 := Lib.hid hs2.1
            have HO2 := Lib.hid (put4_own (a' := .int .u64 xa) (b' := .int .u64 xb) (c' := .int .u64 xc) (d' := .slice XA l2.length xq) kb ho2)
            have KB2 := Lib.hid (put4 (a' := .int .u64 xa) (b' := .int .u64 xb) (c' := .int .u64 xc) (d' := .slice XA l2.length xq) kb)
            have hB6 : Below w.heap.size w ((((wc.setCell ⟨w1.heap.size, 0, none⟩ (.int .u64 xa)).setCell ⟨w1.heap.size, 1, none⟩ (.int .u64 xb)).setCell ⟨w1.heap.size, 2, none⟩ (.int .u64 xc)).setCell ⟨w1.heap.size, 3, none⟩ (.slice XA l2.length xq)) := (by repeat (first | with_reducible exact Below.refl _ _ | with_reducible refine Below.drew ?_ | with_reducible refine below_drewN ?_ _ | with_reducible refine bal ?_ _ | with_reducible refine bset ?_ (by first | (simp; done) | (simp; omega)) _ | with_reducible refine bnext ?_ (by assumption) | with_reducible assumption))
            clear ho ho2 hs2 kn kb
            have US := Lib.hid (use_sum HI2.out)
            obtain ⟨us, hus⟩ : ∃ us, usE ⟨xa, xb, xc, l2⟩ = us := ⟨_, rfl⟩
            have HUS := Lib.hid hus
            have hs1 : us + xb + xc = xa := by have := US.out.1; rw [HUS.out] at this; exact this
            have hs2 : 0 ≤ us := by have := US.out.2.1; rw [HUS.out] at this; exact this
            have HCK : Hid ((chk ⟨xa, xb, xc, l2⟩).1 = 0) := US.out.2.2
            have hnn : 0 ≤ xb := (inv_n HI2.out).2.2.2.1
            have hrr : 0 ≤ xc := (inv_n HI2.out).2.2.2.2.1
            have hgg : xa ≤ 1125899906842624 := (inv_n HI2.out).2.2.2.2.2.2.2
            clear hus
            go_wp2_with fail
            refine (Usable_any ⟨xa, xb, xc, l2⟩ HI2.out.2.1 _ _ (SlAt.own HO2.out)).mono ?_
            rintro e w7 ⟨rfl, hb7⟩
            rw [HUS.out, HCK.out]
            have hB7 : Below w.heap.size w w7 := bnext hB6 hb7
            have HO7 := Lib.hid (own_below hb7 HO2.out)
            have kb7 := KB2.out.below hb7
            have KB7 := Lib.hid kb7
            clear c0 c1 c2 c3 e0 e1 e2 e3 f0 f1 f2 f3
            obtain ⟨c0, c1, c2, c3⟩ := kb7.c4
            clear kb7
            go_wp2_with fail
            refine (Check_any ⟨xa, xb, xc, l2⟩ HI2.out.2.1 _ _ (SlAt.own HO7.out)).mono ?_
            rintro e w8 ⟨rfl, hb8⟩
            rw [HCK.out]
            generalize (chk ⟨xa, xb, xc, l2⟩).2 = ck2
            have hB8 : Below w.heap.size w w8 := bnext hB7 hb8
            have HO8 := Lib.hid (own_below hb8 HO7.out)
            have kb8 := KB7.out.below hb8
            have KB8 := Lib.hid kb8
            clear c0 c1 c2 c3
            obtain ⟨c0, c1, c2, c3⟩ := kb8.c4
            clear kb8
            have WA : IntKind.u64.wrap (us + xb) = us + xb := IntWalk.u64_in _ (by omega)
            have WB : IntKind.u64.wrap (us + xb + xc) = xa := by rw [hs1]; exact IntWalk.u64_in _ (by omega)
            have hwk : IntKind.i64.wrap ((k : Int) + 1) = (k : Int) + 1 := IntWalk.i64_in _ (by omega)
            clear hs1 hb7 hb8
            go_wp2_with fail
            go_roundw
            case rel => exact ⟨k + 1, ⟨xa, xb, xc, l2⟩, XA, xq, by omega, by go_num, HI2.out, KB8.out, HO8.out, hB8⟩
            case measure => simp [intOf]; omega
          · have HI2 := Lib.hid (inv_next HI.out)
            have HO2 := Lib.hid ho
            have KB2 := Lib.hid kb
            have hB6 := hB5
            clear ho kn kb
            have US := Lib.hid (use_sum HI2.out)
            obtain ⟨us, hus⟩ : ∃ us, usE ⟨g, n, r, l⟩ = us := ⟨_, rfl⟩
            have HUS := Lib.hid hus
            have hs1 : us + n + r = g := by have := US.out.1; rw [HUS.out] at this; exact this
            have hs2 : 0 ≤ us := by have := US.out.2.1; rw [HUS.out] at this; exact this
            have HCK : Hid ((chk ⟨g, n, r, l⟩).1 = 0) := US.out.2.2
            have hnn : 0 ≤ n := (inv_n HI2.out).2.2.2.1
            have hrr : 0 ≤ r := (inv_n HI2.out).2.2.2.2.1
            have hgg : g ≤ 1125899906842624 := (inv_n HI2.out).2.2.2.2.2.2.2
            clear hus
            go_wp2_with fail
            refine (Usable_any ⟨g, n, r, l⟩ HI2.out.2.1 _ _ (SlAt.own HO2.out)).mono ?_
            rintro e w7 ⟨rfl, hb7⟩
            rw [HUS.out, HCK.out]
            have hB7 : Below w.heap.size w w7 := bnext hB6 hb7
            have HO7 := Lib.hid (own_below hb7 HO2.out)
            have kb7 := KB2.out.below hb7
            have KB7 := Lib.hid kb7
            clear c0 c1 c2 c3 e0 e1 e2 e3 f0 f1 f2 f3
            obtain ⟨c0, c1, c2, c3⟩ := kb7.c4
            clear kb7
            go_wp2_with fail
            refine (Check_any ⟨g, n, r, l⟩ HI2.out.2.1 _ _ (SlAt.own HO7.out)).mono ?_
            rintro e w8 ⟨rfl, hb8⟩
            rw [HCK.out]
            generalize (chk ⟨g, n, r, l⟩).2 = ck2
            have hB8 : Below w.heap.size w w8 := bnext hB7 hb8
            have HO8 := Lib.hid (own_below hb8 HO7.out)
            have kb8 := KB7.out.below hb8
            have KB8 := Lib.hid kb8
            clear c0 c1 c2 c3
            obtain ⟨c0, c1, c2, c3⟩ := kb8.c4
            clear kb8
            have WA : IntKind.u64.wrap (us + n) = us + n := IntWalk.u64_in _ (by omega)
            have WB : IntKind.u64.wrap (us + n + r) = g := by rw [hs1]; exact IntWalk.u64_in _ (by omega)
            have hwk : IntKind.i64.wrap ((k : Int) + 1) = (k : Int) + 1 := IntWalk.i64_in _ (by omega)
            clear hs1 hb7 hb8
            go_wp2_with fail
            go_roundw
            case rel => exact ⟨k + 1, ⟨g, n, r, l⟩, A, c, by omega, by go_num, HI2.out, KB8.out, HO8.out, hB8⟩
            case measure => simp [intOf]; omega
      · have hi2 : ¬ (k : Int) < 40 := by omega
        go_wp2_with fail
        refine (awake_t _).mono ?_
        rintro e w5 ⟨rfl, hb5⟩
        go_wp2_with fail
        go_ret
        exact ⟨rfl, bnext hB hb5⟩
    · have hi1 : ¬ (k : Int) < ys.length := by omega
      go_wp2_with fail
      refine (awake_t _).mono ?_
      rintro e w5 ⟨rfl, hb5⟩
      go_wp2_with fail
      go_ret
      exact ⟨rfl, bnext hB hb5⟩
end Go.Proofs.Ytdfppaafoecgmaa
