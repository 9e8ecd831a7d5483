/- SendFloor: the walk. -/
import Derived.Test.YtdfppaafoecgmaaS3
namespace Go.Proofs.Ytdfppaafoecgmaa
open Go.RowKit
set_option linter.unusedVariables false
set_option linter.unusedSimpArgs false

theorem flr_ok {i : Nat} {s : Led} (h : InvT i s) : flE s = flr s ∧ (chk s).1 = 0 := ⟨if_pos h.1, h.1⟩

set_option maxRecDepth 100000 in
set_option maxHeartbeats 8000000 in
theorem SendFloor_t (xs ys : List Int) (v u : Value) (w : World) (hS : SlAt w 1 v xs.length (ints xs)) (hU : SlAt w 1 u ys.length (ints ys)) :
    Calls Try.prog 8 #[v, u] w (RetB true w) := by
  obtain ⟨UA, uc, rfl, hu1, hu2, hUR⟩ := id hU
  have HUR := Lib.hid hUR
  clear hU hUR
  unfold maxLen at hu2
  go_enter Try.func8, Try.ntmps8
  go_wp2_with fail
  refine (Ledger_any xs v w hS).mono ?_
  rintro e w1 ⟨⟨g, n, r, l⟩, A, c, hI, rfl, hown, hb1⟩
  have HI0 := Lib.hid (inv_led hI)
  have HO0 := Lib.hid hown
  clear hI hown hS
  dsimp only at *
  have HF0 := Lib.hid (flr_ok HI0.out)
  go_wp2_with fail
  refine (Floor_any ⟨g, n, r, l⟩ HI0.out.2.1 _ _ (SlAt.own (HO0.out.alloc _))).mono ?_
  rintro e w2 ⟨rfl, hb2⟩
  rw [HF0.out.1, HF0.out.2]
  have KB0 := Lib.hid ((Blk.new w1 26 #[.int .u64 g, .int .u64 n, .int .u64 r, .slice A l.length c]).below hb2)
  have HO1 := Lib.hid (own_below hb2 (HO0.out.alloc (.cells #[.int .u64 g, .int .u64 n, .int .u64 r, .slice A l.length c] 26)))
  have hB2 : Below w.heap.size w w2 := bnext (bal hb1 _) hb2
  clear HO0 HF0 hb2
  obtain ⟨F, hF⟩ : ∃ F, flr ⟨g, n, r, l⟩ = F := ⟨_, rfl⟩
  rw [hF]
  have HF := Lib.hid hF
  clear hF
  go_wp2_with fail
  go_loopw [6, 8] (fun b a wr => ∃ (k : Nat) (s : Led) (A : Option Addr) (c : Nat), k ≤ 40 ∧ b = .int .u64 (flr s) ∧ a = .int .i64 k ∧ InvT k s ∧ Blk wr w1.heap.size 26 #[.int .u64 s.g, .int .u64 s.n, .int .u64 s.r, .slice A s.sl.length c] ∧ wr.ownsRow w.heap.size 44 5 (.slice A s.sl.length c) s.sl.length (flat s.sl) ∧ Below w.heap.size w wr) (fun _ a _ => 40 - (intOf a).toNat)
  case atStart => exact ⟨0, ⟨g, n, r, l⟩, A, c, by omega, by rw [HF.out], rfl, HI0.out, KB0.out, HO1.out, hB2⟩
  case round =>
    have hz1 : w.heap.size ≤ w1.heap.size := hb1.size
    clear HI0 HO1 KB0 hB2
    obtain ⟨k, ⟨g, n, r, l⟩, A, c, hk, rfl, rfl, hI, kb, ho, hB⟩ := hrel
    obtain ⟨FL, hFL⟩ : ∃ FL, flr ⟨g, n, r, l⟩ = FL := ⟨_, rfl⟩
    rw [hFL]
    have HFL := Lib.hid hFL
    clear hFL
    have HI := Lib.hid hI
    have KB := Lib.hid kb
    have HO := Lib.hid ho
    have HSR := Lib.hid (SlAt.own ho)
    have hlb := kb.lt
    clear hI ho
    dsimp only at *
    by_cases h1 : k < ys.length
    · have hi1 : (k : Int) < ys.length := by omega
      by_cases h2 : k < 40
      · have hi2 : (k : Int) < 40 := by omega
        have hk40 : k ≤ 40 := hk
        obtain ⟨sb, so, e, hsb, hx⟩ := HUR.out.2 (by omega)
        cases e
        obtain ⟨x, hx0⟩ : ∃ x, ys[k]? = some x := ⟨_, List.getElem?_eq_getElem h1⟩
        have hcw : w.cell? ⟨sb, so + k, none⟩ = some (.int .i64 x) := hx k _ (by simp [ints, hx0])
        have hcx : wr.cell? ⟨sb, so + k, none⟩ = some (.int .i64 x) := ((bcell hB).1 _ _ hsb).trans hcw
        have hsbr : sb < wr.heap.size := by have := hB.size; omega
        have hne1 : ¬ sb = wr.heap.size := by omega
        have hne2 : ¬ wr.heap.size = sb := by omega
        have hne3 : ¬ w1.heap.size = wr.heap.size := by omega
        have hne4 : ¬ wr.heap.size = w1.heap.size := by omega
        clear hx hx0
        obtain ⟨c0, c1, c2, c3⟩ := kb.c4
        clear kb
        have hk0 : (0 : Int) ≤ (k : Int) := by omega
        go_upto_region 8 with fail
        go_cut [9, 10] (fun s7 s8 wx => StepMid w w1.heap.size k ⟨g, n, r, l⟩ A c s7 s8 wx)
        case first =>
          go_region_held3 (fun w' => w'.cell? ⟨w1.heap.size, 0, none⟩ = some (.int .u64 g) ∧ w'.cell? ⟨w1.heap.size, 1, none⟩ = some (.int .u64 n) ∧ w'.cell? ⟨w1.heap.size, 2, none⟩ = some (.int .u64 r) ∧ w'.cell? ⟨w1.heap.size, 3, none⟩ = some (.slice A l.length c) ∧ w'.cell? ⟨sb, so + k, none⟩ = some (.int .i64 x)) (go_keep)
          (first
          | (go_at_call 33; refine (step_res k hk40 ⟨g, n, r, l⟩ HI.out x _ _ ?_).mono ?_; (repeat (first | with_reducible exact HSR.out | with_reducible refine SlAt.alloc ?_ _ | with_reducible refine SlAt.drew ?_)); rintro e w4 ⟨xa, xb, xc, XA, xm, xq, er, rfl, hb4, hst⟩; have hB4 : Below w.heap.size w w4 := (by repeat (first | with_reducible exact Below.refl _ _ | with_reducible refine Below.drew ?_ | with_reducible refine below_drewN ?_ _ | with_reducible refine bal ?_ _ | with_reducible refine bset ?_ (by first | (simp; done) | (simp; omega)) _ | with_reducible refine bnext ?_ (by assumption) | with_reducible assumption)); have kb : Blk w4 w1.heap.size 26 #[.int .u64 g, .int .u64 n, .int .u64 r, .slice A l.length c] := (by refine Blk.below ?_ hb4; repeat (first | with_reducible exact KB.out | with_reducible refine Blk.alloc ?_ _ | with_reducible refine Blk.drew ?_)); have ho4 : w4.ownsRow w.heap.size 44 5 (.slice A l.length c) l.length (flat l) := (by refine own_below hb4 ?_; repeat (first | with_reducible exact HO.out | with_reducible refine World.ownsRow.alloc ?_ _ | with_reducible refine World.ownsRow.drew ?_)); (try have kn : Blk w4 wr.heap.size 26 #[.int .u64 0, .int .u64 0, .int .u64 0, .slice none 0 0] := (by refine Blk.below ?_ hb4; first | with_reducible exact Blk.new _ _ _ | with_reducible exact Blk.drew (Blk.new _ _ _))); have hsc := (bcell hB4).1 sb (so + k) hsb; obtain ⟨c0, c1, c2, c3⟩ := kb.c4; have hcx := hsc.trans hcw; have q4 : ¬ w1.heap.size = w4.heap.size := Nat.ne_of_lt kb.lt; have q4' : ¬ w4.heap.size = w1.heap.size := fun e => q4 e.symm; (try obtain ⟨n0, n1, n2, n3⟩ := kn.c4); (try obtain ⟨m0, m1, m2, m3⟩ := kn.f4); have hz4 := hb4.size; (try simp at hz4); have q5 : ¬ sb = w4.heap.size := (by omega); have q5' : ¬ w4.heap.size = sb := (by omega); have HST := Lib.hid hst; clear hst hsc))
          all_goals
            have hz5 := hB4.size
            clear c0 c1 c2 c3
            go_wp2_with fail
            go_meet
            refine ⟨_, xa, xb, xc, XA, xm, xq, er, rfl, rfl, ?_, ?_, ?_, ?_, ?_, ?_⟩
            · omega
            · first | with_reducible exact Blk.new _ _ _ | (with_reducible refine put4 (a := .int .u64 0) (b := .int .u64 0) (c := .int .u64 0) (d := .slice none 0 0) ?_; with_reducible exact kn)
            · first | with_reducible exact Blk.alloc kb _ | (with_reducible refine put4_far kb ?_; omega)
            · first | with_reducible exact World.ownsRow.alloc ho4 _ | with_reducible exact put4_own kn ho4
            · exact (by repeat (first | with_reducible exact Below.refl _ _ | with_reducible refine Below.drew ?_ | with_reducible refine below_drewN ?_ _ | with_reducible refine bal ?_ _ | with_reducible refine bset ?_ (by first | (simp; done) | (simp; omega)) _ | with_reducible refine bnext ?_ (by assumption) | with_reducible assumption))
            · rcases HST.out with ⟨rfl, l2, rfl, ho2, hs2⟩ | h
              · have ho5 := own_mono (base' := w.heap.size) ho2 (by first | exact hB.size | (simp; omega))
                refine .inl ⟨rfl, l2, rfl, ?_, hs2⟩
                first | with_reducible exact World.ownsRow.alloc ho5 _ | with_reducible exact put4_own kn ho5
              · exact .inr h
        case rest =>
          clear c0 c1 c2 c3 hcx KB HO HSR
          obtain ⟨gn, xa, xb, xc, XA, xm, xq, er, rfl, rfl, hne, kn, kb, ho, hB5, hst⟩ := hcut
          have hln := kn.lt
          have hlb5 := kb.lt
          have hne' : ¬ gn = w1.heap.size := fun e => hne e.symm
          obtain ⟨e0, e1, e2, e3⟩ := kn.c4
          obtain ⟨c0, c1, c2, c3⟩ := kb.c4
          have hwk : IntKind.i64.wrap ((k : Int) + 1) = (k : Int) + 1 := IntWalk.i64_in _ (by omega)
          rcases hst with ⟨rfl, l2, rfl, ho2, hs2⟩ | rfl
          · have HI2 := Lib.hid hs2.1
            have HF2 := Lib.hid (flr_ok hs2.1)
            have hle := flr_le hs2.1
            have hfl : flr ⟨g, n, r, l⟩ ≤ flr ⟨xa, xb, xc, l2⟩ := hs2.2.1
            have hnl : n ≤ xb := hs2.2.2
            rw [HFL.out] at hfl
            have HO2 := Lib.hid ho2
            have KN := Lib.hid kn
            have KB2 := Lib.hid kb
            clear ho2 ho hs2 kn kb hwk
            obtain ⟨F2, hF2⟩ : ∃ F2, flr ⟨xa, xb, xc, l2⟩ = F2 := ⟨_, rfl⟩
            rw [hF2] at hfl hle
            have HFX := Lib.hid hF2
            have t1 : ¬ F2 < FL := by omega
            have t2 : ¬ xb < F2 := by have : F2 ≤ xb := hle.1; omega
            have t3 : ¬ xb < n := by omega
            clear hF2 hfl hle hnl
            go_wp2_with fail
            refine (Floor_any ⟨xa, xb, xc, l2⟩ HI2.out.2.1 _ _ (SlAt.own HO2.out)).mono ?_
            rintro e w7 ⟨rfl, hb7⟩
            rw [HF2.out.1, HF2.out.2, HFX.out]
            have hB7 : Below w.heap.size w w7 := bnext hB5 hb7
            have ho7 := own_below hb7 HO2.out
            have kn7 := KN.out.below hb7
            have kb7 := KB2.out.below hb7
            have HO7 := Lib.hid ho7
            have KN7 := Lib.hid kn7
            have KB7 := Lib.hid kb7
            clear c0 c1 c2 c3 e0 e1 e2 e3
            obtain ⟨c0, c1, c2, c3⟩ := kb7.c4
            obtain ⟨e0, e1, e2, e3⟩ := kn7.c4
            have hl7 := kn7.lt
            clear kb7 kn7 ho7 hb7
            go_wp2_with fail
            go_loopw [13, 14] (fun a b wr => ∃ (q : Nat) (E : Int), q ≤ l2.length ∧ a = .int .u64 E ∧ b = .int .i64 q ∧ (q = 0 → E = 0) ∧ (∀ p, 0 < q → l2[q - 1]? = some p → p.off + p.size = E) ∧ Below w7.heap.size w7 wr) (fun _ b _ => l2.length - (intOf b).toNat)
            case atStart => exact ⟨0, 0, by omega, rfl, rfl, fun _ => rfl, fun p h => by omega, Below.refl _ _⟩
            case round =>
              clear c0 c1 c2 c3 e0 e1 e2 e3
              obtain ⟨q, E, hq, rfl, rfl, hE0, hEp, hBi⟩ := hrel
              have kb9 := KB7.out.below hBi
              have kn9 := KN7.out.below hBi
              have ho9 := own_below hBi HO7.out
              obtain ⟨c0, c1, c2, c3⟩ := kb9.c4
              obtain ⟨f0, f1, f2, f3⟩ := kb9.f4
              obtain ⟨e0, e1, e2, e3⟩ := kn9.c4
              have hl9 := kn9.lt
              have hlb9 := kb9.lt
              have KB9 := Lib.hid kb9
              have KN9 := Lib.hid kn9
              have HO9 := Lib.hid ho9
              clear kb9 kn9 ho9
              by_cases hql : q < l2.length
              · obtain ⟨y, hy⟩ : ∃ y, l2[q]? = some y := ⟨_, List.getElem?_eq_getElem hql⟩
                obtain ⟨E', hz, hz0, hzp⟩ := good_drop q (inv_n HI2.out).2.2.2.2.2.1 hy
                have hEE : E' = E := by
                  rcases Nat.eq_zero_or_pos q with h | h
                  · rw [hz0 h, hE0 h]
                  · obtain ⟨p, hp⟩ : ∃ p, l2[q - 1]? = some p := ⟨_, List.getElem?_eq_getElem (by omega)⟩
                    rw [← hzp p h hp, hEp p h hp]
                subst hEE
                obtain ⟨z1, _, z3, z4, z5, _⟩ := slotE_zero.1 hz
                have hyw := HI2.out.2.1.2.2.2 y (List.mem_of_getElem? hy)
                have hxb : xb ≤ 1125899906842624 := by have h := inv_n HI2.out; have h1 : xb ≤ xa - xc := h.2.2.1; have h2 : 0 ≤ xc := h.2.2.2.2.1; have h3 : xa ≤ 1125899906842624 := h.2.2.2.2.2.2.2; omega
                have s1 : ¬ y.off < E' := by omega
                have s2 : ¬ y.size < 1 := by have := hyw.2.1.1; omega
                have z4' : y.off ≤ xb := z4
                have z5' : y.size ≤ xb - y.off := z5
                have WY : IntKind.u64.wrap (y.off + y.size) = y.off + y.size := IntWalk.u64_in _ (by have := hyw.1.1; have := hyw.2.1.1; omega)
                have WQ : IntKind.i64.wrap ((q : Int) + 1) = (q : Int) + 1 := IntWalk.i64_in _ (by have h : l2.length ≤ 100 := (inv_n HI2.out).2.2.2.2.2.2.1; omega)
                obtain ⟨_, _, e9, _, _, hR9⟩ := SlAt.own HO9.out
                cases e9
                obtain ⟨b, o, rfl, hbl, y0, y1, y2, y3, y4⟩ := slot_cells hR9 rfl hy
                have hq1 : (q : Int) < l2.length := by omega
                have hq0 : (0 : Int) ≤ (q : Int) := by omega
                have HY := Lib.hid hy
                clear hz hz0 hzp z1 z3 z4 z5 hyw hxb z4' z5' hR9 hy hE0 hEp
                go_wp2_with fail
                go_roundw
                case rel => exact ⟨q + 1, y.off + y.size, by omega, rfl, by go_num, fun h => by omega, fun p _ hp => by rw [Nat.add_sub_cancel, HY.out] at hp; cases hp; rfl, bal hBi _⟩
                case measure => simp [intOf]; omega
              · obtain rfl : q = l2.length := by omega
                have hB9 : Below w.heap.size w wr := hB7.trans (hBi.mono hB7.size)
                have KF := Lib.hid (put4 (a' := .int .u64 xa) (b' := .int .u64 xb) (c' := .int .u64 xc) (d' := .slice XA l2.length xq) KB9.out)
                have HOF := Lib.hid (put4_own (a' := .int .u64 xa) (b' := .int .u64 xb) (c' := .int .u64 xc) (d' := .slice XA l2.length xq) KB9.out HO9.out)
                have hBF : Below w.heap.size w ((((wr.setCell ⟨w1.heap.size, 0, none⟩ (.int .u64 xa)).setCell ⟨w1.heap.size, 1, none⟩ (.int .u64 xb)).setCell ⟨w1.heap.size, 2, none⟩ (.int .u64 xc)).setCell ⟨w1.heap.size, 3, none⟩ (.slice XA l2.length xq)) := (by repeat (first | with_reducible exact Below.refl _ _ | with_reducible refine Below.drew ?_ | with_reducible refine below_drewN ?_ _ | with_reducible refine bal ?_ _ | with_reducible refine bset ?_ (by first | (simp; done) | (simp; omega)) _ | with_reducible refine bnext ?_ (by assumption) | with_reducible assumption))
                have hwk : IntKind.i64.wrap ((k : Int) + 1) = (k : Int) + 1 := IntWalk.i64_in _ (by omega)
                go_wp2_with fail
                go_roundw
                case rel => exact ⟨k + 1, ⟨xa, xb, xc, l2⟩, XA, xq, by omega, by rw [HFX.out], by go_num, HI2.out, KF.out, HOF.out, hBF⟩
                case measure => simp [intOf]; omega
          · have HI2 := Lib.hid (inv_next HI.out)
            have HO2 := Lib.hid ho
            have KB2 := Lib.hid kb
            clear ho kn kb
            go_wp2_with fail
            go_roundw
            case rel => exact ⟨k + 1, ⟨g, n, r, l⟩, A, c, by omega, by rw [HFL.out], by go_num, HI2.out, KB2.out, HO2.out, hB5⟩
            case measure => simp [intOf]; omega
      · have hi2 : ¬ (k : Int) < 40 := by omega
        go_wp2_with fail
        refine (awake_t _).mono ?_
        rintro e w5 ⟨rfl, hb5⟩
        go_wp2_with fail
        go_ret
        exact ⟨rfl, bnext hB hb5⟩
    · have hi1 : ¬ (k : Int) < ys.length := by omega
      go_wp2_with fail
      refine (awake_t _).mono ?_
      rintro e w5 ⟨rfl, hb5⟩
      go_wp2_with fail
      go_ret
      exact ⟨rfl, bnext hB hb5⟩
end Go.Proofs.Ytdfppaafoecgmaa
