/- Contracts: the reference's check, copy, usable bytes and floor. Contracts: peers checked, what is held back. -/
import Derived.Test.YtfgkkflbpfocjaaZc16
import Derived.Test.YtfgkkflbpfocjaaZc6
import Derived.Test.YtfgkkflbpfocjaaZc13
import Derived.Laws.Externs
namespace Go.Proofs.Ytfgkkflbpfocjaa
open Go.RowKit
set_option linter.unusedVariables false
set_option linter.unusedSimpArgs false

set_option maxRecDepth 100000 in
set_option maxHeartbeats 4000000 in
theorem rCheck_any (s : Led) (hw : Wf s) (v : Value) (w : World) (hS : SlAt w 5 v s.sl.length (flat s.sl)) :
    Calls Try.prog 63 #[.agg #[.int .u64 s.g, .int .u64 s.n, .int .u64 s.r, v]] w (Ret2 .i64 .i64 (chk s).1 (chk s).2 w) := by
  obtain ⟨g, n, r, l⟩ := s
  obtain ⟨⟨hg0, hg1⟩, ⟨hn0, hn1⟩, ⟨hr0, hr1⟩, hl⟩ := hw
  have HL := Lib.hid hl
  clear hl
  obtain ⟨A, c, rfl, hc1, hc2, _⟩ := id hS
  have HS := Lib.hid hS
  clear hS
  unfold maxLen at hc2
  dsimp only at *
  by_cases h1 : 1125899906842624 < g
  · have R : Hid (chk ⟨g, n, r, l⟩ = (2, 0)) := if_pos h1
    go_enter Try.func63, Try.ntmps63
    go_wp2_with fail
    go_ret2
    exact ⟨by rw [R.out]; rfl, (by repeat (first | with_reducible exact Below.refl _ _ | with_reducible refine Below.drew ?_ | with_reducible refine below_drewN ?_ _ | with_reducible refine bal ?_ _ | with_reducible refine bset ?_ (by first | (simp; done) | (simp; omega)) _ | with_reducible refine bnext ?_ (by assumption) | with_reducible assumption))⟩
  · by_cases h2 : g < r
    · have R : Hid (chk ⟨g, n, r, l⟩ = (14, 0)) := by
        show (if _ then _ else if g < r ∨ g - r < n then _ else _) = _
        rw [if_neg h1, if_pos (.inl h2)]
      go_enter Try.func63, Try.ntmps63
      go_wp2_with fail
      go_ret2
      exact ⟨by rw [R.out]; rfl, (by repeat (first | with_reducible exact Below.refl _ _ | with_reducible refine Below.drew ?_ | with_reducible refine below_drewN ?_ _ | with_reducible refine bal ?_ _ | with_reducible refine bset ?_ (by first | (simp; done) | (simp; omega)) _ | with_reducible refine bnext ?_ (by assumption) | with_reducible assumption))⟩
    · by_cases h3 : g - r < n
      · have R : Hid (chk ⟨g, n, r, l⟩ = (14, 0)) := by
          show (if _ then _ else if g < r ∨ g - r < n then _ else _) = _
          rw [if_neg h1, if_pos (.inr h3)]
        go_enter Try.func63, Try.ntmps63
        go_wp2_with fail
        go_ret2
        exact ⟨by rw [R.out]; rfl, (by repeat (first | with_reducible exact Below.refl _ _ | with_reducible refine Below.drew ?_ | with_reducible refine below_drewN ?_ _ | with_reducible refine bal ?_ _ | with_reducible refine bset ?_ (by first | (simp; done) | (simp; omega)) _ | with_reducible refine bnext ?_ (by assumption) | with_reducible assumption))⟩
      · by_cases h4 : 100 < l.length
        · have R : Hid (chk ⟨g, n, r, l⟩ = (5, 0)) := by
            show (if _ then _ else if g < r ∨ g - r < n then _ else if 100 < l.length then _ else _) = _
            rw [if_neg h1, if_neg (by omega), if_pos h4]
          have h4' : (100 : Int) < l.length := by omega
          go_enter Try.func63, Try.ntmps63
          go_wp2_with fail
          go_ret2
          exact ⟨by rw [R.out]; rfl, (by repeat (first | with_reducible exact Below.refl _ _ | with_reducible refine Below.drew ?_ | with_reducible refine below_drewN ?_ _ | with_reducible refine bal ?_ _ | with_reducible refine bset ?_ (by first | (simp; done) | (simp; omega)) _ | with_reducible refine bnext ?_ (by assumption) | with_reducible assumption))⟩
        · have R : Hid (chk ⟨g, n, r, l⟩ = scan n [] 0 l) := by
            show (if _ then _ else if g < r ∨ g - r < n then _ else if 100 < l.length then _ else _) = _
            rw [if_neg h1, if_neg (by omega), if_neg h4]
          have h4' : (l.length : Int) ≤ 100 := by omega
          go_enter Try.func63, Try.ntmps63
          go_wp2_with fail
          obtain ⟨W0, hW⟩ : ∃ W0, w.alloc (.cells #[.int .u64 g, .int .u64 n, .int .u64 r, .slice A l.length c] 25) = W0 := ⟨_, rfl⟩
          have hB0 : Below w.heap.size w W0 := by rw [← hW]; exact bal (Below.refl _ _) _
          have k0 : Blk W0 w.heap.size 25 #[.int .u64 g, .int .u64 n, .int .u64 r, .slice A l.length c] := by rw [← hW]; exact Blk.new _ _ _
          have HS0 : Hid (SlAt W0 5 (.slice A l.length c) l.length (flat l)) := Lib.hid (HS.out.below hB0)
          rw [hW]
          have K0 := Lib.hid k0
          clear hW k0 HS
          go_loopw [4] (fun a wr => ∃ (k : Nat) (E : Int), k ≤ l.length ∧ a = .int .i64 k ∧ (0 ≤ E ∧ E ≤ 18446744073709551615 ∧ (k = 0 → E = 0) ∧ ∀ p, 0 < k → l[k - 1]? = some p → p.off + p.size = E) ∧ scan n (l.take k) E (l.drop k) = scan n [] 0 l ∧ Below W0.heap.size W0 wr) (fun a _ => l.length - (intOf a).toNat)
          case atStart => exact ⟨0, 0, by omega, rfl, ⟨by omega, by omega, fun _ => rfl, fun p h => by omega⟩, rfl, Below.refl _ _⟩
          case round =>
            obtain ⟨k, E, hk, rfl, hE, hsc, hB⟩ := hrel
            have HE := Lib.hid hE
            have HSC := Lib.hid hsc
            have kr := K0.out.below hB
            obtain ⟨c0, c1, c2, c3⟩ := kr.c4
            have HSr : Hid (SlAt wr 5 (.slice A l.length c) l.length (flat l)) := Lib.hid (HS0.out.below hB)
            clear hE hsc kr
            by_cases hlt : k < l.length
            · obtain ⟨x, hx⟩ : ∃ x, l[k]? = some x := ⟨_, List.getElem?_eq_getElem hlt⟩
              have hxw := HL.out x (List.mem_of_getElem? hx)
              have HC := Lib.hid (scan_cons (n := n) (E := E) hx)
              have hi : (k : Int) < l.length := by omega
              have HX := Lib.hid hx
              clear hx
              go_wp2_with fail
              refine (rslot_any g n r l k x E HX.out hn0 hn1 ⟨hxw.1.1, hxw.1.2, hxw.2.1.1⟩ HE.out.2.2.1 HE.out.2.2.2 HE.out.1 HE.out.2.1 _ wr HSr.out).mono ?_
              rintro e w1 ⟨rfl, hb1⟩
              have hB1 := bnext hB hb1
              by_cases hz : slotE n (l.take k) E x = 0
              · have hz' := slotE_zero.1 hz
                have HZ := Lib.hid hz
                rw [HZ.out]
                have hxo := hxw.1.1
                have hxs := hxw.2.1.1
                have HS2 : Hid (scan n (l.take (k + 1)) (x.off + x.size) (l.drop (k + 1)) = scan n [] 0 l) := hidI' (by rw [← HSC.out, HC.out, if_pos HZ.out])
                have hb0 : 0 ≤ x.off + x.size := by omega
                have hb2 : x.off + x.size ≤ 18446744073709551615 := by omega
                clear hz hz' hxw
                go_wp2_with fail
                go_roundw
                case rel => exact ⟨k + 1, x.off + x.size, by omega, by go_num, ⟨hb0, hb2, fun h => by omega, fun p _ hp => by
                    rw [Nat.add_sub_cancel, HX.out] at hp
                    cases hp
                    rfl⟩, HS2.out, hB1⟩
                case measure => simp [intOf]; omega
              · have F : Hid (chk ⟨g, n, r, l⟩ = (slotE n (l.take k) E x, (k : Int))) := by rw [R.out, ← HSC.out, HC.out, if_neg hz]; rfl
                have hne : (slotE n (l.take k) E x != 0) = true := by rw [bne_iff_ne]; exact hz
                clear hz hxw
                generalize slotE n (l.take k) E x = se at *
                go_wp2_with fail
                go_ret2
                exact ⟨by rw [F.out]; rfl, bnext hB0 hB1⟩
            · obtain rfl : k = l.length := by omega
              have F : Hid (chk ⟨g, n, r, l⟩ = (0, 0)) := by
                rw [R.out, ← HSC.out, List.drop_of_length_le (Nat.le_refl _)]
                rfl
              go_wp2_with fail
              go_ret2
              exact ⟨by rw [F.out]; rfl, bnext hB0 hB⟩

set_option maxHeartbeats 1000000 in
theorem rusable_any (g n r : Int) (v : Value) (w : World) (hg : g ≤ 18446744073709551615) (hn : 0 ≤ n) (hr : 0 ≤ r) (h : n + r ≤ g) (hv : ∃ A l c, v = .slice A l c) :
    Calls Try.prog 80 #[.agg #[.int .u64 g, .int .u64 n, .int .u64 r, v]] w (RetI .u64 (g - n - r) w) := by
  obtain ⟨A, l, c, rfl⟩ := hv
  go_enter Try.func80, Try.ntmps80
  go_wp2_with fail
  go_ret
  exact ⟨rfl, (by repeat (first | with_reducible exact Below.refl _ _ | with_reducible refine Below.drew ?_ | with_reducible refine below_drewN ?_ _ | with_reducible refine bal ?_ _ | with_reducible refine bset ?_ (by first | (simp; done) | (simp; omega)) _ | with_reducible refine bnext ?_ (by assumption) | with_reducible assumption))⟩
theorem okL_sum {s : Led} (hk : okL s) (hw : Wf s) : (0 ≤ s.g ∧ s.g ≤ 1125899906842624) ∧ 0 ≤ s.n ∧ 0 ≤ s.r ∧ s.n + s.r ≤ s.g := by
  have := okL_nums hk
  have a := hw.1
  have b := hw.2.1
  have c := hw.2.2.1
  omega
set_option maxHeartbeats 1000000 in
theorem rFloor_any (s : Led) (hw : Wf s) (v : Value) (w : World) (hS : SlAt w 5 v s.sl.length (flat s.sl)) :
    Calls Try.prog 48 #[.agg #[.int .u64 s.g, .int .u64 s.n, .int .u64 s.r, v]] w (Ret2 .u64 .i64 (flE s) (chk s).1 w) := by
  obtain ⟨A, c, rfl, hc1, hc2, _⟩ := id hS
  have HS := Lib.hid hS
  have HW := Lib.hid hw
  clear hS hw
  by_cases hk : okL s
  · have U : Hid (flE s = flr s) := hidI' (by unfold flE; rw [if_pos hk])
    have K : Hid ((chk s).1 = 0) := hk
    have hl100 := okL_len hk
    clear hk
    go_enter Try.func48, Try.ntmps48
    go_wp2_with fail
    refine (rCheck_any s HW.out _ _ (HS.out.alloc _)).mono ?_
    rintro e w1 ⟨rfl, hb1⟩
    rw [K.out]
    have hB1 : Below w.heap.size w w1 := bnext (bal (Below.refl _ _) _) hb1
    have k0 := (Blk.new w 25 #[.int .u64 s.g, .int .u64 s.n, .int .u64 s.r, .slice A s.sl.length c]).below hb1
    obtain ⟨c0, c1, c2, c3⟩ := k0.c4
    have hS1 := HS.out.below hB1
    clear k0 hb1
    obtain ⟨g, n, r, l⟩ := s
    dsimp only at *
    cases l with
    | nil =>
      clear hS1
      go_wp2_with fail
      go_ret2
      exact ⟨by rw [U.out, K.out]; rfl, hB1⟩
    | cons x l =>
      obtain ⟨A', c', e, _, _, hR⟩ := hS1
      cases e
      obtain ⟨b, o, rfl, hb, d0, _⟩ := slot_cells hR rfl (k := 0) (x := x) rfl
      rw [Nat.zero_mul, Nat.add_zero] at d0
      have hl : (0 : Int) < ((x :: l).length : Int) := by simp only [List.length_cons]; omega
      generalize (x :: l).length = ln at *
      clear hR
      go_wp2_with fail
      go_ret2
      exact ⟨by rw [U.out, K.out]; rfl, hB1⟩
  · have U : Hid (flE s = 0) := hidI' (by unfold flE; rw [if_neg hk])
    have hne : ((chk s).1 != 0) = true := by rw [bne_iff_ne]; exact hk
    clear hk
    go_enter Try.func48, Try.ntmps48
    go_wp2_with fail
    refine (rCheck_any s HW.out _ _ (HS.out.alloc _)).mono ?_
    rintro e w1 ⟨rfl, hb1⟩
    go_wp2_with fail
    go_ret2
    exact ⟨by rw [U.out]; rfl, bnext (bal (Below.refl _ _) _) hb1⟩
end Go.Proofs.Ytfgkkflbpfocjaa

namespace Go.Proofs.Ytfgkkflbpfocjaa
open Go.RowKit
set_option linter.unusedVariables false
set_option linter.unusedSimpArgs false

theorem run_add (x y : Int) (hx : 0 ≤ x) (hy : 0 ≤ y) (w : World) : (callFunc 79 #[.int .u64 x, .int .u64 y, .int .u64 0]).run Try.prog w = .ok (.value (.tuple #[.int .u64 ((x + y) % 18446744073709551616), .int .u64 ((x + y) / 18446744073709551616)])) w := by
  rw [run_callFunc_extern (P := Try.prog) (fn := Try.f79) Try.func79 (by rfl) (by rfl) (by kernel_rfl) (e := add64Entry) (by rfl), run_add64 x y 0 hx hy (by decide) (by decide)]
  simp [Result.andThen]

set_option maxRecDepth 100000 in
set_option maxHeartbeats 8000000 in
theorem pempty_any (node th old : Int) (su : Bool) (g n r : Int) (S : List Sl) (a b f : Int) (T : List Rg) (K : List Int) (As At Ak : Option Addr) (cs ct ck : Nat) (w : World) :
    Calls Try.prog 62 #[.agg #[.int .i64 node, .int .u64 th, .bool su, .int .u64 old, .int .u64 g, .int .u64 n, .int .u64 r, .slice As S.length cs, .int .u64 a, .int .u64 b, .int .u64 f, .slice At T.length ct, .slice Ak K.length ck]] w (RetB (decide (Pr.empty ⟨node, th, su, old, ⟨g, n, r, S⟩, ⟨a, b, f, T, K⟩⟩)) w) := by
  obtain ⟨ee, hee⟩ : ∃ ee, decide (Pr.empty ⟨node, th, su, old, ⟨g, n, r, S⟩, ⟨a, b, f, T, K⟩⟩) = ee := ⟨_, rfl⟩
  have EE := Lib.hid hee
  rw [hee]
  clear hee
  go_enter Try.func62, Try.ntmps62
  go_upto_region 1 with fail
  have kb0 : BK w w.heap.size 31 #[.int .i64 node, .int .u64 th, .bool su, .int .u64 old, .int .u64 g, .int .u64 n, .int .u64 r, .slice As S.length cs, .int .u64 a, .int .u64 b, .int .u64 f, .slice At T.length ct, .slice Ak K.length ck] (w.alloc (.cells #[.int .i64 node, .int .u64 th, .bool su, .int .u64 old, .int .u64 g, .int .u64 n, .int .u64 r, .slice As S.length cs, .int .u64 a, .int .u64 b, .int .u64 f, .slice At T.length ct, .slice Ak K.length ck] 31)) := ⟨Blk.new _ _ _, bal (Below.refl _ _) _⟩
  obtain ⟨g0, hg0⟩ : ∃ g0, w.heap.size = g0 := ⟨_, rfl⟩
  rw [hg0] at kb0 ⊢
  have HG0 := Lib.hid hg0
  clear hg0
  generalize w.alloc (.cells #[.int .i64 node, .int .u64 th, .bool su, .int .u64 old, .int .u64 g, .int .u64 n, .int .u64 r, .slice As S.length cs, .int .u64 a, .int .u64 b, .int .u64 f, .slice At T.length ct, .slice Ak K.length ck] 31) = w1 at kb0 ⊢
  have KB := Lib.hid kb0
  obtain ⟨x0, x1, x2, x3, x4, x5, x6, x7, x8, x9, x10, x11, x12⟩ := kb0.b.c13
  have hl0 := kb0.b.lt
  clear kb0
  go_cut [3, 4] (fun s3 s4 wx => ∃ g3 g4, s3 = .pointer (some ⟨g3, 0, none⟩) ∧ s4 = .pointer (some ⟨g4, 0, none⟩) ∧ Blk wx g0 31 #[.int .i64 node, .int .u64 th, .bool su, .int .u64 old, .int .u64 g, .int .u64 n, .int .u64 r, .slice As S.length cs, .int .u64 a, .int .u64 b, .int .u64 f, .slice At T.length ct, .slice Ak K.length ck] ∧ Blk wx g3 25 #[.int .u64 g, .int .u64 n, .int .u64 r, .slice As S.length cs] ∧ Blk wx g4 29 #[.int .u64 a, .int .u64 b, .int .u64 f, .slice At T.length ct, .slice Ak K.length ck] ∧ Below w.heap.size w wx)
  case first =>
    go_region
    all_goals
      go_wp2_with fail
      go_meet
      first
      | exact ⟨_, _, rfl, rfl, ((KB.out.b.drewN _).alloc _).alloc _, (Blk.new _ _ _).alloc _, by (first | exact Blk.new1 _ _ _ _ | exact Blk.new _ _ _), bal (bal (below_drewN KB.out.hB _) _) _⟩
      | exact ⟨_, _, rfl, rfl, ((KB.out.b.drewN _).alloc _).alloc _, by (first | exact Blk.new1 _ _ _ _ | exact Blk.new _ _ _), (Blk.new _ _ _).alloc _, bal (bal (below_drewN KB.out.hB _) _) _⟩
  case rest =>
    obtain ⟨g3, g4, rfl, rfl, kp, ks, kr, hB⟩ := hcut
    have HB := Lib.hid hB
    clear x0 x1 x2 x3 x4 x5 x6 x7 x8 x9 x10 x11 x12 hl0 KB hB
    obtain ⟨x0, x1, x2, x3, x4, x5, x6, x7, x8, x9, x10, x11, x12⟩ := kp.c13
    obtain ⟨y0, y1, y2, y3⟩ := ks.c4
    obtain ⟨z0, z1, z2, z3, z4⟩ := kr.c5
    have hl0 := kp.lt
    have hl1 := ks.lt
    have hl2 := kr.lt
    clear kp ks kr
    cases su with
    | true =>
      have R : Hid (ee = false) := Lib.hid (by rw [← EE.out]; exact decide_eq_false (fun h => by have := h.1; cases this))
      go_wp2_with fail
      go_ret
      exact ⟨by rw [R.out]; rfl, HB.out⟩
    | false =>
      by_cases q1 : old = 0
      case neg =>
        have qb1 : (old == 0) = false := beq_eq_false_iff_ne.2 (by omega)
        have R : Hid (ee = false) := Lib.hid (by rw [← EE.out]; exact decide_eq_false (fun h => q1 (h.2.1)))
        clear q1
        go_wp2_with fail
        go_ret
        exact ⟨by rw [R.out]; rfl, HB.out⟩
      have qb1 : (old == 0) = true := by simp [q1]
      have Q1 := Lib.hid q1
      clear q1
      by_cases q2 : g = 0
      case neg =>
        have qb2 : (g == 0) = false := beq_eq_false_iff_ne.2 (by omega)
        have R : Hid (ee = false) := Lib.hid (by rw [← EE.out]; exact decide_eq_false (fun h => q2 (h.2.2.1)))
        clear q2
        go_wp2_with fail
        go_ret
        exact ⟨by rw [R.out]; rfl, HB.out⟩
      have qb2 : (g == 0) = true := by simp [q2]
      have Q2 := Lib.hid q2
      clear q2
      by_cases q3 : n = 0
      case neg =>
        have qb3 : (n == 0) = false := beq_eq_false_iff_ne.2 (by omega)
        have R : Hid (ee = false) := Lib.hid (by rw [← EE.out]; exact decide_eq_false (fun h => q3 (h.2.2.2.1)))
        clear q3
        go_wp2_with fail
        go_ret
        exact ⟨by rw [R.out]; rfl, HB.out⟩
      have qb3 : (n == 0) = true := by simp [q3]
      have Q3 := Lib.hid q3
      clear q3
      by_cases q4 : r = 0
      case neg =>
        have qb4 : (r == 0) = false := beq_eq_false_iff_ne.2 (by omega)
        have R : Hid (ee = false) := Lib.hid (by rw [← EE.out]; exact decide_eq_false (fun h => q4 (h.2.2.2.2.1)))
        clear q4
        go_wp2_with fail
        go_ret
        exact ⟨by rw [R.out]; rfl, HB.out⟩
      have qb4 : (r == 0) = true := by simp [q4]
      have Q4 := Lib.hid q4
      clear q4
      by_cases q5 : S.length = 0
      case neg =>
        have qb5 : ((S.length : Int) == 0) = false := beq_eq_false_iff_ne.2 (by omega)
        have R : Hid (ee = false) := Lib.hid (by rw [← EE.out]; exact decide_eq_false (fun h => q5 (h.2.2.2.2.2.1)))
        clear q5
        go_wp2_with fail
        go_ret
        exact ⟨by rw [R.out]; rfl, HB.out⟩
      have qb5 : ((S.length : Int) == 0) = true := by simp [q5]
      have Q5 := Lib.hid q5
      clear q5
      by_cases q6 : a = 0
      case neg =>
        have qb6 : (a == 0) = false := beq_eq_false_iff_ne.2 (by omega)
        have R : Hid (ee = false) := Lib.hid (by rw [← EE.out]; exact decide_eq_false (fun h => q6 (h.2.2.2.2.2.2.1)))
        clear q6
        go_wp2_with fail
        go_ret
        exact ⟨by rw [R.out]; rfl, HB.out⟩
      have qb6 : (a == 0) = true := by simp [q6]
      have Q6 := Lib.hid q6
      clear q6
      by_cases q7 : b = 0
      case neg =>
        have qb7 : (b == 0) = false := beq_eq_false_iff_ne.2 (by omega)
        have R : Hid (ee = false) := Lib.hid (by rw [← EE.out]; exact decide_eq_false (fun h => q7 (h.2.2.2.2.2.2.2.1)))
        clear q7
        go_wp2_with fail
        go_ret
        exact ⟨by rw [R.out]; rfl, HB.out⟩
      have qb7 : (b == 0) = true := by simp [q7]
      have Q7 := Lib.hid q7
      clear q7
      by_cases q8 : f = 0
      case neg =>
        have qb8 : (f == 0) = false := beq_eq_false_iff_ne.2 (by omega)
        have R : Hid (ee = false) := Lib.hid (by rw [← EE.out]; exact decide_eq_false (fun h => q8 (h.2.2.2.2.2.2.2.2.1)))
        clear q8
        go_wp2_with fail
        go_ret
        exact ⟨by rw [R.out]; rfl, HB.out⟩
      have qb8 : (f == 0) = true := by simp [q8]
      have Q8 := Lib.hid q8
      clear q8
      by_cases q9 : T.length = 0
      case neg =>
        have qb9 : ((T.length : Int) == 0) = false := beq_eq_false_iff_ne.2 (by omega)
        have R : Hid (ee = false) := Lib.hid (by rw [← EE.out]; exact decide_eq_false (fun h => q9 (h.2.2.2.2.2.2.2.2.2.1)))
        clear q9
        go_wp2_with fail
        go_ret
        exact ⟨by rw [R.out]; rfl, HB.out⟩
      have qb9 : ((T.length : Int) == 0) = true := by simp [q9]
      have Q9 := Lib.hid q9
      clear q9
      by_cases q10 : K.length = 0
      case neg =>
        have qb10 : ((K.length : Int) == 0) = false := beq_eq_false_iff_ne.2 (by omega)
        have R : Hid (ee = false) := Lib.hid (by rw [← EE.out]; exact decide_eq_false (fun h => q10 (h.2.2.2.2.2.2.2.2.2.2)))
        clear q10
        go_wp2_with fail
        go_ret
        exact ⟨by rw [R.out]; rfl, HB.out⟩
      have qb10 : ((K.length : Int) == 0) = true := by simp [q10]
      have Q10 := Lib.hid q10
      clear q10
      have R : Hid (ee = true) := Lib.hid (by rw [← EE.out]; exact decide_eq_true ⟨rfl, Q1.out, Q2.out, Q3.out, Q4.out, Q5.out, Q6.out, Q7.out, Q8.out, Q9.out, Q10.out⟩)
      go_wp2_with fail
      go_ret
      exact ⟨by rw [R.out]; rfl, HB.out⟩

end Go.Proofs.Ytfgkkflbpfocjaa

