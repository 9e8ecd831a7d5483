/- Contracts: the reference's return of a receiver's valid ledger. The plain model of a new floor of a receiver's ledger that keeps nothing; no program in sight. What a ledger made of numbers always is. Rows that a function owns: small laws. Contract: a ledger made of numbers. What a receiver's ledger made of numbers always is. -/
import Derived.Test.YtfgkkflbpfocjaaZc26
import Derived.Test.YtfgkkflbpfocjaaZc16
import Derived.Test.YtfgkkflbpfocjaaZc13
import Derived.Deep.RegionLaw
import Derived.Deep.AppendLies
import Derived.Test.YtfgkkflbpfocjaaZc6
namespace Go.Proofs.Ytfgkkflbpfocjaa
open Go.RowKit
set_option linter.unusedVariables false
set_option linter.unusedSimpArgs false

/-- what a return makes of a ledger -/
def retR (z : Rec) (t : Int) : Rec × Int × Int := if z.g - endK z z.tk.length < t then (zRec, 0, 14) else ({ z with r := max z.r t }, max z.r t - z.r, 0)
theorem endK_last {z : Rec} (h : 0 < z.tk.length) : endK z z.tk.length = (rgAt z.tk (z.tk.length - 1)).t := by
  obtain ⟨n, hn⟩ : ∃ n, z.tk.length = n + 1 := ⟨z.tk.length - 1, by omega⟩
  rw [hn]; rfl

theorem RowB.drew' {B : Nat} {w : World} {k : Nat} {v : Value} {n : Nat} {xs : List Value} (h : RowB B w k v n xs) : RowB B w.drew k v n xs := h
set_option maxRecDepth 100000 in
set_option maxHeartbeats 8000000 in
theorem rvReturn_ok (a b f : Int) (T : List Rg) (K : List Int) (hw : WfR ⟨a, b, f, T, K⟩) (hk : okR ⟨a, b, f, T, K⟩) (t : Int) (ht0 : 0 ≤ t) (ht1 : t ≤ 18446744073709551615) (vt vk : Value) (w : World) (ht : RgsAt w vt T) (hkp : KpsAt w vk K) :
    Calls Try.prog 113 #[.agg #[.int .u64 a, .int .u64 b, .int .u64 f, vt, vk], .int .u64 t] w (RetRNE (retR ⟨a, b, f, T, K⟩ t).1 (retR ⟨a, b, f, T, K⟩ t).2.1 (retR ⟨a, b, f, T, K⟩ t).2.2 w) := by
  have hln := (okR_of hk).nt
  have hlk := (okR_of hk).nk
  have hE := endK_le (okR_of hk) (k := T.length) (Nat.le_refl _)
  have hg := (okR_of hk).g
  obtain ⟨n, HC⟩ := rvCheck_ok _ hw hk
  have HC' := Lib.hid HC
  have ha : 0 ≤ a := hw.g.1
  have hb0 : 0 ≤ b := hw.r.1
  have hf0 : 0 ≤ f := hw.fl.1
  have HL := Lib.hid (fun h => endK_last (z := ⟨a, b, f, T, K⟩) h)
  have HL0 : Hid (T.length = 0 → endK ⟨a, b, f, T, K⟩ T.length = f) := Lib.hid (fun h => by rw [h]; rfl)
  obtain ⟨E, hEE⟩ : ∃ E, endK ⟨a, b, f, T, K⟩ T.length = E := ⟨_, rfl⟩
  have HE := Lib.hid hEE
  rw [hEE] at hE
  obtain ⟨A, c, rfl⟩ := ht.form
  obtain ⟨C, d, rfl⟩ := hkp.form
  obtain ⟨_, _, e, _, hcc, hRt⟩ := id ht
  cases e
  unfold maxLen at hcc
  have HRt := Lib.hid hRt
  have HT := Lib.hid ht
  have HK := Lib.hid hkp
  clear HC hw hk ht hkp hRt hEE
  dsimp only at HC' hln hlk hE hg
  go_enter Try.func113, Try.ntmps113
  go_wp2_with fail
  have k0 := (Blk.new w 29 #[.int .u64 a, .int .u64 b, .int .u64 f, .slice A T.length c, .slice C K.length d]).alloc (.cells #[.int .u64 0, .int .u64 0, .int .u64 0, .slice none 0 0, .slice none 0 0] 29)
  have k1 := Blk.new1 w (.cells #[.int .u64 a, .int .u64 b, .int .u64 f, .slice A T.length c, .slice C K.length d] 29) 29 #[.int .u64 0, .int .u64 0, .int .u64 0, .slice none 0 0, .slice none 0 0]
  have hB := bal (bal (Below.refl w.heap.size w) (.cells #[.int .u64 a, .int .u64 b, .int .u64 f, .slice A T.length c, .slice C K.length d] 29)) (.cells #[.int .u64 0, .int .u64 0, .int .u64 0, .slice none 0 0, .slice none 0 0] 29)
  refine (HC'.out _ _ _ (HT.out.below hB) (HK.out.below hB)).mono ?_
  rintro e w1 ⟨rfl, hb⟩
  replace k0 := k0.below hb
  replace k1 := k1.below hb
  replace hB := bnext hB hb
  clear hb HC'
  obtain ⟨x0, x1, x2, x3, x4⟩ := k0.c5
  obtain ⟨y0, y1, y2, y3, y4⟩ := k1.c5
  obtain ⟨f0, f1, f2, f3, f4⟩ := k1.f5
  have hl1 := k1.lt
  by_cases hT : T.length = 0
  · have e1 := HL0.out hT
    rw [HE.out] at e1
    have hT1 : ¬ (0 : Int) < T.length := by omega
    obtain rfl := e1.symm
    clear hT
    go_upto_region 7 with fail
    have hE0 : 0 ≤ a - f := by omega
    have WE : IntKind.u64.wrap (a - f) = a - f := IntWalk.u64_in _ (by omega)
    by_cases hgt : a - f < t
    · have hgd : decide (a - f < t) = true := decide_eq_true hgt
      have G : Hid (retR ⟨a, b, f, T, K⟩ t = (zRec, 0, 14)) := Lib.hid (by unfold retR; dsimp only; rw [HE.out, if_pos (by omega)])
      go_wp2_with fail
      clear WE hgd
      refine bodyPost_ret (v := .tuple #[.agg #[.int .u64 0, .int .u64 0, .int .u64 0, .slice none 0 0, .slice none 0 0], .int .u64 0, .int .i64 14]) (by simp [results, Try.results113, go_sem, y0, y1, y2, y3, y4, hl1]) rfl ?_
      rw [G.out]
      exact ⟨none, 0, none, 0, rfl, RowB.nil _ _ 2, RowB.nil _ _ 1, (by repeat (first | with_reducible exact Below.refl _ _ | with_reducible refine Below.drew ?_ | with_reducible refine below_drewN ?_ _ | with_reducible refine bal ?_ _ | with_reducible refine bset ?_ (by first | (simp; done) | (simp; omega)) _ | with_reducible refine bnext ?_ (by assumption) | with_reducible assumption))⟩
    · have hgd : decide (a - f < t) = false := decide_eq_false hgt
      go_wp2_with fail
      clear WE hgd
      refine (rown19_any a b f T K _ _ w1 (HT.out.below hB) (HK.out.below hB) (by omega) (by omega)).mono ?_
      rintro e w2 ⟨vt, vk, rfl, hr, hq, hb⟩
      obtain ⟨A', c', rfl, _⟩ := id hr
      obtain ⟨C', d', rfl, _⟩ := id hq
      have hwl : w.heap.size + 2 ≤ w1.heap.size := hl1
      have HR := Lib.hid hr
      have HQ := Lib.hid hq
      replace k0 := k0.below hb
      replace k1 := k1.below hb
      replace hB := bnext hB hb
      clear hb hr hq x0 x1 x2 x3 x4 y0 y1 y2 y3 y4 hl1
      obtain ⟨x0, x1, x2, x3, x4⟩ := k0.c5
      obtain ⟨y0, y1, y2, y3, y4⟩ := k1.c5
      obtain ⟨f0, f1, f2, f3, f4⟩ := k1.f5
      have hl1 := k1.lt
      have hne : ¬ w.heap.size + 1 = w2.heap.size := by omega
      have hne0 : ¬ w.heap.size = w2.heap.size := by omega
      have hl0 : w.heap.size < w2.heap.size := by omega
      by_cases hbt : b < t
      · have G : Hid (retR ⟨a, b, f, T, K⟩ t = (⟨a, t, f, T, K⟩, t - b, 0)) := Lib.hid (by unfold retR; dsimp only; rw [HE.out, if_neg (by omega), show max b t = t from by omega])
        have hbd : decide (b < t) = true := decide_eq_true (by omega)
        have hmx : max b t = t := by omega
        have WR : IntKind.u64.wrap (t - b) = t - b := IntWalk.u64_in _ (by omega)
        have HX := Lib.hid hmx
        go_upto_region 11 with fail
        try rw [HX.out]
        clear hmx
        go_region
        all_goals
          clear WR
          go_wp2_with fail
          refine bodyPost_ret (v := .tuple #[.agg #[.int .u64 a, .int .u64 t, .int .u64 f, .slice A' T.length c', .slice C' K.length d'], .int .u64 (t - b), .int .i64 0]) (by simp [results, Try.results113, go_sem, y0, y1, y2, y3, y4, hne, hl1]) rfl ?_
          rw [G.out]
          refine ⟨A', c', C', d', rfl, ?_, ?_, ?_⟩
          · refine RowB.low (B := w1.heap.size + 2) ?_ (by omega)
            repeat (first | with_reducible exact HR.out | with_reducible refine RowB.drew' ?_ | with_reducible refine RowB.set ?_ (by simp; omega) _ | with_reducible refine RowB.alloc ?_ _)
          · refine RowB.low (B := w1.heap.size + 2) ?_ (by omega)
            repeat (first | with_reducible exact HQ.out | with_reducible refine RowB.drew' ?_ | with_reducible refine RowB.set ?_ (by simp; omega) _ | with_reducible refine RowB.alloc ?_ _)
          · exact (by repeat (first | with_reducible exact Below.refl _ _ | with_reducible refine Below.drew ?_ | with_reducible refine below_drewN ?_ _ | with_reducible refine bal ?_ _ | with_reducible refine bset ?_ (by first | (simp; done) | (simp; omega)) _ | with_reducible refine bnext ?_ (by assumption) | with_reducible assumption))
      · have G : Hid (retR ⟨a, b, f, T, K⟩ t = (⟨a, b, f, T, K⟩, b - b, 0)) := Lib.hid (by unfold retR; dsimp only; rw [HE.out, if_neg (by omega), show max b t = b from by omega])
        have hbd : decide (b < t) = false := decide_eq_false (by omega)
        have hmx : max b t = b := by omega
        have WR : IntKind.u64.wrap (b - b) = b - b := IntWalk.u64_in _ (by omega)
        have HX := Lib.hid hmx
        go_upto_region 11 with fail
        try rw [HX.out]
        clear hmx
        go_region
        all_goals
          clear WR
          go_wp2_with fail
          refine bodyPost_ret (v := .tuple #[.agg #[.int .u64 a, .int .u64 b, .int .u64 f, .slice A' T.length c', .slice C' K.length d'], .int .u64 (b - b), .int .i64 0]) (by simp [results, Try.results113, go_sem, y0, y1, y2, y3, y4, hne, hl1]) rfl ?_
          rw [G.out]
          refine ⟨A', c', C', d', rfl, ?_, ?_, ?_⟩
          · refine RowB.low (B := w1.heap.size + 2) ?_ (by omega)
            repeat (first | with_reducible exact HR.out | with_reducible refine RowB.drew' ?_ | with_reducible refine RowB.set ?_ (by simp; omega) _ | with_reducible refine RowB.alloc ?_ _)
          · refine RowB.low (B := w1.heap.size + 2) ?_ (by omega)
            repeat (first | with_reducible exact HQ.out | with_reducible refine RowB.drew' ?_ | with_reducible refine RowB.set ?_ (by simp; omega) _ | with_reducible refine RowB.alloc ?_ _)
          · exact (by repeat (first | with_reducible exact Below.refl _ _ | with_reducible refine Below.drew ?_ | with_reducible refine below_drewN ?_ _ | with_reducible refine bal ?_ _ | with_reducible refine bset ?_ (by first | (simp; done) | (simp; omega)) _ | with_reducible refine bnext ?_ (by assumption) | with_reducible assumption))
  · have hT1 : (0 : Int) < T.length := by omega
    have e1 := HL.out (by first | omega | (dsimp only; omega))
    try dsimp only at e1
    rw [HE.out] at e1
    obtain ⟨m, hm⟩ : ∃ m, T.length = m + 1 := ⟨T.length - 1, by omega⟩
    have hmT : m < T.length := by omega
    obtain ⟨bt, ot, rfl, hbt, p0, p1⟩ := reads_rg HRt.out rfl (rgAt_get hmT)
    have d1 := (hB.cell (p := ⟨bt, ot + m * 2 + 1, none⟩) hbt).trans p1
    rw [show T.length - 1 = m from by omega] at e1
    rw [← e1] at d1
    have hmi : (T.length : Int) - 1 = m := by omega
    have hmi2 : (m : Int) < T.length := by omega
    have HM := Lib.hid hm
    clear p0 p1 e1 hm
    go_upto_region 7 with fail
    have hE0 : 0 ≤ a - E := by omega
    have WE : IntKind.u64.wrap (a - E) = a - E := IntWalk.u64_in _ (by omega)
    by_cases hgt : a - E < t
    · have hgd : decide (a - E < t) = true := decide_eq_true hgt
      have G : Hid (retR ⟨a, b, f, T, K⟩ t = (zRec, 0, 14)) := Lib.hid (by unfold retR; dsimp only; rw [HE.out, if_pos (by omega)])
      go_wp2_with fail
      clear WE hgd
      refine bodyPost_ret (v := .tuple #[.agg #[.int .u64 0, .int .u64 0, .int .u64 0, .slice none 0 0, .slice none 0 0], .int .u64 0, .int .i64 14]) (by simp [results, Try.results113, go_sem, y0, y1, y2, y3, y4, hl1]) rfl ?_
      rw [G.out]
      exact ⟨none, 0, none, 0, rfl, RowB.nil _ _ 2, RowB.nil _ _ 1, (by repeat (first | with_reducible exact Below.refl _ _ | with_reducible refine Below.drew ?_ | with_reducible refine below_drewN ?_ _ | with_reducible refine bal ?_ _ | with_reducible refine bset ?_ (by first | (simp; done) | (simp; omega)) _ | with_reducible refine bnext ?_ (by assumption) | with_reducible assumption))⟩
    · have hgd : decide (a - E < t) = false := decide_eq_false hgt
      go_wp2_with fail
      clear WE hgd
      refine (rown19_any a b f T K _ _ w1 (HT.out.below hB) (HK.out.below hB) (by omega) (by omega)).mono ?_
      rintro e w2 ⟨vt, vk, rfl, hr, hq, hb⟩
      obtain ⟨A', c', rfl, _⟩ := id hr
      obtain ⟨C', d', rfl, _⟩ := id hq
      have hwl : w.heap.size + 2 ≤ w1.heap.size := hl1
      have HR := Lib.hid hr
      have HQ := Lib.hid hq
      replace k0 := k0.below hb
      replace k1 := k1.below hb
      replace hB := bnext hB hb
      clear hb hr hq x0 x1 x2 x3 x4 y0 y1 y2 y3 y4 hl1
      obtain ⟨x0, x1, x2, x3, x4⟩ := k0.c5
      obtain ⟨y0, y1, y2, y3, y4⟩ := k1.c5
      obtain ⟨f0, f1, f2, f3, f4⟩ := k1.f5
      have hl1 := k1.lt
      have hne : ¬ w.heap.size + 1 = w2.heap.size := by omega
      have hne0 : ¬ w.heap.size = w2.heap.size := by omega
      have hl0 : w.heap.size < w2.heap.size := by omega
      by_cases hbt : b < t
      · have G : Hid (retR ⟨a, b, f, T, K⟩ t = (⟨a, t, f, T, K⟩, t - b, 0)) := Lib.hid (by unfold retR; dsimp only; rw [HE.out, if_neg (by omega), show max b t = t from by omega])
        have hbd : decide (b < t) = true := decide_eq_true (by omega)
        have hmx : max b t = t := by omega
        have WR : IntKind.u64.wrap (t - b) = t - b := IntWalk.u64_in _ (by omega)
        have HX := Lib.hid hmx
        go_upto_region 11 with fail
        try rw [HX.out]
        clear hmx
        go_region
        all_goals
          clear WR
          go_wp2_with fail
          refine bodyPost_ret (v := .tuple #[.agg #[.int .u64 a, .int .u64 t, .int .u64 f, .slice A' T.length c', .slice C' K.length d'], .int .u64 (t - b), .int .i64 0]) (by simp [results, Try.results113, go_sem, y0, y1, y2, y3, y4, hne, hl1]) rfl ?_
          rw [G.out]
          refine ⟨A', c', C', d', rfl, ?_, ?_, ?_⟩
          · refine RowB.low (B := w1.heap.size + 2) ?_ (by omega)
            repeat (first | with_reducible exact HR.out | with_reducible refine RowB.drew' ?_ | with_reducible refine RowB.set ?_ (by simp; omega) _ | with_reducible refine RowB.alloc ?_ _)
          · refine RowB.low (B := w1.heap.size + 2) ?_ (by omega)
            repeat (first | with_reducible exact HQ.out | with_reducible refine RowB.drew' ?_ | with_reducible refine RowB.set ?_ (by simp; omega) _ | with_reducible refine RowB.alloc ?_ _)
          · exact (by repeat (first | with_reducible exact Below.refl _ _ | with_reducible refine Below.drew ?_ | with_reducible refine below_drewN ?_ _ | with_reducible refine bal ?_ _ | with_reducible refine bset ?_ (by first | (simp; done) | (simp; omega)) _ | with_reducible refine bnext ?_ (by assumption) | with_reducible assumption))
      · have G : Hid (retR ⟨a, b, f, T, K⟩ t = (⟨a, b, f, T, K⟩, b - b, 0)) := Lib.hid (by unfold retR; dsimp only; rw [HE.out, if_neg (by omega), show max b t = b from by omega])
        have hbd : decide (b < t) = false := decide_eq_false (by omega)
        have hmx : max b t = b := by omega
        have WR : IntKind.u64.wrap (b - b) = b - b := IntWalk.u64_in _ (by omega)
        have HX := Lib.hid hmx
        go_upto_region 11 with fail
        try rw [HX.out]
        clear hmx
        go_region
        all_goals
          clear WR
          go_wp2_with fail
          refine bodyPost_ret (v := .tuple #[.agg #[.int .u64 a, .int .u64 b, .int .u64 f, .slice A' T.length c', .slice C' K.length d'], .int .u64 (b - b), .int .i64 0]) (by simp [results, Try.results113, go_sem, y0, y1, y2, y3, y4, hne, hl1]) rfl ?_
          rw [G.out]
          refine ⟨A', c', C', d', rfl, ?_, ?_, ?_⟩
          · refine RowB.low (B := w1.heap.size + 2) ?_ (by omega)
            repeat (first | with_reducible exact HR.out | with_reducible refine RowB.drew' ?_ | with_reducible refine RowB.set ?_ (by simp; omega) _ | with_reducible refine RowB.alloc ?_ _)
          · refine RowB.low (B := w1.heap.size + 2) ?_ (by omega)
            repeat (first | with_reducible exact HQ.out | with_reducible refine RowB.drew' ?_ | with_reducible refine RowB.set ?_ (by simp; omega) _ | with_reducible refine RowB.alloc ?_ _)
          · exact (by repeat (first | with_reducible exact Below.refl _ _ | with_reducible refine Below.drew ?_ | with_reducible refine below_drewN ?_ _ | with_reducible refine bal ?_ _ | with_reducible refine bset ?_ (by first | (simp; done) | (simp; omega)) _ | with_reducible refine bnext ?_ (by assumption) | with_reducible assumption))
end Go.Proofs.Ytfgkkflbpfocjaa

namespace Go.Proofs.Ytfgkkflbpfocjaa
set_option linter.unusedVariables false
set_option linter.unusedSimpArgs false

/-- what lies behind a floor, of the first k ranges -/
def cutL (n : Int) (l : List Rg) : Nat → List Rg
  | 0 => []
  | k + 1 => if max (rgAt l k).f n < (rgAt l k).t then cutL n l k ++ [⟨max (rgAt l k).f n, (rgAt l k).t⟩] else cutL n l k
def flR (z : Rec) (t : Int) : Rec := ⟨z.g, z.r, max z.fl t, cutL (max z.fl t) z.tk z.tk.length, []⟩
theorem cutL_len (n : Int) (l : List Rg) : ∀ k, (cutL n l k).length ≤ k := by
  intro k
  induction k with
  | zero => exact Nat.le_refl _
  | succ k ih =>
    rw [cutL]
    split
    · rw [List.length_append, List.length_singleton]; omega
    · omega
/-- ranges in order above a floor, the last at most e -/
def Asc (n e : Int) (l : List Rg) : Prop := (∀ i, i < l.length → (rgAt l i).f < (rgAt l i).t ∧ n ≤ (rgAt l i).f ∧ (rgAt l i).t ≤ e ∧ (0 < i → (rgAt l (i - 1)).t < (rgAt l i).f))
theorem asc_up {n e e' : Int} {l : List Rg} (h : Asc n e l) (he : e ≤ e') : Asc n e' l := fun i hi => by
  have := h i hi
  exact ⟨this.1, this.2.1, by omega, this.2.2.2⟩
theorem asc_app {n e : Int} {l : List Rg} {x : Rg} (h : Asc n e l) (h1 : x.f < x.t) (h2 : n ≤ x.f) (h3 : 0 < l.length → e < x.f) (h4 : e ≤ x.t) : Asc n x.t (l ++ [x]) := by
  intro i hi
  rw [List.length_append, List.length_singleton] at hi
  by_cases e1 : i = l.length
  · rw [e1, rgAt_end]
    refine ⟨h1, h2, Int.le_refl _, fun h0 => ?_⟩
    rw [rgAt_app (by omega)]
    have := (h (l.length - 1) (by omega)).2.2.1
    have := h3 (by omega)
    omega
  · rw [rgAt_app (by omega)]
    obtain ⟨a, b, c, d⟩ := h i (by omega)
    refine ⟨a, b, by omega, fun h0 => ?_⟩
    rw [rgAt_app (by omega)]
    exact d h0
theorem cutL_asc {z : Rec} (h : OkR z) (n : Int) (hn : z.fl ≤ n) : ∀ k, k ≤ z.tk.length → Asc n (endK z k) (cutL n z.tk k) := by
  intro k
  induction k with
  | zero => intro _ i hi; cases hi
  | succ k ih =>
    intro hk
    have ih := ih (by omega)
    have hx := h.t k (by omega)
    have he := endK_next h (k := k) (by omega)
    have hend : endK z (k + 1) = (rgAt z.tk k).t := rfl
    rw [cutL, hend]
    by_cases c : max (rgAt z.tk k).f n < (rgAt z.tk k).t
    · rw [if_pos c]
      refine asc_app (x := ⟨max (rgAt z.tk k).f n, (rgAt z.tk k).t⟩) ih c (by dsimp only; omega) (fun h0 => ?_) (by dsimp only; omega)
      dsimp only
      have hk0 : 0 < k := by
        have := cutL_len n z.tk k
        omega
      have := hx.2.2.2 hk0
      have e2 : endK z k = (rgAt z.tk (k - 1)).t := by
        obtain ⟨m, rfl⟩ : ∃ m, k = m + 1 := ⟨k - 1, by omega⟩
        rfl
      omega
    · rw [if_neg c]
      exact asc_up ih (by omega)
theorem flR_ok {z : Rec} (h : OkR z) (hw : WfR z) {t : Int} (h0 : 0 ≤ t) (h1 : t ≤ z.g - z.r) : okR (flR z t) ∧ WfR (flR z t) ∧ (∀ j, j < (flR z t).tk.length → (rgAt (flR z t).tk j).t ≤ endK z z.tk.length) := by
  have a := cutL_asc h (max z.fl t) (by omega) z.tk.length (Nat.le_refl _)
  have e := (endK_le h (k := z.tk.length) (Nat.le_refl _)).2
  have l := cutL_len (max z.fl t) z.tk z.tk.length
  have hg := h.g
  have hfl := h.fl
  have hw1 := hw.g; have hw2 := hw.r; have hw3 := hw.fl
  have hnt := h.nt
  refine ⟨okR_mk ⟨hg, h.r, by show max z.fl t ≤ z.g - z.r; omega, by show (cutL _ _ _).length ≤ 1000; omega, Nat.zero_le _, fun i hi => ?_⟩ rfl, ⟨hw1, hw2, by show 0 ≤ max z.fl t ∧ max z.fl t ≤ _; omega, fun x hx => ?_, fun x hx => by cases hx⟩, fun j hj => (a j hj).2.2.1⟩
  · obtain ⟨q1, q2, q3, q4⟩ := a i hi
    refine ⟨q1, q2, ?_, q4⟩
    show (rgAt (cutL _ _ _) i).t ≤ z.g - z.r
    omega
  · obtain ⟨i, hi, e2⟩ := mem_rgAt hx
    have hi : i < (cutL (max z.fl t) z.tk z.tk.length).length := hi
    obtain ⟨q1, q2, q3, q4⟩ := a i hi
    have e2 : rgAt (cutL (max z.fl t) z.tk z.tk.length) i = x := e2
    rw [e2] at q1 q2 q3
    omega
end Go.Proofs.Ytfgkkflbpfocjaa

namespace Go.Proofs.Ytfgkkflbpfocjaa
set_option linter.unusedVariables false
set_option linter.unusedSimpArgs false

end Go.Proofs.Ytfgkkflbpfocjaa

namespace Go.Proofs.Ytfgkkflbpfocjaa
open Go.RowKit
set_option linter.unusedVariables false
set_option linter.unusedSimpArgs false

theorem ho_far {w : World} {base : Nat} {e t : TypeId} {size n : Nat} {v : Value} {xs : List Value} {a : Addr} {cs : Array Value} (h : w.ownsRow base e size v n xs) (hk : Blk w a.block t cs) (hne : e ≠ t) (u : Value) : (w.setCell a u).ownsRow base e size v n xs := by
  refine h.kept (row := some a.block) ⟨rfl, rfl, rfl, by simp [World.setCell], fun k _ hk => Below.heap_setCell _ _ _ _ (fun e => hk (by rw [e]))⟩ ?_
  rcases h.2 with ⟨rfl, _⟩ | ⟨g, cap, cur, rfl, _, hh, _⟩
  · exact .inl rfl
  · right
    intro e'
    have : g = a.block := by simpa [Value.ownBlock] using e'
    subst this
    unfold Blk at hk
    rw [hk] at hh
    injection hh with hh
    injection hh with _ ht
    exact hne ht.symm
theorem blk_ne_own {w : World} {base : Nat} {e t : TypeId} {size n g : Nat} {v : Value} {xs : List Value} {cs : Array Value} (h : w.ownsRow base e size v n xs) (hk : Blk w g t cs) (hne : e ≠ t) : some g ≠ v.ownBlock := by
  rcases h.2 with ⟨rfl, _⟩ | ⟨g', cap, cur, rfl, _, hh, _⟩
  · simp [Value.ownBlock]
  · intro e'
    have : g' = g := by simpa [Value.ownBlock] using e'.symm
    subst this
    unfold Blk at hk
    rw [hk] at hh
    injection hh with hh
    injection hh with _ ht
    exact hne ht.symm
theorem flat_snoc (l : List Sl) (x : Sl) : flat (l ++ [x]) = flat l ++ [.int .u64 x.off, .int .u64 x.size, .int .i64 x.node, .int .u64 x.seq, .int .i64 x.io] := by simp [flat, Sl.cells]
end Go.Proofs.Ytfgkkflbpfocjaa

namespace Go.Proofs.Ytfgkkflbpfocjaa
open Go.RowKit
set_option linter.unusedVariables false
set_option linter.unusedSimpArgs false

theorem tmod_rng {a n : Int} (hn : 1 ≤ n) : -n < a.tmod n ∧ a.tmod n < n :=
  ⟨Int.lt_tmod_of_pos a (by omega), Int.tmod_lt_of_pos _ (by omega)⟩
def RngPost (n : Int) (w : World) (e : Ending) (w' : World) : Prop := ∃ m, (0 ≤ m ∧ m < n) ∧ e = .returned (.int .i64 m) ∧ w = w'
set_option maxHeartbeats 400000 in
theorem Mod_rng (a n : Int) (w : World) (hn : 1 ≤ n) (hn2 : n ≤ 9223372036854775807) :
    Calls Try.prog 16 #[.int .i64 a, .int .i64 n] w (RngPost n w) := by
  obtain ⟨b2, b1⟩ := tmod_rng (a := a) hn
  by_cases h : a.tmod n < 0
  · go_enter Try.func16, Try.ntmps16
    go_wp2
    go_ret
    exact ⟨_, ⟨by omega, by omega⟩, rfl, rfl⟩
  · go_enter Try.func16, Try.ntmps16
    go_wp2
    go_ret
    exact ⟨_, ⟨by omega, by omega⟩, rfl, rfl⟩

section
variable {P : Program} {w : World}
end

def ints (xs : List Int) : List Value := xs.map (.int .i64)

end Go.Proofs.Ytfgkkflbpfocjaa

namespace Go.Proofs.Ytfgkkflbpfocjaa
set_option linter.unusedVariables false
set_option linter.unusedSimpArgs false

/-- a receiver's ledger behind i rounds; p: where the next range may begin -/
structure RecI (i : Nat) (z : Rec) (p : Int) : Prop where
  g : 300 ≤ z.g ∧ z.g ≤ 300 + 20 * i
  r : z.r = 0
  fl : 0 ≤ z.fl ∧ z.fl ≤ p
  pb : p ≤ 29 * i
  nt : z.tk.length ≤ i
  nk : z.kp.length ≤ i
  t : ∀ k, k < z.tk.length → (rgAt z.tk k).f < (rgAt z.tk k).t ∧ z.fl ≤ (rgAt z.tk k).f ∧ (rgAt z.tk k).t ≤ p ∧ (0 < k → (rgAt z.tk (k - 1)).t < (rgAt z.tk k).f)
  k : ∀ k, k < z.kp.length → (∃ x ∈ z.tk, x.f = kpAt z.kp k ∧ x.f < x.t ∧ x.t ≤ p) ∧ 0 ≤ kpAt z.kp k ∧ (0 < k → kpAt z.kp (k - 1) < kpAt z.kp k)
end Go.Proofs.Ytfgkkflbpfocjaa

