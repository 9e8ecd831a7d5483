/- Contract: which fragments belong together (the reference). -/
import Derived.Test.YtcifngefclgefaaJb
namespace Go.Proofs.Ytcifngefclgefaa
open Go.RowKit
set_option linter.unusedVariables false
set_option linter.unusedSimpArgs false

theorem tog_lit (x y : Bn) (w : World) : Calls Try.prog 37 #[.agg (BX x), .agg (BX y)] w (RetB (Bn.eqB y.kd x.kd) w) := by
  rw [← tog_kd x y]
  exact together_any x y w
theorem agr_lit (x y : Bn) (hx : Bok x) (hy : Bok y) (w : World) : Calls Try.prog 38 #[.agg (BX x), .agg (BX y)] w (RetB (agrB x y) w) := agree_any x y hx hy w
theorem all_miss {f : Nat → Bool} {k j : Nat} (hj : j < k) (h : f j = false) : (List.range k).all f = false := by
  rw [Bool.eq_false_iff]
  intro c
  have := List.all_eq_true.1 c j (List.mem_range.2 hj)
  rw [h] at this; cases this
theorem all_hit {f : Nat → Bool} {k : Nat} (h : ∀ j, j < k → f j = true) : (List.range k).all f = true := List.all_eq_true.2 fun j hj => h j (List.mem_range.1 hj)

set_option maxRecDepth 100000 in
set_option maxHeartbeats 8000000 in
theorem rChk_any (l : List Bn) (v : Value) (w : World) (hV : BnAt w v l) (hl : l.length ≤ 100000) :
    Calls Try.prog 17 #[v] w (RetII (laidE l).1 ((laidE l).2 : Int) w) := by
  rw [← rErrs_eq]
  obtain ⟨A, c, rfl, _, hc2, hR⟩ := hV
  have HR := Lib.hid hR
  clear hR
  by_cases hnil : l.length = 0
  · have HE : Hid (rErrs l = (8, 0)) := Lib.hid (by unfold rErrs; rw [if_pos hnil])
    have hz : ((l.length : Int) == 0) = true := by rw [hnil]; rfl
    clear hnil
    go_enter Try.func17, Try.ntmps17
    go_wp2_with fail
    go_ret2
    exact ⟨by rw [HE.out]; rfl, Below.refl _ _⟩
  · have hz : ((l.length : Int) == 0) = false := beq_eq_false_iff_ne.2 (by omega)
    have HE : Hid (rErrs l = fstE (rErr l) l.length 0) := Lib.hid (by unfold rErrs; rw [if_neg hnil])
    have hl0 : (0 : Int) < l.length := by omega
    have hln : 0 < l.length := by omega
    clear hnil
    go_enter Try.func17, Try.ntmps17
    go_wp2_with fail
    go_loopw [4] (fun a wr => ∃ k : Nat, k ≤ l.length ∧ a = .int .i64 k ∧ fstE (rErr l) l.length 0 = fstE (rErr l) (l.length - k) k ∧ (∀ j, j < k → rErr l j = 0) ∧ Below w.heap.size w wr) (fun a _ => l.length - (intOf a).toNat)
    case atStart => exact ⟨0, by omega, rfl, rfl, fun j hj => by omega, Below.refl _ _⟩
    case round =>
      obtain ⟨k, hk, rfl, hM, hok, hB⟩ := hrel
      obtain ⟨wy, rfl⟩ : ∃ wy : World, wy = wr := ⟨_, rfl⟩
      have HM := Lib.hid hM
      have HOK := Lib.hid hok
      have HB := Lib.hid hB
      clear hM hok hB
      by_cases hlt : k < l.length
      · obtain ⟨x, hx⟩ : ∃ x, l[k]? = some x := ⟨_, List.getElem?_eq_getElem hlt⟩
        obtain ⟨y, hy⟩ : ∃ y, l[0]? = some y := ⟨_, List.getElem?_eq_getElem hln⟩
        have HXA := Lib.hid (bnAt_of hx)
        have HYA := Lib.hid (bnAt_of hy)
        have HXL := Lib.hid hx
        obtain ⟨b, o, rfl, hb, p0, p1, p2, p3, p4, p5, p6, p7, p8⟩ := reads_bn HR.out rfl hx
        obtain ⟨b', o', e', _, q0, q1, q2, q3, q4, q5, q6, q7, q8⟩ := reads_bn HR.out rfl hy
        cases e'
        have hq9 : Q9 w b (o + k * 9) x := ⟨hb, p0, p1, p2, p3, p4, p5, p6, p7, p8⟩
        have hq9' : Q9 w b o y := by
          have : Q9 w b (o + 0 * 9) y := ⟨hb, q0, q1, q2, q3, q4, q5, q6, q7, q8⟩
          simpa using this
        have QX := Lib.hid hq9
        have QY := Lib.hid hq9'
        clear hx hy p0 p1 p2 p3 p4 p5 p6 p7 p8 q0 q1 q2 q3 q4 q5 q6 q7 q8 hq9 hq9'
        obtain ⟨hbY, d0, d1, d2, d3, d4, d5, d6, d7, d8⟩ := QX.out.below HB.out
        have hki : (k : Int) < l.length := by omega
        have hk0 : (0 : Int) ≤ k := by omega
        obtain ⟨ee, hee⟩ : ∃ ee, bE x = ee := ⟨_, rfl⟩
        have HEE := Lib.hid hee
        have CK : Hid (∀ w, Calls Try.prog 35 #[.agg (BX x)] w (RetI ee w)) := Lib.hid (fun w => by rw [← hee]; exact rCheck_any x w)
        clear hee
        go_wp2_with fail
        clear d0 d1 d2 d3 d4 d5 d6 d7 d8
        refine (CK.out _).mono ?_
        rintro e w1 ⟨rfl, hb1⟩
        have HB1 := Lib.hid (bnext HB.out hb1)
        clear hb1
        by_cases he : ee = 0
        · subst he
          have hee0 : ((0 : Int) != 0) = false := rfl
          obtain ⟨tb, htb⟩ : ∃ tb, Bn.eqB x.kd y.kd = tb := ⟨_, rfl⟩
          have TG : Hid (∀ w, Calls Try.prog 37 #[.agg (BX y), .agg (BX x)] w (RetB tb w)) := Lib.hid (fun w => by rw [← htb]; exact tog_lit y x w)
          have HTB := Lib.hid htb
          clear htb
          obtain ⟨_, d0, d1, d2, d3, d4, d5, d6, d7, d8⟩ := QX.out.below HB1.out
          obtain ⟨_, f0, f1, f2, f3, f4, f5, f6, f7, f8⟩ := QY.out.below HB1.out
          cases tb with
          | false =>
            have HER : Hid (rErr l k = 3) := Lib.hid (by unfold rErr; rw [HXA.out, HYA.out, HEE.out, if_neg (by decide), if_pos HTB.out])
            have HF : Hid (rErrs l = (3, k)) := Lib.hid (by rw [HE.out, HM.out, fstE_hit hlt (by rw [HER.out]; decide), HER.out])
            go_wp2_with fail
            go_region_with (go_at_call 37; refine (TG.out _).mono ?_; rintro e w2 ⟨rfl, hb2⟩)
            all_goals
              go_wp2_with fail
              go_ret2
              exact ⟨by rw [HF.out]; rfl, bnext (bdr HB1.out) hb2⟩
          | true =>
            go_wp2_with fail
            go_region_with (go_at_call 37; refine (TG.out _).mono ?_; rintro e w2 ⟨rfl, hb2⟩)
            all_goals
              have HB2 := Lib.hid (bnext (bdr HB1.out) hb2)
              clear hb2 d0 d1 d2 d3 d4 d5 d6 d7 d8 f0 f1 f2 f3 f4 f5 f6 f7 f8 TG
              go_wp2_with fail
              go_loopw [6] (fun a wr => ∃ j : Nat, j ≤ k ∧ a = .int .i64 j ∧ (∀ i, i < j → agrB (bnAt l i) x = true) ∧ Below w.heap.size w wr) (fun a _ => k - (intOf a).toNat)
              case atStart => exact ⟨0, by omega, rfl, fun j hj => by omega, HB2.out⟩
              case round =>
                obtain ⟨j, hj, rfl, hag, hBj⟩ := hrel
                obtain ⟨wj, rfl⟩ : ∃ wj : World, wj = wr := ⟨_, rfl⟩
                have HAG := Lib.hid hag
                have HBJ := Lib.hid hBj
                clear hag hBj
                by_cases hjk : j < k
                · obtain ⟨z, hz'⟩ : ∃ z, l[j]? = some z := ⟨_, List.getElem?_eq_getElem (by omega)⟩
                  have HZA := Lib.hid (bnAt_of hz')
                  obtain ⟨b2, o2, e2, _, p0, p1, p2, p3, p4, p5, p6, p7, p8⟩ := reads_bn HR.out rfl hz'
                  cases e2
                  have hq9 : Q9 w b (o + j * 9) z := ⟨hb, p0, p1, p2, p3, p4, p5, p6, p7, p8⟩
                  have QZ := Lib.hid hq9
                  clear hz' p0 p1 p2 p3 p4 p5 p6 p7 p8 hq9
                  have hzo : Bok z := by
                    have := rErr_ok (HOK.out j hjk)
                    rwa [HZA.out] at this
                  obtain ⟨ab, hab⟩ : ∃ ab, agrB z x = ab := ⟨_, rfl⟩
                  have AG : Hid (∀ w, Calls Try.prog 38 #[.agg (BX z), .agg (BX x)] w (RetB ab w)) := Lib.hid (fun w => by rw [← hab]; exact agr_lit z x hzo (bok_of HEE.out) w)
                  have HAB := Lib.hid hab
                  clear hab hzo
                  obtain ⟨_, d0, d1, d2, d3, d4, d5, d6, d7, d8⟩ := QX.out.below HBJ.out
                  obtain ⟨_, f0, f1, f2, f3, f4, f5, f6, f7, f8⟩ := QZ.out.below HBJ.out
                  have hji : (j : Int) < k := by omega
                  have hjl : (j : Int) < l.length := by omega
                  have hj0 : (0 : Int) ≤ j := by omega
                  cases ab with
                  | false =>
                    have HER : Hid (rErr l k = 12) := Lib.hid (by unfold rErr; rw [HXA.out, HYA.out, HEE.out, if_neg (by decide), if_neg (by rw [HTB.out]; decide), if_pos (all_miss hjk (by rw [HZA.out]; exact HAB.out))])
                    have HF : Hid (rErrs l = (12, k)) := Lib.hid (by rw [HE.out, HM.out, fstE_hit hlt (by rw [HER.out]; decide), HER.out])
                    go_wp2_with fail
                    go_region_with (go_at_call 38; refine (AG.out _).mono ?_; rintro e w3 ⟨rfl, hb3⟩)
                    all_goals
                      go_wp2_with fail
                      go_ret2
                      exact ⟨by rw [HF.out]; rfl, bnext (bdr HBJ.out) hb3⟩
                  | true =>
                    go_wp2_with fail
                    go_region_with (go_at_call 38; refine (AG.out _).mono ?_; rintro e w3 ⟨rfl, hb3⟩)
                    all_goals
                      go_wp2_with fail
                      go_roundw
                      case rel =>
                        refine ⟨j + 1, by omega, by go_num, fun i hi => ?_, bnext (bdr HBJ.out) hb3⟩
                        rcases Nat.lt_or_eq_of_le (Nat.le_of_lt_succ hi) with d | d
                        · exact HAG.out i d
                        · rw [d, HZA.out]; exact HAB.out
                      case measure => simp [intOf]; omega
                · obtain rfl : j = k := by omega
                  have HER : Hid (rErr l j = 0) := Lib.hid (by unfold rErr; rw [HXA.out, HYA.out, HEE.out, if_neg (by decide), if_neg (by rw [HTB.out]; decide), if_neg (by rw [all_hit fun i hi => HAG.out i hi]; decide)])
                  have HM2 : Hid (fstE (rErr l) l.length 0 = fstE (rErr l) (l.length - (j + 1)) (j + 1)) := Lib.hid (HM.out.trans (fstE_miss hlt HER.out))
                  go_wp2_with fail
                  go_roundw
                  case rel =>
                    refine ⟨j + 1, by omega, by go_num, HM2.out, fun i hi => ?_, HBJ.out⟩
                    rcases Nat.lt_or_eq_of_le (Nat.le_of_lt_succ hi) with d | d
                    · exact HOK.out i d
                    · rw [d]; exact HER.out
                  case measure => simp [intOf]; omega
        · have hen : (ee != 0) = true := by simpa using he
          have HER : Hid (rErr l k = ee) := Lib.hid (by unfold rErr; rw [HXA.out, HEE.out, if_pos he])
          have HF : Hid (rErrs l = (ee, k)) := Lib.hid (by rw [HE.out, HM.out, fstE_hit hlt (by rw [HER.out]; exact he), HER.out])
          clear he
          go_wp2_with fail
          go_ret2
          exact ⟨by rw [HF.out]; rfl, HB1.out⟩
      · obtain rfl : k = l.length := by omega
        have HF : Hid (rErrs l = (0, 0)) := Lib.hid (by rw [HE.out, HM.out, Nat.sub_self]; rfl)
        go_wp2_with fail
        go_ret2
        exact ⟨by rw [HF.out]; rfl, HB.out⟩
end Go.Proofs.Ytcifngefclgefaa
