/- The law: what belongs together, what is covered and missing, the message, another size. -/
import Derived.Test.YtcifngefclgefaaJg
namespace Go.Proofs.Ytcifngefclgefaa
open Go.RowKit
set_option linter.unusedVariables false
set_option linter.unusedSimpArgs false

set_option maxRecDepth 100000 in
set_option maxHeartbeats 8000000 in
theorem FragJoins_t (l : List Bn) (z : Int) (v : Value) (w : World) (hV : BnAt w v l) :
    Calls Try.prog 4 #[v, .int .i64 z] w (RetB true w) := by
  have HV := Lib.hid hV
  obtain ⟨A, c, rfl, _, hc2, hR⟩ := hV
  have HR := Lib.hid hR
  clear hR
  by_cases h24 : l.length ≤ 24
  · have h24i : ¬ (l.length : Int) > 24 := by omega
    have hlz : l.length ≤ 100000 := by omega
    obtain ⟨a, b, hab⟩ : ∃ a b, laidE l = (a, b) := ⟨_, _, rfl⟩
    obtain ⟨cv, ce, hcv⟩ : ∃ a b, rgsOf l true = (a, b) := ⟨_, _, rfl⟩
    obtain ⟨mi, me, hmi⟩ : ∃ a b, rgsOf l false = (a, b) := ⟨_, _, rfl⟩
    obtain ⟨js, je, hjo⟩ : ∃ a b, joinOf l = (a, b) := ⟨_, _, rfl⟩
    obtain ⟨rl, re, hrf⟩ : ∃ a b, refitOf l z = (a, b) := ⟨_, _, rfl⟩
    have C1 : Hid (∀ w v, BnAt w v l → Calls Try.prog 16 #[v] w (RetII a (b : Int) w)) := Lib.hid (fun w v h => by have := fCheck_any l v w h hlz; rw [hab] at this; exact this)
    have C2 : Hid (∀ w v, BnAt w v l → Calls Try.prog 17 #[v] w (RetII a (b : Int) w)) := Lib.hid (fun w v h => by have := rChk_any l v w h hlz; rw [hab] at this; exact this)
    have C3 : Hid (∀ w v, BnAt w v l → Calls Try.prog 18 #[v] w (RetRg cv ce w)) := Lib.hid (fun w v h => by have := Covered_any l v w h hlz; rw [hcv] at this; exact this)
    have C4 : Hid (∀ w v, BnAt w v l → Calls Try.prog 19 #[v] w (RetRg cv ce w)) := Lib.hid (fun w v h => by have := rCovered_any l v w h hlz; rw [hcv] at this; exact this)
    have C5 : Hid (∀ w v, BnAt w v l → Calls Try.prog 21 #[v] w (RetRg mi me w)) := Lib.hid (fun w v h => by have := Missing_any l v w h hlz; rw [hmi] at this; exact this)
    have C6 : Hid (∀ w v, BnAt w v l → Calls Try.prog 22 #[v] w (RetRg mi me w)) := Lib.hid (fun w v h => by have := rMissing_any l v w h hlz; rw [hmi] at this; exact this)
    have C7 : Hid (∀ w v, BnAt w v l → Calls Try.prog 23 #[v] w (RetSt js je w)) := Lib.hid (fun w v h => by have := Join_any l v w h hlz; rw [hjo] at this; exact this)
    have C8 : Hid (∀ w v, BnAt w v l → Calls Try.prog 24 #[v] w (RetSt js je w)) := Lib.hid (fun w v h => by have := rJoin_any l v w h hlz; rw [hjo] at this; exact this)
    have C9 : Hid (∀ w v, BnAt w v l → Calls Try.prog 25 #[v, .int .i64 z] w (RetBs rl re w)) := Lib.hid (fun w v h => by have := fRefit_any l v z w h hlz; rw [hrf] at this; exact this)
    have C10 : Hid (∀ w v, BnAt w v l → Calls Try.prog 26 #[v, .int .i64 z] w (RetBs rl re w)) := Lib.hid (fun w v h => by have := rRefit_any l v z w h hlz; rw [hrf] at this; exact this)
    have n1 : (a != a) = false := by simp
    have n2 : ((b : Int) != (b : Int)) = false := by simp
    have n3 : (ce != ce) = false := by simp
    have n4 : (me != me) = false := by simp
    clear hab hcv hmi hjo hrf
    go_enter Try.func4, Try.ntmps4
    go_wp2_with fail
    go_loopw [5] (fun s5 wr => ∃ k : Nat, k ≤ l.length ∧ s5 = .int .i64 k ∧ Below w.heap.size w wr) (fun s5 _ => l.length - (intOf s5).toNat)
    case atStart => exact ⟨0, by omega, rfl, Below.refl _ _⟩
    case round =>
      obtain ⟨k, hk, rfl, hB⟩ := hrel
      obtain ⟨wy, rfl⟩ : ∃ wy : World, wy = wr := ⟨_, rfl⟩
      have HB := Lib.hid hB
      clear hB
      by_cases hlt : k < l.length
      · obtain ⟨x, hx⟩ : ∃ x, l[k]? = some x := ⟨_, List.getElem?_eq_getElem hlt⟩
        obtain ⟨b2, o2, rfl, hb2, _, _, _, _, _, _, _, _, p8⟩ := reads_bn HR.out rfl hx
        have d8 := (HB.out.cell (p := ⟨b2, o2 + k * 9 + 8, none⟩) hb2).trans p8
        have hki : (k : Int) < l.length := by omega
        have hk0 : (0 : Int) ≤ k := by omega
        clear hx p8
        by_cases hs : (x.data.size : Int) > 1010
        · go_wp2_with fail
          refine (awake_any _).mono ?_
          rintro e w1 ⟨rfl, hb1⟩
          have hB1 := bnext HB.out hb1
          clear hb1 d8
          go_wp2_with fail
          go_ret
          exact ⟨rfl, hB1⟩
        · go_wp2_with fail
          go_roundw
          case rel => exact ⟨k + 1, by omega, by go_num, HB.out⟩
          case measure => simp [intOf]; omega
      · obtain rfl : k = l.length := by omega
        have HVy := Lib.hid (SlAt.below HV.out HB.out)
        have HO := Lib.hid (World.ownsRow_made (base := wy.heap.size) (e := 26) (size := 9) wy #[] 0 (Nat.le_refl _) (by unfold maxLen; omega) rfl)
        go_upto_region 9 with (first
          | (at_builtin; refine wpList_app_all (f := Bn.cells) rfl _ _ 28 rfl wy.heap.size 26 9 80 infoBn rfl (by decide) Try.underlying28 bn9 bn_one _ wy wy.heap.size [] l _ _ (by rfl) (by rfl) (HVy.out.alloc _) HO.out (bal (Below.refl _ _) _) (Nat.le_refl _) (by simp) (by simp; omega) (by unfold maxLen; simp; omega) ?_; intro A0 c0 w0 hown hB0 _; have HO0 := Lib.hid hown; clear hown))
        have hA0 : BnAt w0 (.slice A0 l.length c0) l := by
          have := SlAt.own HO0.out
          unfold BnAt
          simpa using this
        try simp only [List.length_nil, Nat.zero_add]
        have IN0 := Lib.hid hA0
        have V0 := Lib.hid (SlAt.below HVy.out hB0)
        have hb0 := Lib.hid (bnext HB.out hB0)
        clear hA0 HO0 hB0 HO HVy HB
        go_wp2_with fail
        refine (C1.out _ _ IN0.out).mono ?_
        rintro e w1 ⟨rfl, hb⟩
        have IN1 := Lib.hid (SlAt.below IN0.out hb)
        have V1 := Lib.hid (SlAt.below V0.out hb)
        have hb1 := Lib.hid (bnext hb0.out hb)
        clear hb IN0 V0 hb0 C1
        go_wp2_with fail
        refine (C2.out _ _ V1.out).mono ?_
        rintro e w2 ⟨rfl, hb⟩
        have IN2 := Lib.hid (SlAt.below IN1.out hb)
        have V2 := Lib.hid (SlAt.below V1.out hb)
        have hb2 := Lib.hid (bnext hb1.out hb)
        clear hb IN1 V1 hb1 C2
        go_wp2_with fail
        refine (C3.out _ _ IN2.out).mono ?_
        rintro e w3 ⟨u3, rfl, hu3, hb⟩
        obtain ⟨A3, c3, rfl, _⟩ := id hu3
        have IN3 := Lib.hid (SlAt.below IN2.out hb)
        have V3 := Lib.hid (SlAt.below V2.out hb)
        have hb3 := Lib.hid (bnext hb2.out hb)
        have U3 := Lib.hid hu3
        clear hb IN2 V2 hb2 C3 hu3
        go_wp2_with fail
        refine (C4.out _ _ V3.out).mono ?_
        rintro e w4 ⟨u4, rfl, hu4, hb⟩
        obtain ⟨A4, c4, rfl, _⟩ := id hu4
        have IN4 := Lib.hid (SlAt.below IN3.out hb)
        have V4 := Lib.hid (SlAt.below V3.out hb)
        have hb4 := Lib.hid (bnext hb3.out hb)
        have U4 := Lib.hid (SlAt.below U3.out hb)
        have X4 := Lib.hid hu4
        clear hb IN3 V3 hb3 C4 hu4 U3
        go_wp2_with fail
        refine (SameRanges_eq cv _ _ _ U4.out X4.out).mono ?_
        rintro e w5 ⟨rfl, hb⟩
        have IN5 := Lib.hid (SlAt.below IN4.out hb)
        have V5 := Lib.hid (SlAt.below V4.out hb)
        have hb5 := Lib.hid (bnext hb4.out hb)
        clear hb IN4 V4 hb4 U4 X4
        go_wp2_with fail
        refine (C5.out _ _ IN5.out).mono ?_
        rintro e w6 ⟨u6, rfl, hu6, hb⟩
        obtain ⟨A6, c6, rfl, _⟩ := id hu6
        have IN6 := Lib.hid (SlAt.below IN5.out hb)
        have V6 := Lib.hid (SlAt.below V5.out hb)
        have hb6 := Lib.hid (bnext hb5.out hb)
        have U6 := Lib.hid hu6
        clear hb IN5 V5 hb5 C5 hu6
        go_wp2_with fail
        refine (C6.out _ _ V6.out).mono ?_
        rintro e w7 ⟨u7, rfl, hu7, hb⟩
        obtain ⟨A7, c7, rfl, _⟩ := id hu7
        have IN7 := Lib.hid (SlAt.below IN6.out hb)
        have V7 := Lib.hid (SlAt.below V6.out hb)
        have hb7 := Lib.hid (bnext hb6.out hb)
        have U7 := Lib.hid (SlAt.below U6.out hb)
        have X7 := Lib.hid hu7
        clear hb IN6 V6 hb6 C6 hu7 U6
        go_wp2_with fail
        refine (SameRanges_eq mi _ _ _ U7.out X7.out).mono ?_
        rintro e w8 ⟨rfl, hb⟩
        have IN8 := Lib.hid (SlAt.below IN7.out hb)
        have V8 := Lib.hid (SlAt.below V7.out hb)
        have hb8 := Lib.hid (bnext hb7.out hb)
        clear hb IN7 V7 hb7 U7 X7
        go_wp2_with fail
        refine (C7.out _ _ IN8.out).mono ?_
        rintro e w9 ⟨rfl, hb⟩
        have IN9 := Lib.hid (SlAt.below IN8.out hb)
        have V9 := Lib.hid (SlAt.below V8.out hb)
        have hb9 := Lib.hid (bnext hb8.out hb)
        clear hb IN8 V8 hb8 C7
        go_wp2_with fail
        refine (C8.out _ _ V9.out).mono ?_
        rintro e w10 ⟨rfl, hb⟩
        have IN10 := Lib.hid (SlAt.below IN9.out hb)
        have V10 := Lib.hid (SlAt.below V9.out hb)
        have hb10 := Lib.hid (bnext hb9.out hb)
        clear hb IN9 V9 hb9 C8
        go_wp2_with fail
        refine (C9.out _ _ IN10.out).mono ?_
        rintro e w11 ⟨u11, rfl, hu11, hb⟩
        obtain ⟨A11, c11, rfl, _⟩ := id hu11
        have IN11 := Lib.hid (SlAt.below IN10.out hb)
        have V11 := Lib.hid (SlAt.below V10.out hb)
        have hb11 := Lib.hid (bnext hb10.out hb)
        have U11 := Lib.hid hu11
        clear hb IN10 V10 hb10 C9 hu11
        go_wp2_with fail
        refine (C10.out _ _ V11.out).mono ?_
        rintro e w12 ⟨u12, rfl, hu12, hb⟩
        obtain ⟨A12, c12, rfl, _⟩ := id hu12
        have IN12 := Lib.hid (SlAt.below IN11.out hb)
        have V12 := Lib.hid (SlAt.below V11.out hb)
        have hb12 := Lib.hid (bnext hb11.out hb)
        have U12 := Lib.hid (SlAt.below U11.out hb)
        have X12 := Lib.hid hu12
        clear hb IN11 V11 hb11 C10 hu12 U11
        go_wp2_with fail
        refine (same_eq rl _ _ _ U12.out X12.out).mono ?_
        rintro e w13 ⟨rfl, hb⟩
        have IN13 := Lib.hid (SlAt.below IN12.out hb)
        have V13 := Lib.hid (SlAt.below V12.out hb)
        have hb13 := Lib.hid (bnext hb12.out hb)
        clear hb IN12 V12 hb12 U12 X12
        go_wp2_with fail
        refine (same_eq l _ _ _ IN13.out V13.out).mono ?_
        rintro e w14 ⟨rfl, hb⟩
        have hb14 := Lib.hid (bnext hb13.out hb)
        clear hb IN13 V13 hb13
        go_wp2_with fail
        refine (awake_any _).mono ?_
        rintro e w15 ⟨rfl, hb⟩
        have hb15 := Lib.hid (bnext hb14.out hb)
        clear hb hb14
        go_wp2_with fail
        go_ret
        exact ⟨rfl, hb15.out⟩
  · have h24i : (l.length : Int) > 24 := by omega
    go_enter Try.func4, Try.ntmps4
    go_wp2_with fail
    refine (awake_any _).mono ?_
    rintro e w1 ⟨rfl, hb1⟩
    go_wp2_with fail
    go_ret
    exact ⟨rfl, hb1⟩
end Go.Proofs.Ytcifngefclgefaa
