/- Contract: DrrOrders. -/
import Derived.Test.YthkfdfkjenhjmaaW0
import Derived.Test.YthkfdfkjenhjmaaY
import Derived.Test.YthkfdfkjenhjmaaO2
namespace Go.Proofs.Ythkfdfkjenhjmaa
open Go.RowKit
set_option linter.unusedVariables false
set_option linter.unusedSimpArgs false

theorem nums_len (o : List Nat) : (nums o).length = o.length := by simp [nums]
theorem nums_get {o : List Nat} {k i : Nat} (h : o[k]? = some i) : (ints (nums o))[k]? = some (.int .i64 (i : Int)) := ints_get (by simp [nums, h])
/-- the last wants of the three priorities so far -/
def lsts (l : List Wt) (L : List Nat) : List Int := [lst l L 0, lst l L 1, lst l L 2]
theorem lsts_at (l : List Wt) (L : List Nat) {p : Nat} (hp : p < 3) : at0 (lsts l L) p = lst l L p := by
  match p, hp with
  | 0, _ => rfl
  | 1, _ => rfl
  | 2, _ => rfl
theorem lsts_set (l : List Wt) (L : List Nat) (i : Nat) {p : Nat} (hp : p < 3) (h : (wtAt l i).p = p) : (lsts l L).set p (i : Int) = lsts l (L ++ [i]) := by
  unfold lsts
  rw [lst_snoc, lst_snoc, lst_snoc, h]
  match p, hp with
  | 0, _ => rfl
  | 1, _ => rfl
  | 2, _ => rfl
theorem wants_ok (xs : List Int) : ((xs.take 30).map mkW).any wtBad = false := by
  rw [Bool.eq_false_iff]
  intro h
  obtain ⟨x, hx, hb⟩ := List.any_eq_true.1 h
  obtain ⟨y, _, rfl⟩ := List.mem_map.1 hx
  rw [mkW_ok] at hb
  cases hb
theorem sumS_snoc (l : List Wt) (L : List Nat) (i : Nat) : sumS l (L ++ [i]) = sumS l L + (wtAt l i).s := by
  unfold sumS
  rw [List.map_append, List.sum_append]
  simp
theorem take_snoc {α : Type} {A : List α} {k : Nat} {i : α} (h : A[k]? = some i) : A.take (k + 1) = A.take k ++ [i] := by
  rw [List.take_add_one, h]; rfl

set_option maxRecDepth 100000 in
set_option maxHeartbeats 16000000 in
theorem DrrOrders_t (a b c q : Int) (xs : List Int) (bu : Int) (v : Value) (w : World) (hV : IntAt w v xs) :
    Calls Try.prog 9 #[.int .i64 a, .int .i64 b, .int .i64 c, .int .i64 q, v, .int .i64 bu] w (RetB true w) := by
  have HV := Lib.hid hV
  obtain ⟨Ax, cx, rfl, _, hcx, hRx⟩ := hV
  clear hRx
  go_enter Try.func9, Try.ntmps9
  go_wp2_with fail
  refine (DrrKnown_t _).mono ?_
  rintro e w1 ⟨rfl, hb1⟩
  go_wp2_with fail
  refine (made_any a b c q _).mono ?_
  rintro e w2 ⟨v2, d0, rfl, hok, hq3, hD0, ht0, hv2, hb2⟩
  have hB2 : Below w.heap.size w w2 := bnext hb1 hb2
  obtain ⟨A2, c2, B2, e2, rfl⟩ := hv2.form3' hok.w3 hok.d3
  have V2 := Lib.hid (hv2.alloc (.cells #[.slice A2 3 c2, .int .i64 d0.q, .slice B2 3 e2, .int .i64 d0.t] 24))
  have K2 := Lib.hid (Blk.new w2 24 #[.slice A2 3 c2, .int .i64 d0.q, .slice B2 3 e2, .int .i64 d0.t])
  have hB3 : Below w.heap.size w (w2.alloc (.cells #[.slice A2 3 c2, .int .i64 d0.q, .slice B2 3 e2, .int .i64 d0.t] 24)) := bal hB2 _
  have HOK := Lib.hid hok
  clear hv2 hok hD0 hb1 hb2 ht0 hq3
  go_wp2_with fail
  refine (wants_any xs _ _ (SlAt.below HV.out hB3)).mono ?_
  rintro e w3 ⟨vl, rfl, hl3, hb3⟩
  obtain ⟨l, hl⟩ : ∃ l, l = (xs.take 30).map mkW := ⟨_, rfl⟩
  rw [← hl] at hl3
  have hl30 : l.length ≤ 30 := by rw [hl, List.length_map, List.length_take]; omega
  have HLB : Hid (l.any wtBad = false) := Lib.hid (by rw [hl]; exact wants_ok xs)
  obtain ⟨Al, cl, rfl, _, hcl, hRl⟩ := id hl3
  have L3 := Lib.hid hl3
  have V3 := Lib.hid (V2.out.below hb3)
  have K3 := Lib.hid (K2.out.below hb3)
  have hBw3 := bnext hB3 hb3
  obtain ⟨bud, hbud⟩ : ∃ y, bu % 20000 = y := ⟨_, rfl⟩
  have hb0 : 0 ≤ bud ∧ bud < 20000 := by omega
  have HBU := Lib.hid hbud
  obtain ⟨A, d1, d2, hA, ho1, ho2⟩ := orders (b := bud) HOK.out HLB.out hl30 hb0.1
  obtain ⟨S, hS⟩ : ∃ S, S = takeB l bud A := ⟨_, rfl⟩
  rw [← hS] at ho1
  have hSm : S = A.take S.length := by rw [hS]; exact takeB_pre l A bud
  have hSA : S.length ≤ A.length := by rw [hS]; exact takeB_len l A bud
  have HSS : Hid (sumS l S ≤ bud) := Lib.hid (by rw [hS]; exact takeB_sum l A bud hb0.1)
  have HSM : Hid (∀ i, A[S.length]? = some i → bud < sumS l S + (wtAt l i).s) := Lib.hid (by rw [hS]; exact takeB_more l A bud)
  have HPRE := Lib.hid hSm
  have HA := Lib.hid hA
  have HO1 := Lib.hid ho1
  have HO2 := Lib.hid ho2
  have hAl : A.length = l.length := hA.len
  have HAL := Lib.hid hAl
  have hA30 : A.length ≤ 30 := by omega
  clear hl hl3 hRl hbud hA ho1 ho2 hS hSm hAl hb3 V2 K2
  go_wp2_with fail
  refine (Mod_any _ 20000 _ (by decide) (by decide)).mono ?_
  rintro e w4 ⟨rfl, rfl⟩
  rw [HBU.out]
  obtain ⟨x0, x1, x2, x3⟩ := K3.out.c4
  go_wp2_with fail
  refine (Order_to HO1.out (by omega) (by omega) (by omega) _ _ _ V3.out L3.out).mono ?_
  rintro e w5 ⟨v5, y5, rfl, hv5, hy5, hb5⟩
  obtain ⟨A5, n5, c5, B5, m5, o5, rfl⟩ := hy5.form
  obtain ⟨P5, p5, rfl, _⟩ := id hv5
  have hb5' := bal hb5 (.cells #[.slice A5 n5 c5, .int .i64 d1.q, .slice B5 m5 o5, .int .i64 d1.t] 24)
  have V5 := Lib.hid (V3.out.below hb5')
  have L5 := Lib.hid (SlAt.below L3.out hb5')
  have K5 := Lib.hid (K3.out.below hb5')
  have S5 := Lib.hid (SlAt.alloc hv5 (.cells #[.slice A5 n5 c5, .int .i64 d1.q, .slice B5 m5 o5, .int .i64 d1.t] 24))
  have hBw5 := bnext hBw3 hb5'
  clear x0 x1 x2 x3 hv5 hy5 hb5 hb5' V3 L3 K3
  obtain ⟨x0, x1, x2, x3⟩ := K5.out.c4
  go_wp2_with fail
  refine (Order_to HO2.out (by decide) (by decide) (by omega) _ _ _ V5.out L5.out).mono ?_
  rintro e w6 ⟨v6, y6, rfl, hv6, hy6, hb6⟩
  obtain ⟨A6, n6, c6, B6, m6, o6, rfl⟩ := hy6.form
  obtain ⟨P6, p6, rfl, _⟩ := id hv6
  have hb6' := bal hb6 (.cells #[.slice A6 n6 c6, .int .i64 d2.q, .slice B6 m6 o6, .int .i64 d2.t] 24)
  have L6 := Lib.hid (SlAt.below L5.out hb6')
  have S6 := Lib.hid (SlAt.below S5.out hb6')
  have T6 := Lib.hid (SlAt.alloc hv6 (.cells #[.slice A6 n6 c6, .int .i64 d2.q, .slice B6 m6 o6, .int .i64 d2.t] 24))
  have hBw6 := bnext hBw5 hb6'
  clear x0 x1 x2 x3 hv6 hy6 hb6 hb6' V5 L5 K5 S5
  rw [nums_len, nums_len] at *
  have t1 : ((A.length : Int) != l.length) = false := by rw [HAL.out]; simp
  have t2 : ¬ (S.length : Int) > A.length := by omega
  go_upto_region 9 with fail
  generalize w6.alloc (.cells #[.slice A6 n6 c6, .int .i64 d2.q, .slice B6 m6 o6, .int .i64 d2.t] 24) = w7 at L6 S6 T6 hBw6 ⊢
  have hRL : Row3 (w7.alloc (.cells #[.int .i64 (-1), .int .i64 (-1), .int .i64 (-1)] 3)) w7.heap.size w7.heap.size 3 (lsts l []) := row3_lit w7 (Nat.le_refl _) (-1) (-1) (-1)
  have HRL := Lib.hid hRL
  obtain ⟨gL, hgL⟩ : ∃ g, g = w7.heap.size := ⟨_, rfl⟩
  clear hRL
  have h0A : sumS l (A.take (min 0 S.length)) = 0 := by rw [Nat.zero_min]; rfl
  have H0A := Lib.hid h0A
  clear h0A
  go_wp2_with fail
  go_loopw [24, 25] (fun s24 s25 wr => ∃ k : Nat, k ≤ A.length ∧ s25 = .int .i64 k ∧ s24 = .int .i64 (sumS l (A.take (min k S.length))) ∧ Row3 wr w7.heap.size w7.heap.size 3 (lsts l (A.take k)) ∧ Below w7.heap.size w7 wr) (fun _ s25 _ => A.length - (intOf s25).toNat)
  case atStart => exact ⟨0, by omega, rfl, by rw [H0A.out], HRL.out, bal (Below.refl _ _) _⟩
  case round =>
    obtain ⟨k, hk, rfl, rfl, hR, hB⟩ := hrel
    obtain ⟨wy, rfl⟩ : ∃ wy : World, wy = wr := ⟨_, rfl⟩
    obtain ⟨sm, hsm⟩ : ∃ x, sumS l (A.take (min k S.length)) = x := ⟨_, rfl⟩
    rw [hsm]
    have HSM2 := Lib.hid hsm
    have hsb := sumS_le l (A.take (min k S.length)) (fun i hi => (HA.out.mem i (List.mem_of_mem_take hi)).2.2.2)
    rw [hsm] at hsb
    have hsb2 : 0 ≤ sm ∧ sm ≤ 36000 := by
      have := HAL.out
      have h2 : (A.take (min k S.length)).length ≤ 30 := by rw [List.length_take]; omega
      omega
    have HR := Lib.hid hR
    have HB := Lib.hid hB
    have hBwy := bnext hBw6 hB
    clear hsm hsb hR hB HRL
    by_cases hlt : k < A.length
    · obtain ⟨i, hi⟩ : ∃ i, A[k]? = some i := ⟨_, List.getElem?_eq_getElem hlt⟩
      obtain ⟨hil, hip0, hip3, his1, his2⟩ := HA.out.mem i (List.mem_of_getElem? hi)
      obtain ⟨pn, hpn⟩ : ∃ pn : Nat, (wtAt l i).p = pn := ⟨(wtAt l i).p.toNat, by omega⟩
      have hp3 : pn < 3 := by omega
      have hpi : (pn : Int) < 3 := by omega
      have hpi0 : (0 : Int) ≤ pn := by omega
      have hup := HA.out.up k i hi pn hpn
      obtain ⟨x, hx⟩ : ∃ x, l[i]? = some x := ⟨_, List.getElem?_eq_getElem hil⟩
      have hxw := wtAt_of hx
      rw [hxw] at his1 his2 hpn
      obtain ⟨ba, oa, e0, hba, da⟩ := reads_at (by obtain ⟨_, _, e, _, _, h⟩ := SlAt.below T6.out HB.out; cases e; exact h) (nums_get hi)
      cases e0
      obtain ⟨Al', cl', e1, _, _, hRl⟩ := id L6.out
      cases e1
      obtain ⟨bl, ol, e2, hbl, dp0, ds0⟩ := reads_fl2 wt2 hRl rfl hx rfl
      cases e2
      have dp := (HB.out.cell (p := ⟨bl, ol + i * 2, none⟩) hbl).trans dp0
      have ds := (HB.out.cell (p := ⟨bl, ol + i * 2 + 1, none⟩) hbl).trans ds0
      have hne1 : ¬ bl = w7.heap.size := by omega
      have hne2 : ¬ w7.heap.size = bl := by omega
      clear dp0 ds0
      have dL := HR.out.cell pn hp3
      have fL := HR.out.frozen pn
      rw [lsts_at l _ hp3] at dL
      rw [hpn] at dp
      have hki : (k : Int) < A.length := by omega
      have hki0 : (0 : Int) ≤ k := by omega
      have hi0 : (0 : Int) ≤ i := by omega
      have hil' : (i : Int) < l.length := by omega
      have hn1 : ¬ (i : Int) < 0 := by omega
      have hn2 : ¬ (i : Int) ≥ l.length := by omega
      have hn3 : ¬ (i : Int) ≤ lst l (A.take k) pn := by omega
      have HX := Lib.hid hxw
      have HPN := Lib.hid hpn
      have HI := Lib.hid hi
      have HSET := Lib.hid (lsts_set l (A.take k) i hp3 (by rw [hxw]; exact hpn))
      clear hx hxw hpn hi hRl hup
      by_cases hks : k < S.length
      · have hsk : (k : Int) < S.length := by omega
        have hSk : S[k]? = some i := by rw [HPRE.out, List.getElem?_take, if_pos hks]; exact HI.out
        obtain ⟨bs, os, e3, hbs, dS⟩ := reads_at (by obtain ⟨_, _, e, _, _, h⟩ := SlAt.below S6.out HB.out; cases e; exact h) (nums_get hSk)
        cases e3
        have hne : ((i : Int) != i) = false := by simp
        have WS : IntKind.i64.wrap (sm + x.s) = sm + x.s := IntWalk.i64_in _ (by omega)
        have HSUM : Hid (sm + x.s = sumS l (A.take (min (k + 1) S.length))) := Lib.hid (by
          have e1 : min (k + 1) S.length = k + 1 := by omega
          have e2 : min k S.length = k := by omega
          have h := HSM2.out
          rw [e2] at h
          rw [e1, take_snoc HI.out, sumS_snoc, h, HX.out])
        clear hSk
        go_wp2_with fail
        go_roundw
        case rel => exact ⟨k + 1, by omega, by go_num, by rw [HSUM.out], by rw [take_snoc HI.out, ← HSET.out]; exact HR.out.set pn hp3 _, bset HB.out (Nat.le_refl _) _⟩
        case measure => simp [intOf]; omega
      · have hsk : ¬ (k : Int) < S.length := by omega
        have HSUM : Hid (sm = sumS l (A.take (min (k + 1) S.length))) := Lib.hid (by
          have e1 : min (k + 1) S.length = min k S.length := by omega
          rw [e1]; exact HSM2.out.symm)
        go_wp2_with fail
        go_roundw
        case rel => exact ⟨k + 1, by omega, by go_num, by rw [HSUM.out], by rw [take_snoc HI.out, ← HSET.out]; exact HR.out.set pn hp3 _, bset HB.out (Nat.le_refl _) _⟩
        case measure => simp [intOf]; omega
    · obtain rfl : k = A.length := by omega
      have hSS : sumS l S = sm := by
        have h := HSM2.out
        rw [Nat.min_eq_right hSA, ← HPRE.out] at h
        exact h
      have hle := HSS.out
      rw [hSS] at hle
      have HSSS := Lib.hid hSS
      clear hSS
      by_cases hm : S.length < A.length
      · obtain ⟨j, hj⟩ : ∃ j, A[S.length]? = some j := ⟨_, List.getElem?_eq_getElem hm⟩
        obtain ⟨hjl, _, _, hjs1, hjs2⟩ := HA.out.mem j (List.mem_of_getElem? hj)
        have hgt := HSM.out j hj
        obtain ⟨x, hx⟩ : ∃ x, l[j]? = some x := ⟨_, List.getElem?_eq_getElem hjl⟩
        rw [wtAt_of hx, HSSS.out] at hgt
        rw [wtAt_of hx] at hjs1 hjs2
        obtain ⟨ba, oa, e0, hba, da⟩ := reads_at (by obtain ⟨_, _, e, _, _, h⟩ := SlAt.below T6.out HB.out; cases e; exact h) (nums_get hj)
        cases e0
        obtain ⟨Al', cl', e1, _, _, hRl⟩ := SlAt.below L6.out HB.out
        cases e1
        obtain ⟨bl, ol, e2, hbl, dp, ds⟩ := reads_fl2 wt2 hRl rfl hx rfl
        cases e2
        have hmi : (S.length : Int) < A.length := by omega
        have hj0 : (0 : Int) ≤ j := by omega
        have hjl' : (j : Int) < l.length := by omega
        have WS : IntKind.i64.wrap (sm + x.s) = sm + x.s := IntWalk.i64_in _ (by omega)
        have hng : ¬ sm + x.s ≤ bud := by omega
        clear hj hx hRl
        go_wp2_with fail
        go_ret
        exact ⟨rfl, hBwy⟩
      · have hmi : ¬ (S.length : Int) < A.length := by omega
        go_wp2_with fail
        go_ret
        exact ⟨rfl, hBwy⟩
end Go.Proofs.Ythkfdfkjenhjmaa
