/- The law: parts of a fragment. -/
import Derived.Test.YtcifngefclgefaaX
import Derived.BigQuiet
namespace Go.Proofs.Ytcifngefclgefaa
open Go.RowKit
set_option linter.unusedVariables false
set_option linter.unusedSimpArgs false

theorem below_drewN {n : Nat} {w w' : World} (h : Below n w w') (k : Nat) : Below n w (w'.drewN k) := ⟨h.os, h.tape, h.output, h.size, h.block⟩
/-- what the walk of FragParts wants to know of the fragment -/
structure PF (L : List Bn) (i o T z : Nat) (d : ByteArray) : Prop where
  fa : L[i]? = some ⟨2, 5, o, 3, 1, 0, 100, T, d⟩
  fz : d.size = z ∧ 1 ≤ z ∧ z ≤ 40 ∧ o ≤ 120 ∧ T ≤ 120
  none : ∀ f, partOf ⟨2, 5, o, 3, 1, 0, 100, T, d⟩ f f = (zBn, 2)
  part : ∀ p q : Nat, q ≤ z → p < q → partOf ⟨2, 5, o, 3, 1, 0, 100, T, d⟩ ((o : Int) + p) ((o : Int) + q) = (⟨2, 5, (o : Int) + p, 3, 1, 0, 100, T, d.extract p q⟩, 0)
  one : rgsOf [⟨2, 5, o, 3, 1, 0, 100, T, d⟩] true = ([⟨o, o + z⟩], 0)
  two : ∀ r, 0 < r → r < z → rgsOf [⟨2, 5, (o : Int) + r, 3, 1, 0, 100, T, d.extract r z⟩, ⟨2, 5, (o : Int) + (0 : Nat), 3, 1, 0, 100, T, d.extract 0 r⟩] true = ([⟨o, o + z⟩], 0)
  data : ∀ r, r ≤ z → d.extract 0 r ++ d.extract r z = d
theorem pf_of (l : List Int) (s i : Nat) (hs : 1 ≤ s ∧ s ≤ 40) (hi : i < (fragsOf hd0 (textOf l) s).length) : ∃ o T z d, PF (fragsOf hd0 (textOf l) s) i o T z d := by
  obtain ⟨a1, a2, a3, a4⟩ := text_one l s hs
  rw [frags_len] at hi
  have ht := text_size l
  have hm := (fr_lt (m := textOf l) a1.1).1 hi
  have hz := fr_size (h := hd0) hm
  refine ⟨i * s, (textOf l).size, (frOf hd0 (textOf l) s i i).data.size, (frOf hd0 (textOf l) s i i).data, ?_⟩
  exact ⟨frags_at hi, ⟨rfl, by omega⟩, part_none a1 a2 a3 hm, fun p q hq hp => pt_part a1 a2 a3 hm hq hp, one_cov a1 a2 a3 hm rfl, fun r h1 h2 => two_cov a1 a2 a3 hm rfl h1 h2, fun r hr => two_data hm rfl hr⟩

set_option maxRecDepth 100000 in
set_option maxHeartbeats 8000000 in
theorem FragParts_t (l : List Int) (x y p : Int) (v : Value) (w : World) (hV : IntAt w v l) : Calls Try.prog 9 #[v, .int .i64 x, .int .i64 y, .int .i64 p] w (RetB true w) := by
  have HV := Lib.hid hV
  obtain ⟨A, c, rfl, _, hc2, hR⟩ := hV
  clear hR
  have hx := szN_b x
  have CU : Hid (∀ w v, IntAt w v l → Calls Try.prog 30 #[v, .int .i64 x] w (RetBB (fragsOf hd0 (textOf l) (szN x)) true w)) := Lib.hid (fun w v h => cut_any l x v w h)
  have hfew := frags_few l _ hx
  have hpos : 0 < (fragsOf hd0 (textOf l) (szN x)).length := by
    rw [frags_len]; exact frags_n0 (by have := text_size l; omega) (by omega)
  have HPF := pf_of l (szN x)
  obtain ⟨L, hL⟩ : ∃ L, fragsOf hd0 (textOf l) (szN x) = L := ⟨_, rfl⟩
  rw [hL] at CU hfew hpos HPF
  obtain ⟨i, hi⟩ : ∃ i : Nat, y % (L.length : Int) = i := ⟨(y % (L.length : Int)).toNat, by have := Int.emod_nonneg y (b := (L.length : Int)) (by omega); omega⟩
  have hil : i < L.length := by have := Int.emod_lt_of_pos y (b := (L.length : Int)) (by omega); omega
  have MY : Hid (∀ w, Calls Try.prog 31 #[.int .i64 y, .int .i64 (L.length : Int)] w fun e w' => e = .returned (.int .i64 (i : Int)) ∧ w = w') := Lib.hid (fun w => by rw [← hi]; exact Mod_any y L.length w (by omega) (by omega))
  obtain ⟨o, T, z, d, P⟩ := HPF i hx hil
  have hili : (i : Int) < L.length := by omega
  obtain ⟨hz1, hz2, hz3, ho1, hT1⟩ := P.fz
  have HP := Lib.hid P
  have WS : IntKind.i64.wrap ((o : Int) + d.size) = ((o + z : Nat) : Int) := by rw [hz1, Int.natCast_add]; exact IntWalk.i64_in _ (by omega)
  obtain ⟨t, ht⟩ : ∃ t, t = o + z := ⟨_, rfl⟩
  rw [← ht] at WS
  have WD : IntKind.i64.wrap ((t : Int) - o) = z := by rw [ht, Int.natCast_add, show (o : Int) + z - o = z by omega]; exact IntWalk.i64_in _ (by omega)
  have HT := Lib.hid ht
  clear hx hL hi HPF P hz1 ht
  by_cases hz : (z : Int) < 2
  · have C3 : Hid (∀ w, Calls Try.prog 13 #[.agg #[.int .i64 2, .int .u64 5, .int .i64 o, .int .i64 3, .int .i64 1, .int .i64 0, .int .i64 100, .int .i64 T, .string d], .int .i64 o, .int .i64 o] w (RetBE zBn 2 w)) := Lib.hid (fun w => by have := Part_any ⟨2, 5, o, 3, 1, 0, 100, T, d⟩ o o (by omega) (by omega) w; rw [HP.out.none] at this; exact this)
    go_enter Try.func9, Try.ntmps9
    go_wp2_with fail
    refine (FragKnown_t _).mono ?_
    rintro e w1 ⟨rfl, hb1⟩
    have hB1 := hb1
    have V1 := Lib.hid (SlAt.below HV.out hb1)
    clear hb1
    go_wp2_with fail
    refine (CU.out _ _ V1.out).mono ?_
    rintro e w2 ⟨v2, rfl, hv2, hb2⟩
    obtain ⟨A2, c2, rfl, _, hcc, hR2⟩ := hv2
    obtain ⟨b2, o2, rfl, hbl, q0, q1, q2, q3, q4, q5, q6, q7, q8⟩ := reads_bn hR2 rfl HP.out.fa
    have hB2 := bnext hB1 hb2
    clear hb2 hR2 hB1 V1 CU
    go_wp2_with fail
    refine (MY.out _).mono ?_
    rintro e w3 ⟨rfl, rfl⟩
    go_upto_region 6 with fail
    obtain ⟨x0, x1, x2, x3, x4, x5, x6, x7, x8⟩ := (Blk.new w2 26 #[.int .i64 2, .int .u64 5, .int .i64 o, .int .i64 3, .int .i64 1, .int .i64 0, .int .i64 100, .int .i64 T, .string d]).c9
    have hB3 := bal hB2 (.cells #[.int .i64 2, .int .u64 5, .int .i64 o, .int .i64 3, .int .i64 1, .int .i64 0, .int .i64 100, .int .i64 T, .string d] 26)
    go_quiet (fail)
    go_wp2_with fail
    refine (C3.out _).mono ?_
    rintro e w4 ⟨rfl, hb4⟩
    rw [Bn.val_eq]
    dsimp only [zBn]
    have hB4 := bal (bnext (below_drewN hB3 _) hb4) (.cells #[.int .i64 0, .int .u64 0, .int .i64 0, .int .i64 0, .int .i64 0, .int .i64 0, .int .i64 0, .int .i64 0, .string ⟨#[]⟩] 26)
    clear hb4
    go_wp2_with fail
    go_ret
    exact ⟨rfl, hB4⟩
  · have hz' : ¬ (z : Int) < 2 := hz
    obtain ⟨r0, hr0⟩ : ∃ r0 : Nat, p % ((z - 1 : Nat) : Int) = r0 := ⟨(p % ((z - 1 : Nat) : Int)).toNat, by have := Int.emod_nonneg p (b := ((z - 1 : Nat) : Int)) (by omega); omega⟩
    have hr1 : r0 < z - 1 := by have := Int.emod_lt_of_pos p (b := ((z - 1 : Nat) : Int)) (by omega); omega
    obtain ⟨r, hr⟩ : ∃ r, r = r0 + 1 := ⟨_, rfl⟩
    obtain ⟨u, hu⟩ : ∃ u, u = o + r := ⟨_, rfl⟩
    obtain ⟨o1, ho1'⟩ : ∃ o1, o1 = o + 1 := ⟨_, rfl⟩
    obtain ⟨zm, hzm⟩ : ∃ zm, zm = z - 1 := ⟨_, rfl⟩
    have MP : Hid (∀ w, Calls Try.prog 31 #[.int .i64 p, .int .i64 (zm : Int)] w fun e w' => e = .returned (.int .i64 (r0 : Int)) ∧ w = w') := Lib.hid (fun w => by rw [← hr0, ← hzm]; exact Mod_any p zm w (by omega) (by omega))
    have W1 : IntKind.i64.wrap ((o : Int) + 1) = o1 := by rw [show (o : Int) + 1 = o1 by omega]; exact IntWalk.i64_in _ (by omega)
    have W2 : IntKind.i64.wrap ((z : Int) - 1) = zm := by rw [show (z : Int) - 1 = zm by omega]; exact IntWalk.i64_in _ (by omega)
    have W3 : IntKind.i64.wrap ((o1 : Int) + r0) = u := by rw [show (o1 : Int) + r0 = u by omega]; exact IntWalk.i64_in _ (by omega)
    obtain ⟨dx, hdx⟩ : ∃ dx, dx = d.extract 0 r := ⟨_, rfl⟩
    obtain ⟨dy, hdy⟩ : ∃ dy, dy = d.extract r z := ⟨_, rfl⟩
    have hcat : dx ++ dy = d := by rw [hdx, hdy]; exact HP.out.data r (by omega)
    have hcs : ¬ 9223372036854775807 < dx.size + dy.size := by have h := congrArg ByteArray.size hcat; rw [ByteArray.size_append] at h; have := HP.out.fz.1; omega
    have C4 : Hid (∀ w, Calls Try.prog 13 #[.agg #[.int .i64 2, .int .u64 5, .int .i64 o, .int .i64 3, .int .i64 1, .int .i64 0, .int .i64 100, .int .i64 T, .string d], .int .i64 o, .int .i64 u] w (RetBE ⟨2, 5, o, 3, 1, 0, 100, T, dx⟩ 0 w)) := Lib.hid (fun w => by
      have := Part_any ⟨2, 5, o, 3, 1, 0, 100, T, d⟩ ((o : Int) + (0 : Nat)) ((o : Int) + r) (by omega) (by omega) w
      rw [HP.out.part 0 r (by omega) (by omega), ← hdx, show (o : Int) + (0 : Nat) = o by omega, show (o : Int) + r = u by omega] at this
      exact this)
    have C5 : Hid (∀ w, Calls Try.prog 13 #[.agg #[.int .i64 2, .int .u64 5, .int .i64 o, .int .i64 3, .int .i64 1, .int .i64 0, .int .i64 100, .int .i64 T, .string d], .int .i64 u, .int .i64 t] w (RetBE ⟨2, 5, u, 3, 1, 0, 100, T, dy⟩ 0 w)) := Lib.hid (fun w => by
      have := Part_any ⟨2, 5, o, 3, 1, 0, 100, T, d⟩ ((o : Int) + r) ((o : Int) + z) (by omega) (by omega) w
      rw [HP.out.part r z (by omega) (by omega), ← hdy, show (o : Int) + r = u by omega, show (o : Int) + z = t by have := HT.out; omega] at this
      exact this)
    have CA : Hid (∀ w v, BnAt w v [⟨2, 5, u, 3, 1, 0, 100, T, dy⟩, ⟨2, 5, o, 3, 1, 0, 100, T, dx⟩] → Calls Try.prog 18 #[v] w (RetRg [⟨o, o + z⟩] 0 w)) := Lib.hid (fun w v h => by
      have := Covered_any _ v w h (by simp)
      have h2 := HP.out.two r (by omega) (by omega)
      rw [← hdx, ← hdy, show (o : Int) + (0 : Nat) = o by omega, show (o : Int) + r = u by omega] at h2
      rw [h2] at this
      exact this)
    have CB : Hid (∀ w v, BnAt w v [⟨2, 5, o, 3, 1, 0, 100, T, d⟩] → Calls Try.prog 18 #[v] w (RetRg [⟨o, o + z⟩] 0 w)) := Lib.hid (fun w v h => by
      have := Covered_any _ v w h (by simp)
      rw [HP.out.one] at this
      exact this)
    clear hr0 hr hu ho1' hzm hdx hdy hr1
    go_enter Try.func9, Try.ntmps9
    go_wp2_with fail
    refine (FragKnown_t _).mono ?_
    rintro e w1 ⟨rfl, hb1⟩
    have hB1 := hb1
    have V1 := Lib.hid (SlAt.below HV.out hb1)
    clear hb1
    go_wp2_with fail
    refine (CU.out _ _ V1.out).mono ?_
    rintro e w2 ⟨v2, rfl, hv2, hb2⟩
    obtain ⟨A2, c2, rfl, _, hcc, hR2⟩ := hv2
    obtain ⟨b2, o2, rfl, hbl, q0, q1, q2, q3, q4, q5, q6, q7, q8⟩ := reads_bn hR2 rfl HP.out.fa
    have hB2 := bnext hB1 hb2
    clear hb2 hR2 hB1 V1 CU
    go_wp2_with fail
    refine (MY.out _).mono ?_
    rintro e w3 ⟨rfl, rfl⟩
    go_upto_region 6 with fail
    obtain ⟨x0, x1, x2, x3, x4, x5, x6, x7, x8⟩ := (Blk.new w2 26 #[.int .i64 2, .int .u64 5, .int .i64 o, .int .i64 3, .int .i64 1, .int .i64 0, .int .i64 100, .int .i64 T, .string d]).c9
    have hB3 := bal hB2 (.cells #[.int .i64 2, .int .u64 5, .int .i64 o, .int .i64 3, .int .i64 1, .int .i64 0, .int .i64 100, .int .i64 T, .string d] 26)
    go_quiet (fail)
    have k3 := Lib.hid ((Blk.new w2 26 #[.int .i64 2, .int .u64 5, .int .i64 o, .int .i64 3, .int .i64 1, .int .i64 0, .int .i64 100, .int .i64 T, .string d]).drewN nq)
    go_wp2_with fail
    refine (MP.out _).mono ?_
    rintro e w4 ⟨rfl, rfl⟩
    go_wp2_with fail
    refine (C4.out _).mono ?_
    rintro e w5 ⟨rfl, hb5⟩
    rw [Bn.val_eq]
    dsimp only
    have hB5 := bnext (below_drewN hB3 _) hb5
    have k5 := (k3.out.below hb5).alloc (.cells #[.int .i64 2, .int .u64 5, .int .i64 o, .int .i64 3, .int .i64 1, .int .i64 0, .int .i64 100, .int .i64 T, .string dx] 26)
    have p5 := Blk.new w5 26 #[.int .i64 2, .int .u64 5, .int .i64 o, .int .i64 3, .int .i64 1, .int .i64 0, .int .i64 100, .int .i64 T, .string dx]
    have hB5' := bal hB5 (.cells #[.int .i64 2, .int .u64 5, .int .i64 o, .int .i64 3, .int .i64 1, .int .i64 0, .int .i64 100, .int .i64 T, .string dx] 26)
    obtain ⟨gx, hgx⟩ : ∃ gx, gx = w5.heap.size := ⟨_, rfl⟩
    clear hb5 hB5 C4 MP k3 q0 q1 q2 q3 q4 q5 q6 q7 q8 x0 x1 x2 x3 x4 x5 x6 x7 x8
    obtain ⟨x0, x1, x2, x3, x4, x5, x6, x7, x8⟩ := k5.c9
    go_upto_region 12 with fail
    rw [← hgx] at p5 ⊢
    generalize w5.alloc (.cells #[.int .i64 2, .int .u64 5, .int .i64 o, .int .i64 3, .int .i64 1, .int .i64 0, .int .i64 100, .int .i64 T, .string dx] 26) = w5' at k5 p5 hB5' x0 x1 x2 x3 x4 x5 x6 x7 x8 ⊢
    clear hgx
    go_wp2_with fail
    refine (C5.out _).mono ?_
    rintro e w6 ⟨rfl, hb6⟩
    rw [Bn.val_eq]
    dsimp only
    have hB6 := bal (bnext hB5' hb6) (.cells #[.int .i64 2, .int .u64 5, .int .i64 u, .int .i64 3, .int .i64 1, .int .i64 0, .int .i64 100, .int .i64 T, .string dy] 26)
    have k6 := (k5.below hb6).alloc (.cells #[.int .i64 2, .int .u64 5, .int .i64 u, .int .i64 3, .int .i64 1, .int .i64 0, .int .i64 100, .int .i64 T, .string dy] 26)
    have p6 := (p5.below hb6).alloc (.cells #[.int .i64 2, .int .u64 5, .int .i64 u, .int .i64 3, .int .i64 1, .int .i64 0, .int .i64 100, .int .i64 T, .string dy] 26)
    have r6 := Blk.new w6 26 #[.int .i64 2, .int .u64 5, .int .i64 u, .int .i64 3, .int .i64 1, .int .i64 0, .int .i64 100, .int .i64 T, .string dy]
    obtain ⟨gy, hgy⟩ : ∃ gy, gy = w6.heap.size := ⟨_, rfl⟩
    clear hb6 hB5' C5 k5 p5 x0 x1 x2 x3 x4 x5 x6 x7 x8
    go_upto_region 13 with fail
    rw [← hgy] at r6 ⊢
    generalize w6.alloc (.cells #[.int .i64 2, .int .u64 5, .int .i64 u, .int .i64 3, .int .i64 1, .int .i64 0, .int .i64 100, .int .i64 T, .string dy] 26) = w6' at k6 p6 r6 hB6 ⊢
    clear hgy
    obtain ⟨x0, x1, x2, x3, x4, x5, x6, x7, x8⟩ := k6.c9
    obtain ⟨y0, y1, y2, y3, y4, y5, y6, y7, y8⟩ := p6.c9
    obtain ⟨z0, z1, z2, z3, z4, z5, z6, z7, z8⟩ := r6.c9
    go_wp2_with fail
    refine (CA.out _ _ (bn_lit (L := [⟨2, 5, u, 3, 1, 0, 100, T, dy⟩, ⟨2, 5, o, 3, 1, 0, 100, T, dx⟩]) (Blk.new _ _ _) 2 rfl (by decide))).mono ?_
    rintro e w7 ⟨v7, rfl, hv7, hb7⟩
    obtain ⟨A7, c7, rfl, _⟩ := id hv7
    have hB7 := bnext (bal hB6 _) hb7
    have k7 := (k6.alloc _).below hb7
    have V7 := Lib.hid hv7
    clear hb7 hB6 CA hv7 p6 r6 k6 x0 x1 x2 x3 x4 x5 x6 x7 x8 y0 y1 y2 y3 y4 y5 y6 y7 y8 z0 z1 z2 z3 z4 z5 z6 z7 z8
    obtain ⟨x0, x1, x2, x3, x4, x5, x6, x7, x8⟩ := k7.c9
    go_wp2_with fail
    refine (CB.out _ _ (bn_lit (L := [⟨2, 5, o, 3, 1, 0, 100, T, d⟩]) (Blk.new _ _ _) 1 rfl (by decide))).mono ?_
    rintro e w8 ⟨v8, rfl, hv8, hb8⟩
    obtain ⟨A8, c8, rfl, _⟩ := id hv8
    have hB8 := bnext (bal hB7 _) hb8
    have R8 := Lib.hid (SlAt.below (SlAt.alloc V7.out _) hb8)
    have V8 := Lib.hid hv8
    clear hb8 hB7 V7 CB hv8
    go_wp2_with fail
    refine (SameRanges_eq [⟨o, o + z⟩] _ _ _ R8.out V8.out).mono ?_
    rintro e w9 ⟨rfl, hb9⟩
    have hB9 := bnext hB8 hb9
    clear hb9 hB8
    go_wp2_with fail
    go_ret
    exact ⟨rfl, hB9⟩
end Go.Proofs.Ytcifngefclgefaa
