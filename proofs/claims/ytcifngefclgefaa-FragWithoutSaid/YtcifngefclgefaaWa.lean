/- The law: without one fragment just its bytes are missing. -/
import Derived.Test.YtcifngefclgefaaY
import Derived.Test.YtcifngefclgefaaZ
import Derived.Deep.AppendLies
namespace Go.Proofs.Ytcifngefclgefaa
open Go.RowKit
set_option linter.unusedVariables false
set_option linter.unusedSimpArgs false

section
variable {P : Program} {w : World}
/-- append onto a slice of the call's own, as one step of a region that draws -/
theorem step_append_own {ops : Array Oper} {o : Oper} {a : Act} {K : Act → World → Prop} {Q : Exit → Act → World → Prop} {E : Prop} (hgd : o.guard = none) (s x : Operand) (t : TypeId)
    (ho : o.op = .call { callee := .builtin .append, args := #[s, x], argTypes := #[t, t] })
    (base : Nat) (e : TypeId) (i : TypeInfo) (z : Value) (size bytes : Nat) (ht : P.underlying t = some (.slice e)) (hi : P.info? e = some i) (hz : i.zero = some z)
    (hsize : i.size = size) (hby : i.bytes = bytes) (hzs : z.cells.size = size) (hsz : 0 < size)
    (v : Value) (n : Nat) (xs : List Value) (hs : a.eval s = v) (hown : w.ownsRow base e size v n xs)
    (ad : Addr) (m c : Nat) (news : List Value) (hx : a.eval x = .slice (some ad) m c) (hl : news.length = m * size) (hnews : ∀ j u, news[j]? = some u → w.cell? (ad.add j) = some u) (h1 : ∀ u ∈ news, u.oneCell' = true)
    (h63 : n + m ≤ maxLen) (hbytes : (n + m) * bytes ≤ 140737488355328) (hbase : base ≤ w.heap.size)
    (h : ∀ v' w', w'.ownsRow base e size v' (n + m) (xs ++ news) → w.grownBy w' v.ownBlock → (v' = .slice none 0 0 ↔ v = .slice none 0 0 ∧ m = 0) → K (a.put o.dst v') w') :
    if Region.wanted o (yielded ops a.tmps) = true then Oper.wp P o a w K Q else E := by
  have hw : Region.wanted o (yielded ops a.tmps) = true := by simp [Region.wanted, hgd]
  rw [if_pos hw]
  exact wp_append_own w s x t ho base e i z size bytes ht hi hz hsize hby hzs hsz v n xs hs hown ad m c news hx hl hnews h1 h63 hbytes hbase h
end
theorem fl_take_get {l : List Bn} {k j : Nat} {u : Value} (h : (fl Bn.cells (l.take k))[j]? = some u) : (fl Bn.cells l)[j]? = some u := by
  have e : fl Bn.cells l = fl Bn.cells (l.take k) ++ fl Bn.cells (l.drop k) := by rw [← fl_app, List.take_append_drop]
  have hj := (List.getElem?_eq_some_iff.1 h).1
  rw [e, List.getElem?_append_left hj, h]
theorem fl_drop_get {l : List Bn} {k j : Nat} {u : Value} (hk : k ≤ l.length) (h : (fl Bn.cells (l.drop k))[j]? = some u) : (fl Bn.cells l)[k * 9 + j]? = some u := by
  have e : fl Bn.cells l = fl Bn.cells (l.take k) ++ fl Bn.cells (l.drop k) := by rw [← fl_app, List.take_append_drop]
  have hl : (fl Bn.cells (l.take k)).length = k * 9 := by rw [fl_len bn9, List.length_take, Nat.min_eq_left hk]
  rw [e, List.getElem?_append_right (by omega), hl, Nat.add_sub_cancel_left, h]
/-- what the walk of FragWithout wants to know of the fragment -/
structure PW (L : List Bn) (i o T z : Nat) (d : ByteArray) : Prop where
  fa : L[i]? = some ⟨2, 5, o, 3, 1, 0, 100, T, d⟩
  fz : d.size = z ∧ 1 ≤ z ∧ z ≤ 40 ∧ o ≤ 120 ∧ T ≤ 120
  mis : ¬ (butOf L i).length = 0 → rgsOf (butOf L i) false = ([⟨o, o + z⟩], 0)
  joi : ¬ (butOf L i).length = 0 → joinOf (butOf L i) = (noB, 8)
theorem pw_frag (l : List Int) (s i : Nat) (hs : 1 ≤ s ∧ s ≤ 40) (hi : i < (fragsOf hd0 (textOf l) s).length) : ∃ o T z d, PW (fragsOf hd0 (textOf l) s) i o T z d := by
  obtain ⟨a1, a2, a3, a4⟩ := text_one l s hs
  rw [frags_len] at hi
  have ht := text_size l
  have hm := (fr_lt (m := textOf l) a1.1).1 hi
  have hz := fr_size (h := hd0) hm
  refine ⟨i * s, (textOf l).size, (frOf hd0 (textOf l) s i i).data.size, (frOf hd0 (textOf l) s i i).data, ?_⟩
  exact ⟨frags_at hi, ⟨rfl, by omega⟩, fun h => by rw [but_miss a1 a2 a3 hi h, hz]; congr 3; omega, fun h => but_join a1 a2 a3 hi h⟩

set_option maxRecDepth 100000 in
set_option maxHeartbeats 8000000 in
theorem FragWithout_t (l : List Int) (x y : Int) (v : Value) (w : World) (hV : IntAt w v l) : Calls Try.prog 7 #[v, .int .i64 x, .int .i64 y] w (RetB true w) := by
  have HV := Lib.hid hV
  obtain ⟨A, c, rfl, _, hc2, hR⟩ := hV
  clear hR
  have hx := szN_b x
  have CU : Hid (∀ w v, IntAt w v l → Calls Try.prog 30 #[v, .int .i64 x] w (RetBBo (fragsOf hd0 (textOf l) (szN x)) true w)) := Lib.hid (fun w v h => cut_own l x v w h)
  have hfew := frags_few l _ hx
  have hpos : 0 < (fragsOf hd0 (textOf l) (szN x)).length := by
    rw [frags_len]; exact frags_n0 (by have := text_size l; omega) (by omega)
  have HPF := pw_frag l (szN x)
  obtain ⟨L, hL⟩ : ∃ L, fragsOf hd0 (textOf l) (szN x) = L := ⟨_, rfl⟩
  rw [hL] at CU hfew hpos HPF
  obtain ⟨i, hi⟩ : ∃ i : Nat, y % (L.length : Int) = i := ⟨(y % (L.length : Int)).toNat, by have := Int.emod_nonneg y (b := (L.length : Int)) (by omega); omega⟩
  have hil : i < L.length := by have := Int.emod_lt_of_pos y (b := (L.length : Int)) (by omega); omega
  have MY : Hid (∀ w, Calls Try.prog 31 #[.int .i64 y, .int .i64 (L.length : Int)] w fun e w' => e = .returned (.int .i64 (i : Int)) ∧ w = w') := Lib.hid (fun w => by rw [← hi]; exact Mod_any y L.length w (by omega) (by omega))
  obtain ⟨o, T, z, d, P⟩ := HPF i hx hil
  have hili : (i : Int) < L.length := by omega
  obtain ⟨hz1, hz2, hz3, ho1, hT1⟩ := P.fz
  have HP := Lib.hid P
  have hbl := but_len hil
  have hB0 : Hid ((butOf L i).length + 1 = L.length) := Lib.hid hbl
  have MI : Hid (∀ w v, BnAt w v (butOf L i) → Calls Try.prog 21 #[v] w (RetRg (rgsOf (butOf L i) false).1 (rgsOf (butOf L i) false).2 w)) := Lib.hid (fun w v h => Missing_any _ v w h (by omega))
  have JO : Hid (∀ w v, BnAt w v (butOf L i) → Calls Try.prog 23 #[v] w (RetSt (joinOf (butOf L i)).1 (joinOf (butOf L i)).2 w)) := Lib.hid (fun w v h => Join_any _ v w h (by omega))
  obtain ⟨i0, hif, hq0, hq1, hq2⟩ := info_parts infoBn
  have hwk : IntKind.i64.wrap ((i : Int) + 1) = (i : Int) + 1 := IntWalk.i64_in _ (by omega)
  have hk2 : ((i : Int) + 1).toNat = i + 1 := by omega
  have hk3 : (0 : Int) ≤ (i : Int) + 1 := by omega
  have hk4 : (i : Int) + 1 ≤ L.length := by omega
  have HC : Hid (((butOf L i).length = 0 ∧ (rgsOf (butOf L i) false).2 = 8) ∨ (¬ (butOf L i).length = 0 ∧ rgsOf (butOf L i) false = ([⟨o, o + z⟩], 0) ∧ joinOf (butOf L i) = (noB, 8))) := Lib.hid (by
    by_cases c : (butOf L i).length = 0
    · refine .inl ⟨c, ?_⟩
      rw [List.eq_nil_of_length_eq_zero c]
      unfold rgsOf
      rw [laidE_nil, if_pos (by decide)]
    · exact .inr ⟨c, P.mis c, P.joi c⟩)
  obtain ⟨t, ht⟩ : ∃ t, t = o + z := ⟨_, rfl⟩
  have WS : IntKind.i64.wrap ((o : Int) + d.size) = t := by rw [hz1, ht, Int.natCast_add]; exact IntWalk.i64_in _ (by omega)
  have WU1 : IntKind.u64.wrap (o : Int) = o := IntWalk.u64_in _ (by omega)
  have WU2 : IntKind.u64.wrap (t : Int) = t := IntWalk.u64_in _ (by omega)
  rw [← ht] at HC
  clear ht
  obtain ⟨B, hB⟩ : ∃ B, butOf L i = B := ⟨_, rfl⟩
  have EQ : Hid (0 + i + (L.length - (i + 1)) = B.length) := Lib.hid (by rw [← hB]; unfold butOf; rw [List.length_append, List.length_take, List.length_drop]; omega)
  have EF : Hid ([] ++ fl Bn.cells (L.take i) ++ fl Bn.cells (L.drop (i + 1)) = fl Bn.cells B) := Lib.hid (by rw [← hB]; unfold butOf; rw [fl_app]; rfl)
  rw [hB] at MI JO hB0 HC
  obtain ⟨mr, me, hmr⟩ : ∃ mr me, rgsOf B false = (mr, me) := ⟨_, _, rfl⟩
  obtain ⟨js, je, hjs⟩ : ∃ js je, joinOf B = (js, je) := ⟨_, _, rfl⟩
  rw [hmr] at MI HC
  rw [hjs] at JO HC
  clear hmr hjs
  have HB := Lib.hid hB
  clear hx hL hi HPF P hB hbl hz1
  go_enter Try.func7, Try.ntmps7
  go_wp2_with fail
  refine (FragKnown_t _).mono ?_
  rintro e w1 ⟨rfl, hb1⟩
  have hB1 := hb1
  have V1 := Lib.hid (SlAt.below HV.out hb1)
  clear hb1
  go_wp2_with fail
  refine (CU.out _ _ V1.out).mono ?_
  rintro e w2 ⟨v2, rfl, hv2, hb2⟩
  obtain ⟨gA, cA, e, hgA0, hgA1⟩ := World.ownsRow.form hv2 (by omega)
  subst e
  have O2 := Lib.hid hv2
  obtain ⟨_, _, e, hlc, hcm, hRd⟩ := SlAt.own hv2
  cases e
  have HRd := Lib.hid hRd
  obtain ⟨b2, o2, e2, hbl, q0, q1, q2, q3, q4, q5, q6, q7, q8⟩ := reads_bn hRd rfl HP.out.fa
  cases e2
  simp only [Nat.zero_add] at q0 q1 q2 q3 q4 q5 q6 q7 q8
  have hB2 := bnext hB1 hb2
  have hcA0 : ¬ cA = 0 := by omega
  have hk5 : (i : Int) ≤ cA := by omega
  clear hb2 hRd hB1 V1 CU hv2
  go_wp2_with fail
  refine (MY.out _).mono ?_
  rintro e w3 ⟨rfl, rfl⟩
  go_upto_region 7 with fail
  have k3 := Blk.new w2 26 #[.int .i64 2, .int .u64 5, .int .i64 o, .int .i64 3, .int .i64 1, .int .i64 0, .int .i64 100, .int .i64 T, .string d]
  have hB3 := bal hB2 (.cells #[.int .i64 2, .int .u64 5, .int .i64 o, .int .i64 3, .int .i64 1, .int .i64 0, .int .i64 100, .int .i64 T, .string d] 26)
  have O3 := own_below ((Below.refl w2.heap.size w2).alloc (Nat.le_refl _) (.cells #[.int .i64 2, .int .u64 5, .int .i64 o, .int .i64 3, .int .i64 1, .int .i64 0, .int .i64 100, .int .i64 T, .string d] 26)) O2.out
  have hg3 : w2.heap.size < (w2.alloc (.cells #[.int .i64 2, .int .u64 5, .int .i64 o, .int .i64 3, .int .i64 1, .int .i64 0, .int .i64 100, .int .i64 T, .string d] 26)).heap.size := by rw [World.size_alloc]; omega
  have hw2s := hB2.size
  obtain ⟨gg, hgg⟩ : ∃ gg, gg = w2.heap.size := ⟨_, rfl⟩
  have hgw : w.heap.size ≤ gg := by omega
  rw [← hgg] at k3 hg3 ⊢
  generalize w2.alloc (.cells #[.int .i64 2, .int .u64 5, .int .i64 o, .int .i64 3, .int .i64 1, .int .i64 0, .int .i64 100, .int .i64 T, .string d] 26) = W3 at k3 hB3 O3 hg3 ⊢
  clear hgg q0 q1 q2 q3 q4 q5 q6 q7 q8 hbl HRd O2 hw2s hB2 MY HV
  obtain ⟨_, _, e, _, _, hRd3⟩ := SlAt.own O3
  cases e
  have hRA := reads_add' hRd3
  obtain ⟨_, _, e, hgA3, hRB⟩ := hRd3.2 (by omega)
  cases e
  have hwW := hB3.size
  have HV0 := Lib.hid (World.ownsRow_made (base := W3.heap.size) (e := 26) (size := 9) W3 #[] 0 (by simp) (by unfold maxLen; omega) rfl)
  have LT : Hid ((fl Bn.cells (L.take i)).length = i * 9) := Lib.hid (by rw [fl_len bn9, List.length_take, Nat.min_eq_left (by omega)])
  have LD : Hid ((fl Bn.cells (L.drop (i + 1))).length = (L.length - (i + 1)) * 9) := Lib.hid (by rw [fl_len bn9, List.length_drop])
  have N1 : Hid (∀ j u, (fl Bn.cells (L.take i))[j]? = some u → (W3.alloc (.cells #[] 26)).cell? ((⟨gA, 0, none⟩ : Addr).add j) = some u) := by
    intro j u h
    rw [World.cell?_alloc_lt _ _ _ (by unfold Addr.add; split <;> exact hgA3)]
    exact hRA j u (fl_take_get h)
  have N2 : Hid (∀ j u, (fl Bn.cells (L.drop (i + 1)))[j]? = some u → W3.cell? ⟨gA, (i + 1) * 9 + j, none⟩ = some u) := by
    intro j u h
    have := hRB _ u (fl_drop_get (by omega) h)
    rwa [Nat.zero_add] at this
  obtain ⟨ad, had⟩ : ∃ ad, (if cA = i + 1 then some (⟨gA, 0, none⟩ : Addr) else some ⟨gA, (i + 1) * 9, none⟩) = some ad := by split <;> exact ⟨_, rfl⟩
  have HAD : Hid (∀ j u, (fl Bn.cells (L.drop (i + 1)))[j]? = some u → ad.add j = ⟨gA, (i + 1) * 9 + j, none⟩) := by
    intro j u h
    by_cases hcap : cA = i + 1
    · have h0 := (List.getElem?_eq_some_iff.1 h).1
      rw [LD.out] at h0
      omega
    · rw [if_neg hcap] at had
      have := Option.some.inj had
      rw [← this]
      unfold Addr.add
      split <;> simp_all
  have K3 := Lib.hid k3
  have H3 := Lib.hid hB3
  clear hRA hRB hRd3 k3 hB3 O3
  go_region_law (first
    | (refine step_append_own (by rfl) _ _ 28 (by rfl) W3.heap.size 26 i0 _ 9 80 Try.underlying28 hif hq0 hq1 hq2 rfl (by decide) (.slice (some ⟨W3.heap.size, 0, none⟩) 0 0) 0 [] (by rfl) HV0.out.drew ⟨gA, 0, none⟩ i cA (fl Bn.cells (L.take i)) (by rfl) LT.out N1.out (fl_one_cell bn_one _) (by unfold maxLen; omega) (by omega) (by simp) ?_; intro v5 w5 hown5 hgrow5 _; have k5 := (K3.out.alloc (.cells #[] 26)).drew.grown hgrow5 (by intro h; have := (HV0.out.lt gg h.symm).1; omega); have hB5 : Below w.heap.size w w5 := (bdr (bal H3.out _)).grown hgrow5 (by simp; omega) (fun k e => by have := (HV0.out.lt k e).1; omega); have N25 : ∀ j u, (fl Bn.cells (L.drop (i + 1)))[j]? = some u → w5.cell? (ad.add j) = some u := (fun j u h => (congrArg _ (HAD.out j u h)).trans ((hgrow5.cell_far ⟨gA, (i + 1) * 9 + j, none⟩ (by simp; omega) (by simp [Value.ownBlock]; omega)).trans ((World.cell?_alloc_lt _ _ _ hgA3).trans (N2.out j u h)))); have N25 := Lib.hid N25; have HO5 := Lib.hid hown5; have K5 := Lib.hid k5; have hz5 : W3.heap.size ≤ w5.heap.size := (by have := hgrow5.size; simp at this; omega); clear hown5 hgrow5 k5)
    | (refine step_append_own (by rfl) _ _ 28 (by rfl) W3.heap.size 26 i0 _ 9 80 Try.underlying28 hif hq0 hq1 hq2 rfl (by decide) v5 (0 + i) ([] ++ fl Bn.cells (L.take i)) (by rfl) HO5.out ad (L.length - (i + 1)) (cA - (i + 1)) (fl Bn.cells (L.drop (i + 1))) (by rfl) LD.out N25.out (fl_one_cell bn_one _) (by unfold maxLen; omega) (by omega) (by omega) ?_; intro v6 w6 hown6 hgrow6 _; rw [EQ.out, EF.out] at hown6; obtain ⟨A6, c6, hv6, _⟩ := SlAt.own hown6; subst hv6; have k6 := K5.out.grown hgrow6 (by intro h; have := (HO5.out.lt gg h.symm).1; omega); have hB6 : Below w.heap.size w w6 := hB5.grown hgrow6 (by omega) (fun k e => by have := (HO5.out.lt k e).1; omega); have HO6 := Lib.hid hown6; have K6 := Lib.hid k6; clear hown6 hgrow6 k6))
  all_goals
    clear N25 HO5 K5 hB5 hz5
    go_wp2_with fail
    refine (MI.out _ _ (SlAt.own HO6.out)).mono ?_
    rintro e w7 ⟨v7, rfl, hv7, hb7⟩
    obtain ⟨A7, c7, rfl, _⟩ := id hv7
    have hB7 := bnext hB6 hb7
    have K7 := Lib.hid (K6.out.below hb7)
    have B7 := Lib.hid (SlAt.below (SlAt.own HO6.out) hb7)
    have M7 := Lib.hid hv7
    clear hb7 hv7 hB6 HO6 K6 MI
    rcases HC.out with ⟨c0, c1⟩ | ⟨c0, c1, c2⟩
    · try dsimp only at c1
      subst c1
      have hz0 : ((B.length : Int) == 0) = true := by rw [c0]; rfl
      clear c0
      go_wp2_with fail
      go_ret
      exact ⟨rfl, hB7⟩
    · injection c1 with c3 c4
      injection c2 with c5 c6
      subst c3
      subst c4
      subst c6
      have hz0 : ((B.length : Int) == 0) = false := beq_eq_false_iff_ne.2 (by omega)
      clear c0
      obtain ⟨x0, x1, x2, x3, x4, x5, x6, x7, x8⟩ := K7.out.c9
      go_wp2_with fail
      refine (JO.out _ _ (SlAt.alloc B7.out _)).mono ?_
      rintro e w8 ⟨rfl, hb8⟩
      have hB8 := bnext (bal hB7 _) hb8
      have M8 := SlAt.below (SlAt.alloc M7.out _) hb8
      have W8 := (Blk.new w7 50 #[.int .u64 (o : Int), .int .u64 (t : Int)]).below hb8
      clear hb8 hB7 x0 x1 x2 x3 x4 x5 x6 x7 x8
      go_wp2_with fail
      refine (SameRanges_eq [⟨o, t⟩] _ _ _ M8 (rg_lit (L := [⟨o, t⟩]) W8 1 rfl (by decide))).mono ?_
      rintro e w9 ⟨rfl, hb9⟩
      have hB9 := bnext hB8 hb9
      clear hb9 hB8 M8 W8
      go_wp2_with fail
      go_ret
      exact ⟨rfl, hB9⟩
end Go.Proofs.Ytcifngefclgefaa
