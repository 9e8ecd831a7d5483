/- Contract: a ledger made of numbers. -/
import Derived.Test.YtdfppaafoecgmaaK
import Derived.Test.YtdfppaafoecgmaaPlain3
import Derived.Deep.RegionLaw
import Derived.Deep.AppendLies
namespace Go.Proofs.Ytdfppaafoecgmaa
open Go.RowKit
set_option linter.unusedVariables false
set_option linter.unusedSimpArgs false

theorem tmod_rng {a n : Int} (hn : 1 ≤ n) : -n < a.tmod n ∧ a.tmod n < n :=
  ⟨Int.lt_tmod_of_pos a (by omega), Int.tmod_lt_of_pos _ (by omega)⟩
def RngPost (n : Int) (w : World) (e : Ending) (w' : World) : Prop := ∃ m, (0 ≤ m ∧ m < n) ∧ e = .returned (.int .i64 m) ∧ w = w'
set_option maxHeartbeats 400000 in
theorem Mod_rng (a n : Int) (w : World) (hn : 1 ≤ n) (hn2 : n ≤ 9223372036854775807) :
    Calls Try.prog 34 #[.int .i64 a, .int .i64 n] w (RngPost n w) := by
  obtain ⟨b2, b1⟩ := tmod_rng (a := a) hn
  by_cases h : a.tmod n < 0
  · go_enter Try.func34, Try.ntmps34
    go_wp2
    go_ret
    exact ⟨_, ⟨by omega, by omega⟩, rfl, rfl⟩
  · go_enter Try.func34, Try.ntmps34
    go_wp2
    go_ret
    exact ⟨_, ⟨by omega, by omega⟩, rfl, rfl⟩

section
variable {P : Program} {w : World}
/-- append onto a slice of the call's own, as one step of a region that draws -/
theorem step_append_own {ops : Array Oper} {o : Oper} {a : Act} {K : Act → World → Prop} {Q : Exit → Act → World → Prop} {E : Prop} (hgd : o.guard = none) (s x : Operand) (t : TypeId)
    (ho : o.op = .call { callee := .builtin .append, args := #[s, x], argTypes := #[t, t] })
    (base : Nat) (e : TypeId) (i : TypeInfo) (z : Value) (size bytes : Nat) (ht : P.underlying t = some (.slice e)) (hi : P.info? e = some i) (hz : i.zero = some z)
    (hsize : i.size = size) (hby : i.bytes = bytes) (hzs : z.cells.size = size) (hsz : 0 < size)
    (v : Value) (n : Nat) (xs : List Value) (hs : a.eval s = v) (hown : w.ownsRow base e size v n xs)
    (ad : Addr) (m c : Nat) (news : List Value) (hx : a.eval x = .slice (some ad) m c) (hl : news.length = m * size) (hnews : ∀ j u, news[j]? = some u → w.cell? (ad.add j) = some u) (h1 : ∀ u ∈ news, u.oneCell' = true)
    (h63 : n + m ≤ maxLen) (hbytes : (n + m) * bytes ≤ 140737488355328) (hbase : base ≤ w.heap.size)
    (h : ∀ v' w', w'.ownsRow base e size v' (n + m) (xs ++ news) → w.grownBy w' v.ownBlock → (v' = .slice none 0 0 ↔ v = .slice none 0 0 ∧ m = 0) → K (a.put o.dst v') w') :
    if Region.wanted o (yielded ops a.tmps) = true then Oper.wp P o a w K Q else E := by
  have hw : Region.wanted o (yielded ops a.tmps) = true := by simp [Region.wanted, hgd]
  rw [if_pos hw]
  exact wp_append_own w s x t ho base e i z size bytes ht hi hz hsize hby hzs hsz v n xs hs hown ad m c news hx hl hnews h1 h63 hbytes hbase h
end
theorem flat_app (a b : List Sl) : flat (a ++ b) = flat a ++ flat b := by simp [flat]
theorem flat_take_get {l : List Sl} {k j : Nat} {u : Value} (h : (flat (l.take k))[j]? = some u) : (flat l)[j]? = some u := by
  have e : flat l = flat (l.take k) ++ flat (l.drop k) := by rw [← flat_app, List.take_append_drop]
  have hj := (List.getElem?_eq_some_iff.1 h).1
  rw [e, List.getElem?_append_left hj, h]
theorem flat_drop_get {l : List Sl} {k j : Nat} {u : Value} (hk : k ≤ l.length) (h : (flat (l.drop k))[j]? = some u) : (flat l)[k * 5 + j]? = some u := by
  have e : flat l = flat (l.take k) ++ flat (l.drop k) := by rw [← flat_app, List.take_append_drop]
  have hl : (flat (l.take k)).length = k * 5 := by rw [flat_len, List.length_take, Nat.min_eq_left hk]
  rw [e, List.getElem?_append_right (by omega), hl, Nat.add_sub_cancel_left, h]

def ints (xs : List Int) : List Value := xs.map (.int .i64)
/-- a ledger of at most 12 rounds -/
def LedgerPost (w : World) (e : Ending) (w' : World) : Prop := ∃ s A c, LedI 12 s ∧ e = .returned (.agg #[.int .u64 s.g, .int .u64 s.n, .int .u64 s.r, .slice A s.sl.length c]) ∧ OwnL w w' (.slice A s.sl.length c) s.sl ∧ Below w.heap.size w w'
theorem ledI_up {i : Nat} {s : Led} (h : LedI i s) : ∀ k, LedI (i + k) s
  | 0 => h
  | k + 1 => ledI_next (ledI_up h k)

/-- the loop's state -/
def LedMid (w : World) (xs : List Int) (a : Value) (wr : World) : Prop := ∃ (i : Nat) (g n r : Int) (l : List Sl) (A : Option Addr) (c : Nat), LedI i ⟨g, n, r, l⟩ ∧ i ≤ 12 ∧ i ≤ xs.length ∧ a = .int .i64 i ∧
  Blk wr w.heap.size 26 #[.int .u64 0, .int .u64 0, .int .u64 0, .slice none 0 0] ∧ Blk wr (w.heap.size + 1) 26 #[.int .u64 g, .int .u64 n, .int .u64 r, .slice A l.length c] ∧
  OwnL w wr (.slice A l.length c) l ∧ Below w.heap.size w wr

set_option maxRecDepth 100000 in
set_option maxHeartbeats 8000000 in
theorem Ledger_any (xs : List Int) (v : Value) (w : World) (hS : SlAt w 1 v xs.length (ints xs)) :
    Calls Try.prog 9 #[v] w (LedgerPost w) := by
  obtain ⟨A0, c0, rfl, hc1, hc2, hR⟩ := hS
  obtain ⟨i0, hi, hz0', hz1, hz2⟩ := info_parts infoSlot
  go_enter Try.func9, Try.ntmps9
  obtain ⟨wo, hwo⟩ : ∃ wo, w = wo := ⟨_, rfl⟩
  subst hwo
  go_upto_region 2 with fail
  go_wp2_with fail
  go_loopw [4] (fun a wr => LedMid w xs a wr) (fun a _ => xs.length - (intOf a).toNat)
  case atStart =>
    refine ⟨0, 200, 0, 0, [], none, 0, ledI_zero, by omega, by omega, rfl, ?_, ?_, ?_, ?_⟩
    · exact (Blk.new _ _ _).alloc _
    · exact Blk.new1 _ _ _ _
    · exact World.ownsRow_nil _ _ _ _
    · exact (by repeat (first | with_reducible exact Below.refl _ _ | with_reducible refine Below.drew ?_ | with_reducible refine below_drewN ?_ _ | with_reducible refine bal ?_ _ | with_reducible refine bset ?_ (by first | (simp; done) | (simp; omega)) _ | with_reducible refine bnext ?_ (by assumption) | with_reducible assumption))
  case round =>
    obtain ⟨i, g, n, r, l, A, c, hI, hi12, hix, rfl, k0, k1, ho, hB⟩ := hrel
    have HI := Lib.hid hI
    have hn : (200 ≤ g ∧ g ≤ 200 + 40 * i) ∧ 0 ≤ n ∧ 0 ≤ r ∧ n + r ≤ g := ⟨hI.1, hI.2.1, hI.2.2.1, hI.2.2.2.1⟩
    have hl12 : l.length ≤ 12 := Nat.le_trans (ledI_len hI) hi12
    obtain ⟨⟨hg0, hg1⟩, hn0, hr0, hs0⟩ := hn
    have K0 := Lib.hid k0
    have K1 := Lib.hid k1
    have HO := Lib.hid ho
    have hlt := k1.lt
    obtain ⟨d0, d1, d2, d3⟩ := k1.c4
    obtain ⟨e0, e1, e2, e3⟩ := k0.c4
    obtain ⟨f0, f1, f2, f3⟩ := k0.f4
    obtain ⟨m0, m1, m2, m3⟩ := k1.f4
    clear hI k0 ho
    by_cases h1 : i < xs.length
    · have hi1 : (i : Int) < xs.length := by omega
      by_cases h2 : i < 12
      · have hi2 : (i : Int) < 12 := by omega
        obtain ⟨b, o, e, hbl, hx⟩ := hR.2 (by omega)
        cases e
        obtain ⟨x, hx0⟩ : ∃ x, xs[i]? = some x := ⟨_, List.getElem?_eq_getElem h1⟩
        have hcx : wr.cell? ⟨b, o + i, none⟩ = some (.int .i64 x) := by
          rw [(bcell hB).1 _ _ hbl]
          exact hx i _ (by simp [ints, hx0])
        clear hx hx0
        have k1' := k1
        go_wp2_with fail
        refine (Mod_rng _ _ _ (by decide) (by decide)).mono ?_
        rintro e wq ⟨m, ⟨hm0, hm1⟩, rfl, rfl⟩
        obtain ⟨q, hq⟩ : ∃ q, m.tdiv 8 = q := ⟨_, rfl⟩
        have hq0 : 0 ≤ q ∧ q ≤ 131072 := by rw [← hq, Int.tdiv_eq_ediv_of_nonneg hm0]; omega
        obtain ⟨z, hz⟩ : ∃ z, q.tmod 40 = z := ⟨_, rfl⟩
        have hz0 : 0 ≤ z ∧ z < 40 := by rw [← hz, Int.tmod_eq_emod_of_nonneg hq0.1]; omega
        obtain ⟨d, hd⟩ : ∃ d, m.tmod 8 = d := ⟨_, rfl⟩
        have hd0 : 0 ≤ d ∧ d < 8 := by rw [← hd, Int.tmod_eq_emod_of_nonneg hm0]; omega
        obtain ⟨k, hk⟩ : ∃ k, q.tmod 12 = k := ⟨_, rfl⟩
        have hk0 : 0 ≤ k ∧ k < 12 := by rw [← hk, Int.tmod_eq_emod_of_nonneg hq0.1]; omega
        go_upto_region 12 with fail
        have hix1 : (i : Int) + 1 ≤ 12 := by omega
        by_cases hcd : d ≤ 3
        · have key : d = 0 ∨ d = 1 ∨ d = 2 ∨ d = 3 := by omega
          have HOA : Hid ((wr.alloc (.cells #[.int .u64 n, .int .u64 (1 + z), .int .i64 1, .int .u64 (i + 1), .int .i64 0] 44)).ownsRow w.heap.size 44 5 (.slice A l.length c) l.length (flat l)) := Lib.hid (World.ownsRow.alloc HO.out _)
          have hz1' : 1 + z ≤ 40 := by omega
          by_cases hzu : 1 + z ≤ g - n - r
          · have hsize := hB.size
            rcases key with rfl | rfl | rfl | rfl
            all_goals
              go_wp2_with (first
                | (at_builtin; refine wpList_append_own _ rfl _ _ 24 rfl w.heap.size 44 i0 zslot 5 40 Try.underlying24 hi hz0' hz1 hz2 rfl (by decide) _ _ _ rfl HOA.out ⟨wr.heap.size, 0, none⟩ 1 1 [.int .u64 n, .int .u64 (1 + z), .int .i64 1, .int .u64 (i + 1), .int .i64 0] rfl rfl (fun j x hj => by rw [← hj]; exact newadd _ _ _ _) (by intro x hx; simp at hx; rcases hx with rfl | rfl | rfl | rfl | rfl <;> rfl) (by unfold maxLen; omega) (by omega) (by simp; omega) ?_; intro v' w5 hown' hgrow _; obtain ⟨g', cap', rfl⟩ := ownsRow_succ hown'; have k05 := (K0.out.alloc (.cells #[.int .u64 n, .int .u64 (1 + z), .int .i64 1, .int .u64 (i + 1), .int .i64 0] 44)).grown hgrow (blk_ne_own HOA.out (K0.out.alloc _) (by decide)); have k15 := (K1.out.alloc (.cells #[.int .u64 n, .int .u64 (1 + z), .int .i64 1, .int .u64 (i + 1), .int .i64 0] 44)).grown hgrow (blk_ne_own HOA.out (K1.out.alloc _) (by decide)); obtain ⟨l0, l1, l2, l3⟩ := k15.c4; obtain ⟨p0, p1, p2, p3⟩ := k15.f4; have hB5 : Below w.heap.size w w5 := (bal hB _).grown hgrow (by simp; omega) (fun k e => by have := (HOA.out.lt k e).1; omega); have HO5 := Lib.hid hown'; have K05 := Lib.hid k05; have K15 := Lib.hid k15; clear k05 k15 hown' hgrow))
              go_roundw
              case rel =>
                refine ⟨i + 1, g, n + (1 + z), r, l ++ [⟨n, 1 + z, 1, i + 1, 0⟩], some ⟨g', 0, none⟩, cap', ledI_add HI.out h2 (by omega) (by omega) hzu, by omega, by omega, by go_num, ?_, ?_, ?_, ?_⟩
                · exact (K05.out.far (by simp) _).far (by simp) _
                · have q := (K15.out.set 3 (.slice (some ⟨g', 0, none⟩) (l.length + 1) cap')).set 1 (.int .u64 (n + (1 + z)))
                  simpa using q
                · unfold OwnL
                  have p0 := ho_far (a := ⟨w.heap.size + 1, 3, none⟩) HO5.out K15.out (by decide) (.slice (some ⟨g', 0, none⟩) (l.length + 1) cap')
                  have p1 := ho_far (a := ⟨w.heap.size + 1, 1, none⟩) p0 (K15.out.set 3 _) (by decide) (.int .u64 (n + (1 + z)))
                  have el : (l ++ [(⟨n, 1 + z, 1, i + 1, 0⟩ : Sl)]).length = l.length + 1 := by simp
                  have ef := flat_snoc l ⟨n, 1 + z, 1, i + 1, 0⟩
                  dsimp only at ef ⊢
                  rw [el, ef]
                  exact p1
                · exact (by repeat (first | with_reducible exact Below.refl _ _ | with_reducible refine Below.drew ?_ | with_reducible refine below_drewN ?_ _ | with_reducible refine bal ?_ _ | with_reducible refine bset ?_ (by first | (simp; done) | (simp; omega)) _ | with_reducible refine bnext ?_ (by assumption) | with_reducible assumption))
              case measure => simp [intOf]; omega
          · rcases key with rfl | rfl | rfl | rfl
            all_goals
              go_wp2_with fail
              go_roundw
              case rel => exact ⟨i + 1, g, n, r, l, A, c, ledI_next HI.out, by omega, by omega, by go_num, K0.out, K1.out, HO.out, hB⟩
              case measure => simp [intOf]; omega
        · by_cases hd4 : d = 4
          · subst hd4
            go_wp2_with fail
            go_roundw
            case rel =>
              refine ⟨i + 1, g + (1 + z), n, r, l, A, c, ledI_more HI.out (by omega) (by omega), by omega, by omega, by go_num, ?_, ?_, ?_, ?_⟩
              · exact K0.out.far (by simp) _
              · simpa using K1.out.set 0 (.int .u64 (g + (1 + z)))
              · exact ho_far HO.out K1.out (by decide) _
              · exact (by repeat (first | with_reducible exact Below.refl _ _ | with_reducible refine Below.drew ?_ | with_reducible refine below_drewN ?_ _ | with_reducible refine bal ?_ _ | with_reducible refine bset ?_ (by first | (simp; done) | (simp; omega)) _ | with_reducible refine bnext ?_ (by assumption) | with_reducible assumption))
            case measure => simp [intOf]; omega
          · by_cases hd5 : d = 5
            · subst hd5
              obtain ⟨y, hy⟩ : ∃ y, (if 1 + z < g - n - r then 1 + z else g - n - r) = y := ⟨_, rfl⟩
              have hy0 : 0 ≤ y ∧ y ≤ g - n - r := by rw [← hy]; split <;> omega
              go_wp2_with fail
              go_roundw
              case rel =>
                refine ⟨i + 1, g, n, r + y, l, A, c, ledI_back HI.out hy0.1 hy0.2, by omega, by omega, by go_num, ?_, ?_, ?_, ?_⟩
                · exact K0.out.far (by simp) _
                · simpa using K1.out.set 2 (.int .u64 (r + y))
                · exact ho_far HO.out K1.out (by decide) _
                · exact (by repeat (first | with_reducible exact Below.refl _ _ | with_reducible refine Below.drew ?_ | with_reducible refine below_drewN ?_ _ | with_reducible refine bal ?_ _ | with_reducible refine bset ?_ (by first | (simp; done) | (simp; omega)) _ | with_reducible refine bnext ?_ (by assumption) | with_reducible assumption))
              case measure => simp [intOf]; omega
            · have hd6 : ¬ d ≤ 3 := hcd
              by_cases hkl : k < l.length
              · obtain ⟨kk, rfl⟩ : ∃ kk : Nat, k = kk := ⟨k.toNat, by omega⟩
                have hkn : kk < l.length := by omega
                obtain ⟨gA, cA, e, hgA0, hgA1⟩ := World.ownsRow.form HO.out (by omega)
                cases e
                obtain ⟨_, _, e, hlc, hcm, hRd⟩ := SlAt.own HO.out
                cases e
                have hRA := reads_add hRd
                obtain ⟨_, _, e, _, hRB⟩ := hRd.2 (by omega)
                cases e
                have hk2 : ((kk : Int) + 1).toNat = kk + 1 := by omega
                have hwk : IntKind.i64.wrap ((kk : Int) + 1) = (kk : Int) + 1 := IntWalk.i64_in _ (by omega)
                obtain ⟨ad, had⟩ : ∃ ad, (if c = kk + 1 then some (⟨gA, 0, none⟩ : Addr) else some ⟨gA, (kk + 1) * 5, none⟩) = some ad := by split <;> exact ⟨_, rfl⟩
                have hk3 : (0 : Int) ≤ (kk : Int) + 1 := by omega
                have hk4 : (kk : Int) + 1 ≤ l.length := by omega
                have hk5 : (kk : Int) ≤ c := by omega
                have hc0 : ¬ c = 0 := by omega
                have HV := Lib.hid (World.ownsRow_made (base := wr.heap.size) (e := 44) (size := 5) wr #[] 0 (by simp) (by unfold maxLen; omega) rfl)
                have LT : (flat (l.take kk)).length = kk * 5 := by rw [flat_len, List.length_take, Nat.min_eq_left (by omega)]
                have LD : (flat (l.drop (kk + 1))).length = (l.length - (kk + 1)) * 5 := by rw [flat_len, List.length_drop]
                have N1 : Hid (∀ j u, (flat (l.take kk))[j]? = some u → (wr.alloc (.cells #[] 44)).cell? ((⟨gA, 0, none⟩ : Addr).add j) = some u) := by
                  intro j u h
                  rw [World.cell?_alloc_lt _ _ _ (by unfold Addr.add; split <;> exact hgA1)]
                  exact hRA j u (flat_take_get h)
                have N2 : Hid (∀ j u, (flat (l.drop (kk + 1)))[j]? = some u → wr.cell? ⟨gA, (kk + 1) * 5 + j, none⟩ = some u) := by
                  intro j u h
                  have := hRB _ u (flat_drop_get (by omega) h)
                  rwa [Nat.zero_add] at this
                have LT := Lib.hid LT
                have LD := Lib.hid LD
                clear hRA hRB hRd
                obtain ⟨L, hL⟩ : ∃ L, l.take kk ++ l.drop (kk + 1) = L := ⟨_, rfl⟩
                have EQ : Hid (0 + kk + (l.length - (kk + 1)) = L.length) := by rw [← hL, List.length_append, List.length_take, List.length_drop]; show _ = _; omega
                have EF : Hid ([] ++ flat (l.take kk) ++ flat (l.drop (kk + 1)) = flat L) := by rw [← hL, flat_app, List.nil_append]; rfl
                have HL := Lib.hid hL
                have HAD : Hid (∀ j u, (flat (l.drop (kk + 1)))[j]? = some u → ad.add j = ⟨gA, (kk + 1) * 5 + j, none⟩) := by
                  intro j u h
                  by_cases hcap : c = kk + 1
                  · have h0 := (List.getElem?_eq_some_iff.1 h).1
                    rw [LD.out] at h0
                    omega
                  · rw [if_neg hcap] at had
                    have := Option.some.inj had
                    rw [← this]
                    unfold Addr.add
                    split <;> simp_all
                clear hL
                go_upto_region 11 with fail
                go_region_law (first
                  | (refine step_append_own (by rfl) _ _ 24 (by rfl) wr.heap.size 44 i0 zslot 5 40 Try.underlying24 hi hz0' hz1 hz2 rfl (by decide) (.slice (some ⟨wr.heap.size, 0, none⟩) 0 0) 0 [] (by rfl) HV.out.drew ⟨gA, 0, none⟩ kk c (flat (l.take kk)) (by rfl) LT.out N1.out (flat_one _) (by unfold maxLen; omega) (by omega) (by simp) ?_; intro v5 w5 hown5 hgrow5 _; have k05 := (K0.out.alloc (.cells #[] 44)).drew.grown hgrow5 (blk_ne_own HV.out (K0.out.alloc _) (by decide)); have k15 := (K1.out.alloc (.cells #[] 44)).drew.grown hgrow5 (blk_ne_own HV.out (K1.out.alloc _) (by decide)); obtain ⟨l0, l1, l2, l3⟩ := k15.c4; have hB5 : Below w.heap.size w w5 := (bdr (bal hB _)).grown hgrow5 (by simp; omega) (fun k e => by have := (HV.out.lt k e).1; omega); have N25 : ∀ j u, (flat (l.drop (kk + 1)))[j]? = some u → w5.cell? (ad.add j) = some u := (fun j u h => (congrArg _ (HAD.out j u h)).trans ((hgrow5.cell_far ⟨gA, (kk + 1) * 5 + j, none⟩ (by simp; omega) (by simp [Value.ownBlock]; omega)).trans ((World.cell?_alloc_lt _ _ _ hgA1).trans (N2.out j u h)))); have N25 := Lib.hid N25; have HO5 := Lib.hid hown5; have K05 := Lib.hid k05; have K15 := Lib.hid k15; have hz5 : wr.heap.size ≤ w5.heap.size := (by have := hgrow5.size; simp at this; omega); clear hown5 hgrow5 k05 k15)
                  | (refine step_append_own (by rfl) _ _ 24 (by rfl) wr.heap.size 44 i0 zslot 5 40 Try.underlying24 hi hz0' hz1 hz2 rfl (by decide) v5 (0 + kk) ([] ++ flat (l.take kk)) (by rfl) HO5.out ad (l.length - (kk + 1)) (c - (kk + 1)) (flat (l.drop (kk + 1))) (by rfl) LD.out N25.out (flat_one _) (by unfold maxLen; omega) (by omega) (by omega) ?_; intro v6 w6 hown6 hgrow6 _; rw [EQ.out, EF.out] at hown6; obtain ⟨A6, c6, hv6, _⟩ := SlAt.own hown6; subst hv6; have k06 := K05.out.grown hgrow6 (blk_ne_own HO5.out K05.out (by decide)); have k16 := K15.out.grown hgrow6 (blk_ne_own HO5.out K15.out (by decide)); obtain ⟨p0, p1, p2, p3⟩ := k16.c4; obtain ⟨s0, s1, s2, s3⟩ := k16.f4; have hB6 : Below w.heap.size w w6 := hB5.grown hgrow6 (by omega) (fun k e => by have := (HO5.out.lt k e).1; omega); have HO6 := Lib.hid hown6; have K06 := Lib.hid k06; have K16 := Lib.hid k16; clear hown6 hgrow6 k06 k16))
                all_goals
                  go_wp2_with fail
                  go_roundw
                  case rel =>
                    refine ⟨i + 1, g, n, r, L, A6, c6, by have q := ledI_del HI.out kk; rwa [HL.out] at q, by omega, by omega, by go_num, ?_, ?_, ?_, ?_⟩
                    · exact K06.out.far (by simp) _
                    · simpa using K16.out.set 3 (.slice A6 L.length c6)
                    · exact own_mono (ho_far (a := ⟨w.heap.size + 1, 3, none⟩) HO6.out K16.out (by decide) _) hB.size
                    · exact (by repeat (first | with_reducible exact Below.refl _ _ | with_reducible refine Below.drew ?_ | with_reducible refine below_drewN ?_ _ | with_reducible refine bal ?_ _ | with_reducible refine bset ?_ (by first | (simp; done) | (simp; omega)) _ | with_reducible refine bnext ?_ (by assumption) | with_reducible assumption))
                  case measure => simp [intOf]; omega
              · go_wp2_with fail
                go_roundw
                case rel => exact ⟨i + 1, g, n, r, l, A, c, ledI_next HI.out, by omega, by omega, by go_num, K0.out, K1.out, HO.out, hB⟩
                case measure => simp [intOf]; omega
      · have hi2 : ¬ (i : Int) < 12 := by omega
        go_wp2_with fail
        refine bodyPost_ret (v := .agg #[.int .u64 g, .int .u64 n, .int .u64 r, .slice A l.length c]) (by simp [results, Try.results9, go_sem, d0, d1, d2, d3, e0, e1, e2, e3]) rfl ⟨⟨g, n, r, l⟩, A, c, by have q := ledI_up HI.out (12 - i); rwa [show i + (12 - i) = 12 by omega] at q, rfl, put4_own K0.out HO.out, (by repeat (first | with_reducible exact Below.refl _ _ | with_reducible refine Below.drew ?_ | with_reducible refine below_drewN ?_ _ | with_reducible refine bal ?_ _ | with_reducible refine bset ?_ (by first | (simp; done) | (simp; omega)) _ | with_reducible refine bnext ?_ (by assumption) | with_reducible assumption))⟩
    · have hi1 : ¬ (i : Int) < xs.length := by omega
      go_wp2_with fail
      refine bodyPost_ret (v := .agg #[.int .u64 g, .int .u64 n, .int .u64 r, .slice A l.length c]) (by simp [results, Try.results9, go_sem, d0, d1, d2, d3, e0, e1, e2, e3]) rfl ⟨⟨g, n, r, l⟩, A, c, by have q := ledI_up HI.out (12 - i); rwa [show i + (12 - i) = 12 by omega] at q, rfl, put4_own K0.out HO.out, (by repeat (first | with_reducible exact Below.refl _ _ | with_reducible refine Below.drew ?_ | with_reducible refine below_drewN ?_ _ | with_reducible refine bal ?_ _ | with_reducible refine bset ?_ (by first | (simp; done) | (simp; omega)) _ | with_reducible refine bnext ?_ (by assumption) | with_reducible assumption))⟩
end Go.Proofs.Ytdfppaafoecgmaa
