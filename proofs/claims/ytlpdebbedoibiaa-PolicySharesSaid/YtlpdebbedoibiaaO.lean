/- Contract: the least and the greatest level. -/
import Derived.Test.YtlpdebbedoibiaaL
import Derived.Test.YtlpdebbedoibiaaPlain5
namespace Go.Proofs.Ytlpdebbedoibiaa
open Go.RowKit
set_option linter.unusedVariables false
set_option linter.unusedSimpArgs false

def Ret3 (a b c : Int) (w : World) (e : Ending) (w' : World) : Prop := e = .returned (.tuple #[.int .u64 a, .int .u64 b, .int .i64 c]) ∧ Below w.heap.size w w'
def LvR (l : List Cl) (W A : Int) (w : World) (e : Ending) (w' : World) : Prop := ∃ v0, IsUp (lev l) W A v0 ∧ Ret3 (lo (bump W v0 (lev l) (A - needs (lev l) v0))) (top (bump W v0 (lev l) (A - needs (lev l) v0))) 0 w e w'
theorem take_snoc' {α : Type} {l : List α} {k : Nat} {x : α} (h : l[k]? = some x) : l.take (k + 1) = l.take k ++ [x] := by
  obtain ⟨hk, rfl⟩ := List.getElem?_eq_some_iff.1 h
  exact List.take_succ_eq_append_getElem hk

set_option maxHeartbeats 1000000 in
theorem Levels_no (l : List Cl) (W A : Int) (hk : askE l [W, A] ≠ 0) (v : Value) (w : World) (hS : ClAt w v l) :
    Calls Try.prog 26 #[v, .int .u64 W, .int .u64 A] w (Ret3 0 0 (askE l [W, A]) w) := by
  have HN := Lib.hid (Fill_no l W A hk v w hS)
  have hne : (askE l [W, A] != 0) = true := by rw [bne_iff_ne]; exact hk
  clear hS hk
  go_enter Try.func26, Try.ntmps26
  go_wp2_with fail
  refine HN.out.mono ?_
  rintro e w1 ⟨Ad, c, rfl, _, hb1⟩
  generalize askE l [W, A] = er at *
  go_wp2_with fail
  go_ret3
  exact ⟨rfl, hb1⟩

set_option maxRecDepth 100000 in
set_option maxHeartbeats 8000000 in
theorem Levels_ok (l : List Cl) (hw : ClWf l) (W A : Int) (hW : 0 ≤ W) (hA : 0 ≤ A) (hk : askE l [W, A] = 0) (v : Value) (w : World) (hS : ClAt w v l) :
    Calls Try.prog 26 #[v, .int .u64 W, .int .u64 A] w (LvR l W A w) := by
  obtain ⟨hl, hL, hasc, hx⟩ := ask_ok hw hk
  have hW1 := hx W (by simp)
  have HN := Lib.hid (Fill_ok l hw W A hW hA hk v w hS)
  obtain ⟨Ad, c, rfl, hc1, hc2, hR⟩ := hS
  unfold maxLen at hc2
  have HR := Lib.hid hR
  have HL := Lib.hid hL
  have HASC := Lib.hid hasc
  clear hk hx hR hL hasc
  go_enter Try.func26, Try.ntmps26
  go_wp2_with fail
  refine HN.out.mono ?_
  rintro e w1 ⟨v0, hu, A2, c2, rfl, ho, hb1⟩
  have HU := Lib.hid hu
  obtain ⟨ys, hys⟩ : ∃ ys, bump W v0 (lev l) (A - needs (lev l) v0) = ys := ⟨_, rfl⟩
  have hyl : ys.length = l.length := by rw [← hys, bump_len, lev_len]
  have hyr : ∀ y ∈ ys, 0 ≤ y ∧ y ≤ 1125899906842624 := by rw [← hys]; exact bump_ok HL.out hu.1 hu.2.1 hW1
  have hyu : ∀ (i : Nat) (c : Cl) (y : Int), l[i]? = some c → ys[i]? = some y → c.res ≤ y := by rw [← hys]; exact fun i c y h1 h2 => bump_up (lev_get h1) h2
  rw [hys] at ho ⊢
  have HY := Lib.hid hys
  have hSb := shUp_bd l ys (m := 1125899906842624) (fun c hc => (HL.out _ (List.mem_map.2 ⟨c, hc, rfl⟩)).1) (fun y hy => (hyr y hy).2)
  have hSl := shUp_len l ys
  have HG := hidI (fun i c y h1 h2 => got_up l ys HASC.out hyl hyu (i := i) (c := c) (y := y) h1 h2)
  generalize shUp l ys = S at *
  have hSA := SlAt.own ho
  have HSA := Lib.hid hSA
  have hS16 : S.length ≤ 16 := by omega
  have hcc : S.length ≤ c2 ∧ c2 ≤ 9223372036854775807 := by
    obtain ⟨A', c', e, h1, h2, _⟩ := hSA
    cases e
    unfold maxLen at h2
    exact ⟨h1, h2⟩
  obtain ⟨hc3, hc4⟩ := hcc
  have HSB := Lib.hid hSb
  have HYR := Lib.hid hyr
  have HYL := Lib.hid hyl
  have hBw := hb1
  clear hu ho hys hyl hyr hyu hSb hSl hSA hb1 HASC HN
  by_cases hz0 : l.length = 0
  · have HE : Hid (ys = []) := List.eq_nil_of_length_eq_zero (by rw [HYL.out, hz0])
    rw [hz0]
    clear hz0
    go_wp2_with fail
    go_ret3
    exact ⟨v0, HU.out, by rw [HY.out, HE.out]; rfl, hBw⟩
  · have hz1 : ((l.length : Int) == 0) = false := by rw [beq_eq_false_iff_ne]; omega
    clear hz0
    go_wp2_with fail
    go_loopw [6, 7, 31] (fun p q a wr => ∃ k : Nat, k ≤ l.length ∧ a = .int .i64 k ∧ p = .int .u64 (lo (ys.take k)) ∧ q = .int .u64 (top (ys.take k)) ∧ Below w1.heap.size w1 wr) (fun _ _ a _ => l.length - (intOf a).toNat)
    case atStart => exact ⟨0, by omega, rfl, rfl, rfl, Below.refl _ _⟩
    case round =>
      obtain ⟨k, hk, rfl, rfl, rfl, hB⟩ := hrel
      by_cases hlt : k < l.length
      · obtain ⟨x, hx⟩ : ∃ x, l[k]? = some x := ⟨_, List.getElem?_eq_getElem hlt⟩
        obtain ⟨y, hy⟩ : ∃ y, ys[k]? = some y := ⟨_, List.getElem?_eq_getElem (by rw [HYL.out]; exact hlt)⟩
        obtain ⟨b, o, rfl, hb, x0, x1, x2, x3⟩ := reads_fl4 cl4 (HR.out.keep (bnext hBw hB).size fun b o h => (bnext hBw hB).cell (p := ⟨b, o, none⟩) h) rfl hx (by rfl : x.cells = [_, _, _, _])
        have hi : (k : Int) < l.length := by omega
        have HYG := hidI (HG.out k x y hx hy)
        obtain ⟨hx0, hx1⟩ := HL.out x.res (List.mem_of_getElem? (lev_get hx))
        obtain ⟨hy0, hy1⟩ := HYR.out y (List.mem_of_getElem? hy)
        have hll := lo_rng (ys.take k) (m := 1125899906842624) (fun z hz => HYR.out z (List.mem_of_mem_take hz)) (by decide)
        have hhh := top_rng (ys.take k) (m := 1125899906842624) (fun z hz => HYR.out z (List.mem_of_mem_take hz)) (by decide)
        obtain ⟨hl0, hl1⟩ := hll
        obtain ⟨hh0, hh1⟩ := hhh
        have HLO := hidI (lo_snoc (ys.take k) y)
        have HHI := hidI (top_snoc (ys.take k) y)
        rw [← take_snoc' hy] at HLO HHI
        have HKE : Hid (ys.take k = [] ↔ k = 0) := hidI (by
          constructor
          · intro h
            have h2 : (ys.take k).length = 0 := by rw [h]; rfl
            rw [List.length_take, HYL.out] at h2
            omega
          · rintro rfl; rfl)
        clear hx hy
        generalize lo (ys.take k) = ll at *
        generalize top (ys.take k) = hh at *
        obtain ⟨xn, xr, xs, xo⟩ := x
        dsimp only at x0 x1 x2 x3 hx0 hx1 HYG
        go_wp2_with fail
        obtain ⟨wo, hwo⟩ : ∃ wo : World, wo = wr := ⟨_, rfl⟩
        subst hwo
        go_loopw [38] (fun a wx => ∃ j : Nat, j ≤ S.length ∧ a = .int .i64 j ∧ Blk wx wo.heap.size 27 #[.int .i64 xn, .int .u64 (xr + got xn (S.take j)), .bool xs, .bool xo] ∧ Below wo.heap.size wo wx) (fun a _ => S.length - (intOf a).toNat)
        case atStart => exact ⟨0, by omega, rfl, by rw [List.take_zero, got_nil, Int.add_zero]; exact Blk.new _ _ _, (Below.refl _ _).alloc (Nat.le_refl _) _⟩
        case round =>
          obtain ⟨j, hj, rfl, kb, hBx⟩ := hrel
          have hzx := hBx.size
          have hbl := kb.lt
          by_cases hjt : j < S.length
          · obtain ⟨s, hs⟩ : ∃ s, S[j]? = some s := ⟨_, List.getElem?_eq_getElem hjt⟩
            obtain ⟨A', c', e', _, _, hR'⟩ := HSA.out
            cases e'
            have hBB := bnext hB hBx
            obtain ⟨b', o', rfl, hb', s0, s1⟩ := reads_fl2 sh2 (hR'.keep hBB.size fun b o h => hBB.cell (p := ⟨b, o, none⟩) h) rfl hs (by rfl : s.cells = [_, _])
            have hj1 : (j : Int) < S.length := by omega
            have HTs : Hid (got xn (S.take (j + 1)) = got xn (S.take j) + if s.node = xn then s.bytes else 0) := hidI (by rw [take_snoc' hs, got_snoc])
            obtain ⟨hs0, hs1⟩ := HSB.out s (List.mem_of_getElem? hs)
            have hgr := got_rng xn (S.take j) (m := 1125899906842624) (fun z hz => HSB.out z (List.mem_of_mem_take hz)) (by decide)
            have hgm : ((S.take j).length : Int) * 1125899906842624 ≤ 16 * 1125899906842624 := Int.mul_le_mul_of_nonneg_right (by rw [List.length_take]; omega) (by decide)
            obtain ⟨hg0, hg1⟩ := hgr
            have hg2 : xr + got xn (S.take j) ≤ 36028797018963968 := by omega
            obtain ⟨d0, d1, d2, d3⟩ := kb.c4
            obtain ⟨f0, f1, f2, f3⟩ := kb.f4
            have KB := Lib.hid kb
            have hne : ¬ wo.heap.size = wr.heap.size := by omega
            clear hs hR' kb hg1 hgm
            generalize got xn (S.take j) = gg at *
            by_cases hn : s.node = xn
            · have HT2 : Hid (got xn (S.take (j + 1)) = gg + s.bytes) := hidI (by rw [HTs.out, if_pos hn])
              have t1 : (s.node == xn) = true := by rw [beq_iff_eq]; exact hn
              clear hn HTs
              go_wp2_with fail
              go_roundw
              case rel => exact ⟨j + 1, by omega, by go_num, by rw [HT2.out, ← Int.add_assoc]; first | exact (KB.out.set 1 (.int .u64 (xr + gg + s.bytes))).alloc _ | (have := (KB.out.alloc (.cells #[.int .i64 s.node, .int .u64 s.bytes] 58)).set 1 (.int .u64 (xr + gg + s.bytes)); simpa using this), by first | exact bal (bset hBx (Nat.le_refl _) _) _ | exact bset (bal hBx _) (Nat.le_refl _) _⟩
              case measure => simp [intOf]; omega
            · have HT2 : Hid (got xn (S.take (j + 1)) = gg) := hidI (by rw [HTs.out, if_neg hn]; simp)
              have t1 : (s.node == xn) = false := by rw [beq_eq_false_iff_ne]; exact hn
              clear hn HTs
              go_wp2_with fail
              go_roundw
              case rel => exact ⟨j + 1, by omega, by go_num, by rw [HT2.out]; exact KB.out.alloc _, bal hBx _⟩
              case measure => simp [intOf]; omega
          · obtain rfl : j = S.length := by omega
            rw [List.take_of_length_le (Nat.le_refl _), HYG.out] at kb
            obtain ⟨d0, d1, d2, d3⟩ := kb.c4
            obtain ⟨f0, f1, f2, f3⟩ := kb.f4
            have hBB := bnext hB hBx
            clear kb
            by_cases hk0 : k = 0
            · have HK0 := Lib.hid (HKE.out.2 hk0)
              have t0 : ((k : Int) == 0) = true := by rw [beq_iff_eq]; omega
              clear hk0
              by_cases c3 : hh < y
              · go_wp2_with fail
                go_roundw
                case rel => exact ⟨k + 1, by omega, by go_num, by rw [HLO.out, if_pos HK0.out], by rw [HHI.out, if_pos c3], hBB⟩
                case measure => simp [intOf]; omega
              · go_wp2_with fail
                all_goals go_roundw
                case rel => exact ⟨k + 1, by omega, by go_num, by rw [HLO.out, if_pos HK0.out], by rw [HHI.out, if_neg c3], hBB⟩
                case measure => simp [intOf]; omega
            · have HK0 : Hid (¬ ys.take k = []) := hidI (fun h => hk0 (HKE.out.1 h))
              have t0 : ((k : Int) == 0) = false := by rw [beq_eq_false_iff_ne]; omega
              clear hk0
              by_cases c2 : y < ll
              · by_cases c3 : hh < y
                · go_wp2_with fail
                  go_roundw
                  case rel => exact ⟨k + 1, by omega, by go_num, by rw [HLO.out, if_neg HK0.out, if_pos c2], by rw [HHI.out, if_pos c3], hBB⟩
                  case measure => simp [intOf]; omega
                · go_wp2_with fail
                  all_goals go_roundw
                  case rel => exact ⟨k + 1, by omega, by go_num, by rw [HLO.out, if_neg HK0.out, if_pos c2], by rw [HHI.out, if_neg c3], hBB⟩
                  case measure => simp [intOf]; omega
              · by_cases c3 : hh < y
                · go_wp2_with fail
                  go_roundw
                  case rel => exact ⟨k + 1, by omega, by go_num, by rw [HLO.out, if_neg HK0.out, if_neg c2], by rw [HHI.out, if_pos c3], hBB⟩
                  case measure => simp [intOf]; omega
                · go_wp2_with fail
                  all_goals go_roundw
                  case rel => exact ⟨k + 1, by omega, by go_num, by rw [HLO.out, if_neg HK0.out, if_neg c2], by rw [HHI.out, if_neg c3], hBB⟩
                  case measure => simp [intOf]; omega
      · obtain rfl : k = l.length := by omega
        have HT : Hid (ys.take l.length = ys) := hidI (List.take_of_length_le (by rw [HYL.out]; exact Nat.le_refl _))
        go_wp2_with fail
        go_ret3
        exact ⟨v0, HU.out, by rw [HY.out, HT.out]; rfl, bnext hBw hB⟩
end Go.Proofs.Ytlpdebbedoibiaa
