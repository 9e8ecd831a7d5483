/- Contract: wants out of numbers. -/
import Derived.Test.YthkfdfkjenhjmaaU
import Derived.Test.YthkfdfkjenhjmaaM
import Derived.Test.YthkfdfkjenhjmaaApp3
namespace Go.Proofs.Ythkfdfkjenhjmaa
open Go.RowKit
set_option linter.unusedVariables false
set_option linter.unusedSimpArgs false

/-- the want that a number stands for -/
def mkW (x : Int) : Wt := ⟨(x % 1048576) % 3, 1 + ((x % 1048576) / 3) % 1200⟩
theorem mkW_ok (x : Int) : wtBad (mkW x) = false := by
  unfold wtBad mkW
  simp
  omega
def RetWs (L : List Wt) (w : World) (e : Ending) (w' : World) : Prop := ∃ v, e = .returned v ∧ WtAt w' v L ∧ Below w.heap.size w w'
theorem infoWt : (Try.prog.info? 46).map (fun i => (i.zero, i.size, i.bytes)) = some (some (.agg #[.int .i64 0, .int .i64 0]), 2, 16) := by kernel_rfl
theorem wt_one : ∀ x : Wt, ∀ u ∈ x.cells, u.oneCell' = true := by intro x u hu; simp [Wt.cells] at hu; rcases hu with rfl | rfl <;> rfl
def OwnWt (w wr : World) (s : Value) (L : List Wt) : Prop := wr.ownsRow w.heap.size 46 2 s L.length (fl Wt.cells L)

set_option maxRecDepth 100000 in
set_option maxHeartbeats 4000000 in
theorem wants_any (xs : List Int) (v : Value) (w : World) (hV : IntAt w v xs) :
    Calls Try.prog 34 #[v] w (RetWs ((xs.take 30).map mkW) w) := by
  obtain ⟨A, c, rfl, _, hc2, hR⟩ := hV
  unfold maxLen at hc2
  have HR := Lib.hid hR
  clear hR
  go_enter Try.func34, Try.ntmps34
  go_wp2_with fail
  go_loopw [3, 4] (fun s a wr => ∃ k : Nat, k ≤ xs.length ∧ k ≤ 30 ∧ a = .int .i64 k ∧ OwnWt w wr s ((xs.take k).map mkW) ∧ Below w.heap.size w wr) (fun _ a _ => 30 - (intOf a).toNat)
  case atStart => exact ⟨0, by omega, by omega, rfl, World.ownsRow_nil _ _ _ _, Below.refl _ _⟩
  case round =>
    obtain ⟨k, hk, hk30, rfl, hO, hB⟩ := hrel
    obtain ⟨L, hL⟩ : ∃ L, L = (xs.take k).map mkW := ⟨_, rfl⟩
    have lk : L.length ≤ 30 := by rw [hL, List.length_map, List.length_take]; omega
    have HL := Lib.hid hL
    rw [← hL] at hO
    clear hL
    obtain ⟨A1, c1, rfl, _⟩ := SlAt.own hO
    have HO := Lib.hid hO
    clear hO
    by_cases hlt : k < xs.length
    · have hi : (k : Int) < xs.length := by omega
      by_cases h30 : k < 30
      · have hi30 : (k : Int) < 30 := by omega
        obtain ⟨x, hx⟩ : ∃ x, xs[k]? = some x := ⟨_, List.getElem?_eq_getElem hlt⟩
        obtain ⟨b, o, rfl, hb, d0⟩ := reads_at (HR.out.keep hB.size fun b o h => hB.cell (p := ⟨b, o, none⟩) h) (ints_get hx)
        obtain ⟨m, hm⟩ : ∃ m, x % 1048576 = m := ⟨_, rfl⟩
        have hm0 : 0 ≤ m ∧ m < 1048576 := by omega
        have HM := Lib.hid hm
        obtain ⟨y, hy⟩ : ∃ y, m.tmod 3 = y := ⟨_, rfl⟩
        obtain ⟨q, hq⟩ : ∃ q, m.tdiv 3 = q := ⟨_, rfl⟩
        have hq0 : 0 ≤ q ∧ q ≤ 1048576 := by rw [← hq, Int.tdiv_eq_ediv_of_nonneg hm0.1]; omega
        obtain ⟨z, hz⟩ : ∃ z, q.tmod 1200 = z := ⟨_, rfl⟩
        have hz0 : 0 ≤ z ∧ z < 1200 := by rw [← hz, Int.tmod_eq_emod_of_nonneg hq0.1]; omega
        have HK : Hid (mkW x = ⟨y, 1 + z⟩) := Lib.hid (by unfold mkW; rw [hm, ← hy, ← hz, ← hq, Int.tmod_eq_emod_of_nonneg hm0.1, Int.tdiv_eq_ediv_of_nonneg hm0.1, Int.tmod_eq_emod_of_nonneg (by omega)])
        have HT : Hid ((xs.take (k + 1)).map mkW = (xs.take k).map mkW ++ [mkW x]) := Lib.hid (by rw [List.take_add_one, hx]; simp)
        clear hm hx
        go_wp2_with fail
        refine (Mod_any _ _ _ (by decide) (by decide)).mono ?_
        rintro e w1 ⟨rfl, rfl⟩
        rw [HM.out]
        have hzw : IntKind.i64.wrap (1 + z) = 1 + z := IntWalk.i64_in _ (by omega)
        have hsz := hB.size
        have e0 := (Blk.new wr 46 #[.int .i64 y, .int .i64 (1 + z)]).cell 0
        have e1 := (Blk.new wr 46 #[.int .i64 y, .int .i64 (1 + z)]).cell 1
        have HO1 := Lib.hid (World.ownsRow.alloc HO.out (.cells #[.int .i64 y, .int .i64 (1 + z)] 46))
        go_wp2_with (first
          | (at_builtin; refine wpList_app1 (f := Wt.cells) rfl _ _ 42 rfl w.heap.size 46 2 16 infoWt rfl (by decide) Try.underlying42 wt2 wt_one wr w w.heap.size ⟨y, 1 + z⟩ L _ (by rfl) (by rfl) HO.out hB (Nat.le_refl _) hsz (by omega) (by unfold maxLen; omega) ?_; intro A2 c2 w2 hown hB2 _; have HO2 := Lib.hid hown; clear hown))
        go_roundw
        case rel => exact ⟨k + 1, by omega, by omega, by go_num, by rw [HT.out, HK.out, ← HL.out]; exact HO2.out, hB2⟩
        case measure => simp [intOf]; omega
      · obtain rfl : k = 30 := by omega
        go_wp2_with fail
        go_ret
        refine ⟨.slice A1 L.length c1, rfl, ?_, hB⟩
        have h := SlAt.own HO.out
        show SlAt _ _ _ _ _
        rw [← HL.out]; exact h
    · obtain rfl : k = xs.length := by omega
      have HT : Hid (xs.take 30 = xs.take xs.length) := Lib.hid (by rw [List.take_of_length_le hk30, List.take_of_length_le (Nat.le_refl _)])
      go_wp2_with fail
      go_ret
      refine ⟨.slice A1 L.length c1, rfl, ?_, hB⟩
      have h := SlAt.own HO.out
      show SlAt _ _ _ _ _
      rw [HT.out, ← HL.out]; exact h
end Go.Proofs.Ythkfdfkjenhjmaa
