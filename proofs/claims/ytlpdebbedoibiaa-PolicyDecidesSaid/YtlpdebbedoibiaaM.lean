/- Contracts: grants and reclaims. -/
import Derived.Test.YtlpdebbedoibiaaK
namespace Go.Proofs.Ytlpdebbedoibiaa
open Go.RowKit
set_option linter.unusedVariables false
set_option linter.unusedSimpArgs false

/-- by how much the first number is above the second one -/
def over (a b : Int) : Int := mx a b - b
theorem over_bd {a b : Int} (ha : 0 ≤ a ∧ a ≤ 1125899906842624) (hb : 0 ≤ b) : 0 ≤ over a b ∧ over a b ≤ 1125899906842624 := by
  unfold over mx; split <;> omega
def act (l : List Cl) : List Cl := l.filter Cl.act
theorem act_len (l : List Cl) : (act l).length ≤ l.length := List.length_filter_le _ _
theorem act_lev {l : List Cl} (h : LevOk (lev l)) : LevOk (lev (act l)) := by
  intro x hx
  obtain ⟨c, hc, rfl⟩ := List.mem_map.1 hx
  exact h _ (List.mem_map.2 ⟨c, (List.mem_filter.1 hc).1, rfl⟩)

set_option maxHeartbeats 2000000 in
theorem Grants_ok (l : List Cl) (hw : ClWf l) (F L W : Int) (hF : 0 ≤ F) (hL0 : 0 ≤ L) (hW : 0 ≤ W) (hk : askE l [F, L, W] = 0) (v : Value) (w : World) (hS : ClAt w v l) :
    Calls Try.prog 17 #[v, .int .u64 F, .int .u64 L, .int .u64 W] w (FillR (act l) W (over F L) w) := by
  obtain ⟨hl, hL, _, hx⟩ := ask_ok hw hk
  have hF1 := hx F (by simp)
  have hL1 := hx L (by simp)
  have hW1 := hx W (by simp)
  have hv := over_bd ⟨hF, hF1⟩ hL0
  have hal := act_len l
  have HS := Lib.hid hS
  have HK := Lib.hid hk
  have HL := Lib.hid (act_lev hL)
  have hm : 0 ≤ mx F L ∧ mx F L ≤ 1125899906842624 ∧ L ≤ mx F L := by unfold mx; split <;> omega
  obtain ⟨M, hM⟩ : ∃ M, (if F < L then L else F) = M := ⟨_, rfl⟩
  have hMv : Hid (over F L = M - L) := hidI (by rw [← hM]; rfl)
  have hM0 : 0 ≤ M ∧ M ≤ 1125899906842624 ∧ L ≤ M := by rw [← hM]; exact hm
  obtain ⟨hM0, hM1, hM2⟩ := hM0
  clear hS hk hx hL hv hm
  go_enter Try.func17, Try.ntmps17
  go_wp2_with fail
  refine (asked_any l [F, L, W] v _ _ (HS.out.alloc _) (lit3 w _ F L W)).mono ?_
  rintro e w1 ⟨rfl, hb1⟩
  rw [HK.out]
  have hB1 : Below w.heap.size w w1 := bnext (bal (Below.refl _ _) _) hb1
  have HS1 := Lib.hid ((HS.out.alloc _).below hb1)
  go_wp2_with fail
  refine (active_any l v _ HS1.out (by omega)).mono ?_
  rintro e w2 ⟨A2, c2, rfl, ho2, hb2⟩
  have HA : Hid (ClAt w2 (.slice A2 (List.filter Cl.act l).length c2) (act l)) := hidI (SlAt.own ho2)
  have hB2 := bnext hB1 hb2
  clear ho2 hb2 hb1
  go_wp2_with fail
  refine (fill_any (act l) (by omega) HL.out W (M - L) hW hW1 (by omega) (by omega) _ _ HA.out).mono ?_
  rintro e w3 ⟨v0, hu, A', c', rfl, ho, hb3⟩
  have HU := Lib.hid hu
  have HO := Lib.hid ho
  clear hu ho
  go_wp2_with fail
  go_ret2
  exact ⟨v0, by rw [hMv.out]; exact HU.out, A', c', by rw [hMv.out]; rfl, by rw [hMv.out]; exact own_mono HO.out hB2.size, bnext hB2 hb3⟩
set_option maxHeartbeats 1000000 in
theorem Grants_no (l : List Cl) (F L W : Int) (hk : askE l [F, L, W] ≠ 0) (v : Value) (w : World) (hS : ClAt w v l) :
    Calls Try.prog 17 #[v, .int .u64 F, .int .u64 L, .int .u64 W] w (RetShE [] (askE l [F, L, W]) w) := by
  have HS := Lib.hid hS
  have hne : (askE l [F, L, W] != 0) = true := by rw [bne_iff_ne]; exact hk
  clear hS hk
  go_enter Try.func17, Try.ntmps17
  go_wp2_with fail
  refine (asked_any l [F, L, W] v _ _ (HS.out.alloc _) (lit3 w _ F L W)).mono ?_
  rintro e w1 ⟨rfl, hb1⟩
  have hB1 : Below w.heap.size w w1 := bnext (bal (Below.refl _ _) _) hb1
  generalize askE l [F, L, W] = er at *
  go_wp2_with fail
  go_ret2
  exact ⟨none, 0, rfl, World.ownsRow_nil _ _ _ _, hB1⟩
set_option maxHeartbeats 2000000 in
theorem Reclaims_ok (l : List Cl) (hw : ClWf l) (F L : Int) (hF : 0 ≤ F) (hL0 : 0 ≤ L) (hk : askE l [F, L] = 0) (v : Value) (w : World) (hS : ClAt w v l) :
    Calls Try.prog 19 #[v, .int .u64 F, .int .u64 L] w (LowR (act l) (over L F) w) := by
  obtain ⟨hl, hL, _, hx⟩ := ask_ok hw hk
  have hF1 := hx F (by simp)
  have hL1 := hx L (by simp)
  have hal := act_len l
  have HS := Lib.hid hS
  have HK := Lib.hid hk
  have HL := Lib.hid (act_lev hL)
  obtain ⟨M, hM⟩ : ∃ M, (if F < L then L else F) = M := ⟨_, rfl⟩
  have hMv : Hid (over L F = M - F) := hidI (by rw [← hM]; unfold over mx; split <;> split <;> omega)
  have hM0 : 0 ≤ M ∧ M ≤ 1125899906842624 ∧ F ≤ M := by rw [← hM]; split <;> omega
  obtain ⟨hM0, hM1, hM2⟩ := hM0
  clear hS hk hx hL
  go_enter Try.func19, Try.ntmps19
  go_wp2_with fail
  refine (asked_any l [F, L] v _ _ (HS.out.alloc _) (lit2 w _ F L)).mono ?_
  rintro e w1 ⟨rfl, hb1⟩
  rw [HK.out]
  have hB1 : Below w.heap.size w w1 := bnext (bal (Below.refl _ _) _) hb1
  have HS1 := Lib.hid ((HS.out.alloc _).below hb1)
  go_wp2_with fail
  refine (active_any l v _ HS1.out (by omega)).mono ?_
  rintro e w2 ⟨A2, c2, rfl, ho2, hb2⟩
  have HA : Hid (ClAt w2 (.slice A2 (List.filter Cl.act l).length c2) (act l)) := hidI (SlAt.own ho2)
  have hB2 := bnext hB1 hb2
  clear ho2 hb2 hb1
  go_wp2_with fail
  refine (lower_any (act l) (by omega) HL.out (M - F) (by omega) (by omega) _ _ HA.out).mono ?_
  rintro e w3 ⟨v0, hu, A', c', rfl, ho, hb3⟩
  have HU := Lib.hid hu
  have HO := Lib.hid ho
  clear hu ho
  go_wp2_with fail
  go_ret2
  exact ⟨v0, by rw [hMv.out]; exact HU.out, A', c', by rw [hMv.out]; rfl, by rw [hMv.out]; exact own_mono HO.out hB2.size, bnext hB2 hb3⟩
set_option maxHeartbeats 1000000 in
theorem Reclaims_no (l : List Cl) (F L : Int) (hk : askE l [F, L] ≠ 0) (v : Value) (w : World) (hS : ClAt w v l) :
    Calls Try.prog 19 #[v, .int .u64 F, .int .u64 L] w (RetShE [] (askE l [F, L]) w) := by
  have HS := Lib.hid hS
  have hne : (askE l [F, L] != 0) = true := by rw [bne_iff_ne]; exact hk
  clear hS hk
  go_enter Try.func19, Try.ntmps19
  go_wp2_with fail
  refine (asked_any l [F, L] v _ _ (HS.out.alloc _) (lit2 w _ F L)).mono ?_
  rintro e w1 ⟨rfl, hb1⟩
  have hB1 : Below w.heap.size w w1 := bnext (bal (Below.refl _ _) _) hb1
  generalize askE l [F, L] = er at *
  go_wp2_with fail
  go_ret2
  exact ⟨none, 0, rfl, World.ownsRow_nil _ _ _ _, hB1⟩
end Go.Proofs.Ytlpdebbedoibiaa
