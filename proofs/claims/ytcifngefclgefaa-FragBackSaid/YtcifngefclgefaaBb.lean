/- The law: fragments in any order join to the message. -/
import Derived.Test.YtcifngefclgefaaBa
import Derived.Test.YtcifngefclgefaaY
import Derived.Deep.AppendLies
namespace Go.Proofs.Ytcifngefclgefaa
open Go.RowKit
set_option linter.unusedVariables false
set_option linter.unusedSimpArgs false

def mdN (a : Int) (n : Nat) : Nat := (a % (n : Int)).toNat
theorem mdN_lt (a : Int) {n : Nat} (hn : 0 < n) : mdN a n < n := by
  have h1 := Int.emod_nonneg a (b := (n : Int)) (by omega)
  have h2 := Int.emod_lt_of_pos a (b := (n : Int)) (by omega)
  unfold mdN; omega
theorem ModN_any (a : Int) (n : Nat) (w : World) (hn : 0 < n) (hn2 : n ≤ 1000000) :
    Calls Try.prog 31 #[.int .i64 a, .int .i64 (n : Int)] w fun e w' => e = .returned (.int .i64 ((mdN a n : Nat) : Int)) ∧ w' = w := by
  refine (Mod_any a n w (by omega) (by omega)).mono ?_
  rintro e w' ⟨rfl, rfl⟩
  have h1 := Int.emod_nonneg a (b := (n : Int)) (by omega)
  exact ⟨ret_int (by unfold mdN; omega), rfl⟩
theorem own_frozen {w : World} {base g n c size : Nat} {e : TypeId} {xs : List Value} (h : w.ownsRow base e size (.slice (some ⟨g, 0, none⟩) n c) n xs) (i : Nat) : w.frozen? ⟨g, i, none⟩ = false := by
  rcases h.2 with ⟨e, _⟩ | ⟨g', cap, cur, e, _, hh, _⟩
  · cases e
  · cases e
    simp [World.frozen?, hh]
/-- the cells of one element of a row -/
theorem own_bn {w : World} {base g n c : Nat} {e : TypeId} {L : List Bn} (h : w.ownsRow base e 9 (.slice (some ⟨g, 0, none⟩) n c) n (fl Bn.cells L)) (hn : n = L.length) {i : Nat} (hi : i < L.length) :
    w.cell? ⟨g, i * 9, none⟩ = some (.int .i64 (bnAt L i).node) ∧ w.cell? ⟨g, i * 9 + 1, none⟩ = some (.int .u64 (bnAt L i).seq) ∧ w.cell? ⟨g, i * 9 + 2, none⟩ = some (.int .i64 (bnAt L i).off) ∧ w.cell? ⟨g, i * 9 + 3, none⟩ = some (.int .i64 (bnAt L i).dest) ∧ w.cell? ⟨g, i * 9 + 4, none⟩ = some (.int .i64 (bnAt L i).prio) ∧ w.cell? ⟨g, i * 9 + 5, none⟩ = some (.int .i64 (bnAt L i).born) ∧ w.cell? ⟨g, i * 9 + 6, none⟩ = some (.int .i64 (bnAt L i).life) ∧ w.cell? ⟨g, i * 9 + 7, none⟩ = some (.int .i64 (bnAt L i).total) ∧ w.cell? ⟨g, i * 9 + 8, none⟩ = some (.string (bnAt L i).data) := by
  obtain ⟨_, _, e, _, _, hR⟩ := SlAt.own h
  cases e
  obtain ⟨b, o, e, _, h1⟩ := reads_bn hR hn (bnAt_lt hi)
  cases e
  simp only [Nat.zero_add] at h1
  exact h1

/-- an element stored -/
abbrev put9 (w : World) (g i : Nat) (y : Bn) : World := ((((((((w.setCell ⟨g, i * 9, none⟩ (.int .i64 y.node)).setCell ⟨g, i * 9 + 1, none⟩ (.int .u64 y.seq)).setCell ⟨g, i * 9 + 2, none⟩ (.int .i64 y.off)).setCell ⟨g, i * 9 + 3, none⟩ (.int .i64 y.dest)).setCell ⟨g, i * 9 + 4, none⟩ (.int .i64 y.prio)).setCell ⟨g, i * 9 + 5, none⟩ (.int .i64 y.born)).setCell ⟨g, i * 9 + 6, none⟩ (.int .i64 y.life)).setCell ⟨g, i * 9 + 7, none⟩ (.int .i64 y.total)).setCell ⟨g, i * 9 + 8, none⟩ (.string y.data)
theorem below_put9 {w w' : World} (h : Below w.heap.size w w') {g : Nat} (hg : w.heap.size ≤ g) (i : Nat) (y : Bn) : Below w.heap.size w (put9 w' g i y) := by
  unfold put9
  repeat (first | with_reducible exact h | with_reducible refine bset ?_ hg _)
theorem cell_put9 {w' : World} {g b o : Nat} (hg : ¬ b = g) (i : Nat) (y : Bn) : (put9 w' g i y).cell? ⟨b, o, none⟩ = w'.cell? ⟨b, o, none⟩ := by
  unfold put9
  have h : ∀ (W : World) (j : Nat) (u : Value), (W.setCell ⟨g, j, none⟩ u).cell? ⟨b, o, none⟩ = W.cell? ⟨b, o, none⟩ := fun W j u => World.cell?_setCell_other _ _ _ _ (fun e => hg (by injection e with e1 _ _; exact e1.symm))
  rw [h, h, h, h, h, h, h, h, h]
theorem size_put9 (w' : World) (g i : Nat) (y : Bn) : (put9 w' g i y).heap.size = w'.heap.size := by
  unfold put9
  simp only [World.size_setCell]

set_option maxRecDepth 100000 in
set_option maxHeartbeats 8000000 in
theorem FragBack_t (l : List Int) (x : Int) (m : List Int) (v u : Value) (w : World) (hV : IntAt w v l) (hU : IntAt w u m) : Calls Try.prog 6 #[v, .int .i64 x, u] w (RetB true w) := by
  have HV := Lib.hid hV
  obtain ⟨A, c, rfl, _, _, hR⟩ := hV
  clear hR
  obtain ⟨A', c', rfl, _, hc2, hR'⟩ := hU
  have HR' := Lib.hid hR'
  unfold maxLen at hc2
  clear hR'
  have hx := szN_b x
  have CU : Hid (∀ w v, IntAt w v l → Calls Try.prog 30 #[v, .int .i64 x] w (RetBBo (fragsOf hd0 (textOf l) (szN x)) true w)) := Lib.hid (fun w v h => cut_own l x v w h)
  have hfew : (fragsOf hd0 (textOf l) (szN x)).length ≤ 200 := by
    rw [frags_len]; exact Nat.le_trans (Nat.div_le_self _ _) (by have := text_size l; omega)
  have hpos : 0 < (fragsOf hd0 (textOf l) (szN x)).length := by
    rw [frags_len]; exact frags_n0 (by have := text_size l; omega) (by omega)
  have MJ : Hid (∀ L, Mix (fragsOf hd0 (textOf l) (szN x)) L → joinOf L = (textOf l, 0)) := Lib.hid (fun L h => by
    obtain ⟨a1, a2, a3, a4⟩ := text_one l _ hx
    exact mix_join a1 a2 a3 a4 h)
  have TX : Hid (∀ w v, IntAt w v l → Calls Try.prog 32 #[v] w (RetS (textOf l) w)) := Lib.hid (fun w v h => text_any l v w h)
  obtain ⟨l0, hl0⟩ : ∃ l0, fragsOf hd0 (textOf l) (szN x) = l0 := ⟨_, rfl⟩
  rw [hl0] at CU hfew hpos MJ
  obtain ⟨tx, htx⟩ : ∃ tx, textOf l = tx := ⟨_, rfl⟩
  rw [htx] at MJ TX
  clear hx hl0 htx
  go_enter Try.func6, Try.ntmps6
  go_wp2_with fail
  refine (FragKnown_t _).mono ?_
  rintro e w1 ⟨rfl, hb1⟩
  have hB1 := hb1
  have V1 := Lib.hid (SlAt.below HV.out hb1)
  clear hb1
  go_wp2_with fail
  refine (CU.out _ _ V1.out).mono ?_
  rintro e w2 ⟨v2, rfl, hv2, hb2⟩
  obtain ⟨gA, cA, e, hgA0, hgA1⟩ := World.ownsRow.form hv2 (by omega)
  subst e
  have hB2 := bnext hB1 hb2
  have hz1 := hB1.size
  have hz2 := hb2.size
  obtain ⟨B0, hB0⟩ : ∃ B0, w1.heap.size = B0 := ⟨_, rfl⟩
  rw [hB0] at hv2 hz1 hz2 hgA0
  have O2 := Lib.hid hv2
  have HB2 := Lib.hid hB2
  clear hb2 hB1 V1 CU hv2 hB0 hB2
  go_wp2_with fail
  go_loopw [8, 10] (fun s8 s10 wr => ∃ (k : Nat) (L : List Bn), k ≤ m.length ∧ k ≤ 40 ∧ s10 = .int .i64 k ∧ wr.ownsRow B0 26 9 s8 L.length (fl Bn.cells L) ∧ Mix l0 L ∧ 0 < L.length ∧ L.length ≤ l0.length + k ∧ Below w.heap.size w wr ∧ B0 ≤ wr.heap.size) (fun _ s10 _ => 40 - (intOf s10).toNat)
  case atStart => exact ⟨0, l0, by omega, by omega, rfl, O2.out, Mix.refl _, by omega, by omega, HB2.out, hz2⟩
  case round =>
    obtain ⟨k, L, hk, hk40, rfl, hO, hM, hL0, hLl, hB, hzB⟩ := hrel
    obtain ⟨wy, rfl⟩ : ∃ wy : World, wy = wr := ⟨_, rfl⟩
    obtain ⟨g, cg, e, hg0, hg1⟩ := World.ownsRow.form hO hL0
    subst e
    have HO := Lib.hid hO
    have HM := Lib.hid hM
    have HB := Lib.hid hB
    clear hO hM hB
    by_cases hlt : k < m.length
    · by_cases h40 : k < 40
      · obtain ⟨y, hy⟩ : ∃ y, m[k]? = some y := ⟨_, List.getElem?_eq_getElem hlt⟩
        obtain ⟨b, o, rfl, hb, hd⟩ := reads_fl one11 HR'.out rfl hy
        have d0 := (HB.out.cell (p := ⟨b, o + k * 1, none⟩) hb).trans (hd 0 _ rfl)
        simp only [Nat.mul_one] at d0
        have hki : (k : Int) < m.length := by omega
        have h40i : (k : Int) < 40 := by omega
        have hk0 : (0 : Int) ≤ k := by omega
        have hbg : ¬ b = g := by omega
        have hgb : ¬ g = b := by omega
        obtain ⟨ia, hia⟩ : ∃ ia, mdN y L.length = ia := ⟨_, rfl⟩
        obtain ⟨ib, hib⟩ : ∃ ib, mdN (wrap64 (y.tdiv 200)) L.length = ib := ⟨_, rfl⟩
        have hla : ia < L.length := by rw [← hia]; exact mdN_lt _ hL0
        have hlb : ib < L.length := by rw [← hib]; exact mdN_lt _ hL0
        have M1 : Hid (∀ w, Calls Try.prog 31 #[.int .i64 y, .int .i64 (L.length : Int)] w fun e w' => e = .returned (.int .i64 (ia : Int)) ∧ w' = w) := Lib.hid (fun w => by rw [← hia]; exact ModN_any y L.length w hL0 (by omega))
        have M2 : Hid (∀ w, Calls Try.prog 31 #[.int .i64 (wrap64 (y.tdiv 200)), .int .i64 (L.length : Int)] w fun e w' => e = .returned (.int .i64 (ib : Int)) ∧ w' = w) := Lib.hid (fun w => by rw [← hib]; exact ModN_any _ L.length w hL0 (by omega))
        clear hy hd hia hib
        go_upto_region 8 with fail
        go_quiet ((first | (go_at_call 31; (with_reducible exact Calls.quiet_of_same (M1.out _))) | (go_at_call 31; (with_reducible exact Calls.quiet_of_same (M2.out _)))))
        go_upto_region 9 with fail
        have hlai : (ia : Int) < L.length := by omega
        have hlbi : (ib : Int) < L.length := by omega
        have hia0 : (0 : Int) ≤ ia := by omega
        have hib0 : (0 : Int) ≤ ib := by omega
        have HLA := Lib.hid hla
        have HLB := Lib.hid hlb
        have f : ∀ i, wy.frozen? ⟨g, i, none⟩ = false := fun i => own_frozen HO.out i
        have hwz : w.heap.size ≤ g := by omega
        go_cut [] (fun wx => wx.ownsRow B0 26 9 (.slice (some ⟨g, 0, none⟩) L.length cg) L.length (fl Bn.cells (swp L ia ib)) ∧ Below w.heap.size w wx ∧ wx.cell? ⟨b, o + k, none⟩ = some (.int .i64 y) ∧ wx.heap.size = wy.heap.size)
        case first =>
          obtain ⟨xa, hxa⟩ : ∃ xa, bnAt L ia = xa := ⟨_, rfl⟩
          obtain ⟨xb, hxb⟩ : ∃ xb, bnAt L ib = xb := ⟨_, rfl⟩
          have OWN : Hid (∀ n, (put9 (put9 (wy.drewN n) g ia xb) g ib xa).ownsRow B0 26 9 (.slice (some ⟨g, 0, none⟩) L.length cg) L.length (fl Bn.cells (swp L ia ib))) := Lib.hid (fun n => by
            have h1 := own_put9 (w := wy.drewN n) HO.out (bnAt_lt HLA.out) xb
            have h2 := own_put9 h1 (i := ib) (x := bnAt (L.set ia xb) ib) (bnAt_lt (by rw [List.length_set]; exact HLB.out)) xa
            rw [← hxa, ← hxb] at h2
            unfold swp
            rw [← hxa, ← hxb]
            exact h2)
          have OWB : Hid (∀ n, Below w.heap.size w (put9 (put9 (wy.drewN n) g ia xb) g ib xa)) := Lib.hid (fun n => below_put9 (below_put9 (below_drewN HB.out n) hwz ia xb) hwz ib xa)
          obtain ⟨p0, p1, p2, p3, p4, p5, p6, p7, p8⟩ := own_bn HO.out rfl HLA.out
          obtain ⟨q0, q1, q2, q3, q4, q5, q6, q7, q8⟩ := own_bn HO.out rfl HLB.out
          rw [hxa] at p0 p1 p2 p3 p4 p5 p6 p7 p8
          rw [hxb] at q0 q1 q2 q3 q4 q5 q6 q7 q8
          by_cases hab : ia = ib
          · have e1 : xb = xa := by rw [← hxa, ← hxb, hab]
            subst e1
            subst hab
            clear hxa hxb q0 q1 q2 q3 q4 q5 q6 q7 q8 hlb
            go_region
            all_goals
              go_wp2_with fail
              go_meet
              exact ⟨OWN.out (nq + 1), OWB.out (nq + 1), (cell_put9 hbg ia xb).trans ((cell_put9 hbg ia xb).trans d0), (size_put9 _ g ia xb).trans (size_put9 _ g ia xb)⟩
          · clear hxa hxb hla hlb
            have n0 : ¬ ib = ia := fun h => hab h.symm
            have a1 : ∀ d, 1 ≤ d → d ≤ 8 → ¬ ia * 9 = ib * 9 + d := by intro d h1 h2; omega
            have a2 : ∀ d, 1 ≤ d → d ≤ 8 → ¬ ia * 9 + d = ib * 9 := by intro d h1 h2; omega
            have A1 := a1 1 (by decide) (by decide)
            have A2 := a1 2 (by decide) (by decide)
            have A3 := a1 3 (by decide) (by decide)
            have A4 := a1 4 (by decide) (by decide)
            have A5 := a1 5 (by decide) (by decide)
            have A6 := a1 6 (by decide) (by decide)
            have A7 := a1 7 (by decide) (by decide)
            have A8 := a1 8 (by decide) (by decide)
            have B1 := a2 1 (by decide) (by decide)
            have B2 := a2 2 (by decide) (by decide)
            have B3 := a2 3 (by decide) (by decide)
            have B4 := a2 4 (by decide) (by decide)
            have B5 := a2 5 (by decide) (by decide)
            have B6 := a2 6 (by decide) (by decide)
            have B7 := a2 7 (by decide) (by decide)
            have B8 := a2 8 (by decide) (by decide)
            clear a1 a2
            go_region
            all_goals
              go_wp2_with fail
              go_meet
              exact ⟨OWN.out (nq + 1), OWB.out (nq + 1), (cell_put9 hbg ib xa).trans ((cell_put9 hbg ia xb).trans d0), (size_put9 _ g ib xa).trans (size_put9 _ g ia xb)⟩
        case rest =>
          obtain ⟨hO9, hB9, d9, hz9⟩ := hcut
          have HO9 := Lib.hid hO9
          have HB9 := Lib.hid hB9
          clear hO9 hB9 f d0 M1 M2 HO
          obtain ⟨L9, hL9⟩ : ∃ L9, swp L ia ib = L9 := ⟨_, rfl⟩
          have hlen : L9.length = L.length := by rw [← hL9, swp_len]
          have HM9 : Hid (Mix l0 L9) := Lib.hid (by rw [← hL9]; exact HM.out.swap HLA.out HLB.out)
          have HO9' : Hid (wc.ownsRow B0 26 9 (.slice (some ⟨g, 0, none⟩) L.length cg) L9.length (fl Bn.cells L9)) := Lib.hid (by rw [hlen, ← hL9]; exact HO9.out)
          have hl9 : ia < L9.length := by omega
          have hbw : B0 ≤ wc.heap.size := by omega
          have l1 : (L9.length + 1) * 80 ≤ 140737488355328 := by omega
          have l2 : L9.length + 1 ≤ maxLen := by unfold maxLen; omega
          have lq : L9.length ≤ l0.length + k := by omega
          have lp : 0 < L9.length := by omega
          have HLEN := Lib.hid hlen
          clear hL9 HO9 hlen HM hz9
          by_cases h5 : y.tmod 5 = 0
          · go_upto_region 11 with fail
            obtain ⟨p0, p1, p2, p3, p4, p5, p6, p7, p8⟩ := own_bn (by have h := HO9'.out; rw [HLEN.out] at h; exact h : wc.ownsRow B0 26 9 (.slice (some ⟨g, 0, none⟩) L.length cg) L.length (fl Bn.cells L9)) HLEN.out.symm hl9
            have HD := Lib.hid (HM9.out.dup hl9)
            obtain ⟨xa, hxa⟩ : ∃ xa, bnAt L9 ia = xa := ⟨_, rfl⟩
            rw [hxa] at p0 p1 p2 p3 p4 p5 p6 p7 p8 HD
            clear hxa
            go_wp2_with (at_builtin; refine wpList_app1n (f := Bn.cells) rfl _ _ 28 rfl B0 26 9 80 infoBn rfl (by decide) Try.underlying28 bn9 bn_one wc w w.heap.size xa L9 _ (by rfl) (by rfl) HO9'.out HB9.out hz1 hbw l1 l2 ?_)
            intro A4 c4 w4 hown4 hB4 hg4 _
            have hz4 := hg4.size
            rw [World.size_alloc] at hz4
            have HO4 := Lib.hid hown4
            have HB4 := Lib.hid hB4
            clear hown4 hB4 hg4 p0 p1 p2 p3 p4 p5 p6 p7 p8
            go_wp2_with fail
            go_roundw
            case rel => exact ⟨k + 1, L9 ++ [xa], by omega, by omega, by go_num, by rw [List.length_append, List.length_singleton]; exact HO4.out, HD.out, by simp, by rw [List.length_append, List.length_singleton]; omega, HB4.out, by omega⟩
            case measure => simp [intOf]; omega
          · go_wp2_with fail
            go_roundw
            case rel => exact ⟨k + 1, L9, by omega, by omega, by go_num, HO9'.out, HM9.out, lp, by omega, HB9.out, hbw⟩
            case measure => simp [intOf]; omega
      · have h40i : ¬ (k : Int) < 40 := by omega
        have hki : (k : Int) < m.length := by omega
        have JO : Hid (Calls Try.prog 23 #[.slice (some ⟨g, 0, none⟩) L.length cg] wy (RetSt tx 0 wy)) := Lib.hid (by
          have := Join_any L _ wy (SlAt.own HO.out) (by omega)
          rw [MJ.out L HM.out] at this
          exact this)
        go_wp2_with fail
        refine JO.out.mono ?_
        rintro e w3 ⟨rfl, hb3⟩
        have hB3 := bnext HB.out hb3
        have V3 := Lib.hid (SlAt.below HV.out hB3)
        clear hb3
        go_wp2_with fail
        refine (TX.out _ _ V3.out).mono ?_
        rintro e w4 ⟨rfl, hb4⟩
        have hB4 := bnext hB3 hb4
        clear hb4 hB3
        go_wp2_with fail
        go_ret
        exact ⟨rfl, hB4⟩
    · have hki : ¬ (k : Int) < m.length := by omega
      have JO : Hid (Calls Try.prog 23 #[.slice (some ⟨g, 0, none⟩) L.length cg] wy (RetSt tx 0 wy)) := Lib.hid (by
        have := Join_any L _ wy (SlAt.own HO.out) (by omega)
        rw [MJ.out L HM.out] at this
        exact this)
      go_wp2_with fail
      refine JO.out.mono ?_
      rintro e w3 ⟨rfl, hb3⟩
      have hB3 := bnext HB.out hb3
      have V3 := Lib.hid (SlAt.below HV.out hB3)
      clear hb3
      go_wp2_with fail
      refine (TX.out _ _ V3.out).mono ?_
      rintro e w4 ⟨rfl, hb4⟩
      have hB4 := bnext hB3 hb4
      clear hb4 hB3
      go_wp2_with fail
      go_ret
      exact ⟨rfl, hB4⟩
end Go.Proofs.Ytcifngefclgefaa
