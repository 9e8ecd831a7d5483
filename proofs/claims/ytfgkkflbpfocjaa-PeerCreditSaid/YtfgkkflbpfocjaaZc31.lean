/- Contracts: the reference's floor of a receiver's valid ledger. -/
import Derived.Test.YtfgkkflbpfocjaaZc26
import Derived.Test.YtfgkkflbpfocjaaZc27
import Derived.Test.YtfgkkflbpfocjaaZc28
namespace Go.Proofs.Ytfgkkflbpfocjaa
open Go.RowKit
open List renaming getElem_toArray → zz1, getElem_cons_succ → zz2, getElem_cons_zero → zz3, setIfInBounds_toArray → zz4, set_cons_zero → zz5, set_cons_succ → zz6
set_option linter.unusedVariables false
set_option linter.unusedSimpArgs false

set_option maxRecDepth 100000 in
set_option maxHeartbeats 8000000 in
theorem rvFloor_no (a b f : Int) (T : List Rg) (hw : WfR ⟨a, b, f, T, []⟩) (hk : okR ⟨a, b, f, T, []⟩) (t : Int) (ht0 : a - b < t) (vt vk : Value) (w : World) (ht : RgsAt w vt T) (hkp : KpsAt w vk []) :
    Calls Try.prog 112 #[.agg #[.int .u64 a, .int .u64 b, .int .u64 f, vt, vk], .int .u64 t] w (RetRNE zRec 0 14 w) := by
  have hln := (okR_of hk).nt
  have hg := (okR_of hk).g
  have hr0 := (okR_of hk).r
  obtain ⟨n, HC⟩ := rvCheck_ok _ hw hk
  have HC' := Lib.hid HC
  have ha : 0 ≤ a := hw.g.1
  have hb0 : 0 ≤ b := hw.r.1
  have hf0 : 0 ≤ f ∧ f ≤ 18446744073709551615 := hw.fl
  have HW := Lib.hid hw
  have HKK := Lib.hid hk
  obtain ⟨A, c, rfl⟩ := ht.form
  obtain ⟨C, d, rfl⟩ := hkp.form
  have HT := Lib.hid ht
  have HK := Lib.hid hkp
  clear HC hw hk
  dsimp only [List.length_nil] at HC' hln hg hr0 HK ⊢
  go_enter Try.func112, Try.ntmps112
  go_wp2_with fail
  have k0 := (Blk.new w 29 #[.int .u64 a, .int .u64 b, .int .u64 f, .slice A T.length c, .slice C 0 d]).alloc (.cells #[.int .u64 0, .int .u64 0, .int .u64 0, .slice none 0 0, .slice none 0 0] 29)
  have k1 := Blk.new1 w (.cells #[.int .u64 a, .int .u64 b, .int .u64 f, .slice A T.length c, .slice C 0 d] 29) 29 #[.int .u64 0, .int .u64 0, .int .u64 0, .slice none 0 0, .slice none 0 0]
  have hB := bal (bal (Below.refl w.heap.size w) (.cells #[.int .u64 a, .int .u64 b, .int .u64 f, .slice A T.length c, .slice C 0 d] 29)) (.cells #[.int .u64 0, .int .u64 0, .int .u64 0, .slice none 0 0, .slice none 0 0] 29)
  refine (HC'.out _ _ _ (HT.out.below hB) (HK.out.below hB)).mono ?_
  rintro e w1 ⟨rfl, hb⟩
  replace k0 := k0.below hb
  replace k1 := k1.below hb
  replace hB := bnext hB hb
  clear hb HC'
  obtain ⟨x0, x1, x2, x3, x4⟩ := k0.c5
  obtain ⟨y0, y1, y2, y3, y4⟩ := k1.c5
  obtain ⟨f0, f1, f2, f3, f4⟩ := k1.f5
  have hl1 := k1.lt
  have hgd : decide (a - b < t) = true := decide_eq_true ht0
  have hab : 0 ≤ a - b := by omega
  go_wp2_with fail
  refine bodyPost_ret (v := .tuple #[.agg #[.int .u64 0, .int .u64 0, .int .u64 0, .slice none 0 0, .slice none 0 0], .int .u64 0, .int .i64 14]) (by simp [results, Try.results112, go_sem, y0, y1, y2, y3, y4, hl1]) rfl ?_
  exact ⟨none, 0, none, 0, rfl, RowB.nil _ _ 2, RowB.nil _ _ 1, (by repeat (first | with_reducible exact Below.refl _ _ | with_reducible refine Below.drew ?_ | with_reducible refine below_drewN ?_ _ | with_reducible refine bal ?_ _ | with_reducible refine bset ?_ (by first | (simp; done) | (simp; omega)) _ | with_reducible refine bnext ?_ (by assumption) | with_reducible assumption))⟩

theorem ho_farAll {base : Nat} {e t : TypeId} {size n : Nat} {v : Value} {xs : List Value} {g : Nat} : ∀ (l : List Value) (o : Nat) {w : World} {cs : Array Value}, w.ownsRow base e size v n xs → Blk w g t cs → e ≠ t → (w.setCells g o l).ownsRow base e size v n xs
  | [], _, _, _, h, _, _ => h
  | u :: r, o, _, _, h, hk, hne => ho_farAll r (o + 1) (ho_far (a := ⟨g, o, none⟩) h hk hne u) (hk.set o u) hne

/-- the loop's state -/
def FlMid (w : World) (a b f M : Int) (T : List Rg) (A : Option Addr) (c : Nat) (C : Option Addr) (d g9 : Nat) (s10 : Value) (wr : World) : Prop := ∃ (k : Nat) (A' : Option Addr) (c' : Nat), k ≤ T.length ∧ s10 = .int .i64 k ∧
  Blk wr w.heap.size 29 #[.int .u64 a, .int .u64 b, .int .u64 f, .slice A T.length c, .slice C 0 d] ∧ Blk wr (w.heap.size + 1) 29 #[.int .u64 0, .int .u64 0, .int .u64 0, .slice none 0 0, .slice none 0 0] ∧ Blk wr g9 29 #[.int .u64 a, .int .u64 b, .int .u64 M, .slice A' (cutL M T k).length c', .slice none 0 0] ∧
  wr.ownsRow w.heap.size 74 2 (.slice A' (cutL M T k).length c') (cutL M T k).length (fl Rg.cells (cutL M T k)) ∧ Below w.heap.size w wr

set_option maxRecDepth 100000 in
set_option maxHeartbeats 8000000 in
theorem rvFloor_ok (a b f : Int) (T : List Rg) (hw : WfR ⟨a, b, f, T, []⟩) (hk : okR ⟨a, b, f, T, []⟩) (t : Int) (ht0 : 0 ≤ t) (ht1 : t ≤ a - b) (vt vk : Value) (w : World) (ht : RgsAt w vt T) (hkp : KpsAt w vk []) :
    Calls Try.prog 112 #[.agg #[.int .u64 a, .int .u64 b, .int .u64 f, vt, vk], .int .u64 t] w (fun e w' => ∃ n, RetRNE (flR ⟨a, b, f, T, []⟩ t) n 0 w e w') := by
  have hln := (okR_of hk).nt
  have hg := (okR_of hk).g
  have hr0 := (okR_of hk).r
  obtain ⟨n, HC⟩ := rvCheck_ok _ hw hk
  have HC' := Lib.hid HC
  have ha : 0 ≤ a := hw.g.1
  have hb0 : 0 ≤ b := hw.r.1
  have hf0 : 0 ≤ f ∧ f ≤ 18446744073709551615 := hw.fl
  have HW := Lib.hid hw
  have HKK := Lib.hid hk
  obtain ⟨A, c, rfl⟩ := ht.form
  obtain ⟨C, d, rfl⟩ := hkp.form
  have HT := Lib.hid ht
  have HK := Lib.hid hkp
  clear HC hw hk
  dsimp only [List.length_nil] at HC' hln hg hr0 HK ⊢
  go_enter Try.func112, Try.ntmps112
  go_wp2_with fail
  have k0 := (Blk.new w 29 #[.int .u64 a, .int .u64 b, .int .u64 f, .slice A T.length c, .slice C 0 d]).alloc (.cells #[.int .u64 0, .int .u64 0, .int .u64 0, .slice none 0 0, .slice none 0 0] 29)
  have k1 := Blk.new1 w (.cells #[.int .u64 a, .int .u64 b, .int .u64 f, .slice A T.length c, .slice C 0 d] 29) 29 #[.int .u64 0, .int .u64 0, .int .u64 0, .slice none 0 0, .slice none 0 0]
  have hB := bal (bal (Below.refl w.heap.size w) (.cells #[.int .u64 a, .int .u64 b, .int .u64 f, .slice A T.length c, .slice C 0 d] 29)) (.cells #[.int .u64 0, .int .u64 0, .int .u64 0, .slice none 0 0, .slice none 0 0] 29)
  refine (HC'.out _ _ _ (HT.out.below hB) (HK.out.below hB)).mono ?_
  rintro e w1 ⟨rfl, hb⟩
  replace k0 := k0.below hb
  replace k1 := k1.below hb
  replace hB := bnext hB hb
  clear hb HC'
  obtain ⟨x0, x1, x2, x3, x4⟩ := k0.c5
  obtain ⟨y0, y1, y2, y3, y4⟩ := k1.c5
  obtain ⟨f0, f1, f2, f3, f4⟩ := k1.f5
  have hl1 := k1.lt
  have hgd : decide (a - b < t) = false := decide_eq_false (by omega)
  have hab : 0 ≤ a - b := by omega
  obtain ⟨M, hM⟩ : ∃ M, max f t = M := ⟨_, rfl⟩
  have hM0 : 0 ≤ M ∧ M ≤ a - b := by have := (okR_of HKK.out).fl; dsimp only at this; omega
  have HM := Lib.hid hM
  clear hM
  go_upto_region 6 with fail
  go_cut [9] (fun s9 wx => ∃ g9, s9 = .pointer (some ⟨g9, 0, none⟩) ∧ w.heap.size + 1 < g9 ∧ Blk wx w.heap.size 29 #[.int .u64 a, .int .u64 b, .int .u64 f, .slice A T.length c, .slice C 0 d] ∧ Blk wx (w.heap.size + 1) 29 #[.int .u64 0, .int .u64 0, .int .u64 0, .slice none 0 0, .slice none 0 0] ∧ Blk wx g9 29 #[.int .u64 a, .int .u64 b, .int .u64 M, .slice none 0 0, .slice none 0 0] ∧ Below w.heap.size w wx)
  case first =>
    by_cases hft : f < t
    · have hfd : decide (f < t) = true := decide_eq_true hft
      have hmx : max f t = t := by omega
      go_wp2_with fail
      go_meet
      obtain rfl : t = M := by have := HM.out; omega
      exact ⟨_, rfl, hl1, k0.alloc _, k1.alloc _, Blk.new _ _ _, bal hB _⟩
    · have hfd : decide (f < t) = false := decide_eq_false hft
      have hmx : max f t = f := by omega
      go_wp2_with fail
      go_meet
      obtain rfl : f = M := by have := HM.out; omega
      exact ⟨_, rfl, hl1, k0.alloc _, k1.alloc _, Blk.new _ _ _, bal hB _⟩
  case rest =>
  clear k0 k1 hB x0 x1 x2 x3 x4 y0 y1 y2 y3 y4 f0 f1 f2 f3 f4 hl1 hgd
  obtain ⟨g9, rfl, hg9, k0, k1, k9, hB⟩ := hcut
  generalize wc = w2 at k0 k1 k9 hB ⊢
  go_wp2_with fail
  go_loopw [10, 11] (fun s10 s11 wr => FlMid w a b f M T A c C d g9 s10 wr) (fun s10 _ _ => T.length - (intOf s10).toNat)
  case atStart => exact ⟨0, none, 0, Nat.zero_le _, rfl, k0, k1, k9, World.ownsRow_nil _ _ _ _, hB⟩
  case round =>
    clear k0 k1 k9 hB
    obtain ⟨k, A', c', hkT, rfl, k0, k1, k9, ho, hB⟩ := hrel
    have HO := Lib.hid ho
    clear ho
    by_cases hlt : k < T.length
    · obtain ⟨_, _, e, _, hcc, hRt⟩ := id HT.out
      cases e
      obtain ⟨bt, ot, rfl, hbt, p0, p1⟩ := reads_rg hRt rfl (rgAt_get hlt)
      have d0 := (hB.cell (p := ⟨bt, ot + k * 2, none⟩) hbt).trans p0
      have d1 := (hB.cell (p := ⟨bt, ot + k * 2 + 1, none⟩) hbt).trans p1
      have hxb := (okR_of HKK.out).t k hlt
      dsimp only at hxb
      have hcl := cutL_len M T k
      have hki : (k : Int) < T.length := by omega
      have hki0 : (0 : Int) ≤ k := by omega
      have HC1 : Hid (cutL M T (k + 1) = if max (rgAt T k).f M < (rgAt T k).t then cutL M T k ++ [⟨max (rgAt T k).f M, (rgAt T k).t⟩] else cutL M T k) := Lib.hid rfl
      obtain ⟨x, hx⟩ : ∃ x, rgAt T k = x := ⟨_, rfl⟩
      rw [hx] at d0 d1 hxb HC1
      unfold maxLen at hcc
      obtain ⟨F, hF⟩ : ∃ F, max x.f M = F := ⟨_, rfl⟩
      rw [hF] at HC1
      have HF := Lib.hid hF
      have hF0 : 0 ≤ F ∧ F ≤ a - b := by omega
      clear p0 p1 hRt hx hF
      have hB0 := Lib.hid hB
      obtain ⟨x0, x1, x2, x3, x4⟩ := k0.c5
      obtain ⟨z0, z1, z2, z3, z4⟩ := k9.c5
      have hl9 := k9.lt
      go_upto_region 10 with fail
      go_cut [11] (fun s11 wx => s11 = .int .u64 F ∧ Blk wx w.heap.size 29 #[.int .u64 a, .int .u64 b, .int .u64 f, .slice (some ⟨bt, ot, none⟩) T.length c, .slice C 0 d] ∧ Blk wx (w.heap.size + 1) 29 #[.int .u64 0, .int .u64 0, .int .u64 0, .slice none 0 0, .slice none 0 0] ∧ Blk wx g9 29 #[.int .u64 a, .int .u64 b, .int .u64 M, .slice A' (cutL M T k).length c', .slice none 0 0] ∧ wx.ownsRow w.heap.size 74 2 (.slice A' (cutL M T k).length c') (cutL M T k).length (fl Rg.cells (cutL M T k)) ∧ Below w.heap.size w wx)
      case first =>
        by_cases hfm : x.f < M
        · have hfd : decide (x.f < M) = true := decide_eq_true hfm
          have hmx : max x.f M = M := by omega
          go_quiet (fail)
          go_wp2_with fail
          go_meet
          obtain rfl : M = F := by have := HF.out; omega
          exact ⟨rfl, k0.drewN _, k1.drewN _, k9.drewN _, HO.out, below_drewN hB _⟩
        · have hfd : decide (x.f < M) = false := decide_eq_false hfm
          have hmx : max x.f M = x.f := by omega
          go_quiet (fail)
          go_wp2_with fail
          go_meet
          obtain rfl : x.f = F := by have := HF.out; omega
          exact ⟨rfl, k0.drewN _, k1.drewN _, k9.drewN _, HO.out, below_drewN hB _⟩
      case rest =>
      clear k0 k1 k9 HO hB x0 x1 x2 x3 x4 z0 z1 z2 z3 z4 hl9
      have hd0 := d0
      obtain ⟨rfl, k0, k1, k9, ho, hB⟩ := hcut
      obtain ⟨_, _, e, _, _, hRt⟩ := id HT.out
      cases e
      obtain ⟨bt', ot', e, hbt', p0, p1⟩ := reads_rg hRt rfl (rgAt_get hlt)
      cases e
      replace d1 := (hB.cell (p := ⟨bt, ot + k * 2 + 1, none⟩) hbt).trans ((hB0.out.cell (p := ⟨bt, ot + k * 2 + 1, none⟩) hbt).symm.trans d1)
      clear d0 hd0 p0 p1 hRt hbt'
      generalize wc = wx at k0 k1 k9 ho hB d1 ⊢
      have HO := Lib.hid ho
      clear ho
      obtain ⟨x0, x1, x2, x3, x4⟩ := k0.c5
      by_cases hfx : F < x.t
      · have hfd : decide (F < x.t) = true := decide_eq_true hfx
        go_upto_region 12 with fail
        have k2 : Blk wx.drew w.heap.size 29 #[.int .u64 a, .int .u64 b, .int .u64 f, .slice (some ⟨bt, ot, none⟩) T.length c, .slice C 0 d] := k0
        have K1 := Lib.hid k1
        have hK9 : Blk wx.drew g9 29 #[.int .u64 a, .int .u64 b, .int .u64 M, .slice A' (cutL M T k).length c', .slice none 0 0] := k9
        have HO2 : Hid (wx.drew.ownsRow w.heap.size 74 2 (.slice A' (cutL M T k).length c') (cutL M T k).length (fl Rg.cells (cutL M T k))) := HO
        have hK1 : Hid (Blk wx.drew (w.heap.size + 1) 29 #[.int .u64 0, .int .u64 0, .int .u64 0, .slice none 0 0, .slice none 0 0]) := K1
        have hB3 : Below w.heap.size w wx.drew := hB.drew
        have d2 : wx.drew.cell? ⟨bt, ot + k * 2 + 1, none⟩ = some (.int .u64 x.t) := d1
        have D1 : w.cell? ⟨bt, ot + k * 2 + 1, none⟩ = some (.int .u64 x.t) := (hB.cell (p := ⟨bt, ot + k * 2 + 1, none⟩) hbt).symm.trans d1
        refine wp_region_held_drew (S := fun wy => Below w.heap.size w wy ∧ Blk wy w.heap.size 29 #[.int .u64 a, .int .u64 b, .int .u64 f, .slice (some ⟨bt, ot, none⟩) T.length c, .slice C 0 d]) (by kernel_rfl) ⟨hB3, k2⟩ (fun hH => ?_)
        generalize wx.drew = x0 at hH hK9 HO2 hK1 ⊢
        clear k0 k1 k9 hB HO k2 hB3 d1 d2 K1
        refine tkH 0 rfl (yieldsIf_cell (.pointer (some ⟨g9, 3, none⟩)) rfl (fun w h => by go_simp)) hH ?_
        try simp only [zz1, zz2, zz3, Act.put, zz4, zz5, zz6]
        refine tkH 2 rfl (yieldsIf_pure _ (.int .u64 F) rfl (.inl rfl) rfl) hH ?_
        try simp only [zz1, zz2, zz3, Act.put, zz4, zz5, zz6]
        refine tkH 3 rfl (yieldsIf_cell (.pointer (some ⟨w.heap.size, 3, none⟩)) rfl (fun w h => by go_simp)) hH ?_
        try simp only [zz1, zz2, zz3, Act.put, zz4, zz5, zz6]
        refine tkH 4 rfl (yieldsIf_cell (.slice (some ⟨bt, ot, none⟩) T.length c) rfl (fun wq h => by have j0 : wq.cell? ⟨w.heap.size, 3, none⟩ = some (.slice (some ⟨bt, ot, none⟩) T.length c) := (h.2).cell 3; go_simp)) hH ?_
        try simp only [zz1, zz2, zz3, Act.put, zz4, zz5, zz6]
        refine tkH 5 rfl (yieldsIf_pure _ (.int .i64 k) rfl (.inl rfl) rfl) hH ?_
        try simp only [zz1, zz2, zz3, Act.put, zz4, zz5, zz6]
        refine tkH 6 rfl (yieldsIf_cell (.pointer (some ⟨bt, ot + k * 2, none⟩)) rfl (fun w h => by go_simp)) hH ?_
        try simp only [zz1, zz2, zz3, Act.put, zz4, zz5, zz6]
        refine tkH 7 rfl (yieldsIf_cell (.pointer (some ⟨bt, ot + k * 2 + 1, none⟩)) rfl (fun w h => by go_simp)) hH ?_
        try simp only [zz1, zz2, zz3, Act.put, zz4, zz5, zz6]
        refine tkH 8 rfl (yieldsIf_cell (.int .u64 x.t) rfl (fun wy h => by have j0 : wy.cell? ⟨bt, ot + k * 2 + 1, none⟩ = some (.int .u64 x.t) := (h.1.cell (p := ⟨bt, ot + k * 2 + 1, none⟩) hbt).trans D1; go_simp)) hH ?_
        try simp only [zz1, zz2, zz3, Act.put, zz4, zz5, zz6]
        refine tkH 9 rfl (yieldsIf_cell (.agg #[.int .u64 F, .int .u64 x.t]) rfl (fun w h => by go_simp)) hH ?_
        try simp only [zz1, zz2, zz3, Act.put, zz4, zz5, zz6]
        refine rdH [1, 10] ?_
        refine AllReadyH.cons rfl (fun KK hK => ?_) ?_
        · rw [if_pos (by rfl)]
          have j0 : x0.cell? ⟨g9, 3, none⟩ = some (.slice A' (cutL M T k).length c') := (hK9).cell 3
          go_simp
          clear j0
          refine hK.out _ _ hH (fun hH1 => ?_)
          clear hK KK
          try simp only [zz1, zz2, zz3, Act.put, zz4, zz5, zz6]
          refine rdH [10] ?_
          refine c1H rfl fun KK hK => ?_
          rw [if_pos (by rfl)]
          go_simp
          have kl2 := Blk.new x0 74 #[.int .u64 F, .int .u64 x.t]
          have kn2 := (hK9).alloc (.cells #[.int .u64 F, .int .u64 x.t] 74)
          have ho2 := Lib.hid (World.ownsRow.alloc HO2.out (.cells #[.int .u64 F, .int .u64 x.t] 74))
          have kz2 := Lib.hid (Blk.alloc hK1.out (.cells #[.int .u64 F, .int .u64 x.t] 74))
          refine hK.out _ _ ⟨bal hH1.1 (.cells #[.int .u64 F, .int .u64 x.t] 74), hH1.2.alloc (.cells #[.int .u64 F, .int .u64 x.t] 74)⟩ (fun hH2 => ?_)
          clear hK KK
          try simp only [zz1, zz2, zz3, Act.put, zz4, zz5, zz6]
          refine rdH [11] ?_
          refine c1H rfl fun KK hK => ?_
          refine step_app_all (f := Rg.cells) rfl (.tmp 67) (.tmp 76) 26 rfl w.heap.size 74 2 16 infoRg rfl (by decide) Try.underlying26 rg2 rg_one _ w w.heap.size (cutL M T k) [⟨F, x.t⟩] (.slice A' (cutL M T k).length c') (.slice (some ⟨x0.heap.size, 0, none⟩) 1 1) rfl rfl (rg_lit1 kl2) ho2.out hH2.1 (Nat.le_refl _) hH2.1.size (by rw [List.length_singleton]; omega) (by rw [List.length_singleton]; unfold maxLen; omega) (fun A2 c2 W2 h2 h3 h4 => ?_)
          have kn3 := Blk.grown (kn2) h4 (blk_ne_own ho2.out (kn2) (by decide))
          have kz3 := Lib.hid (Blk.grown kz2.out h4 (blk_ne_own ho2.out kz2.out (by decide)))
          have kg3 := Blk.grown hH2.2 h4 (blk_ne_own ho2.out hH2.2 (by decide))
          have h2' := Lib.hid h2
          clear h2
          refine hK.out _ _ ⟨h3, kg3⟩ (fun hH3 => ?_)
          clear hK KK
          try simp only [zz1, zz2, zz3, Act.put, zz4, zz5, zz6]
          refine tkH 12 rfl (yieldsIf_cell (.pointer (some ⟨g9, 3, none⟩)) rfl (fun w h => by go_simp)) hH3 ?_
          try simp only [zz1, zz2, zz3, Act.put, zz4, zz5, zz6]
          refine rdH [13] ?_
          refine c1H rfl fun KK hK => ?_
          rw [if_pos (by rfl)]
          have j0 := (kn3).cell 3
          have j1 := (kn3).frozen 3
          go_simp
          clear j0 j1
          refine hK.out _ _ ⟨hH3.1.setCell (p := ⟨g9, 3, none⟩) (by show w.heap.size ≤ g9; omega) _, hH3.2.far (p := ⟨g9, 3, none⟩) (by show ¬ w.heap.size = g9; omega) _⟩ (fun hH4 => ?_)
          clear hK KK
          try simp only [zz1, zz2, zz3, Act.put, zz4, zz5, zz6]
          refine wpAnyH_done (by kernel_rfl) ?_ _
          go_wp2_with fail
          go_roundw
          case rel =>
            have E : cutL M T (k + 1) = cutL M T k ++ [⟨F, x.t⟩] := by rw [HC1.out, if_pos hfx]
            have E2 : (cutL M T k ++ [(⟨F, x.t⟩ : Rg)]).length = (cutL M T k).length + 1 := by simp
            have q1 := (kn3).set 3 (.slice A2 ((cutL M T k).length + 1) c2)
            have q2 := ho_far (a := ⟨g9, 3, none⟩) h2'.out (kn3) (by decide) (.slice A2 ((cutL M T k).length + 1) c2)
            have q3 := Blk.far (p := ⟨g9, 3, none⟩) kz3.out (by show ¬ w.heap.size + 1 = g9; omega) (.slice A2 ((cutL M T k).length + 1) c2)
            refine ⟨k + 1, A2, c2, by omega, by go_num, hH4.2, q3, ?_, ?_, hH4.1⟩
            · rw [E, E2]; simpa using q1
            · rw [E, E2]; rw [E2] at q2; exact q2
          case measure => simp [intOf]; omega
        refine AllReadyH.cons rfl (fun KK hK => ?_) ?_
        · rw [if_pos (by rfl)]
          go_simp
          have kl5 := Blk.new x0 74 #[.int .u64 F, .int .u64 x.t]
          have kn5 := (hK9).alloc (.cells #[.int .u64 F, .int .u64 x.t] 74)
          have ho5 := Lib.hid (World.ownsRow.alloc HO2.out (.cells #[.int .u64 F, .int .u64 x.t] 74))
          have kz5 := Lib.hid (Blk.alloc hK1.out (.cells #[.int .u64 F, .int .u64 x.t] 74))
          refine hK.out _ _ ⟨bal hH.1 (.cells #[.int .u64 F, .int .u64 x.t] 74), hH.2.alloc (.cells #[.int .u64 F, .int .u64 x.t] 74)⟩ (fun hH5 => ?_)
          clear hK KK
          try simp only [zz1, zz2, zz3, Act.put, zz4, zz5, zz6]
          refine rdH [1] ?_
          refine c1H rfl fun KK hK => ?_
          rw [if_pos (by rfl)]
          have j0 : (x0.alloc (.cells #[.int .u64 F, .int .u64 x.t] 74)).cell? ⟨g9, 3, none⟩ = some (.slice A' (cutL M T k).length c') := (kn5).cell 3
          go_simp
          clear j0
          refine hK.out _ _ hH5 (fun hH6 => ?_)
          clear hK KK
          try simp only [zz1, zz2, zz3, Act.put, zz4, zz5, zz6]
          refine rdH [11] ?_
          refine c1H rfl fun KK hK => ?_
          refine step_app_all (f := Rg.cells) rfl (.tmp 67) (.tmp 76) 26 rfl w.heap.size 74 2 16 infoRg rfl (by decide) Try.underlying26 rg2 rg_one _ w w.heap.size (cutL M T k) [⟨F, x.t⟩] (.slice A' (cutL M T k).length c') (.slice (some ⟨x0.heap.size, 0, none⟩) 1 1) rfl rfl (rg_lit1 kl5) ho5.out hH6.1 (Nat.le_refl _) hH6.1.size (by rw [List.length_singleton]; omega) (by rw [List.length_singleton]; unfold maxLen; omega) (fun A2 c2 W2 h2 h3 h4 => ?_)
          have kn7 := Blk.grown (kn5) h4 (blk_ne_own ho5.out (kn5) (by decide))
          have kz7 := Lib.hid (Blk.grown kz5.out h4 (blk_ne_own ho5.out kz5.out (by decide)))
          have kg7 := Blk.grown hH6.2 h4 (blk_ne_own ho5.out hH6.2 (by decide))
          have h2' := Lib.hid h2
          clear h2
          refine hK.out _ _ ⟨h3, kg7⟩ (fun hH7 => ?_)
          clear hK KK
          try simp only [zz1, zz2, zz3, Act.put, zz4, zz5, zz6]
          refine tkH 12 rfl (yieldsIf_cell (.pointer (some ⟨g9, 3, none⟩)) rfl (fun w h => by go_simp)) hH7 ?_
          try simp only [zz1, zz2, zz3, Act.put, zz4, zz5, zz6]
          refine rdH [13] ?_
          refine c1H rfl fun KK hK => ?_
          rw [if_pos (by rfl)]
          have j0 := (kn7).cell 3
          have j1 := (kn7).frozen 3
          go_simp
          clear j0 j1
          refine hK.out _ _ ⟨hH7.1.setCell (p := ⟨g9, 3, none⟩) (by show w.heap.size ≤ g9; omega) _, hH7.2.far (p := ⟨g9, 3, none⟩) (by show ¬ w.heap.size = g9; omega) _⟩ (fun hH8 => ?_)
          clear hK KK
          try simp only [zz1, zz2, zz3, Act.put, zz4, zz5, zz6]
          refine wpAnyH_done (by kernel_rfl) ?_ _
          go_wp2_with fail
          go_roundw
          case rel =>
            have E : cutL M T (k + 1) = cutL M T k ++ [⟨F, x.t⟩] := by rw [HC1.out, if_pos hfx]
            have E2 : (cutL M T k ++ [(⟨F, x.t⟩ : Rg)]).length = (cutL M T k).length + 1 := by simp
            have q1 := (kn7).set 3 (.slice A2 ((cutL M T k).length + 1) c2)
            have q2 := ho_far (a := ⟨g9, 3, none⟩) h2'.out (kn7) (by decide) (.slice A2 ((cutL M T k).length + 1) c2)
            have q3 := Blk.far (p := ⟨g9, 3, none⟩) kz7.out (by show ¬ w.heap.size + 1 = g9; omega) (.slice A2 ((cutL M T k).length + 1) c2)
            refine ⟨k + 1, A2, c2, by omega, by go_num, hH8.2, q3, ?_, ?_, hH8.1⟩
            · rw [E, E2]; simpa using q1
            · rw [E, E2]; rw [E2] at q2; exact q2
          case measure => simp [intOf]; omega
        exact AllReadyH.nil
      · have hfd : decide (F < x.t) = false := decide_eq_false hfx
        have E : Hid (cutL M T (k + 1) = cutL M T k) := Lib.hid (by rw [HC1.out, if_neg (by omega)])
        go_wp2_with fail
        go_roundw
        case rel => exact ⟨k + 1, A', c', by omega, by go_num, k0, k1, by rw [E.out]; exact k9, by rw [E.out]; exact HO.out, hB⟩
        case measure => simp [intOf]; omega
    · obtain rfl : k = T.length := by omega
      obtain ⟨x0, x1, x2, x3, x4⟩ := k0.c5
      have hki : ¬ (T.length : Int) < T.length := by omega
      have HCL := cutL_len M T T.length
      go_wp2_with fail
      go_loopw [12] (fun s12 wz => s12 = .int .i64 0 ∧ wz = wr) (fun _ _ => 1)
      case atStart => exact ⟨rfl, rfl⟩
      case round =>
        obtain ⟨rfl, rfl⟩ := hrel
        go_upto_region 18 with fail
        have HFL : Hid (OkR ⟨a, b, M, cutL M T T.length, []⟩ ∧ WfR ⟨a, b, M, cutL M T T.length, []⟩) := Lib.hid (by have q := flR_ok (okR_of HKK.out) HW.out ht0 ht1; unfold flR at q; dsimp only at q; rw [HM.out] at q; exact ⟨okR_of q.1, q.2.1⟩)
        have HFR : Hid (flR ⟨a, b, f, T, []⟩ t = ⟨a, b, M, cutL M T T.length, []⟩) := Lib.hid (by unfold flR; dsimp only; rw [HM.out])
        have ne9 : ¬ g9 = w.heap.size + 1 := by omega
        have q0 : Blk wr.drew w.heap.size 29 #[.int .u64 a, .int .u64 b, .int .u64 f, .slice A T.length c, .slice C 0 d] := k0
        have q1 : Blk wr.drew (w.heap.size + 1) 29 #[.int .u64 0, .int .u64 0, .int .u64 0, .slice none 0 0, .slice none 0 0] := k1
        have q9 : Blk wr.drew g9 29 #[.int .u64 a, .int .u64 b, .int .u64 M, .slice A' (cutL M T T.length).length c', .slice none 0 0] := k9
        have qo : wr.drew.ownsRow w.heap.size 74 2 (.slice A' (cutL M T T.length).length c') (cutL M T T.length).length (fl Rg.cells (cutL M T T.length)) := HO.out
        have QO := Lib.hid qo
        refine wp_region_held_drew (S := fun wy => Below w.heap.size w wy ∧ Blk wy w.heap.size 29 #[.int .u64 a, .int .u64 b, .int .u64 f, .slice A T.length c, .slice C 0 d] ∧ Blk wy g9 29 #[.int .u64 a, .int .u64 b, .int .u64 M, .slice A' (cutL M T T.length).length c', .slice none 0 0]) (by kernel_rfl) ⟨hB.drew, q0, q9⟩ (fun hH => ?_)
        generalize wr.drew = y0 at hH q1 QO ⊢
        clear k0 k1 k9 hB HO q0 q9 qo x0 x1 x2 x3 x4
        refine tkH 0 rfl (yieldsIf_row (g9) 29 #[.int .u64 a, .int .u64 b, .int .u64 M, .slice A' (cutL M T T.length).length c', .slice none 0 0] 29 _ _ rfl rfl rfl (fun w h => h.2.2) Try.underlying29 rfl (by kernel_rfl)) hH ?_
        try simp only [zz1, zz2, zz3, Act.put, zz4, zz5, zz6]
        refine tkH 1 rfl (yieldsIf_row (w.heap.size) 29 #[.int .u64 a, .int .u64 b, .int .u64 f, .slice A T.length c, .slice C 0 d] 29 _ _ rfl rfl rfl (fun w h => h.2.1) Try.underlying29 rfl (by kernel_rfl)) hH ?_
        try simp only [zz1, zz2, zz3, Act.put, zz4, zz5, zz6]
        refine tkH 3 rfl (yieldsIf_row (g9) 29 #[.int .u64 a, .int .u64 b, .int .u64 M, .slice A' (cutL M T T.length).length c', .slice none 0 0] 29 _ _ rfl rfl rfl (fun w h => h.2.2) Try.underlying29 rfl (by kernel_rfl)) hH ?_
        try simp only [zz1, zz2, zz3, Act.put, zz4, zz5, zz6]
        refine rdH [2] ?_
        refine c1H rfl fun KK hK => ?_
        go_simp
        refine (rreserved_any ⟨a, b, f, T, []⟩ (okR_of HKK.out) HW.out _ _ _ (HT.out.below hH.1) ⟨_, _, _, rfl⟩).mono ?_
        rintro e y9 ⟨rfl, hb9⟩
        have q19 := (q1).below hb9
        have QO9 := Lib.hid (own_below hb9 QO.out)
        refine hK.out _ _ ⟨bnext hH.1 hb9, hH.2.1.below hb9, hH.2.2.below hb9⟩ (fun hH9 => ?_)
        clear hK KK
        try simp only [zz1, zz2, zz3, Act.put, zz4, zz5, zz6]
        refine rdH [4] ?_
        refine c1H rfl fun KK hK => ?_
        go_simp
        refine (rreserved_any ⟨a, b, M, cutL M T T.length, []⟩ HFL.out.1 HFL.out.2 _ _ _ (SlAt.own QO9.out) ⟨_, _, _, rfl⟩).mono ?_
        rintro e y10 ⟨rfl, hb10⟩
        have q110 := (q19).below hb10
        have QO10 := Lib.hid (own_below hb10 QO9.out)
        refine hK.out _ _ ⟨bnext hH9.1 hb10, hH9.2.1.below hb10, hH9.2.2.below hb10⟩ (fun hH10 => ?_)
        clear hK KK
        try simp only [zz1, zz2, zz3, Act.put, zz4, zz5, zz6]
        refine tkH 5 rfl (yieldsIf_cell (.int .u64 (IntKind.u64.wrap (resv ⟨a, b, f, T, []⟩ - resv ⟨a, b, M, cutL M T T.length, []⟩))) rfl (fun w h => by go_simp)) hH10 ?_
        try simp only [zz1, zz2, zz3, Act.put, zz4, zz5, zz6]
        refine rdH [6] ?_
        refine c1H rfl fun KK hK => ?_
        rw [if_pos (by rfl)]
        refine wp_store_mid 29 _ _ rfl (w.heap.size + 1) 0 #[.int .u64 a, .int .u64 b, .int .u64 M, .slice A' (cutL M T T.length).length c', .slice none 0 0] rfl rfl (Blk.there q110 0 _ (Nat.le_refl 5)) (by kernel_rfl) (by kernel_rfl) ?_
        have q111 : Blk (y10.setCells (w.heap.size + 1) 0 (Array.toList #[.int .u64 a, .int .u64 b, .int .u64 M, .slice A' (cutL M T T.length).length c', .slice none 0 0])) (w.heap.size + 1) 29 #[.int .u64 a, .int .u64 b, .int .u64 M, .slice A' (cutL M T T.length).length c', .slice none 0 0] := (q110).setAll rfl
        have QO11 : Hid ((y10.setCells (w.heap.size + 1) 0 (Array.toList #[.int .u64 a, .int .u64 b, .int .u64 M, .slice A' (cutL M T T.length).length c', .slice none 0 0])).ownsRow w.heap.size 74 2 (.slice A' (cutL M T T.length).length c') (cutL M T T.length).length (fl Rg.cells (cutL M T T.length))) := Lib.hid (ho_farAll _ 0 QO10.out q110 (by decide))
        refine hK.out _ _ ⟨below_setCells (Nat.le_succ _) _ _ hH10.1, hH10.2.1.farAll (by omega) _ _, hH10.2.2.farAll ne9 _ _⟩ (fun hH11 => ?_)
        clear hK KK
        try simp only [zz1, zz2, zz3, Act.put, zz4, zz5, zz6]
        refine tkH 7 rfl (yieldsIf_pure _ (.int .u64 (IntKind.u64.wrap (resv ⟨a, b, f, T, []⟩ - resv ⟨a, b, M, cutL M T T.length, []⟩))) rfl (.inr rfl) rfl) hH11 ?_
        try simp only [zz1, zz2, zz3, Act.put, zz4, zz5, zz6]
        refine tkH 8 rfl (yieldsIf_pure _ (.int .i64 0) rfl (.inr rfl) rfl) hH11 ?_
        try simp only [zz1, zz2, zz3, Act.put, zz4, zz5, zz6]
        refine wpAnyH_done (by kernel_rfl) ?_ _
        obtain ⟨y0, y1, y2, y3, y4⟩ := (q111).c5
        have hly := (q111).lt
        go_wp2_with fail
        refine bodyPost_ret (v := .tuple #[.agg #[.int .u64 a, .int .u64 b, .int .u64 M, .slice A' (cutL M T T.length).length c', .slice none 0 0], .int .u64 (IntKind.u64.wrap (resv ⟨a, b, f, T, []⟩ - resv ⟨a, b, M, cutL M T T.length, []⟩)), .int .i64 0]) (by simp [results, Try.results112, go_sem, y0, y1, y2, y3, y4, hly]) rfl ?_
        exact ⟨_, by rw [HFR.out]; exact ⟨A', c', none, 0, rfl, RowB.own QO11.out (Nat.le_refl _), RowB.nil _ _ 1, hH11.1⟩⟩

end Go.Proofs.Ytfgkkflbpfocjaa

