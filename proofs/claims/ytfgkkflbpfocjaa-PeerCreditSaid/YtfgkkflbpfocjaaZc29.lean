/- Contracts: the reference's adding of a range to a valid set. -/
import Derived.Test.YtfgkkflbpfocjaaZc26
import Derived.Test.YtfgkkflbpfocjaaZc27
import Derived.Test.YtfgkkflbpfocjaaZc28
namespace Go.Proofs.Ytfgkkflbpfocjaa
open Go.RowKit
open List renaming getElem_toArray → zz1, getElem_cons_succ → zz2, getElem_cons_zero → zz3, setIfInBounds_toArray → zz4, set_cons_zero → zz5, set_cons_succ → zz6
set_option linter.unusedVariables false
set_option linter.unusedSimpArgs false

theorem own_ne_low {w : World} {base : Nat} {e : TypeId} {size n : Nat} {v : Value} {xs : List Value} (h : w.ownsRow base e size v n xs) {b : Nat} (hb : b < base) : some b ≠ v.ownBlock := fun e1 => by
  have := (h.lt b e1.symm).1
  omega
theorem own_ne_new {w : World} {base : Nat} {e : TypeId} {size n : Nat} {v : Value} {xs : List Value} (h : w.ownsRow base e size v n xs) : some w.heap.size ≠ v.ownBlock := fun e1 => by
  have := (h.lt _ e1.symm).2
  omega
/-- a part of a row -/
theorem rg_take {w : World} {A : Option Addr} {c : Nat} {T : List Rg} (h : RgsAt w (.slice A T.length c) T) {k : Nat} (hk : k ≤ T.length) : SlAt w 2 (sliced A 0 k c 2) (T.take k).length (fl Rg.cells (T.take k)) := by
  obtain ⟨_, _, e, h1, h2, h3, h4⟩ := h
  cases e
  have hl : (T.take k).length = k := by rw [List.length_take]; omega
  rw [hl]
  unfold sliced
  refine ⟨_, _, rfl, by omega, by omega, by rw [fl_len rg2, hl], fun h0 => ?_⟩
  obtain ⟨b, o, rfl, hb, hx⟩ := h4 (by omega)
  refine ⟨b, o, ?_, hb, fun j u hj => hx j u ?_⟩
  · split
    · rfl
    · simp [Addr.add]
  · have e1 : fl Rg.cells T = fl Rg.cells (T.take k) ++ fl Rg.cells (T.drop k) := by rw [← fl_app, List.take_append_drop]
    rw [e1, List.getElem?_append_left (List.getElem?_eq_some_iff.1 hj).1]
    exact hj
theorem rg_drop {w : World} {A : Option Addr} {c : Nat} {T : List Rg} (h : RgsAt w (.slice A T.length c) T) {k : Nat} (hk : k ≤ T.length) : SlAt w 2 (sliced A k T.length c 2) (T.drop k).length (fl Rg.cells (T.drop k)) := by
  obtain ⟨_, _, e, h1, h2, h3, h4⟩ := h
  cases e
  have hl : (T.drop k).length = T.length - k := by rw [List.length_drop]
  rw [hl]
  unfold sliced
  refine ⟨_, _, rfl, by omega, by omega, by rw [fl_len rg2, hl], fun h0 => ?_⟩
  obtain ⟨b, o, rfl, hb, hx⟩ := h4 (by omega)
  refine ⟨b, o + k * 2, ?_, hb, fun j u hj => ?_⟩
  · rw [if_neg (by omega)]
    by_cases hk0 : k = 0
    · subst hk0; simp [Addr.add]
    · simp [Addr.add]; omega
  · have e1 : fl Rg.cells T = fl Rg.cells (T.take k) ++ fl Rg.cells (T.drop k) := by rw [← fl_app, List.take_append_drop]
    have e2 : (fl Rg.cells (T.take k)).length = k * 2 := by rw [fl_len rg2, List.length_take, Nat.min_eq_left hk]
    have := hx (k * 2 + j) u (by rw [e1, List.getElem?_append_right (by omega), e2, Nat.add_sub_cancel_left]; exact hj)
    rw [Nat.add_assoc]; exact this

set_option maxRecDepth 100000 in
set_option maxHeartbeats 4000000 in
theorem c04_ok {lo hi : Int} (T : List Rg) (hT : Apart lo hi T) (hlo : 0 ≤ lo) (hhi : hi ≤ 18446744073709551615) (hln : T.length ≤ 1000) (vt : Value) (w : World) (ht : RgsAt w vt T) :
    Calls Try.prog 124 #[vt] w (Ret2 .i64 .i64 0 0 w) := by
  obtain ⟨A, c, rfl, _, hcc, hR⟩ := ht
  unfold maxLen at hcc
  have HR := Lib.hid hR
  have HT := Lib.hid hT
  clear hR hT
  have hln1 : ¬ (T.length : Int) > 1000 := by omega
  go_enter Try.func124, Try.ntmps124
  go_wp2_with fail
  go_loopw [4] (fun s wr => ∃ k : Nat, k ≤ T.length ∧ s = .int .i64 k ∧ Below w.heap.size w wr) (fun s _ => T.length - (intOf s).toNat)
  case atStart => exact ⟨0, Nat.zero_le _, rfl, Below.refl _ _⟩
  case round =>
    obtain ⟨k, hk, rfl, hB⟩ := hrel
    obtain ⟨wy, rfl⟩ : ∃ wy : World, wy = wr := ⟨_, rfl⟩
    have HB := Lib.hid hB
    clear hB
    by_cases hlt : k < T.length
    · obtain ⟨q1, q2, q3, q4⟩ := HT.out k hlt
      have Q4 := Lib.hid q4
      clear q4
      obtain ⟨b, o, rfl, hb, p0, p1⟩ := reads_rg HR.out rfl (rgAt_get hlt)
      have d0 := (HB.out.cell (p := ⟨b, o + k * 2, none⟩) hb).trans p0
      have d1 := (HB.out.cell (p := ⟨b, o + k * 2 + 1, none⟩) hb).trans p1
      have hki : (k : Int) < T.length := by omega
      have hk0 : (0 : Int) ≤ k := by omega
      obtain ⟨x, hx⟩ : ∃ x, rgAt T k = x := ⟨_, rfl⟩
      rw [hx] at d0 d1 q1 q2 q3 Q4
      clear hx p0 p1
      have hge : ¬ x.f ≥ x.t := by omega
      go_upto_region 6 with fail
      go_quiet (fail)
      by_cases c0 : k = 0
      · subst c0
        go_upto_region 8 with fail
        go_quiet (fail)
        go_wp2_with fail
        go_roundw
        case rel => exact ⟨0 + 1, by omega, by go_num, below_drewN HB.out _⟩
        case measure => simp [intOf]; omega
      · obtain ⟨m, rfl⟩ : ∃ m, k = m + 1 := ⟨k - 1, by omega⟩
        obtain ⟨b2, o2, e2, _, _, p1⟩ := reads_rg HR.out rfl (rgAt_get (show m < T.length by omega))
        cases e2
        have d2 := (HB.out.cell (p := ⟨b, o + m * 2 + 1, none⟩) hb).trans p1
        have q4 := Q4.out (Nat.succ_pos m)
        rw [Nat.add_sub_cancel] at q4
        obtain ⟨y, hy⟩ : ∃ y, rgAt T m = y := ⟨_, rfl⟩
        rw [hy] at d2 q4
        clear hy p1 Q4
        have hle : ¬ x.f ≤ y.t := by omega
        have hm1 : ((m + 1 : Nat) : Int) > 0 := by omega
        have WM : IntKind.i64.wrap (((m + 1 : Nat) : Int) - 1) = (m : Int) := by rw [show ((m + 1 : Nat) : Int) - 1 = m by omega]; exact IntWalk.i64_in _ (by omega)
        have hmi : (m : Int) < T.length := by omega
        have hm0 : (0 : Int) ≤ m := by omega
        go_upto_region 8 with fail
        go_quiet (fail)
        clear d2
        go_wp2_with fail
        go_roundw
        case rel => exact ⟨(m + 1) + 1, by omega, by go_num, below_drewN HB.out _⟩
        case measure => simp [intOf]; omega
    · obtain rfl : k = T.length := by omega
      go_wp2_with fail
      go_ret2
      exact ⟨rfl, HB.out⟩

def InsPost (T : List Rg) (x : Rg) (w : World) (e : Ending) (w' : World) : Prop := ∃ (k : Nat) (v : Value), k ≤ T.length ∧ e = .returned v ∧ RgsB w.heap.size w' v (insS T x k) ∧ Below w.heap.size w w'
def JoinPost (P : List Rg → Prop) (w : World) (e : Ending) (w' : World) : Prop := ∃ (l : List Rg) (v : Value) (er : Int), e = .returned (.tuple #[v, .int .i64 er]) ∧ RgsB w.heap.size w' v l ∧ Below w.heap.size w w' ∧ (er = 0 → P l)
set_option maxRecDepth 100000 in
set_option maxHeartbeats 8000000 in
theorem ins_any (T : List Rg) (x : Rg) (hln : T.length ≤ 1000) (vt : Value) (w : World) (ht : RgsAt w vt T) :
    Calls Try.prog 126 #[vt, .agg #[.int .u64 x.f, .int .u64 x.t]] w (InsPost T x w) := by
  obtain ⟨A, c, rfl, hnc, hcc, hR⟩ := id ht
  have HTR := Lib.hid ht
  unfold maxLen at hcc
  have HR := Lib.hid hR
  clear hR ht
  have hnc2 : (T.length : Int) ≤ c := by omega
  go_enter Try.func126, Try.ntmps126
  go_wp2_with fail
  have k0 := Blk.new w 74 #[.int .u64 x.f, .int .u64 x.t]
  have hB0 := bal (Below.refl w.heap.size w) (.cells #[.int .u64 x.f, .int .u64 x.t] 74)
  generalize w.alloc (.cells #[.int .u64 x.f, .int .u64 x.t] 74) = w1 at k0 hB0 ⊢
  go_loopw [5] (fun s wr => ∃ k : Nat, k ≤ T.length ∧ s = .int .i64 k ∧ Blk wr w.heap.size 74 #[.int .u64 x.f, .int .u64 x.t] ∧ Below w.heap.size w wr) (fun s _ => T.length - (intOf s).toNat)
  case atStart => exact ⟨0, Nat.zero_le _, rfl, k0, hB0⟩
  case round =>
    clear k0 hB0
    obtain ⟨k, hk, rfl, kb, hB⟩ := hrel
    have hk0 : (0 : Int) ≤ k := by omega
    have hkc : (k : Int) ≤ c := by omega
    have hkl : (k : Int) ≤ T.length := by omega
    have HK := Lib.hid hk
    obtain ⟨x0, x1⟩ := kb.c2
    by_cases hlt : k < T.length
    · obtain ⟨b, o, rfl, hb, p0, p1⟩ := reads_rg HR.out rfl (rgAt_get hlt)
      have d0 := (hB.cell (p := ⟨b, o + k * 2, none⟩) hb).trans p0
      have d1 := (hB.cell (p := ⟨b, o + k * 2 + 1, none⟩) hb).trans p1
      have hki : (k : Int) < T.length := by omega
      obtain ⟨y, hy⟩ : ∃ y, rgAt T k = y := ⟨_, rfl⟩
      rw [hy] at d0 d1
      clear hy p0 p1
      by_cases hle : y.f ≤ x.f
      · go_upto_region 2 with fail
        go_quiet (fail)
        go_wp2_with fail
        go_roundw
        case rel => exact ⟨k + 1, by omega, by go_num, kb.drewN _, below_drewN hB _⟩
        case measure => simp [intOf]; omega
      · go_upto_region 2 with fail
        go_quiet (fail)
        obtain ⟨V1, hV1⟩ : ∃ V, sliced (some ⟨b, o, none⟩) 0 k c 2 = V := ⟨_, rfl⟩
        obtain ⟨V2, hV2⟩ : ∃ V, sliced (some ⟨b, o, none⟩) k T.length c 2 = V := ⟨_, rfl⟩
        have HV1 : Hid (SlAt w 2 V1 (T.take k).length (fl Rg.cells (T.take k))) := Lib.hid (by rw [← hV1]; exact rg_take HTR.out hk)
        have HV2 : Hid (SlAt w 2 V2 (T.drop k).length (fl Rg.cells (T.drop k))) := Lib.hid (by rw [← hV2]; exact rg_drop HTR.out hk)
        have EV1 := Lib.hid hV1
        have EV2 := Lib.hid hV2
        clear hV1 hV2
        have k1 := kb
        generalize hwz : World.drewN wr _ = wz at ⊢
        have k2 : Blk wz w.heap.size 74 #[.int .u64 x.f, .int .u64 x.t] := by rw [← hwz]; exact kb.drewN _
        have hB2 : Below w.heap.size w wz := by rw [← hwz]; exact below_drewN hB _
        clear hwz kb hB k1 d0 d1
        try clear x0 x1
        go_upto_region 4 with fail
        refine wp_region_held_drew (S := fun wy => Below w.heap.size w wy ∧ Blk wy w.heap.size 74 #[.int .u64 x.f, .int .u64 x.t]) (by kernel_rfl) ⟨hB2.drew, k2.drew⟩ (fun hH => ?_)
        generalize wz.drew = x0 at hH ⊢
        clear k2 hB2
        refine tkH 1 rfl (yieldsIf_pure _ (.slice (some ⟨b, o, none⟩) T.length c) rfl (.inl rfl) rfl) hH ?_
        try simp only [zz1, zz2, zz3, Act.put, zz4, zz5, zz6]
        refine tkH 2 rfl (yieldsIf_pure _ (.int .i64 k) rfl (.inl rfl) rfl) hH ?_
        try simp only [zz1, zz2, zz3, Act.put, zz4, zz5, zz6]
        refine tkH 3 rfl (yieldsIf_cell (V1) rfl (fun w h => by rw [← EV1.out]; go_simp)) hH ?_
        try simp only [zz1, zz2, zz3, Act.put, zz4, zz5, zz6]
        refine tkH 5 rfl (yieldsIf_row (w.heap.size) 74 #[.int .u64 x.f, .int .u64 x.t] 74 _ _ rfl rfl rfl (fun w h => h.2) Try.underlying74 rfl (by kernel_rfl)) hH ?_
        try simp only [zz1, zz2, zz3, Act.put, zz4, zz5, zz6]
        refine tkH 8 rfl (yieldsIf_pure _ (.slice (some ⟨b, o, none⟩) T.length c) rfl (.inl rfl) rfl) hH ?_
        try simp only [zz1, zz2, zz3, Act.put, zz4, zz5, zz6]
        refine tkH 9 rfl (yieldsIf_pure _ (.int .i64 k) rfl (.inl rfl) rfl) hH ?_
        try simp only [zz1, zz2, zz3, Act.put, zz4, zz5, zz6]
        refine tkH 10 rfl (yieldsIf_cell (V2) rfl (fun w h => by rw [← EV2.out]; go_simp)) hH ?_
        try simp only [zz1, zz2, zz3, Act.put, zz4, zz5, zz6]
        refine rdH [0, 6] ?_
        refine AllReadyH.cons rfl (fun KK hK => ?_) ?_
        · rw [if_pos (by rfl)]
          go_simp
          have ho1 := Lib.hid (own_mono (own0 x0 74 2) (show w.heap.size + 1 ≤ x0.heap.size from hH.2.lt))
          have hc1 : Below w.heap.size w (x0.alloc (.cells #[] 74)) ∧ Blk (x0.alloc (.cells #[] 74)) w.heap.size 74 #[.int .u64 x.f, .int .u64 x.t] := ⟨bal hH.1 (.cells #[] 74), hH.2.alloc (.cells #[] 74)⟩
          generalize x0.alloc (.cells #[] 74) = y1 at hc1 ho1 ⊢
          generalize x0.heap.size = g1 at ho1 ⊢
          refine hK.out _ _ hc1 (fun hH1 => ?_)
          clear hc1
          clear hK KK
          try simp only [zz1, zz2, zz3, Act.put, zz4, zz5, zz6]
          refine rdH [4, 6] ?_
          refine AllReadyH.cons rfl (fun KK hK => ?_) ?_
          · refine step_app_all (f := Rg.cells) rfl (.tmp 22) (.tmp 25) 26 rfl (w.heap.size + 1) 74 2 16 infoRg rfl (by decide) Try.underlying26 rg2 rg_one _ w w.heap.size ([] : List Rg) (T.take k) (.slice (some ⟨g1, 0, none⟩) 0 0) (V1) rfl rfl (HV1.out.below hH1.1) ho1.out hH1.1 (Nat.le_succ _) hH1.2.lt (by simp; omega) (by unfold maxLen; simp; omega) (fun A2 c2 W2 h2 h3 h4 => ?_)
            have hg2 := Blk.grown hH1.2 h4 (own_ne_low ho1.out (Nat.lt_succ_self _))
            generalize Value.slice A2 (([] : List Rg).length + (T.take k).length) c2 = U2 at h2 ⊢
            have ho2 := Lib.hid h2
            clear h2 h4
            refine hK.out _ _ ⟨h3, hg2⟩ (fun hH2 => ?_)
            clear h3
            clear hg2
            clear hK KK
            try simp only [zz1, zz2, zz3, Act.put, zz4, zz5, zz6]
            refine rdH [6] ?_
            refine c1H rfl fun KK hK => ?_
            rw [if_pos (by rfl)]
            go_simp
            have kl3 := Blk.new W2 74 #[.int .u64 x.f, .int .u64 x.t]
            have ne3 := Lib.hid (own_ne_new ho2.out)
            have ho3 := Lib.hid (ho2.out.alloc (.cells #[.int .u64 x.f, .int .u64 x.t] 74))
            have hc3 : Below w.heap.size w (W2.alloc (.cells #[.int .u64 x.f, .int .u64 x.t] 74)) ∧ Blk (W2.alloc (.cells #[.int .u64 x.f, .int .u64 x.t] 74)) w.heap.size 74 #[.int .u64 x.f, .int .u64 x.t] := ⟨bal hH2.1 (.cells #[.int .u64 x.f, .int .u64 x.t] 74), hH2.2.alloc (.cells #[.int .u64 x.f, .int .u64 x.t] 74)⟩
            generalize W2.alloc (.cells #[.int .u64 x.f, .int .u64 x.t] 74) = y3 at hc3 kl3 ho3 ⊢
            generalize W2.heap.size = g3 at kl3 ne3 ho3 ⊢
            refine hK.out _ _ hc3 (fun hH3 => ?_)
            clear hc3
            clear hK KK
            try simp only [zz1, zz2, zz3, Act.put, zz4, zz5, zz6]
            refine rdH [7] ?_
            refine c1H rfl fun KK hK => ?_
            refine step_app_all (f := Rg.cells) rfl (.tmp 26) (.tmp 28) 26 rfl (w.heap.size + 1) 74 2 16 infoRg rfl (by decide) Try.underlying26 rg2 rg_one _ w w.heap.size (T.take k) ([x]) (U2) (.slice (some ⟨g3, 0, none⟩) 1 1) rfl rfl (rg_lit1 kl3) ho3.out hH3.1 (Nat.le_succ _) hH3.2.lt (by simp; omega) (by unfold maxLen; simp; omega) (fun A2 c2 W4 h2 h3 h4 => ?_)
            have hg4 := Blk.grown hH3.2 h4 (own_ne_low ho3.out (Nat.lt_succ_self _))
            generalize Value.slice A2 ((T.take k).length + ([x]).length) c2 = U4 at h2 ⊢
            have ho4 := Lib.hid h2
            clear h2 h4
            refine hK.out _ _ ⟨h3, hg4⟩ (fun hH4 => ?_)
            clear h3
            clear hg4
            clear hK KK
            try simp only [zz1, zz2, zz3, Act.put, zz4, zz5, zz6]
            refine rdH [11] ?_
            refine c1H rfl fun KK hK => ?_
            refine step_app_all (f := Rg.cells) rfl (.tmp 29) (.tmp 32) 26 rfl (w.heap.size + 1) 74 2 16 infoRg rfl (by decide) Try.underlying26 rg2 rg_one _ w w.heap.size (T.take k ++ [x]) (T.drop k) (U4) (V2) rfl rfl (HV2.out.below hH4.1) ho4.out hH4.1 (Nat.le_succ _) hH4.2.lt (by simp; omega) (by unfold maxLen; simp; omega) (fun A2 c2 W5 h2 h3 h4 => ?_)
            have hg5 := Blk.grown hH4.2 h4 (own_ne_low ho4.out (Nat.lt_succ_self _))
            generalize Value.slice A2 ((T.take k ++ [x]).length + (T.drop k).length) c2 = U5 at h2 ⊢
            have ho5 := Lib.hid h2
            clear h2 h4
            refine hK.out _ _ ⟨h3, hg5⟩ (fun hH5 => ?_)
            clear h3
            clear hg5
            clear hK KK
            try simp only [zz1, zz2, zz3, Act.put, zz4, zz5, zz6]
            refine tkH 12 rfl (yieldsIf_pure _ (U5) rfl (.inr rfl) rfl) hH5 ?_
            try simp only [zz1, zz2, zz3, Act.put, zz4, zz5, zz6]
            refine wpAnyH_done (by kernel_rfl) ?_ _
            go_wp2_with fail
            refine bodyPost_ret (v := U5) (by simp [results, Try.results126, go_sem]) rfl ?_
            exact ⟨k, _, HK.out, rfl, RowB.own ho5.out (Nat.le_succ _), hH5.1⟩
          refine AllReadyH.cons rfl (fun KK hK => ?_) ?_
          · rw [if_pos (by rfl)]
            go_simp
            have kl6 := Blk.new y1 74 #[.int .u64 x.f, .int .u64 x.t]
            have ne6 := Lib.hid (own_ne_new ho1.out)
            have ho6 := Lib.hid (ho1.out.alloc (.cells #[.int .u64 x.f, .int .u64 x.t] 74))
            have hc6 : Below w.heap.size w (y1.alloc (.cells #[.int .u64 x.f, .int .u64 x.t] 74)) ∧ Blk (y1.alloc (.cells #[.int .u64 x.f, .int .u64 x.t] 74)) w.heap.size 74 #[.int .u64 x.f, .int .u64 x.t] := ⟨bal hH1.1 (.cells #[.int .u64 x.f, .int .u64 x.t] 74), hH1.2.alloc (.cells #[.int .u64 x.f, .int .u64 x.t] 74)⟩
            generalize y1.alloc (.cells #[.int .u64 x.f, .int .u64 x.t] 74) = y6 at hc6 kl6 ho6 ⊢
            generalize y1.heap.size = g6 at kl6 ne6 ho6 ⊢
            refine hK.out _ _ hc6 (fun hH6 => ?_)
            clear hc6
            clear hK KK
            try simp only [zz1, zz2, zz3, Act.put, zz4, zz5, zz6]
            refine rdH [4] ?_
            refine c1H rfl fun KK hK => ?_
            refine step_app_all (f := Rg.cells) rfl (.tmp 22) (.tmp 25) 26 rfl (w.heap.size + 1) 74 2 16 infoRg rfl (by decide) Try.underlying26 rg2 rg_one _ w w.heap.size ([] : List Rg) (T.take k) (.slice (some ⟨g1, 0, none⟩) 0 0) (V1) rfl rfl (HV1.out.below hH6.1) ho6.out hH6.1 (Nat.le_succ _) hH6.2.lt (by simp; omega) (by unfold maxLen; simp; omega) (fun A2 c2 W7 h2 h3 h4 => ?_)
            have hg7 := Blk.grown hH6.2 h4 (own_ne_low ho6.out (Nat.lt_succ_self _))
            have kl7 := Blk.grown kl6 h4 ne6.out
            generalize Value.slice A2 (([] : List Rg).length + (T.take k).length) c2 = U7 at h2 ⊢
            have ho7 := Lib.hid h2
            clear h2 h4
            refine hK.out _ _ ⟨h3, hg7⟩ (fun hH7 => ?_)
            clear h3
            clear hg7
            clear hK KK
            try simp only [zz1, zz2, zz3, Act.put, zz4, zz5, zz6]
            refine rdH [7] ?_
            refine c1H rfl fun KK hK => ?_
            refine step_app_all (f := Rg.cells) rfl (.tmp 26) (.tmp 28) 26 rfl (w.heap.size + 1) 74 2 16 infoRg rfl (by decide) Try.underlying26 rg2 rg_one _ w w.heap.size (T.take k) ([x]) (U7) (.slice (some ⟨g6, 0, none⟩) 1 1) rfl rfl (rg_lit1 kl7) ho7.out hH7.1 (Nat.le_succ _) hH7.2.lt (by simp; omega) (by unfold maxLen; simp; omega) (fun A2 c2 W8 h2 h3 h4 => ?_)
            have hg8 := Blk.grown hH7.2 h4 (own_ne_low ho7.out (Nat.lt_succ_self _))
            generalize Value.slice A2 ((T.take k).length + ([x]).length) c2 = U8 at h2 ⊢
            have ho8 := Lib.hid h2
            clear h2 h4
            refine hK.out _ _ ⟨h3, hg8⟩ (fun hH8 => ?_)
            clear h3
            clear hg8
            clear hK KK
            try simp only [zz1, zz2, zz3, Act.put, zz4, zz5, zz6]
            refine rdH [11] ?_
            refine c1H rfl fun KK hK => ?_
            refine step_app_all (f := Rg.cells) rfl (.tmp 29) (.tmp 32) 26 rfl (w.heap.size + 1) 74 2 16 infoRg rfl (by decide) Try.underlying26 rg2 rg_one _ w w.heap.size (T.take k ++ [x]) (T.drop k) (U8) (V2) rfl rfl (HV2.out.below hH8.1) ho8.out hH8.1 (Nat.le_succ _) hH8.2.lt (by simp; omega) (by unfold maxLen; simp; omega) (fun A2 c2 W9 h2 h3 h4 => ?_)
            have hg9 := Blk.grown hH8.2 h4 (own_ne_low ho8.out (Nat.lt_succ_self _))
            generalize Value.slice A2 ((T.take k ++ [x]).length + (T.drop k).length) c2 = U9 at h2 ⊢
            have ho9 := Lib.hid h2
            clear h2 h4
            refine hK.out _ _ ⟨h3, hg9⟩ (fun hH9 => ?_)
            clear h3
            clear hg9
            clear hK KK
            try simp only [zz1, zz2, zz3, Act.put, zz4, zz5, zz6]
            refine tkH 12 rfl (yieldsIf_pure _ (U9) rfl (.inr rfl) rfl) hH9 ?_
            try simp only [zz1, zz2, zz3, Act.put, zz4, zz5, zz6]
            refine wpAnyH_done (by kernel_rfl) ?_ _
            go_wp2_with fail
            refine bodyPost_ret (v := U9) (by simp [results, Try.results126, go_sem]) rfl ?_
            exact ⟨k, _, HK.out, rfl, RowB.own ho9.out (Nat.le_succ _), hH9.1⟩
          exact AllReadyH.nil
        refine AllReadyH.cons rfl (fun KK hK => ?_) ?_
        · rw [if_pos (by rfl)]
          go_simp
          have kl10 := Blk.new x0 74 #[.int .u64 x.f, .int .u64 x.t]
          have hc10 : Below w.heap.size w (x0.alloc (.cells #[.int .u64 x.f, .int .u64 x.t] 74)) ∧ Blk (x0.alloc (.cells #[.int .u64 x.f, .int .u64 x.t] 74)) w.heap.size 74 #[.int .u64 x.f, .int .u64 x.t] := ⟨bal hH.1 (.cells #[.int .u64 x.f, .int .u64 x.t] 74), hH.2.alloc (.cells #[.int .u64 x.f, .int .u64 x.t] 74)⟩
          generalize x0.alloc (.cells #[.int .u64 x.f, .int .u64 x.t] 74) = y10 at hc10 kl10 ⊢
          generalize x0.heap.size = g10 at kl10 ⊢
          refine hK.out _ _ hc10 (fun hH10 => ?_)
          clear hc10
          clear hK KK
          try simp only [zz1, zz2, zz3, Act.put, zz4, zz5, zz6]
          refine rdH [0] ?_
          refine c1H rfl fun KK hK => ?_
          rw [if_pos (by rfl)]
          go_simp
          have ho11 := Lib.hid (own_mono (own0 y10 74 2) (show w.heap.size + 1 ≤ y10.heap.size from hH10.2.lt))
          have ne11 := Lib.hid (own_ne_low (own0 y10 74 2) kl10.lt)
          have kl11 := kl10.alloc (.cells #[] 74)
          have hc11 : Below w.heap.size w (y10.alloc (.cells #[] 74)) ∧ Blk (y10.alloc (.cells #[] 74)) w.heap.size 74 #[.int .u64 x.f, .int .u64 x.t] := ⟨bal hH10.1 (.cells #[] 74), hH10.2.alloc (.cells #[] 74)⟩
          generalize y10.alloc (.cells #[] 74) = y11 at hc11 ho11 kl11 ⊢
          generalize y10.heap.size = g11 at ho11 ne11 kl11 ⊢
          refine hK.out _ _ hc11 (fun hH11 => ?_)
          clear hc11
          clear hK KK
          try simp only [zz1, zz2, zz3, Act.put, zz4, zz5, zz6]
          refine rdH [4] ?_
          refine c1H rfl fun KK hK => ?_
          refine step_app_all (f := Rg.cells) rfl (.tmp 22) (.tmp 25) 26 rfl (w.heap.size + 1) 74 2 16 infoRg rfl (by decide) Try.underlying26 rg2 rg_one _ w w.heap.size ([] : List Rg) (T.take k) (.slice (some ⟨g11, 0, none⟩) 0 0) (V1) rfl rfl (HV1.out.below hH11.1) ho11.out hH11.1 (Nat.le_succ _) hH11.2.lt (by simp; omega) (by unfold maxLen; simp; omega) (fun A2 c2 W12 h2 h3 h4 => ?_)
          have hg12 := Blk.grown hH11.2 h4 (own_ne_low ho11.out (Nat.lt_succ_self _))
          have kl12 := Blk.grown kl11 h4 ne11.out
          generalize Value.slice A2 (([] : List Rg).length + (T.take k).length) c2 = U12 at h2 ⊢
          have ho12 := Lib.hid h2
          clear h2 h4
          refine hK.out _ _ ⟨h3, hg12⟩ (fun hH12 => ?_)
          clear h3
          clear hg12
          clear hK KK
          try simp only [zz1, zz2, zz3, Act.put, zz4, zz5, zz6]
          refine rdH [7] ?_
          refine c1H rfl fun KK hK => ?_
          refine step_app_all (f := Rg.cells) rfl (.tmp 26) (.tmp 28) 26 rfl (w.heap.size + 1) 74 2 16 infoRg rfl (by decide) Try.underlying26 rg2 rg_one _ w w.heap.size (T.take k) ([x]) (U12) (.slice (some ⟨g10, 0, none⟩) 1 1) rfl rfl (rg_lit1 kl12) ho12.out hH12.1 (Nat.le_succ _) hH12.2.lt (by simp; omega) (by unfold maxLen; simp; omega) (fun A2 c2 W13 h2 h3 h4 => ?_)
          have hg13 := Blk.grown hH12.2 h4 (own_ne_low ho12.out (Nat.lt_succ_self _))
          generalize Value.slice A2 ((T.take k).length + ([x]).length) c2 = U13 at h2 ⊢
          have ho13 := Lib.hid h2
          clear h2 h4
          refine hK.out _ _ ⟨h3, hg13⟩ (fun hH13 => ?_)
          clear h3
          clear hg13
          clear hK KK
          try simp only [zz1, zz2, zz3, Act.put, zz4, zz5, zz6]
          refine rdH [11] ?_
          refine c1H rfl fun KK hK => ?_
          refine step_app_all (f := Rg.cells) rfl (.tmp 29) (.tmp 32) 26 rfl (w.heap.size + 1) 74 2 16 infoRg rfl (by decide) Try.underlying26 rg2 rg_one _ w w.heap.size (T.take k ++ [x]) (T.drop k) (U13) (V2) rfl rfl (HV2.out.below hH13.1) ho13.out hH13.1 (Nat.le_succ _) hH13.2.lt (by simp; omega) (by unfold maxLen; simp; omega) (fun A2 c2 W14 h2 h3 h4 => ?_)
          have hg14 := Blk.grown hH13.2 h4 (own_ne_low ho13.out (Nat.lt_succ_self _))
          generalize Value.slice A2 ((T.take k ++ [x]).length + (T.drop k).length) c2 = U14 at h2 ⊢
          have ho14 := Lib.hid h2
          clear h2 h4
          refine hK.out _ _ ⟨h3, hg14⟩ (fun hH14 => ?_)
          clear h3
          clear hg14
          clear hK KK
          try simp only [zz1, zz2, zz3, Act.put, zz4, zz5, zz6]
          refine tkH 12 rfl (yieldsIf_pure _ (U14) rfl (.inr rfl) rfl) hH14 ?_
          try simp only [zz1, zz2, zz3, Act.put, zz4, zz5, zz6]
          refine wpAnyH_done (by kernel_rfl) ?_ _
          go_wp2_with fail
          refine bodyPost_ret (v := U14) (by simp [results, Try.results126, go_sem]) rfl ?_
          exact ⟨k, _, HK.out, rfl, RowB.own ho14.out (Nat.le_succ _), hH14.1⟩
        exact AllReadyH.nil
    · obtain ⟨hki⟩ : PLift (¬ (k : Int) < T.length) := ⟨by omega⟩
      go_upto_region 2 with fail
      go_quiet (fail)
      obtain ⟨V1, hV1⟩ : ∃ V, sliced (A) 0 k c 2 = V := ⟨_, rfl⟩
      obtain ⟨V2, hV2⟩ : ∃ V, sliced (A) k T.length c 2 = V := ⟨_, rfl⟩
      have HV1 : Hid (SlAt w 2 V1 (T.take k).length (fl Rg.cells (T.take k))) := Lib.hid (by rw [← hV1]; exact rg_take HTR.out hk)
      have HV2 : Hid (SlAt w 2 V2 (T.drop k).length (fl Rg.cells (T.drop k))) := Lib.hid (by rw [← hV2]; exact rg_drop HTR.out hk)
      have EV1 := Lib.hid hV1
      have EV2 := Lib.hid hV2
      clear hV1 hV2
      have k1 := kb
      generalize hwz : World.drewN wr _ = wz at ⊢
      have k2 : Blk wz w.heap.size 74 #[.int .u64 x.f, .int .u64 x.t] := by rw [← hwz]; exact kb.drewN _
      have hB2 : Below w.heap.size w wz := by rw [← hwz]; exact below_drewN hB _
      clear hwz kb hB k1
      try clear x0 x1
      go_upto_region 4 with fail
      refine wp_region_held_drew (S := fun wy => Below w.heap.size w wy ∧ Blk wy w.heap.size 74 #[.int .u64 x.f, .int .u64 x.t]) (by kernel_rfl) ⟨hB2.drew, k2.drew⟩ (fun hH => ?_)
      generalize wz.drew = x0 at hH ⊢
      clear k2 hB2
      refine tkH 1 rfl (yieldsIf_pure _ (.slice (A) T.length c) rfl (.inl rfl) rfl) hH ?_
      try simp only [zz1, zz2, zz3, Act.put, zz4, zz5, zz6]
      refine tkH 2 rfl (yieldsIf_pure _ (.int .i64 k) rfl (.inl rfl) rfl) hH ?_
      try simp only [zz1, zz2, zz3, Act.put, zz4, zz5, zz6]
      refine tkH 3 rfl (yieldsIf_cell (V1) rfl (fun w h => by rw [← EV1.out]; go_simp)) hH ?_
      try simp only [zz1, zz2, zz3, Act.put, zz4, zz5, zz6]
      refine tkH 5 rfl (yieldsIf_row (w.heap.size) 74 #[.int .u64 x.f, .int .u64 x.t] 74 _ _ rfl rfl rfl (fun w h => h.2) Try.underlying74 rfl (by kernel_rfl)) hH ?_
      try simp only [zz1, zz2, zz3, Act.put, zz4, zz5, zz6]
      refine tkH 8 rfl (yieldsIf_pure _ (.slice (A) T.length c) rfl (.inl rfl) rfl) hH ?_
      try simp only [zz1, zz2, zz3, Act.put, zz4, zz5, zz6]
      refine tkH 9 rfl (yieldsIf_pure _ (.int .i64 k) rfl (.inl rfl) rfl) hH ?_
      try simp only [zz1, zz2, zz3, Act.put, zz4, zz5, zz6]
      refine tkH 10 rfl (yieldsIf_cell (V2) rfl (fun w h => by rw [← EV2.out]; go_simp)) hH ?_
      try simp only [zz1, zz2, zz3, Act.put, zz4, zz5, zz6]
      refine rdH [0, 6] ?_
      refine AllReadyH.cons rfl (fun KK hK => ?_) ?_
      · rw [if_pos (by rfl)]
        go_simp
        have ho15 := Lib.hid (own_mono (own0 x0 74 2) (show w.heap.size + 1 ≤ x0.heap.size from hH.2.lt))
        have hc15 : Below w.heap.size w (x0.alloc (.cells #[] 74)) ∧ Blk (x0.alloc (.cells #[] 74)) w.heap.size 74 #[.int .u64 x.f, .int .u64 x.t] := ⟨bal hH.1 (.cells #[] 74), hH.2.alloc (.cells #[] 74)⟩
        generalize x0.alloc (.cells #[] 74) = y15 at hc15 ho15 ⊢
        generalize x0.heap.size = g15 at ho15 ⊢
        refine hK.out _ _ hc15 (fun hH15 => ?_)
        clear hc15
        clear hK KK
        try simp only [zz1, zz2, zz3, Act.put, zz4, zz5, zz6]
        refine rdH [4, 6] ?_
        refine AllReadyH.cons rfl (fun KK hK => ?_) ?_
        · refine step_app_all (f := Rg.cells) rfl (.tmp 22) (.tmp 25) 26 rfl (w.heap.size + 1) 74 2 16 infoRg rfl (by decide) Try.underlying26 rg2 rg_one _ w w.heap.size ([] : List Rg) (T.take k) (.slice (some ⟨g15, 0, none⟩) 0 0) (V1) rfl rfl (HV1.out.below hH15.1) ho15.out hH15.1 (Nat.le_succ _) hH15.2.lt (by simp; omega) (by unfold maxLen; simp; omega) (fun A2 c2 W16 h2 h3 h4 => ?_)
          have hg16 := Blk.grown hH15.2 h4 (own_ne_low ho15.out (Nat.lt_succ_self _))
          generalize Value.slice A2 (([] : List Rg).length + (T.take k).length) c2 = U16 at h2 ⊢
          have ho16 := Lib.hid h2
          clear h2 h4
          refine hK.out _ _ ⟨h3, hg16⟩ (fun hH16 => ?_)
          clear h3
          clear hg16
          clear hK KK
          try simp only [zz1, zz2, zz3, Act.put, zz4, zz5, zz6]
          refine rdH [6] ?_
          refine c1H rfl fun KK hK => ?_
          rw [if_pos (by rfl)]
          go_simp
          have kl17 := Blk.new W16 74 #[.int .u64 x.f, .int .u64 x.t]
          have ne17 := Lib.hid (own_ne_new ho16.out)
          have ho17 := Lib.hid (ho16.out.alloc (.cells #[.int .u64 x.f, .int .u64 x.t] 74))
          have hc17 : Below w.heap.size w (W16.alloc (.cells #[.int .u64 x.f, .int .u64 x.t] 74)) ∧ Blk (W16.alloc (.cells #[.int .u64 x.f, .int .u64 x.t] 74)) w.heap.size 74 #[.int .u64 x.f, .int .u64 x.t] := ⟨bal hH16.1 (.cells #[.int .u64 x.f, .int .u64 x.t] 74), hH16.2.alloc (.cells #[.int .u64 x.f, .int .u64 x.t] 74)⟩
          generalize W16.alloc (.cells #[.int .u64 x.f, .int .u64 x.t] 74) = y17 at hc17 kl17 ho17 ⊢
          generalize W16.heap.size = g17 at kl17 ne17 ho17 ⊢
          refine hK.out _ _ hc17 (fun hH17 => ?_)
          clear hc17
          clear hK KK
          try simp only [zz1, zz2, zz3, Act.put, zz4, zz5, zz6]
          refine rdH [7] ?_
          refine c1H rfl fun KK hK => ?_
          refine step_app_all (f := Rg.cells) rfl (.tmp 26) (.tmp 28) 26 rfl (w.heap.size + 1) 74 2 16 infoRg rfl (by decide) Try.underlying26 rg2 rg_one _ w w.heap.size (T.take k) ([x]) (U16) (.slice (some ⟨g17, 0, none⟩) 1 1) rfl rfl (rg_lit1 kl17) ho17.out hH17.1 (Nat.le_succ _) hH17.2.lt (by simp; omega) (by unfold maxLen; simp; omega) (fun A2 c2 W18 h2 h3 h4 => ?_)
          have hg18 := Blk.grown hH17.2 h4 (own_ne_low ho17.out (Nat.lt_succ_self _))
          generalize Value.slice A2 ((T.take k).length + ([x]).length) c2 = U18 at h2 ⊢
          have ho18 := Lib.hid h2
          clear h2 h4
          refine hK.out _ _ ⟨h3, hg18⟩ (fun hH18 => ?_)
          clear h3
          clear hg18
          clear hK KK
          try simp only [zz1, zz2, zz3, Act.put, zz4, zz5, zz6]
          refine rdH [11] ?_
          refine c1H rfl fun KK hK => ?_
          refine step_app_all (f := Rg.cells) rfl (.tmp 29) (.tmp 32) 26 rfl (w.heap.size + 1) 74 2 16 infoRg rfl (by decide) Try.underlying26 rg2 rg_one _ w w.heap.size (T.take k ++ [x]) (T.drop k) (U18) (V2) rfl rfl (HV2.out.below hH18.1) ho18.out hH18.1 (Nat.le_succ _) hH18.2.lt (by simp; omega) (by unfold maxLen; simp; omega) (fun A2 c2 W19 h2 h3 h4 => ?_)
          have hg19 := Blk.grown hH18.2 h4 (own_ne_low ho18.out (Nat.lt_succ_self _))
          generalize Value.slice A2 ((T.take k ++ [x]).length + (T.drop k).length) c2 = U19 at h2 ⊢
          have ho19 := Lib.hid h2
          clear h2 h4
          refine hK.out _ _ ⟨h3, hg19⟩ (fun hH19 => ?_)
          clear h3
          clear hg19
          clear hK KK
          try simp only [zz1, zz2, zz3, Act.put, zz4, zz5, zz6]
          refine tkH 12 rfl (yieldsIf_pure _ (U19) rfl (.inr rfl) rfl) hH19 ?_
          try simp only [zz1, zz2, zz3, Act.put, zz4, zz5, zz6]
          refine wpAnyH_done (by kernel_rfl) ?_ _
          go_wp2_with fail
          refine bodyPost_ret (v := U19) (by simp [results, Try.results126, go_sem]) rfl ?_
          exact ⟨k, _, HK.out, rfl, RowB.own ho19.out (Nat.le_succ _), hH19.1⟩
        refine AllReadyH.cons rfl (fun KK hK => ?_) ?_
        · rw [if_pos (by rfl)]
          go_simp
          have kl20 := Blk.new y15 74 #[.int .u64 x.f, .int .u64 x.t]
          have ne20 := Lib.hid (own_ne_new ho15.out)
          have ho20 := Lib.hid (ho15.out.alloc (.cells #[.int .u64 x.f, .int .u64 x.t] 74))
          have hc20 : Below w.heap.size w (y15.alloc (.cells #[.int .u64 x.f, .int .u64 x.t] 74)) ∧ Blk (y15.alloc (.cells #[.int .u64 x.f, .int .u64 x.t] 74)) w.heap.size 74 #[.int .u64 x.f, .int .u64 x.t] := ⟨bal hH15.1 (.cells #[.int .u64 x.f, .int .u64 x.t] 74), hH15.2.alloc (.cells #[.int .u64 x.f, .int .u64 x.t] 74)⟩
          generalize y15.alloc (.cells #[.int .u64 x.f, .int .u64 x.t] 74) = y20 at hc20 kl20 ho20 ⊢
          generalize y15.heap.size = g20 at kl20 ne20 ho20 ⊢
          refine hK.out _ _ hc20 (fun hH20 => ?_)
          clear hc20
          clear hK KK
          try simp only [zz1, zz2, zz3, Act.put, zz4, zz5, zz6]
          refine rdH [4] ?_
          refine c1H rfl fun KK hK => ?_
          refine step_app_all (f := Rg.cells) rfl (.tmp 22) (.tmp 25) 26 rfl (w.heap.size + 1) 74 2 16 infoRg rfl (by decide) Try.underlying26 rg2 rg_one _ w w.heap.size ([] : List Rg) (T.take k) (.slice (some ⟨g15, 0, none⟩) 0 0) (V1) rfl rfl (HV1.out.below hH20.1) ho20.out hH20.1 (Nat.le_succ _) hH20.2.lt (by simp; omega) (by unfold maxLen; simp; omega) (fun A2 c2 W21 h2 h3 h4 => ?_)
          have hg21 := Blk.grown hH20.2 h4 (own_ne_low ho20.out (Nat.lt_succ_self _))
          have kl21 := Blk.grown kl20 h4 ne20.out
          generalize Value.slice A2 (([] : List Rg).length + (T.take k).length) c2 = U21 at h2 ⊢
          have ho21 := Lib.hid h2
          clear h2 h4
          refine hK.out _ _ ⟨h3, hg21⟩ (fun hH21 => ?_)
          clear h3
          clear hg21
          clear hK KK
          try simp only [zz1, zz2, zz3, Act.put, zz4, zz5, zz6]
          refine rdH [7] ?_
          refine c1H rfl fun KK hK => ?_
          refine step_app_all (f := Rg.cells) rfl (.tmp 26) (.tmp 28) 26 rfl (w.heap.size + 1) 74 2 16 infoRg rfl (by decide) Try.underlying26 rg2 rg_one _ w w.heap.size (T.take k) ([x]) (U21) (.slice (some ⟨g20, 0, none⟩) 1 1) rfl rfl (rg_lit1 kl21) ho21.out hH21.1 (Nat.le_succ _) hH21.2.lt (by simp; omega) (by unfold maxLen; simp; omega) (fun A2 c2 W22 h2 h3 h4 => ?_)
          have hg22 := Blk.grown hH21.2 h4 (own_ne_low ho21.out (Nat.lt_succ_self _))
          generalize Value.slice A2 ((T.take k).length + ([x]).length) c2 = U22 at h2 ⊢
          have ho22 := Lib.hid h2
          clear h2 h4
          refine hK.out _ _ ⟨h3, hg22⟩ (fun hH22 => ?_)
          clear h3
          clear hg22
          clear hK KK
          try simp only [zz1, zz2, zz3, Act.put, zz4, zz5, zz6]
          refine rdH [11] ?_
          refine c1H rfl fun KK hK => ?_
          refine step_app_all (f := Rg.cells) rfl (.tmp 29) (.tmp 32) 26 rfl (w.heap.size + 1) 74 2 16 infoRg rfl (by decide) Try.underlying26 rg2 rg_one _ w w.heap.size (T.take k ++ [x]) (T.drop k) (U22) (V2) rfl rfl (HV2.out.below hH22.1) ho22.out hH22.1 (Nat.le_succ _) hH22.2.lt (by simp; omega) (by unfold maxLen; simp; omega) (fun A2 c2 W23 h2 h3 h4 => ?_)
          have hg23 := Blk.grown hH22.2 h4 (own_ne_low ho22.out (Nat.lt_succ_self _))
          generalize Value.slice A2 ((T.take k ++ [x]).length + (T.drop k).length) c2 = U23 at h2 ⊢
          have ho23 := Lib.hid h2
          clear h2 h4
          refine hK.out _ _ ⟨h3, hg23⟩ (fun hH23 => ?_)
          clear h3
          clear hg23
          clear hK KK
          try simp only [zz1, zz2, zz3, Act.put, zz4, zz5, zz6]
          refine tkH 12 rfl (yieldsIf_pure _ (U23) rfl (.inr rfl) rfl) hH23 ?_
          try simp only [zz1, zz2, zz3, Act.put, zz4, zz5, zz6]
          refine wpAnyH_done (by kernel_rfl) ?_ _
          go_wp2_with fail
          refine bodyPost_ret (v := U23) (by simp [results, Try.results126, go_sem]) rfl ?_
          exact ⟨k, _, HK.out, rfl, RowB.own ho23.out (Nat.le_succ _), hH23.1⟩
        exact AllReadyH.nil
      refine AllReadyH.cons rfl (fun KK hK => ?_) ?_
      · rw [if_pos (by rfl)]
        go_simp
        have kl24 := Blk.new x0 74 #[.int .u64 x.f, .int .u64 x.t]
        have hc24 : Below w.heap.size w (x0.alloc (.cells #[.int .u64 x.f, .int .u64 x.t] 74)) ∧ Blk (x0.alloc (.cells #[.int .u64 x.f, .int .u64 x.t] 74)) w.heap.size 74 #[.int .u64 x.f, .int .u64 x.t] := ⟨bal hH.1 (.cells #[.int .u64 x.f, .int .u64 x.t] 74), hH.2.alloc (.cells #[.int .u64 x.f, .int .u64 x.t] 74)⟩
        generalize x0.alloc (.cells #[.int .u64 x.f, .int .u64 x.t] 74) = y24 at hc24 kl24 ⊢
        generalize x0.heap.size = g24 at kl24 ⊢
        refine hK.out _ _ hc24 (fun hH24 => ?_)
        clear hc24
        clear hK KK
        try simp only [zz1, zz2, zz3, Act.put, zz4, zz5, zz6]
        refine rdH [0] ?_
        refine c1H rfl fun KK hK => ?_
        rw [if_pos (by rfl)]
        go_simp
        have ho25 := Lib.hid (own_mono (own0 y24 74 2) (show w.heap.size + 1 ≤ y24.heap.size from hH24.2.lt))
        have ne25 := Lib.hid (own_ne_low (own0 y24 74 2) kl24.lt)
        have kl25 := kl24.alloc (.cells #[] 74)
        have hc25 : Below w.heap.size w (y24.alloc (.cells #[] 74)) ∧ Blk (y24.alloc (.cells #[] 74)) w.heap.size 74 #[.int .u64 x.f, .int .u64 x.t] := ⟨bal hH24.1 (.cells #[] 74), hH24.2.alloc (.cells #[] 74)⟩
        generalize y24.alloc (.cells #[] 74) = y25 at hc25 ho25 kl25 ⊢
        generalize y24.heap.size = g25 at ho25 ne25 kl25 ⊢
        refine hK.out _ _ hc25 (fun hH25 => ?_)
        clear hc25
        clear hK KK
        try simp only [zz1, zz2, zz3, Act.put, zz4, zz5, zz6]
        refine rdH [4] ?_
        refine c1H rfl fun KK hK => ?_
        refine step_app_all (f := Rg.cells) rfl (.tmp 22) (.tmp 25) 26 rfl (w.heap.size + 1) 74 2 16 infoRg rfl (by decide) Try.underlying26 rg2 rg_one _ w w.heap.size ([] : List Rg) (T.take k) (.slice (some ⟨g25, 0, none⟩) 0 0) (V1) rfl rfl (HV1.out.below hH25.1) ho25.out hH25.1 (Nat.le_succ _) hH25.2.lt (by simp; omega) (by unfold maxLen; simp; omega) (fun A2 c2 W26 h2 h3 h4 => ?_)
        have hg26 := Blk.grown hH25.2 h4 (own_ne_low ho25.out (Nat.lt_succ_self _))
        have kl26 := Blk.grown kl25 h4 ne25.out
        generalize Value.slice A2 (([] : List Rg).length + (T.take k).length) c2 = U26 at h2 ⊢
        have ho26 := Lib.hid h2
        clear h2 h4
        refine hK.out _ _ ⟨h3, hg26⟩ (fun hH26 => ?_)
        clear h3
        clear hg26
        clear hK KK
        try simp only [zz1, zz2, zz3, Act.put, zz4, zz5, zz6]
        refine rdH [7] ?_
        refine c1H rfl fun KK hK => ?_
        refine step_app_all (f := Rg.cells) rfl (.tmp 26) (.tmp 28) 26 rfl (w.heap.size + 1) 74 2 16 infoRg rfl (by decide) Try.underlying26 rg2 rg_one _ w w.heap.size (T.take k) ([x]) (U26) (.slice (some ⟨g24, 0, none⟩) 1 1) rfl rfl (rg_lit1 kl26) ho26.out hH26.1 (Nat.le_succ _) hH26.2.lt (by simp; omega) (by unfold maxLen; simp; omega) (fun A2 c2 W27 h2 h3 h4 => ?_)
        have hg27 := Blk.grown hH26.2 h4 (own_ne_low ho26.out (Nat.lt_succ_self _))
        generalize Value.slice A2 ((T.take k).length + ([x]).length) c2 = U27 at h2 ⊢
        have ho27 := Lib.hid h2
        clear h2 h4
        refine hK.out _ _ ⟨h3, hg27⟩ (fun hH27 => ?_)
        clear h3
        clear hg27
        clear hK KK
        try simp only [zz1, zz2, zz3, Act.put, zz4, zz5, zz6]
        refine rdH [11] ?_
        refine c1H rfl fun KK hK => ?_
        refine step_app_all (f := Rg.cells) rfl (.tmp 29) (.tmp 32) 26 rfl (w.heap.size + 1) 74 2 16 infoRg rfl (by decide) Try.underlying26 rg2 rg_one _ w w.heap.size (T.take k ++ [x]) (T.drop k) (U27) (V2) rfl rfl (HV2.out.below hH27.1) ho27.out hH27.1 (Nat.le_succ _) hH27.2.lt (by simp; omega) (by unfold maxLen; simp; omega) (fun A2 c2 W28 h2 h3 h4 => ?_)
        have hg28 := Blk.grown hH27.2 h4 (own_ne_low ho27.out (Nat.lt_succ_self _))
        generalize Value.slice A2 ((T.take k ++ [x]).length + (T.drop k).length) c2 = U28 at h2 ⊢
        have ho28 := Lib.hid h2
        clear h2 h4
        refine hK.out _ _ ⟨h3, hg28⟩ (fun hH28 => ?_)
        clear h3
        clear hg28
        clear hK KK
        try simp only [zz1, zz2, zz3, Act.put, zz4, zz5, zz6]
        refine tkH 12 rfl (yieldsIf_pure _ (U28) rfl (.inr rfl) rfl) hH28 ?_
        try simp only [zz1, zz2, zz3, Act.put, zz4, zz5, zz6]
        refine wpAnyH_done (by kernel_rfl) ?_ _
        go_wp2_with fail
        refine bodyPost_ret (v := U28) (by simp [results, Try.results126, go_sem]) rfl ?_
        exact ⟨k, _, HK.out, rfl, RowB.own ho28.out (Nat.le_succ _), hH28.1⟩
      exact AllReadyH.nil

theorem joinK_len (l : List Rg) : ∀ k, (joinK l k).length ≤ k := by
  intro k
  induction k with
  | zero => exact Nat.le_refl _
  | succ k ih =>
    rw [joinK]
    split
    · omega
    · split
      · rw [List.length_set]; omega
      · rw [List.length_append, List.length_singleton]; omega
set_option maxRecDepth 100000 in
set_option maxHeartbeats 8000000 in
theorem join_any (L : List Rg) (hln : L.length ≤ 2000) (vt : Value) (w : World) (ht : RgsAt w vt L) :
    Calls Try.prog 125 #[vt] w (JoinPost (fun l => l = joinK L L.length ∧ l.length ≤ 1000) w) := by
  obtain ⟨A, c, rfl, hnc, hcc, hR⟩ := id ht
  unfold maxLen at hcc
  have HR := Lib.hid hR
  clear hR ht
  go_enter Try.func125, Try.ntmps125
  go_wp2_with fail
  go_loopw [4, 5] (fun s4 s5 wr => ∃ (k : Nat) (A2 : Option Addr) (c2 : Nat), k ≤ L.length ∧ s5 = .int .i64 k ∧ s4 = .slice A2 (joinK L k).length c2 ∧ wr.ownsRow w.heap.size 74 2 (.slice A2 (joinK L k).length c2) (joinK L k).length (fl Rg.cells (joinK L k)) ∧ Below w.heap.size w wr) (fun _ s _ => L.length - (intOf s).toNat)
  case atStart => exact ⟨0, none, 0, Nat.zero_le _, rfl, rfl, World.ownsRow_nil _ _ _ _, Below.refl _ _⟩
  case round =>
    obtain ⟨k, A2, c2, hk, rfl, rfl, ho, hB⟩ := hrel
    have hJl := joinK_len L k
    have HC1 : Hid (joinK L (k + 1) = if (rgAt L k).t ≤ (rgAt L k).f then joinK L k else if 0 < (joinK L k).length ∧ (rgAt L k).f ≤ lastT (joinK L k) then (joinK L k).set ((joinK L k).length - 1) ⟨(rgAt (joinK L k) ((joinK L k).length - 1)).f, max (lastT (joinK L k)) (rgAt L k).t⟩ else joinK L k ++ [rgAt L k]) := Lib.hid rfl
    obtain ⟨J, hJ⟩ : ∃ J, joinK L k = J := ⟨_, rfl⟩
    rw [hJ] at ho hJl HC1 ⊢
    have HJ := Lib.hid hJ
    have HO := Lib.hid ho
    clear hJ ho
    by_cases hlt : k < L.length
    · obtain ⟨b, o, rfl, hb, p0, p1⟩ := reads_rg HR.out rfl (rgAt_get hlt)
      have d0 := (hB.cell (p := ⟨b, o + k * 2, none⟩) hb).trans p0
      have d1 := (hB.cell (p := ⟨b, o + k * 2 + 1, none⟩) hb).trans p1
      have hki : (k : Int) < L.length := by omega
      have hk0 : (0 : Int) ≤ k := by omega
      obtain ⟨x, hx⟩ : ∃ x, rgAt L k = x := ⟨_, rfl⟩
      rw [hx] at d0 d1 HC1 p1
      have D1 : w.cell? ⟨b, o + k * 2 + 1, none⟩ = some (.int .u64 x.t) := p1
      clear hx p0 p1
      by_cases c1 : x.f ≥ x.t
      · have HC2 : Hid (joinK L (k + 1) = J) := Lib.hid (by rw [HC1.out, if_pos (by omega)])
        go_upto_region 7 with fail
        go_quiet (fail)
        clear d0 d1
        go_wp2_with fail
        go_roundw
        case rel => exact ⟨k + 1, A2, c2, by omega, by go_num, by rw [HC2.out], by rw [HC2.out]; exact HO.out, below_drewN hB _⟩
        case measure => simp [intOf]; omega
      · by_cases c0 : 0 < J.length
        · obtain ⟨m, hm⟩ : ∃ m, J.length = m + 1 := ⟨J.length - 1, by omega⟩
          have HY := Lib.hid (rgAt_get (show m < J.length by omega))
          have hlast : lastT J = (rgAt J m).t := by unfold lastT; rw [show J.length - 1 = m by omega]
          have hfst : rgAt J (J.length - 1) = rgAt J m := by rw [show J.length - 1 = m by omega]
          rw [hlast, hfst] at HC1
          clear hlast hfst
          obtain ⟨y, hy⟩ : ∃ y, rgAt J m = y := ⟨_, rfl⟩
          rw [hy] at HC1 HY
          clear hy
          have hJi : (J.length : Int) > 0 := by omega
          have WM : IntKind.i64.wrap ((J.length : Int) - 1) = (m : Int) := by rw [show (J.length : Int) - 1 = m by omega]; exact IntWalk.i64_in _ (by omega)
          have hmi : (m : Int) < J.length := by omega
          have hm0 : (0 : Int) ≤ m := by omega
          obtain ⟨g, cc, e, hgb, hgl⟩ := World.ownsRow.form HO.out c0
          cases e
          have e1 : wr.cell? ⟨g, m * 2 + 1, none⟩ = some (.int .u64 y.t) := own_cell rg2 HO.out m 1 HY.out (by decide)
          have HM := Lib.hid hm
          clear hm
          by_cases c2' : x.f ≤ y.t
          · have f1 : wr.frozen? ⟨g, m * 2 + 1, none⟩ = false := HO.out.frozenAt _
            have HC2 : Hid (joinK L (k + 1) = J.set (J.length - 1) ⟨y.f, max y.t x.t⟩) := Lib.hid (by rw [HC1.out, if_neg (by omega), if_pos ⟨c0, c2'⟩])
            go_upto_region 7 with fail
            go_quiet (fail)
            generalize hwz : World.drewN wr _ = wa at ⊢
            replace hB : Below w.heap.size w wa := by rw [← hwz]; exact below_drewN hB _
            replace HO : Hid (wa.ownsRow w.heap.size 74 2 (.slice (some ⟨g, 0, none⟩) J.length c2) J.length (fl Rg.cells J)) := by rw [← hwz]; exact HO
            replace d0 : wa.cell? ⟨b, o + k * 2, none⟩ = some (.int .u64 x.f) := by rw [← hwz]; exact d0
            replace d1 : wa.cell? ⟨b, o + k * 2 + 1, none⟩ = some (.int .u64 x.t) := by rw [← hwz]; exact d1
            replace e1 : wa.cell? ⟨g, m * 2 + 1, none⟩ = some (.int .u64 y.t) := by rw [← hwz]; exact e1
            replace f1 : wa.frozen? ⟨g, m * 2 + 1, none⟩ = false := by rw [← hwz]; exact f1
            clear hwz
            go_upto_region 8 with fail
            go_quiet (fail)
            generalize hwz : World.drewN wa _ = wz at ⊢
            replace hB : Below w.heap.size w wz := by rw [← hwz]; exact below_drewN hB _
            replace HO : Hid (wz.ownsRow w.heap.size 74 2 (.slice (some ⟨g, 0, none⟩) J.length c2) J.length (fl Rg.cells J)) := by rw [← hwz]; exact HO
            replace d0 : wz.cell? ⟨b, o + k * 2, none⟩ = some (.int .u64 x.f) := by rw [← hwz]; exact d0
            replace d1 : wz.cell? ⟨b, o + k * 2 + 1, none⟩ = some (.int .u64 x.t) := by rw [← hwz]; exact d1
            replace e1 : wz.cell? ⟨g, m * 2 + 1, none⟩ = some (.int .u64 y.t) := by rw [← hwz]; exact e1
            replace f1 : wz.frozen? ⟨g, m * 2 + 1, none⟩ = false := by rw [← hwz]; exact f1
            clear hwz
            go_upto_region 9 with fail
            have hB2 := hB
            have HO2 := HO
            replace e1 : wz.drew.cell? ⟨g, m * 2 + 1, none⟩ = some (.int .u64 y.t) := e1
            replace f1 : wz.drew.frozen? ⟨g, m * 2 + 1, none⟩ = false := f1
            clear d0 d1 hB HO
            by_cases hmx : y.t < x.t
            · have hmd : decide (y.t < x.t) = true := decide_eq_true hmx
              replace HC2 : Hid (joinK L (k + 1) = J.set (J.length - 1) ⟨y.f, x.t⟩) := Lib.hid (by rw [HC2.out, show max y.t x.t = x.t by omega])
              refine wp_region_held_drew (S := fun wy => Below w.heap.size w wy) (by kernel_rfl) hB2.drew (fun hH => ?_)
              replace HO2 : Hid (wz.drew.ownsRow w.heap.size 74 2 (.slice (some ⟨g, 0, none⟩) J.length c2) J.length (fl Rg.cells J)) := HO2
              generalize wz.drew = x0 at hH HO2 e1 f1 ⊢
              refine tkH 0 rfl (yieldsIf_pure _ (.slice (some ⟨g, 0, none⟩) J.length c2) rfl (.inl rfl) rfl) hH ?_
              try simp only [zz1, zz2, zz3, Act.put, zz4, zz5, zz6]
              refine tkH 1 rfl (yieldsIf_pure _ (.int .i64 J.length) rfl (.inl rfl) rfl) hH ?_
              try simp only [zz1, zz2, zz3, Act.put, zz4, zz5, zz6]
              refine tkH 2 rfl (yieldsIf_cell (.int .i64 m) rfl (fun w h => by go_simp)) hH ?_
              try simp only [zz1, zz2, zz3, Act.put, zz4, zz5, zz6]
              refine tkH 3 rfl (yieldsIf_pure _ (.slice (some ⟨g, 0, none⟩) J.length c2) rfl (.inl rfl) rfl) hH ?_
              try simp only [zz1, zz2, zz3, Act.put, zz4, zz5, zz6]
              refine tkH 4 rfl (yieldsIf_pure _ (.int .i64 J.length) rfl (.inl rfl) rfl) hH ?_
              try simp only [zz1, zz2, zz3, Act.put, zz4, zz5, zz6]
              refine tkH 5 rfl (yieldsIf_cell (.int .i64 m) rfl (fun w h => by go_simp)) hH ?_
              try simp only [zz1, zz2, zz3, Act.put, zz4, zz5, zz6]
              refine tkH 6 rfl (yieldsIf_cell (.pointer (some ⟨g, m * 2, none⟩)) rfl (fun w h => by go_simp)) hH ?_
              try simp only [zz1, zz2, zz3, Act.put, zz4, zz5, zz6]
              refine tkH 7 rfl (yieldsIf_cell (.pointer (some ⟨g, m * 2 + 1, none⟩)) rfl (fun w h => by go_simp)) hH ?_
              try simp only [zz1, zz2, zz3, Act.put, zz4, zz5, zz6]
              refine tkH 9 rfl (yieldsIf_pure _ (.slice (some ⟨b, o, none⟩) L.length c) rfl (.inl rfl) rfl) hH ?_
              try simp only [zz1, zz2, zz3, Act.put, zz4, zz5, zz6]
              refine tkH 10 rfl (yieldsIf_pure _ (.int .i64 k) rfl (.inl rfl) rfl) hH ?_
              try simp only [zz1, zz2, zz3, Act.put, zz4, zz5, zz6]
              refine tkH 11 rfl (yieldsIf_cell (.pointer (some ⟨b, o + k * 2, none⟩)) rfl (fun w h => by go_simp)) hH ?_
              try simp only [zz1, zz2, zz3, Act.put, zz4, zz5, zz6]
              refine tkH 12 rfl (yieldsIf_cell (.pointer (some ⟨b, o + k * 2 + 1, none⟩)) rfl (fun w h => by go_simp)) hH ?_
              try simp only [zz1, zz2, zz3, Act.put, zz4, zz5, zz6]
              refine tkH 13 rfl (yieldsIf_cell (.int .u64 x.t) rfl (fun wy h => by have j0 := (h.cell (p := ⟨b, o + k * 2 + 1, none⟩) hb).trans D1; go_simp)) hH ?_
              try simp only [zz1, zz2, zz3, Act.put, zz4, zz5, zz6]
              refine rdH [8] ?_
              refine c1H rfl fun KK hK => ?_
              rw [if_pos (by rfl)]
              have j0 := e1
              go_simp
              clear j0
              refine hK.out _ _ hH (fun hH29 => ?_)
              clear hK KK
              try simp only [zz1, zz2, zz3, Act.put, zz4, zz5, zz6]
              refine tkH 14 rfl (yieldsIf_cell (.int .u64 x.t) rfl (fun w h => by go_simp)) hH29 ?_
              try simp only [zz1, zz2, zz3, Act.put, zz4, zz5, zz6]
              refine tkH 15 rfl (yieldsIf_cell (.pointer (some ⟨g, m * 2, none⟩)) rfl (fun w h => by go_simp)) hH29 ?_
              try simp only [zz1, zz2, zz3, Act.put, zz4, zz5, zz6]
              refine tkH 16 rfl (yieldsIf_cell (.pointer (some ⟨g, m * 2 + 1, none⟩)) rfl (fun w h => by go_simp)) hH29 ?_
              try simp only [zz1, zz2, zz3, Act.put, zz4, zz5, zz6]
              refine rdH [17] ?_
              refine c1H rfl fun KK hK => ?_
              rw [if_pos (by rfl)]
              have j0 := e1
              have j1 := f1
              go_simp
              clear j0 j1
              refine hK.out _ _ (bset hH29 (p := ⟨g, m * 2 + 1, none⟩) hgb _) (fun hH30 => ?_)
              clear hK KK
              try simp only [zz1, zz2, zz3, Act.put, zz4, zz5, zz6]
              refine wpAnyH_done (by kernel_rfl) ?_ _
              go_wp2_with fail
              go_roundw
              case rel =>
                have q := own_store rg2 HO2.out m 1 (y := ⟨y.f, x.t⟩) (u := .int .u64 x.t) HY.out (by decide) rfl
                have E : joinK L (k + 1) = J.set m ⟨y.f, x.t⟩ := by rw [HC2.out, show J.length - 1 = m from by have := HM.out; omega]
                refine ⟨k + 1, some ⟨g, 0, none⟩, c2, by omega, by go_num, by rw [E, List.length_set], ?_, hH30⟩
                rw [E, List.length_set]; exact q
              case measure => simp [intOf]; omega
            · have hmd : decide (y.t < x.t) = false := decide_eq_false hmx
              replace HC2 : Hid (joinK L (k + 1) = J.set (J.length - 1) ⟨y.f, y.t⟩) := Lib.hid (by rw [HC2.out, show max y.t x.t = y.t by omega])
              refine wp_region_held_drew (S := fun wy => Below w.heap.size w wy) (by kernel_rfl) hB2.drew (fun hH => ?_)
              replace HO2 : Hid (wz.drew.ownsRow w.heap.size 74 2 (.slice (some ⟨g, 0, none⟩) J.length c2) J.length (fl Rg.cells J)) := HO2
              generalize wz.drew = x0 at hH HO2 e1 f1 ⊢
              refine tkH 0 rfl (yieldsIf_pure _ (.slice (some ⟨g, 0, none⟩) J.length c2) rfl (.inl rfl) rfl) hH ?_
              try simp only [zz1, zz2, zz3, Act.put, zz4, zz5, zz6]
              refine tkH 1 rfl (yieldsIf_pure _ (.int .i64 J.length) rfl (.inl rfl) rfl) hH ?_
              try simp only [zz1, zz2, zz3, Act.put, zz4, zz5, zz6]
              refine tkH 2 rfl (yieldsIf_cell (.int .i64 m) rfl (fun w h => by go_simp)) hH ?_
              try simp only [zz1, zz2, zz3, Act.put, zz4, zz5, zz6]
              refine tkH 3 rfl (yieldsIf_pure _ (.slice (some ⟨g, 0, none⟩) J.length c2) rfl (.inl rfl) rfl) hH ?_
              try simp only [zz1, zz2, zz3, Act.put, zz4, zz5, zz6]
              refine tkH 4 rfl (yieldsIf_pure _ (.int .i64 J.length) rfl (.inl rfl) rfl) hH ?_
              try simp only [zz1, zz2, zz3, Act.put, zz4, zz5, zz6]
              refine tkH 5 rfl (yieldsIf_cell (.int .i64 m) rfl (fun w h => by go_simp)) hH ?_
              try simp only [zz1, zz2, zz3, Act.put, zz4, zz5, zz6]
              refine tkH 6 rfl (yieldsIf_cell (.pointer (some ⟨g, m * 2, none⟩)) rfl (fun w h => by go_simp)) hH ?_
              try simp only [zz1, zz2, zz3, Act.put, zz4, zz5, zz6]
              refine tkH 7 rfl (yieldsIf_cell (.pointer (some ⟨g, m * 2 + 1, none⟩)) rfl (fun w h => by go_simp)) hH ?_
              try simp only [zz1, zz2, zz3, Act.put, zz4, zz5, zz6]
              refine tkH 9 rfl (yieldsIf_pure _ (.slice (some ⟨b, o, none⟩) L.length c) rfl (.inl rfl) rfl) hH ?_
              try simp only [zz1, zz2, zz3, Act.put, zz4, zz5, zz6]
              refine tkH 10 rfl (yieldsIf_pure _ (.int .i64 k) rfl (.inl rfl) rfl) hH ?_
              try simp only [zz1, zz2, zz3, Act.put, zz4, zz5, zz6]
              refine tkH 11 rfl (yieldsIf_cell (.pointer (some ⟨b, o + k * 2, none⟩)) rfl (fun w h => by go_simp)) hH ?_
              try simp only [zz1, zz2, zz3, Act.put, zz4, zz5, zz6]
              refine tkH 12 rfl (yieldsIf_cell (.pointer (some ⟨b, o + k * 2 + 1, none⟩)) rfl (fun w h => by go_simp)) hH ?_
              try simp only [zz1, zz2, zz3, Act.put, zz4, zz5, zz6]
              refine tkH 13 rfl (yieldsIf_cell (.int .u64 x.t) rfl (fun wy h => by have j0 := (h.cell (p := ⟨b, o + k * 2 + 1, none⟩) hb).trans D1; go_simp)) hH ?_
              try simp only [zz1, zz2, zz3, Act.put, zz4, zz5, zz6]
              refine rdH [8] ?_
              refine c1H rfl fun KK hK => ?_
              rw [if_pos (by rfl)]
              have j0 := e1
              go_simp
              clear j0
              refine hK.out _ _ hH (fun hH31 => ?_)
              clear hK KK
              try simp only [zz1, zz2, zz3, Act.put, zz4, zz5, zz6]
              refine tkH 14 rfl (yieldsIf_cell (.int .u64 y.t) rfl (fun w h => by go_simp)) hH31 ?_
              try simp only [zz1, zz2, zz3, Act.put, zz4, zz5, zz6]
              refine tkH 15 rfl (yieldsIf_cell (.pointer (some ⟨g, m * 2, none⟩)) rfl (fun w h => by go_simp)) hH31 ?_
              try simp only [zz1, zz2, zz3, Act.put, zz4, zz5, zz6]
              refine tkH 16 rfl (yieldsIf_cell (.pointer (some ⟨g, m * 2 + 1, none⟩)) rfl (fun w h => by go_simp)) hH31 ?_
              try simp only [zz1, zz2, zz3, Act.put, zz4, zz5, zz6]
              refine rdH [17] ?_
              refine c1H rfl fun KK hK => ?_
              rw [if_pos (by rfl)]
              have j0 := e1
              have j1 := f1
              go_simp
              clear j0 j1
              refine hK.out _ _ (bset hH31 (p := ⟨g, m * 2 + 1, none⟩) hgb _) (fun hH32 => ?_)
              clear hK KK
              try simp only [zz1, zz2, zz3, Act.put, zz4, zz5, zz6]
              refine wpAnyH_done (by kernel_rfl) ?_ _
              go_wp2_with fail
              go_roundw
              case rel =>
                have q := own_store rg2 HO2.out m 1 (y := ⟨y.f, y.t⟩) (u := .int .u64 y.t) HY.out (by decide) rfl
                have E : joinK L (k + 1) = J.set m ⟨y.f, y.t⟩ := by rw [HC2.out, show J.length - 1 = m from by have := HM.out; omega]
                refine ⟨k + 1, some ⟨g, 0, none⟩, c2, by omega, by go_num, by rw [E, List.length_set], ?_, hH32⟩
                rw [E, List.length_set]; exact q
              case measure => simp [intOf]; omega
          · have HC2 : Hid (joinK L (k + 1) = J ++ [x]) := Lib.hid (by rw [HC1.out, if_neg (by omega), if_neg (fun q => c2' q.2)])
            go_upto_region 7 with fail
            go_quiet (fail)
            generalize hwz : World.drewN wr _ = wa at ⊢
            replace hB : Below w.heap.size w wa := by rw [← hwz]; exact below_drewN hB _
            replace HO : Hid (wa.ownsRow w.heap.size 74 2 (.slice (some ⟨g, 0, none⟩) J.length c2) J.length (fl Rg.cells J)) := by rw [← hwz]; exact HO
            replace d0 : wa.cell? ⟨b, o + k * 2, none⟩ = some (.int .u64 x.f) := by rw [← hwz]; exact d0
            replace d1 : wa.cell? ⟨b, o + k * 2 + 1, none⟩ = some (.int .u64 x.t) := by rw [← hwz]; exact d1
            replace e1 : wa.cell? ⟨g, m * 2 + 1, none⟩ = some (.int .u64 y.t) := by rw [← hwz]; exact e1
            clear hwz
            go_upto_region 8 with fail
            go_quiet (fail)
            generalize hwz : World.drewN wa _ = wz at ⊢
            replace hB : Below w.heap.size w wz := by rw [← hwz]; exact below_drewN hB _
            replace HO : Hid (wz.ownsRow w.heap.size 74 2 (.slice (some ⟨g, 0, none⟩) J.length c2) J.length (fl Rg.cells J)) := by rw [← hwz]; exact HO
            replace d0 : wz.cell? ⟨b, o + k * 2, none⟩ = some (.int .u64 x.f) := by rw [← hwz]; exact d0
            replace d1 : wz.cell? ⟨b, o + k * 2 + 1, none⟩ = some (.int .u64 x.t) := by rw [← hwz]; exact d1
            replace e1 : wz.cell? ⟨g, m * 2 + 1, none⟩ = some (.int .u64 y.t) := by rw [← hwz]; exact e1
            clear hwz
            clear e1
            obtain ⟨A2, hA2⟩ : ∃ A2 : Option Addr, some ⟨g, 0, none⟩ = A2 := ⟨_, rfl⟩
            rw [hA2] at HO ⊢
            clear hA2
            have hB2 := hB
            have HO2 := HO
            clear hB HO
            go_wp2_with (at_builtin; refine wpList_app_all (f := Rg.cells) rfl _ _ 26 rfl w.heap.size 74 2 16 infoRg rfl (by decide) Try.underlying26 rg2 rg_one _ w w.heap.size J [x] _ _ (by rfl) (by rfl) (rg_lit1 (Blk.new wz 74 #[.int .u64 x.f, .int .u64 x.t])) (HO2.out.alloc _) (bal hB2 _) (Nat.le_refl _) (Nat.le_trans hB2.size (by simp)) (by simp; omega) (by unfold maxLen; simp; omega) ?_)
            intro A3 c3 W3 h2 h3 h4
            have E2 : (J ++ [x]).length = J.length + 1 := by simp
            have H2 := Lib.hid h2
            clear h2 h4 d0 d1 hB2
            go_wp2_with fail
            go_roundw
            case rel =>
              refine ⟨k + 1, A3, c3, by omega, by go_num, by rw [HC2.out, E2], ?_, h3⟩
              have q := H2.out
              rw [HC2.out, E2]
              exact q
            case measure => simp [intOf]; omega
        · have hJi : ¬ (J.length : Int) > 0 := by omega
          have HC2 : Hid (joinK L (k + 1) = J ++ [x]) := Lib.hid (by rw [HC1.out, if_neg (by omega), if_neg (fun q => c0 q.1)])
          go_upto_region 7 with fail
          go_quiet (fail)
          generalize hwz : World.drewN wr _ = wa at ⊢
          replace hB : Below w.heap.size w wa := by rw [← hwz]; exact below_drewN hB _
          replace HO : Hid (wa.ownsRow w.heap.size 74 2 (.slice A2 J.length c2) J.length (fl Rg.cells J)) := by rw [← hwz]; exact HO
          replace d0 : wa.cell? ⟨b, o + k * 2, none⟩ = some (.int .u64 x.f) := by rw [← hwz]; exact d0
          replace d1 : wa.cell? ⟨b, o + k * 2 + 1, none⟩ = some (.int .u64 x.t) := by rw [← hwz]; exact d1
          clear hwz
          go_upto_region 8 with fail
          go_quiet (fail)
          generalize hwz : World.drewN wa _ = wz at ⊢
          replace hB : Below w.heap.size w wz := by rw [← hwz]; exact below_drewN hB _
          replace HO : Hid (wz.ownsRow w.heap.size 74 2 (.slice A2 J.length c2) J.length (fl Rg.cells J)) := by rw [← hwz]; exact HO
          replace d0 : wz.cell? ⟨b, o + k * 2, none⟩ = some (.int .u64 x.f) := by rw [← hwz]; exact d0
          replace d1 : wz.cell? ⟨b, o + k * 2 + 1, none⟩ = some (.int .u64 x.t) := by rw [← hwz]; exact d1
          clear hwz
          have hB2 := hB
          have HO2 := HO
          clear hB HO
          go_wp2_with (at_builtin; refine wpList_app_all (f := Rg.cells) rfl _ _ 26 rfl w.heap.size 74 2 16 infoRg rfl (by decide) Try.underlying26 rg2 rg_one _ w w.heap.size J [x] _ _ (by rfl) (by rfl) (rg_lit1 (Blk.new wz 74 #[.int .u64 x.f, .int .u64 x.t])) (HO2.out.alloc _) (bal hB2 _) (Nat.le_refl _) (Nat.le_trans hB2.size (by simp)) (by simp; omega) (by unfold maxLen; simp; omega) ?_)
          intro A3 c3 W3 h2 h3 h4
          have E2 : (J ++ [x]).length = J.length + 1 := by simp
          have H2 := Lib.hid h2
          clear h2 h4 d0 d1 hB2
          go_wp2_with fail
          go_roundw
          case rel =>
            refine ⟨k + 1, A3, c3, by omega, by go_num, by rw [HC2.out, E2], ?_, h3⟩
            have q := H2.out
            rw [HC2.out, E2]
            exact q
          case measure => simp [intOf]; omega
    · obtain rfl : k = L.length := by omega
      by_cases c1 : (J.length : Int) > 1000
      · go_wp2_with fail
        refine bodyPost_ret (v := .tuple #[.slice none 0 0, .int .i64 5]) (by simp [results, Try.results125, go_sem]) rfl ?_
        exact ⟨[], _, _, rfl, RowB.nil _ _ 2, hB, fun h => by cases h⟩
      · go_wp2_with fail
        refine bodyPost_ret (v := .tuple #[.slice A2 J.length c2, .int .i64 0]) (by simp [results, Try.results125, go_sem]) rfl ?_
        exact ⟨J, _, _, rfl, RowB.own HO.out (Nat.le_refl _), hB, fun _ => ⟨HJ.out.symm, by omega⟩⟩

set_option maxRecDepth 100000 in
set_option maxHeartbeats 4000000 in
theorem add_any {lo hi : Int} (T : List Rg) (hT : Apart lo hi T) (hlo : 0 ≤ lo) (hhi : hi ≤ 18446744073709551615) (hln : T.length ≤ 1000) (x : Rg) (h0 : lo ≤ x.f) (h1 : x.f ≤ x.t) (h2 : x.t ≤ hi) (vt : Value) (w : World) (ht : RgsAt w vt T) :
    Calls Try.prog 121 #[vt, .int .u64 x.f, .int .u64 x.t] w (JoinPost (fun l => Apart lo hi l ∧ l.length ≤ 1000) w) := by
  have HC := Lib.hid (c04_ok T hT hlo hhi hln)
  have HI := Lib.hid (ins_any T x hln)
  have HA : Hid (∀ k, Apart lo hi (joinK (insS T x k) (insS T x k).length)) := Lib.hid (fun k => joinK_apart _ (insS_b (fun i hi => ⟨(hT i hi).2.1, (hT i hi).2.2.1⟩) ⟨h0, h2⟩))
  have HLN : Hid (∀ k, (insS T x k).length ≤ 2000) := Lib.hid (fun k => by
    unfold insS
    rw [List.length_append, List.length_append, List.length_take, List.length_drop, List.length_singleton]
    omega)
  have HT := Lib.hid ht
  clear ht hT
  have hlt : ¬ x.t < x.f := by omega
  go_enter Try.func121, Try.ntmps121
  go_wp2_with fail
  refine (HC.out _ _ HT.out).mono ?_
  rintro e w1 ⟨rfl, hb⟩
  have HT1 := Lib.hid (HT.out.below hb)
  go_wp2_with fail
  refine (HI.out _ _ HT1.out).mono ?_
  rintro e w2 ⟨k, v, hk, rfl, hr, hb2⟩
  have hr2 := Lib.hid hr.at
  have hB2 := hb.trans (hb2.mono hb.size)
  clear hr
  go_wp2_with fail
  refine (join_any _ (HLN.out k) _ _ hr2.out).mono ?_
  rintro e w3 ⟨l, u, er, rfl, hr3, hb3, himp⟩
  have HIMP := Lib.hid himp
  have hr3' := Lib.hid (hr3.low hB2.size)
  have hB3 := hB2.trans (hb3.mono hB2.size)
  clear himp hr3
  go_wp2_with fail
  refine bodyPost_ret (v := .tuple #[u, .int .i64 er]) (by simp [results, Try.results121, go_sem]) rfl ?_
  refine ⟨l, _, _, rfl, hr3'.out, hB3, fun h => ?_⟩
  obtain ⟨e, hl⟩ := HIMP.out h
  exact ⟨e ▸ HA.out k, hl⟩

end Go.Proofs.Ytfgkkflbpfocjaa

