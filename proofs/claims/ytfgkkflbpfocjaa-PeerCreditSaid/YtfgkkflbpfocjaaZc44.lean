/- The pair's acts: a restart, a Hello, a Report. -/
import Derived.Test.YtfgkkflbpfocjaaZc42
import Derived.Test.YtfgkkflbpfocjaaZc43
namespace Go.Proofs.Ytfgkkflbpfocjaa
open Go.RowKit
open List renaming getElem_toArray → zz1, getElem_cons_succ → zz2, getElem_cons_zero → zz3, setIfInBounds_toArray → zz4, set_cons_zero → zz5, set_cons_succ → zz6
set_option linter.unusedVariables false
set_option linter.unusedSimpArgs false

def RsPost (p : Pr) (w : World) (e : Ending) (w' : World) : Prop := ∃ C : Array Value, e = .returned (.tuple #[.agg C, .int .i64 0]) ∧ PrB w.heap.size w' (.agg C) p ∧ Below w.heap.size w w'
section
variable {i st : Int} {su : Bool} {ss : Led} {rt : Int} {ru : Bool} {ro : Int} {rr : Rec} {bs br : Int} {way : List Fr}
theorem report_sa (hI : Inv i st su ss rt ru ro rr bs br way) (V : Value) (w : World) (hV : PrAt w V (sP st su ss)) : Calls Try.prog 37 #[V, .int .i64 1, .int .u64 bs] w (FePost (gfr (sP st su ss) 1 bs 4 (flr ss) ss.r).cells.toArray (begE (sP st su ss) 1 bs 4) w) := by
  have q := Report_any (sP st su ss) hI.wfS 1 bs V w hV hI.okS hI.bnS
  have e : flE (sP st su ss).s = flr ss := by show flE ss = flr ss; unfold flE; rw [if_pos hI.os]
  rw [e] at q
  exact q
theorem grant_ra (hI : Inv i st su ss rt ru ro rr bs br way) (V : Value) (w : World) (hV : PrAt w V (rP rt ru ro rr)) : Calls Try.prog 32 #[V, .int .i64 2, .int .u64 br] w (FePost (gfr (rP rt ru ro rr) 2 br 2 rr.g 0).cells.toArray (begE (rP rt ru ro rr) 2 br 2) w) := Grant_any (rP rt ru ro rr) hI.wfR 2 br V w hV hI.okR' hI.bnR
theorem beg_or {p : Pr} {node boot kind th : Int} (h : begE p node boot kind = if kind ≠ 1 ∧ th = 0 then 13 else 0) : begE p node boot kind = 0 ∨ begE p node boot kind = 13 := by
  rw [h]; split
  · exact .inr rfl
  · exact .inl rfl
theorem Inv.repF (hI : Inv i st su ss rt ru ro rr bs br way) (h0 : begE (sP st su ss) 1 bs 4 = 0) : FrI st ss rt ro rr bs br (gfr (sP st su ss) 1 bs 4 (flr ss) ss.r) ∧ 0 ≤ (gfr (sP st su ss) 1 bs 4 (flr ss) ss.r).yours := by
  unfold gfr
  rw [if_pos h0]
  exact ⟨hI.report_s, hI.ts.1⟩
theorem Inv.grF (hI : Inv i st su ss rt ru ro rr bs br way) (h0 : begE (rP rt ru ro rr) 2 br 2 = 0) : FrI st ss rt ro rr bs br (gfr (rP rt ru ro rr) 2 br 2 rr.g 0) ∧ 0 ≤ (gfr (rP rt ru ro rr) 2 br 2 rr.g 0).yours := by
  unfold gfr
  rw [if_pos h0]
  exact ⟨hI.grant_r, hI.tr.1⟩
end

set_option maxRecDepth 100000 in
set_option maxHeartbeats 16000000 in
theorem act_0 {i st : Int} {su : Bool} {ss : Led} {rt : Int} {ru : Bool} {ro : Int} {rr : Rec} {bs br : Int} {way : List Fr} (hI : Inv i st su ss rt ru ro rr bs br way) (hi : i < 1000) (hWY : WY way) (hwl : way.length ≤ 40) (n ii : Int) (hn : 0 ≤ n ∧ n < 1048576) (hr : n.tmod 12 = 0) (hii : 0 ≤ ii ∧ ii ≤ 1000)
    (xb : Nat) (S R : Array Value) (A : Option Addr) (c : Nat) (w : World) (h : PX NoE w xb S R bs br (.slice A way.length c) (sP st su ss) (rP rt ru ro rr) way) :
    Calls Try.prog 15 #[.pointer (some ⟨xb, 0, none⟩), .int .i64 n, .int .i64 ii] w (ActPost (i + 1) xb w) := by
  obtain ⟨q, hq⟩ : ∃ q, n.tdiv 12 = q := ⟨_, rfl⟩
  have hq0 : 0 ≤ q ∧ q ≤ 87381 := by rw [← hq, Int.tdiv_eq_ediv_of_nonneg hn.1]; omega
  obtain ⟨m, hm⟩ : ∃ m, q.tmod 40 = m := ⟨_, rfl⟩
  have hm0 : 0 ≤ m ∧ m < 40 := by rw [← hm, Int.tmod_eq_emod_of_nonneg hq0.1]; omega
  have RST := Lib.hid (hI.restart_s hi)
  have HCK := Lib.hid (And.intro hI.okS hI.heldS)
  have RC : Hid (∀ V w, PrAt w V (sP st su ss) → Calls Try.prog 27 #[V] w (RsPost (sP st false zSend) w)) := Lib.hid (fun V w hV => by
    have q := Restart_any (sP st su ss) hI.wfS V w hV HCK.out.1 HCK.out.2
    rw [RST.out.1] at q
    refine q.mono ?_
    rintro e w' ⟨V, rfl, hp, hb⟩
    obtain ⟨C', rfl⟩ := hp.agg
    exact ⟨C', rfl, hp, hb⟩)
  have HSZ := Lib.hid h.s.size
  have WB : IntKind.u64.wrap (bs + 1) = bs + 1 := IntWalk.u64_in _ (by have := hI.bs1; have := hI.br1; have := hI.i0; omega)
  clear hI
  go_enter Try.func15, Try.ntmps15
  go_wp2_with (refine ldS (by rfl) _ (by rfl) xb 0 (by rfl) S h.rngS HSZ.out ?_)
  refine (RC.out _ _ h.s.at).mono ?_
  rintro e v1 ⟨Cm, rfl, hr1, hb⟩
  have pz := PrN.ofB hr1 (h.newX (noE_lt _))
  have HQS := Lib.hid pz.size
  have HQ1 := Lib.hid pz.one
  have h1 := h.below hb
  have hB1 : Below xb w v1 := hb.mono (Nat.le_of_lt h.lt)
  clear hr1 hb h RC
  go_upto_region 7 with (go_big_may; first | (refine wpList_alloc_z (by rfl) 31 (by rfl) _ rfl #[.int .i64 0, .int .u64 0, .bool false, .int .u64 0, .int .u64 0, .int .u64 0, .int .u64 0, .slice none 0 0, .int .u64 0, .int .u64 0, .int .u64 0, .slice none 0 0, .slice none 0 0] (fun w => by kernel_rfl) ?_) | (refine wpList_store_new (by rfl) 31 _ _ (by rfl) v1 #[.int .i64 0, .int .u64 0, .bool false, .int .u64 0, .int .u64 0, .int .u64 0, .int .u64 0, .slice none 0 0, .int .u64 0, .int .u64 0, .int .u64 0, .slice none 0 0, .slice none 0 0] Cm rfl (by rfl) (by rfl) (by rw [HQS.out]; kernel_rfl) (by rw [HQS.out]; rfl) HQ1.out ?_))
  have k8 := Blk.new v1 31 Cm
  have NE8 : Hid (¬ v1.heap.size = xb) := Lib.hid (by have := h1.lt; omega)
  replace hB1 := hB1.alloc (Nat.le_of_lt h1.lt) (.cells Cm 31)
  replace h1 := h1.alloc (.cells Cm 31)
  replace pz := pz.below ((Below.refl _ _).alloc (Nat.le_refl _) (.cells Cm 31))
  generalize v1.alloc (.cells Cm 31) = v2 at k8 h1 hB1 pz ⊢
  generalize v1.heap.size = g8 at k8 NE8 ⊢
  refine wp_region_held_drew (S := fun wy => Below xb w wy ∧ Blk wy g8 31 Cm) (by kernel_rfl) ⟨hB1.drew, k8.drew⟩ (fun hH => ?_)
  have hx := h1.drew
  replace pz := pz.below (Below.refl _ _).drew
  generalize v2.drew = x0 at hH hx pz ⊢
  clear h1 hB1 k8
  refine tkH 0 rfl (yieldsIf_pure _ (.pointer (some ⟨xb, 0, none⟩)) rfl (.inl rfl) rfl) hH ?_
  try simp only [zz1, zz2, zz3, Act.put, zz4, zz5, zz6]
  refine tkH 1 rfl (yieldsIf_pure _ (.pointer (some ⟨xb, 0, none⟩)) rfl (.inl rfl) rfl) hH ?_
  try simp only [zz1, zz2, zz3, Act.put, zz4, zz5, zz6]
  refine tkH 2 rfl (yieldsIf_row (g8) 31 Cm 31 _ _ rfl rfl rfl (fun w h => h.2) Try.underlying31 rfl (by rw [HQS.out]; kernel_rfl)) hH ?_
  try simp only [zz1, zz2, zz3, Act.put, zz4, zz5, zz6]
  refine tkH 3 rfl (yieldsIf_pure _ (.pointer (some ⟨xb, 0, none⟩)) rfl (.inl rfl) rfl) hH ?_
  try simp only [zz1, zz2, zz3, Act.put, zz4, zz5, zz6]
  refine tkH 4 rfl (yieldsIf_cell (.pointer (some ⟨xb, 0, none⟩)) rfl (fun w h => rfl)) hH ?_
  try simp only [zz1, zz2, zz3, Act.put, zz4, zz5, zz6]
  refine tkH 5 rfl (yieldsIf_cell (.pointer (some ⟨xb, 26, none⟩)) rfl (fun w h => by go_simp)) hH ?_
  try simp only [zz1, zz2, zz3, Act.put, zz4, zz5, zz6]
  refine rdH [6] ?_
  refine c1H rfl fun KK hK => ?_
  rw [if_pos (by rfl)]
  have j0 := hx.c26
  go_simp
  clear j0
  refine hK.out _ _ hH (fun hH1 => ?_)
  clear hK KK
  try simp only [zz1, zz2, zz3, Act.put, zz4, zz5, zz6]
  refine tkH 7 rfl (yieldsIf_cell (.int .u64 (bs + 1)) rfl (fun w h => by go_simp)) hH1 ?_
  try simp only [zz1, zz2, zz3, Act.put, zz4, zz5, zz6]
  refine tkH 8 rfl (yieldsIf_cell (.pointer (some ⟨xb, 0, none⟩)) rfl (fun w h => rfl)) hH1 ?_
  try simp only [zz1, zz2, zz3, Act.put, zz4, zz5, zz6]
  refine tkH 9 rfl (yieldsIf_cell (.pointer (some ⟨xb, 0, none⟩)) rfl (fun w h => by go_simp)) hH1 ?_
  try simp only [zz1, zz2, zz3, Act.put, zz4, zz5, zz6]
  refine rdH [10] ?_
  refine c1H rfl fun KK hK => ?_
  rw [if_pos (by rfl)]
  refine wp_store_mid 31 _ _ rfl xb 0 Cm rfl rfl (by rw [HQS.out]; exact hx.there 0 13 (by decide)) (by rw [HQS.out]; kernel_rfl) HQ1.out ?_
  have hx2 := hx.setS pz
  refine hK.out _ _ ⟨below_setCells (Nat.le_refl _) _ _ hH1.1, hH1.2.farAll NE8.out _ _⟩ (fun hH2 => ?_)
  clear hK KK
  try simp only [zz1, zz2, zz3, Act.put, zz4, zz5, zz6]
  refine tkH 11 rfl (yieldsIf_cell (.pointer (some ⟨xb, 0, none⟩)) rfl (fun w h => rfl)) hH2 ?_
  try simp only [zz1, zz2, zz3, Act.put, zz4, zz5, zz6]
  refine tkH 12 rfl (yieldsIf_cell (.pointer (some ⟨xb, 26, none⟩)) rfl (fun w h => by go_simp)) hH2 ?_
  try simp only [zz1, zz2, zz3, Act.put, zz4, zz5, zz6]
  refine rdH [13] ?_
  refine c1H rfl fun KK hK => ?_
  rw [if_pos (by rfl)]
  have j0 := hx2.c26
  have j1 := hx2.fz 26
  go_simp
  clear j0 j1
  have hx3 := hx2.setBs (bs + 1)
  refine hK.out _ _ ⟨hH2.1.setCell (p := ⟨xb, 26, none⟩) (Nat.le_refl _) _, hH2.2.far (p := ⟨xb, 26, none⟩) NE8.out _⟩ (fun hH3 => ?_)
  clear hK KK
  try simp only [zz1, zz2, zz3, Act.put, zz4, zz5, zz6]
  refine wpAnyH_done (by kernel_rfl) ?_ _
  go_wp2_with fail
  refine bodyPost_ret (v := .bool true) (by simp [results, Try.results15, go_sem]) rfl ?_
  exact ⟨rfl, hH3.1, bs + 1, br, st, false, zSend, rt, ru, ro, rr, way, _, _, A, c, RST.out.2, hWY, hwl, hx3⟩

set_option maxRecDepth 100000 in
set_option maxHeartbeats 16000000 in
theorem act_1 {i st : Int} {su : Bool} {ss : Led} {rt : Int} {ru : Bool} {ro : Int} {rr : Rec} {bs br : Int} {way : List Fr} (hI : Inv i st su ss rt ru ro rr bs br way) (hi : i < 1000) (hWY : WY way) (hwl : way.length ≤ 40) (n ii : Int) (hn : 0 ≤ n ∧ n < 1048576) (hr : n.tmod 12 = 1) (hii : 0 ≤ ii ∧ ii ≤ 1000)
    (xb : Nat) (S R : Array Value) (A : Option Addr) (c : Nat) (w : World) (h : PX NoE w xb S R bs br (.slice A way.length c) (sP st su ss) (rP rt ru ro rr) way) :
    Calls Try.prog 15 #[.pointer (some ⟨xb, 0, none⟩), .int .i64 n, .int .i64 ii] w (ActPost (i + 1) xb w) := by
  obtain ⟨q, hq⟩ : ∃ q, n.tdiv 12 = q := ⟨_, rfl⟩
  have hq0 : 0 ≤ q ∧ q ≤ 87381 := by rw [← hq, Int.tdiv_eq_ediv_of_nonneg hn.1]; omega
  obtain ⟨m, hm⟩ : ∃ m, q.tmod 40 = m := ⟨_, rfl⟩
  have hm0 : 0 ≤ m ∧ m < 40 := by rw [← hm, Int.tmod_eq_emod_of_nonneg hq0.1]; omega
  have RST := Lib.hid (hI.restart_r hi)
  have HCK := Lib.hid (And.intro hI.okR' (hI.heldR hi))
  have RC : Hid (∀ V w, PrAt w V (rP rt ru ro rr) → Calls Try.prog 27 #[V] w (RsPost (rP rt false (ro + resv rr) zRec) w)) := Lib.hid (fun V w hV => by
    have q := Restart_any (rP rt ru ro rr) hI.wfR V w hV HCK.out.1 HCK.out.2
    rw [RST.out.1] at q
    refine q.mono ?_
    rintro e w' ⟨V, rfl, hp, hb⟩
    obtain ⟨C', rfl⟩ := hp.agg
    exact ⟨C', rfl, hp, hb⟩)
  have HSZ := Lib.hid h.r.size
  have WB : IntKind.u64.wrap (br + 1) = br + 1 := IntWalk.u64_in _ (by have := hI.bs1; have := hI.br1; have := hI.i0; omega)
  clear hI
  go_enter Try.func15, Try.ntmps15
  go_wp2_with (refine ldS (by rfl) _ (by rfl) xb 13 (by rfl) R h.rngR HSZ.out ?_)
  refine (RC.out _ _ h.r.at).mono ?_
  rintro e v1 ⟨Cm, rfl, hr1, hb⟩
  have pz := PrN.ofB hr1 (h.newX (noE_lt _))
  have HQS := Lib.hid pz.size
  have HQ1 := Lib.hid pz.one
  have h1 := h.below hb
  have hB1 : Below xb w v1 := hb.mono (Nat.le_of_lt h.lt)
  clear hr1 hb h RC
  go_upto_region 11 with (go_big_may; first | (refine wpList_alloc_z (by rfl) 31 (by rfl) _ rfl #[.int .i64 0, .int .u64 0, .bool false, .int .u64 0, .int .u64 0, .int .u64 0, .int .u64 0, .slice none 0 0, .int .u64 0, .int .u64 0, .int .u64 0, .slice none 0 0, .slice none 0 0] (fun w => by kernel_rfl) ?_) | (refine wpList_store_new (by rfl) 31 _ _ (by rfl) v1 #[.int .i64 0, .int .u64 0, .bool false, .int .u64 0, .int .u64 0, .int .u64 0, .int .u64 0, .slice none 0 0, .int .u64 0, .int .u64 0, .int .u64 0, .slice none 0 0, .slice none 0 0] Cm rfl (by rfl) (by rfl) (by rw [HQS.out]; kernel_rfl) (by rw [HQS.out]; rfl) HQ1.out ?_))
  have k8 := Blk.new v1 31 Cm
  have NE8 : Hid (¬ v1.heap.size = xb) := Lib.hid (by have := h1.lt; omega)
  replace hB1 := hB1.alloc (Nat.le_of_lt h1.lt) (.cells Cm 31)
  replace h1 := h1.alloc (.cells Cm 31)
  replace pz := pz.below ((Below.refl _ _).alloc (Nat.le_refl _) (.cells Cm 31))
  generalize v1.alloc (.cells Cm 31) = v2 at k8 h1 hB1 pz ⊢
  generalize v1.heap.size = g8 at k8 NE8 ⊢
  refine wp_region_held_drew (S := fun wy => Below xb w wy ∧ Blk wy g8 31 Cm) (by kernel_rfl) ⟨hB1.drew, k8.drew⟩ (fun hH => ?_)
  have hx := h1.drew
  replace pz := pz.below (Below.refl _ _).drew
  generalize v2.drew = x0 at hH hx pz ⊢
  clear h1 hB1 k8
  refine tkH 0 rfl (yieldsIf_pure _ (.pointer (some ⟨xb, 0, none⟩)) rfl (.inl rfl) rfl) hH ?_
  try simp only [zz1, zz2, zz3, Act.put, zz4, zz5, zz6]
  refine tkH 1 rfl (yieldsIf_pure _ (.pointer (some ⟨xb, 0, none⟩)) rfl (.inl rfl) rfl) hH ?_
  try simp only [zz1, zz2, zz3, Act.put, zz4, zz5, zz6]
  refine tkH 2 rfl (yieldsIf_row (g8) 31 Cm 31 _ _ rfl rfl rfl (fun w h => h.2) Try.underlying31 rfl (by rw [HQS.out]; kernel_rfl)) hH ?_
  try simp only [zz1, zz2, zz3, Act.put, zz4, zz5, zz6]
  refine tkH 3 rfl (yieldsIf_pure _ (.pointer (some ⟨xb, 0, none⟩)) rfl (.inl rfl) rfl) hH ?_
  try simp only [zz1, zz2, zz3, Act.put, zz4, zz5, zz6]
  refine tkH 4 rfl (yieldsIf_cell (.pointer (some ⟨xb, 0, none⟩)) rfl (fun w h => rfl)) hH ?_
  try simp only [zz1, zz2, zz3, Act.put, zz4, zz5, zz6]
  refine tkH 5 rfl (yieldsIf_cell (.pointer (some ⟨xb, 27, none⟩)) rfl (fun w h => by go_simp)) hH ?_
  try simp only [zz1, zz2, zz3, Act.put, zz4, zz5, zz6]
  refine rdH [6] ?_
  refine c1H rfl fun KK hK => ?_
  rw [if_pos (by rfl)]
  have j0 := hx.c27
  go_simp
  clear j0
  refine hK.out _ _ hH (fun hH1 => ?_)
  clear hK KK
  try simp only [zz1, zz2, zz3, Act.put, zz4, zz5, zz6]
  refine tkH 7 rfl (yieldsIf_cell (.int .u64 (br + 1)) rfl (fun w h => by go_simp)) hH1 ?_
  try simp only [zz1, zz2, zz3, Act.put, zz4, zz5, zz6]
  refine tkH 8 rfl (yieldsIf_cell (.pointer (some ⟨xb, 0, none⟩)) rfl (fun w h => rfl)) hH1 ?_
  try simp only [zz1, zz2, zz3, Act.put, zz4, zz5, zz6]
  refine tkH 9 rfl (yieldsIf_cell (.pointer (some ⟨xb, 13, none⟩)) rfl (fun w h => by go_simp)) hH1 ?_
  try simp only [zz1, zz2, zz3, Act.put, zz4, zz5, zz6]
  refine rdH [10] ?_
  refine c1H rfl fun KK hK => ?_
  rw [if_pos (by rfl)]
  refine wp_store_mid 31 _ _ rfl xb 13 Cm rfl rfl (by rw [HQS.out]; exact hx.there 13 13 (by decide)) (by rw [HQS.out]; kernel_rfl) HQ1.out ?_
  have hx2 := hx.setR pz
  refine hK.out _ _ ⟨below_setCells (Nat.le_refl _) _ _ hH1.1, hH1.2.farAll NE8.out _ _⟩ (fun hH2 => ?_)
  clear hK KK
  try simp only [zz1, zz2, zz3, Act.put, zz4, zz5, zz6]
  refine tkH 11 rfl (yieldsIf_cell (.pointer (some ⟨xb, 0, none⟩)) rfl (fun w h => rfl)) hH2 ?_
  try simp only [zz1, zz2, zz3, Act.put, zz4, zz5, zz6]
  refine tkH 12 rfl (yieldsIf_cell (.pointer (some ⟨xb, 27, none⟩)) rfl (fun w h => by go_simp)) hH2 ?_
  try simp only [zz1, zz2, zz3, Act.put, zz4, zz5, zz6]
  refine rdH [13] ?_
  refine c1H rfl fun KK hK => ?_
  rw [if_pos (by rfl)]
  have j0 := hx2.c27
  have j1 := hx2.fz 27
  go_simp
  clear j0 j1
  have hx3 := hx2.setBr (br + 1)
  refine hK.out _ _ ⟨hH2.1.setCell (p := ⟨xb, 27, none⟩) (Nat.le_refl _) _, hH2.2.far (p := ⟨xb, 27, none⟩) NE8.out _⟩ (fun hH3 => ?_)
  clear hK KK
  try simp only [zz1, zz2, zz3, Act.put, zz4, zz5, zz6]
  refine wpAnyH_done (by kernel_rfl) ?_ _
  go_wp2_with fail
  refine bodyPost_ret (v := .bool true) (by simp [results, Try.results15, go_sem]) rfl ?_
  exact ⟨rfl, hH3.1, bs, br + 1, st, su, ss, rt, false, ro + resv rr, zRec, way, _, _, A, c, RST.out.2, hWY, hwl, hx3⟩

set_option maxRecDepth 100000 in
set_option maxHeartbeats 16000000 in
theorem act_2 {i st : Int} {su : Bool} {ss : Led} {rt : Int} {ru : Bool} {ro : Int} {rr : Rec} {bs br : Int} {way : List Fr} (hI : Inv i st su ss rt ru ro rr bs br way) (hi : i < 1000) (hWY : WY way) (hwl : way.length ≤ 40) (n ii : Int) (hn : 0 ≤ n ∧ n < 1048576) (hr : n.tmod 12 = 2) (hii : 0 ≤ ii ∧ ii ≤ 1000)
    (xb : Nat) (S R : Array Value) (A : Option Addr) (c : Nat) (w : World) (h : PX NoE w xb S R bs br (.slice A way.length c) (sP st su ss) (rP rt ru ro rr) way) :
    Calls Try.prog 15 #[.pointer (some ⟨xb, 0, none⟩), .int .i64 n, .int .i64 ii] w (ActPost (i + 1) xb w) := by
  obtain ⟨q, hq⟩ : ∃ q, n.tdiv 12 = q := ⟨_, rfl⟩
  have hq0 : 0 ≤ q ∧ q ≤ 87381 := by rw [← hq, Int.tdiv_eq_ediv_of_nonneg hn.1]; omega
  obtain ⟨m, hm⟩ : ∃ m, q.tmod 40 = m := ⟨_, rfl⟩
  have hm0 : 0 ≤ m ∧ m < 40 := by rw [← hm, Int.tmod_eq_emod_of_nonneg hq0.1]; omega
  obtain ⟨D, hD⟩ : ∃ D, (frB (sP st su ss) 1 bs 1 0 0).cells.toArray = D := ⟨_, rfl⟩
  have HDS : Hid (D.size = 19) := Lib.hid (by rw [← hD]; rfl)
  have HD1 : Hid (D.all (·.oneCell') = true) := Lib.hid (by rw [← hD]; exact fr_all _)
  have HEL := Lib.hid (fun V w h => hello_sa hI V w h)
  have PUT := Lib.hid (fun (S R : Array Value) w h => put_act (hI.next hi) hWY hwl (frB (sP st su ss) 1 bs 1 0 0) 0 (fun _ => ⟨(hI.next hi).hello_s, hI.ts.1⟩) (.inl rfl) (xb := xb) (S := S) (R := R) (A := A) (c := c) w h)
  rw [hD] at HEL PUT
  clear hD
  have hB : Below xb w w := Below.refl _ _ |>.mono (Nat.le_of_lt h.lt)
  clear hI
  go_enter Try.func15, Try.ntmps15
  go_upto_region 14 with fail
  have HSZq := Lib.hid h.s.size
  refine wp_region_held_drew (S := fun wy => Below xb w wy ∧ PX NoE wy xb S R bs br (.slice A way.length c) (sP st su ss) (rP rt ru ro rr) way) (by kernel_rfl) ⟨hB.drew, h.drew⟩ (fun hH => ?_)
  generalize w.drew = xq1 at hH ⊢
  refine tkH 0 rfl (yieldsIf_pure _ (.pointer (some ⟨xb, 0, none⟩)) rfl (.inl rfl) rfl) hH ?_
  try simp only [zz1, zz2, zz3, Act.put, zz4, zz5, zz6]
  refine tkH 1 rfl (yieldsIf_cell (.pointer (some ⟨xb, 0, none⟩)) rfl (fun w h => rfl)) hH ?_
  try simp only [zz1, zz2, zz3, Act.put, zz4, zz5, zz6]
  refine tkH 2 rfl (yieldsIf_cell (.pointer (some ⟨xb, 0, none⟩)) rfl (fun w h => by go_simp)) hH ?_
  try simp only [zz1, zz2, zz3, Act.put, zz4, zz5, zz6]
  refine tkH 3 rfl (yS rfl _ rfl xb 0 rfl S (fun w h => h.2.rngS) HSZq.out) hH ?_
  try simp only [zz1, zz2, zz3, Act.put, zz4, zz5, zz6]
  refine tkH 4 rfl (yieldsIf_pure _ (.pointer (some ⟨xb, 0, none⟩)) rfl (.inl rfl) rfl) hH ?_
  try simp only [zz1, zz2, zz3, Act.put, zz4, zz5, zz6]
  refine tkH 5 rfl (yieldsIf_cell (.pointer (some ⟨xb, 0, none⟩)) rfl (fun w h => rfl)) hH ?_
  try simp only [zz1, zz2, zz3, Act.put, zz4, zz5, zz6]
  refine tkH 6 rfl (yieldsIf_cell (.pointer (some ⟨xb, 26, none⟩)) rfl (fun w h => by go_simp)) hH ?_
  try simp only [zz1, zz2, zz3, Act.put, zz4, zz5, zz6]
  refine tkH 7 rfl (yieldsIf_cell (.int .u64 bs) rfl (fun wy h => by have j0 := h.2.c26; go_simp)) hH ?_
  try simp only [zz1, zz2, zz3, Act.put, zz4, zz5, zz6]
  refine rdH [8, 12] ?_
  refine AllReadyH.cons rfl (fun KK hK => ?_) ?_
  · go_simp
    refine (HEL.out _ _ hH.2.s.at).mono ?_
    rintro e xq2 ⟨rfl, hb2⟩
    refine hK.out _ _ ⟨hH.1.trans (hb2.mono (Nat.le_of_lt hH.2.lt)), hH.2.below hb2⟩ (fun hH2 => ?_)
    clear hK KK
    try simp only [zz1, zz2, zz3, Act.put, zz4, zz5, zz6]
    refine tkH 9 rfl (yieldsIf_pure _ (.tuple #[.agg D, .int .i64 0]) rfl (.inl rfl) rfl) hH2 ?_
    try simp only [zz1, zz2, zz3, Act.put, zz4, zz5, zz6]
    refine tkH 10 rfl (yieldsIf_cell (.agg D) rfl (fun w h => by go_simp)) hH2 ?_
    try simp only [zz1, zz2, zz3, Act.put, zz4, zz5, zz6]
    refine tkH 11 rfl (yieldsIf_cell (.int .i64 0) rfl (fun w h => by go_simp)) hH2 ?_
    try simp only [zz1, zz2, zz3, Act.put, zz4, zz5, zz6]
    refine rdH [12] ?_
    refine c1H rfl fun KK hK => ?_
    rw [if_pos (by rfl)]
    refine wp_alloc_z 51 (by rfl) _ rfl zF19 zeroFr ?_
    have kg3 := Blk.new xq2 51 zF19
    have pe3 := PX.allocE hH2.2 (.cells zF19 51)
    have hxg3 : xb ≤ xq2.heap.size := Nat.le_of_lt hH2.2.lt
    have hc3 : (fun wy => Below xb w wy ∧ PX NoE wy xb S R bs br (.slice A way.length c) (sP st su ss) (rP rt ru ro rr) way) (xq2.alloc (.cells zF19 51)) := ⟨hH2.1.alloc (Nat.le_of_lt hH2.2.lt) _, hH2.2.alloc _⟩
    generalize xq2.alloc (.cells zF19 51) = xq3 at hc3 kg3 pe3 ⊢
    generalize xq2.heap.size = gq3 at kg3 pe3 hxg3 ⊢
    refine hK.out _ _ hc3 (fun hH3 => ?_)
    clear hc3
    clear hK KK
    try simp only [zz1, zz2, zz3, Act.put, zz4, zz5, zz6]
    refine rdH [13] ?_
    refine c1H rfl fun KK hK => ?_
    rw [if_pos (by rfl)]
    refine wp_store_mid 51 _ _ rfl gq3 0 D rfl rfl (Blk.there kg3 0 _ (by rw [HDS.out]; exact Nat.le_refl _)) (by rw [HDS.out]; kernel_rfl) HD1.out ?_
    have kg4 : Blk (xq3.setCells gq3 0 (Array.toList D)) gq3 51 D := kg3.setAll (by rw [HDS.out]; rfl)
    have pe4 := pe3.far rfl (Array.toList D) 0
    have hc4 : (fun wy => Below xb w wy ∧ PX NoE wy xb S R bs br (.slice A way.length c) (sP st su ss) (rP rt ru ro rr) way) (xq3.setCells gq3 0 (Array.toList D)) := ⟨below_setCells hxg3 _ _ hH3.1, pe4.noE⟩
    generalize xq3.setCells gq3 0 (Array.toList D) = xq4 at hc4 kg4 pe4 ⊢
    refine hK.out _ _ hc4 (fun hH4 => ?_)
    clear hc4
    clear hK KK
    try simp only [zz1, zz2, zz3, Act.put, zz4, zz5, zz6]
    refine tkH 14 rfl (yieldsIf_pure _ (.int .i64 0) rfl (.inr rfl) rfl) hH4 ?_
    try simp only [zz1, zz2, zz3, Act.put, zz4, zz5, zz6]
    refine wpAnyH_done (by kernel_rfl) ?_ _
    have hz := hH4.2
    have hBz := hH4.1
    have kz := kg4
    clear hH4
    go_wp2_with (refine wpList_ldrow (by rfl) 51 _ (by rfl) gq3 (by rfl) 51 D (0, 0) _ kz Try.underlying51 (by rfl) (by rw [HDS.out]; kernel_rfl) ?_)
    refine (PUT.out _ _ _ hz).mono ?_
    rintro e wz ⟨rfl, hbz, hGz⟩
    go_wp2_with fail
    refine bodyPost_ret (v := .bool true) (by simp [results, Try.results15, go_sem]) rfl ?_
    exact ⟨rfl, hBz.trans hbz, hGz⟩
  refine AllReadyH.cons rfl (fun KK hK => ?_) ?_
  · rw [if_pos (by rfl)]
    refine wp_alloc_z 51 (by rfl) _ rfl zF19 zeroFr ?_
    have kg5 := Blk.new xq1 51 zF19
    have pe5 := PX.allocE hH.2 (.cells zF19 51)
    have hxg5 : xb ≤ xq1.heap.size := Nat.le_of_lt hH.2.lt
    have hc5 : (fun wy => Below xb w wy ∧ PX NoE wy xb S R bs br (.slice A way.length c) (sP st su ss) (rP rt ru ro rr) way) (xq1.alloc (.cells zF19 51)) := ⟨hH.1.alloc (Nat.le_of_lt hH.2.lt) _, hH.2.alloc _⟩
    generalize xq1.alloc (.cells zF19 51) = xq5 at hc5 kg5 pe5 ⊢
    generalize xq1.heap.size = gq5 at kg5 pe5 hxg5 ⊢
    refine hK.out _ _ hc5 (fun hH5 => ?_)
    clear hc5
    clear hK KK
    try simp only [zz1, zz2, zz3, Act.put, zz4, zz5, zz6]
    refine rdH [8] ?_
    refine c1H rfl fun KK hK => ?_
    go_simp
    refine (HEL.out _ _ hH5.2.s.at).mono ?_
    rintro e xq6 ⟨rfl, hb6⟩
    have kg6 := kg5.below hb6
    have pe6 := pe5.below hb6
    refine hK.out _ _ ⟨hH5.1.trans (hb6.mono (Nat.le_of_lt hH5.2.lt)), hH5.2.below hb6⟩ (fun hH6 => ?_)
    clear hK KK
    try simp only [zz1, zz2, zz3, Act.put, zz4, zz5, zz6]
    refine tkH 9 rfl (yieldsIf_pure _ (.tuple #[.agg D, .int .i64 0]) rfl (.inl rfl) rfl) hH6 ?_
    try simp only [zz1, zz2, zz3, Act.put, zz4, zz5, zz6]
    refine tkH 10 rfl (yieldsIf_cell (.agg D) rfl (fun w h => by go_simp)) hH6 ?_
    try simp only [zz1, zz2, zz3, Act.put, zz4, zz5, zz6]
    refine tkH 11 rfl (yieldsIf_cell (.int .i64 0) rfl (fun w h => by go_simp)) hH6 ?_
    try simp only [zz1, zz2, zz3, Act.put, zz4, zz5, zz6]
    refine rdH [13] ?_
    refine c1H rfl fun KK hK => ?_
    rw [if_pos (by rfl)]
    refine wp_store_mid 51 _ _ rfl gq5 0 D rfl rfl (Blk.there kg6 0 _ (by rw [HDS.out]; exact Nat.le_refl _)) (by rw [HDS.out]; kernel_rfl) HD1.out ?_
    have kg7 : Blk (xq6.setCells gq5 0 (Array.toList D)) gq5 51 D := kg6.setAll (by rw [HDS.out]; rfl)
    have pe7 := pe6.far rfl (Array.toList D) 0
    have hc7 : (fun wy => Below xb w wy ∧ PX NoE wy xb S R bs br (.slice A way.length c) (sP st su ss) (rP rt ru ro rr) way) (xq6.setCells gq5 0 (Array.toList D)) := ⟨below_setCells hxg5 _ _ hH6.1, pe7.noE⟩
    generalize xq6.setCells gq5 0 (Array.toList D) = xq7 at hc7 kg7 pe7 ⊢
    refine hK.out _ _ hc7 (fun hH7 => ?_)
    clear hc7
    clear hK KK
    try simp only [zz1, zz2, zz3, Act.put, zz4, zz5, zz6]
    refine tkH 14 rfl (yieldsIf_pure _ (.int .i64 0) rfl (.inr rfl) rfl) hH7 ?_
    try simp only [zz1, zz2, zz3, Act.put, zz4, zz5, zz6]
    refine wpAnyH_done (by kernel_rfl) ?_ _
    have hz := hH7.2
    have hBz := hH7.1
    have kz := kg7
    clear hH7
    go_wp2_with (refine wpList_ldrow (by rfl) 51 _ (by rfl) gq5 (by rfl) 51 D (0, 0) _ kz Try.underlying51 (by rfl) (by rw [HDS.out]; kernel_rfl) ?_)
    refine (PUT.out _ _ _ hz).mono ?_
    rintro e wz ⟨rfl, hbz, hGz⟩
    go_wp2_with fail
    refine bodyPost_ret (v := .bool true) (by simp [results, Try.results15, go_sem]) rfl ?_
    exact ⟨rfl, hBz.trans hbz, hGz⟩
  exact AllReadyH.nil

set_option maxRecDepth 100000 in
set_option maxHeartbeats 16000000 in
theorem act_3 {i st : Int} {su : Bool} {ss : Led} {rt : Int} {ru : Bool} {ro : Int} {rr : Rec} {bs br : Int} {way : List Fr} (hI : Inv i st su ss rt ru ro rr bs br way) (hi : i < 1000) (hWY : WY way) (hwl : way.length ≤ 40) (n ii : Int) (hn : 0 ≤ n ∧ n < 1048576) (hr : n.tmod 12 = 3) (hii : 0 ≤ ii ∧ ii ≤ 1000)
    (xb : Nat) (S R : Array Value) (A : Option Addr) (c : Nat) (w : World) (h : PX NoE w xb S R bs br (.slice A way.length c) (sP st su ss) (rP rt ru ro rr) way) :
    Calls Try.prog 15 #[.pointer (some ⟨xb, 0, none⟩), .int .i64 n, .int .i64 ii] w (ActPost (i + 1) xb w) := by
  obtain ⟨q, hq⟩ : ∃ q, n.tdiv 12 = q := ⟨_, rfl⟩
  have hq0 : 0 ≤ q ∧ q ≤ 87381 := by rw [← hq, Int.tdiv_eq_ediv_of_nonneg hn.1]; omega
  obtain ⟨m, hm⟩ : ∃ m, q.tmod 40 = m := ⟨_, rfl⟩
  have hm0 : 0 ≤ m ∧ m < 40 := by rw [← hm, Int.tmod_eq_emod_of_nonneg hq0.1]; omega
  obtain ⟨D, hD⟩ : ∃ D, (frB (rP rt ru ro rr) 2 br 1 0 0).cells.toArray = D := ⟨_, rfl⟩
  have HDS : Hid (D.size = 19) := Lib.hid (by rw [← hD]; rfl)
  have HD1 : Hid (D.all (·.oneCell') = true) := Lib.hid (by rw [← hD]; exact fr_all _)
  have HEL := Lib.hid (fun V w h => hello_ra hI V w h)
  have PUT := Lib.hid (fun (S R : Array Value) w h => put_act (hI.next hi) hWY hwl (frB (rP rt ru ro rr) 2 br 1 0 0) 0 (fun _ => ⟨(hI.next hi).hello_r, hI.tr.1⟩) (.inl rfl) (xb := xb) (S := S) (R := R) (A := A) (c := c) w h)
  rw [hD] at HEL PUT
  clear hD
  have hB : Below xb w w := Below.refl _ _ |>.mono (Nat.le_of_lt h.lt)
  clear hI
  go_enter Try.func15, Try.ntmps15
  go_upto_region 17 with fail
  have HSZq := Lib.hid h.r.size
  refine wp_region_held_drew (S := fun wy => Below xb w wy ∧ PX NoE wy xb S R bs br (.slice A way.length c) (sP st su ss) (rP rt ru ro rr) way) (by kernel_rfl) ⟨hB.drew, h.drew⟩ (fun hH => ?_)
  generalize w.drew = xq8 at hH ⊢
  refine tkH 0 rfl (yieldsIf_pure _ (.pointer (some ⟨xb, 0, none⟩)) rfl (.inl rfl) rfl) hH ?_
  try simp only [zz1, zz2, zz3, Act.put, zz4, zz5, zz6]
  refine tkH 1 rfl (yieldsIf_cell (.pointer (some ⟨xb, 0, none⟩)) rfl (fun w h => rfl)) hH ?_
  try simp only [zz1, zz2, zz3, Act.put, zz4, zz5, zz6]
  refine tkH 2 rfl (yieldsIf_cell (.pointer (some ⟨xb, 13, none⟩)) rfl (fun w h => by go_simp)) hH ?_
  try simp only [zz1, zz2, zz3, Act.put, zz4, zz5, zz6]
  refine tkH 3 rfl (yS rfl _ rfl xb 13 rfl R (fun w h => h.2.rngR) HSZq.out) hH ?_
  try simp only [zz1, zz2, zz3, Act.put, zz4, zz5, zz6]
  refine tkH 4 rfl (yieldsIf_pure _ (.pointer (some ⟨xb, 0, none⟩)) rfl (.inl rfl) rfl) hH ?_
  try simp only [zz1, zz2, zz3, Act.put, zz4, zz5, zz6]
  refine tkH 5 rfl (yieldsIf_cell (.pointer (some ⟨xb, 0, none⟩)) rfl (fun w h => rfl)) hH ?_
  try simp only [zz1, zz2, zz3, Act.put, zz4, zz5, zz6]
  refine tkH 6 rfl (yieldsIf_cell (.pointer (some ⟨xb, 27, none⟩)) rfl (fun w h => by go_simp)) hH ?_
  try simp only [zz1, zz2, zz3, Act.put, zz4, zz5, zz6]
  refine tkH 7 rfl (yieldsIf_cell (.int .u64 br) rfl (fun wy h => by have j0 := h.2.c27; go_simp)) hH ?_
  try simp only [zz1, zz2, zz3, Act.put, zz4, zz5, zz6]
  refine rdH [8, 12] ?_
  refine AllReadyH.cons rfl (fun KK hK => ?_) ?_
  · go_simp
    refine (HEL.out _ _ hH.2.r.at).mono ?_
    rintro e xq9 ⟨rfl, hb9⟩
    refine hK.out _ _ ⟨hH.1.trans (hb9.mono (Nat.le_of_lt hH.2.lt)), hH.2.below hb9⟩ (fun hH9 => ?_)
    clear hK KK
    try simp only [zz1, zz2, zz3, Act.put, zz4, zz5, zz6]
    refine tkH 9 rfl (yieldsIf_pure _ (.tuple #[.agg D, .int .i64 0]) rfl (.inl rfl) rfl) hH9 ?_
    try simp only [zz1, zz2, zz3, Act.put, zz4, zz5, zz6]
    refine tkH 10 rfl (yieldsIf_cell (.agg D) rfl (fun w h => by go_simp)) hH9 ?_
    try simp only [zz1, zz2, zz3, Act.put, zz4, zz5, zz6]
    refine tkH 11 rfl (yieldsIf_cell (.int .i64 0) rfl (fun w h => by go_simp)) hH9 ?_
    try simp only [zz1, zz2, zz3, Act.put, zz4, zz5, zz6]
    refine rdH [12] ?_
    refine c1H rfl fun KK hK => ?_
    rw [if_pos (by rfl)]
    refine wp_alloc_z 51 (by rfl) _ rfl zF19 zeroFr ?_
    have kg10 := Blk.new xq9 51 zF19
    have pe10 := PX.allocE hH9.2 (.cells zF19 51)
    have hxg10 : xb ≤ xq9.heap.size := Nat.le_of_lt hH9.2.lt
    have hc10 : (fun wy => Below xb w wy ∧ PX NoE wy xb S R bs br (.slice A way.length c) (sP st su ss) (rP rt ru ro rr) way) (xq9.alloc (.cells zF19 51)) := ⟨hH9.1.alloc (Nat.le_of_lt hH9.2.lt) _, hH9.2.alloc _⟩
    generalize xq9.alloc (.cells zF19 51) = xq10 at hc10 kg10 pe10 ⊢
    generalize xq9.heap.size = gq10 at kg10 pe10 hxg10 ⊢
    refine hK.out _ _ hc10 (fun hH10 => ?_)
    clear hc10
    clear hK KK
    try simp only [zz1, zz2, zz3, Act.put, zz4, zz5, zz6]
    refine rdH [13] ?_
    refine c1H rfl fun KK hK => ?_
    rw [if_pos (by rfl)]
    refine wp_store_mid 51 _ _ rfl gq10 0 D rfl rfl (Blk.there kg10 0 _ (by rw [HDS.out]; exact Nat.le_refl _)) (by rw [HDS.out]; kernel_rfl) HD1.out ?_
    have kg11 : Blk (xq10.setCells gq10 0 (Array.toList D)) gq10 51 D := kg10.setAll (by rw [HDS.out]; rfl)
    have pe11 := pe10.far rfl (Array.toList D) 0
    have hc11 : (fun wy => Below xb w wy ∧ PX NoE wy xb S R bs br (.slice A way.length c) (sP st su ss) (rP rt ru ro rr) way) (xq10.setCells gq10 0 (Array.toList D)) := ⟨below_setCells hxg10 _ _ hH10.1, pe11.noE⟩
    generalize xq10.setCells gq10 0 (Array.toList D) = xq11 at hc11 kg11 pe11 ⊢
    refine hK.out _ _ hc11 (fun hH11 => ?_)
    clear hc11
    clear hK KK
    try simp only [zz1, zz2, zz3, Act.put, zz4, zz5, zz6]
    refine tkH 14 rfl (yieldsIf_pure _ (.int .i64 0) rfl (.inr rfl) rfl) hH11 ?_
    try simp only [zz1, zz2, zz3, Act.put, zz4, zz5, zz6]
    refine wpAnyH_done (by kernel_rfl) ?_ _
    have hz := hH11.2
    have hBz := hH11.1
    have kz := kg11
    clear hH11
    go_wp2_with (refine wpList_ldrow (by rfl) 51 _ (by rfl) gq10 (by rfl) 51 D (0, 0) _ kz Try.underlying51 (by rfl) (by rw [HDS.out]; kernel_rfl) ?_)
    refine (PUT.out _ _ _ hz).mono ?_
    rintro e wz ⟨rfl, hbz, hGz⟩
    go_wp2_with fail
    refine bodyPost_ret (v := .bool true) (by simp [results, Try.results15, go_sem]) rfl ?_
    exact ⟨rfl, hBz.trans hbz, hGz⟩
  refine AllReadyH.cons rfl (fun KK hK => ?_) ?_
  · rw [if_pos (by rfl)]
    refine wp_alloc_z 51 (by rfl) _ rfl zF19 zeroFr ?_
    have kg12 := Blk.new xq8 51 zF19
    have pe12 := PX.allocE hH.2 (.cells zF19 51)
    have hxg12 : xb ≤ xq8.heap.size := Nat.le_of_lt hH.2.lt
    have hc12 : (fun wy => Below xb w wy ∧ PX NoE wy xb S R bs br (.slice A way.length c) (sP st su ss) (rP rt ru ro rr) way) (xq8.alloc (.cells zF19 51)) := ⟨hH.1.alloc (Nat.le_of_lt hH.2.lt) _, hH.2.alloc _⟩
    generalize xq8.alloc (.cells zF19 51) = xq12 at hc12 kg12 pe12 ⊢
    generalize xq8.heap.size = gq12 at kg12 pe12 hxg12 ⊢
    refine hK.out _ _ hc12 (fun hH12 => ?_)
    clear hc12
    clear hK KK
    try simp only [zz1, zz2, zz3, Act.put, zz4, zz5, zz6]
    refine rdH [8] ?_
    refine c1H rfl fun KK hK => ?_
    go_simp
    refine (HEL.out _ _ hH12.2.r.at).mono ?_
    rintro e xq13 ⟨rfl, hb13⟩
    have kg13 := kg12.below hb13
    have pe13 := pe12.below hb13
    refine hK.out _ _ ⟨hH12.1.trans (hb13.mono (Nat.le_of_lt hH12.2.lt)), hH12.2.below hb13⟩ (fun hH13 => ?_)
    clear hK KK
    try simp only [zz1, zz2, zz3, Act.put, zz4, zz5, zz6]
    refine tkH 9 rfl (yieldsIf_pure _ (.tuple #[.agg D, .int .i64 0]) rfl (.inl rfl) rfl) hH13 ?_
    try simp only [zz1, zz2, zz3, Act.put, zz4, zz5, zz6]
    refine tkH 10 rfl (yieldsIf_cell (.agg D) rfl (fun w h => by go_simp)) hH13 ?_
    try simp only [zz1, zz2, zz3, Act.put, zz4, zz5, zz6]
    refine tkH 11 rfl (yieldsIf_cell (.int .i64 0) rfl (fun w h => by go_simp)) hH13 ?_
    try simp only [zz1, zz2, zz3, Act.put, zz4, zz5, zz6]
    refine rdH [13] ?_
    refine c1H rfl fun KK hK => ?_
    rw [if_pos (by rfl)]
    refine wp_store_mid 51 _ _ rfl gq12 0 D rfl rfl (Blk.there kg13 0 _ (by rw [HDS.out]; exact Nat.le_refl _)) (by rw [HDS.out]; kernel_rfl) HD1.out ?_
    have kg14 : Blk (xq13.setCells gq12 0 (Array.toList D)) gq12 51 D := kg13.setAll (by rw [HDS.out]; rfl)
    have pe14 := pe13.far rfl (Array.toList D) 0
    have hc14 : (fun wy => Below xb w wy ∧ PX NoE wy xb S R bs br (.slice A way.length c) (sP st su ss) (rP rt ru ro rr) way) (xq13.setCells gq12 0 (Array.toList D)) := ⟨below_setCells hxg12 _ _ hH13.1, pe14.noE⟩
    generalize xq13.setCells gq12 0 (Array.toList D) = xq14 at hc14 kg14 pe14 ⊢
    refine hK.out _ _ hc14 (fun hH14 => ?_)
    clear hc14
    clear hK KK
    try simp only [zz1, zz2, zz3, Act.put, zz4, zz5, zz6]
    refine tkH 14 rfl (yieldsIf_pure _ (.int .i64 0) rfl (.inr rfl) rfl) hH14 ?_
    try simp only [zz1, zz2, zz3, Act.put, zz4, zz5, zz6]
    refine wpAnyH_done (by kernel_rfl) ?_ _
    have hz := hH14.2
    have hBz := hH14.1
    have kz := kg14
    clear hH14
    go_wp2_with (refine wpList_ldrow (by rfl) 51 _ (by rfl) gq12 (by rfl) 51 D (0, 0) _ kz Try.underlying51 (by rfl) (by rw [HDS.out]; kernel_rfl) ?_)
    refine (PUT.out _ _ _ hz).mono ?_
    rintro e wz ⟨rfl, hbz, hGz⟩
    go_wp2_with fail
    refine bodyPost_ret (v := .bool true) (by simp [results, Try.results15, go_sem]) rfl ?_
    exact ⟨rfl, hBz.trans hbz, hGz⟩
  exact AllReadyH.nil

set_option maxRecDepth 100000 in
set_option maxHeartbeats 16000000 in
theorem act_7 {i st : Int} {su : Bool} {ss : Led} {rt : Int} {ru : Bool} {ro : Int} {rr : Rec} {bs br : Int} {way : List Fr} (hI : Inv i st su ss rt ru ro rr bs br way) (hi : i < 1000) (hWY : WY way) (hwl : way.length ≤ 40) (n ii : Int) (hn : 0 ≤ n ∧ n < 1048576) (hr : n.tmod 12 = 7) (hii : 0 ≤ ii ∧ ii ≤ 1000)
    (xb : Nat) (S R : Array Value) (A : Option Addr) (c : Nat) (w : World) (h : PX NoE w xb S R bs br (.slice A way.length c) (sP st su ss) (rP rt ru ro rr) way) :
    Calls Try.prog 15 #[.pointer (some ⟨xb, 0, none⟩), .int .i64 n, .int .i64 ii] w (ActPost (i + 1) xb w) := by
  obtain ⟨q, hq⟩ : ∃ q, n.tdiv 12 = q := ⟨_, rfl⟩
  have hq0 : 0 ≤ q ∧ q ≤ 87381 := by rw [← hq, Int.tdiv_eq_ediv_of_nonneg hn.1]; omega
  obtain ⟨m, hm⟩ : ∃ m, q.tmod 40 = m := ⟨_, rfl⟩
  have hm0 : 0 ≤ m ∧ m < 40 := by rw [← hm, Int.tmod_eq_emod_of_nonneg hq0.1]; omega
  obtain ⟨D, hD⟩ : ∃ D, (gfr (sP st su ss) 1 bs 4 (flr ss) ss.r).cells.toArray = D := ⟨_, rfl⟩
  have HDS : Hid (D.size = 19) := Lib.hid (by rw [← hD]; rfl)
  have HD1 : Hid (D.all (·.oneCell') = true) := Lib.hid (by rw [← hD]; exact fr_all _)
  have HEL := Lib.hid (fun V w h => report_sa hI V w h)
  have PUT := Lib.hid (fun (S R : Array Value) w h => put_act (hI.next hi) hWY hwl (gfr (sP st su ss) 1 bs 4 (flr ss) ss.r) (begE (sP st su ss) 1 bs 4) (fun h0 => (hI.next hi).repF h0) (beg_or (hI.begS 4)) (xb := xb) (S := S) (R := R) (A := A) (c := c) w h)
  rw [hD] at HEL PUT
  clear hD
  generalize begE (sP st su ss) 1 bs 4 = er at HEL PUT
  have hB : Below xb w w := Below.refl _ _ |>.mono (Nat.le_of_lt h.lt)
  clear hI
  go_enter Try.func15, Try.ntmps15
  go_upto_region 32 with fail
  have HSZq := Lib.hid h.s.size
  refine wp_region_held_drew (S := fun wy => Below xb w wy ∧ PX NoE wy xb S R bs br (.slice A way.length c) (sP st su ss) (rP rt ru ro rr) way) (by kernel_rfl) ⟨hB.drew, h.drew⟩ (fun hH => ?_)
  generalize w.drew = xq15 at hH ⊢
  refine tkH 0 rfl (yieldsIf_pure _ (.pointer (some ⟨xb, 0, none⟩)) rfl (.inl rfl) rfl) hH ?_
  try simp only [zz1, zz2, zz3, Act.put, zz4, zz5, zz6]
  refine tkH 1 rfl (yieldsIf_cell (.pointer (some ⟨xb, 0, none⟩)) rfl (fun w h => rfl)) hH ?_
  try simp only [zz1, zz2, zz3, Act.put, zz4, zz5, zz6]
  refine tkH 2 rfl (yieldsIf_cell (.pointer (some ⟨xb, 0, none⟩)) rfl (fun w h => by go_simp)) hH ?_
  try simp only [zz1, zz2, zz3, Act.put, zz4, zz5, zz6]
  refine tkH 3 rfl (yS rfl _ rfl xb 0 rfl S (fun w h => h.2.rngS) HSZq.out) hH ?_
  try simp only [zz1, zz2, zz3, Act.put, zz4, zz5, zz6]
  refine tkH 4 rfl (yieldsIf_pure _ (.pointer (some ⟨xb, 0, none⟩)) rfl (.inl rfl) rfl) hH ?_
  try simp only [zz1, zz2, zz3, Act.put, zz4, zz5, zz6]
  refine tkH 5 rfl (yieldsIf_cell (.pointer (some ⟨xb, 0, none⟩)) rfl (fun w h => rfl)) hH ?_
  try simp only [zz1, zz2, zz3, Act.put, zz4, zz5, zz6]
  refine tkH 6 rfl (yieldsIf_cell (.pointer (some ⟨xb, 26, none⟩)) rfl (fun w h => by go_simp)) hH ?_
  try simp only [zz1, zz2, zz3, Act.put, zz4, zz5, zz6]
  refine tkH 7 rfl (yieldsIf_cell (.int .u64 bs) rfl (fun wy h => by have j0 := h.2.c26; go_simp)) hH ?_
  try simp only [zz1, zz2, zz3, Act.put, zz4, zz5, zz6]
  refine rdH [8, 12] ?_
  refine AllReadyH.cons rfl (fun KK hK => ?_) ?_
  · go_simp
    refine (HEL.out _ _ hH.2.s.at).mono ?_
    rintro e xq16 ⟨rfl, hb16⟩
    refine hK.out _ _ ⟨hH.1.trans (hb16.mono (Nat.le_of_lt hH.2.lt)), hH.2.below hb16⟩ (fun hH16 => ?_)
    clear hK KK
    try simp only [zz1, zz2, zz3, Act.put, zz4, zz5, zz6]
    refine tkH 9 rfl (yieldsIf_pure _ (.tuple #[.agg D, .int .i64 er]) rfl (.inl rfl) rfl) hH16 ?_
    try simp only [zz1, zz2, zz3, Act.put, zz4, zz5, zz6]
    refine tkH 10 rfl (yieldsIf_cell (.agg D) rfl (fun w h => by go_simp)) hH16 ?_
    try simp only [zz1, zz2, zz3, Act.put, zz4, zz5, zz6]
    refine tkH 11 rfl (yieldsIf_cell (.int .i64 er) rfl (fun w h => by go_simp)) hH16 ?_
    try simp only [zz1, zz2, zz3, Act.put, zz4, zz5, zz6]
    refine rdH [12] ?_
    refine c1H rfl fun KK hK => ?_
    rw [if_pos (by rfl)]
    refine wp_alloc_z 51 (by rfl) _ rfl zF19 zeroFr ?_
    have kg17 := Blk.new xq16 51 zF19
    have pe17 := PX.allocE hH16.2 (.cells zF19 51)
    have hxg17 : xb ≤ xq16.heap.size := Nat.le_of_lt hH16.2.lt
    have hc17 : (fun wy => Below xb w wy ∧ PX NoE wy xb S R bs br (.slice A way.length c) (sP st su ss) (rP rt ru ro rr) way) (xq16.alloc (.cells zF19 51)) := ⟨hH16.1.alloc (Nat.le_of_lt hH16.2.lt) _, hH16.2.alloc _⟩
    generalize xq16.alloc (.cells zF19 51) = xq17 at hc17 kg17 pe17 ⊢
    generalize xq16.heap.size = gq17 at kg17 pe17 hxg17 ⊢
    refine hK.out _ _ hc17 (fun hH17 => ?_)
    clear hc17
    clear hK KK
    try simp only [zz1, zz2, zz3, Act.put, zz4, zz5, zz6]
    refine rdH [13] ?_
    refine c1H rfl fun KK hK => ?_
    rw [if_pos (by rfl)]
    refine wp_store_mid 51 _ _ rfl gq17 0 D rfl rfl (Blk.there kg17 0 _ (by rw [HDS.out]; exact Nat.le_refl _)) (by rw [HDS.out]; kernel_rfl) HD1.out ?_
    have kg18 : Blk (xq17.setCells gq17 0 (Array.toList D)) gq17 51 D := kg17.setAll (by rw [HDS.out]; rfl)
    have pe18 := pe17.far rfl (Array.toList D) 0
    have hc18 : (fun wy => Below xb w wy ∧ PX NoE wy xb S R bs br (.slice A way.length c) (sP st su ss) (rP rt ru ro rr) way) (xq17.setCells gq17 0 (Array.toList D)) := ⟨below_setCells hxg17 _ _ hH17.1, pe18.noE⟩
    generalize xq17.setCells gq17 0 (Array.toList D) = xq18 at hc18 kg18 pe18 ⊢
    refine hK.out _ _ hc18 (fun hH18 => ?_)
    clear hc18
    clear hK KK
    try simp only [zz1, zz2, zz3, Act.put, zz4, zz5, zz6]
    refine tkH 14 rfl (yieldsIf_pure _ (.int .i64 er) rfl (.inr rfl) rfl) hH18 ?_
    try simp only [zz1, zz2, zz3, Act.put, zz4, zz5, zz6]
    refine wpAnyH_done (by kernel_rfl) ?_ _
    have hz := hH18.2
    have hBz := hH18.1
    have kz := kg18
    clear hH18
    go_wp2_with (refine wpList_ldrow (by rfl) 51 _ (by rfl) gq17 (by rfl) 51 D (0, 0) _ kz Try.underlying51 (by rfl) (by rw [HDS.out]; kernel_rfl) ?_)
    refine (PUT.out _ _ _ hz).mono ?_
    rintro e wz ⟨rfl, hbz, hGz⟩
    go_wp2_with fail
    refine bodyPost_ret (v := .bool true) (by simp [results, Try.results15, go_sem]) rfl ?_
    exact ⟨rfl, hBz.trans hbz, hGz⟩
  refine AllReadyH.cons rfl (fun KK hK => ?_) ?_
  · rw [if_pos (by rfl)]
    refine wp_alloc_z 51 (by rfl) _ rfl zF19 zeroFr ?_
    have kg19 := Blk.new xq15 51 zF19
    have pe19 := PX.allocE hH.2 (.cells zF19 51)
    have hxg19 : xb ≤ xq15.heap.size := Nat.le_of_lt hH.2.lt
    have hc19 : (fun wy => Below xb w wy ∧ PX NoE wy xb S R bs br (.slice A way.length c) (sP st su ss) (rP rt ru ro rr) way) (xq15.alloc (.cells zF19 51)) := ⟨hH.1.alloc (Nat.le_of_lt hH.2.lt) _, hH.2.alloc _⟩
    generalize xq15.alloc (.cells zF19 51) = xq19 at hc19 kg19 pe19 ⊢
    generalize xq15.heap.size = gq19 at kg19 pe19 hxg19 ⊢
    refine hK.out _ _ hc19 (fun hH19 => ?_)
    clear hc19
    clear hK KK
    try simp only [zz1, zz2, zz3, Act.put, zz4, zz5, zz6]
    refine rdH [8] ?_
    refine c1H rfl fun KK hK => ?_
    go_simp
    refine (HEL.out _ _ hH19.2.s.at).mono ?_
    rintro e xq20 ⟨rfl, hb20⟩
    have kg20 := kg19.below hb20
    have pe20 := pe19.below hb20
    refine hK.out _ _ ⟨hH19.1.trans (hb20.mono (Nat.le_of_lt hH19.2.lt)), hH19.2.below hb20⟩ (fun hH20 => ?_)
    clear hK KK
    try simp only [zz1, zz2, zz3, Act.put, zz4, zz5, zz6]
    refine tkH 9 rfl (yieldsIf_pure _ (.tuple #[.agg D, .int .i64 er]) rfl (.inl rfl) rfl) hH20 ?_
    try simp only [zz1, zz2, zz3, Act.put, zz4, zz5, zz6]
    refine tkH 10 rfl (yieldsIf_cell (.agg D) rfl (fun w h => by go_simp)) hH20 ?_
    try simp only [zz1, zz2, zz3, Act.put, zz4, zz5, zz6]
    refine tkH 11 rfl (yieldsIf_cell (.int .i64 er) rfl (fun w h => by go_simp)) hH20 ?_
    try simp only [zz1, zz2, zz3, Act.put, zz4, zz5, zz6]
    refine rdH [13] ?_
    refine c1H rfl fun KK hK => ?_
    rw [if_pos (by rfl)]
    refine wp_store_mid 51 _ _ rfl gq19 0 D rfl rfl (Blk.there kg20 0 _ (by rw [HDS.out]; exact Nat.le_refl _)) (by rw [HDS.out]; kernel_rfl) HD1.out ?_
    have kg21 : Blk (xq20.setCells gq19 0 (Array.toList D)) gq19 51 D := kg20.setAll (by rw [HDS.out]; rfl)
    have pe21 := pe20.far rfl (Array.toList D) 0
    have hc21 : (fun wy => Below xb w wy ∧ PX NoE wy xb S R bs br (.slice A way.length c) (sP st su ss) (rP rt ru ro rr) way) (xq20.setCells gq19 0 (Array.toList D)) := ⟨below_setCells hxg19 _ _ hH20.1, pe21.noE⟩
    generalize xq20.setCells gq19 0 (Array.toList D) = xq21 at hc21 kg21 pe21 ⊢
    refine hK.out _ _ hc21 (fun hH21 => ?_)
    clear hc21
    clear hK KK
    try simp only [zz1, zz2, zz3, Act.put, zz4, zz5, zz6]
    refine tkH 14 rfl (yieldsIf_pure _ (.int .i64 er) rfl (.inr rfl) rfl) hH21 ?_
    try simp only [zz1, zz2, zz3, Act.put, zz4, zz5, zz6]
    refine wpAnyH_done (by kernel_rfl) ?_ _
    have hz := hH21.2
    have hBz := hH21.1
    have kz := kg21
    clear hH21
    go_wp2_with (refine wpList_ldrow (by rfl) 51 _ (by rfl) gq19 (by rfl) 51 D (0, 0) _ kz Try.underlying51 (by rfl) (by rw [HDS.out]; kernel_rfl) ?_)
    refine (PUT.out _ _ _ hz).mono ?_
    rintro e wz ⟨rfl, hbz, hGz⟩
    go_wp2_with fail
    refine bodyPost_ret (v := .bool true) (by simp [results, Try.results15, go_sem]) rfl ?_
    exact ⟨rfl, hBz.trans hbz, hGz⟩
  exact AllReadyH.nil

end Go.Proofs.Ytfgkkflbpfocjaa

