/- The pair's acts: more is granted, an offer. -/
import Derived.Test.YtfgkkflbpfocjaaZc44
namespace Go.Proofs.Ytfgkkflbpfocjaa
open Go.RowKit
open List renaming getElem_toArray → zz1, getElem_cons_succ → zz2, getElem_cons_zero → zz3, setIfInBounds_toArray → zz4, set_cons_zero → zz5, set_cons_succ → zz6
set_option linter.unusedVariables false
set_option linter.unusedSimpArgs false

set_option maxRecDepth 100000 in
set_option maxHeartbeats 16000000 in
theorem act_45 {i st : Int} {su : Bool} {ss : Led} {rt : Int} {ru : Bool} {ro : Int} {rr : Rec} {bs br : Int} {way : List Fr} (hI : Inv i st su ss rt ru ro rr bs br way) (hi : i < 1000) (hWY : WY way) (hwl : way.length ≤ 40) (n ii : Int) (hn : 0 ≤ n ∧ n < 1048576) (hr : n.tmod 12 = 4 ∨ n.tmod 12 = 5) (hii : 0 ≤ ii ∧ ii ≤ 1000)
    (xb : Nat) (S R : Array Value) (A : Option Addr) (c : Nat) (w : World) (h : PX NoE w xb S R bs br (.slice A way.length c) (sP st su ss) (rP rt ru ro rr) way) :
    Calls Try.prog 15 #[.pointer (some ⟨xb, 0, none⟩), .int .i64 n, .int .i64 ii] w (ActPost (i + 1) xb w) := by
  obtain ⟨q, hq⟩ : ∃ q, n.tdiv 12 = q := ⟨_, rfl⟩
  have hq0 : 0 ≤ q ∧ q ≤ 87381 := by rw [← hq, Int.tdiv_eq_ediv_of_nonneg hn.1]; omega
  obtain ⟨m, hm⟩ : ∃ m, q.tmod 40 = m := ⟨_, rfl⟩
  have hm0 : 0 ≤ m ∧ m < 40 := by rw [← hm, Int.tmod_eq_emod_of_nonneg hq0.1]; omega
  rcases hr with hr | hr
  all_goals
    obtain ⟨Ar, cr, At, ct, Bt, dt, rfl⟩ := frmR h.r
    by_cases hrt : 0 < rt
    · cases ru with
      | false =>
        have hrt' : rt > 0 := hrt
        obtain ⟨D, hD⟩ : ∃ D, (gfr (rP rt false ro rr) 2 br 2 rr.g 0).cells.toArray = D := ⟨_, rfl⟩
        have HDS : Hid (D.size = 19) := Lib.hid (by rw [← hD]; rfl)
        have HD1 : Hid (D.all (·.oneCell') = true) := Lib.hid (by rw [← hD]; exact fr_all _)
        have HEL := Lib.hid (fun V w h => grant_ra (hI.next hi) V w h)
        have PUT := Lib.hid (fun (S R : Array Value) w h => put_act (hI.next hi) hWY hwl (gfr (rP rt false ro rr) 2 br 2 rr.g 0) (begE (rP rt false ro rr) 2 br 2) (fun h0 => (hI.next hi).grF h0) (beg_or ((hI.next hi).begR 2)) (xb := xb) (S := S) (R := R) (A := A) (c := c) w h)
        rw [hD] at HEL PUT
        clear hD
        generalize begE (rP rt false ro rr) 2 br 2 = er at HEL PUT
        have hB : Below xb w w := Below.refl _ _ |>.mono (Nat.le_of_lt h.lt)
        have r1 : w.cell? ⟨xb, 14, none⟩ = some (.int .u64 rt) := h.cR (i := 1) (by decide)
        have r2 : w.cell? ⟨xb, 15, none⟩ = some (.bool _) := h.cR (i := 2) (by decide)
        clear hI
        go_enter Try.func15, Try.ntmps15
        go_upto_region 25 with fail
        clear r1 r2
        have HSZq := Lib.hid h.r.size
        refine wp_region_held_drew (S := fun wy => Below xb w wy ∧ PX NoE wy xb S #[.int .i64 1, .int .u64 rt, .bool false, .int .u64 ro, .int .u64 0, .int .u64 0, .int .u64 0, .slice Ar 0 cr, .int .u64 rr.g, .int .u64 rr.r, .int .u64 rr.fl, .slice At rr.tk.length ct, .slice Bt rr.kp.length dt] bs br (.slice A way.length c) (sP st su ss) (rP rt false ro rr) way) (by kernel_rfl) ⟨hB.drew, h.drew⟩ (fun hH => ?_)
        generalize w.drew = xq43 at hH ⊢
        refine tkH 0 rfl (yieldsIf_pure _ (.pointer (some ⟨xb, 0, none⟩)) rfl (.inl rfl) rfl) hH ?_
        try simp only [zz1, zz2, zz3, Act.put, zz4, zz5, zz6]
        refine tkH 1 rfl (yieldsIf_cell (.pointer (some ⟨xb, 0, none⟩)) rfl (fun w h => rfl)) hH ?_
        try simp only [zz1, zz2, zz3, Act.put, zz4, zz5, zz6]
        refine tkH 2 rfl (yieldsIf_cell (.pointer (some ⟨xb, 13, none⟩)) rfl (fun w h => by go_simp)) hH ?_
        try simp only [zz1, zz2, zz3, Act.put, zz4, zz5, zz6]
        refine tkH 3 rfl (yS rfl _ rfl xb 13 rfl #[.int .i64 1, .int .u64 rt, .bool false, .int .u64 ro, .int .u64 0, .int .u64 0, .int .u64 0, .slice Ar 0 cr, .int .u64 rr.g, .int .u64 rr.r, .int .u64 rr.fl, .slice At rr.tk.length ct, .slice Bt rr.kp.length dt] (fun w h => h.2.rngR) HSZq.out) hH ?_
        try simp only [zz1, zz2, zz3, Act.put, zz4, zz5, zz6]
        refine tkH 4 rfl (yieldsIf_pure _ (.pointer (some ⟨xb, 0, none⟩)) rfl (.inl rfl) rfl) hH ?_
        try simp only [zz1, zz2, zz3, Act.put, zz4, zz5, zz6]
        refine tkH 5 rfl (yieldsIf_cell (.pointer (some ⟨xb, 0, none⟩)) rfl (fun w h => rfl)) hH ?_
        try simp only [zz1, zz2, zz3, Act.put, zz4, zz5, zz6]
        refine tkH 6 rfl (yieldsIf_cell (.pointer (some ⟨xb, 27, none⟩)) rfl (fun w h => by go_simp)) hH ?_
        try simp only [zz1, zz2, zz3, Act.put, zz4, zz5, zz6]
        refine tkH 7 rfl (yieldsIf_cell (.int .u64 br) rfl (fun wy h => by have j0 := h.2.c27; go_simp)) hH ?_
        try simp only [zz1, zz2, zz3, Act.put, zz4, zz5, zz6]
        refine rdH [8, 12] ?_
        refine AllReadyH.cons rfl (fun KK hK => ?_) ?_
        · go_simp
          refine (HEL.out _ _ hH.2.r.at).mono ?_
          rintro e xq44 ⟨rfl, hb44⟩
          refine hK.out _ _ ⟨hH.1.trans (hb44.mono (Nat.le_of_lt hH.2.lt)), hH.2.below hb44⟩ (fun hH44 => ?_)
          clear hK KK
          try simp only [zz1, zz2, zz3, Act.put, zz4, zz5, zz6]
          refine tkH 9 rfl (yieldsIf_pure _ (.tuple #[.agg D, .int .i64 er]) rfl (.inl rfl) rfl) hH44 ?_
          try simp only [zz1, zz2, zz3, Act.put, zz4, zz5, zz6]
          refine tkH 10 rfl (yieldsIf_cell (.agg D) rfl (fun w h => by go_simp)) hH44 ?_
          try simp only [zz1, zz2, zz3, Act.put, zz4, zz5, zz6]
          refine tkH 11 rfl (yieldsIf_cell (.int .i64 er) rfl (fun w h => by go_simp)) hH44 ?_
          try simp only [zz1, zz2, zz3, Act.put, zz4, zz5, zz6]
          refine rdH [12] ?_
          refine c1H rfl fun KK hK => ?_
          rw [if_pos (by rfl)]
          refine wp_alloc_z 51 (by rfl) _ rfl zF19 zeroFr ?_
          have kg45 := Blk.new xq44 51 zF19
          have pe45 := PX.allocE hH44.2 (.cells zF19 51)
          have hxg45 : xb ≤ xq44.heap.size := Nat.le_of_lt hH44.2.lt
          have hc45 : (fun wy => Below xb w wy ∧ PX NoE wy xb S #[.int .i64 1, .int .u64 rt, .bool false, .int .u64 ro, .int .u64 0, .int .u64 0, .int .u64 0, .slice Ar 0 cr, .int .u64 rr.g, .int .u64 rr.r, .int .u64 rr.fl, .slice At rr.tk.length ct, .slice Bt rr.kp.length dt] bs br (.slice A way.length c) (sP st su ss) (rP rt false ro rr) way) (xq44.alloc (.cells zF19 51)) := ⟨hH44.1.alloc (Nat.le_of_lt hH44.2.lt) _, hH44.2.alloc _⟩
          generalize xq44.alloc (.cells zF19 51) = xq45 at hc45 kg45 pe45 ⊢
          generalize xq44.heap.size = gq45 at kg45 pe45 hxg45 ⊢
          refine hK.out _ _ hc45 (fun hH45 => ?_)
          clear hc45
          clear hK KK
          try simp only [zz1, zz2, zz3, Act.put, zz4, zz5, zz6]
          refine rdH [13] ?_
          refine c1H rfl fun KK hK => ?_
          rw [if_pos (by rfl)]
          refine wp_store_mid 51 _ _ rfl gq45 0 D rfl rfl (Blk.there kg45 0 _ (by rw [HDS.out]; exact Nat.le_refl _)) (by rw [HDS.out]; kernel_rfl) HD1.out ?_
          have kg46 : Blk (xq45.setCells gq45 0 (Array.toList D)) gq45 51 D := kg45.setAll (by rw [HDS.out]; rfl)
          have pe46 := pe45.far rfl (Array.toList D) 0
          have hc46 : (fun wy => Below xb w wy ∧ PX NoE wy xb S #[.int .i64 1, .int .u64 rt, .bool false, .int .u64 ro, .int .u64 0, .int .u64 0, .int .u64 0, .slice Ar 0 cr, .int .u64 rr.g, .int .u64 rr.r, .int .u64 rr.fl, .slice At rr.tk.length ct, .slice Bt rr.kp.length dt] bs br (.slice A way.length c) (sP st su ss) (rP rt false ro rr) way) (xq45.setCells gq45 0 (Array.toList D)) := ⟨below_setCells hxg45 _ _ hH45.1, pe46.noE⟩
          generalize xq45.setCells gq45 0 (Array.toList D) = xq46 at hc46 kg46 pe46 ⊢
          refine hK.out _ _ hc46 (fun hH46 => ?_)
          clear hc46
          clear hK KK
          try simp only [zz1, zz2, zz3, Act.put, zz4, zz5, zz6]
          refine tkH 14 rfl (yieldsIf_pure _ (.int .i64 er) rfl (.inr rfl) rfl) hH46 ?_
          try simp only [zz1, zz2, zz3, Act.put, zz4, zz5, zz6]
          refine wpAnyH_done (by kernel_rfl) ?_ _
          have hz := hH46.2
          have hBz := hH46.1
          have kz := kg46
          clear hH46
          go_wp2_with (refine wpList_ldrow (by rfl) 51 _ (by rfl) gq45 (by rfl) 51 D (0, 0) _ kz Try.underlying51 (by rfl) (by rw [HDS.out]; kernel_rfl) ?_)
          refine (PUT.out _ _ _ hz).mono ?_
          rintro e wz ⟨rfl, hbz, hGz⟩
          go_wp2_with fail
          refine bodyPost_ret (v := .bool true) (by simp [results, Try.results15, go_sem]) rfl ?_
          exact ⟨rfl, hBz.trans hbz, hGz⟩
        refine AllReadyH.cons rfl (fun KK hK => ?_) ?_
        · rw [if_pos (by rfl)]
          refine wp_alloc_z 51 (by rfl) _ rfl zF19 zeroFr ?_
          have kg47 := Blk.new xq43 51 zF19
          have pe47 := PX.allocE hH.2 (.cells zF19 51)
          have hxg47 : xb ≤ xq43.heap.size := Nat.le_of_lt hH.2.lt
          have hc47 : (fun wy => Below xb w wy ∧ PX NoE wy xb S #[.int .i64 1, .int .u64 rt, .bool false, .int .u64 ro, .int .u64 0, .int .u64 0, .int .u64 0, .slice Ar 0 cr, .int .u64 rr.g, .int .u64 rr.r, .int .u64 rr.fl, .slice At rr.tk.length ct, .slice Bt rr.kp.length dt] bs br (.slice A way.length c) (sP st su ss) (rP rt false ro rr) way) (xq43.alloc (.cells zF19 51)) := ⟨hH.1.alloc (Nat.le_of_lt hH.2.lt) _, hH.2.alloc _⟩
          generalize xq43.alloc (.cells zF19 51) = xq47 at hc47 kg47 pe47 ⊢
          generalize xq43.heap.size = gq47 at kg47 pe47 hxg47 ⊢
          refine hK.out _ _ hc47 (fun hH47 => ?_)
          clear hc47
          clear hK KK
          try simp only [zz1, zz2, zz3, Act.put, zz4, zz5, zz6]
          refine rdH [8] ?_
          refine c1H rfl fun KK hK => ?_
          go_simp
          refine (HEL.out _ _ hH47.2.r.at).mono ?_
          rintro e xq48 ⟨rfl, hb48⟩
          have kg48 := kg47.below hb48
          have pe48 := pe47.below hb48
          refine hK.out _ _ ⟨hH47.1.trans (hb48.mono (Nat.le_of_lt hH47.2.lt)), hH47.2.below hb48⟩ (fun hH48 => ?_)
          clear hK KK
          try simp only [zz1, zz2, zz3, Act.put, zz4, zz5, zz6]
          refine tkH 9 rfl (yieldsIf_pure _ (.tuple #[.agg D, .int .i64 er]) rfl (.inl rfl) rfl) hH48 ?_
          try simp only [zz1, zz2, zz3, Act.put, zz4, zz5, zz6]
          refine tkH 10 rfl (yieldsIf_cell (.agg D) rfl (fun w h => by go_simp)) hH48 ?_
          try simp only [zz1, zz2, zz3, Act.put, zz4, zz5, zz6]
          refine tkH 11 rfl (yieldsIf_cell (.int .i64 er) rfl (fun w h => by go_simp)) hH48 ?_
          try simp only [zz1, zz2, zz3, Act.put, zz4, zz5, zz6]
          refine rdH [13] ?_
          refine c1H rfl fun KK hK => ?_
          rw [if_pos (by rfl)]
          refine wp_store_mid 51 _ _ rfl gq47 0 D rfl rfl (Blk.there kg48 0 _ (by rw [HDS.out]; exact Nat.le_refl _)) (by rw [HDS.out]; kernel_rfl) HD1.out ?_
          have kg49 : Blk (xq48.setCells gq47 0 (Array.toList D)) gq47 51 D := kg48.setAll (by rw [HDS.out]; rfl)
          have pe49 := pe48.far rfl (Array.toList D) 0
          have hc49 : (fun wy => Below xb w wy ∧ PX NoE wy xb S #[.int .i64 1, .int .u64 rt, .bool false, .int .u64 ro, .int .u64 0, .int .u64 0, .int .u64 0, .slice Ar 0 cr, .int .u64 rr.g, .int .u64 rr.r, .int .u64 rr.fl, .slice At rr.tk.length ct, .slice Bt rr.kp.length dt] bs br (.slice A way.length c) (sP st su ss) (rP rt false ro rr) way) (xq48.setCells gq47 0 (Array.toList D)) := ⟨below_setCells hxg47 _ _ hH48.1, pe49.noE⟩
          generalize xq48.setCells gq47 0 (Array.toList D) = xq49 at hc49 kg49 pe49 ⊢
          refine hK.out _ _ hc49 (fun hH49 => ?_)
          clear hc49
          clear hK KK
          try simp only [zz1, zz2, zz3, Act.put, zz4, zz5, zz6]
          refine tkH 14 rfl (yieldsIf_pure _ (.int .i64 er) rfl (.inr rfl) rfl) hH49 ?_
          try simp only [zz1, zz2, zz3, Act.put, zz4, zz5, zz6]
          refine wpAnyH_done (by kernel_rfl) ?_ _
          have hz := hH49.2
          have hBz := hH49.1
          have kz := kg49
          clear hH49
          go_wp2_with (refine wpList_ldrow (by rfl) 51 _ (by rfl) gq47 (by rfl) 51 D (0, 0) _ kz Try.underlying51 (by rfl) (by rw [HDS.out]; kernel_rfl) ?_)
          refine (PUT.out _ _ _ hz).mono ?_
          rintro e wz ⟨rfl, hbz, hGz⟩
          go_wp2_with fail
          refine bodyPost_ret (v := .bool true) (by simp [results, Try.results15, go_sem]) rfl ?_
          exact ⟨rfl, hBz.trans hbz, hGz⟩
        exact AllReadyH.nil
      | true =>
        have hrt' : rt > 0 := hrt
        obtain ⟨hgb, hI2⟩ := hI.mored hi hrt rfl (z := 1 + m) (by omega)
        have GRT := Lib.hid (fun vt vk w ht hk => rvGrant_ok rr.g rr.r rr.fl rr.tk rr.kp hI.wr hI.or (1 + m) (by omega) hgb vt vk w ht hk)
        obtain ⟨D, hD⟩ : ∃ D, (gfr (rP rt true ro { rr with g := rr.g + (1 + m) }) 2 br 2 (rr.g + (1 + m)) 0).cells.toArray = D := ⟨_, rfl⟩
        have HDS : Hid (D.size = 19) := Lib.hid (by rw [← hD]; rfl)
        have HD1 : Hid (D.all (·.oneCell') = true) := Lib.hid (by rw [← hD]; exact fr_all _)
        have HEL := Lib.hid (fun V w h => grant_ra hI2 V w h)
        have PUT := Lib.hid (fun (S R : Array Value) w h => put_act hI2 hWY hwl (gfr (rP rt true ro { rr with g := rr.g + (1 + m) }) 2 br 2 (rr.g + (1 + m)) 0) (begE (rP rt true ro { rr with g := rr.g + (1 + m) }) 2 br 2) (fun h0 => hI2.grF h0) (beg_or (hI2.begR 2)) (xb := xb) (S := S) (R := R) (A := A) (c := c) w h)
        rw [hD] at HEL PUT
        clear hD
        generalize begE (rP rt true ro { rr with g := rr.g + (1 + m) }) 2 br 2 = er at HEL PUT

        have r1 : w.cell? ⟨xb, 14, none⟩ = some (.int .u64 rt) := h.cR (i := 1) (by decide)
        have r2 : w.cell? ⟨xb, 15, none⟩ = some (.bool true) := h.cR (i := 2) (by decide)
        clear hI
        go_enter Try.func15, Try.ntmps15
        go_upto_region 22 with fail
        clear r1 r2
        go_wp2_with (refine wpList_load_mid (by rfl) 29 _ (by rfl) xb 21 (by rfl) [.int .u64 rr.g, .int .u64 rr.r, .int .u64 rr.fl, .slice At rr.tk.length ct, .slice Bt rr.kp.length dt] _ (h.rngRp 8 5 _ rfl (by decide)) Try.underlying29 (by rfl) (by kernel_rfl) ?_)
        refine (GRT.out _ _ _ h.r.rows.2.1 h.r.rows.2.2).mono ?_
        rintro e v1 ⟨A1, c1, B1, d1, rfl, hr, hkp, hb⟩
        have pz := h.r.rcv (z := (⟨rr.g + (1 + m), rr.r, rr.fl, rr.tk, rr.kp⟩ : Rec)) hb (.ofB hr (h.newX (noE_lt _))) (.ofB hkp (h.newX (noE_lt _)))
        have h1 := h.below hb
        have hB1 : Below xb w v1 := hb.mono (Nat.le_of_lt h.lt)
        clear hr hkp hb h GRT
        go_upto_region 23 with (go_big_may; first | (refine wpList_alloc_z (by rfl) 29 (by rfl) _ rfl #[.int .u64 0, .int .u64 0, .int .u64 0, .slice none 0 0, .slice none 0 0] (fun w => by kernel_rfl) ?_) | (refine wpList_store_new (by rfl) 29 _ _ (by rfl) v1 #[.int .u64 0, .int .u64 0, .int .u64 0, .slice none 0 0, .slice none 0 0] #[.int .u64 (rr.g + (1 + m)), .int .u64 rr.r, .int .u64 rr.fl, .slice A1 rr.tk.length c1, .slice B1 rr.kp.length d1] rfl (by rfl) (by rfl) (by kernel_rfl) rfl (by kernel_rfl) ?_))
        have k9 := Blk.new v1 29 #[.int .u64 (rr.g + (1 + m)), .int .u64 rr.r, .int .u64 rr.fl, .slice A1 rr.tk.length c1, .slice B1 rr.kp.length d1]
        replace hB1 := hB1.alloc (Nat.le_of_lt h1.lt) (.cells #[.int .u64 (rr.g + (1 + m)), .int .u64 rr.r, .int .u64 rr.fl, .slice A1 rr.tk.length c1, .slice B1 rr.kp.length d1] 29)
        replace h1 := h1.alloc (.cells #[.int .u64 (rr.g + (1 + m)), .int .u64 rr.r, .int .u64 rr.fl, .slice A1 rr.tk.length c1, .slice B1 rr.kp.length d1] 29)
        replace pz := pz.below ((Below.refl _ _).alloc (Nat.le_refl _) (.cells #[.int .u64 (rr.g + (1 + m)), .int .u64 rr.r, .int .u64 rr.fl, .slice A1 rr.tk.length c1, .slice B1 rr.kp.length d1] 29))
        generalize v1.alloc (.cells #[.int .u64 (rr.g + (1 + m)), .int .u64 rr.r, .int .u64 rr.fl, .slice A1 rr.tk.length c1, .slice B1 rr.kp.length d1] 29) = v2 at k9 h1 hB1 pz ⊢
        generalize v1.heap.size = g9 at k9 ⊢
        go_upto_region 25 with (go_big_may; first | (refine wpList_ldrow (by rfl) 29 _ (by rfl) g9 (by rfl) 29 #[.int .u64 (rr.g + (1 + m)), .int .u64 rr.r, .int .u64 rr.fl, .slice A1 rr.tk.length c1, .slice B1 rr.kp.length d1] (0, 0) _ k9 Try.underlying29 (by rfl) (by kernel_rfl) ?_) | (refine wpList_store_gen (by rfl) 29 _ _ (by rfl) xb 21 #[.int .u64 (rr.g + (1 + m)), .int .u64 rr.r, .int .u64 rr.fl, .slice A1 rr.tk.length c1, .slice B1 rr.kp.length d1] (by rfl) (by rfl) (by exact h1.there 21 5 (by decide)) (by kernel_rfl) (by kernel_rfl) ?_; intro W3 hW3))
        have h3 : PX NoE W3 xb S #[.int .i64 1, .int .u64 rt, .bool true, .int .u64 ro, .int .u64 0, .int .u64 0, .int .u64 0, .slice Ar 0 cr, .int .u64 (rr.g + (1 + m)), .int .u64 rr.r, .int .u64 rr.fl, .slice A1 rr.tk.length c1, .slice B1 rr.kp.length d1] bs br (.slice A way.length c) (sP st su ss) (rP rt true ro { rr with g := rr.g + (1 + m) }) way := by rw [hW3.out]; exact h1.partR (o := 8) (l := Array.toList #[.int .u64 (rr.g + (1 + m)), .int .u64 rr.r, .int .u64 rr.fl, .slice A1 rr.tk.length c1, .slice B1 rr.kp.length d1]) (Nat.le_refl 13) rfl pz
        have hB3 : Below xb w W3 := by rw [hW3.out]; exact below_setCells (Nat.le_refl _) _ _ hB1
        clear h1 hB1 k9 pz hW3
        have HSZq := Lib.hid h3.r.size
        refine wp_region_held_drew (S := fun wy => Below xb w wy ∧ PX NoE wy xb S #[.int .i64 1, .int .u64 rt, .bool true, .int .u64 ro, .int .u64 0, .int .u64 0, .int .u64 0, .slice Ar 0 cr, .int .u64 (rr.g + (1 + m)), .int .u64 rr.r, .int .u64 rr.fl, .slice A1 rr.tk.length c1, .slice B1 rr.kp.length d1] bs br (.slice A way.length c) (sP st su ss) (rP rt true ro { rr with g := rr.g + (1 + m) }) way) (by kernel_rfl) ⟨hB3.drew, h3.drew⟩ (fun hH => ?_)
        generalize W3.drew = xq36 at hH ⊢
        refine tkH 0 rfl (yieldsIf_pure _ (.pointer (some ⟨xb, 0, none⟩)) rfl (.inl rfl) rfl) hH ?_
        try simp only [zz1, zz2, zz3, Act.put, zz4, zz5, zz6]
        refine tkH 1 rfl (yieldsIf_cell (.pointer (some ⟨xb, 0, none⟩)) rfl (fun w h => rfl)) hH ?_
        try simp only [zz1, zz2, zz3, Act.put, zz4, zz5, zz6]
        refine tkH 2 rfl (yieldsIf_cell (.pointer (some ⟨xb, 13, none⟩)) rfl (fun w h => by go_simp)) hH ?_
        try simp only [zz1, zz2, zz3, Act.put, zz4, zz5, zz6]
        refine tkH 3 rfl (yS rfl _ rfl xb 13 rfl #[.int .i64 1, .int .u64 rt, .bool true, .int .u64 ro, .int .u64 0, .int .u64 0, .int .u64 0, .slice Ar 0 cr, .int .u64 (rr.g + (1 + m)), .int .u64 rr.r, .int .u64 rr.fl, .slice A1 rr.tk.length c1, .slice B1 rr.kp.length d1] (fun w h => h.2.rngR) HSZq.out) hH ?_
        try simp only [zz1, zz2, zz3, Act.put, zz4, zz5, zz6]
        refine tkH 4 rfl (yieldsIf_pure _ (.pointer (some ⟨xb, 0, none⟩)) rfl (.inl rfl) rfl) hH ?_
        try simp only [zz1, zz2, zz3, Act.put, zz4, zz5, zz6]
        refine tkH 5 rfl (yieldsIf_cell (.pointer (some ⟨xb, 0, none⟩)) rfl (fun w h => rfl)) hH ?_
        try simp only [zz1, zz2, zz3, Act.put, zz4, zz5, zz6]
        refine tkH 6 rfl (yieldsIf_cell (.pointer (some ⟨xb, 27, none⟩)) rfl (fun w h => by go_simp)) hH ?_
        try simp only [zz1, zz2, zz3, Act.put, zz4, zz5, zz6]
        refine tkH 7 rfl (yieldsIf_cell (.int .u64 br) rfl (fun wy h => by have j0 := h.2.c27; go_simp)) hH ?_
        try simp only [zz1, zz2, zz3, Act.put, zz4, zz5, zz6]
        refine rdH [8, 12] ?_
        refine AllReadyH.cons rfl (fun KK hK => ?_) ?_
        · go_simp
          refine (HEL.out _ _ hH.2.r.at).mono ?_
          rintro e xq37 ⟨rfl, hb37⟩
          refine hK.out _ _ ⟨hH.1.trans (hb37.mono (Nat.le_of_lt hH.2.lt)), hH.2.below hb37⟩ (fun hH37 => ?_)
          clear hK KK
          try simp only [zz1, zz2, zz3, Act.put, zz4, zz5, zz6]
          refine tkH 9 rfl (yieldsIf_pure _ (.tuple #[.agg D, .int .i64 er]) rfl (.inl rfl) rfl) hH37 ?_
          try simp only [zz1, zz2, zz3, Act.put, zz4, zz5, zz6]
          refine tkH 10 rfl (yieldsIf_cell (.agg D) rfl (fun w h => by go_simp)) hH37 ?_
          try simp only [zz1, zz2, zz3, Act.put, zz4, zz5, zz6]
          refine tkH 11 rfl (yieldsIf_cell (.int .i64 er) rfl (fun w h => by go_simp)) hH37 ?_
          try simp only [zz1, zz2, zz3, Act.put, zz4, zz5, zz6]
          refine rdH [12] ?_
          refine c1H rfl fun KK hK => ?_
          rw [if_pos (by rfl)]
          refine wp_alloc_z 51 (by rfl) _ rfl zF19 zeroFr ?_
          have kg38 := Blk.new xq37 51 zF19
          have pe38 := PX.allocE hH37.2 (.cells zF19 51)
          have hxg38 : xb ≤ xq37.heap.size := Nat.le_of_lt hH37.2.lt
          have hc38 : (fun wy => Below xb w wy ∧ PX NoE wy xb S #[.int .i64 1, .int .u64 rt, .bool true, .int .u64 ro, .int .u64 0, .int .u64 0, .int .u64 0, .slice Ar 0 cr, .int .u64 (rr.g + (1 + m)), .int .u64 rr.r, .int .u64 rr.fl, .slice A1 rr.tk.length c1, .slice B1 rr.kp.length d1] bs br (.slice A way.length c) (sP st su ss) (rP rt true ro { rr with g := rr.g + (1 + m) }) way) (xq37.alloc (.cells zF19 51)) := ⟨hH37.1.alloc (Nat.le_of_lt hH37.2.lt) _, hH37.2.alloc _⟩
          generalize xq37.alloc (.cells zF19 51) = xq38 at hc38 kg38 pe38 ⊢
          generalize xq37.heap.size = gq38 at kg38 pe38 hxg38 ⊢
          refine hK.out _ _ hc38 (fun hH38 => ?_)
          clear hc38
          clear hK KK
          try simp only [zz1, zz2, zz3, Act.put, zz4, zz5, zz6]
          refine rdH [13] ?_
          refine c1H rfl fun KK hK => ?_
          rw [if_pos (by rfl)]
          refine wp_store_mid 51 _ _ rfl gq38 0 D rfl rfl (Blk.there kg38 0 _ (by rw [HDS.out]; exact Nat.le_refl _)) (by rw [HDS.out]; kernel_rfl) HD1.out ?_
          have kg39 : Blk (xq38.setCells gq38 0 (Array.toList D)) gq38 51 D := kg38.setAll (by rw [HDS.out]; rfl)
          have pe39 := pe38.far rfl (Array.toList D) 0
          have hc39 : (fun wy => Below xb w wy ∧ PX NoE wy xb S #[.int .i64 1, .int .u64 rt, .bool true, .int .u64 ro, .int .u64 0, .int .u64 0, .int .u64 0, .slice Ar 0 cr, .int .u64 (rr.g + (1 + m)), .int .u64 rr.r, .int .u64 rr.fl, .slice A1 rr.tk.length c1, .slice B1 rr.kp.length d1] bs br (.slice A way.length c) (sP st su ss) (rP rt true ro { rr with g := rr.g + (1 + m) }) way) (xq38.setCells gq38 0 (Array.toList D)) := ⟨below_setCells hxg38 _ _ hH38.1, pe39.noE⟩
          generalize xq38.setCells gq38 0 (Array.toList D) = xq39 at hc39 kg39 pe39 ⊢
          refine hK.out _ _ hc39 (fun hH39 => ?_)
          clear hc39
          clear hK KK
          try simp only [zz1, zz2, zz3, Act.put, zz4, zz5, zz6]
          refine tkH 14 rfl (yieldsIf_pure _ (.int .i64 er) rfl (.inr rfl) rfl) hH39 ?_
          try simp only [zz1, zz2, zz3, Act.put, zz4, zz5, zz6]
          refine wpAnyH_done (by kernel_rfl) ?_ _
          have hz := hH39.2
          have hBz := hH39.1
          have kz := kg39
          clear hH39
          go_wp2_with (refine wpList_ldrow (by rfl) 51 _ (by rfl) gq38 (by rfl) 51 D (0, 0) _ kz Try.underlying51 (by rfl) (by rw [HDS.out]; kernel_rfl) ?_)
          refine (PUT.out _ _ _ hz).mono ?_
          rintro e wz ⟨rfl, hbz, hGz⟩
          go_wp2_with fail
          refine bodyPost_ret (v := .bool true) (by simp [results, Try.results15, go_sem]) rfl ?_
          exact ⟨rfl, hBz.trans hbz, hGz⟩
        refine AllReadyH.cons rfl (fun KK hK => ?_) ?_
        · rw [if_pos (by rfl)]
          refine wp_alloc_z 51 (by rfl) _ rfl zF19 zeroFr ?_
          have kg40 := Blk.new xq36 51 zF19
          have pe40 := PX.allocE hH.2 (.cells zF19 51)
          have hxg40 : xb ≤ xq36.heap.size := Nat.le_of_lt hH.2.lt
          have hc40 : (fun wy => Below xb w wy ∧ PX NoE wy xb S #[.int .i64 1, .int .u64 rt, .bool true, .int .u64 ro, .int .u64 0, .int .u64 0, .int .u64 0, .slice Ar 0 cr, .int .u64 (rr.g + (1 + m)), .int .u64 rr.r, .int .u64 rr.fl, .slice A1 rr.tk.length c1, .slice B1 rr.kp.length d1] bs br (.slice A way.length c) (sP st su ss) (rP rt true ro { rr with g := rr.g + (1 + m) }) way) (xq36.alloc (.cells zF19 51)) := ⟨hH.1.alloc (Nat.le_of_lt hH.2.lt) _, hH.2.alloc _⟩
          generalize xq36.alloc (.cells zF19 51) = xq40 at hc40 kg40 pe40 ⊢
          generalize xq36.heap.size = gq40 at kg40 pe40 hxg40 ⊢
          refine hK.out _ _ hc40 (fun hH40 => ?_)
          clear hc40
          clear hK KK
          try simp only [zz1, zz2, zz3, Act.put, zz4, zz5, zz6]
          refine rdH [8] ?_
          refine c1H rfl fun KK hK => ?_
          go_simp
          refine (HEL.out _ _ hH40.2.r.at).mono ?_
          rintro e xq41 ⟨rfl, hb41⟩
          have kg41 := kg40.below hb41
          have pe41 := pe40.below hb41
          refine hK.out _ _ ⟨hH40.1.trans (hb41.mono (Nat.le_of_lt hH40.2.lt)), hH40.2.below hb41⟩ (fun hH41 => ?_)
          clear hK KK
          try simp only [zz1, zz2, zz3, Act.put, zz4, zz5, zz6]
          refine tkH 9 rfl (yieldsIf_pure _ (.tuple #[.agg D, .int .i64 er]) rfl (.inl rfl) rfl) hH41 ?_
          try simp only [zz1, zz2, zz3, Act.put, zz4, zz5, zz6]
          refine tkH 10 rfl (yieldsIf_cell (.agg D) rfl (fun w h => by go_simp)) hH41 ?_
          try simp only [zz1, zz2, zz3, Act.put, zz4, zz5, zz6]
          refine tkH 11 rfl (yieldsIf_cell (.int .i64 er) rfl (fun w h => by go_simp)) hH41 ?_
          try simp only [zz1, zz2, zz3, Act.put, zz4, zz5, zz6]
          refine rdH [13] ?_
          refine c1H rfl fun KK hK => ?_
          rw [if_pos (by rfl)]
          refine wp_store_mid 51 _ _ rfl gq40 0 D rfl rfl (Blk.there kg41 0 _ (by rw [HDS.out]; exact Nat.le_refl _)) (by rw [HDS.out]; kernel_rfl) HD1.out ?_
          have kg42 : Blk (xq41.setCells gq40 0 (Array.toList D)) gq40 51 D := kg41.setAll (by rw [HDS.out]; rfl)
          have pe42 := pe41.far rfl (Array.toList D) 0
          have hc42 : (fun wy => Below xb w wy ∧ PX NoE wy xb S #[.int .i64 1, .int .u64 rt, .bool true, .int .u64 ro, .int .u64 0, .int .u64 0, .int .u64 0, .slice Ar 0 cr, .int .u64 (rr.g + (1 + m)), .int .u64 rr.r, .int .u64 rr.fl, .slice A1 rr.tk.length c1, .slice B1 rr.kp.length d1] bs br (.slice A way.length c) (sP st su ss) (rP rt true ro { rr with g := rr.g + (1 + m) }) way) (xq41.setCells gq40 0 (Array.toList D)) := ⟨below_setCells hxg40 _ _ hH41.1, pe42.noE⟩
          generalize xq41.setCells gq40 0 (Array.toList D) = xq42 at hc42 kg42 pe42 ⊢
          refine hK.out _ _ hc42 (fun hH42 => ?_)
          clear hc42
          clear hK KK
          try simp only [zz1, zz2, zz3, Act.put, zz4, zz5, zz6]
          refine tkH 14 rfl (yieldsIf_pure _ (.int .i64 er) rfl (.inr rfl) rfl) hH42 ?_
          try simp only [zz1, zz2, zz3, Act.put, zz4, zz5, zz6]
          refine wpAnyH_done (by kernel_rfl) ?_ _
          have hz := hH42.2
          have hBz := hH42.1
          have kz := kg42
          clear hH42
          go_wp2_with (refine wpList_ldrow (by rfl) 51 _ (by rfl) gq40 (by rfl) 51 D (0, 0) _ kz Try.underlying51 (by rfl) (by rw [HDS.out]; kernel_rfl) ?_)
          refine (PUT.out _ _ _ hz).mono ?_
          rintro e wz ⟨rfl, hbz, hGz⟩
          go_wp2_with fail
          refine bodyPost_ret (v := .bool true) (by simp [results, Try.results15, go_sem]) rfl ?_
          exact ⟨rfl, hBz.trans hbz, hGz⟩
        exact AllReadyH.nil
    · have hrt' : ¬ rt > 0 := hrt
      obtain ⟨D, hD⟩ : ∃ D, (gfr (rP rt ru ro rr) 2 br 2 rr.g 0).cells.toArray = D := ⟨_, rfl⟩
      have HDS : Hid (D.size = 19) := Lib.hid (by rw [← hD]; rfl)
      have HD1 : Hid (D.all (·.oneCell') = true) := Lib.hid (by rw [← hD]; exact fr_all _)
      have HEL := Lib.hid (fun V w h => grant_ra (hI.next hi) V w h)
      have PUT := Lib.hid (fun (S R : Array Value) w h => put_act (hI.next hi) hWY hwl (gfr (rP rt ru ro rr) 2 br 2 rr.g 0) (begE (rP rt ru ro rr) 2 br 2) (fun h0 => (hI.next hi).grF h0) (beg_or ((hI.next hi).begR 2)) (xb := xb) (S := S) (R := R) (A := A) (c := c) w h)
      rw [hD] at HEL PUT
      clear hD
      generalize begE (rP rt ru ro rr) 2 br 2 = er at HEL PUT
      have hB : Below xb w w := Below.refl _ _ |>.mono (Nat.le_of_lt h.lt)
      have r1 : w.cell? ⟨xb, 14, none⟩ = some (.int .u64 rt) := h.cR (i := 1) (by decide)
      have r2 : w.cell? ⟨xb, 15, none⟩ = some (.bool _) := h.cR (i := 2) (by decide)
      clear hI
      go_enter Try.func15, Try.ntmps15
      go_upto_region 25 with fail
      clear r1 r2
      have HSZq := Lib.hid h.r.size
      refine wp_region_held_drew (S := fun wy => Below xb w wy ∧ PX NoE wy xb S #[.int .i64 1, .int .u64 rt, .bool ru, .int .u64 ro, .int .u64 0, .int .u64 0, .int .u64 0, .slice Ar 0 cr, .int .u64 rr.g, .int .u64 rr.r, .int .u64 rr.fl, .slice At rr.tk.length ct, .slice Bt rr.kp.length dt] bs br (.slice A way.length c) (sP st su ss) (rP rt ru ro rr) way) (by kernel_rfl) ⟨hB.drew, h.drew⟩ (fun hH => ?_)
      generalize w.drew = xq43 at hH ⊢
      refine tkH 0 rfl (yieldsIf_pure _ (.pointer (some ⟨xb, 0, none⟩)) rfl (.inl rfl) rfl) hH ?_
      try simp only [zz1, zz2, zz3, Act.put, zz4, zz5, zz6]
      refine tkH 1 rfl (yieldsIf_cell (.pointer (some ⟨xb, 0, none⟩)) rfl (fun w h => rfl)) hH ?_
      try simp only [zz1, zz2, zz3, Act.put, zz4, zz5, zz6]
      refine tkH 2 rfl (yieldsIf_cell (.pointer (some ⟨xb, 13, none⟩)) rfl (fun w h => by go_simp)) hH ?_
      try simp only [zz1, zz2, zz3, Act.put, zz4, zz5, zz6]
      refine tkH 3 rfl (yS rfl _ rfl xb 13 rfl #[.int .i64 1, .int .u64 rt, .bool ru, .int .u64 ro, .int .u64 0, .int .u64 0, .int .u64 0, .slice Ar 0 cr, .int .u64 rr.g, .int .u64 rr.r, .int .u64 rr.fl, .slice At rr.tk.length ct, .slice Bt rr.kp.length dt] (fun w h => h.2.rngR) HSZq.out) hH ?_
      try simp only [zz1, zz2, zz3, Act.put, zz4, zz5, zz6]
      refine tkH 4 rfl (yieldsIf_pure _ (.pointer (some ⟨xb, 0, none⟩)) rfl (.inl rfl) rfl) hH ?_
      try simp only [zz1, zz2, zz3, Act.put, zz4, zz5, zz6]
      refine tkH 5 rfl (yieldsIf_cell (.pointer (some ⟨xb, 0, none⟩)) rfl (fun w h => rfl)) hH ?_
      try simp only [zz1, zz2, zz3, Act.put, zz4, zz5, zz6]
      refine tkH 6 rfl (yieldsIf_cell (.pointer (some ⟨xb, 27, none⟩)) rfl (fun w h => by go_simp)) hH ?_
      try simp only [zz1, zz2, zz3, Act.put, zz4, zz5, zz6]
      refine tkH 7 rfl (yieldsIf_cell (.int .u64 br) rfl (fun wy h => by have j0 := h.2.c27; go_simp)) hH ?_
      try simp only [zz1, zz2, zz3, Act.put, zz4, zz5, zz6]
      refine rdH [8, 12] ?_
      refine AllReadyH.cons rfl (fun KK hK => ?_) ?_
      · go_simp
        refine (HEL.out _ _ hH.2.r.at).mono ?_
        rintro e xq44 ⟨rfl, hb44⟩
        refine hK.out _ _ ⟨hH.1.trans (hb44.mono (Nat.le_of_lt hH.2.lt)), hH.2.below hb44⟩ (fun hH44 => ?_)
        clear hK KK
        try simp only [zz1, zz2, zz3, Act.put, zz4, zz5, zz6]
        refine tkH 9 rfl (yieldsIf_pure _ (.tuple #[.agg D, .int .i64 er]) rfl (.inl rfl) rfl) hH44 ?_
        try simp only [zz1, zz2, zz3, Act.put, zz4, zz5, zz6]
        refine tkH 10 rfl (yieldsIf_cell (.agg D) rfl (fun w h => by go_simp)) hH44 ?_
        try simp only [zz1, zz2, zz3, Act.put, zz4, zz5, zz6]
        refine tkH 11 rfl (yieldsIf_cell (.int .i64 er) rfl (fun w h => by go_simp)) hH44 ?_
        try simp only [zz1, zz2, zz3, Act.put, zz4, zz5, zz6]
        refine rdH [12] ?_
        refine c1H rfl fun KK hK => ?_
        rw [if_pos (by rfl)]
        refine wp_alloc_z 51 (by rfl) _ rfl zF19 zeroFr ?_
        have kg45 := Blk.new xq44 51 zF19
        have pe45 := PX.allocE hH44.2 (.cells zF19 51)
        have hxg45 : xb ≤ xq44.heap.size := Nat.le_of_lt hH44.2.lt
        have hc45 : (fun wy => Below xb w wy ∧ PX NoE wy xb S #[.int .i64 1, .int .u64 rt, .bool ru, .int .u64 ro, .int .u64 0, .int .u64 0, .int .u64 0, .slice Ar 0 cr, .int .u64 rr.g, .int .u64 rr.r, .int .u64 rr.fl, .slice At rr.tk.length ct, .slice Bt rr.kp.length dt] bs br (.slice A way.length c) (sP st su ss) (rP rt ru ro rr) way) (xq44.alloc (.cells zF19 51)) := ⟨hH44.1.alloc (Nat.le_of_lt hH44.2.lt) _, hH44.2.alloc _⟩
        generalize xq44.alloc (.cells zF19 51) = xq45 at hc45 kg45 pe45 ⊢
        generalize xq44.heap.size = gq45 at kg45 pe45 hxg45 ⊢
        refine hK.out _ _ hc45 (fun hH45 => ?_)
        clear hc45
        clear hK KK
        try simp only [zz1, zz2, zz3, Act.put, zz4, zz5, zz6]
        refine rdH [13] ?_
        refine c1H rfl fun KK hK => ?_
        rw [if_pos (by rfl)]
        refine wp_store_mid 51 _ _ rfl gq45 0 D rfl rfl (Blk.there kg45 0 _ (by rw [HDS.out]; exact Nat.le_refl _)) (by rw [HDS.out]; kernel_rfl) HD1.out ?_
        have kg46 : Blk (xq45.setCells gq45 0 (Array.toList D)) gq45 51 D := kg45.setAll (by rw [HDS.out]; rfl)
        have pe46 := pe45.far rfl (Array.toList D) 0
        have hc46 : (fun wy => Below xb w wy ∧ PX NoE wy xb S #[.int .i64 1, .int .u64 rt, .bool ru, .int .u64 ro, .int .u64 0, .int .u64 0, .int .u64 0, .slice Ar 0 cr, .int .u64 rr.g, .int .u64 rr.r, .int .u64 rr.fl, .slice At rr.tk.length ct, .slice Bt rr.kp.length dt] bs br (.slice A way.length c) (sP st su ss) (rP rt ru ro rr) way) (xq45.setCells gq45 0 (Array.toList D)) := ⟨below_setCells hxg45 _ _ hH45.1, pe46.noE⟩
        generalize xq45.setCells gq45 0 (Array.toList D) = xq46 at hc46 kg46 pe46 ⊢
        refine hK.out _ _ hc46 (fun hH46 => ?_)
        clear hc46
        clear hK KK
        try simp only [zz1, zz2, zz3, Act.put, zz4, zz5, zz6]
        refine tkH 14 rfl (yieldsIf_pure _ (.int .i64 er) rfl (.inr rfl) rfl) hH46 ?_
        try simp only [zz1, zz2, zz3, Act.put, zz4, zz5, zz6]
        refine wpAnyH_done (by kernel_rfl) ?_ _
        have hz := hH46.2
        have hBz := hH46.1
        have kz := kg46
        clear hH46
        go_wp2_with (refine wpList_ldrow (by rfl) 51 _ (by rfl) gq45 (by rfl) 51 D (0, 0) _ kz Try.underlying51 (by rfl) (by rw [HDS.out]; kernel_rfl) ?_)
        refine (PUT.out _ _ _ hz).mono ?_
        rintro e wz ⟨rfl, hbz, hGz⟩
        go_wp2_with fail
        refine bodyPost_ret (v := .bool true) (by simp [results, Try.results15, go_sem]) rfl ?_
        exact ⟨rfl, hBz.trans hbz, hGz⟩
      refine AllReadyH.cons rfl (fun KK hK => ?_) ?_
      · rw [if_pos (by rfl)]
        refine wp_alloc_z 51 (by rfl) _ rfl zF19 zeroFr ?_
        have kg47 := Blk.new xq43 51 zF19
        have pe47 := PX.allocE hH.2 (.cells zF19 51)
        have hxg47 : xb ≤ xq43.heap.size := Nat.le_of_lt hH.2.lt
        have hc47 : (fun wy => Below xb w wy ∧ PX NoE wy xb S #[.int .i64 1, .int .u64 rt, .bool ru, .int .u64 ro, .int .u64 0, .int .u64 0, .int .u64 0, .slice Ar 0 cr, .int .u64 rr.g, .int .u64 rr.r, .int .u64 rr.fl, .slice At rr.tk.length ct, .slice Bt rr.kp.length dt] bs br (.slice A way.length c) (sP st su ss) (rP rt ru ro rr) way) (xq43.alloc (.cells zF19 51)) := ⟨hH.1.alloc (Nat.le_of_lt hH.2.lt) _, hH.2.alloc _⟩
        generalize xq43.alloc (.cells zF19 51) = xq47 at hc47 kg47 pe47 ⊢
        generalize xq43.heap.size = gq47 at kg47 pe47 hxg47 ⊢
        refine hK.out _ _ hc47 (fun hH47 => ?_)
        clear hc47
        clear hK KK
        try simp only [zz1, zz2, zz3, Act.put, zz4, zz5, zz6]
        refine rdH [8] ?_
        refine c1H rfl fun KK hK => ?_
        go_simp
        refine (HEL.out _ _ hH47.2.r.at).mono ?_
        rintro e xq48 ⟨rfl, hb48⟩
        have kg48 := kg47.below hb48
        have pe48 := pe47.below hb48
        refine hK.out _ _ ⟨hH47.1.trans (hb48.mono (Nat.le_of_lt hH47.2.lt)), hH47.2.below hb48⟩ (fun hH48 => ?_)
        clear hK KK
        try simp only [zz1, zz2, zz3, Act.put, zz4, zz5, zz6]
        refine tkH 9 rfl (yieldsIf_pure _ (.tuple #[.agg D, .int .i64 er]) rfl (.inl rfl) rfl) hH48 ?_
        try simp only [zz1, zz2, zz3, Act.put, zz4, zz5, zz6]
        refine tkH 10 rfl (yieldsIf_cell (.agg D) rfl (fun w h => by go_simp)) hH48 ?_
        try simp only [zz1, zz2, zz3, Act.put, zz4, zz5, zz6]
        refine tkH 11 rfl (yieldsIf_cell (.int .i64 er) rfl (fun w h => by go_simp)) hH48 ?_
        try simp only [zz1, zz2, zz3, Act.put, zz4, zz5, zz6]
        refine rdH [13] ?_
        refine c1H rfl fun KK hK => ?_
        rw [if_pos (by rfl)]
        refine wp_store_mid 51 _ _ rfl gq47 0 D rfl rfl (Blk.there kg48 0 _ (by rw [HDS.out]; exact Nat.le_refl _)) (by rw [HDS.out]; kernel_rfl) HD1.out ?_
        have kg49 : Blk (xq48.setCells gq47 0 (Array.toList D)) gq47 51 D := kg48.setAll (by rw [HDS.out]; rfl)
        have pe49 := pe48.far rfl (Array.toList D) 0
        have hc49 : (fun wy => Below xb w wy ∧ PX NoE wy xb S #[.int .i64 1, .int .u64 rt, .bool ru, .int .u64 ro, .int .u64 0, .int .u64 0, .int .u64 0, .slice Ar 0 cr, .int .u64 rr.g, .int .u64 rr.r, .int .u64 rr.fl, .slice At rr.tk.length ct, .slice Bt rr.kp.length dt] bs br (.slice A way.length c) (sP st su ss) (rP rt ru ro rr) way) (xq48.setCells gq47 0 (Array.toList D)) := ⟨below_setCells hxg47 _ _ hH48.1, pe49.noE⟩
        generalize xq48.setCells gq47 0 (Array.toList D) = xq49 at hc49 kg49 pe49 ⊢
        refine hK.out _ _ hc49 (fun hH49 => ?_)
        clear hc49
        clear hK KK
        try simp only [zz1, zz2, zz3, Act.put, zz4, zz5, zz6]
        refine tkH 14 rfl (yieldsIf_pure _ (.int .i64 er) rfl (.inr rfl) rfl) hH49 ?_
        try simp only [zz1, zz2, zz3, Act.put, zz4, zz5, zz6]
        refine wpAnyH_done (by kernel_rfl) ?_ _
        have hz := hH49.2
        have hBz := hH49.1
        have kz := kg49
        clear hH49
        go_wp2_with (refine wpList_ldrow (by rfl) 51 _ (by rfl) gq47 (by rfl) 51 D (0, 0) _ kz Try.underlying51 (by rfl) (by rw [HDS.out]; kernel_rfl) ?_)
        refine (PUT.out _ _ _ hz).mono ?_
        rintro e wz ⟨rfl, hbz, hGz⟩
        go_wp2_with fail
        refine bodyPost_ret (v := .bool true) (by simp [results, Try.results15, go_sem]) rfl ?_
        exact ⟨rfl, hBz.trans hbz, hGz⟩
      exact AllReadyH.nil

set_option maxRecDepth 100000 in
set_option maxHeartbeats 16000000 in
theorem act_6 {i st : Int} {su : Bool} {ss : Led} {rt : Int} {ru : Bool} {ro : Int} {rr : Rec} {bs br : Int} {way : List Fr} (hI : Inv i st su ss rt ru ro rr bs br way) (hi : i < 1000) (hWY : WY way) (hwl : way.length ≤ 40) (n ii : Int) (hn : 0 ≤ n ∧ n < 1048576) (hr : n.tmod 12 = 6) (hii : 0 ≤ ii ∧ ii ≤ 1000)
    (xb : Nat) (S R : Array Value) (A : Option Addr) (c : Nat) (w : World) (h : PX NoE w xb S R bs br (.slice A way.length c) (sP st su ss) (rP rt ru ro rr) way) :
    Calls Try.prog 15 #[.pointer (some ⟨xb, 0, none⟩), .int .i64 n, .int .i64 ii] w (ActPost (i + 1) xb w) := by
  obtain ⟨q, hq⟩ : ∃ q, n.tdiv 12 = q := ⟨_, rfl⟩
  have hq0 : 0 ≤ q ∧ q ≤ 87381 := by rw [← hq, Int.tdiv_eq_ediv_of_nonneg hn.1]; omega
  obtain ⟨m, hm⟩ : ∃ m, q.tmod 40 = m := ⟨_, rfl⟩
  have hm0 : 0 ≤ m ∧ m < 40 := by rw [← hm, Int.tmod_eq_emod_of_nonneg hq0.1]; omega
  obtain ⟨As, cs, At, ct, Ak, ck, rfl⟩ := frmS h.s
  have OFF := Lib.hid (fun v w hS => lOffer_any ss hI.ws (1 + m) 1 ii 0 (by omega) (by omega) v w hS)
  obtain ⟨⟨s2, k2, e2⟩, hres⟩ : ∃ res, Go.Proofs.Ytfgkkflbpfocjaa.offer ss (1 + m) 1 ii 0 = res := ⟨_, rfl⟩
  rw [hres] at OFF
  have HIN := Lib.hid (hI.next hi)
  have HOF : Hid (e2 = 0 → 0 < st → Inv (i + 1) st su s2 rt ru ro rr bs br way) := Lib.hid (fun h0 hst => by
    subst h0
    exact hI.offered hi (by omega) hii.1 hst hres)
  have WI : IntKind.u64.wrap ii = ii := IntWalk.u64_in _ (by omega)
  clear hI hres
  go_enter Try.func15, Try.ntmps15
  go_wp2_with (refine wpList_load_mid (by rfl) 25 _ (by rfl) xb 4 (by rfl) [.int .u64 ss.g, .int .u64 ss.n, .int .u64 ss.r, .slice As ss.sl.length cs] _ (h.rngSp 4 4 _ rfl (by decide)) Try.underlying25 (by rfl) (by kernel_rfl) ?_)
  clear WI
  refine (OFF.out _ _ h.s.rows.1).mono ?_
  rintro e v1 ⟨v2, rfl, hown, hb⟩
  dsimp only at hown ⊢
  obtain ⟨A2, c2, rfl, _⟩ := SlAt.own hown
  have pz := h.s.snd (s := s2) hb (.ofB (RowB.own hown (Nat.le_refl _)) (h.newX (noE_lt _)))
  have h1 := h.below hb
  have hB1 : Below xb w v1 := hb.mono (Nat.le_of_lt h.lt)
  clear hown hb h OFF
  go_upto_region 29 with (go_big_may; first | (refine wpList_alloc_z (by rfl) 25 (by rfl) _ rfl #[.int .u64 0, .int .u64 0, .int .u64 0, .slice none 0 0] (fun w => by kernel_rfl) ?_) | (refine wpList_store_new (by rfl) 25 _ _ (by rfl) v1 #[.int .u64 0, .int .u64 0, .int .u64 0, .slice none 0 0] #[.int .u64 s2.g, .int .u64 s2.n, .int .u64 s2.r, .slice A2 s2.sl.length c2] rfl (by rfl) (by rfl) (by kernel_rfl) rfl (by kernel_rfl) ?_))
  have k9 := Blk.new v1 25 #[.int .u64 s2.g, .int .u64 s2.n, .int .u64 s2.r, .slice A2 s2.sl.length c2]
  replace hB1 := hB1.alloc (Nat.le_of_lt h1.lt) (.cells #[.int .u64 s2.g, .int .u64 s2.n, .int .u64 s2.r, .slice A2 s2.sl.length c2] 25)
  replace h1 := h1.alloc (.cells #[.int .u64 s2.g, .int .u64 s2.n, .int .u64 s2.r, .slice A2 s2.sl.length c2] 25)
  replace pz := pz.below ((Below.refl _ _).alloc (Nat.le_refl _) (.cells #[.int .u64 s2.g, .int .u64 s2.n, .int .u64 s2.r, .slice A2 s2.sl.length c2] 25))
  generalize v1.alloc (.cells #[.int .u64 s2.g, .int .u64 s2.n, .int .u64 s2.r, .slice A2 s2.sl.length c2] 25) = w2 at k9 h1 hB1 pz ⊢
  generalize v1.heap.size = g9 at k9 ⊢
  have r1 : w2.cell? ⟨xb, 1, none⟩ = some (.int .u64 st) := h1.cS (i := 1) (by decide)
  by_cases he : e2 = 0
  · subst he
    by_cases hst : 0 < st
    · have hst' : st > 0 := hst
      have HI2 := Lib.hid (HOF.out rfl hst)
      go_wp2_with (first | (refine wpList_ldrow (by rfl) 25 _ (by rfl) g9 (by rfl) 25 #[.int .u64 s2.g, .int .u64 s2.n, .int .u64 s2.r, .slice A2 s2.sl.length c2] (0, 0) _ k9 Try.underlying25 (by rfl) (by kernel_rfl) ?_) | (refine wpList_store_gen (by rfl) 25 _ _ (by rfl) xb 4 #[.int .u64 s2.g, .int .u64 s2.n, .int .u64 s2.r, .slice A2 s2.sl.length c2] (by rfl) (by rfl) (by exact h1.there 4 4 (by decide)) (by kernel_rfl) (by kernel_rfl) ?_; intro W3 hW3))
      have h3 : PX NoE W3 xb #[.int .i64 2, .int .u64 st, .bool su, .int .u64 0, .int .u64 s2.g, .int .u64 s2.n, .int .u64 s2.r, .slice A2 s2.sl.length c2, .int .u64 0, .int .u64 0, .int .u64 0, .slice At 0 ct, .slice Ak 0 ck] R bs br (.slice A way.length c) (sP st su s2) (rP rt ru ro rr) way := by rw [hW3.out]; exact h1.partS (o := 4) (l := Array.toList #[.int .u64 s2.g, .int .u64 s2.n, .int .u64 s2.r, .slice A2 s2.sl.length c2]) (by show 4 + 4 ≤ 13; decide) rfl pz
      have hB3 : Below xb w W3 := by rw [hW3.out]; exact below_setCells (Nat.le_refl _) _ _ hB1
      refine bodyPost_ret (v := .bool true) (by simp [results, Try.results15, go_sem]) rfl ?_
      exact ⟨rfl, hB3, bs, br, st, su, s2, rt, ru, ro, rr, way, _, _, A, c, HI2.out, hWY, hwl, h3⟩
    · have hst' : ¬ st > 0 := hst
      go_wp2_with fail
      refine bodyPost_ret (v := .bool true) (by simp [results, Try.results15, go_sem]) rfl ?_
      exact ⟨rfl, hB1, bs, br, st, su, ss, rt, ru, ro, rr, way, _, _, A, c, HIN.out, hWY, hwl, h1⟩
  · have e1 : (e2 == 0) = false := by simpa using he
    clear he
    go_wp2_with fail
    refine bodyPost_ret (v := .bool true) (by simp [results, Try.results15, go_sem]) rfl ?_
    exact ⟨rfl, hB1, bs, br, st, su, ss, rt, ru, ro, rr, way, _, _, A, c, HIN.out, hWY, hwl, h1⟩

end Go.Proofs.Ytfgkkflbpfocjaa

