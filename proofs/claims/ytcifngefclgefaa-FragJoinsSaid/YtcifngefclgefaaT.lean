/- The law: the chapter's examples. -/
import Derived.Test.YtcifngefclgefaaR
namespace Go.Proofs.Ytcifngefclgefaa
open Go.RowKit
set_option linter.unusedVariables false
set_option linter.unusedSimpArgs false

theorem kn_cut0 : cutOf hd0 sAll 0 = ([], 2) := by kernel_rfl
theorem kn_cut1 : cutOf hd0 ⟨#[]⟩ 3 = ([], 3) := by kernel_rfl
theorem kn_join : joinOf [pc 3 sDEF, pc 0 sABC] = (noB, 8) := by
  unfold joinOf
  rw [ex_laid2]
  decide +kernel
theorem kn_cov : rgsOf [pc 3 sDEF, pc 0 sABC] true = ([⟨0, 6⟩], 0) := by
  unfold rgsOf
  rw [ex_laid2]
  decide +kernel
theorem kn_c1 : laidE [pc 0 sABC, pc 2 ⟨#[99, 100, 101]⟩] = (0, 0) := by
  rw [laidE_same (by decide) (fun k hk => by match k, hk with | 0, _ => rfl | 1, _ => rfl)]
  decide +kernel
theorem kn_c2 : laidE [pc 0 sABC, pc 2 ⟨#[120, 100, 101]⟩] = (12, 1) := by
  rw [laidE_same (by decide) (fun k hk => by match k, hk with | 0, _ => rfl | 1, _ => rfl)]
  decide +kernel
theorem kn_l3 : laidE l3 = (0, 0) := by
  rw [laidE_same (by decide) (fun k hk => by match k, hk with | 0, _ => rfl | 1, _ => rfl | 2, _ => rfl)]
  decide +kernel
theorem kn_j3 : joinOf l3 = (sAll, 0) := by
  unfold joinOf
  rw [kn_l3]
  decide +kernel
def l2 : List Bn := [pc 0 ⟨#[97, 98, 99, 100, 101]⟩, pc 5 ⟨#[102, 103]⟩]
theorem kn_refit : refitOf l3 5 = (l2, 0) := by
  unfold refitOf
  rw [kn_j3]
  kernel_rfl
theorem kn_part : partOf (pc 3 sDEF) 2 4 = (zBn, 2) := by kernel_rfl
theorem kn_miss0 : rgsOf [] false = ([], 8) := by decide +kernel

set_option maxRecDepth 100000 in
set_option maxHeartbeats 8000000 in
theorem FragKnown_t (w : World) : Calls Try.prog 5 #[] w (RetB true w) := by
  have K1 : Hid (∀ w, Calls Try.prog 11 #[hd0.val, .string sAll, .int .i64 0] w (RetBs [] 2 w)) := Lib.hid (fun w => by have := fCut_any hd0 sAll 0 w; rw [kn_cut0] at this; exact this)
  have K2 : Hid (∀ w, Calls Try.prog 11 #[hd0.val, .string ⟨#[]⟩, .int .i64 3] w (RetBs [] 3 w)) := Lib.hid (fun w => by have := fCut_any hd0 ⟨#[]⟩ 3 w; rw [kn_cut1] at this; exact this)
  have K3 : Hid (∀ v w, BnAt w v [pc 3 sDEF, pc 0 sABC] → Calls Try.prog 23 #[v] w (RetSt noB 8 w)) := Lib.hid (fun v w h => by have := Join_any _ v w h (by decide); rw [kn_join] at this; exact this)
  have K4 : Hid (∀ v w, BnAt w v [pc 3 sDEF, pc 0 sABC] → Calls Try.prog 18 #[v] w (RetRg [⟨0, 6⟩] 0 w)) := Lib.hid (fun v w h => by have := Covered_any _ v w h (by decide); rw [kn_cov] at this; exact this)
  have K5 : Hid (∀ v w, BnAt w v [pc 0 sABC, pc 2 ⟨#[99, 100, 101]⟩] → Calls Try.prog 16 #[v] w (RetII 0 0 w)) := Lib.hid (fun v w h => by have := fCheck_any _ v w h (by decide); rw [kn_c1] at this; exact this)
  have K6 : Hid (∀ v w, BnAt w v [pc 0 sABC, pc 2 ⟨#[120, 100, 101]⟩] → Calls Try.prog 16 #[v] w (RetII 12 1 w)) := Lib.hid (fun v w h => by have := fCheck_any _ v w h (by decide); rw [kn_c2] at this; exact this)
  have K7 : Hid (∀ v w, BnAt w v l3 → Calls Try.prog 25 #[v, .int .i64 5] w (RetBs l2 0 w)) := Lib.hid (fun v w h => by have := fRefit_any _ v 5 w h (by decide); rw [kn_refit] at this; exact this)
  have K8 : Hid (∀ w, Calls Try.prog 13 #[(pc 3 sDEF).val, .int .i64 2, .int .i64 4] w (RetBE zBn 2 w)) := Lib.hid (fun w => by have := Part_any (pc 3 sDEF) 2 4 (by omega) (by omega) w; rw [kn_part] at this; exact this)
  have K9 : Hid (∀ v w, BnAt w v [] → Calls Try.prog 16 #[v] w (RetII 8 0 w)) := Lib.hid (fun v w h => by have := fCheck_any _ v w h (by decide); rw [laidE_nil] at this; exact this)
  have K10 : Hid (∀ v w, BnAt w v [] → Calls Try.prog 21 #[v] w (RetRg [] 8 w)) := Lib.hid (fun v w h => by have := Missing_any _ v w h (by decide); rw [kn_miss0] at this; exact this)
  go_enter Try.func5, Try.ntmps5
  go_wp2_with fail
  refine (head_any _).mono ?_
  rintro e w1 ⟨rfl, hb1⟩
  rw [Bn.val_eq]
  dsimp only [hd0]
  have hB1 := bnext (Below.refl w.heap.size w) hb1
  clear hb1
  go_wp2_with fail
  refine (K1.out _).mono ?_
  rintro e w2 ⟨v2, rfl, hv2, hb2⟩
  obtain ⟨A2, c2, rfl, _⟩ := id hv2
  clear hv2 K1
  have hB2 := bnext hB1 hb2
  clear hb2 hB1
  go_wp2_with fail
  refine (head_any _).mono ?_
  rintro e w3 ⟨rfl, hb3⟩
  rw [Bn.val_eq]
  dsimp only [hd0]
  have hB3 := bnext hB2 hb3
  clear hb3 hB2
  go_wp2_with fail
  refine (K2.out _).mono ?_
  rintro e w4 ⟨v4, rfl, hv4, hb4⟩
  obtain ⟨A4, c4, rfl, _⟩ := id hv4
  clear hv4 K2
  have hB4 := bnext hB3 hb4
  clear hb4 hB3
  go_wp2_with fail
  refine (piece_any 3 sDEF _).mono ?_
  rintro e w5 ⟨rfl, hb5⟩
  rw [Bn.val_eq]
  dsimp only [pc]
  have hB5 := bnext hB4 hb5
  clear hb5 hB4
  go_wp2_with fail
  refine (piece_any 0 sABC _).mono ?_
  rintro e w6 ⟨rfl, hb6⟩
  rw [Bn.val_eq]
  dsimp only [pc]
  have hB6 := bnext hB5 hb6
  clear hb6 hB5
  go_wp2_with fail
  refine (K3.out _ _ (bn_lit (L := [pc 3 sDEF, pc 0 sABC]) (Blk.new _ _ _) 2 rfl (by decide))).mono ?_
  rintro e w7 ⟨rfl, hb7⟩
  dsimp only [noB]
  clear K3
  have hB7 := bnext (bal hB6 _) hb7
  clear hb7 hB6
  go_wp2_with fail
  refine (piece_any 3 sDEF _).mono ?_
  rintro e w8 ⟨rfl, hb8⟩
  rw [Bn.val_eq]
  dsimp only [pc]
  have hB8 := bnext hB7 hb8
  clear hb8 hB7
  go_wp2_with fail
  refine (piece_any 0 sABC _).mono ?_
  rintro e w9 ⟨rfl, hb9⟩
  rw [Bn.val_eq]
  dsimp only [pc]
  have hB9 := bnext hB8 hb9
  clear hb9 hB8
  go_wp2_with fail
  refine (K4.out _ _ (bn_lit (L := [pc 3 sDEF, pc 0 sABC]) (Blk.new _ _ _) 2 rfl (by decide))).mono ?_
  rintro e w10 ⟨v10, rfl, hv10, hb10⟩
  obtain ⟨RA, rc, rfl, _⟩ := id hv10
  have RK := Lib.hid hv10
  clear hv10 K4
  have hB10 := bnext (bal hB9 _) hb10
  clear hb10 hB9
  go_wp2_with fail
  refine (piece_any 0 sABC _).mono ?_
  rintro e w11 ⟨rfl, hb11⟩
  rw [Bn.val_eq]
  dsimp only [pc]
  have hB11 := bnext hB10 hb11
  have RK11 := Lib.hid (SlAt.below RK.out hb11)
  clear hb11 hB10 RK
  go_wp2_with fail
  refine (piece_any 2 ⟨#[99, 100, 101]⟩ _).mono ?_
  rintro e w12 ⟨rfl, hb12⟩
  rw [Bn.val_eq]
  dsimp only [pc]
  have hB12 := bnext hB11 hb12
  have RK12 := Lib.hid (SlAt.below RK11.out hb12)
  clear hb12 hB11 RK11
  go_wp2_with fail
  refine (K5.out _ _ (bn_lit (L := [pc 0 sABC, pc 2 ⟨#[99, 100, 101]⟩]) (Blk.new _ _ _) 2 rfl (by decide))).mono ?_
  rintro e w13 ⟨rfl, hb13⟩
  clear K5
  have hB13 := bnext (bal hB12 _) hb13
  have RK13 := Lib.hid (SlAt.below (SlAt.alloc RK12.out _) hb13)
  clear hb13 hB12 RK12
  go_wp2_with fail
  refine (piece_any 0 sABC _).mono ?_
  rintro e w14 ⟨rfl, hb14⟩
  rw [Bn.val_eq]
  dsimp only [pc]
  have hB14 := bnext hB13 hb14
  have RK14 := Lib.hid (SlAt.below RK13.out hb14)
  clear hb14 hB13 RK13
  go_wp2_with fail
  refine (piece_any 2 ⟨#[120, 100, 101]⟩ _).mono ?_
  rintro e w15 ⟨rfl, hb15⟩
  rw [Bn.val_eq]
  dsimp only [pc]
  have hB15 := bnext hB14 hb15
  have RK15 := Lib.hid (SlAt.below RK14.out hb15)
  clear hb15 hB14 RK14
  go_wp2_with fail
  refine (K6.out _ _ (bn_lit (L := [pc 0 sABC, pc 2 ⟨#[120, 100, 101]⟩]) (Blk.new _ _ _) 2 rfl (by decide))).mono ?_
  rintro e w16 ⟨rfl, hb16⟩
  clear K6
  have hB16 := bnext (bal hB15 _) hb16
  have RK16 := Lib.hid (SlAt.below (SlAt.alloc RK15.out _) hb16)
  clear hb16 hB15 RK15
  go_wp2_with fail
  refine (three_any _).mono ?_
  rintro e w17 ⟨v17, rfl, hv17, hb17⟩
  obtain ⟨TA, tc, rfl, _⟩ := id hv17
  have TK := Lib.hid hv17
  clear hv17
  have hB17 := bnext hB16 hb17
  have RK17 := Lib.hid (SlAt.below RK16.out hb17)
  clear hb17 hB16 RK16
  go_wp2_with fail
  refine (K7.out _ _ TK.out).mono ?_
  rintro e w18 ⟨v18, rfl, hv18, hb18⟩
  obtain ⟨FA, fc, rfl, _⟩ := id hv18
  have FK := Lib.hid hv18
  clear hv18 K7 TK
  have hB18 := bnext hB17 hb18
  have RK18 := Lib.hid (SlAt.below RK17.out hb18)
  clear hb18 hB17 RK17
  go_wp2_with fail
  refine (piece_any 3 sDEF _).mono ?_
  rintro e w19 ⟨rfl, hb19⟩
  rw [Bn.val_eq]
  dsimp only [pc]
  have hB19 := bnext hB18 hb19
  have RK19 := Lib.hid (SlAt.below RK18.out hb19)
  have FK19 := Lib.hid (SlAt.below FK.out hb19)
  clear hb19 hB18 RK18 FK
  go_wp2_with fail
  refine (K8.out _).mono ?_
  rintro e w20 ⟨rfl, hb20⟩
  rw [Bn.val_eq]
  dsimp only [zBn]
  clear K8
  have hB20 := bnext hB19 hb20
  have RK20 := Lib.hid (SlAt.below RK19.out hb20)
  have FK20 := Lib.hid (SlAt.below FK19.out hb20)
  clear hb20 hB19 RK19 FK19
  go_wp2_with fail
  refine (K9.out _ _ (bnAt_nil _)).mono ?_
  rintro e w21 ⟨rfl, hb21⟩
  clear K9
  have hB21 := bnext (bal hB20 _) hb21
  have RK21 := Lib.hid (SlAt.below (SlAt.alloc RK20.out _) hb21)
  have FK21 := Lib.hid (SlAt.below (SlAt.alloc FK20.out _) hb21)
  clear hb21 hB20 RK20 FK20
  go_wp2_with fail
  refine (K10.out _ _ (bnAt_nil _)).mono ?_
  rintro e w22 ⟨v22, rfl, hv22, hb22⟩
  obtain ⟨A22, c22, rfl, _⟩ := id hv22
  clear hv22 K10
  have hB22 := bnext hB21 hb22
  have RK22 := Lib.hid (SlAt.below RK21.out hb22)
  have FK22 := Lib.hid (SlAt.below FK21.out hb22)
  clear hb22 hB21 RK21 FK21
  go_wp2_with fail
  refine (piece_any 0 ⟨#[97, 98, 99, 100, 101]⟩ _).mono ?_
  rintro e w23 ⟨rfl, hb23⟩
  rw [Bn.val_eq]
  dsimp only [pc]
  have hB23 := bnext hB22 hb23
  have RK23 := Lib.hid (SlAt.below RK22.out hb23)
  have FK23 := Lib.hid (SlAt.below FK22.out hb23)
  clear hb23 hB22 RK22 FK22
  go_wp2_with fail
  refine (piece_any 5 ⟨#[102, 103]⟩ _).mono ?_
  rintro e w24 ⟨rfl, hb24⟩
  rw [Bn.val_eq]
  dsimp only [pc]
  have hB24 := bnext hB23 hb24
  have RK24 := Lib.hid (SlAt.below RK23.out hb24)
  have FK24 := Lib.hid (SlAt.below FK23.out hb24)
  clear hb24 hB23 RK23 FK23
  go_wp2_with fail
  refine (same_eq l2 _ _ _ (SlAt.alloc FK24.out _) (bn_lit (L := l2) (Blk.new _ _ _) 2 rfl (by decide))).mono ?_
  rintro e w25 ⟨rfl, hb25⟩
  have hB25 := bnext (bal hB24 _) hb25
  have RK25 := Lib.hid (SlAt.below (SlAt.alloc RK24.out _) hb25)
  have FK25 := Lib.hid (SlAt.below (SlAt.alloc FK24.out _) hb25)
  clear hb25 hB24 RK24 FK24
  go_wp2_with fail
  refine (awake_any _).mono ?_
  rintro e w26 ⟨rfl, hb26⟩
  have hB26 := bnext hB25 hb26
  have RK26 := Lib.hid (SlAt.below RK25.out hb26)
  clear hb26 hB25 RK25
  go_wp2_with fail
  refine (SameRanges_eq [⟨0, 6⟩] _ _ _ (SlAt.alloc RK26.out _) (rg_lit (L := [⟨0, 6⟩]) (Blk.new _ _ _) 1 rfl (by decide))).mono ?_
  rintro e w27 ⟨rfl, hb27⟩
  have hB27 := bnext (bal hB26 _) hb27
  have RK27 := Lib.hid (SlAt.below (SlAt.alloc RK26.out _) hb27)
  clear hb27 hB26 RK26
  go_wp2_with fail
  go_ret
  exact ⟨rfl, hB27⟩
end Go.Proofs.Ytcifngefclgefaa
