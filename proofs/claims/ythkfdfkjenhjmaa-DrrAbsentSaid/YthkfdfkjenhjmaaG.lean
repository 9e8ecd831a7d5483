/- Contracts: passing the turn, serving (the reference). -/
import Derived.Test.YthkfdfkjenhjmaaF
import Derived.Test.YthkfdfkjenhjmaaOnly
namespace Go.Proofs.Ythkfdfkjenhjmaa
open Go.RowKit
set_option linter.unusedVariables false
set_option linter.unusedSimpArgs false

/-- three heads in a slice -/
def Hd3 (w : World) (b o : Nat) (H : List Int) : Prop := b < w.heap.size ∧ H.length = 3 ∧ ∀ p, p < 3 → w.cell? ⟨b, o + p, none⟩ = some (.int .i64 (at0 H p))
section
variable {w w' : World} {b o : Nat} {H : List Int}
theorem Hd3.keep (h : Hd3 w b o H) (hs : w.heap.size ≤ w'.heap.size) (hc : ∀ o, w'.cell? ⟨b, o, none⟩ = w.cell? ⟨b, o, none⟩) : Hd3 w' b o H := ⟨by have := h.1; omega, h.2.1, fun p hp => (hc _).trans (h.2.2 p hp)⟩
theorem Hd3.below (h : Hd3 w b o H) (hb : Below w.heap.size w w') : Hd3 w' b o H := h.keep hb.size fun o => (bcell hb).1 b o h.1
theorem Hd3.alloc (h : Hd3 w b o H) (ob : Obj) : Hd3 (w.alloc ob) b o H := h.below ((Below.refl _ _).alloc (Nat.le_refl _) ob)
theorem Hd3.far (h : Hd3 w b o H) {p : Addr} (hp : b ≠ p.block) (u : Value) : Hd3 (w.setCell p u) b o H := h.keep (by rw [World.size_setCell]; exact Nat.le_refl _) fun o => World.cell?_of_block (Below.heap_setCell w p u b hp)
theorem Hd3.only {S : Nat → Prop} (h : Hd3 w b o H) (ho : Only S w w') (hs : ¬ S b) : Hd3 w' b o H := h.keep ho.size fun o => ho.cell h.1 hs o
theorem Hd3.drew (h : Hd3 w b o H) : Hd3 w.drew b o H := h
theorem Hd3.drewN (h : Hd3 w b o H) (n : Nat) : Hd3 (w.drewN n) b o H := h
theorem Hd3.of {A : Option Addr} {c : Nat} (h : IntAt w (.slice A H.length c) H) (h3 : H.length = 3) : ∃ b o, A = some ⟨b, o, none⟩ ∧ Hd3 w b o H := by
  obtain ⟨A', c', e, _, _, hR⟩ := h
  cases e
  obtain ⟨b, o, rfl, hb, _⟩ := reads_at hR (ints_get (at0_get (l := H) (i := 0) (by omega)))
  refine ⟨b, o, rfl, hb, h3, fun p hp => ?_⟩
  obtain ⟨b', o', e, _, hc⟩ := reads_at hR (ints_get (at0_get (l := H) (i := p) (by omega)))
  cases e
  exact hc
end

set_option maxRecDepth 100000 in
set_option maxHeartbeats 8000000 in
theorem pass_any (W : List Int) (q : Int) (H D : List Int) (p : Nat) (hOk : ∀ x ∈ W, 1 ≤ x ∧ x ≤ 100) (hq0 : 1 ≤ q) (hq1 : q ≤ 1200) (hs : SOk (D, p)) (B gw cw gd cd bh oh ch : Nat) (w : World) (hB : B ≤ w.heap.size) (hch : 3 ≤ ch ∧ ch ≤ maxLen)
    (hW : Row3 w B gw cw W) (hD : Row3 w B gd cd D) (hn : gw ≠ gd) (hbd : bh ≠ gd) (hH : Hd3 w bh oh H) :
    Calls Try.prog 47 #[.agg #[.slice (some ⟨gw, 0, none⟩) 3 cw, .int .i64 q, .slice (some ⟨gd, 0, none⟩) 3 cd, .int .i64 p], .slice (some ⟨bh, oh, none⟩) 3 ch] w
      (fun e w' => e = .returned (.agg #[.slice (some ⟨gw, 0, none⟩) 3 cw, .int .i64 q, .slice (some ⟨gd, 0, none⟩) 3 cd, .int .i64 (step1 W q H (D, p)).2]) ∧ Row3 w' B gd cd (step1 W q H (D, p)).1 ∧ Only (fun k => k = gd) w w') := by
  obtain ⟨so1, so2, so3⟩ := hs
  dsimp only at so1 so2 so3
  obtain ⟨u, hu⟩ : ∃ u, (p + 2) % 3 = u := ⟨_, rfl⟩
  have hu3 : u < 3 := by omega
  have hup : u ≠ p := by omega
  have hst1 := step1_is (W := W) (q := q) (H := H) (D := D) hu
  have hui : ((p : Int) + 2) % 3 = (u : Int) := by omega
  have hgd := hD.lt
  have hgw := hW.lt
  have hbh := hH.1
  have hgd1 : ¬ gd = w.heap.size := by omega
  have hgd2 : ¬ gd = w.heap.size + 1 := by omega
  have hga1 : ¬ w.heap.size = w.heap.size + 1 := by omega
  have h3 := hH.2.1
  have hw3 := hW.len
  have bW := hOk _ (at0_mem (l := W) (i := u) (by rw [hw3]; exact hu3))
  have bDu := so2 _ (at0_mem (l := D) (i := u) (by omega))
  have hp3 : (p : Int) < 3 := by omega
  have hp0 : (0 : Int) ≤ p := by omega
  have hui3 : (u : Int) < 3 := by omega
  have hui0 : (0 : Int) ≤ u := by omega
  obtain ⟨D1, hD1⟩ : ∃ D1, D1 = (if at0 H p = 0 then D.set p 0 else D) := ⟨_, rfl⟩
  have HST : Hid (step1 W q H (D, p) = (D1.set u (if at0 H u = 0 then 0 else mn 1099511627776 (at0 D1 u + at0 W u * q)), u)) := Lib.hid (by rw [hst1, ← hD1])
  have bD1 : 0 ≤ at0 D1 u ∧ at0 D1 u ≤ 1099511627776 := by
    rw [hD1]
    split
    · rw [at0_set (by omega), if_neg (fun e => hup e.symm)]; exact bDu
    · exact bDu
  obtain ⟨hch1, hch2⟩ := hch
  unfold maxLen at hch2
  have HU := Lib.hid hu
  have HUP := Lib.hid hup
  have k0 : DrAt ((w.alloc (.cells #[.slice (some ⟨gw, 0, none⟩) 3 cw, .int .i64 q, .slice (some ⟨gd, 0, none⟩) 3 cd, .int .i64 p] 24)).alloc (.cells #[.slice none 0 0, .int .i64 0, .slice none 0 0, .int .i64 0] 24)) B w.heap.size gw cw gd cd W q D p := ⟨(Blk.new w _ _).alloc _, (hW.alloc _).alloc _, (hD.alloc _).alloc _, hn, by omega, by omega, hB⟩
  have r : Blk ((w.alloc (.cells #[.slice (some ⟨gw, 0, none⟩) 3 cw, .int .i64 q, .slice (some ⟨gd, 0, none⟩) 3 cd, .int .i64 p] 24)).alloc (.cells #[.slice none 0 0, .int .i64 0, .slice none 0 0, .int .i64 0] 24)) (w.heap.size + 1) 24 #[.slice none 0 0, .int .i64 0, .slice none 0 0, .int .i64 0] := Blk.new1 _ _ _ _
  have kh : Hd3 ((w.alloc (.cells #[.slice (some ⟨gw, 0, none⟩) 3 cw, .int .i64 q, .slice (some ⟨gd, 0, none⟩) 3 cd, .int .i64 p] 24)).alloc (.cells #[.slice none 0 0, .int .i64 0, .slice none 0 0, .int .i64 0] 24)) bh oh H := (hH.alloc _).alloc _
  have ko : Only (fun k => k = gd) w ((w.alloc (.cells #[.slice (some ⟨gw, 0, none⟩) 3 cw, .int .i64 q, .slice (some ⟨gd, 0, none⟩) 3 cd, .int .i64 p] 24)).alloc (.cells #[.slice none 0 0, .int .i64 0, .slice none 0 0, .int .i64 0] 24)) := ((Only.refl _ _).alloc _).alloc _
  have K := Lib.hid k0
  have R := Lib.hid r
  have KH := Lib.hid kh
  have KO := Lib.hid ko
  clear hst1 hW hD hH hu hOk so2 hup h3 hw3 k0 r kh ko
  go_enter Try.func47, Try.ntmps47
  go_upto_region 1 with fail
  generalize ((w.alloc (.cells #[.slice (some ⟨gw, 0, none⟩) 3 cw, .int .i64 q, .slice (some ⟨gd, 0, none⟩) 3 cd, .int .i64 p] 24)).alloc (.cells #[.slice none 0 0, .int .i64 0, .slice none 0 0, .int .i64 0] 24)) = w1 at K R KH KO ⊢
  have eH := KH.out.2.2 p so3
  have eHu0 := KH.out.2.2 u hu3
  have eD := K.out.rD.cell p so3
  have eDu := K.out.rD.cell u hu3
  have eW := K.out.rW.cell u hu3
  have fD := K.out.rD.frozen p
  have fDu := K.out.rD.frozen u
  obtain ⟨a0, a1, a2, a3⟩ := K.out.blk.c4
  have a3f := K.out.blk.frozen 3
  obtain ⟨r0, r1, r2, r3⟩   := R.out.c4
  obtain ⟨s0, s1, s2, s3⟩   := R.out.f4
  have hlr1 := R.out.lt
  by_cases z : at0 H p = 0
  · have zb : (at0 H p == 0) = true := by simpa using z
    rw [if_pos z] at hD1
    have HD1 := Lib.hid hD1
    clear z hD1
    · go_upto_region 4 with fail
      · skip
        have P : DrAt (((w1.setCell ⟨gd, p, none⟩ (.int .i64 0)).setCell ⟨w.heap.size, 3, none⟩ (.int .i64 u))) B w.heap.size gw cw gd cd W q D1 u := by
          rw [HD1.out]
          exact (K.out.setD p so3 0).setT u
        have Pr : Blk (((w1.setCell ⟨gd, p, none⟩ (.int .i64 0)).setCell ⟨w.heap.size, 3, none⟩ (.int .i64 u))) (w.heap.size + 1) 24 #[.slice none 0 0, .int .i64 0, .slice none 0 0, .int .i64 0] := by
          repeat (first | exact R.out | with_reducible refine Blk.far ?_ (by first | (show w.heap.size + 1 ≠ w.heap.size; omega) | (show w.heap.size + 1 ≠ gd; omega)) _)
        have PH : Hd3 (((w1.setCell ⟨gd, p, none⟩ (.int .i64 0)).setCell ⟨w.heap.size, 3, none⟩ (.int .i64 u))) bh oh H := by
          repeat (first | exact KH.out | with_reducible refine Hd3.far ?_ (by first | (show bh ≠ w.heap.size; omega) | exact hbd) _)
        have PW : Row3 (((w1.setCell ⟨gd, p, none⟩ (.int .i64 0)).setCell ⟨w.heap.size, 3, none⟩ (.int .i64 u))) B gw cw W := P.rW
        have PO : Only (fun k => k = gd) w (((w1.setCell ⟨gd, p, none⟩ (.int .i64 0)).setCell ⟨w.heap.size, 3, none⟩ (.int .i64 u))) := by
          repeat (first | exact KO.out | with_reducible refine Only.set ?_ (by first | exact .inl rfl | exact .inr (Nat.le_refl _)) _)
        generalize ((w1.setCell ⟨gd, p, none⟩ (.int .i64 0)).setCell ⟨w.heap.size, 3, none⟩ (.int .i64 u)) = w2 at P Pr PH PW PO ⊢
        have eHu := PH.2.2 u hu3
        have hbw2 := PH.1
        have PR := Lib.hid P
        have PHR := Lib.hid PH
        have PRr := Lib.hid Pr
        have PWR := Lib.hid PW
        have POR := Lib.hid PO
        clear P PH Pr PW PO a0 a1 a2 a3 a3f eH eHu0 eD eDu eW fD fDu r0 r1 r2 r3 s0 s1 s2 s3 K R
        obtain ⟨a0, a1, a2, a3⟩ := PR.out.blk.c4
        obtain ⟨r0, r1, r2, r3⟩ := PRr.out.c4
        obtain ⟨s0, s1, s2, s3⟩ := PRr.out.f4
        have eDu := PR.out.rD.cell u hu3
        have eW := PWR.out.cell u hu3
        have fDu := PR.out.rD.frozen u
        have hlr := PRr.out.lt
        by_cases zu : at0 H u = 0
        · have zub : (at0 H u == 0) = true := by simpa using zu
          have HST2 := HST.out
          rw [if_pos zu] at HST2
          have HST3 := Lib.hid HST2
          clear HST2 zu
          go_wp2_with fail
          refine bodyPost_ret (v := .agg #[.slice (some ⟨gw, 0, none⟩) 3 cw, .int .i64 q, .slice (some ⟨gd, 0, none⟩) 3 cd, .int .i64 u]) (by simp [results, Try.results47, go_sem, a0, a1, a2, a3, r0, r1, r2, r3, hgd1, hgd2, hga1]) rfl ⟨?_, ?_, ?_⟩
          · rw [HST3.out]
          · rw [HST3.out]
            repeat (first | with_reducible exact PR.out.rD.set u hu3 0 | with_reducible refine Row3.far ?_ (by show gd ≠ w.heap.size + 1; omega) _)
          · repeat (first | with_reducible exact POR.out | with_reducible refine Only.set ?_ (by first | exact .inl rfl | exact .inr (by show w.heap.size ≤ w.heap.size + 1; omega)) _)
        · have zub : (at0 H u == 0) = false := by simpa using zu
          have HST2 := HST.out
          rw [if_neg zu] at HST2
          have HST3 := Lib.hid HST2
          have mb1 : 1 ≤ at0 W u * q := by
            have := Int.mul_le_mul bW.1 hq0 (by omega) (by omega)
            omega
          have mb2 : at0 W u * q ≤ 120000 := by
            have := Int.mul_le_mul bW.2 hq1 (by omega) (by omega)
            omega
          have WM : IntKind.i64.wrap (at0 W u * q) = at0 W u * q := IntWalk.i64_in _ (by omega)
          have WA : IntKind.i64.wrap (at0 D1 u + at0 W u * q) = at0 D1 u + at0 W u * q := IntWalk.i64_in _ (by omega)
          have MN := mn_is (at0 D1 u + at0 W u * q)
          clear HST2 zu mb1 mb2
          go_upto_region 6 with fail
          go_still_tail 22, (by kernel_rfl)
          change wpList _ _ _ _ _ w2.drew
          clear a0 a1 a2 a3 r0 r1 r2 r3 s0 s1 s2 s3 eDu eW fDu eHu
          have P3 := PR.out.drew
          have Pr3 := PRr.out.drew
          have PO3 := POR.out.drew
          generalize w2.drew = w3 at P3 Pr3 PO3 ⊢
          have eDu := P3.rD.cell u hu3
          have fDu := P3.rD.frozen u
          obtain ⟨a0, a1, a2, a3⟩ := P3.blk.c4
          obtain ⟨r0, r1, r2, r3⟩ := Pr3.c4
          obtain ⟨s0, s1, s2, s3⟩ := Pr3.f4
          have PR3 := Lib.hid P3
          have PO3R := Lib.hid PO3
          clear P3 Pr3 PO3
          go_wp2_with fail
          refine bodyPost_ret (v := .agg #[.slice (some ⟨gw, 0, none⟩) 3 cw, .int .i64 q, .slice (some ⟨gd, 0, none⟩) 3 cd, .int .i64 u]) (by simp [results, Try.results47, go_sem, a0, a1, a2, a3, r0, r1, r2, r3, hgd1, hgd2, hga1]) rfl ⟨?_, ?_, ?_⟩
          · rw [HST3.out]
          · rw [HST3.out]
            repeat (first | with_reducible exact PR3.out.rD.set u hu3 _ | with_reducible refine Row3.far ?_ (by show gd ≠ w.heap.size + 1; omega) _)
          · repeat (first | with_reducible exact PO3R.out | with_reducible refine Only.set ?_ (by first | exact .inl rfl | exact .inr (by show w.heap.size ≤ w.heap.size + 1; omega)) _)
  · have zb : (at0 H p == 0) = false := by simpa using z
    rw [if_neg z] at hD1
    have HD1 := Lib.hid hD1
    clear z hD1
    · go_upto_region 4 with fail
      · skip
        have P : DrAt ((w1.setCell ⟨w.heap.size, 3, none⟩ (.int .i64 u))) B w.heap.size gw cw gd cd W q D1 u := by
          rw [HD1.out]
          exact K.out.setT u
        have Pr : Blk ((w1.setCell ⟨w.heap.size, 3, none⟩ (.int .i64 u))) (w.heap.size + 1) 24 #[.slice none 0 0, .int .i64 0, .slice none 0 0, .int .i64 0] := by
          repeat (first | exact R.out | with_reducible refine Blk.far ?_ (by first | (show w.heap.size + 1 ≠ w.heap.size; omega) | (show w.heap.size + 1 ≠ gd; omega)) _)
        have PH : Hd3 ((w1.setCell ⟨w.heap.size, 3, none⟩ (.int .i64 u))) bh oh H := by
          repeat (first | exact KH.out | with_reducible refine Hd3.far ?_ (by first | (show bh ≠ w.heap.size; omega) | exact hbd) _)
        have PW : Row3 ((w1.setCell ⟨w.heap.size, 3, none⟩ (.int .i64 u))) B gw cw W := P.rW
        have PO : Only (fun k => k = gd) w ((w1.setCell ⟨w.heap.size, 3, none⟩ (.int .i64 u))) := by
          repeat (first | exact KO.out | with_reducible refine Only.set ?_ (by first | exact .inl rfl | exact .inr (Nat.le_refl _)) _)
        generalize (w1.setCell ⟨w.heap.size, 3, none⟩ (.int .i64 u)) = w2 at P Pr PH PW PO ⊢
        have eHu := PH.2.2 u hu3
        have hbw2 := PH.1
        have PR := Lib.hid P
        have PHR := Lib.hid PH
        have PRr := Lib.hid Pr
        have PWR := Lib.hid PW
        have POR := Lib.hid PO
        clear P PH Pr PW PO a0 a1 a2 a3 a3f eH eHu0 eD eDu eW fD fDu r0 r1 r2 r3 s0 s1 s2 s3 K R
        obtain ⟨a0, a1, a2, a3⟩ := PR.out.blk.c4
        obtain ⟨r0, r1, r2, r3⟩ := PRr.out.c4
        obtain ⟨s0, s1, s2, s3⟩ := PRr.out.f4
        have eDu := PR.out.rD.cell u hu3
        have eW := PWR.out.cell u hu3
        have fDu := PR.out.rD.frozen u
        have hlr := PRr.out.lt
        by_cases zu : at0 H u = 0
        · have zub : (at0 H u == 0) = true := by simpa using zu
          have HST2 := HST.out
          rw [if_pos zu] at HST2
          have HST3 := Lib.hid HST2
          clear HST2 zu
          go_wp2_with fail
          refine bodyPost_ret (v := .agg #[.slice (some ⟨gw, 0, none⟩) 3 cw, .int .i64 q, .slice (some ⟨gd, 0, none⟩) 3 cd, .int .i64 u]) (by simp [results, Try.results47, go_sem, a0, a1, a2, a3, r0, r1, r2, r3, hgd1, hgd2, hga1]) rfl ⟨?_, ?_, ?_⟩
          · rw [HST3.out]
          · rw [HST3.out]
            repeat (first | with_reducible exact PR.out.rD.set u hu3 0 | with_reducible refine Row3.far ?_ (by show gd ≠ w.heap.size + 1; omega) _)
          · repeat (first | with_reducible exact POR.out | with_reducible refine Only.set ?_ (by first | exact .inl rfl | exact .inr (by show w.heap.size ≤ w.heap.size + 1; omega)) _)
        · have zub : (at0 H u == 0) = false := by simpa using zu
          have HST2 := HST.out
          rw [if_neg zu] at HST2
          have HST3 := Lib.hid HST2
          have mb1 : 1 ≤ at0 W u * q := by
            have := Int.mul_le_mul bW.1 hq0 (by omega) (by omega)
            omega
          have mb2 : at0 W u * q ≤ 120000 := by
            have := Int.mul_le_mul bW.2 hq1 (by omega) (by omega)
            omega
          have WM : IntKind.i64.wrap (at0 W u * q) = at0 W u * q := IntWalk.i64_in _ (by omega)
          have WA : IntKind.i64.wrap (at0 D1 u + at0 W u * q) = at0 D1 u + at0 W u * q := IntWalk.i64_in _ (by omega)
          have MN := mn_is (at0 D1 u + at0 W u * q)
          clear HST2 zu mb1 mb2
          go_upto_region 6 with fail
          go_still_tail 22, (by kernel_rfl)
          change wpList _ _ _ _ _ w2.drew
          clear a0 a1 a2 a3 r0 r1 r2 r3 s0 s1 s2 s3 eDu eW fDu eHu
          have P3 := PR.out.drew
          have Pr3 := PRr.out.drew
          have PO3 := POR.out.drew
          generalize w2.drew = w3 at P3 Pr3 PO3 ⊢
          have eDu := P3.rD.cell u hu3
          have fDu := P3.rD.frozen u
          obtain ⟨a0, a1, a2, a3⟩ := P3.blk.c4
          obtain ⟨r0, r1, r2, r3⟩ := Pr3.c4
          obtain ⟨s0, s1, s2, s3⟩ := Pr3.f4
          have PR3 := Lib.hid P3
          have PO3R := Lib.hid PO3
          clear P3 Pr3 PO3
          go_wp2_with fail
          refine bodyPost_ret (v := .agg #[.slice (some ⟨gw, 0, none⟩) 3 cw, .int .i64 q, .slice (some ⟨gd, 0, none⟩) 3 cd, .int .i64 u]) (by simp [results, Try.results47, go_sem, a0, a1, a2, a3, r0, r1, r2, r3, hgd1, hgd2, hga1]) rfl ⟨?_, ?_, ?_⟩
          · rw [HST3.out]
          · rw [HST3.out]
            repeat (first | with_reducible exact PR3.out.rD.set u hu3 _ | with_reducible refine Row3.far ?_ (by show gd ≠ w.heap.size + 1; omega) _)
          · repeat (first | with_reducible exact PO3R.out | with_reducible refine Only.set ?_ (by first | exact .inl rfl | exact .inr (by show w.heap.size ≤ w.heap.size + 1; omega)) _)
end Go.Proofs.Ythkfdfkjenhjmaa
