/- Contract: serving (the program). -/
import Derived.Test.YthkfdfkjenhjmaaE
namespace Go.Proofs.Ythkfdfkjenhjmaa
open Go.RowKit
set_option linter.unusedVariables false
set_option linter.unusedSimpArgs false

theorem step1_is {W : List Int} {q : Int} {H D : List Int} {p u : Nat} (hu : (p + 2) % 3 = u) : step1 W q H (D, p) = ((if at0 H p = 0 then D.set p 0 else D).set u (if at0 H u = 0 then 0 else mn 1099511627776 (at0 (if at0 H p = 0 then D.set p 0 else D) u + at0 W u * q)), u) := by
  subst hu; rfl
theorem pas_eq {W : List Int} {q : Int} {H : List Int} {s : List Int × Nat} {k : Nat} {D : List Int} {p : Nat} (h : pas W q H s k = (D, p)) : pas W q H s (k + 1) = step1 W q H (D, p) := by
  show step1 W q H (pas W q H s k) = _
  rw [h]

theorem bdr' {B : Nat} {w W : World} (h : Below B w W) : Below B w W.drew := h.drew
theorem mn_is (x : Int) : (if x < 1099511627776 then x else 1099511627776) = mn 1099511627776 x := by
  unfold mn
  split <;> split <;> omega
/-- the state at the head of a round -/
def ServeMid (W : List Int) (q : Int) (H : List Int) (s : List Int × Nat) (n k : Nat) (D : List Int) (p : Nat) : Prop := k ≤ n ∧ pas W q H s k = (D, p)

set_option maxRecDepth 100000 in
set_option maxHeartbeats 8000000 in
theorem serve_any (W : List Int) (q : Int) (D0 : List Int) (t0 : Nat) (h0 h1 h2 : Int) (n : Nat) (hOk : ∀ x ∈ W, 1 ≤ x ∧ x ≤ 100) (hq0 : 1 ≤ q) (hq1 : q ≤ 1200) (hs : SOk (D0, t0)) (hH : ∀ x ∈ [h0, h1, h2], 0 ≤ x ∧ x ≤ 1200) (hn : n ≤ 3602) (hS : Serves W q [h0, h1, h2] (D0, t0) n)
    (B ga gw cw gd cd : Nat) (w : World) (hB : B ≤ w.heap.size) (hD : DrAt w B ga gw cw gd cd W q D0 t0) :
    Calls Try.prog 39 #[.pointer (some ⟨ga, 0, none⟩), .agg #[.int .i64 h0, .int .i64 h1, .int .i64 h2]] w (fun e w' => e = .returned (.tuple #[.int .i64 (pas W q [h0, h1, h2] (D0, t0) n).2, .int .i64 n]) ∧
      DrAt w' B ga gw cw gd cd W q (paid [h0, h1, h2] (pas W q [h0, h1, h2] (D0, t0) n)) (pas W q [h0, h1, h2] (D0, t0) n).2 ∧ Below B w w') := by
  obtain ⟨H, hHe⟩ : ∃ H, H = [h0, h1, h2] := ⟨_, rfl⟩
  rw [← hHe] at hS hH ⊢
  have hH3 : H.length = 3 := by rw [hHe]; rfl
  have hW3 : W.length = 3 := hD.rW.len
  have hk1 : Blk (w.alloc (.cells #[.int .i64 h0, .int .i64 h1, .int .i64 h2] 65)) w.heap.size 65 (ints H).toArray := by rw [hHe]; exact Blk.new _ _ _
  have K := Lib.hid hk1
  have HD0 := Lib.hid (hD.alloc (.cells #[.int .i64 h0, .int .i64 h1, .int .i64 h2] 65))
  have hga : ga < w.heap.size := hD.blk.lt
  have hgd := hD.rD.lt.2
  have hBa := hD.hB
  have hBd := hD.rD.lt.1
  have HS := Lib.hid hS
  have HSO := Lib.hid hs
  have HHO := Lib.hid hH
  have HWO := Lib.hid hOk
  have H3 := Lib.hid hH3
  have HW3 := Lib.hid hW3
  have HHe := Lib.hid hHe
  clear hk1 hD hS hs hH hOk hH3 hW3 hHe
  go_enter Try.func39, Try.ntmps39
  go_wp2_with fail
  go_step3
  go_wp2_with fail
  go_step3
  go_wp2_with fail
  go_loopg [6] n (fun g a wr => ∃ (k : Nat) (D : List Int) (p : Nat), k + g = n ∧ a = .int .i64 k ∧ pas W q H (D0, t0) k = (D, p) ∧ Blk wr w.heap.size 65 (ints H).toArray ∧ DrAt wr B ga gw cw gd cd W q D p ∧ Below B w wr)
  case atStart => exact ⟨0, D0, t0, by omega, rfl, rfl, K.out, HD0.out, (Below.refl _ _).alloc hB _⟩
  case round =>
    clear K HD0
    obtain ⟨k, D, p, hkg, rfl, hpas, hK, hDr, hBw⟩ := hrel
    have hkn : k ≤ n := by omega
    have HKG := Lib.hid hkg
    clear hkg
    have so := pas_ok (H := H) HW3.out HWO.out hq0 hq1 HSO.out k
    rw [hpas] at so
    obtain ⟨so1, so2, so3⟩ := so
    dsimp only at so1 so2 so3
    obtain ⟨u, hu⟩ : ∃ u, (p + 2) % 3 = u := ⟨_, rfl⟩
    have hu3 : u < 3 := by omega
    have hup : u ≠ p := by omega
    have hst1 := step1_is (W := W) (q := q) (H := H) (D := D) hu
    have hnx := pas_eq hpas
    rw [hst1] at hnx
    have hui : ((p : Int) + 3 - 1) % 3 = (u : Int) := by omega
    obtain ⟨a0, a1, a2, a3⟩ := hDr.blk.c4
    have a3f := hDr.blk.frozen 3
    have eH := arr3 hK H3.out p so3
    have eHu := arr3 hK H3.out u hu3
    have eD := hDr.rD.cell p so3
    have eDu := hDr.rD.cell u hu3
    have eW := hDr.rW.cell u hu3
    have fD := hDr.rD.frozen p
    have fDu := hDr.rD.frozen u
    have bH := HHO.out _ (at0_mem (l := H) (i := p) (by rw [H3.out]; exact so3))
    have bHu := HHO.out _ (at0_mem (l := H) (i := u) (by rw [H3.out]; exact hu3))
    have bD := so2 _ (at0_mem (l := D) (i := p) (by omega))
    have bDu := so2 _ (at0_mem (l := D) (i := u) (by omega))
    have bW := HWO.out _ (at0_mem (l := W) (i := u) (by rw [HW3.out]; exact hu3))
    have hp3 : (p : Int) < 3 := by omega
    have hp0 : (0 : Int) ≤ p := by omega
    have hui3 : (u : Int) < 3 := by omega
    have hui0 : (0 : Int) ≤ u := by omega
    have hkn2 : (k : Int) ≤ 3602 := by omega
    have n3 := hDr.n3
    have n1 := hDr.n1
    have n2 := hDr.n2
    have hgwr : w.heap.size < wr.heap.size := hK.lt
    have HK := Lib.hid hK
    have HDR := Lib.hid hDr
    have HPAS := Lib.hid hpas
    have HNX := Lib.hid hnx
    have HUP := Lib.hid hup
    have HU := Lib.hid hu
    clear hK hDr hpas hnx hst1 hu hup so2
    by_cases st : stops H (D, p)
    · have hk : k = n := by
        rcases Nat.lt_or_ge k n with h | h
        · exact absurd (by rw [HPAS.out]; exact st) (HS.out.2 k h)
        · omega
      obtain ⟨z, zl⟩ := st
      dsimp only at z zl
      have zb : (at0 H p == 0) = false := by simpa using z
      have HPD : Hid (pas W q H (D0, t0) n = (D, p)) := Lib.hid (by rw [← hk]; exact HPAS.out)
      have HKN := Lib.hid hk
      have hsub : IntKind.i64.wrap (at0 D p - at0 H p) = at0 D p - at0 H p := IntWalk.i64_in _ (by omega)
      clear z hk
      go_wp2_with fail
      go_quiet (fail)
      go_upto_region 12 with fail
      have P := HDR.out.drewN nq
      have PK := HK.out.drewN nq
      have PB : Below B w (wr.drewN nq) := below_drewN hBw nq
      generalize wr.drewN nq = w2 at P PK PB ⊢
      clear a0 a1 a2 a3 a3f eH eHu eD eDu eW fD fDu HK HDR
      obtain ⟨a0, a1, a2, a3⟩ := P.blk.c4
      have eH := arr3 PK H3.out p so3
      have eD := P.rD.cell p so3
      have PR := Lib.hid P
      have PBR := Lib.hid PB
      clear P PK PB
      go_still_tail 18, (by kernel_rfl)
      change wpList _ _ _ _ _ w2.drew
      clear a0 a1 a2 a3 eH eD
      have P3 := PR.out.drew
      have PB3 : Below B w w2.drew := bdr' PBR.out
      generalize w2.drew = w3 at P3 PB3 ⊢
      have fD := P3.rD.frozen p
      have eD := P3.rD.cell p so3
      obtain ⟨a0, a1, a2, a3⟩ := P3.blk.c4
      have PR3 := Lib.hid P3
      clear P3
      go_wp2_with fail
      try rw [Exit.noGoto_ret]
      go_ret2
      have hpd := HPD.out
      refine ⟨?_, ?_, PB3.setCell hBd _⟩
      · rw [hpd, ← HKN.out]; rfl
      · rw [hpd]
        exact PR3.out.setD p so3 _
    · have hk : k < n := by
        rcases Nat.lt_or_ge k n with h | h
        · exact h
        · have : k = n := by omega
          subst this
          exact absurd (by have := HS.out.1; rw [HPAS.out] at this; exact this) st
      obtain ⟨D1, hD1⟩ : ∃ D1, D1 = (if at0 H p = 0 then D.set p 0 else D) := ⟨_, rfl⟩
      have HNX2 : Hid (pas W q H (D0, t0) (k + 1) = (D1.set u (if at0 H u = 0 then 0 else mn 1099511627776 (at0 D1 u + at0 W u * q)), u)) := Lib.hid (by rw [HNX.out, ← hD1])
      have bD1 : 0 ≤ at0 D1 u ∧ at0 D1 u ≤ 1099511627776 := by
        rw [hD1]
        split
        · rw [at0_set (by omega), if_neg (fun e => HUP.out e.symm)]; exact bDu
        · exact bDu
      clear HNX
      by_cases z : at0 H p = 0
      · have zb : (at0 H p == 0) = true := by simpa using z
        rw [if_pos z] at hD1
        have HD1 := Lib.hid hD1
        clear z hD1 st
        go_upto_region 8 with fail
        have P : DrAt ((wr.setCell ⟨gd, p, none⟩ (.int .i64 0)).setCell ⟨ga, 3, none⟩ (.int .i64 u)) B ga gw cw gd cd W q D1 u := by
          rw [HD1.out]
          exact (HDR.out.setD p so3 0).setT u
        have PK : Blk ((wr.setCell ⟨gd, p, none⟩ (.int .i64 0)).setCell ⟨ga, 3, none⟩ (.int .i64 u)) w.heap.size 65 (ints H).toArray := (HK.out.far (by show w.heap.size ≠ gd; omega) _).far (by show w.heap.size ≠ ga; omega) _
        have PB : Below B w ((wr.setCell ⟨gd, p, none⟩ (.int .i64 0)).setCell ⟨ga, 3, none⟩ (.int .i64 u)) := (hBw.setCell hBd _).setCell hBa _
        generalize (wr.setCell ⟨gd, p, none⟩ (.int .i64 0)).setCell ⟨ga, 3, none⟩ (.int .i64 u) = w2 at P PK PB ⊢
        clear a0 a1 a2 a3 a3f eH eHu eD eDu eW fD fDu
        obtain ⟨a0, a1, a2, a3⟩ := P.blk.c4
        have eHu := arr3 PK H3.out u hu3
        have eDu := P.rD.cell u hu3
        have eW := P.rW.cell u hu3
        have fDu := P.rD.frozen u
        have hgw2 : w.heap.size < w2.heap.size := PK.lt
        have PR := Lib.hid P
        have PKR := Lib.hid PK
        clear P PK HDR HK
        by_cases zu : at0 H u = 0
        · have zb : (at0 H u == 0) = true := by simpa using zu
          have HNX3 := HNX2.out
          rw [if_pos zu] at HNX3
          have HNX4 := Lib.hid HNX3
          clear HNX3 HNX2 zu
          go_wp2_with fail
          go_roundg (gk - 1)
          case measure => have := HKG.out; omega
          case rel => exact ⟨k + 1, D1.set u 0, u, by have := HKG.out; omega, by go_num, HNX4.out, PKR.out.far (by show w.heap.size ≠ gd; omega) _, PR.out.setD u hu3 0, PB.setCell hBd _⟩
        · have zb : (at0 H u == 0) = false := by simpa using zu
          have HNX3 := HNX2.out
          rw [if_neg zu] at HNX3
          have HNX4 := Lib.hid HNX3
          have mb1 : 1 ≤ at0 W u * q := by
            have := Int.mul_le_mul bW.1 hq0 (by omega) (by omega)
            omega
          have mb2 : at0 W u * q ≤ 120000 := by
            have := Int.mul_le_mul bW.2 hq1 (by omega) (by omega)
            omega
          have WM : IntKind.i64.wrap (at0 W u * q) = at0 W u * q := IntWalk.i64_in _ (by omega)
          have WA : IntKind.i64.wrap (at0 D1 u + at0 W u * q) = at0 D1 u + at0 W u * q := IntWalk.i64_in _ (by omega)
          have MN := mn_is (at0 D1 u + at0 W u * q)
          have PBR := Lib.hid PB
          clear HNX3 HNX2 zu mb1 mb2
          go_upto_region 11 with fail
          go_still_tail 27, (by kernel_rfl)
          change wpList _ _ _ _ _ w2.drew
          clear a0 a1 a2 a3 eHu eDu eW fDu
          have P3 := PR.out.drew
          have PK3 := PKR.out.drew
          have PB3 : Below B w w2.drew := bdr' PBR.out
          generalize w2.drew = w3 at P3 PK3 PB3 ⊢
          have eDu := P3.rD.cell u hu3
          have fDu := P3.rD.frozen u
          have PR3 := Lib.hid P3
          have PKR3 := Lib.hid PK3
          clear P3 PK3
          go_wp2_with fail
          go_roundg (gk - 1)
          case measure => have := HKG.out; omega
          case rel => exact ⟨k + 1, D1.set u (mn 1099511627776 (at0 D1 u + at0 W u * q)), u, by have := HKG.out; omega, by go_num, HNX4.out, PKR3.out.far (by show w.heap.size ≠ gd; omega) _, PR3.out.setD u hu3 _, PB3.setCell hBd _⟩
      · have zb : (at0 H p == 0) = false := by simpa using z
        have zl : ¬ at0 H p ≤ at0 D p := fun h => st ⟨z, h⟩
        rw [if_neg z] at hD1
        have HD1 := Lib.hid hD1
        clear z hD1 st
        go_wp2_with fail
        go_quiet (fail)
        go_upto_region 8 with fail
        have P : DrAt ((wr.drewN nq).setCell ⟨ga, 3, none⟩ (.int .i64 u)) B ga gw cw gd cd W q D1 u := by
          rw [HD1.out]
          exact (HDR.out.drewN nq).setT u
        have PK : Blk ((wr.drewN nq).setCell ⟨ga, 3, none⟩ (.int .i64 u)) w.heap.size 65 (ints H).toArray := (HK.out.drewN nq).far (by show w.heap.size ≠ ga; omega) _
        have PB : Below B w ((wr.drewN nq).setCell ⟨ga, 3, none⟩ (.int .i64 u)) := (below_drewN hBw nq).setCell hBa _
        generalize (wr.drewN nq).setCell ⟨ga, 3, none⟩ (.int .i64 u) = w2 at P PK PB ⊢
        clear a0 a1 a2 a3 a3f eH eHu eD eDu eW fD fDu
        obtain ⟨a0, a1, a2, a3⟩ := P.blk.c4
        have eHu := arr3 PK H3.out u hu3
        have eDu := P.rD.cell u hu3
        have eW := P.rW.cell u hu3
        have fDu := P.rD.frozen u
        have hgw2 : w.heap.size < w2.heap.size := PK.lt
        have PR := Lib.hid P
        have PKR := Lib.hid PK
        clear P PK HDR HK
        by_cases zu : at0 H u = 0
        · have zb : (at0 H u == 0) = true := by simpa using zu
          have HNX3 := HNX2.out
          rw [if_pos zu] at HNX3
          have HNX4 := Lib.hid HNX3
          clear HNX3 HNX2 zu
          go_wp2_with fail
          go_roundg (gk - 1)
          case measure => have := HKG.out; omega
          case rel => exact ⟨k + 1, D1.set u 0, u, by have := HKG.out; omega, by go_num, HNX4.out, PKR.out.far (by show w.heap.size ≠ gd; omega) _, PR.out.setD u hu3 0, PB.setCell hBd _⟩
        · have zb : (at0 H u == 0) = false := by simpa using zu
          have HNX3 := HNX2.out
          rw [if_neg zu] at HNX3
          have HNX4 := Lib.hid HNX3
          have mb1 : 1 ≤ at0 W u * q := by
            have := Int.mul_le_mul bW.1 hq0 (by omega) (by omega)
            omega
          have mb2 : at0 W u * q ≤ 120000 := by
            have := Int.mul_le_mul bW.2 hq1 (by omega) (by omega)
            omega
          have WM : IntKind.i64.wrap (at0 W u * q) = at0 W u * q := IntWalk.i64_in _ (by omega)
          have WA : IntKind.i64.wrap (at0 D1 u + at0 W u * q) = at0 D1 u + at0 W u * q := IntWalk.i64_in _ (by omega)
          have MN := mn_is (at0 D1 u + at0 W u * q)
          have PBR := Lib.hid PB
          clear HNX3 HNX2 zu mb1 mb2
          go_upto_region 11 with fail
          go_still_tail 27, (by kernel_rfl)
          change wpList _ _ _ _ _ w2.drew
          clear a0 a1 a2 a3 eHu eDu eW fDu
          have P3 := PR.out.drew
          have PK3 := PKR.out.drew
          have PB3 : Below B w w2.drew := bdr' PBR.out
          generalize w2.drew = w3 at P3 PK3 PB3 ⊢
          have eDu := P3.rD.cell u hu3
          have fDu := P3.rD.frozen u
          have PR3 := Lib.hid P3
          have PKR3 := Lib.hid PK3
          clear P3 PK3
          go_wp2_with fail
          go_roundg (gk - 1)
          case measure => have := HKG.out; omega
          case rel => exact ⟨k + 1, D1.set u (mn 1099511627776 (at0 D1 u + at0 W u * q)), u, by have := HKG.out; omega, by go_num, HNX4.out, PKR3.out.far (by show w.heap.size ≠ gd; omega) _, PR3.out.setD u hu3 _, PB3.setCell hBd _⟩
end Go.Proofs.Ythkfdfkjenhjmaa
