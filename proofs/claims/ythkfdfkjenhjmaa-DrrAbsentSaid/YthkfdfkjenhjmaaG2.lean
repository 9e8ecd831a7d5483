/- Contract: serving (the reference). -/
import Derived.Test.YthkfdfkjenhjmaaG
namespace Go.Proofs.Ythkfdfkjenhjmaa
open Go.RowKit
set_option linter.unusedVariables false
set_option linter.unusedSimpArgs false

set_option maxRecDepth 100000 in
set_option maxHeartbeats 8000000 in
theorem rserve_any (W : List Int) (q : Int) (H D0 : List Int) (t0 : Nat) (n : Nat) (hOk : ∀ x ∈ W, 1 ≤ x ∧ x ≤ 100) (hq0 : 1 ≤ q) (hq1 : q ≤ 1200) (hs : SOk (D0, t0)) (hHb : ∀ x ∈ H, 0 ≤ x ∧ x ≤ 1200) (hn2 : n ≤ 3602) (hS : Serves W q H (D0, t0) n)
    (B gw cw gd cd bh oh ch : Nat) (w : World) (hB : B ≤ w.heap.size) (hch : 3 ≤ ch ∧ ch ≤ maxLen)
    (hW : Row3 w B gw cw W) (hD : Row3 w B gd cd D0) (hn : gw ≠ gd) (hbd : bh ≠ gd) (hH : Hd3 w bh oh H) :
    Calls Try.prog 41 #[.agg #[.slice (some ⟨gw, 0, none⟩) 3 cw, .int .i64 q, .slice (some ⟨gd, 0, none⟩) 3 cd, .int .i64 t0], .slice (some ⟨bh, oh, none⟩) 3 ch] w
      (fun e w' => e = .returned (.tuple #[.agg #[.slice (some ⟨gw, 0, none⟩) 3 cw, .int .i64 q, .slice (some ⟨gd, 0, none⟩) 3 cd, .int .i64 (pas W q H (D0, t0) n).2], .int .i64 n]) ∧ Row3 w' B gd cd (paid H (pas W q H (D0, t0) n)) ∧ Only (fun k => k = gd) w w') := by
  have hgd := hD.lt
  have hgw := hW.lt
  have hbh := hH.1
  have hH3 := hH.2.1
  have hW3 := hW.len
  have k0 : DrAt ((w.alloc (.cells #[.slice (some ⟨gw, 0, none⟩) 3 cw, .int .i64 q, .slice (some ⟨gd, 0, none⟩) 3 cd, .int .i64 t0] 24)).alloc (.cells #[.slice none 0 0, .int .i64 0, .slice none 0 0, .int .i64 0] 24)) B w.heap.size gw cw gd cd W q D0 t0 := ⟨(Blk.new w _ _).alloc _, (hW.alloc _).alloc _, (hD.alloc _).alloc _, hn, by omega, by omega, hB⟩
  have r : Blk ((w.alloc (.cells #[.slice (some ⟨gw, 0, none⟩) 3 cw, .int .i64 q, .slice (some ⟨gd, 0, none⟩) 3 cd, .int .i64 t0] 24)).alloc (.cells #[.slice none 0 0, .int .i64 0, .slice none 0 0, .int .i64 0] 24)) (w.heap.size + 1) 24 #[.slice none 0 0, .int .i64 0, .slice none 0 0, .int .i64 0] := Blk.new1 _ _ _ _
  have kh : Hd3 ((w.alloc (.cells #[.slice (some ⟨gw, 0, none⟩) 3 cw, .int .i64 q, .slice (some ⟨gd, 0, none⟩) 3 cd, .int .i64 t0] 24)).alloc (.cells #[.slice none 0 0, .int .i64 0, .slice none 0 0, .int .i64 0] 24)) bh oh H := (hH.alloc _).alloc _
  have ko : Only (fun k => k = gd) w ((w.alloc (.cells #[.slice (some ⟨gw, 0, none⟩) 3 cw, .int .i64 q, .slice (some ⟨gd, 0, none⟩) 3 cd, .int .i64 t0] 24)).alloc (.cells #[.slice none 0 0, .int .i64 0, .slice none 0 0, .int .i64 0] 24)) := ((Only.refl _ _).alloc _).alloc _
  have K := Lib.hid k0
  have R := Lib.hid r
  have KH := Lib.hid kh
  have KO := Lib.hid ko
  have HC := Lib.hid hch
  obtain ⟨hch1, hch2⟩ := hch
  unfold maxLen at hch2
  have HS := Lib.hid hS
  have HSO := Lib.hid hs
  have HHO := Lib.hid hHb
  have HWO := Lib.hid hOk
  have H3 := Lib.hid hH3
  have HW3 := Lib.hid hW3
  clear hW hD hH hOk k0 r kh ko hS hs hHb hH3 hW3
  go_enter Try.func41, Try.ntmps41
  go_upto_region 1 with fail
  generalize ((w.alloc (.cells #[.slice (some ⟨gw, 0, none⟩) 3 cw, .int .i64 q, .slice (some ⟨gd, 0, none⟩) 3 cd, .int .i64 t0] 24)).alloc (.cells #[.slice none 0 0, .int .i64 0, .slice none 0 0, .int .i64 0] 24)) = w1 at K R KH KO ⊢
  go_wp2_with fail
  go_loopg [6] n (fun g a wr => ∃ (k : Nat) (D : List Int) (p : Nat), k + g = n ∧ a = .int .i64 k ∧ pas W q H (D0, t0) k = (D, p) ∧ DrAt wr B w.heap.size gw cw gd cd W q D p ∧ Blk wr (w.heap.size + 1) 24 #[.slice none 0 0, .int .i64 0, .slice none 0 0, .int .i64 0] ∧ Hd3 wr bh oh H ∧ Only (fun k => k = gd) w wr)
  case atStart => exact ⟨0, D0, t0, by omega, rfl, rfl, K.out, R.out, KH.out, KO.out⟩
  case round =>
    clear K R KH KO
    obtain ⟨k, D, p, hkg, rfl, hpas, hK, hR, hKH, hKO⟩ := hrel
    have hkn : k ≤ n := by omega
    have HKG := Lib.hid hkg
    have so := pas_ok (H := H) HW3.out HWO.out hq0 hq1 HSO.out k
    rw [hpas] at so
    have so1 := so.1
    have so3 := so.2.2
    have bD := so.2.1 _ (at0_mem (l := D) (i := p) (by dsimp only at so1 so3; omega))
    dsimp only at so1 so3
    have hnx := pas_eq hpas
    obtain ⟨a0, a1, a2, a3⟩ := hK.blk.c4
    have eH := hKH.2.2 p so3
    have eD := hK.rD.cell p so3
    have bH := HHO.out _ (at0_mem (l := H) (i := p) (by rw [H3.out]; exact so3))
    have hp3 : (p : Int) < 3 := by omega
    have hp0 : (0 : Int) ≤ p := by omega
    have hkn2 : (k : Int) ≤ 3602 := by omega
    have K := Lib.hid hK
    have R := Lib.hid hR
    have KH := Lib.hid hKH
    have KO := Lib.hid hKO
    have HPAS := Lib.hid hpas
    have HNX := Lib.hid hnx
    clear hkg hK hR hKH hKO hpas hnx
    by_cases st : stops H (D, p)
    · have hk : k = n := by
        rcases Nat.lt_or_ge k n with h | h
        · exact absurd (by rw [HPAS.out]; exact st) (HS.out.2 k h)
        · omega
      obtain ⟨z, zl⟩ := st
      dsimp only at z zl
      have zb : (at0 H p == 0) = false := by simpa using z
      have zc : decide (at0 D p < at0 H p) = false := by simpa using zl
      have HPD : Hid (pas W q H (D0, t0) n = (D, p)) := Lib.hid (by rw [← hk]; exact HPAS.out)
      have HKN := Lib.hid hk
      have hsub : IntKind.i64.wrap (at0 D p - at0 H p) = at0 D p - at0 H p := IntWalk.i64_in _ (by omega)
      clear z zl hk
      go_wp2_with fail
      go_quiet (fail)
      go_upto_region 5 with fail
      have P := K.out.drewN nq
      have PR := R.out.drewN nq
      have PK := KH.out.drewN nq
      have PB := KO.out.drewN nq
      generalize wr.drewN nq = w2 at P PR PK PB ⊢
      clear a0 a1 a2 a3 eH eD K R KH KO
      obtain ⟨a0, a1, a2, a3⟩ := P.blk.c4
      have eH := PK.2.2 p so3
      have eD := P.rD.cell p so3
      have K := Lib.hid P
      have R := Lib.hid PR
      have KO := Lib.hid PB
      clear P PK PB PR
      go_still_tail 17, (by kernel_rfl)
      change wpList _ _ _ _ _ w2.drew
      clear a0 a1 a2 a3 eH eD
      have P3 := K.out.drew
      have R3 := R.out.drew
      have O3 := KO.out.drew
      generalize w2.drew = w3 at P3 R3 O3 ⊢
      have fD := P3.rD.frozen p
      have eD := P3.rD.cell p so3
      obtain ⟨a0, a1, a2, a3⟩ := P3.blk.c4
      obtain ⟨r0, r1, r2, r3⟩ := R3.c4
      obtain ⟨s0, s1, s2, s3⟩ := R3.f4
      have hlr := R3.lt
      have hgd1 : ¬ gd = w.heap.size := by omega
      have hgd2 : ¬ gd = w.heap.size + 1 := by omega
      have hga1 : ¬ w.heap.size = w.heap.size + 1 := by omega
      have PR3 := Lib.hid P3
      have PO3 := Lib.hid O3
      clear P3 R3 O3
      go_wp2_with fail
      have hpd := HPD.out
      refine bodyPost_ret (v := .tuple #[.agg #[.slice (some ⟨gw, 0, none⟩) 3 cw, .int .i64 q, .slice (some ⟨gd, 0, none⟩) 3 cd, .int .i64 p], .int .i64 k]) (by simp [results, Try.results41, go_sem, a0, a1, a2, a3, r0, r1, r2, r3, hgd1, hgd2, hga1]) rfl ⟨?_, ?_, ?_⟩
      · rw [hpd, ← HKN.out]
      · rw [hpd]
        show Row3 _ B gd cd (D.set p (at0 D p - at0 H p))
        repeat (first | with_reducible exact PR3.out.rD.set p so3 _ | with_reducible refine Row3.far ?_ (by show gd ≠ w.heap.size + 1; omega) _)
      · repeat (first | with_reducible exact PO3.out | with_reducible refine Only.set ?_ (by first | exact .inl rfl | exact .inr (by show w.heap.size ≤ w.heap.size + 1; omega)) _)
    · have HKL : k < n := by
        rcases Nat.lt_or_ge k n with h | h
        · exact h
        · have : k = n := by omega
          subst this
          exact absurd (by have := HS.out.1; rw [HPAS.out] at this; exact this) st
      by_cases z : at0 H p = 0
      · have zb : (at0 H p == 0) = true := by simpa using z
        clear z st
        go_wp2_with fail
        go_quiet (fail)
        have K3 := K.out.drewN nq
        have R3 := R.out.drewN nq
        have H3 := KH.out.drewN nq
        have O3 := KO.out.drewN nq
        generalize wr.drewN nq = w2 at K3 R3 H3 O3 ⊢
        clear K R KH KO a0 a1 a2 a3 eH eD
        have K := Lib.hid K3
        have R := Lib.hid R3
        have KH := Lib.hid H3
        have KO := Lib.hid O3
        obtain ⟨a0, a1, a2, a3⟩ := K3.blk.c4
        have hB2 : B ≤ w2.heap.size := by have := O3.size; omega
        clear K3 R3 H3 O3
        go_wp2_with fail
        refine (pass_any W q H D p HWO.out hq0 hq1 so B gw cw gd cd bh oh ch w2 hB2 HC.out K.out.rW K.out.rD hn hbd KH.out).mono ?_
        rintro e w3 ⟨rfl, hrow, ho⟩
        rw [← HNX.out]
        obtain ⟨D1, u, hDu⟩ : ∃ D1 u, pas W q H (D0, t0) (k + 1) = (D1, u) := ⟨_, _, rfl⟩
        rw [← HNX.out] at hrow
        rw [hDu] at hrow ⊢
        dsimp only at hrow ⊢
        have HDU := Lib.hid hDu
        have ROW := Lib.hid hrow
        have KO3 := Lib.hid (KO.out.trans ho)
        have rw3 : Row3 w3 B gw cw W := own_only K.out.rW ho (fun g e => by simp [Value.ownBlock] at e; omega)
        have RW3 := Lib.hid rw3
        have kb := K.out.blk.only ho (by show ¬ w.heap.size = gd; omega)
        have KB := Lib.hid kb
        have rb := R.out.only ho (by show ¬ w.heap.size + 1 = gd; omega)
        have RB := Lib.hid rb
        have KH3 := Lib.hid (KH.out.only ho hbd)
        clear hDu hrow ho rw3 a0 a1 a2 a3 K R KH KO
        obtain ⟨a0, a1, a2, a3⟩ := kb.c4
        obtain ⟨f0, f1, f2, f3⟩ := kb.f4
        have hlb := kb.lt
        have hlr := rb.lt
        clear kb rb
        go_wp2_with fail
        go_roundg (gk - 1)
        case measure => have := HKG.out; have := HKL; omega
        case rel =>
          refine ⟨k + 1, D1, u, by have := HKG.out; have := HKL; omega, by go_num, HDU.out, ⟨(((KB.out.set 0 _).set 1 _).set 2 _).set 3 _, ?_, ?_, hn, by omega, by omega, hB⟩, ?_, ?_, ?_⟩
          · repeat (first | with_reducible exact RW3.out | with_reducible refine Row3.far ?_ (by show gw ≠ w.heap.size; omega) _)
          · repeat (first | with_reducible exact ROW.out | with_reducible refine Row3.far ?_ (by show gd ≠ w.heap.size; omega) _)
          · repeat (first | with_reducible exact RB.out | with_reducible refine Blk.far ?_ (by show w.heap.size + 1 ≠ w.heap.size; omega) _)
          · repeat (first | with_reducible exact KH3.out | with_reducible refine Hd3.far ?_ (by show bh ≠ w.heap.size; omega) _)
          · repeat (first | with_reducible exact KO3.out | with_reducible refine Only.set ?_ (.inr (Nat.le_refl _)) _)
      · have zb : (at0 H p == 0) = false := by simpa using z
        have zc : decide (at0 D p < at0 H p) = true := by
          have : ¬ at0 H p ≤ at0 D p := fun h => st ⟨z, h⟩
          simpa using this
        clear z st
        go_wp2_with fail
        go_quiet (fail)
        have K3 := K.out.drewN nq
        have R3 := R.out.drewN nq
        have H3 := KH.out.drewN nq
        have O3 := KO.out.drewN nq
        generalize wr.drewN nq = w2 at K3 R3 H3 O3 ⊢
        clear K R KH KO a0 a1 a2 a3 eH eD
        have K := Lib.hid K3
        have R := Lib.hid R3
        have KH := Lib.hid H3
        have KO := Lib.hid O3
        obtain ⟨a0, a1, a2, a3⟩ := K3.blk.c4
        have hB2 : B ≤ w2.heap.size := by have := O3.size; omega
        clear K3 R3 H3 O3
        go_wp2_with fail
        refine (pass_any W q H D p HWO.out hq0 hq1 so B gw cw gd cd bh oh ch w2 hB2 HC.out K.out.rW K.out.rD hn hbd KH.out).mono ?_
        rintro e w3 ⟨rfl, hrow, ho⟩
        rw [← HNX.out]
        obtain ⟨D1, u, hDu⟩ : ∃ D1 u, pas W q H (D0, t0) (k + 1) = (D1, u) := ⟨_, _, rfl⟩
        rw [← HNX.out] at hrow
        rw [hDu] at hrow ⊢
        dsimp only at hrow ⊢
        have HDU := Lib.hid hDu
        have ROW := Lib.hid hrow
        have KO3 := Lib.hid (KO.out.trans ho)
        have rw3 : Row3 w3 B gw cw W := own_only K.out.rW ho (fun g e => by simp [Value.ownBlock] at e; omega)
        have RW3 := Lib.hid rw3
        have kb := K.out.blk.only ho (by show ¬ w.heap.size = gd; omega)
        have KB := Lib.hid kb
        have rb := R.out.only ho (by show ¬ w.heap.size + 1 = gd; omega)
        have RB := Lib.hid rb
        have KH3 := Lib.hid (KH.out.only ho hbd)
        clear hDu hrow ho rw3 a0 a1 a2 a3 K R KH KO
        obtain ⟨a0, a1, a2, a3⟩ := kb.c4
        obtain ⟨f0, f1, f2, f3⟩ := kb.f4
        have hlb := kb.lt
        have hlr := rb.lt
        clear kb rb
        go_wp2_with fail
        go_roundg (gk - 1)
        case measure => have := HKG.out; have := HKL; omega
        case rel =>
          refine ⟨k + 1, D1, u, by have := HKG.out; have := HKL; omega, by go_num, HDU.out, ⟨(((KB.out.set 0 _).set 1 _).set 2 _).set 3 _, ?_, ?_, hn, by omega, by omega, hB⟩, ?_, ?_, ?_⟩
          · repeat (first | with_reducible exact RW3.out | with_reducible refine Row3.far ?_ (by show gw ≠ w.heap.size; omega) _)
          · repeat (first | with_reducible exact ROW.out | with_reducible refine Row3.far ?_ (by show gd ≠ w.heap.size; omega) _)
          · repeat (first | with_reducible exact RB.out | with_reducible refine Blk.far ?_ (by show w.heap.size + 1 ≠ w.heap.size; omega) _)
          · repeat (first | with_reducible exact KH3.out | with_reducible refine Hd3.far ?_ (by show bh ≠ w.heap.size; omega) _)
          · repeat (first | with_reducible exact KO3.out | with_reducible refine Only.set ?_ (.inr (Nat.le_refl _)) _)
end Go.Proofs.Ythkfdfkjenhjmaa
