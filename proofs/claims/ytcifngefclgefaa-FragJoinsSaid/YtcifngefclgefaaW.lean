/- The law: other sizes. -/
import Derived.Test.YtcifngefclgefaaU
namespace Go.Proofs.Ytcifngefclgefaa
open Go.RowKit
set_option linter.unusedVariables false
set_option linter.unusedSimpArgs false

section
variable {h : Bn} {m : ByteArray} {s : Nat}
theorem frags_bn {i : Nat} (hi : i < (m.size + s - 1) / s) : bnAt (fragsOf h m s) i = frOf h m s i i := bnAt_of (frags_at hi)
theorem frags_pcs (hs : 1 ≤ s ∧ s ≤ 1000) (hM : m.size ≤ 20000) (h0 : bE (frOf h m s 0 0) = 0) (hp : 0 < m.size) : Pcs m (fragsOf h m s) :=
  pcs_of hs hM h0 (by rw [frags_len]; have := frags_n0 (m := m) hp hs.1; omega) fun i hi => by
    rw [frags_len] at hi
    exact ⟨i, (fr_lt hs.1).1 hi, frags_bn hi⟩
theorem frags_all (hs : 1 ≤ s) {p : Nat} (hp : p < m.size) : ∃ i, i < (fragsOf h m s).length ∧ cov (bnAt (fragsOf h m s) i) p := by
  obtain ⟨h1, h2⟩ := fr_idx (s := s) hs hp
  have hi := (fr_lt (m := m) hs).2 h1
  exact ⟨p / s, by rw [frags_len]; exact hi, by rw [frags_bn hi]; exact (fr_cov h1).2 h2⟩
theorem frags_join (hs : 1 ≤ s ∧ s ≤ 1000) (hM : m.size ≤ 20000) (h0 : bE (frOf h m s 0 0) = 0) (hp : 0 < m.size) : joinOf (fragsOf h m s) = (m, 0) :=
  (frags_pcs hs hM h0 hp).join fun p hp => frags_all hs.1 hp
theorem frags_refit (hs : 1 ≤ s ∧ s ≤ 1000) (hM : m.size ≤ 20000) (h0 : bE (frOf h m s 0 0) = 0) (hp : 0 < m.size) {t : Nat} (ht : 1 ≤ t ∧ t ≤ 1000) : refitOf (fragsOf h m s) (t : Int) = (fragsOf h m t, 0) := by
  unfold refitOf
  rw [frags_join hs hM h0 hp, if_neg (fun c => c rfl), if_neg (by omega), Int.toNat_natCast, frags_bn (frags_n0 hp hs.1)]
  rfl
theorem frags_cov (hs : 1 ≤ s ∧ s ≤ 1000) (hM : m.size ≤ 20000) (h0 : bE (frOf h m s 0 0) = 0) (hp : 0 < m.size) : rgsOf (fragsOf h m s) true = ([⟨0, m.size⟩], 0) := by
  rw [(frags_pcs hs hM h0 hp).rgs, rgs_one _ 0 m.size m.size hp (Nat.le_refl _)]
  intro p hpm
  have := ((frags_pcs hs hM h0 hp).some_iff p).2 (frags_all hs.1 hpm)
  simp [this, hpm]
end
theorem text_one (l : List Int) (s : Nat) (hs : 1 ≤ s ∧ s ≤ 40) : (1 ≤ s ∧ s ≤ 1000) ∧ (textOf l).size ≤ 20000 ∧ bE (frOf hd0 (textOf l) s 0 0) = 0 ∧ 0 < (textOf l).size := by
  have ht := text_size l
  exact ⟨by omega, by omega, hd_err l s (by omega), by omega⟩
theorem frags_few (l : List Int) (s : Nat) (hs : 1 ≤ s ∧ s ≤ 40) : (fragsOf hd0 (textOf l) s).length ≤ 100000 := by
  have ht := text_size l
  rw [frags_len]
  exact Nat.le_trans (Nat.div_le_self _ _) (by omega)

set_option maxRecDepth 100000 in
set_option maxHeartbeats 8000000 in
theorem FragSizes_t (l : List Int) (x y : Int) (v : Value) (w : World) (hV : IntAt w v l) : Calls Try.prog 8 #[v, .int .i64 x, .int .i64 y] w (RetB true w) := by
  have HV := Lib.hid hV
  obtain ⟨A, c, rfl, _, hc2, hR⟩ := hV
  clear hR
  have hx := szN_b x
  have hy := szN_b y
  obtain ⟨a1, a2, a3, a4⟩ := text_one l (szN x) hx
  obtain ⟨b1, _, b3, _⟩ := text_one l (szN y) hy
  have hM20 := (text_size l).2
  have T1 : Hid (∀ w v, IntAt w v l → Calls Try.prog 32 #[v] w (RetS (textOf l) w)) := Lib.hid (fun w v h => text_any l v w h)
  have CU : Hid (∀ w v, IntAt w v l → Calls Try.prog 30 #[v, .int .i64 x] w (RetBB (fragsOf hd0 (textOf l) (szN x)) true w)) := Lib.hid (fun w v h => cut_any l x v w h)
  have R1 : Hid (∀ w v, BnAt w v (fragsOf hd0 (textOf l) (szN x)) → Calls Try.prog 25 #[v, .int .i64 (szN y : Int)] w (RetBs (fragsOf hd0 (textOf l) (szN y)) 0 w)) := Lib.hid (fun w v h => by have := fRefit_any _ v (szN y : Int) w h (frags_few l _ hx); rw [frags_refit a1 a2 a3 a4 b1] at this; exact this)
  have R2 : Hid (∀ w v, BnAt w v (fragsOf hd0 (textOf l) (szN y)) → Calls Try.prog 25 #[v, .int .i64 (szN x : Int)] w (RetBs (fragsOf hd0 (textOf l) (szN x)) 0 w)) := Lib.hid (fun w v h => by have := fRefit_any _ v (szN x : Int) w h (frags_few l _ hy); rw [frags_refit b1 a2 b3 a4 a1] at this; exact this)
  have CV : Hid (∀ w v, BnAt w v (fragsOf hd0 (textOf l) (szN y)) → Calls Try.prog 18 #[v] w (RetRg [⟨0, (textOf l).size⟩] 0 w)) := Lib.hid (fun w v h => by have := Covered_any _ v w h (frags_few l _ hy); rw [frags_cov b1 a2 b3 a4] at this; exact this)
  obtain ⟨M, hM⟩ : ∃ M, textOf l = M := ⟨_, rfl⟩
  obtain ⟨L, hL⟩ : ∃ L, fragsOf hd0 M (szN x) = L := ⟨_, rfl⟩
  obtain ⟨K, hK⟩ : ∃ K, fragsOf hd0 M (szN y) = K := ⟨_, rfl⟩
  obtain ⟨z, hz⟩ : ∃ z, szN x = z := ⟨_, rfl⟩
  obtain ⟨t, ht⟩ : ∃ t, szN y = t := ⟨_, rfl⟩
  obtain ⟨q, hq⟩ : ∃ q, x % 40 = q := ⟨_, rfl⟩
  obtain ⟨r, hr⟩ : ∃ r, y % 40 = r := ⟨_, rfl⟩
  have hqz : (1 : Int) + q = z := by rw [← hz, ← hq]; unfold szN; omega
  have hrt : (1 : Int) + r = t := by rw [← ht, ← hr]; unfold szN; omega
  have hq0 : 0 ≤ q ∧ q < 40 := by omega
  have hr0 : 0 ≤ r ∧ r < 40 := by omega
  have MX : Hid (∀ w, Calls Try.prog 31 #[.int .i64 x, .int .i64 40] w fun e w' => e = .returned (.int .i64 q) ∧ w = w') := Lib.hid (fun w => by rw [← hq]; exact Mod_any x 40 w (by decide) (by decide))
  have MY : Hid (∀ w, Calls Try.prog 31 #[.int .i64 y, .int .i64 40] w fun e w' => e = .returned (.int .i64 r) ∧ w = w') := Lib.hid (fun w => by rw [← hr]; exact Mod_any y 40 w (by decide) (by decide))
  have WZ : IntKind.i64.wrap ((1 : Int) + q) = z := by rw [hqz]; exact IntWalk.i64_in _ (by omega)
  have WT : IntKind.i64.wrap ((1 : Int) + r) = t := by rw [hrt]; exact IntWalk.i64_in _ (by omega)
  rw [hM] at T1 CU R1 R2 CV hM20
  rw [hL] at CU R1 R2
  rw [hK] at R1 R2 CV
  rw [ht] at R1
  rw [hz] at R2
  have WU : IntKind.u64.wrap (M.size : Int) = M.size := by rw [IntKind.wrap_u64]; omega
  clear hM hL hK hz ht hq hr hx hy a1 a2 a3 a4 b1 b3
  go_enter Try.func8, Try.ntmps8
  go_wp2_with fail
  refine (FragKnown_t _).mono ?_
  rintro e w1 ⟨rfl, hb1⟩
  have hB1 := hb1
  have V1 := Lib.hid (SlAt.below HV.out hb1)
  clear hb1
  go_wp2_with fail
  refine (CU.out _ _ V1.out).mono ?_
  rintro e w2 ⟨v2, rfl, hv2, hb2⟩
  obtain ⟨A2, c2, rfl, _⟩ := id hv2
  have hB2 := bnext hB1 hb2
  have V2 := Lib.hid (SlAt.below V1.out hb2)
  have L2 := Lib.hid hv2
  clear hb2 hv2 hB1 V1 CU
  go_wp2_with fail
  refine (MY.out _).mono ?_
  rintro e w3 ⟨rfl, rfl⟩
  go_wp2_with fail
  refine (R1.out _ _ L2.out).mono ?_
  rintro e w4 ⟨v4, rfl, hv4, hb4⟩
  obtain ⟨A4, c4, rfl, _⟩ := id hv4
  have hB4 := bnext hB2 hb4
  have V4 := Lib.hid (SlAt.below V2.out hb4)
  have L4 := Lib.hid (SlAt.below L2.out hb4)
  have K4 := Lib.hid hv4
  clear hb4 hv4 hB2 V2 L2 R1 MY
  go_wp2_with fail
  refine (CV.out _ _ K4.out).mono ?_
  rintro e w5 ⟨v5, rfl, hv5, hb5⟩
  obtain ⟨A5, c5, rfl, _⟩ := id hv5
  have hB5 := bnext hB4 hb5
  have V5 := Lib.hid (SlAt.below V4.out hb5)
  have L5 := Lib.hid (SlAt.below L4.out hb5)
  have K5 := Lib.hid (SlAt.below K4.out hb5)
  have G5 := Lib.hid hv5
  clear hb5 hv5 hB4 V4 L4 K4 CV
  go_wp2_with fail
  refine (MX.out _).mono ?_
  rintro e w6 ⟨rfl, rfl⟩
  go_wp2_with fail
  refine (R2.out _ _ K5.out).mono ?_
  rintro e w7 ⟨v7, rfl, hv7, hb7⟩
  obtain ⟨A7, c7, rfl, _⟩ := id hv7
  have hB7 := bnext hB5 hb7
  have V7 := Lib.hid (SlAt.below V5.out hb7)
  have L7 := Lib.hid (SlAt.below L5.out hb7)
  have G7 := Lib.hid (SlAt.below G5.out hb7)
  have N7 := Lib.hid hv7
  clear hb7 hv7 hB5 V5 L5 K5 G5 R2 MX
  go_wp2_with fail
  refine (T1.out _ _ V7.out).mono ?_
  rintro e w8 ⟨rfl, hb8⟩
  have hB8 := bnext hB7 hb8
  have L8 := Lib.hid (SlAt.below L7.out hb8)
  have G8 := Lib.hid (SlAt.below G7.out hb8)
  have N8 := Lib.hid (SlAt.below N7.out hb8)
  clear hb8 hB7 V7 L7 G7 N7 T1
  go_wp2_with fail
  refine (SameRanges_eq [⟨0, M.size⟩] _ _ _ (SlAt.alloc G8.out _) (rg_lit (L := [⟨0, M.size⟩]) (Blk.new _ _ _) 1 rfl (by decide))).mono ?_
  rintro e w9 ⟨rfl, hb9⟩
  have hB9 := bnext (bal hB8 _) hb9
  have L9 := SlAt.below (SlAt.alloc L8.out _) hb9
  have N9 := SlAt.below (SlAt.alloc N8.out _) hb9
  clear hb9 hB8 L8 G8 N8
  go_wp2_with fail
  refine (same_eq L _ _ _ N9 L9).mono ?_
  rintro e wa ⟨rfl, hba⟩
  have hBa := bnext hB9 hba
  clear hba hB9 L9 N9
  go_wp2_with fail
  go_ret
  exact ⟨rfl, hBa⟩
end Go.Proofs.Ytcifngefclgefaa
