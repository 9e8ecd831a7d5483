/- Contract: two bundles agree (the reference). -/
import Derived.Test.YtcifngefclgefaaJa
namespace Go.Proofs.Ytcifngefclgefaa
open Go.RowKit
set_option linter.unusedVariables false
set_option linter.unusedSimpArgs false

set_option maxRecDepth 100000 in
set_option maxHeartbeats 8000000 in
theorem agree_any (x y : Bn) (hx : Bok x) (hy : Bok y) (w : World) : Calls Try.prog 38 #[x.val, y.val] w (RetB (agrB x y) w) := by
  obtain ⟨hox, hsx, _⟩ := bok_o hx
  obtain ⟨hoy, hsy, _⟩ := bok_o hy
  obtain ⟨M, hM⟩ : ∃ M, max x.o y.o = M := ⟨_, rfl⟩
  obtain ⟨E, hE⟩ : ∃ E, min (x.o + x.data.size) (y.o + y.data.size) = E := ⟨_, rfl⟩
  have R : Hid (agrB x y = (List.range (E - M)).all fun i => byt x.data (M + i - x.o) == byt y.data (M + i - y.o)) := Lib.hid (by unfold agrB; rw [hM, hE])
  obtain ⟨p, hp⟩ : ∃ p, x.o = p := ⟨_, rfl⟩
  obtain ⟨q, hq⟩ : ∃ q, y.o = q := ⟨_, rfl⟩
  rw [hp] at hox hsx hM hE R
  rw [hq] at hoy hsy hM hE R
  rw [Bn.val_eq, Bn.val_eq, hox, hoy, R.out]
  clear hx hy R hp hq hox hoy
  obtain ⟨node, seq, off, dest, prio, born, life, total, s⟩ := x
  obtain ⟨node', seq', off', dest', prio', born', life', total', s'⟩ := y
  dsimp only at *
  obtain ⟨f, hf⟩ : ∃ f : Nat → Bool, f = fun i => byt s (M + i - p) == byt s' (M + i - q) := ⟨_, rfl⟩
  have HF := Lib.hid hf
  rw [← hf]
  obtain ⟨a, ha⟩ : ∃ a, p + s.size = a := ⟨_, rfl⟩
  obtain ⟨b, hb⟩ : ∃ b, q + s'.size = b := ⟨_, rfl⟩
  rw [ha, hb] at hE
  have WA : IntKind.i64.wrap ((p : Int) + s.size) = (a : Int) := by rw [← ha, Int.natCast_add]; exact IntWalk.i64_in _ (by omega)
  have WB : IntKind.i64.wrap ((q : Int) + s'.size) = (b : Int) := by rw [← hb, Int.natCast_add]; exact IntWalk.i64_in _ (by omega)
  have hMp : p ≤ M := by omega
  have hMq : q ≤ M := by omega
  have HA := Lib.hid ha
  have HB := Lib.hid hb
  have HE := Lib.hid hE
  have HM := Lib.hid hM
  clear hf
  by_cases hpq : p < q
  · skip
    clear ha hb hE hM
    go_enter Try.func38, Try.ntmps38
    go_wp2_with fail
    have k0 := (Blk.new w 26 #[.int .i64 node, .int .u64 seq, .int .i64 p, .int .i64 dest, .int .i64 prio, .int .i64 born, .int .i64 life, .int .i64 total, .string s]).alloc (.cells #[.int .i64 node', .int .u64 seq', .int .i64 q, .int .i64 dest', .int .i64 prio', .int .i64 born', .int .i64 life', .int .i64 total', .string s'] 26)
    have k1 := Blk.new1 w (.cells #[.int .i64 node, .int .u64 seq, .int .i64 p, .int .i64 dest, .int .i64 prio, .int .i64 born, .int .i64 life, .int .i64 total, .string s] 26) 26 #[.int .i64 node', .int .u64 seq', .int .i64 q, .int .i64 dest', .int .i64 prio', .int .i64 born', .int .i64 life', .int .i64 total', .string s']
    have hB0 := bal (bal (Below.refl w.heap.size w) (.cells #[.int .i64 node, .int .u64 seq, .int .i64 p, .int .i64 dest, .int .i64 prio, .int .i64 born, .int .i64 life, .int .i64 total, .string s] 26)) (.cells #[.int .i64 node', .int .u64 seq', .int .i64 q, .int .i64 dest', .int .i64 prio', .int .i64 born', .int .i64 life', .int .i64 total', .string s'] 26)
    obtain ⟨w0, hw0⟩ : ∃ w0, (w.alloc (.cells #[.int .i64 node, .int .u64 seq, .int .i64 p, .int .i64 dest, .int .i64 prio, .int .i64 born, .int .i64 life, .int .i64 total, .string s] 26)).alloc (.cells #[.int .i64 node', .int .u64 seq', .int .i64 q, .int .i64 dest', .int .i64 prio', .int .i64 born', .int .i64 life', .int .i64 total', .string s'] 26) = w0 := ⟨_, rfl⟩
    rw [hw0] at k0 k1 hB0 ⊢
    clear hw0
    have K0 := Lib.hid k0
    have K1 := Lib.hid k1
    have HB0 := Lib.hid hB0
    clear k0 k1 hB0
    go_loopw [5] (fun a wr => ∃ k t : Nat, Hid (t = M + k) ∧ k ≤ E - M ∧ a = .int .i64 t ∧ (∀ i, i < k → f i = true) ∧ Below w0.heap.size w0 wr) (fun a _ => E - (intOf a).toNat)
    case atStart => exact ⟨0, q, Lib.hid (by have := HM.out; omega), Nat.zero_le _, rfl, fun i hi => by omega, Below.refl _ _⟩
    case round =>
      obtain ⟨k, t, ht, hk, rfl, hall, hB⟩ := hrel
      obtain ⟨wy, rfl⟩ : ∃ wy : World, wy = wr := ⟨_, rfl⟩
      have HALL := Lib.hid hall
      have HBy := Lib.hid hB
      obtain ⟨x0, x1, x2, x3, x4, x5, x6, x7, x8⟩ := (K0.out.below hB).c9
      obtain ⟨y0, y1, y2, y3, y4, y5, y6, y7, y8⟩ := (K1.out.below hB).c9
      have hl0 := (K0.out.below hB).lt
      have hl1 := (K1.out.below hB).lt
      clear hall hB
      have hmn : E ≤ a ∧ E ≤ b := by have := HE.out; omega
      have hE2 : E ≤ 20000 := by have := HA.out; omega
      have HIF : (if b < a then (b : Int) else (a : Int)) = E := by have := HE.out; split <;> omega
      have hHIF := Lib.hid HIF
      clear HIF
      by_cases hlt : t < E
      · obtain ⟨u, hu⟩ : ∃ u, t - p = u := ⟨_, rfl⟩
        obtain ⟨v, hv⟩ : ∃ v, t - q = v := ⟨_, rfl⟩
        have ht2 := ht.out
        have ha2 := HA.out
        have hb2 := HB.out
        have WU : IntKind.i64.wrap ((t : Int) - p) = (u : Int) := by rw [show (t : Int) - p = (u : Int) by omega]; exact IntWalk.i64_in _ (by omega)
        have WV : IntKind.i64.wrap ((t : Int) - q) = (v : Int) := by rw [show (t : Int) - q = (v : Int) by omega]; exact IntWalk.i64_in _ (by omega)
        have hus : u < s.size := by omega
        have hvs : v < s'.size := by omega
        have husi : (u : Int) < s.size := by omega
        have hvsi : (v : Int) < s'.size := by omega
        have hu0 : (0 : Int) ≤ u := by omega
        have hv0 : (0 : Int) ≤ v := by omega
        have hta : t < a := by omega
        have htb : t < b := by omega
        have htai : (t : Int) < a := by omega
        have htbi : (t : Int) < b := by omega
        have HFK : Hid (f k = (s[u] == s'[v])) := Lib.hid (by rw [HF.out]; dsimp only; rw [← byt_at hus, ← byt_at hvs]; congr 2 <;> omega)
        have hkE : k < E - M := by omega
        clear hu hv ht2 ha2 hb2 hmn
        by_cases hc : s[u] = s'[v]
        · have HT : Hid (f k = true) := Lib.hid (by rw [HFK.out, hc]; simp)
          have hcn : ((s[u].toNat : Int) != (s'[v].toNat : Int)) = false := by rw [hc]; simp
          clear hc
          by_cases hba : b < a
          · have hif := hHIF.out
            rw [if_pos hba] at hif
            have hlti : (t : Int) < E := by omega
            obtain rfl : b = E := by omega
            clear hif
            go_upto_region 4 with fail
            go_quiet (fail)
            go_wp2_with fail
            go_roundw
            case rel =>
             refine ⟨k + 1, t + 1, Lib.hid (by have := ht.out; omega), by omega, by go_num, fun i hi => ?_, below_drewN HBy.out _⟩
             rcases Nat.lt_or_eq_of_le (Nat.le_of_lt_succ hi) with d | d
             · exact HALL.out i d
             · rw [d]; exact HT.out
            case measure => simp [intOf]; omega
          · have hif := hHIF.out
            rw [if_neg hba] at hif
            have hlti : (t : Int) < E := by omega
            obtain rfl : a = E := by omega
            clear hif
            go_upto_region 4 with fail
            go_quiet (fail)
            go_wp2_with fail
            go_roundw
            case rel =>
             refine ⟨k + 1, t + 1, Lib.hid (by have := ht.out; omega), by omega, by go_num, fun i hi => ?_, below_drewN HBy.out _⟩
             rcases Nat.lt_or_eq_of_le (Nat.le_of_lt_succ hi) with d | d
             · exact HALL.out i d
             · rw [d]; exact HT.out
            case measure => simp [intOf]; omega
        · have HT : Hid ((List.range (E - M)).all f = false) := Lib.hid (by
            rw [Bool.eq_false_iff]
            intro hh
            have := List.all_eq_true.1 hh k (List.mem_range.2 hkE)
            rw [HFK.out] at this
            exact hc (eq_of_beq this))
          have hcn : ((s[u].toNat : Int) != (s'[v].toNat : Int)) = true := by
            rw [bne_iff_ne]
            intro e
            exact hc (UInt8.toNat_inj.1 (by omega))
          clear hc
          by_cases hba : b < a
          · have hif := hHIF.out
            rw [if_pos hba] at hif
            have hlti : (t : Int) < E := by omega
            obtain rfl : b = E := by omega
            clear hif
            go_upto_region 4 with fail
            go_quiet (fail)
            go_wp2_with fail
            go_ret
            exact ⟨by rw [HT.out]; rfl, bnext HB0.out (below_drewN HBy.out _)⟩
          · have hif := hHIF.out
            rw [if_neg hba] at hif
            have hlti : (t : Int) < E := by omega
            obtain rfl : a = E := by omega
            clear hif
            go_upto_region 4 with fail
            go_quiet (fail)
            go_wp2_with fail
            go_ret
            exact ⟨by rw [HT.out]; rfl, bnext HB0.out (below_drewN HBy.out _)⟩
      · have HT : Hid ((List.range (E - M)).all f = true) := Lib.hid (List.all_eq_true.2 fun i hi => HALL.out i (by have := List.mem_range.1 hi; have := ht.out; omega))
        have hge : a ≤ t ∨ b ≤ t := by have := HE.out; omega
        clear hge
        by_cases hba : b < a
        · have hif := hHIF.out
          rw [if_pos hba] at hif
          have hlti : ¬ (t : Int) < E := by omega
          obtain rfl : b = E := by omega
          clear hif
          go_wp2_with fail
          go_ret
          exact ⟨by rw [HT.out]; rfl, bnext HB0.out HBy.out⟩
        · have hif := hHIF.out
          rw [if_neg hba] at hif
          have hlti : ¬ (t : Int) < E := by omega
          obtain rfl : a = E := by omega
          clear hif
          go_wp2_with fail
          go_ret
          exact ⟨by rw [HT.out]; rfl, bnext HB0.out HBy.out⟩
  · skip
    clear ha hb hE hM
    go_enter Try.func38, Try.ntmps38
    go_wp2_with fail
    have k0 := (Blk.new w 26 #[.int .i64 node, .int .u64 seq, .int .i64 p, .int .i64 dest, .int .i64 prio, .int .i64 born, .int .i64 life, .int .i64 total, .string s]).alloc (.cells #[.int .i64 node', .int .u64 seq', .int .i64 q, .int .i64 dest', .int .i64 prio', .int .i64 born', .int .i64 life', .int .i64 total', .string s'] 26)
    have k1 := Blk.new1 w (.cells #[.int .i64 node, .int .u64 seq, .int .i64 p, .int .i64 dest, .int .i64 prio, .int .i64 born, .int .i64 life, .int .i64 total, .string s] 26) 26 #[.int .i64 node', .int .u64 seq', .int .i64 q, .int .i64 dest', .int .i64 prio', .int .i64 born', .int .i64 life', .int .i64 total', .string s']
    have hB0 := bal (bal (Below.refl w.heap.size w) (.cells #[.int .i64 node, .int .u64 seq, .int .i64 p, .int .i64 dest, .int .i64 prio, .int .i64 born, .int .i64 life, .int .i64 total, .string s] 26)) (.cells #[.int .i64 node', .int .u64 seq', .int .i64 q, .int .i64 dest', .int .i64 prio', .int .i64 born', .int .i64 life', .int .i64 total', .string s'] 26)
    obtain ⟨w0, hw0⟩ : ∃ w0, (w.alloc (.cells #[.int .i64 node, .int .u64 seq, .int .i64 p, .int .i64 dest, .int .i64 prio, .int .i64 born, .int .i64 life, .int .i64 total, .string s] 26)).alloc (.cells #[.int .i64 node', .int .u64 seq', .int .i64 q, .int .i64 dest', .int .i64 prio', .int .i64 born', .int .i64 life', .int .i64 total', .string s'] 26) = w0 := ⟨_, rfl⟩
    rw [hw0] at k0 k1 hB0 ⊢
    clear hw0
    have K0 := Lib.hid k0
    have K1 := Lib.hid k1
    have HB0 := Lib.hid hB0
    clear k0 k1 hB0
    go_loopw [5] (fun a wr => ∃ k t : Nat, Hid (t = M + k) ∧ k ≤ E - M ∧ a = .int .i64 t ∧ (∀ i, i < k → f i = true) ∧ Below w0.heap.size w0 wr) (fun a _ => E - (intOf a).toNat)
    case atStart => exact ⟨0, p, Lib.hid (by have := HM.out; omega), Nat.zero_le _, rfl, fun i hi => by omega, Below.refl _ _⟩
    case round =>
      obtain ⟨k, t, ht, hk, rfl, hall, hB⟩ := hrel
      obtain ⟨wy, rfl⟩ : ∃ wy : World, wy = wr := ⟨_, rfl⟩
      have HALL := Lib.hid hall
      have HBy := Lib.hid hB
      obtain ⟨x0, x1, x2, x3, x4, x5, x6, x7, x8⟩ := (K0.out.below hB).c9
      obtain ⟨y0, y1, y2, y3, y4, y5, y6, y7, y8⟩ := (K1.out.below hB).c9
      have hl0 := (K0.out.below hB).lt
      have hl1 := (K1.out.below hB).lt
      clear hall hB
      have hmn : E ≤ a ∧ E ≤ b := by have := HE.out; omega
      have hE2 : E ≤ 20000 := by have := HA.out; omega
      have HIF : (if b < a then (b : Int) else (a : Int)) = E := by have := HE.out; split <;> omega
      have hHIF := Lib.hid HIF
      clear HIF
      by_cases hlt : t < E
      · obtain ⟨u, hu⟩ : ∃ u, t - p = u := ⟨_, rfl⟩
        obtain ⟨v, hv⟩ : ∃ v, t - q = v := ⟨_, rfl⟩
        have ht2 := ht.out
        have ha2 := HA.out
        have hb2 := HB.out
        have WU : IntKind.i64.wrap ((t : Int) - p) = (u : Int) := by rw [show (t : Int) - p = (u : Int) by omega]; exact IntWalk.i64_in _ (by omega)
        have WV : IntKind.i64.wrap ((t : Int) - q) = (v : Int) := by rw [show (t : Int) - q = (v : Int) by omega]; exact IntWalk.i64_in _ (by omega)
        have hus : u < s.size := by omega
        have hvs : v < s'.size := by omega
        have husi : (u : Int) < s.size := by omega
        have hvsi : (v : Int) < s'.size := by omega
        have hu0 : (0 : Int) ≤ u := by omega
        have hv0 : (0 : Int) ≤ v := by omega
        have hta : t < a := by omega
        have htb : t < b := by omega
        have htai : (t : Int) < a := by omega
        have htbi : (t : Int) < b := by omega
        have HFK : Hid (f k = (s[u] == s'[v])) := Lib.hid (by rw [HF.out]; dsimp only; rw [← byt_at hus, ← byt_at hvs]; congr 2 <;> omega)
        have hkE : k < E - M := by omega
        clear hu hv ht2 ha2 hb2 hmn
        by_cases hc : s[u] = s'[v]
        · have HT : Hid (f k = true) := Lib.hid (by rw [HFK.out, hc]; simp)
          have hcn : ((s[u].toNat : Int) != (s'[v].toNat : Int)) = false := by rw [hc]; simp
          clear hc
          by_cases hba : b < a
          · have hif := hHIF.out
            rw [if_pos hba] at hif
            have hlti : (t : Int) < E := by omega
            obtain rfl : b = E := by omega
            clear hif
            go_upto_region 4 with fail
            go_quiet (fail)
            go_wp2_with fail
            go_roundw
            case rel =>
             refine ⟨k + 1, t + 1, Lib.hid (by have := ht.out; omega), by omega, by go_num, fun i hi => ?_, below_drewN HBy.out _⟩
             rcases Nat.lt_or_eq_of_le (Nat.le_of_lt_succ hi) with d | d
             · exact HALL.out i d
             · rw [d]; exact HT.out
            case measure => simp [intOf]; omega
          · have hif := hHIF.out
            rw [if_neg hba] at hif
            have hlti : (t : Int) < E := by omega
            obtain rfl : a = E := by omega
            clear hif
            go_upto_region 4 with fail
            go_quiet (fail)
            go_wp2_with fail
            go_roundw
            case rel =>
             refine ⟨k + 1, t + 1, Lib.hid (by have := ht.out; omega), by omega, by go_num, fun i hi => ?_, below_drewN HBy.out _⟩
             rcases Nat.lt_or_eq_of_le (Nat.le_of_lt_succ hi) with d | d
             · exact HALL.out i d
             · rw [d]; exact HT.out
            case measure => simp [intOf]; omega
        · have HT : Hid ((List.range (E - M)).all f = false) := Lib.hid (by
            rw [Bool.eq_false_iff]
            intro hh
            have := List.all_eq_true.1 hh k (List.mem_range.2 hkE)
            rw [HFK.out] at this
            exact hc (eq_of_beq this))
          have hcn : ((s[u].toNat : Int) != (s'[v].toNat : Int)) = true := by
            rw [bne_iff_ne]
            intro e
            exact hc (UInt8.toNat_inj.1 (by omega))
          clear hc
          by_cases hba : b < a
          · have hif := hHIF.out
            rw [if_pos hba] at hif
            have hlti : (t : Int) < E := by omega
            obtain rfl : b = E := by omega
            clear hif
            go_upto_region 4 with fail
            go_quiet (fail)
            go_wp2_with fail
            go_ret
            exact ⟨by rw [HT.out]; rfl, bnext HB0.out (below_drewN HBy.out _)⟩
          · have hif := hHIF.out
            rw [if_neg hba] at hif
            have hlti : (t : Int) < E := by omega
            obtain rfl : a = E := by omega
            clear hif
            go_upto_region 4 with fail
            go_quiet (fail)
            go_wp2_with fail
            go_ret
            exact ⟨by rw [HT.out]; rfl, bnext HB0.out (below_drewN HBy.out _)⟩
      · have HT : Hid ((List.range (E - M)).all f = true) := Lib.hid (List.all_eq_true.2 fun i hi => HALL.out i (by have := List.mem_range.1 hi; have := ht.out; omega))
        have hge : a ≤ t ∨ b ≤ t := by have := HE.out; omega
        clear hge
        by_cases hba : b < a
        · have hif := hHIF.out
          rw [if_pos hba] at hif
          have hlti : ¬ (t : Int) < E := by omega
          obtain rfl : b = E := by omega
          clear hif
          go_wp2_with fail
          go_ret
          exact ⟨by rw [HT.out]; rfl, bnext HB0.out HBy.out⟩
        · have hif := hHIF.out
          rw [if_neg hba] at hif
          have hlti : ¬ (t : Int) < E := by omega
          obtain rfl : a = E := by omega
          clear hif
          go_wp2_with fail
          go_ret
          exact ⟨by rw [HT.out]; rfl, bnext HB0.out HBy.out⟩
end Go.Proofs.Ytcifngefclgefaa
