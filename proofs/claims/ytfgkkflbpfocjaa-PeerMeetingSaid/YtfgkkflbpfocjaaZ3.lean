/- Contracts: the reference's check of a receiver's ledger. Contracts: what is reserved, the state of a range (the reference). The plain laws of a ledger: what stays valid, what is usable, how the floor moves; no program in sight. Contracts: the reference's check of a slot. Contracts: the reference's check, copy, usable bytes and floor. Contracts: peers checked, what is held back. Contracts: peers checked, what is held back. Contracts: limits, IDs, bundles. -/
import Derived.Test.YtfgkkflbpfocjaaZ2
import Derived.Test.YtfgkkflbpfocjaaZ1
import Derived.Laws.Externs
import Derived.Laws.StructEq
namespace Go.Proofs.Ytfgkkflbpfocjaa
open Go.RowKit
set_option linter.unusedVariables false
set_option linter.unusedSimpArgs false

set_option maxRecDepth 100000 in
set_option maxHeartbeats 2000000 in
theorem inside_any (l : List Rg) (n : Int) (v : Value) (w : World) (hS : RgsAt w v l) :
    Calls Try.prog 106 #[v, .int .u64 n] w (RetB (inR l n) w) := by
  obtain ⟨A, c, rfl, h1, h2, hR⟩ := hS
  unfold maxLen at h2
  have HR := Lib.hid hR
  obtain ⟨ib, hib⟩ : ∃ ib, inR l n = ib := ⟨_, rfl⟩
  have IB := Lib.hid hib
  rw [hib]
  clear hR hib
  go_enter Try.func106, Try.ntmps106
  go_wp2_with fail
  go_loopw [5] (fun a wr => ∃ k : Nat, k ≤ l.length ∧ a = .int .i64 k ∧ (∀ j x, j < k → l[j]? = some x → x.inB n = false) ∧ Below w.heap.size w wr) (fun a _ => l.length - (intOf a).toNat)
  case atStart => exact ⟨0, by omega, rfl, fun j x hj => by omega, Below.refl _ _⟩
  case round =>
    obtain ⟨k, hk, rfl, hf, hB⟩ := hrel
    obtain ⟨wy, rfl⟩ : ∃ wy : World, wy = wr := ⟨_, rfl⟩
    have HF := Lib.hid hf
    have HB := Lib.hid hB
    clear hf hB
    by_cases hlt : k < l.length
    · obtain ⟨x, hx⟩ : ∃ x, l[k]? = some x := ⟨_, List.getElem?_eq_getElem hlt⟩
      obtain ⟨b, o, rfl, hb, p0, p1⟩ := reads_rg HR.out rfl hx
      have d0 := (HB.out.cell (p := ⟨b, o + k * 2, none⟩) hb).trans p0
      have d1 := (HB.out.cell (p := ⟨b, o + k * 2 + 1, none⟩) hb).trans p1
      have hki : (k : Int) < l.length := by omega
      have hk0 : (0 : Int) ≤ k := by omega
      have HX := Lib.hid hx
      clear hx p0 p1
      have MIS := Lib.hid (fun (h : x.inB n = false) => (fun j y hj hy => by
        rcases Nat.lt_or_eq_of_le (Nat.le_of_lt_succ hj) with d | d
        · exact HF.out j y d hy
        · have := HX.out
          rw [d] at hy
          rw [hy] at this
          cases this
          exact h : ∀ j y, j < k + 1 → l[j]? = some y → y.inB n = false))
      by_cases c1 : x.f ≤ n
      · by_cases c2 : n < x.t
        · have R : Hid (ib = true) := Lib.hid (by rw [← IB.out]; exact inR_hit HX.out (by simp [Rg.inB, c1, c2]))
          go_wp2_with fail
          go_ret
          exact ⟨by rw [R.out]; rfl, HB.out⟩
        · have M := Lib.hid (MIS.out (by simp [Rg.inB, c2]))
          go_wp2_with fail
          go_roundw
          case rel => exact ⟨k + 1, by omega, by go_num, M.out, HB.out⟩
          case measure => simp [intOf]; omega
      · have M := Lib.hid (MIS.out (by simp [Rg.inB, c1]))
        go_wp2_with fail
        go_roundw
        case rel => exact ⟨k + 1, by omega, by go_num, M.out, HB.out⟩
        case measure => simp [intOf]; omega
    · obtain rfl : k = l.length := by omega
      have R : Hid (ib = false) := Lib.hid (by rw [← IB.out]; exact inR_miss fun j x hj hx => HF.out j x hj hx)
      go_wp2_with fail
      go_ret
      exact ⟨by rw [R.out]; rfl, HB.out⟩

set_option maxRecDepth 100000 in
set_option maxHeartbeats 8000000 in
theorem rvCheck_any (z : Rec) (hw : WfR z) (vt vk : Value) (w : World) (ht : RgsAt w vt z.tk) (hk : KpsAt w vk z.kp) :
    Calls Try.prog 64 #[.agg #[.int .u64 z.g, .int .u64 z.r, .int .u64 z.fl, vt, vk]] w (Ret2 .i64 .i64 (chkR z).1 ((chkR z).2 : Int) w) := by
  obtain ⟨a, b, f, T, K⟩ := z
  obtain ⟨⟨ha0, ha1⟩, ⟨hb0, hb1⟩, ⟨hf0, hf1⟩, _, _⟩ := hw
  dsimp only at *
  obtain ⟨A, ca, rfl, _, hca, hRt⟩ := id ht
  obtain ⟨C, cc, rfl, _, hcc, hRk⟩ := id hk
  unfold maxLen at hca hcc
  have HT := Lib.hid ht
  have HK := Lib.hid hk
  have HRt := Lib.hid hRt
  have HRk := Lib.hid hRk
  obtain ⟨ch, hch⟩ : ∃ ch, chkR ⟨a, b, f, T, K⟩ = ch := ⟨_, rfl⟩
  have CH : Hid (ch = if 1125899906842624 < a then (2, 0) else if a < b ∨ a - b < f then (14, 0) else if 1000 < T.length ∨ 1000 < K.length then (5, 0) else if (fstE (tErr ⟨a, b, f, T, K⟩) T.length 0).1 ≠ 0 then fstE (tErr ⟨a, b, f, T, K⟩) T.length 0 else fstE (kErr ⟨a, b, f, T, K⟩) K.length 0) := Lib.hid (by rw [← hch]; rfl)
  rw [hch]
  clear ht hk hRt hRk hch
  by_cases h1 : 1125899906842624 < a
  · have R := Lib.hid (CH.out.trans (if_pos h1))
    go_enter Try.func64, Try.ntmps64
    go_wp2_with fail
    go_ret2
    exact ⟨by rw [R.out]; rfl, (by repeat (first | with_reducible exact Below.refl _ _ | with_reducible refine Below.drew ?_ | with_reducible refine below_drewN ?_ _ | with_reducible refine bal ?_ _ | with_reducible refine bset ?_ (by first | (simp; done) | (simp; omega)) _ | with_reducible refine bnext ?_ (by assumption) | with_reducible assumption))⟩
  have h1i : ¬ a > 1125899906842624 := by omega
  have CH1 := Lib.hid (CH.out.trans (if_neg h1))
  clear CH h1
  by_cases h2 : a < b
  · have R := Lib.hid (CH1.out.trans (if_pos (.inl h2)))
    go_enter Try.func64, Try.ntmps64
    go_wp2_with fail
    go_ret2
    exact ⟨by rw [R.out]; rfl, (by repeat (first | with_reducible exact Below.refl _ _ | with_reducible refine Below.drew ?_ | with_reducible refine below_drewN ?_ _ | with_reducible refine bal ?_ _ | with_reducible refine bset ?_ (by first | (simp; done) | (simp; omega)) _ | with_reducible refine bnext ?_ (by assumption) | with_reducible assumption))⟩
  have h2i : b ≤ a := by omega
  obtain ⟨rm, hrm⟩ : ∃ rm, a - b = rm := ⟨_, rfl⟩
  rw [hrm] at CH1
  have hrm0 : 0 ≤ rm ∧ rm ≤ 1125899906842624 := by omega
  have WR : IntKind.u64.wrap (a - b) = rm := by rw [hrm]; exact IntWalk.u64_in _ (by omega)
  have HRM := Lib.hid hrm
  have N2 := Lib.hid h2
  clear h2 hrm
  by_cases h3 : f > rm
  · have R : Hid (ch = (14, 0)) := Lib.hid (CH1.out.trans (if_pos (.inr h3)))
    go_enter Try.func64, Try.ntmps64
    go_wp2_with fail
    go_ret2
    exact ⟨by rw [R.out]; rfl, (by repeat (first | with_reducible exact Below.refl _ _ | with_reducible refine Below.drew ?_ | with_reducible refine below_drewN ?_ _ | with_reducible refine bal ?_ _ | with_reducible refine bset ?_ (by first | (simp; done) | (simp; omega)) _ | with_reducible refine bnext ?_ (by assumption) | with_reducible assumption))⟩
  have CH2 := Lib.hid (CH1.out.trans (if_neg (fun c => c.elim N2.out (fun d => h3 d))))
  clear CH1
  by_cases h4 : 1000 < T.length
  · have R : Hid (ch = (5, 0)) := Lib.hid (CH2.out.trans (if_pos (.inl h4)))
    have h4i : (T.length : Int) > 1000 := by omega
    go_enter Try.func64, Try.ntmps64
    go_wp2_with fail
    go_ret2
    exact ⟨by rw [R.out]; rfl, (by repeat (first | with_reducible exact Below.refl _ _ | with_reducible refine Below.drew ?_ | with_reducible refine below_drewN ?_ _ | with_reducible refine bal ?_ _ | with_reducible refine bset ?_ (by first | (simp; done) | (simp; omega)) _ | with_reducible refine bnext ?_ (by assumption) | with_reducible assumption))⟩
  have h4i : ¬ (T.length : Int) > 1000 := by omega
  by_cases h5 : 1000 < K.length
  · have R : Hid (ch = (5, 0)) := Lib.hid (CH2.out.trans (if_pos (.inr h5)))
    have h5i : (K.length : Int) > 1000 := by omega
    go_enter Try.func64, Try.ntmps64
    go_wp2_with fail
    go_ret2
    exact ⟨by rw [R.out]; rfl, (by repeat (first | with_reducible exact Below.refl _ _ | with_reducible refine Below.drew ?_ | with_reducible refine below_drewN ?_ _ | with_reducible refine bal ?_ _ | with_reducible refine bset ?_ (by first | (simp; done) | (simp; omega)) _ | with_reducible refine bnext ?_ (by assumption) | with_reducible assumption))⟩
  have h5i : ¬ (K.length : Int) > 1000 := by omega
  have CH3 := Lib.hid (CH2.out.trans (if_neg (fun c => c.elim h4 h5)))
  clear CH2
  have htl : T.length ≤ 1000 := by omega
  have hkl : K.length ≤ 1000 := by omega
  clear h4 h5
  go_enter Try.func64, Try.ntmps64
  go_wp2_with fail
  have kb0 : BK w w.heap.size 29 #[.int .u64 a, .int .u64 b, .int .u64 f, .slice A T.length ca, .slice C K.length cc] (w.alloc (.cells #[.int .u64 a, .int .u64 b, .int .u64 f, .slice A T.length ca, .slice C K.length cc] 29)) := ⟨Blk.new _ _ _, bal (Below.refl _ _) _⟩
  obtain ⟨g0, hg0⟩ : ∃ g0, w.heap.size = g0 := ⟨_, rfl⟩
  have HG0 := Lib.hid hg0
  rw [hg0] at kb0 ⊢
  clear hg0
  generalize w.alloc (.cells #[.int .u64 a, .int .u64 b, .int .u64 f, .slice A T.length ca, .slice C K.length cc] 29) = w1 at kb0 ⊢
  have K1 := Lib.hid kb0
  clear kb0
  go_loopw [4] (fun s wr => ∃ k : Nat, k ≤ T.length ∧ s = .int .i64 k ∧ fstE (tErr ⟨a, b, f, T, K⟩) T.length 0 = fstE (tErr ⟨a, b, f, T, K⟩) (T.length - k) k ∧ BK w g0 29 #[.int .u64 a, .int .u64 b, .int .u64 f, .slice A T.length ca, .slice C K.length cc] wr) (fun s _ => T.length - (intOf s).toNat)
  case atStart => exact ⟨0, by omega, rfl, rfl, K1.out⟩
  case round =>
    obtain ⟨k, hk, rfl, hM, kb⟩ := hrel
    obtain ⟨wy, rfl⟩ : ∃ wy : World, wy = wr := ⟨_, rfl⟩
    have HM := Lib.hid hM
    have KB := Lib.hid kb
    clear hM K1
    obtain ⟨x0, x1, x2, x3, x4⟩ := kb.b.c5
    have hgy := kb.b.lt
    clear kb
    by_cases hlt : k < T.length
    · obtain ⟨bt, ot, rfl, hbt, p0, p1⟩ := reads_rg HRt.out rfl (rgAt_get hlt)
      have d0 := (KB.out.hB.cell (p := ⟨bt, ot + k * 2, none⟩) hbt).trans p0
      have d1 := (KB.out.hB.cell (p := ⟨bt, ot + k * 2 + 1, none⟩) hbt).trans p1
      clear p0 p1
      have HER : Hid (tErr ⟨a, b, f, T, K⟩ k = if (rgAt T k).t ≤ (rgAt T k).f ∨ (rgAt T k).f < f ∨ (0 < k ∧ (rgAt T k).f ≤ (rgAt T (k - 1)).t) then 19 else if rm < (rgAt T k).t then 14 else 0) := Lib.hid (by rw [← HRM.out]; rfl)
      have HIT := Lib.hid (fun e (h : tErr ⟨a, b, f, T, K⟩ k = e) (he : e ≠ 0) => (by rw [CH3.out, HM.out, fstE_hit hlt (by rw [h]; exact he), h, if_pos he] : ch = (e, k)))
      have MIS := Lib.hid (fun (h : tErr ⟨a, b, f, T, K⟩ k = 0) => HM.out.trans (fstE_miss hlt h))
      have hki : (k : Int) < T.length := by omega
      have hk0 : (0 : Int) ≤ k := by omega
      obtain ⟨x, hx⟩ : ∃ x, rgAt T k = x := ⟨_, rfl⟩
      rw [hx] at d0 d1 HER
      clear hx
      go_upto_region 11 with fail
      have kc2 : BK2 w g0 29 #[.int .u64 a, .int .u64 b, .int .u64 f, .slice (some ⟨bt, ot, none⟩) T.length ca, .slice C K.length cc] wy.heap.size 74 #[.int .u64 x.f, .int .u64 x.t] (wy.alloc (.cells #[.int .u64 x.f, .int .u64 x.t] 74)) := ⟨KB.out.b.alloc _, Blk.new _ _ _, bal KB.out.hB _⟩
      have dprev : ∀ j, j < T.length → ∀ y, rgAt T j = y → (wy.alloc (.cells #[.int .u64 x.f, .int .u64 x.t] 74)).cell? ⟨bt, ot + j * 2 + 1, none⟩ = some (.int .u64 y.t) := fun j hj y hy => by
        obtain ⟨b2, o2, e2, _, p0, p1⟩ := reads_rg HRt.out rfl (rgAt_get hj)
        cases e2
        rw [hy] at p1
        exact ((bal KB.out.hB (.cells #[.int .u64 x.f, .int .u64 x.t] 74)).cell (p := ⟨bt, ot + j * 2 + 1, none⟩) hbt).trans p1
      obtain ⟨gx, hgx⟩ : ∃ gx, wy.heap.size = gx := ⟨_, rfl⟩
      rw [hgx] at kc2 ⊢
      have hgxn : ¬ g0 = gx := by omega
      clear d0 d1 x0 x1 x2 x3 x4
      generalize wy.alloc (.cells #[.int .u64 x.f, .int .u64 x.t] 74) = wz at kc2 dprev ⊢
      obtain ⟨x0, x1, x2, x3, x4⟩ := kc2.b.c5
      obtain ⟨y0, y1⟩ := kc2.c.c2
      have KC := Lib.hid kc2
      clear kc2 hgx KB
      by_cases c1 : x.f ≥ x.t
      · have R := Lib.hid (HIT.out 19 (HER.out.trans (if_pos (.inl c1))) (by decide))
        clear dprev
        go_quiet (fail)
        go_wp2_with fail
        go_ret2
        exact ⟨by rw [R.out]; rfl, below_drewN KC.out.hB _⟩
      by_cases c2 : x.f < f
      · have R := Lib.hid (HIT.out 19 (HER.out.trans (if_pos (.inr (.inl c2)))) (by decide))
        clear dprev
        go_quiet (fail)
        go_wp2_with fail
        go_ret2
        exact ⟨by rw [R.out]; rfl, below_drewN KC.out.hB _⟩
      by_cases c0 : k = 0
      · have NER := Lib.hid (HER.out.trans (if_neg (fun c => c.elim (fun d => c1 d) (fun d => d.elim c2 (fun g => by omega)))))
        subst c0
        clear dprev
        go_quiet (fail)
        by_cases c5 : x.t > rm
        · have R := Lib.hid (HIT.out 14 (NER.out.trans (if_pos c5)) (by decide))
          go_wp2_with fail
          go_ret2
          exact ⟨by rw [R.out]; rfl, below_drewN KC.out.hB _⟩
        · have M2 := Lib.hid (MIS.out (NER.out.trans (if_neg c5)))
          go_wp2_with fail
          go_roundw
          case rel => exact ⟨0 + 1, by omega, by go_num, M2.out, ⟨KC.out.b.drewN _, below_drewN KC.out.hB _⟩⟩
          case measure => simp [intOf]; omega
      · obtain ⟨m, rfl⟩ : ∃ m, k = m + 1 := ⟨k - 1, by omega⟩
        have q1 := dprev m (by omega) _ rfl
        obtain ⟨y, hy⟩ : ∃ y, rgAt T m = y := ⟨_, rfl⟩
        rw [Nat.add_sub_cancel, hy] at HER
        rw [hy] at q1
        have hm1 : ((m + 1 : Nat) : Int) > 0 := by omega
        have WM : IntKind.i64.wrap (((m + 1 : Nat) : Int) - 1) = (m : Int) := by rw [show ((m + 1 : Nat) : Int) - 1 = m by omega]; exact IntWalk.i64_in _ (by omega)
        have hmi : (m : Int) < T.length := by omega
        have hm0 : (0 : Int) ≤ m := by omega
        clear hy dprev
        by_cases c3 : x.f ≤ y.t
        · have R := Lib.hid (HIT.out 19 (HER.out.trans (if_pos (.inr (.inr ⟨by omega, c3⟩)))) (by decide))
          go_quiet (fail)
          go_wp2_with fail
          go_ret2
          exact ⟨by rw [R.out]; rfl, below_drewN KC.out.hB _⟩
        · have NER := Lib.hid (HER.out.trans (if_neg (fun c => c.elim (fun d => c1 d) (fun d => d.elim c2 (fun g => c3 g.2)))))
          go_quiet (fail)
          clear q1
          by_cases c5 : x.t > rm
          · have R := Lib.hid (HIT.out 14 (NER.out.trans (if_pos c5)) (by decide))
            go_wp2_with fail
            go_ret2
            exact ⟨by rw [R.out]; rfl, below_drewN KC.out.hB _⟩
          · have M2 := Lib.hid (MIS.out (NER.out.trans (if_neg c5)))
            go_wp2_with fail
            go_roundw
            case rel => exact ⟨(m + 1) + 1, by omega, by go_num, M2.out, ⟨KC.out.b.drewN _, below_drewN KC.out.hB _⟩⟩
            case measure => simp [intOf]; omega
    · obtain rfl : k = T.length := by omega
      have CH4 : Hid (ch = fstE (kErr ⟨a, b, f, T, K⟩) K.length 0) := Lib.hid (by rw [CH3.out, HM.out, fstE_end, if_neg (by decide)])
      clear HM
      go_wp2_with fail
      clear x0 x1 x2 x3 x4
      go_loopw [6] (fun s wr => ∃ k : Nat, k ≤ K.length ∧ s = .int .i64 k ∧ fstE (kErr ⟨a, b, f, T, K⟩) K.length 0 = fstE (kErr ⟨a, b, f, T, K⟩) (K.length - k) k ∧ BK w g0 29 #[.int .u64 a, .int .u64 b, .int .u64 f, .slice A T.length ca, .slice C K.length cc] wr) (fun s _ => K.length - (intOf s).toNat)
      case atStart => exact ⟨0, by omega, rfl, rfl, KB.out⟩
      case round =>
        obtain ⟨k, hk, rfl, hM, kb⟩ := hrel
        obtain ⟨wk, rfl⟩ : ∃ wk : World, wk = wr := ⟨_, rfl⟩
        have HM := Lib.hid hM
        have KK := Lib.hid kb
        clear hM KB
        obtain ⟨x0, x1, x2, x3, x4⟩ := kb.b.c5
        have hgy := kb.b.lt
        clear kb
        by_cases hlt : k < K.length
        · obtain ⟨bk, ok, rfl, hbk, p0⟩ := reads_kp HRk.out rfl (kpAt_get hlt)
          have d0 := (KK.out.hB.cell (p := ⟨bk, ok + k, none⟩) hbk).trans p0
          have HER : Hid (kErr ⟨a, b, f, T, K⟩ k = if 0 < k ∧ kpAt K k ≤ kpAt K (k - 1) then 19 else if inR T (kpAt K k) = false then 12 else 0) := Lib.hid rfl
          have HIT := Lib.hid (fun e (h : kErr ⟨a, b, f, T, K⟩ k = e) (he : e ≠ 0) => (by rw [CH4.out, HM.out, fstE_hit hlt (by rw [h]; exact he), h] : ch = (e, k)))
          have MIS := Lib.hid (fun (h : kErr ⟨a, b, f, T, K⟩ k = 0) => HM.out.trans (fstE_miss hlt h))
          have hki : (k : Int) < K.length := by omega
          have hk0 : (0 : Int) ≤ k := by omega
          have CN : Hid (∀ wv, BK w g0 29 #[.int .u64 a, .int .u64 b, .int .u64 f, .slice A T.length ca, .slice (some ⟨bk, ok, none⟩) K.length cc] wv → Calls Try.prog 106 #[.slice A T.length ca, .int .u64 (kpAt K k)] wv (RetB (inR T (kpAt K k)) wv)) := Lib.hid (fun wv hv => inside_any T (kpAt K k) _ wv (RgsAt.below HT.out hv.hB))
          have dprev : ∀ j, j < K.length → ∀ y, kpAt K j = y → wk.cell? ⟨bk, ok + j, none⟩ = some (.int .u64 y) := fun j hj y hy => by
            obtain ⟨b2, o2, e2, _, p1⟩ := reads_kp HRk.out rfl (kpAt_get hj)
            cases e2
            rw [hy] at p1
            exact (KK.out.hB.cell (p := ⟨bk, ok + j, none⟩) hbk).trans p1
          obtain ⟨x, hx⟩ : ∃ x, kpAt K k = x := ⟨_, rfl⟩
          have HDX : Hid (∀ wv, BK w g0 29 #[.int .u64 a, .int .u64 b, .int .u64 f, .slice A T.length ca, .slice (some ⟨bk, ok, none⟩) K.length cc] wv → wv.cell? ⟨bk, ok + k, none⟩ = some (.int .u64 x)) := Lib.hid (fun wv hv => by rw [← hx]; exact (hv.hB.cell (p := ⟨bk, ok + k, none⟩) hbk).trans p0)
          rw [hx] at d0 HER CN
          clear hx p0
          obtain ⟨ib, hib⟩ : ∃ ib, inR T x = ib := ⟨_, rfl⟩
          rw [hib] at HER CN
          clear hib
          by_cases c0 : k = 0
          · subst c0
            simp only [Nat.add_zero] at d0 HDX
            clear dprev
            go_upto_region 18 with fail
            go_quiet (fail)
            go_upto_region 20 with fail
            have kq : BK w g0 29 #[.int .u64 a, .int .u64 b, .int .u64 f, .slice A T.length ca, .slice (some ⟨bk, ok, none⟩) K.length cc] (wk.drewN nq) := ⟨KK.out.b.drewN _, below_drewN KK.out.hB _⟩
            generalize wk.drewN nq = wq at kq ⊢
            have KQ := Lib.hid kq
            clear kq KK x0 x1 x2 x3 x4 d0 
            obtain ⟨x0, x1, x2, x3, x4⟩ := KQ.out.b.c5
            have d0 := HDX.out _ KQ.out
            cases ib with
            | false =>
              have R := Lib.hid (HIT.out 12 (by rw [HER.out, if_neg (fun c => absurd c.1 (by omega))]; rfl) (by decide))
              go_region_with (go_at_call 106; refine (CN.out _ (by (repeat (first | with_reducible exact KQ.out | with_reducible refine BK.drew ?_)))).mono ?_; rintro e wn ⟨rfl, hbn⟩; have K' : BK w g0 29 #[.int .u64 a, .int .u64 b, .int .u64 f, .slice A T.length ca, .slice (some ⟨bk, ok, none⟩) K.length cc] wn := (by refine BK.below ?_ hbn; (repeat (first | with_reducible exact KQ.out | with_reducible refine BK.drew ?_))); have KN := Lib.hid K'; clear K' hbn)
              all_goals
                go_wp2_with fail
                go_ret2
                exact ⟨by rw [R.out]; rfl, KN.out.hB⟩
            | true =>
              have M2 := Lib.hid (MIS.out (by rw [HER.out, if_neg (fun c => absurd c.1 (by omega))]; rfl))
              go_region_with (go_at_call 106; refine (CN.out _ (by (repeat (first | with_reducible exact KQ.out | with_reducible refine BK.drew ?_)))).mono ?_; rintro e wn ⟨rfl, hbn⟩; have K' : BK w g0 29 #[.int .u64 a, .int .u64 b, .int .u64 f, .slice A T.length ca, .slice (some ⟨bk, ok, none⟩) K.length cc] wn := (by refine BK.below ?_ hbn; (repeat (first | with_reducible exact KQ.out | with_reducible refine BK.drew ?_))); have KN := Lib.hid K'; clear K' hbn)
              all_goals
                go_wp2_with fail
                go_roundw
                case rel => exact ⟨0 + 1, by omega, by go_num, M2.out, KN.out⟩
                case measure => simp [intOf]; omega
          · obtain ⟨m, rfl⟩ : ∃ m, k = m + 1 := ⟨k - 1, by omega⟩
            have q1 := dprev m (by omega) _ rfl
            obtain ⟨y, hy⟩ : ∃ y, kpAt K m = y := ⟨_, rfl⟩
            have HER2 : Hid (kErr ⟨a, b, f, T, K⟩ (m + 1) = if x ≤ y then 19 else if ib = false then 12 else 0) := Lib.hid (by
              rw [HER.out, Nat.add_sub_cancel, hy]
              by_cases c : x ≤ y
              · rw [if_pos c, if_pos ⟨by omega, c⟩]
              · rw [if_neg c, if_neg (fun h => c h.2)])
            rw [hy] at q1
            have hm1 : ((m + 1 : Nat) : Int) > 0 := by omega
            have WM : IntKind.i64.wrap (((m + 1 : Nat) : Int) - 1) = (m : Int) := by rw [show ((m + 1 : Nat) : Int) - 1 = m by omega]; exact IntWalk.i64_in _ (by omega)
            have hmi : (m : Int) < K.length := by omega
            have hm0 : (0 : Int) ≤ m := by omega
            clear hy dprev HER
            by_cases c3 : x ≤ y
            · have R := Lib.hid (HIT.out 19 (HER2.out.trans (if_pos c3)) (by decide))
              go_upto_region 18 with fail
              go_quiet (fail)
              go_wp2_with fail
              go_ret2
              exact ⟨by rw [R.out]; rfl, below_drewN KK.out.hB _⟩
            · have HER3 := Lib.hid (HER2.out.trans (if_neg c3))
              clear HER2
              go_upto_region 18 with fail
              go_quiet (fail)
              go_upto_region 20 with fail
              have kq : BK w g0 29 #[.int .u64 a, .int .u64 b, .int .u64 f, .slice A T.length ca, .slice (some ⟨bk, ok, none⟩) K.length cc] (wk.drewN nq) := ⟨KK.out.b.drewN _, below_drewN KK.out.hB _⟩
              generalize wk.drewN nq = wq at kq ⊢
              have KQ := Lib.hid kq
              clear kq KK x0 x1 x2 x3 x4 d0 q1
              obtain ⟨x0, x1, x2, x3, x4⟩ := KQ.out.b.c5
              have d0 := HDX.out _ KQ.out
              cases ib with
              | false =>
                have R := Lib.hid (HIT.out 12 (by rw [HER3.out]; rfl) (by decide))
                go_region_with (go_at_call 106; refine (CN.out _ (by (repeat (first | with_reducible exact KQ.out | with_reducible refine BK.drew ?_)))).mono ?_; rintro e wn ⟨rfl, hbn⟩; have K' : BK w g0 29 #[.int .u64 a, .int .u64 b, .int .u64 f, .slice A T.length ca, .slice (some ⟨bk, ok, none⟩) K.length cc] wn := (by refine BK.below ?_ hbn; (repeat (first | with_reducible exact KQ.out | with_reducible refine BK.drew ?_))); have KN := Lib.hid K'; clear K' hbn)
                all_goals
                  go_wp2_with fail
                  go_ret2
                  exact ⟨by rw [R.out]; rfl, KN.out.hB⟩
              | true =>
                have M2 := Lib.hid (MIS.out (by rw [HER3.out]; rfl))
                go_region_with (go_at_call 106; refine (CN.out _ (by (repeat (first | with_reducible exact KQ.out | with_reducible refine BK.drew ?_)))).mono ?_; rintro e wn ⟨rfl, hbn⟩; have K' : BK w g0 29 #[.int .u64 a, .int .u64 b, .int .u64 f, .slice A T.length ca, .slice (some ⟨bk, ok, none⟩) K.length cc] wn := (by refine BK.below ?_ hbn; (repeat (first | with_reducible exact KQ.out | with_reducible refine BK.drew ?_))); have KN := Lib.hid K'; clear K' hbn)
                all_goals
                  go_wp2_with fail
                  go_roundw
                  case rel => exact ⟨(m + 1) + 1, by omega, by go_num, M2.out, KN.out⟩
                  case measure => simp [intOf]; omega
        · obtain rfl : k = K.length := by omega
          have R : Hid (ch = (0, 0)) := Lib.hid (by rw [CH4.out, HM.out, fstE_end])
          go_wp2_with fail
          go_ret2
          exact ⟨by rw [R.out]; rfl, KK.out.hB⟩
end Go.Proofs.Ytfgkkflbpfocjaa

namespace Go.Proofs.Ytfgkkflbpfocjaa
open Go.RowKit
set_option linter.unusedVariables false
set_option linter.unusedSimpArgs false

/-- what is left when the first k ranges are taken off -/
def lft (z : Rec) (k : Nat) : Int := z.g - z.r - z.fl - szs z.tk k
theorem lft_b {z : Rec} (hz : OkR z) (h0 : 0 ≤ z.fl) (h1 : 0 ≤ z.r) {k : Nat} (hk : k ≤ z.tk.length) : 0 ≤ lft z k ∧ lft z k ≤ 1125899906842624 := by
  have a := szs_le hz k hk
  have b := endK_le hz hk
  have := hz.g
  unfold lft
  omega

set_option maxRecDepth 100000 in
set_option maxHeartbeats 4000000 in
theorem rreserved_any (z : Rec) (hz : OkR z) (hw : WfR z) (vt vk : Value) (w : World) (ht : RgsAt w vt z.tk) (hk : ∃ A l c, vk = .slice A l c) :
    Calls Try.prog 71 #[.agg #[.int .u64 z.g, .int .u64 z.r, .int .u64 z.fl, vt, vk]] w (RetI .u64 (resv z) w) := by
  have h1 := hz.g
  have h2 := hz.r
  have h3 := hz.fl
  have h4 := hw.r.1
  have h5 := hw.fl.1
  have hn := hz.nt
  have LB : Hid (∀ k, k ≤ z.tk.length → 0 ≤ lft z k ∧ lft z k ≤ 1125899906842624) := Lib.hid (fun k hk => lft_b hz h5 h4 hk)
  have LS : Hid (∀ k, lft z (k + 1) = lft z k - ((rgAt z.tk k).t - (rgAt z.tk k).f)) := Lib.hid (fun k => by unfold lft; rw [szs]; omega)
  have L0 : Hid (lft z 0 = z.g - z.r - z.fl) := Lib.hid (by unfold lft; rw [szs]; omega)
  have LE : Hid (resv z = lft z z.tk.length) := Lib.hid rfl
  have TT : Hid (∀ k, k < z.tk.length → (rgAt z.tk k).f < (rgAt z.tk k).t ∧ 0 ≤ (rgAt z.tk k).f ∧ (rgAt z.tk k).t ≤ 1125899906842624) := Lib.hid (fun k hk => by have := hz.t k hk; omega)
  obtain ⟨A, c, rfl⟩ := ht.form
  obtain ⟨C, l, d, rfl⟩ := hk
  obtain ⟨_, _, e, _, hcc, hRt⟩ := id ht
  cases e
  unfold maxLen at hcc
  have HRt := Lib.hid hRt
  obtain ⟨lf, hlf⟩ : ∃ lf, lft z = lf := ⟨_, rfl⟩
  rw [hlf] at LB LS L0 LE
  obtain ⟨rs, hrs⟩ : ∃ rs, resv z = rs := ⟨_, rfl⟩
  rw [hrs] at LE ⊢
  obtain ⟨a, b, f, T, K⟩ := z
  dsimp only at *
  have W1 : IntKind.u64.wrap (a - b) = a - b := IntWalk.u64_in _ (by omega)
  have W2 : IntKind.u64.wrap (a - b - f) = lf 0 := by rw [L0.out]; exact IntWalk.u64_in _ (by omega)
  clear hz hw ht hRt hlf hrs
  go_enter Try.func71, Try.ntmps71
  go_wp2_with fail
  have kb0 : BK w w.heap.size 29 #[.int .u64 a, .int .u64 b, .int .u64 f, .slice A T.length c, .slice C l d] (w.alloc (.cells #[.int .u64 a, .int .u64 b, .int .u64 f, .slice A T.length c, .slice C l d] 29)) := ⟨Blk.new _ _ _, bal (Below.refl _ _) _⟩
  obtain ⟨g0, hg0⟩ : ∃ g0, w.heap.size = g0 := ⟨_, rfl⟩
  rw [hg0] at kb0 ⊢
  clear hg0
  generalize w.alloc (.cells #[.int .u64 a, .int .u64 b, .int .u64 f, .slice A T.length c, .slice C l d] 29) = w1 at kb0 ⊢
  have K1 := Lib.hid kb0
  clear kb0 W1 W2
  go_loopw [3, 4] (fun s3 s wr => ∃ k : Nat, k ≤ T.length ∧ s = .int .i64 k ∧ s3 = .int .u64 (lf k) ∧ BK w g0 29 #[.int .u64 a, .int .u64 b, .int .u64 f, .slice A T.length c, .slice C l d] wr) (fun _ s _ => T.length - (intOf s).toNat)
  case atStart => exact ⟨0, by omega, rfl, rfl, K1.out⟩
  case round =>
    obtain ⟨k, hk, rfl, rfl, kb⟩ := hrel
    obtain ⟨wy, rfl⟩ : ∃ wy : World, wy = wr := ⟨_, rfl⟩
    have KB := Lib.hid kb
    clear K1
    obtain ⟨x0, x1, x2, x3, x4⟩ := kb.b.c5
    have hgy := kb.b.lt
    clear kb
    by_cases hlt : k < T.length
    · obtain ⟨bt, ot, rfl, hbt, p0, p1⟩ := reads_rg HRt.out rfl (rgAt_get hlt)
      have d0 := (KB.out.hB.cell (p := ⟨bt, ot + k * 2, none⟩) hbt).trans p0
      have d1 := (KB.out.hB.cell (p := ⟨bt, ot + k * 2 + 1, none⟩) hbt).trans p1
      obtain ⟨t1, t2, t3⟩ := TT.out k hlt
      obtain ⟨u1, u2⟩ := LB.out k (by omega)
      obtain ⟨v1, v2⟩ := LB.out (k + 1) (by omega)
      have LK := Lib.hid (LS.out k)
      have hLK := LS.out k
      have hki : (k : Int) < T.length := by omega
      have hk0 : (0 : Int) ≤ k := by omega
      obtain ⟨x, hx⟩ : ∃ x, rgAt T k = x := ⟨_, rfl⟩
      rw [hx] at d0 d1 LK hLK t1 t2 t3
      obtain ⟨c0, hc0⟩ : ∃ c0, lf k = c0 := ⟨_, rfl⟩
      rw [hc0] at LK hLK u1 u2 ⊢
      have W1 : IntKind.u64.wrap (x.t - x.f) = x.t - x.f := IntWalk.u64_in _ (by omega)
      have W2 : IntKind.u64.wrap (c0 - (x.t - x.f)) = c0 - (x.t - x.f) := IntWalk.u64_in _ (by omega)
      clear hx p0 p1 hc0 hLK
      go_upto_region 5 with fail
      go_quiet (fail)
      go_wp2_with fail
      go_roundw
      case rel => exact ⟨k + 1, by omega, by go_num, by rw [LK.out], KB.out.b.drewN _, below_drewN KB.out.hB _⟩
      case measure => simp [intOf]; omega
    · obtain rfl : k = T.length := by omega
      go_wp2_with fail
      go_ret
      exact ⟨ret_int LE.out.symm, KB.out.hB⟩

set_option maxRecDepth 100000 in
set_option maxHeartbeats 4000000 in
theorem rReserved_any (z : Rec) (hw : WfR z) (vt vk : Value) (w : World) (ht : RgsAt w vt z.tk) (hkp : KpsAt w vk z.kp) :
    Calls Try.prog 29 #[.agg #[.int .u64 z.g, .int .u64 z.r, .int .u64 z.fl, vt, vk]] w (Ret2 .u64 .i64 (resv (opnR z)) (chkR z).1 w) := by
  have HC := Lib.hid (fun vt vk w h1 h2 => rvCheck_any z hw vt vk w h1 h2)
  have RS : Hid ((chkR z).1 = 0 → ∀ vt vk w, RgsAt w vt z.tk → (∃ A l c, vk = .slice A l c) → Calls Try.prog 71 #[.agg #[.int .u64 z.g, .int .u64 z.r, .int .u64 z.fl, vt, vk]] w (RetI .u64 (resv (opnR z)) w)) := Lib.hid (fun h vt vk w h1 h2 => by
    have e : opnR z = z := if_pos h
    rw [e]
    exact rreserved_any z (okR_of h) hw vt vk w h1 h2)
  have RZ : Hid ((chkR z).1 ≠ 0 → resv (opnR z) = 0) := Lib.hid (fun h => by
    have e : opnR z = zRec := if_neg h
    rw [e]; rfl)
  obtain ⟨rv, hrv⟩ : ∃ rv, resv (opnR z) = rv := ⟨_, rfl⟩
  rw [hrv] at RS RZ ⊢
  obtain ⟨e1, he1⟩ : ∃ e1 : Int, (chkR z).1 = e1 := ⟨_, rfl⟩
  obtain ⟨e2, he2⟩ : ∃ e2 : Int, (((chkR z).2 : Nat) : Int) = e2 := ⟨_, rfl⟩
  have HC2 : Hid (∀ vt vk w, RgsAt w vt z.tk → KpsAt w vk z.kp → Calls Try.prog 64 #[.agg #[.int .u64 z.g, .int .u64 z.r, .int .u64 z.fl, vt, vk]] w (Ret2 .i64 .i64 e1 e2 w)) := Lib.hid (fun vt vk w h1 h2 => by have := HC.out vt vk w h1 h2; rw [he1, he2] at this; exact this)
  rw [he1] at RS RZ ⊢
  obtain ⟨A, c, rfl⟩ := ht.form
  obtain ⟨C, d, rfl⟩ := hkp.form
  have HT := Lib.hid ht
  have HK := Lib.hid hkp
  obtain ⟨a, b, f, T, K⟩ := z
  dsimp only at *
  clear ht hkp hw he1 he2 HC hrv
  go_enter Try.func29, Try.ntmps29
  go_wp2_with fail
  have k0 := Blk.new w 29 #[.int .u64 a, .int .u64 b, .int .u64 f, .slice A T.length c, .slice C K.length d]
  have hB := bal (Below.refl w.heap.size w) (.cells #[.int .u64 a, .int .u64 b, .int .u64 f, .slice A T.length c, .slice C K.length d] 29)
  refine (HC2.out _ _ _ (HT.out.below hB) (HK.out.below hB)).mono ?_
  rintro e w1 ⟨rfl, hb1⟩
  have kb := k0.below hb1
  have HB := Lib.hid (bnext hB hb1)
  clear hb1 k0 hB HC2
  obtain ⟨x0, x1, x2, x3, x4⟩ := kb.c5
  have hl0 := kb.lt
  clear kb
  by_cases h0 : e1 = 0
  · have RS2 := Lib.hid (RS.out h0)
    subst h0
    clear RS RZ
    go_wp2_with fail
    refine (RS2.out _ _ _ (HT.out.below HB.out) ⟨_, _, _, rfl⟩).mono ?_
    rintro e w2 ⟨rfl, hb2⟩
    have hB2 := bnext HB.out hb2
    clear hb2
    go_wp2_with fail
    go_ret2
    exact ⟨rfl, hB2⟩
  · have R := Lib.hid (RZ.out h0)
    have h0' : (e1 != 0) = true := by simpa using h0
    clear h0
    go_wp2_with fail
    go_ret2
    exact ⟨by rw [R.out]; rfl, HB.out⟩

set_option maxRecDepth 100000 in
set_option maxHeartbeats 8000000 in
theorem rState_any (z : Rec) (hw : WfR z) (off size : Int) (ho : 0 ≤ off ∧ off ≤ 18446744073709551615) (hs : 0 ≤ size ∧ size ≤ 18446744073709551615) (vt vk : Value) (w : World) (ht : RgsAt w vt z.tk) (hkp : KpsAt w vk z.kp) :
    Calls Try.prog 44 #[.agg #[.int .u64 z.g, .int .u64 z.r, .int .u64 z.fl, vt, vk], .int .u64 off, .int .u64 size] w (Ret2 .i64 .i64 (stE z off size).1 (stE z off size).2 w) := by
  have HC := Lib.hid (fun vt vk w h1 h2 => rvCheck_any z hw vt vk w h1 h2)
  obtain ⟨st, hst⟩ : ∃ st, stE z off size = st := ⟨_, rfl⟩
  have ST : Hid (st = if (chkR z).1 ≠ 0 then (0, (chkR z).1) else if size = 0 then (0, 2) else if z.g - z.r < size ∨ z.g - z.r - size < off then (0, 14) else (stOf (cons z off size z.tk.length) size, 0)) := Lib.hid (by rw [← hst]; rfl)
  have OKZ : Hid ((chkR z).1 = 0 → OkR z) := Lib.hid (fun h => okR_of h)
  obtain ⟨e1, he1⟩ : ∃ e1 : Int, (chkR z).1 = e1 := ⟨_, rfl⟩
  obtain ⟨e2, he2⟩ : ∃ e2 : Int, (((chkR z).2 : Nat) : Int) = e2 := ⟨_, rfl⟩
  have HC2 : Hid (∀ vt vk w, RgsAt w vt z.tk → KpsAt w vk z.kp → Calls Try.prog 64 #[.agg #[.int .u64 z.g, .int .u64 z.r, .int .u64 z.fl, vt, vk]] w (Ret2 .i64 .i64 e1 e2 w)) := Lib.hid (fun vt vk w h1 h2 => by have := HC.out vt vk w h1 h2; rw [he1, he2] at this; exact this)
  rw [he1] at ST OKZ
  rw [hst]
  have h4 := hw.r.1
  have h5 := hw.fl.1
  clear he1 he2 HC hst hw
  by_cases h0 : e1 = 0
  · have hz := OKZ.out h0
    have h1 := hz.g
    have h2 := hz.r
    have h3 := hz.fl
    have hn := hz.nt
    have CB : Hid (∀ k, 0 < size → k ≤ z.tk.length → 0 ≤ cons z off size k ∧ cons z off size k ≤ size) := Lib.hid (fun k hs hk => cons_le hz hs hk)
    have CS : Hid (∀ k, cons z off size (k + 1) = cons z off size k + ov off (off + size) (rgAt z.tk k)) := Lib.hid (fun k => rfl)
    have C0 : Hid (cons z off size 0 = flv z off size) := Lib.hid rfl
    have TT : Hid (∀ k, k < z.tk.length → (rgAt z.tk k).f < (rgAt z.tk k).t ∧ 0 ≤ (rgAt z.tk k).f ∧ (rgAt z.tk k).t ≤ 1125899906842624) := Lib.hid (fun k hk => by have := hz.t k hk; omega)
    obtain ⟨A, c, rfl⟩ := ht.form
    obtain ⟨C, d, rfl⟩ := hkp.form
    have HT := Lib.hid ht
    have HK := Lib.hid hkp
    obtain ⟨_, _, e, _, hcc, hRt⟩ := id ht
    cases e
    unfold maxLen at hcc
    have HRt := Lib.hid hRt
    obtain ⟨cf, hcf⟩ : ∃ cf, cons z off size = cf := ⟨_, rfl⟩
    rw [hcf] at ST CB CS C0
    have FL : Hid (flv z off size = if off < z.fl then min (z.fl - off) size else 0) := Lib.hid rfl
    obtain ⟨fv, hfv⟩ : ∃ fv, flv z off size = fv := ⟨_, rfl⟩
    rw [hfv] at C0 FL
    have ST1 := Lib.hid (ST.out.trans (if_neg (fun c => c h0)))
    subst h0
    obtain ⟨a, b, f, T, K⟩ := z
    dsimp only at *
    clear ht hkp hRt hz ST OKZ hcf hfv
    have WR : IntKind.u64.wrap (a - b) = a - b := IntWalk.u64_in _ (by omega)
    go_enter Try.func44, Try.ntmps44
    go_wp2_with fail
    have k0 := Blk.new w 29 #[.int .u64 a, .int .u64 b, .int .u64 f, .slice A T.length c, .slice C K.length d]
    have hB := bal (Below.refl w.heap.size w) (.cells #[.int .u64 a, .int .u64 b, .int .u64 f, .slice A T.length c, .slice C K.length d] 29)
    refine (HC2.out _ _ _ (HT.out.below hB) (HK.out.below hB)).mono ?_
    rintro e w1 ⟨rfl, hb1⟩
    have kk : BK w w.heap.size 29 #[.int .u64 a, .int .u64 b, .int .u64 f, .slice A T.length c, .slice C K.length d] w1 := ⟨k0.below hb1, bnext hB hb1⟩
    clear hb1 k0 hB HC2
    obtain ⟨g0, hg0⟩ : ∃ g0, w.heap.size = g0 := ⟨_, rfl⟩
    rw [hg0] at kk ⊢
    clear hg0
    obtain ⟨x0, x1, x2, x3, x4⟩ := kk.b.c5
    have hl0 := kk.b.lt
    have K1 := Lib.hid kk
    clear kk
    by_cases hs0 : size = 0
    · have R := Lib.hid (ST1.out.trans (if_pos hs0))
      subst hs0
      go_wp2_with fail
      go_ret2
      exact ⟨by rw [R.out]; rfl, K1.out.hB⟩
    have ST2 := Lib.hid (ST1.out.trans (if_neg hs0))
    have hsz : (size == 0) = false := beq_eq_false_iff_ne.2 hs0
    have hs1 : 0 < size := by omega
    clear ST1 hs0
    by_cases q1 : size > a - b
    · have R := Lib.hid (ST2.out.trans (if_pos (.inl q1)))
      go_wp2_with fail
      go_ret2
      exact ⟨by rw [R.out]; rfl, K1.out.hB⟩
    have WR2 : IntKind.u64.wrap (a - b - size) = a - b - size := IntWalk.u64_in _ (by omega)
    by_cases q2 : off > a - b - size
    · have R := Lib.hid (ST2.out.trans (if_pos (.inr q2)))
      go_wp2_with fail
      go_ret2
      exact ⟨by rw [R.out]; rfl, K1.out.hB⟩
    have ST3 := Lib.hid (ST2.out.trans (if_neg (fun c => by omega)))
    clear ST2
    obtain ⟨hi, hhi⟩ : ∃ hi, off + size = hi := ⟨_, rfl⟩
    rw [hhi] at CS
    have hhb : hi ≤ a - b ∧ off < hi := by omega
    have WH : IntKind.u64.wrap (off + size) = hi := by rw [hhi]; exact IntWalk.u64_in _ (by omega)
    have HHI := Lib.hid hhi
    clear hhi
    go_upto_if 48 with fail
    go_cut [10] (fun s wx => s = .int .u64 fv ∧ wx = w1)
    case first =>
      by_cases c1 : off < f
      · have c1d : decide (off < f) = true := decide_eq_true c1
        have W1 : IntKind.u64.wrap (f - off) = f - off := IntWalk.u64_in _ (by omega)
        by_cases c2 : size < f - off
        · have R : Hid (fv = size) := Lib.hid (by rw [FL.out, if_pos c1]; omega)
          go_wp2_with fail
          go_meet
          exact ⟨by rw [R.out], rfl⟩
        · have R : Hid (fv = f - off) := Lib.hid (by rw [FL.out, if_pos c1]; omega)
          go_wp2_with fail
          go_meet
          exact ⟨by rw [R.out], rfl⟩
      · have c1d : decide (off < f) = false := decide_eq_false c1
        have R : Hid (fv = 0) := Lib.hid (by rw [FL.out, if_neg c1])
        go_wp2_with fail
        go_meet
        exact ⟨by rw [R.out], rfl⟩
    case rest =>
      obtain ⟨rfl, rfl⟩ := hcut
      rw [← C0.out]
      go_wp2_with fail
      clear x0 x1 x2 x3 x4 hl0
      go_loopw [10, 11] (fun s9 s wr => ∃ k : Nat, k ≤ T.length ∧ s = .int .i64 k ∧ s9 = .int .u64 (cf k) ∧ BK w g0 29 #[.int .u64 a, .int .u64 b, .int .u64 f, .slice A T.length c, .slice C K.length d] wr) (fun _ s _ => T.length - (intOf s).toNat)
      case atStart => exact ⟨0, by omega, rfl, rfl, K1.out⟩
      case round =>
        obtain ⟨k, hk, rfl, rfl, kb⟩ := hrel
        obtain ⟨wy, rfl⟩ : ∃ wy : World, wy = wr := ⟨_, rfl⟩
        have KB := Lib.hid kb
        clear K1
        obtain ⟨x0, x1, x2, x3, x4⟩ := kb.b.c5
        have hgy := kb.b.lt
        clear kb
        obtain ⟨u1, u2⟩ := CB.out k hs1 hk
        by_cases hlt : k < T.length
        · obtain ⟨bt, ot, rfl, hbt, p0, p1⟩ := reads_rg HRt.out rfl (rgAt_get hlt)
          have d0 := (KB.out.hB.cell (p := ⟨bt, ot + k * 2, none⟩) hbt).trans p0
          have d1 := (KB.out.hB.cell (p := ⟨bt, ot + k * 2 + 1, none⟩) hbt).trans p1
          obtain ⟨t1, t2, t3⟩ := TT.out k hlt
          have CSk := Lib.hid (CS.out k)
          obtain ⟨v1, v2⟩ := CB.out (k + 1) hs1 hlt
          have OV : Hid (ov off hi (rgAt T k) = if max (rgAt T k).f off < min (rgAt T k).t hi then min (rgAt T k).t hi - max (rgAt T k).f off else 0) := Lib.hid rfl
          have hki : (k : Int) < T.length := by omega
          have hk0 : (0 : Int) ≤ k := by omega
          obtain ⟨x, hx⟩ : ∃ x, rgAt T k = x := ⟨_, rfl⟩
          rw [hx] at d0 d1 CSk OV t1 t2 t3
          obtain ⟨oo, hoo⟩ : ∃ oo, ov off hi x = oo := ⟨_, rfl⟩
          rw [hoo] at CSk OV
          obtain ⟨c0, hc0⟩ : ∃ c0, cf k = c0 := ⟨_, rfl⟩
          rw [hc0] at CSk u1 u2 ⊢
          obtain ⟨c1, hc1⟩ : ∃ c1, cf (k + 1) = c1 := ⟨_, rfl⟩
          rw [hc1] at CSk v1 v2
          have HC1 := Lib.hid hc1
          clear hx p0 p1 hoo hc0 hc1
          obtain ⟨P, hP⟩ : ∃ P, max x.f off = P := ⟨_, rfl⟩
          obtain ⟨Q, hQ⟩ : ∃ Q, min x.t hi = Q := ⟨_, rfl⟩
          rw [hP, hQ] at OV
          have hPb : off ≤ P ∧ 0 ≤ P := by omega
          have hQb : Q ≤ hi := by omega
          go_upto_region 14 with fail
          go_cut [12, 13] (fun s12 s13 wx => s12 = .int .u64 P ∧ s13 = .int .u64 Q ∧ ∃ n, wx = wy.drewN n)
          case first =>
            by_cases m1 : x.f < off
            · by_cases m2 : hi < x.t
              · obtain rfl : P = off := by omega
                obtain rfl : Q = hi := by omega
                clear hP hQ
                go_quiet (fail)
                go_wp2_with fail
                go_meet
                exact ⟨rfl, rfl, _, rfl⟩
              · have e2 : Q = x.t := by omega
                subst e2
                obtain rfl : P = off := by omega
                clear hP hQ
                go_quiet (fail)
                go_wp2_with fail
                go_meet
                exact ⟨rfl, rfl, _, rfl⟩
            · by_cases m2 : hi < x.t
              · have e1 : P = x.f := by omega
                subst e1
                obtain rfl : Q = hi := by omega
                clear hP hQ
                go_quiet (fail)
                go_wp2_with fail
                go_meet
                exact ⟨rfl, rfl, _, rfl⟩
              · have e1 : P = x.f := by omega
                have e2 : Q = x.t := by omega
                subst e1
                subst e2
                clear hP hQ
                go_quiet (fail)
                go_wp2_with fail
                go_meet
                exact ⟨rfl, rfl, _, rfl⟩
          case rest =>
            obtain ⟨rfl, rfl, nd, rfl⟩ := hcut
            clear hP hQ x0 x1 x2 x3 x4 d0 d1
            by_cases m3 : P < Q
            · have E : Hid (oo = Q - P) := Lib.hid (by rw [OV.out, if_pos m3])
              have N1 : Hid (c1 = c0 + (Q - P)) := Lib.hid (by rw [CSk.out, E.out])
              have hN1 := N1.out
              have W1 : IntKind.u64.wrap (c0 + Q) = c0 + Q := IntWalk.u64_in _ (by omega)
              have W2 : IntKind.u64.wrap (c0 + Q - P) = c0 + (Q - P) := by rw [show c0 + Q - P = c0 + (Q - P) by omega]; exact IntWalk.u64_in _ (by omega)
              clear hN1
              go_wp2_with fail
              go_roundw
              case rel => exact ⟨k + 1, by omega, by go_num, by rw [HC1.out, N1.out], KB.out.b.drewN _, below_drewN KB.out.hB _⟩
              case measure => simp [intOf]; omega
            · have E : Hid (oo = 0) := Lib.hid (by rw [OV.out, if_neg m3])
              have N1 : Hid (c1 = c0) := Lib.hid (by rw [CSk.out, E.out, Int.add_zero])
              go_wp2_with fail
              go_roundw
              case rel => exact ⟨k + 1, by omega, by go_num, by rw [HC1.out, N1.out], KB.out.b.drewN _, below_drewN KB.out.hB _⟩
              case measure => simp [intOf]; omega
        · obtain rfl : k = T.length := by omega
          have R : Hid (st = (stOf (cf T.length) size, 0)) := ST3
          obtain ⟨cz, hcz⟩ : ∃ cz, cf T.length = cz := ⟨_, rfl⟩
          rw [hcz] at R u1 u2 ⊢
          clear hcz
          by_cases e1 : cz = size
          · have R2 : Hid (st = (1, 0)) := Lib.hid (by rw [R.out]; unfold stOf; rw [if_pos e1])
            subst e1
            go_wp2_with fail
            go_ret2
            exact ⟨by rw [R2.out]; rfl, KB.out.hB⟩
          · have e1' : (cz == size) = false := beq_eq_false_iff_ne.2 e1
            by_cases e0 : cz = 0
            · have R2 : Hid (st = (2, 0)) := Lib.hid (by rw [R.out]; unfold stOf; rw [if_neg e1, if_pos e0])
              have e0' : (cz == 0) = true := by simp [e0]
              have E0 := Lib.hid e0
              clear e0 e1
              go_wp2_with fail
              go_ret2
              exact ⟨by rw [R2.out]; rfl, KB.out.hB⟩
            · have e0' : (cz == 0) = false := beq_eq_false_iff_ne.2 e0
              have R2 : Hid (st = (3, 0)) := Lib.hid (by rw [R.out]; unfold stOf; rw [if_neg e1, if_neg e0])
              clear e0 e1
              go_wp2_with fail
              go_ret2
              exact ⟨by rw [R2.out]; rfl, KB.out.hB⟩
  · have R := Lib.hid (ST.out.trans (if_pos h0))
    have h0' : (e1 != 0) = true := by simpa using h0
    obtain ⟨A, c, rfl⟩ := ht.form
    obtain ⟨C, d, rfl⟩ := hkp.form
    have HT := Lib.hid ht
    have HK := Lib.hid hkp
    obtain ⟨a, b, f, T, K⟩ := z
    dsimp only at *
    clear ht hkp ST OKZ h0
    go_enter Try.func44, Try.ntmps44
    go_wp2_with fail
    have hB := bal (Below.refl w.heap.size w) (.cells #[.int .u64 a, .int .u64 b, .int .u64 f, .slice A T.length c, .slice C K.length d] 29)
    refine (HC2.out _ _ _ (HT.out.below hB) (HK.out.below hB)).mono ?_
    rintro e w1 ⟨rfl, hb1⟩
    have HB := Lib.hid (bnext hB hb1)
    clear hb1 hB HC2
    go_wp2_with fail
    go_ret2
    exact ⟨by rw [R.out]; rfl, HB.out⟩
end Go.Proofs.Ytfgkkflbpfocjaa

namespace Go.Proofs.Ytfgkkflbpfocjaa
set_option linter.unusedVariables false
set_option linter.unusedSimpArgs false

def Good (nxt : Int) : List Sl → Int → List Sl → Prop
  | _, _, [] => True
  | done, e, x :: r => slotE nxt done e x = 0 ∧ Good nxt (done ++ [x]) (x.off + x.size) r
theorem scan_good (nxt : Int) (done : List Sl) (e : Int) (l : List Sl) : (scan nxt done e l).1 = 0 ↔ Good nxt done e l := by
  induction l generalizing done e with
  | nil => simp [scan, Good]
  | cons x r ih =>
    unfold scan Good
    by_cases h : slotE nxt done e x = 0
    · rw [if_pos h, ih]; simp [h]
    · rw [if_neg h]; simp [h]
theorem slotE_zero {nxt e : Int} {done : List Sl} {x : Sl} : slotE nxt done e x = 0 ↔ x.size ≠ 0 ∧ IdOk x.node x.seq x.io ∧ e ≤ x.off ∧ x.off ≤ nxt ∧ x.size ≤ nxt - x.off ∧ anyHas x.node x.seq x.io done = false := by
  unfold slotE
  split
  · rename_i h
    constructor
    · intro h'; exact absurd h' (by decide)
    · rintro ⟨a, b, _⟩; rcases h with h | h
      · exact absurd h a
      · exact absurd b h
  · rename_i h1
    split
    · rename_i h
      constructor
      · intro h'; exact absurd h' (by decide)
      · rintro ⟨_, _, a, b, c, _⟩; omega
    · rename_i h2
      split
      · rename_i h
        constructor
        · intro h'; exact absurd h' (by decide)
        · rintro ⟨_, _, _, _, _, a⟩; rw [h] at a; cases a
      · rename_i h3
        constructor
        · intro _
          refine ⟨fun h => h1 (.inl h), ?_, by omega, by omega, by omega, by simpa using h3⟩
          by_cases h : IdOk x.node x.seq x.io
          · exact h
          · exact absurd (.inr h) h1
        · intro _; rfl
theorem okL_iff (s : Led) : okL s ↔ s.g ≤ 1125899906842624 ∧ s.r ≤ s.g ∧ s.n ≤ s.g - s.r ∧ s.sl.length ≤ 100 ∧ Good s.n [] 0 s.sl := by
  unfold okL chk
  split
  · constructor
    · intro h; exact absurd h (by decide)
    · rintro ⟨a, _⟩; omega
  · split
    · constructor
      · intro h; exact absurd h (by decide)
      · rintro ⟨_, a, b, _⟩; omega
    · split
      · constructor
        · intro h; exact absurd h (by decide)
        · rintro ⟨_, _, _, a, _⟩; omega
      · rw [scan_good]
        constructor
        · intro h; exact ⟨by omega, by omega, by omega, by omega, h⟩
        · intro h; exact h.2.2.2.2
theorem anyHas_append (a b c : Int) (l m : List Sl) : anyHas a b c (l ++ m) = (anyHas a b c l || anyHas a b c m) := by simp [anyHas]

/-- a greater next, an earlier end, fewer before -/
theorem good_more {nxt nxt' : Int} (hn : nxt ≤ nxt') {done done' : List Sl} {e e' : Int} {l : List Sl} (h : Good nxt done e l) (he : e' ≤ e) (hd : ∀ x ∈ done', x ∈ done) : Good nxt' done' e' l := by
  induction l generalizing done done' e e' with
  | nil => trivial
  | cons x r ih =>
    obtain ⟨h1, h2⟩ := h
    obtain ⟨a, b, c, d, f, g⟩ := slotE_zero.1 h1
    refine ⟨slotE_zero.2 ⟨a, b, by omega, by omega, by omega, ?_⟩, ih h2 (Int.le_refl _) (fun y hy => ?_)⟩
    · simp only [anyHas, List.any_eq_false] at g ⊢
      exact fun y hy => g y (hd y hy)
    · rcases List.mem_append.1 hy with h | h
      · exact List.mem_append.2 (.inl (hd y h))
      · exact List.mem_append.2 (.inr h)
theorem good_end {nxt : Int} {done : List Sl} {e : Int} {l : List Sl} (h : Good nxt done e l) (he : e ≤ nxt) {x : Sl} {nxt' : Int} (hn : nxt ≤ nxt') (hx : slotE nxt' (done ++ l) nxt x = 0) : Good nxt' done e (l ++ [x]) := by
  induction l generalizing done e with
  | nil =>
    refine ⟨?_, trivial⟩
    obtain ⟨a, b, c, d, f, g⟩ := slotE_zero.1 hx
    rw [List.append_nil] at g
    exact slotE_zero.2 ⟨a, b, by omega, d, f, g⟩
  | cons y r ih =>
    obtain ⟨h1, h2⟩ := h
    obtain ⟨a, b, c, d, f, g⟩ := slotE_zero.1 h1
    refine ⟨slotE_zero.2 ⟨a, b, c, by omega, by omega, g⟩, ih h2 (by omega) ?_⟩
    rw [List.append_assoc]
    exact hx
theorem good_erase {nxt : Int} {done : List Sl} {e : Int} {l : List Sl} (h : Good nxt done e l) (hs : ∀ x ∈ l, 0 ≤ x.size) (i : Nat) : Good nxt done e (l.eraseIdx i) := by
  induction l generalizing done e i with
  | nil => exact h
  | cons x r ih =>
    obtain ⟨h1, h2⟩ := h
    obtain ⟨a, b, c, d, f, g⟩ := slotE_zero.1 h1
    cases i with
    | zero =>
      have := hs x (by simp)
      exact good_more (Int.le_refl _) h2 (by omega) (fun y hy => List.mem_append.2 (.inl hy))
    | succ i => exact ⟨h1, ih h2 (fun y hy => hs y (by simp [hy])) i⟩
theorem good_first {nxt : Int} {done : List Sl} {e : Int} {l : List Sl} (h : Good nxt done e l) {x : Sl} (hx : x ∈ l) : e ≤ x.off ∨ ∃ y ∈ l, y.off + y.size ≤ x.off := by
  induction l generalizing done e with
  | nil => simp at hx
  | cons y r ih =>
    obtain ⟨h1, h2⟩ := h
    rcases List.mem_cons.1 hx with rfl | hx
    · exact .inl (slotE_zero.1 h1).2.2.1
    · right
      rcases ih h2 hx with h | ⟨z, hz, h⟩
      · exact ⟨y, by simp, h⟩
      · exact ⟨z, by simp [hz], h⟩
theorem good_off {nxt : Int} {done : List Sl} {e : Int} {l : List Sl} (h : Good nxt done e l) (hs : ∀ x ∈ l, 0 ≤ x.size) {x : Sl} (hx : x ∈ l) : e ≤ x.off ∧ x.off + x.size ≤ nxt := by
  induction l generalizing done e with
  | nil => simp at hx
  | cons y r ih =>
    obtain ⟨h1, h2⟩ := h
    obtain ⟨a, b, c, d, f, g⟩ := slotE_zero.1 h1
    rcases List.mem_cons.1 hx with rfl | hx
    · omega
    · have := ih h2 (fun z hz => hs z (by simp [hz])) hx
      have := hs y (by simp)
      omega
end Go.Proofs.Ytfgkkflbpfocjaa

namespace Go.Proofs.Ytfgkkflbpfocjaa
open Go.RowKit
set_option linter.unusedVariables false
set_option linter.unusedSimpArgs false

theorem hidI' {p : Prop} (h : p) : Hid p := h
theorem anyHas_take {a b c : Int} {l : List Sl} {i : Nat} (h : ∀ k y, k < i → l[k]? = some y → y.has a b c = false) : anyHas a b c (l.take i) = false := by
  unfold anyHas
  rw [List.any_eq_false]
  intro y hy
  obtain ⟨k, hk⟩ := List.mem_iff_getElem?.1 hy
  have hk1 := (List.getElem?_eq_some_iff.1 hk).1
  rw [List.length_take] at hk1
  rw [List.getElem?_take, if_pos (by omega)] at hk
  rw [h k y (by omega) hk]
  decide
theorem anyHas_hit {a b c : Int} {l : List Sl} {i k : Nat} {y : Sl} (hk : k < i) (hy : l[k]? = some y) (h : y.has a b c = true) : anyHas a b c (l.take i) = true := by
  unfold anyHas
  rw [List.any_eq_true]
  exact ⟨y, List.mem_iff_getElem?.2 ⟨k, by rw [List.getElem?_take, if_pos hk]; exact hy⟩, h⟩

set_option maxRecDepth 100000 in
set_option maxHeartbeats 8000000 in
theorem rslot_any (g n r : Int) (l : List Sl) (i : Nat) (x : Sl) (e : Int) (hx : l[i]? = some x) (hn0 : 0 ≤ n) (hn1 : n ≤ 18446744073709551615) (hw : 0 ≤ x.off ∧ x.off ≤ 18446744073709551615 ∧ 0 ≤ x.size) (h0 : i = 0 → e = 0)
    (hp : ∀ p, 0 < i → l[i - 1]? = some p → p.off + p.size = e) (he0 : 0 ≤ e) (he1 : e ≤ 18446744073709551615) (v : Value) (w : World) (hS : SlAt w 5 v l.length (flat l)) :
    Calls Try.prog 105 #[.agg #[.int .u64 g, .int .u64 n, .int .u64 r, v], .int .i64 i] w (RetI .i64 (slotE n (l.take i) e x) w) := by
  obtain ⟨A, c, rfl, hc1, hc2, hR⟩ := id hS
  have hil : i < l.length := (List.getElem?_eq_some_iff.1 hx).1
  obtain ⟨b, o, rfl, hbl, x0, x1, x2, x3, x4⟩ := slot_cells hR rfl hx
  obtain ⟨xo, xz, xn, xq, xi⟩ := x
  dsimp only at *
  have hii : (i : Int) < l.length := by omega
  have HS := Lib.hid hS
  clear hS
  go_enter Try.func105, Try.ntmps105
  by_cases hz : xz = 0
  · have E : Hid (slotE n (l.take i) e ⟨xo, xz, xn, xq, xi⟩ = 2) := by show (if _ then _ else _) = _; rw [if_pos (.inl hz)]
    go_wp2_with fail
    go_ret
    exact ⟨ret_int E.out.symm, (by repeat (first | with_reducible exact Below.refl _ _ | with_reducible refine Below.drew ?_ | with_reducible refine below_drewN ?_ _ | with_reducible refine bal ?_ _ | with_reducible refine bset ?_ (by first | (simp; done) | (simp; omega)) _ | with_reducible refine bnext ?_ (by assumption) | with_reducible assumption))⟩
  · by_cases hid : IdOk xn xq xi
    · have ID : Hid (idE xn xq xi = 0) := if_pos hid
      have C1 : Hid (¬ (xz = 0 ∨ ¬ IdOk xn xq xi)) := by rintro (h | h); exact hz h; exact h hid
      clear hid
      go_wp2_with fail
      refine (rCheckID_any _ _ _ _).mono ?_
      rintro e' w1 ⟨rfl, hb1⟩
      rw [ID.out]
      have hB1 : Below w.heap.size w w1 := bnext (bal (bal (Below.refl _ _) _) _) hb1
      have k0 := ((Blk.new w 25 #[.int .u64 g, .int .u64 n, .int .u64 r, .slice (some ⟨b, o, none⟩) l.length c]).alloc (.cells #[.int .u64 xo, .int .u64 xz, .int .i64 xn, .int .u64 xq, .int .i64 xi] 81)).below hb1
      have k1 := (Blk.new1 w (.cells #[.int .u64 g, .int .u64 n, .int .u64 r, .slice (some ⟨b, o, none⟩) l.length c] 25) 81 #[.int .u64 xo, .int .u64 xz, .int .i64 xn, .int .u64 xq, .int .i64 xi]).below hb1
      have hs1 := ((HS.out.alloc (.cells #[.int .u64 g, .int .u64 n, .int .u64 r, .slice (some ⟨b, o, none⟩) l.length c] 25)).alloc (.cells #[.int .u64 xo, .int .u64 xz, .int .i64 xn, .int .u64 xq, .int .i64 xi] 81)).below hb1
      obtain ⟨_, _, e1, _, _, hR1⟩ := hs1
      cases e1
      obtain ⟨d0, d1, d2, d3⟩ := k0.c4
      obtain ⟨f0, f1, f2, f3, f4⟩ := k1.c5
      have K0' := Lib.hid k0
      have K1' := Lib.hid k1
      clear x0 x1 x2 x3 x4 k0 k1
      have hlt1 : w.heap.size + 1 < w1.heap.size := by have := hb1.size; simp at this; omega
      by_cases c1 : n < xo
      · have E : Hid (slotE n (l.take i) e ⟨xo, xz, xn, xq, xi⟩ = 19) := by show (if _ then _ else if xo < e ∨ n < xo ∨ n - xo < xz then _ else _) = _; rw [if_neg C1.out, if_pos (.inr (.inl c1))]
        have t1 : decide (n < xo) = true := by simpa using c1
        go_wp2_with fail
        go_quiet (fail)
        go_wp2_with fail
        go_ret
        exact ⟨ret_int E.out.symm, (by repeat (first | with_reducible exact Below.refl _ _ | with_reducible refine Below.drew ?_ | with_reducible refine below_drewN ?_ _ | with_reducible refine bal ?_ _ | with_reducible refine bset ?_ (by first | (simp; done) | (simp; omega)) _ | with_reducible refine bnext ?_ (by assumption) | with_reducible assumption))⟩
      · have t1 : decide (n < xo) = false := by simpa using c1
        have c1' : xo ≤ n := by omega
        clear c1
        by_cases c2 : n - xo < xz
        · have E : Hid (slotE n (l.take i) e ⟨xo, xz, xn, xq, xi⟩ = 19) := by show (if _ then _ else if xo < e ∨ n < xo ∨ n - xo < xz then _ else _) = _; rw [if_neg C1.out, if_pos (.inr (.inr c2))]
          have t2 : decide (n - xo < xz) = true := by simpa using c2
          go_wp2_with fail
          go_quiet (fail)
          go_wp2_with fail
          go_ret
          exact ⟨ret_int E.out.symm, (by repeat (first | with_reducible exact Below.refl _ _ | with_reducible refine Below.drew ?_ | with_reducible refine below_drewN ?_ _ | with_reducible refine bal ?_ _ | with_reducible refine bset ?_ (by first | (simp; done) | (simp; omega)) _ | with_reducible refine bnext ?_ (by assumption) | with_reducible assumption))⟩
        · have t2 : decide (n - xo < xz) = false := by simpa using c2
          have c2' : xz ≤ n - xo := by omega
          clear c2
          have HX : Hid (l[i]? = some ⟨xo, xz, xn, xq, xi⟩) := hx
          clear hx
          rcases i with _ | j
          · have h00 : e = 0 := h0 rfl
            have E0 : ∀ b, anyHas xn xq xi (l.take 0) = b → slotE n (l.take 0) e ⟨xo, xz, xn, xq, xi⟩ = if b = true then 9 else 0 := by
              rintro _ rfl
              show (if _ then _ else if xo < e ∨ n < xo ∨ n - xo < xz then _ else _) = _
              rw [if_neg C1.out, if_neg (by omega)]
            have E : Hid (slotE n (l.take 0) e ⟨xo, xz, xn, xq, xi⟩ = 0) := by rw [E0 false rfl]; rfl
            clear hp h0 E0
            subst h00
            rw [show ((0 : Nat) : Int) = 0 from rfl]
            go_wp2_with fail
            go_quiet (fail)
            go_wp2_with fail
            go_loopw [6] (fun a wr => a = .int .i64 0 ∧ Below w.heap.size w wr) (fun a _ => (intOf a).toNat)
            case atStart => exact ⟨rfl, (by repeat (first | with_reducible exact Below.refl _ _ | with_reducible refine Below.drew ?_ | with_reducible refine below_drewN ?_ _ | with_reducible refine bal ?_ _ | with_reducible refine bset ?_ (by first | (simp; done) | (simp; omega)) _ | with_reducible refine bnext ?_ (by assumption) | with_reducible assumption))⟩
            case round =>
              obtain ⟨rfl, hB⟩ := hrel
              go_wp2_with fail
              go_ret
              exact ⟨ret_int E.out.symm, hB⟩
          · obtain ⟨p, hpi⟩ : ∃ p, l[j]? = some p := ⟨_, List.getElem?_eq_getElem (by omega)⟩
            have hpe : p.off + p.size = e := hp p (by omega) hpi
            obtain ⟨b', o', eb, _, p0, p1, _⟩ := slot_cells hR1 rfl hpi
            cases eb
            have hj0 : (j : Int) < l.length := by omega
            have hj1 : (0 : Int) ≤ (j : Int) := by omega
            have hlm : l.length ≤ 9223372036854775807 := by unfold maxLen at hc2; omega
            have WJ : IntKind.i64.wrap (j : Int) = (j : Int) := IntWalk.i64_in _ (by omega)
            have WN : IntKind.u64.wrap (n - xo) = n - xo := IntWalk.u64_in _ (by omega)
            have WP : IntKind.u64.wrap (p.off + p.size) = p.off + p.size := IntWalk.u64_in _ (by omega)
            by_cases c3 : xo < e
            · have E : Hid (slotE n (l.take (j + 1)) e ⟨xo, xz, xn, xq, xi⟩ = 19) := by show (if _ then _ else if xo < e ∨ n < xo ∨ n - xo < xz then _ else _) = _; rw [if_neg C1.out, if_pos (.inl c3)]
              have t3 : decide (xo < p.off + p.size) = true := by rw [hpe]; simpa using c3
              have t4 : decide (0 < (j : Int) + 1) = true := by simp
              clear hpi hp h0 hpe
              go_wp2_with fail
              go_quiet (fail)
              clear WP WN WJ
              go_wp2_with fail
              go_ret
              exact ⟨ret_int E.out.symm, (by repeat (first | with_reducible exact Below.refl _ _ | with_reducible refine Below.drew ?_ | with_reducible refine below_drewN ?_ _ | with_reducible refine bal ?_ _ | with_reducible refine bset ?_ (by first | (simp; done) | (simp; omega)) _ | with_reducible refine bnext ?_ (by assumption) | with_reducible assumption))⟩
            · have E0 : ∀ b, anyHas xn xq xi (l.take (j + 1)) = b → slotE n (l.take (j + 1)) e ⟨xo, xz, xn, xq, xi⟩ = if b = true then 9 else 0 := by
                rintro _ rfl
                show (if _ then _ else if xo < e ∨ n < xo ∨ n - xo < xz then _ else _) = _
                rw [if_neg C1.out, if_neg (by omega)]
              have HE0 := Lib.hid E0
              have t3 : decide (xo < p.off + p.size) = false := by rw [hpe]; simpa using c3
              have t4 : decide (0 < (j : Int) + 1) = true := by simp
              have HR1 := Lib.hid hR1
              clear hpi hp h0 E0 hpe hR1
              go_wp2_with fail
              go_quiet (fail)
              clear WP WN WJ
              go_wp2_with fail
              have hfx : Below w1.heap.size w1 (w1.drewN nq) := below_drewN (Below.refl _ _) nq
              clear p0 p1 t3 t4
              go_loopw [6] (fun a wr => ∃ k : Nat, k ≤ j + 1 ∧ a = .int .i64 k ∧ (∀ q y, q < k → l[q]? = some y → y.has xn xq xi = false) ∧ Below w1.heap.size w1 wr) (fun a _ => j + 1 - (intOf a).toNat)
              case atStart => exact ⟨0, by omega, rfl, fun q y h => by omega, hfx⟩
              case round =>
                clear hfx d0 d1 d2 d3 f0 f1 f2 f3 f4
                obtain ⟨k, hk, rfl, hno, hB⟩ := hrel
                have HNO := Lib.hid hno
                have k0' := K0'.out.below hB
                have k1' := K1'.out.below hB
                obtain ⟨d0, d1, d2, d3⟩ := k0'.c4
                obtain ⟨f0, f1, f2, f3, f4⟩ := k1'.c5
                clear hno k0' k1'
                by_cases hkj : k < j + 1
                · obtain ⟨y, hy⟩ : ∃ y, l[k]? = some y := ⟨_, List.getElem?_eq_getElem (by omega)⟩
                  obtain ⟨b2, o2, eb, _, y0, y1, y2, y3, y4⟩ := slot_cells (HR1.out.keep hB.size fun b o h => hB.cell (p := ⟨b, o, none⟩) h) rfl hy
                  cases eb
                  have hkl : (k : Int) < l.length := by omega
                  have hk0 : (0 : Int) ≤ (k : Int) := by omega
                  have hkj' : (k : Int) < (j : Int) + 1 := by omega
                  by_cases hh : y.has xn xq xi = true
                  · have E := hidI' (HE0.out true (anyHas_hit hkj hy hh))
                    have he : ∀ w, (binOp .eql 47 (.agg #[.int .i64 y.node, .int .u64 y.seq, .int .i64 y.io]) (.agg #[.int .i64 xn, .int .u64 xq, .int .i64 xi])).run Try.prog w = .ok (.bool true) w := fun w => by rw [run_eql_id]; unfold Sl.has at hh; rw [hh]
                    clear hy hh
                    go_wp2_with fail
                    go_quiet (fail)
                    go_wp2_with fail
                    go_ret
                    exact ⟨by rw [E.out]; rfl, below_drewN (bnext hB1 hB) _⟩
                  · have hh' : y.has xn xq xi = false := by simpa using hh
                    have he : ∀ w, (binOp .eql 47 (.agg #[.int .i64 y.node, .int .u64 y.seq, .int .i64 y.io]) (.agg #[.int .i64 xn, .int .u64 xq, .int .i64 xi])).run Try.prog w = .ok (.bool false) w := fun w => by rw [run_eql_id]; unfold Sl.has at hh'; rw [hh']
                    have HNO2 : Hid (∀ q z, q < k + 1 → l[q]? = some z → z.has xn xq xi = false) := hidI' (fun q z hq hz => by
                      by_cases hqk : q = k
                      · subst hqk; rw [hy] at hz; cases hz; exact hh'
                      · exact HNO.out q z (by omega) hz)
                    clear hy hh hh'
                    go_wp2_with fail
                    go_quiet (fail)
                    go_wp2_with fail
                    go_roundw
                    case rel => exact ⟨k + 1, by omega, by go_num, HNO2.out, below_drewN hB _⟩
                    case measure => simp [intOf]; omega
                · obtain rfl : k = j + 1 := by omega
                  have E := hidI' (HE0.out false (anyHas_take HNO.out))
                  go_wp2_with fail
                  go_ret
                  exact ⟨by rw [E.out]; rfl, bnext hB1 hB⟩
    · have ID : Hid (idE xn xq xi = 2) := if_neg hid
      have E : Hid (slotE n (l.take i) e ⟨xo, xz, xn, xq, xi⟩ = 2) := by show (if _ then _ else _) = _; rw [if_pos (.inr hid)]
      clear hid
      go_wp2_with fail
      refine (rCheckID_any _ _ _ _).mono ?_
      rintro e' w1 ⟨rfl, hb1⟩
      rw [ID.out]
      go_wp2_with fail
      go_ret
      exact ⟨ret_int E.out.symm, (by repeat (first | with_reducible exact Below.refl _ _ | with_reducible refine Below.drew ?_ | with_reducible refine below_drewN ?_ _ | with_reducible refine bal ?_ _ | with_reducible refine bset ?_ (by first | (simp; done) | (simp; omega)) _ | with_reducible refine bnext ?_ (by assumption) | with_reducible assumption))⟩
end Go.Proofs.Ytfgkkflbpfocjaa

namespace Go.Proofs.Ytfgkkflbpfocjaa
open Go.RowKit
set_option linter.unusedVariables false
set_option linter.unusedSimpArgs false

set_option maxRecDepth 100000 in
set_option maxHeartbeats 4000000 in
theorem rCheck_any (s : Led) (hw : Wf s) (v : Value) (w : World) (hS : SlAt w 5 v s.sl.length (flat s.sl)) :
    Calls Try.prog 63 #[.agg #[.int .u64 s.g, .int .u64 s.n, .int .u64 s.r, v]] w (Ret2 .i64 .i64 (chk s).1 (chk s).2 w) := by
  obtain ⟨g, n, r, l⟩ := s
  obtain ⟨⟨hg0, hg1⟩, ⟨hn0, hn1⟩, ⟨hr0, hr1⟩, hl⟩ := hw
  have HL := Lib.hid hl
  clear hl
  obtain ⟨A, c, rfl, hc1, hc2, _⟩ := id hS
  have HS := Lib.hid hS
  clear hS
  unfold maxLen at hc2
  dsimp only at *
  by_cases h1 : 1125899906842624 < g
  · have R : Hid (chk ⟨g, n, r, l⟩ = (2, 0)) := if_pos h1
    go_enter Try.func63, Try.ntmps63
    go_wp2_with fail
    go_ret2
    exact ⟨by rw [R.out]; rfl, (by repeat (first | with_reducible exact Below.refl _ _ | with_reducible refine Below.drew ?_ | with_reducible refine below_drewN ?_ _ | with_reducible refine bal ?_ _ | with_reducible refine bset ?_ (by first | (simp; done) | (simp; omega)) _ | with_reducible refine bnext ?_ (by assumption) | with_reducible assumption))⟩
  · by_cases h2 : g < r
    · have R : Hid (chk ⟨g, n, r, l⟩ = (14, 0)) := by
        show (if _ then _ else if g < r ∨ g - r < n then _ else _) = _
        rw [if_neg h1, if_pos (.inl h2)]
      go_enter Try.func63, Try.ntmps63
      go_wp2_with fail
      go_ret2
      exact ⟨by rw [R.out]; rfl, (by repeat (first | with_reducible exact Below.refl _ _ | with_reducible refine Below.drew ?_ | with_reducible refine below_drewN ?_ _ | with_reducible refine bal ?_ _ | with_reducible refine bset ?_ (by first | (simp; done) | (simp; omega)) _ | with_reducible refine bnext ?_ (by assumption) | with_reducible assumption))⟩
    · by_cases h3 : g - r < n
      · have R : Hid (chk ⟨g, n, r, l⟩ = (14, 0)) := by
          show (if _ then _ else if g < r ∨ g - r < n then _ else _) = _
          rw [if_neg h1, if_pos (.inr h3)]
        go_enter Try.func63, Try.ntmps63
        go_wp2_with fail
        go_ret2
        exact ⟨by rw [R.out]; rfl, (by repeat (first | with_reducible exact Below.refl _ _ | with_reducible refine Below.drew ?_ | with_reducible refine below_drewN ?_ _ | with_reducible refine bal ?_ _ | with_reducible refine bset ?_ (by first | (simp; done) | (simp; omega)) _ | with_reducible refine bnext ?_ (by assumption) | with_reducible assumption))⟩
      · by_cases h4 : 100 < l.length
        · have R : Hid (chk ⟨g, n, r, l⟩ = (5, 0)) := by
            show (if _ then _ else if g < r ∨ g - r < n then _ else if 100 < l.length then _ else _) = _
            rw [if_neg h1, if_neg (by omega), if_pos h4]
          have h4' : (100 : Int) < l.length := by omega
          go_enter Try.func63, Try.ntmps63
          go_wp2_with fail
          go_ret2
          exact ⟨by rw [R.out]; rfl, (by repeat (first | with_reducible exact Below.refl _ _ | with_reducible refine Below.drew ?_ | with_reducible refine below_drewN ?_ _ | with_reducible refine bal ?_ _ | with_reducible refine bset ?_ (by first | (simp; done) | (simp; omega)) _ | with_reducible refine bnext ?_ (by assumption) | with_reducible assumption))⟩
        · have R : Hid (chk ⟨g, n, r, l⟩ = scan n [] 0 l) := by
            show (if _ then _ else if g < r ∨ g - r < n then _ else if 100 < l.length then _ else _) = _
            rw [if_neg h1, if_neg (by omega), if_neg h4]
          have h4' : (l.length : Int) ≤ 100 := by omega
          go_enter Try.func63, Try.ntmps63
          go_wp2_with fail
          obtain ⟨W0, hW⟩ : ∃ W0, w.alloc (.cells #[.int .u64 g, .int .u64 n, .int .u64 r, .slice A l.length c] 25) = W0 := ⟨_, rfl⟩
          have hB0 : Below w.heap.size w W0 := by rw [← hW]; exact bal (Below.refl _ _) _
          have k0 : Blk W0 w.heap.size 25 #[.int .u64 g, .int .u64 n, .int .u64 r, .slice A l.length c] := by rw [← hW]; exact Blk.new _ _ _
          have HS0 : Hid (SlAt W0 5 (.slice A l.length c) l.length (flat l)) := Lib.hid (HS.out.below hB0)
          rw [hW]
          have K0 := Lib.hid k0
          clear hW k0 HS
          go_loopw [4] (fun a wr => ∃ (k : Nat) (E : Int), k ≤ l.length ∧ a = .int .i64 k ∧ (0 ≤ E ∧ E ≤ 18446744073709551615 ∧ (k = 0 → E = 0) ∧ ∀ p, 0 < k → l[k - 1]? = some p → p.off + p.size = E) ∧ scan n (l.take k) E (l.drop k) = scan n [] 0 l ∧ Below W0.heap.size W0 wr) (fun a _ => l.length - (intOf a).toNat)
          case atStart => exact ⟨0, 0, by omega, rfl, ⟨by omega, by omega, fun _ => rfl, fun p h => by omega⟩, rfl, Below.refl _ _⟩
          case round =>
            obtain ⟨k, E, hk, rfl, hE, hsc, hB⟩ := hrel
            have HE := Lib.hid hE
            have HSC := Lib.hid hsc
            have kr := K0.out.below hB
            obtain ⟨c0, c1, c2, c3⟩ := kr.c4
            have HSr : Hid (SlAt wr 5 (.slice A l.length c) l.length (flat l)) := Lib.hid (HS0.out.below hB)
            clear hE hsc kr
            by_cases hlt : k < l.length
            · obtain ⟨x, hx⟩ : ∃ x, l[k]? = some x := ⟨_, List.getElem?_eq_getElem hlt⟩
              have hxw := HL.out x (List.mem_of_getElem? hx)
              have HC := Lib.hid (scan_cons (n := n) (E := E) hx)
              have hi : (k : Int) < l.length := by omega
              have HX := Lib.hid hx
              clear hx
              go_wp2_with fail
              refine (rslot_any g n r l k x E HX.out hn0 hn1 ⟨hxw.1.1, hxw.1.2, hxw.2.1.1⟩ HE.out.2.2.1 HE.out.2.2.2 HE.out.1 HE.out.2.1 _ wr HSr.out).mono ?_
              rintro e w1 ⟨rfl, hb1⟩
              have hB1 := bnext hB hb1
              by_cases hz : slotE n (l.take k) E x = 0
              · have hz' := slotE_zero.1 hz
                have HZ := Lib.hid hz
                rw [HZ.out]
                have hxo := hxw.1.1
                have hxs := hxw.2.1.1
                have HS2 : Hid (scan n (l.take (k + 1)) (x.off + x.size) (l.drop (k + 1)) = scan n [] 0 l) := hidI' (by rw [← HSC.out, HC.out, if_pos HZ.out])
                have hb0 : 0 ≤ x.off + x.size := by omega
                have hb2 : x.off + x.size ≤ 18446744073709551615 := by omega
                clear hz hz' hxw
                go_wp2_with fail
                go_roundw
                case rel => exact ⟨k + 1, x.off + x.size, by omega, by go_num, ⟨hb0, hb2, fun h => by omega, fun p _ hp => by
                    rw [Nat.add_sub_cancel, HX.out] at hp
                    cases hp
                    rfl⟩, HS2.out, hB1⟩
                case measure => simp [intOf]; omega
              · have F : Hid (chk ⟨g, n, r, l⟩ = (slotE n (l.take k) E x, (k : Int))) := by rw [R.out, ← HSC.out, HC.out, if_neg hz]; rfl
                have hne : (slotE n (l.take k) E x != 0) = true := by rw [bne_iff_ne]; exact hz
                clear hz hxw
                generalize slotE n (l.take k) E x = se at *
                go_wp2_with fail
                go_ret2
                exact ⟨by rw [F.out]; rfl, bnext hB0 hB1⟩
            · obtain rfl : k = l.length := by omega
              have F : Hid (chk ⟨g, n, r, l⟩ = (0, 0)) := by
                rw [R.out, ← HSC.out, List.drop_of_length_le (Nat.le_refl _)]
                rfl
              go_wp2_with fail
              go_ret2
              exact ⟨by rw [F.out]; rfl, bnext hB0 hB⟩

set_option maxHeartbeats 1000000 in
theorem rusable_any (g n r : Int) (v : Value) (w : World) (hg : g ≤ 18446744073709551615) (hn : 0 ≤ n) (hr : 0 ≤ r) (h : n + r ≤ g) (hv : ∃ A l c, v = .slice A l c) :
    Calls Try.prog 80 #[.agg #[.int .u64 g, .int .u64 n, .int .u64 r, v]] w (RetI .u64 (g - n - r) w) := by
  obtain ⟨A, l, c, rfl⟩ := hv
  go_enter Try.func80, Try.ntmps80
  go_wp2_with fail
  go_ret
  exact ⟨rfl, (by repeat (first | with_reducible exact Below.refl _ _ | with_reducible refine Below.drew ?_ | with_reducible refine below_drewN ?_ _ | with_reducible refine bal ?_ _ | with_reducible refine bset ?_ (by first | (simp; done) | (simp; omega)) _ | with_reducible refine bnext ?_ (by assumption) | with_reducible assumption))⟩
theorem okL_sum {s : Led} (hk : okL s) (hw : Wf s) : (0 ≤ s.g ∧ s.g ≤ 1125899906842624) ∧ 0 ≤ s.n ∧ 0 ≤ s.r ∧ s.n + s.r ≤ s.g := by
  have := okL_nums hk
  have a := hw.1
  have b := hw.2.1
  have c := hw.2.2.1
  omega
set_option maxHeartbeats 1000000 in
theorem rUsable_any (s : Led) (hw : Wf s) (v : Value) (w : World) (hS : SlAt w 5 v s.sl.length (flat s.sl)) :
    Calls Try.prog 43 #[.agg #[.int .u64 s.g, .int .u64 s.n, .int .u64 s.r, v]] w (Ret2 .u64 .i64 (usE s) (chk s).1 w) := by
  obtain ⟨A, c, rfl, hc1, hc2, _⟩ := id hS
  have HS := Lib.hid hS
  have HW := Lib.hid hw
  clear hS hw
  by_cases hk : okL s
  · have N := Lib.hid (okL_sum hk HW.out)
    have U : Hid (usE s = s.g - s.n - s.r) := hidI' (by unfold usE usab; rw [if_pos hk])
    have K : Hid ((chk s).1 = 0) := hk
    clear hk
    go_enter Try.func43, Try.ntmps43
    go_wp2_with fail
    refine (rCheck_any s HW.out _ _ (HS.out.alloc _)).mono ?_
    rintro e w1 ⟨rfl, hb1⟩
    rw [K.out]
    have hB1 : Below w.heap.size w w1 := bnext (bal (Below.refl _ _) _) hb1
    have k0 := (Blk.new w 25 #[.int .u64 s.g, .int .u64 s.n, .int .u64 s.r, .slice A s.sl.length c]).below hb1
    obtain ⟨c0, c1, c2, c3⟩ := k0.c4
    clear k0 hb1
    go_wp2_with fail
    refine (rusable_any s.g s.n s.r _ _ (by have := N.out; omega) (by have := N.out; omega) (by have := N.out; omega) (by have := N.out; omega) ⟨_, _, _, rfl⟩).mono ?_
    rintro e w2 ⟨rfl, hb2⟩
    rw [← U.out]
    generalize usE s = u at *
    go_wp2_with fail
    go_ret2
    exact ⟨by rw [K.out]; rfl, bnext hB1 hb2⟩
  · have U : Hid (usE s = 0) := hidI' (by unfold usE; rw [if_neg hk])
    have hne : ((chk s).1 != 0) = true := by rw [bne_iff_ne]; exact hk
    clear hk
    go_enter Try.func43, Try.ntmps43
    go_wp2_with fail
    refine (rCheck_any s HW.out _ _ (HS.out.alloc _)).mono ?_
    rintro e w1 ⟨rfl, hb1⟩
    go_wp2_with fail
    go_ret2
    exact ⟨by rw [U.out]; rfl, bnext (bal (Below.refl _ _) _) hb1⟩
set_option maxHeartbeats 1000000 in
theorem rFloor_any (s : Led) (hw : Wf s) (v : Value) (w : World) (hS : SlAt w 5 v s.sl.length (flat s.sl)) :
    Calls Try.prog 48 #[.agg #[.int .u64 s.g, .int .u64 s.n, .int .u64 s.r, v]] w (Ret2 .u64 .i64 (flE s) (chk s).1 w) := by
  obtain ⟨A, c, rfl, hc1, hc2, _⟩ := id hS
  have HS := Lib.hid hS
  have HW := Lib.hid hw
  clear hS hw
  by_cases hk : okL s
  · have U : Hid (flE s = flr s) := hidI' (by unfold flE; rw [if_pos hk])
    have K : Hid ((chk s).1 = 0) := hk
    have hl100 := okL_len hk
    clear hk
    go_enter Try.func48, Try.ntmps48
    go_wp2_with fail
    refine (rCheck_any s HW.out _ _ (HS.out.alloc _)).mono ?_
    rintro e w1 ⟨rfl, hb1⟩
    rw [K.out]
    have hB1 : Below w.heap.size w w1 := bnext (bal (Below.refl _ _) _) hb1
    have k0 := (Blk.new w 25 #[.int .u64 s.g, .int .u64 s.n, .int .u64 s.r, .slice A s.sl.length c]).below hb1
    obtain ⟨c0, c1, c2, c3⟩ := k0.c4
    have hS1 := HS.out.below hB1
    clear k0 hb1
    obtain ⟨g, n, r, l⟩ := s
    dsimp only at *
    cases l with
    | nil =>
      clear hS1
      go_wp2_with fail
      go_ret2
      exact ⟨by rw [U.out, K.out]; rfl, hB1⟩
    | cons x l =>
      obtain ⟨A', c', e, _, _, hR⟩ := hS1
      cases e
      obtain ⟨b, o, rfl, hb, d0, _⟩ := slot_cells hR rfl (k := 0) (x := x) rfl
      rw [Nat.zero_mul, Nat.add_zero] at d0
      have hl : (0 : Int) < ((x :: l).length : Int) := by simp only [List.length_cons]; omega
      generalize (x :: l).length = ln at *
      clear hR
      go_wp2_with fail
      go_ret2
      exact ⟨by rw [U.out, K.out]; rfl, hB1⟩
  · have U : Hid (flE s = 0) := hidI' (by unfold flE; rw [if_neg hk])
    have hne : ((chk s).1 != 0) = true := by rw [bne_iff_ne]; exact hk
    clear hk
    go_enter Try.func48, Try.ntmps48
    go_wp2_with fail
    refine (rCheck_any s HW.out _ _ (HS.out.alloc _)).mono ?_
    rintro e w1 ⟨rfl, hb1⟩
    go_wp2_with fail
    go_ret2
    exact ⟨by rw [U.out]; rfl, bnext (bal (Below.refl _ _) _) hb1⟩
end Go.Proofs.Ytfgkkflbpfocjaa

namespace Go.Proofs.Ytfgkkflbpfocjaa
open Go.RowKit
set_option linter.unusedVariables false
set_option linter.unusedSimpArgs false

theorem run_add (x y : Int) (hx : 0 ≤ x) (hy : 0 ≤ y) (w : World) : (callFunc 79 #[.int .u64 x, .int .u64 y, .int .u64 0]).run Try.prog w = .ok (.value (.tuple #[.int .u64 ((x + y) % 18446744073709551616), .int .u64 ((x + y) / 18446744073709551616)])) w := by
  rw [run_callFunc_extern (P := Try.prog) (fn := Try.f79) Try.func79 (by rfl) (by rfl) (by kernel_rfl) (e := add64Entry) (by rfl), run_add64 x y 0 hx hy (by decide) (by decide)]
  simp [Result.andThen]


set_option maxRecDepth 100000 in
set_option maxHeartbeats 8000000 in
theorem pempty_any (node th old : Int) (su : Bool) (g n r : Int) (S : List Sl) (a b f : Int) (T : List Rg) (K : List Int) (As At Ak : Option Addr) (cs ct ck : Nat) (w : World) :
    Calls Try.prog 62 #[.agg #[.int .i64 node, .int .u64 th, .bool su, .int .u64 old, .int .u64 g, .int .u64 n, .int .u64 r, .slice As S.length cs, .int .u64 a, .int .u64 b, .int .u64 f, .slice At T.length ct, .slice Ak K.length ck]] w (RetB (decide (Pr.empty ⟨node, th, su, old, ⟨g, n, r, S⟩, ⟨a, b, f, T, K⟩⟩)) w) := by
  obtain ⟨ee, hee⟩ : ∃ ee, decide (Pr.empty ⟨node, th, su, old, ⟨g, n, r, S⟩, ⟨a, b, f, T, K⟩⟩) = ee := ⟨_, rfl⟩
  have EE := Lib.hid hee
  rw [hee]
  clear hee
  go_enter Try.func62, Try.ntmps62
  go_upto_region 1 with fail
  have kb0 : BK w w.heap.size 31 #[.int .i64 node, .int .u64 th, .bool su, .int .u64 old, .int .u64 g, .int .u64 n, .int .u64 r, .slice As S.length cs, .int .u64 a, .int .u64 b, .int .u64 f, .slice At T.length ct, .slice Ak K.length ck] (w.alloc (.cells #[.int .i64 node, .int .u64 th, .bool su, .int .u64 old, .int .u64 g, .int .u64 n, .int .u64 r, .slice As S.length cs, .int .u64 a, .int .u64 b, .int .u64 f, .slice At T.length ct, .slice Ak K.length ck] 31)) := ⟨Blk.new _ _ _, bal (Below.refl _ _) _⟩
  obtain ⟨g0, hg0⟩ : ∃ g0, w.heap.size = g0 := ⟨_, rfl⟩
  rw [hg0] at kb0 ⊢
  have HG0 := Lib.hid hg0
  clear hg0
  generalize w.alloc (.cells #[.int .i64 node, .int .u64 th, .bool su, .int .u64 old, .int .u64 g, .int .u64 n, .int .u64 r, .slice As S.length cs, .int .u64 a, .int .u64 b, .int .u64 f, .slice At T.length ct, .slice Ak K.length ck] 31) = w1 at kb0 ⊢
  have KB := Lib.hid kb0
  obtain ⟨x0, x1, x2, x3, x4, x5, x6, x7, x8, x9, x10, x11, x12⟩ := kb0.b.c13
  have hl0 := kb0.b.lt
  clear kb0
  go_cut [3, 4] (fun s3 s4 wx => ∃ g3 g4, s3 = .pointer (some ⟨g3, 0, none⟩) ∧ s4 = .pointer (some ⟨g4, 0, none⟩) ∧ Blk wx g0 31 #[.int .i64 node, .int .u64 th, .bool su, .int .u64 old, .int .u64 g, .int .u64 n, .int .u64 r, .slice As S.length cs, .int .u64 a, .int .u64 b, .int .u64 f, .slice At T.length ct, .slice Ak K.length ck] ∧ Blk wx g3 25 #[.int .u64 g, .int .u64 n, .int .u64 r, .slice As S.length cs] ∧ Blk wx g4 29 #[.int .u64 a, .int .u64 b, .int .u64 f, .slice At T.length ct, .slice Ak K.length ck] ∧ Below w.heap.size w wx)
  case first =>
    go_region
    all_goals
      go_wp2_with fail
      go_meet
      first
      | exact ⟨_, _, rfl, rfl, ((KB.out.b.drewN _).alloc _).alloc _, (Blk.new _ _ _).alloc _, by (first | exact Blk.new1 _ _ _ _ | exact Blk.new _ _ _), bal (bal (below_drewN KB.out.hB _) _) _⟩
      | exact ⟨_, _, rfl, rfl, ((KB.out.b.drewN _).alloc _).alloc _, by (first | exact Blk.new1 _ _ _ _ | exact Blk.new _ _ _), (Blk.new _ _ _).alloc _, bal (bal (below_drewN KB.out.hB _) _) _⟩
  case rest =>
    obtain ⟨g3, g4, rfl, rfl, kp, ks, kr, hB⟩ := hcut
    have HB := Lib.hid hB
    clear x0 x1 x2 x3 x4 x5 x6 x7 x8 x9 x10 x11 x12 hl0 KB hB
    obtain ⟨x0, x1, x2, x3, x4, x5, x6, x7, x8, x9, x10, x11, x12⟩ := kp.c13
    obtain ⟨y0, y1, y2, y3⟩ := ks.c4
    obtain ⟨z0, z1, z2, z3, z4⟩ := kr.c5
    have hl0 := kp.lt
    have hl1 := ks.lt
    have hl2 := kr.lt
    clear kp ks kr
    cases su with
    | true =>
      have R : Hid (ee = false) := Lib.hid (by rw [← EE.out]; exact decide_eq_false (fun h => by have := h.1; cases this))
      go_wp2_with fail
      go_ret
      exact ⟨by rw [R.out]; rfl, HB.out⟩
    | false =>
      by_cases q1 : old = 0
      case neg =>
        have qb1 : (old == 0) = false := beq_eq_false_iff_ne.2 (by omega)
        have R : Hid (ee = false) := Lib.hid (by rw [← EE.out]; exact decide_eq_false (fun h => q1 (h.2.1)))
        clear q1
        go_wp2_with fail
        go_ret
        exact ⟨by rw [R.out]; rfl, HB.out⟩
      have qb1 : (old == 0) = true := by simp [q1]
      have Q1 := Lib.hid q1
      clear q1
      by_cases q2 : g = 0
      case neg =>
        have qb2 : (g == 0) = false := beq_eq_false_iff_ne.2 (by omega)
        have R : Hid (ee = false) := Lib.hid (by rw [← EE.out]; exact decide_eq_false (fun h => q2 (h.2.2.1)))
        clear q2
        go_wp2_with fail
        go_ret
        exact ⟨by rw [R.out]; rfl, HB.out⟩
      have qb2 : (g == 0) = true := by simp [q2]
      have Q2 := Lib.hid q2
      clear q2
      by_cases q3 : n = 0
      case neg =>
        have qb3 : (n == 0) = false := beq_eq_false_iff_ne.2 (by omega)
        have R : Hid (ee = false) := Lib.hid (by rw [← EE.out]; exact decide_eq_false (fun h => q3 (h.2.2.2.1)))
        clear q3
        go_wp2_with fail
        go_ret
        exact ⟨by rw [R.out]; rfl, HB.out⟩
      have qb3 : (n == 0) = true := by simp [q3]
      have Q3 := Lib.hid q3
      clear q3
      by_cases q4 : r = 0
      case neg =>
        have qb4 : (r == 0) = false := beq_eq_false_iff_ne.2 (by omega)
        have R : Hid (ee = false) := Lib.hid (by rw [← EE.out]; exact decide_eq_false (fun h => q4 (h.2.2.2.2.1)))
        clear q4
        go_wp2_with fail
        go_ret
        exact ⟨by rw [R.out]; rfl, HB.out⟩
      have qb4 : (r == 0) = true := by simp [q4]
      have Q4 := Lib.hid q4
      clear q4
      by_cases q5 : S.length = 0
      case neg =>
        have qb5 : ((S.length : Int) == 0) = false := beq_eq_false_iff_ne.2 (by omega)
        have R : Hid (ee = false) := Lib.hid (by rw [← EE.out]; exact decide_eq_false (fun h => q5 (h.2.2.2.2.2.1)))
        clear q5
        go_wp2_with fail
        go_ret
        exact ⟨by rw [R.out]; rfl, HB.out⟩
      have qb5 : ((S.length : Int) == 0) = true := by simp [q5]
      have Q5 := Lib.hid q5
      clear q5
      by_cases q6 : a = 0
      case neg =>
        have qb6 : (a == 0) = false := beq_eq_false_iff_ne.2 (by omega)
        have R : Hid (ee = false) := Lib.hid (by rw [← EE.out]; exact decide_eq_false (fun h => q6 (h.2.2.2.2.2.2.1)))
        clear q6
        go_wp2_with fail
        go_ret
        exact ⟨by rw [R.out]; rfl, HB.out⟩
      have qb6 : (a == 0) = true := by simp [q6]
      have Q6 := Lib.hid q6
      clear q6
      by_cases q7 : b = 0
      case neg =>
        have qb7 : (b == 0) = false := beq_eq_false_iff_ne.2 (by omega)
        have R : Hid (ee = false) := Lib.hid (by rw [← EE.out]; exact decide_eq_false (fun h => q7 (h.2.2.2.2.2.2.2.1)))
        clear q7
        go_wp2_with fail
        go_ret
        exact ⟨by rw [R.out]; rfl, HB.out⟩
      have qb7 : (b == 0) = true := by simp [q7]
      have Q7 := Lib.hid q7
      clear q7
      by_cases q8 : f = 0
      case neg =>
        have qb8 : (f == 0) = false := beq_eq_false_iff_ne.2 (by omega)
        have R : Hid (ee = false) := Lib.hid (by rw [← EE.out]; exact decide_eq_false (fun h => q8 (h.2.2.2.2.2.2.2.2.1)))
        clear q8
        go_wp2_with fail
        go_ret
        exact ⟨by rw [R.out]; rfl, HB.out⟩
      have qb8 : (f == 0) = true := by simp [q8]
      have Q8 := Lib.hid q8
      clear q8
      by_cases q9 : T.length = 0
      case neg =>
        have qb9 : ((T.length : Int) == 0) = false := beq_eq_false_iff_ne.2 (by omega)
        have R : Hid (ee = false) := Lib.hid (by rw [← EE.out]; exact decide_eq_false (fun h => q9 (h.2.2.2.2.2.2.2.2.2.1)))
        clear q9
        go_wp2_with fail
        go_ret
        exact ⟨by rw [R.out]; rfl, HB.out⟩
      have qb9 : ((T.length : Int) == 0) = true := by simp [q9]
      have Q9 := Lib.hid q9
      clear q9
      by_cases q10 : K.length = 0
      case neg =>
        have qb10 : ((K.length : Int) == 0) = false := beq_eq_false_iff_ne.2 (by omega)
        have R : Hid (ee = false) := Lib.hid (by rw [← EE.out]; exact decide_eq_false (fun h => q10 (h.2.2.2.2.2.2.2.2.2.2)))
        clear q10
        go_wp2_with fail
        go_ret
        exact ⟨by rw [R.out]; rfl, HB.out⟩
      have qb10 : ((K.length : Int) == 0) = true := by simp [q10]
      have Q10 := Lib.hid q10
      clear q10
      have R : Hid (ee = true) := Lib.hid (by rw [← EE.out]; exact decide_eq_true ⟨rfl, Q1.out, Q2.out, Q3.out, Q4.out, Q5.out, Q6.out, Q7.out, Q8.out, Q9.out, Q10.out⟩)
      go_wp2_with fail
      go_ret
      exact ⟨by rw [R.out]; rfl, HB.out⟩

set_option maxRecDepth 100000 in
set_option maxHeartbeats 8000000 in
theorem rempty_any (node th old : Int) (su : Bool) (g n r : Int) (S : List Sl) (a b f : Int) (T : List Rg) (K : List Int) (As At Ak : Option Addr) (cs ct ck : Nat) (w : World) :
    Calls Try.prog 65 #[.agg #[.int .i64 node, .int .u64 th, .bool su, .int .u64 old, .int .u64 g, .int .u64 n, .int .u64 r, .slice As S.length cs, .int .u64 a, .int .u64 b, .int .u64 f, .slice At T.length ct, .slice Ak K.length ck]] w (RetB (decide (th = 0 ∧ Pr.empty ⟨node, th, su, old, ⟨g, n, r, S⟩, ⟨a, b, f, T, K⟩⟩)) w) := by
  obtain ⟨ee, hee⟩ : ∃ ee, decide (th = 0 ∧ Pr.empty ⟨node, th, su, old, ⟨g, n, r, S⟩, ⟨a, b, f, T, K⟩⟩) = ee := ⟨_, rfl⟩
  have EE := Lib.hid hee
  rw [hee]
  clear hee
  go_enter Try.func65, Try.ntmps65
  go_upto_region 1 with fail
  have kb0 : BK w w.heap.size 31 #[.int .i64 node, .int .u64 th, .bool su, .int .u64 old, .int .u64 g, .int .u64 n, .int .u64 r, .slice As S.length cs, .int .u64 a, .int .u64 b, .int .u64 f, .slice At T.length ct, .slice Ak K.length ck] (w.alloc (.cells #[.int .i64 node, .int .u64 th, .bool su, .int .u64 old, .int .u64 g, .int .u64 n, .int .u64 r, .slice As S.length cs, .int .u64 a, .int .u64 b, .int .u64 f, .slice At T.length ct, .slice Ak K.length ck] 31)) := ⟨Blk.new _ _ _, bal (Below.refl _ _) _⟩
  obtain ⟨g0, hg0⟩ : ∃ g0, w.heap.size = g0 := ⟨_, rfl⟩
  rw [hg0] at kb0 ⊢
  have HG0 := Lib.hid hg0
  clear hg0
  generalize w.alloc (.cells #[.int .i64 node, .int .u64 th, .bool su, .int .u64 old, .int .u64 g, .int .u64 n, .int .u64 r, .slice As S.length cs, .int .u64 a, .int .u64 b, .int .u64 f, .slice At T.length ct, .slice Ak K.length ck] 31) = w1 at kb0 ⊢
  have KB := Lib.hid kb0
  obtain ⟨x0, x1, x2, x3, x4, x5, x6, x7, x8, x9, x10, x11, x12⟩ := kb0.b.c13
  have hl0 := kb0.b.lt
  clear kb0
  go_cut [3, 4] (fun s3 s4 wx => ∃ g3 g4, s3 = .pointer (some ⟨g3, 0, none⟩) ∧ s4 = .pointer (some ⟨g4, 0, none⟩) ∧ Blk wx g0 31 #[.int .i64 node, .int .u64 th, .bool su, .int .u64 old, .int .u64 g, .int .u64 n, .int .u64 r, .slice As S.length cs, .int .u64 a, .int .u64 b, .int .u64 f, .slice At T.length ct, .slice Ak K.length ck] ∧ Blk wx g3 25 #[.int .u64 g, .int .u64 n, .int .u64 r, .slice As S.length cs] ∧ Blk wx g4 29 #[.int .u64 a, .int .u64 b, .int .u64 f, .slice At T.length ct, .slice Ak K.length ck] ∧ Below w.heap.size w wx)
  case first =>
    go_region
    all_goals
      go_wp2_with fail
      go_meet
      first
      | exact ⟨_, _, rfl, rfl, ((KB.out.b.drewN _).alloc _).alloc _, (Blk.new _ _ _).alloc _, by (first | exact Blk.new1 _ _ _ _ | exact Blk.new _ _ _), bal (bal (below_drewN KB.out.hB _) _) _⟩
      | exact ⟨_, _, rfl, rfl, ((KB.out.b.drewN _).alloc _).alloc _, by (first | exact Blk.new1 _ _ _ _ | exact Blk.new _ _ _), (Blk.new _ _ _).alloc _, bal (bal (below_drewN KB.out.hB _) _) _⟩
  case rest =>
    obtain ⟨g3, g4, rfl, rfl, kp, ks, kr, hB⟩ := hcut
    have HB := Lib.hid hB
    clear x0 x1 x2 x3 x4 x5 x6 x7 x8 x9 x10 x11 x12 hl0 KB hB
    obtain ⟨x0, x1, x2, x3, x4, x5, x6, x7, x8, x9, x10, x11, x12⟩ := kp.c13
    obtain ⟨y0, y1, y2, y3⟩ := ks.c4
    obtain ⟨z0, z1, z2, z3, z4⟩ := kr.c5
    have hl0 := kp.lt
    have hl1 := ks.lt
    have hl2 := kr.lt
    clear kp ks kr
    by_cases q0 : th = 0
    case neg =>
      have qb0 : (th == 0) = false := beq_eq_false_iff_ne.2 (by omega)
      have R : Hid (ee = false) := Lib.hid (by rw [← EE.out]; exact decide_eq_false (fun h => q0 (h.1)))
      clear q0
      go_wp2_with fail
      go_ret
      exact ⟨by rw [R.out]; rfl, HB.out⟩
    have qb0 : (th == 0) = true := by simp [q0]
    have Q0 := Lib.hid q0
    clear q0
    cases su with
    | true =>
      have R : Hid (ee = false) := Lib.hid (by rw [← EE.out]; exact decide_eq_false (fun h => by have := h.2.1; cases this))
      go_wp2_with fail
      go_ret
      exact ⟨by rw [R.out]; rfl, HB.out⟩
    | false =>
      by_cases q2 : old = 0
      case neg =>
        have qb2 : (old == 0) = false := beq_eq_false_iff_ne.2 (by omega)
        have R : Hid (ee = false) := Lib.hid (by rw [← EE.out]; exact decide_eq_false (fun h => q2 (h.2.2.1)))
        clear q2
        go_wp2_with fail
        go_ret
        exact ⟨by rw [R.out]; rfl, HB.out⟩
      have qb2 : (old == 0) = true := by simp [q2]
      have Q2 := Lib.hid q2
      clear q2
      by_cases q3 : g = 0
      case neg =>
        have qb3 : (g == 0) = false := beq_eq_false_iff_ne.2 (by omega)
        have R : Hid (ee = false) := Lib.hid (by rw [← EE.out]; exact decide_eq_false (fun h => q3 (h.2.2.2.1)))
        clear q3
        go_wp2_with fail
        go_ret
        exact ⟨by rw [R.out]; rfl, HB.out⟩
      have qb3 : (g == 0) = true := by simp [q3]
      have Q3 := Lib.hid q3
      clear q3
      by_cases q4 : n = 0
      case neg =>
        have qb4 : (n == 0) = false := beq_eq_false_iff_ne.2 (by omega)
        have R : Hid (ee = false) := Lib.hid (by rw [← EE.out]; exact decide_eq_false (fun h => q4 (h.2.2.2.2.1)))
        clear q4
        go_wp2_with fail
        go_ret
        exact ⟨by rw [R.out]; rfl, HB.out⟩
      have qb4 : (n == 0) = true := by simp [q4]
      have Q4 := Lib.hid q4
      clear q4
      by_cases q5 : r = 0
      case neg =>
        have qb5 : (r == 0) = false := beq_eq_false_iff_ne.2 (by omega)
        have R : Hid (ee = false) := Lib.hid (by rw [← EE.out]; exact decide_eq_false (fun h => q5 (h.2.2.2.2.2.1)))
        clear q5
        go_wp2_with fail
        go_ret
        exact ⟨by rw [R.out]; rfl, HB.out⟩
      have qb5 : (r == 0) = true := by simp [q5]
      have Q5 := Lib.hid q5
      clear q5
      by_cases q6 : S.length = 0
      case neg =>
        have qb6 : ((S.length : Int) == 0) = false := beq_eq_false_iff_ne.2 (by omega)
        have R : Hid (ee = false) := Lib.hid (by rw [← EE.out]; exact decide_eq_false (fun h => q6 (h.2.2.2.2.2.2.1)))
        clear q6
        go_wp2_with fail
        go_ret
        exact ⟨by rw [R.out]; rfl, HB.out⟩
      have qb6 : ((S.length : Int) == 0) = true := by simp [q6]
      have Q6 := Lib.hid q6
      clear q6
      by_cases q7 : a = 0
      case neg =>
        have qb7 : (a == 0) = false := beq_eq_false_iff_ne.2 (by omega)
        have R : Hid (ee = false) := Lib.hid (by rw [← EE.out]; exact decide_eq_false (fun h => q7 (h.2.2.2.2.2.2.2.1)))
        clear q7
        go_wp2_with fail
        go_ret
        exact ⟨by rw [R.out]; rfl, HB.out⟩
      have qb7 : (a == 0) = true := by simp [q7]
      have Q7 := Lib.hid q7
      clear q7
      by_cases q8 : b = 0
      case neg =>
        have qb8 : (b == 0) = false := beq_eq_false_iff_ne.2 (by omega)
        have R : Hid (ee = false) := Lib.hid (by rw [← EE.out]; exact decide_eq_false (fun h => q8 (h.2.2.2.2.2.2.2.2.1)))
        clear q8
        go_wp2_with fail
        go_ret
        exact ⟨by rw [R.out]; rfl, HB.out⟩
      have qb8 : (b == 0) = true := by simp [q8]
      have Q8 := Lib.hid q8
      clear q8
      by_cases q9 : f = 0
      case neg =>
        have qb9 : (f == 0) = false := beq_eq_false_iff_ne.2 (by omega)
        have R : Hid (ee = false) := Lib.hid (by rw [← EE.out]; exact decide_eq_false (fun h => q9 (h.2.2.2.2.2.2.2.2.2.1)))
        clear q9
        go_wp2_with fail
        go_ret
        exact ⟨by rw [R.out]; rfl, HB.out⟩
      have qb9 : (f == 0) = true := by simp [q9]
      have Q9 := Lib.hid q9
      clear q9
      by_cases q10 : T.length = 0
      case neg =>
        have qb10 : ((T.length : Int) == 0) = false := beq_eq_false_iff_ne.2 (by omega)
        have R : Hid (ee = false) := Lib.hid (by rw [← EE.out]; exact decide_eq_false (fun h => q10 (h.2.2.2.2.2.2.2.2.2.2.1)))
        clear q10
        go_wp2_with fail
        go_ret
        exact ⟨by rw [R.out]; rfl, HB.out⟩
      have qb10 : ((T.length : Int) == 0) = true := by simp [q10]
      have Q10 := Lib.hid q10
      clear q10
      by_cases q11 : K.length = 0
      case neg =>
        have qb11 : ((K.length : Int) == 0) = false := beq_eq_false_iff_ne.2 (by omega)
        have R : Hid (ee = false) := Lib.hid (by rw [← EE.out]; exact decide_eq_false (fun h => q11 (h.2.2.2.2.2.2.2.2.2.2.2)))
        clear q11
        go_wp2_with fail
        go_ret
        exact ⟨by rw [R.out]; rfl, HB.out⟩
      have qb11 : ((K.length : Int) == 0) = true := by simp [q11]
      have Q11 := Lib.hid q11
      clear q11
      have R : Hid (ee = true) := Lib.hid (by rw [← EE.out]; exact decide_eq_true ⟨Q0.out, rfl, Q2.out, Q3.out, Q4.out, Q5.out, Q6.out, Q7.out, Q8.out, Q9.out, Q10.out, Q11.out⟩)
      go_wp2_with fail
      go_ret
      exact ⟨by rw [R.out]; rfl, HB.out⟩
end Go.Proofs.Ytfgkkflbpfocjaa

namespace Go.Proofs.Ytfgkkflbpfocjaa
open Go.RowKit
set_option linter.unusedVariables false
set_option linter.unusedSimpArgs false

theorem boots_any (b : Int) (w : World) : Calls Try.prog 42 #[.int .u64 b] w (RetI .i64 (if bootOk b then 0 else 2) w) := by
  obtain ⟨e, he⟩ : ∃ e : Int, (if bootOk b then 0 else 2) = e := ⟨_, rfl⟩
  have E := Lib.hid he
  rw [he]
  clear he
  by_cases h1 : b < 1
  · have R : Hid (e = 2) := Lib.hid (by rw [← E.out, if_neg (fun h => by have := h.1; omega)])
    go_enter Try.func42, Try.ntmps42
    go_wp2_with fail
    go_ret
    exact ⟨by rw [R.out]; rfl, Below.refl _ _⟩
  · by_cases h2 : b > 1099511627776
    · have R : Hid (e = 2) := Lib.hid (by rw [← E.out, if_neg (fun h => by have := h.2; omega)])
      go_enter Try.func42, Try.ntmps42
      go_wp2_with fail
      go_ret
      exact ⟨by rw [R.out]; rfl, Below.refl _ _⟩
    · have R : Hid (e = 0) := Lib.hid (by rw [← E.out, if_pos ⟨by omega, by omega⟩])
      go_enter Try.func42, Try.ntmps42
      go_wp2_with fail
      go_ret
      exact ⟨by rw [R.out]; rfl, Below.refl _ _⟩


set_option maxRecDepth 100000 in
set_option maxHeartbeats 8000000 in
theorem pCheck_any (p : Pr) (hw : WfP p) (V : Value) (w : World) (hV : PrAt w V p) : Calls Try.prog 20 #[V] w (RetI .i64 (chkP p) w) := by
  obtain ⟨vs, vt, vk, rfl, hs, ht, hk⟩ := hV
  obtain ⟨As, cs, rfl⟩ := hs.form
  obtain ⟨At, ct, rfl⟩ := ht.form
  obtain ⟨Ak, ck, rfl⟩ := hk.form
  have HS := Lib.hid hs
  have HT := Lib.hid ht
  have HK := Lib.hid hk
  have SC := Lib.hid (fun v w h => Check_any p.s hw.s v w h)
  have RC := Lib.hid (fun vt vk w h1 h2 => vCheck_any p.r hw.r vt vk w h1 h2)
  obtain ⟨es, hes⟩ : ∃ es, (chk p.s).1 = es := ⟨_, rfl⟩
  obtain ⟨es2, hes2⟩ : ∃ es, (chk p.s).2 = es := ⟨_, rfl⟩
  obtain ⟨er, her⟩ : ∃ er, (chkR p.r).1 = er := ⟨_, rfl⟩
  obtain ⟨er2, her2⟩ : ∃ er : Int, (((chkR p.r).2 : Nat) : Int) = er := ⟨_, rfl⟩
  have SC2 : Hid (∀ v w, SlsAt w v p.s.sl → Calls Try.prog 60 #[.agg #[.int .u64 p.s.g, .int .u64 p.s.n, .int .u64 p.s.r, v]] w (Ret2 .i64 .i64 es es2 w)) := Lib.hid (fun v w h => by have := SC.out v w h; rw [hes, hes2] at this; exact this)
  have RC2 : Hid (∀ vt vk w, RgsAt w vt p.r.tk → KpsAt w vk p.r.kp → Calls Try.prog 61 #[.agg #[.int .u64 p.r.g, .int .u64 p.r.r, .int .u64 p.r.fl, vt, vk]] w (Ret2 .i64 .i64 er er2 w)) := Lib.hid (fun vt vk w h1 h2 => by have := RC.out vt vk w h1 h2; rw [her, her2] at this; exact this)
  obtain ⟨cp, hcp⟩ : ∃ cp, chkP p = cp := ⟨_, rfl⟩
  have CP : Hid (cp = if p.out then 2 else if es ≠ 0 then es else if er ≠ 0 then er else if p.theirs = 0 ∧ ¬ p.empty then 12 else 0) := Lib.hid (by rw [← hcp, ← hes, ← her]; rfl)
  rw [hcp]
  clear hs ht hk hes hes2 her her2 hcp SC RC hw
  obtain ⟨node, th, su, old, ⟨g, n, r, S⟩, ⟨a, b, f, T, K⟩⟩ := p
  dsimp only at *
  have EM := Lib.hid (fun w => pempty_any node th old su g n r S a b f T K As At Ak cs ct ck w)
  obtain ⟨ee, hee⟩ : ∃ ee, decide (Pr.empty ⟨node, th, su, old, ⟨g, n, r, S⟩, ⟨a, b, f, T, K⟩⟩) = ee := ⟨_, rfl⟩
  have EE := Lib.hid hee
  rw [hee] at EM
  clear hee

  by_cases o0 : node < 1
  case pos =>
    have R := Lib.hid (CP.out.trans (if_pos (show Pr.out ⟨node, th, su, old, ⟨g, n, r, S⟩, ⟨a, b, f, T, K⟩⟩ from .inl o0)))
    go_enter Try.func20, Try.ntmps20
    go_wp2_with fail
    go_ret
    exact ⟨by rw [R.out]; rfl, (by repeat (first | with_reducible exact Below.refl _ _ | with_reducible refine Below.drew ?_ | with_reducible refine below_drewN ?_ _ | with_reducible refine bal ?_ _ | with_reducible refine bset ?_ (by first | (simp; done) | (simp; omega)) _ | with_reducible refine bnext ?_ (by assumption) | with_reducible assumption))⟩
  by_cases o1 : node > 16
  case pos =>
    have R := Lib.hid (CP.out.trans (if_pos (show Pr.out ⟨node, th, su, old, ⟨g, n, r, S⟩, ⟨a, b, f, T, K⟩⟩ from .inr (.inl o1))))
    go_enter Try.func20, Try.ntmps20
    go_wp2_with fail
    go_ret
    exact ⟨by rw [R.out]; rfl, (by repeat (first | with_reducible exact Below.refl _ _ | with_reducible refine Below.drew ?_ | with_reducible refine below_drewN ?_ _ | with_reducible refine bal ?_ _ | with_reducible refine bset ?_ (by first | (simp; done) | (simp; omega)) _ | with_reducible refine bnext ?_ (by assumption) | with_reducible assumption))⟩
  by_cases o2 : th > 1099511627776
  case pos =>
    have R := Lib.hid (CP.out.trans (if_pos (show Pr.out ⟨node, th, su, old, ⟨g, n, r, S⟩, ⟨a, b, f, T, K⟩⟩ from .inr (.inr (.inl o2)))))
    go_enter Try.func20, Try.ntmps20
    go_wp2_with fail
    go_ret
    exact ⟨by rw [R.out]; rfl, (by repeat (first | with_reducible exact Below.refl _ _ | with_reducible refine Below.drew ?_ | with_reducible refine below_drewN ?_ _ | with_reducible refine bal ?_ _ | with_reducible refine bset ?_ (by first | (simp; done) | (simp; omega)) _ | with_reducible refine bnext ?_ (by assumption) | with_reducible assumption))⟩
  by_cases o3 : old > 1125899906842624
  case pos =>
    have R := Lib.hid (CP.out.trans (if_pos (show Pr.out ⟨node, th, su, old, ⟨g, n, r, S⟩, ⟨a, b, f, T, K⟩⟩ from .inr (.inr (.inr o3)))))
    go_enter Try.func20, Try.ntmps20
    go_wp2_with fail
    go_ret
    exact ⟨by rw [R.out]; rfl, (by repeat (first | with_reducible exact Below.refl _ _ | with_reducible refine Below.drew ?_ | with_reducible refine below_drewN ?_ _ | with_reducible refine bal ?_ _ | with_reducible refine bset ?_ (by first | (simp; done) | (simp; omega)) _ | with_reducible refine bnext ?_ (by assumption) | with_reducible assumption))⟩
  have CP1 := Lib.hid (CP.out.trans (if_neg (show ¬ Pr.out ⟨node, th, su, old, ⟨g, n, r, S⟩, ⟨a, b, f, T, K⟩⟩ from fun h => h.elim o0 (fun h => h.elim o1 (fun h => h.elim o2 o3)))))
  clear CP
  go_enter Try.func20, Try.ntmps20
  go_wp2_with fail
  have k0 := Blk.new w 31 #[.int .i64 node, .int .u64 th, .bool su, .int .u64 old, .int .u64 g, .int .u64 n, .int .u64 r, .slice As S.length cs, .int .u64 a, .int .u64 b, .int .u64 f, .slice At T.length ct, .slice Ak K.length ck]
  have hB := bal (Below.refl w.heap.size w) (.cells #[.int .i64 node, .int .u64 th, .bool su, .int .u64 old, .int .u64 g, .int .u64 n, .int .u64 r, .slice As S.length cs, .int .u64 a, .int .u64 b, .int .u64 f, .slice At T.length ct, .slice Ak K.length ck] 31)
  refine (SC2.out _ _ (HS.out.below hB)).mono ?_
  rintro e w1 ⟨rfl, hb1⟩
  have kk : BK w w.heap.size 31 #[.int .i64 node, .int .u64 th, .bool su, .int .u64 old, .int .u64 g, .int .u64 n, .int .u64 r, .slice As S.length cs, .int .u64 a, .int .u64 b, .int .u64 f, .slice At T.length ct, .slice Ak K.length ck] w1 := ⟨k0.below hb1, bnext hB hb1⟩
  clear k0 hB hb1 SC2
  obtain ⟨g0, hg0⟩ : ∃ g0, w.heap.size = g0 := ⟨_, rfl⟩
  have HG0 := Lib.hid hg0
  rw [hg0] at kk ⊢
  clear hg0
  obtain ⟨x0, x1, x2, x3, x4, x5, x6, x7, x8, x9, x10, x11, x12⟩ := kk.b.c13
  have hl0 := kk.b.lt
  have K1 := Lib.hid kk
  clear kk
  by_cases s0 : es = 0
  case neg =>
    have R := Lib.hid (CP1.out.trans (if_pos s0))
    have sb : (es != 0) = true := by simpa using s0
    have sb' : (es == 0) = false := by simpa using s0
    clear s0
    go_wp2_with fail
    go_ret
    exact ⟨by rw [R.out]; rfl, K1.out.hB⟩
  have CP2 := Lib.hid (CP1.out.trans (if_neg (fun h => h s0)))
  subst s0
  go_wp2_with fail
  refine (RC2.out _ _ _ (HT.out.below K1.out.hB) (HK.out.below K1.out.hB)).mono ?_
  rintro e w2 ⟨rfl, hb2⟩
  have kk := K1.out.below hb2
  clear hb2 RC2 x0 x1 x2 x3 x4 x5 x6 x7 x8 x9 x10 x11 x12 hl0 K1 CP1
  obtain ⟨x0, x1, x2, x3, x4, x5, x6, x7, x8, x9, x10, x11, x12⟩ := kk.b.c13
  have hl0 := kk.b.lt
  have K1 := Lib.hid kk
  clear kk
  by_cases r0 : er = 0
  case neg =>
    have R := Lib.hid (CP2.out.trans (if_pos r0))
    have sb : (er != 0) = true := by simpa using r0
    have sb' : (er == 0) = false := by simpa using r0
    clear r0
    go_wp2_with fail
    go_ret
    exact ⟨by rw [R.out]; rfl, K1.out.hB⟩
  have CP3 := Lib.hid (CP2.out.trans (if_neg (fun h => h r0)))
  subst r0
  clear CP2
  by_cases t0 : th = 0
  case neg =>
    have R := Lib.hid (CP3.out.trans (if_neg (fun h => t0 h.1)))
    have sb : (th == 0) = false := beq_eq_false_iff_ne.2 t0
    clear t0
    go_wp2_with fail
    go_ret
    exact ⟨by rw [R.out]; rfl, K1.out.hB⟩
  have tb : (th == 0) = true := by simp [t0]
  have T0 := Lib.hid t0
  clear t0
  go_wp2_with fail
  refine (EM.out _).mono ?_
  rintro e w3 ⟨rfl, hb3⟩
  have HB := Lib.hid (bnext K1.out.hB hb3)
  clear hb3 x0 x1 x2 x3 x4 x5 x6 x7 x8 x9 x10 x11 x12 hl0 K1 EM
  cases ee with
  | true =>
    have R : Hid (cp = 0) := Lib.hid (CP3.out.trans (if_neg (fun h => h.2 (of_decide_eq_true EE.out))))
    go_wp2_with fail
    go_ret
    exact ⟨by rw [R.out]; rfl, HB.out⟩
  | false =>
    have R : Hid (cp = 12) := Lib.hid (CP3.out.trans (if_pos ⟨T0.out, of_decide_eq_false EE.out⟩))
    go_wp2_with fail
    go_ret
    exact ⟨by rw [R.out]; rfl, HB.out⟩

set_option maxRecDepth 100000 in
set_option maxHeartbeats 8000000 in
theorem rpCheck_any (p : Pr) (hw : WfP p) (V : Value) (w : World) (hV : PrAt w V p) : Calls Try.prog 21 #[V] w (RetI .i64 (chkP p) w) := by
  obtain ⟨vs, vt, vk, rfl, hs, ht, hk⟩ := hV
  obtain ⟨As, cs, rfl⟩ := hs.form
  obtain ⟨At, ct, rfl⟩ := ht.form
  obtain ⟨Ak, ck, rfl⟩ := hk.form
  have HS := Lib.hid hs
  have HT := Lib.hid ht
  have HK := Lib.hid hk
  have SC := Lib.hid (fun v w h => rCheck_any p.s hw.s v w h)
  have RC := Lib.hid (fun vt vk w h1 h2 => rvCheck_any p.r hw.r vt vk w h1 h2)
  obtain ⟨es, hes⟩ : ∃ es, (chk p.s).1 = es := ⟨_, rfl⟩
  obtain ⟨es2, hes2⟩ : ∃ es, (chk p.s).2 = es := ⟨_, rfl⟩
  obtain ⟨er, her⟩ : ∃ er, (chkR p.r).1 = er := ⟨_, rfl⟩
  obtain ⟨er2, her2⟩ : ∃ er : Int, (((chkR p.r).2 : Nat) : Int) = er := ⟨_, rfl⟩
  have SC2 : Hid (∀ v w, SlsAt w v p.s.sl → Calls Try.prog 63 #[.agg #[.int .u64 p.s.g, .int .u64 p.s.n, .int .u64 p.s.r, v]] w (Ret2 .i64 .i64 es es2 w)) := Lib.hid (fun v w h => by have := SC.out v w h; rw [hes, hes2] at this; exact this)
  have RC2 : Hid (∀ vt vk w, RgsAt w vt p.r.tk → KpsAt w vk p.r.kp → Calls Try.prog 64 #[.agg #[.int .u64 p.r.g, .int .u64 p.r.r, .int .u64 p.r.fl, vt, vk]] w (Ret2 .i64 .i64 er er2 w)) := Lib.hid (fun vt vk w h1 h2 => by have := RC.out vt vk w h1 h2; rw [her, her2] at this; exact this)
  obtain ⟨cp, hcp⟩ : ∃ cp, chkP p = cp := ⟨_, rfl⟩
  have CP : Hid (cp = if p.out then 2 else if es ≠ 0 then es else if er ≠ 0 then er else if p.theirs = 0 ∧ ¬ p.empty then 12 else 0) := Lib.hid (by rw [← hcp, ← hes, ← her]; rfl)
  rw [hcp]
  clear hs ht hk hes hes2 her her2 hcp SC RC hw
  obtain ⟨node, th, su, old, ⟨g, n, r, S⟩, ⟨a, b, f, T, K⟩⟩ := p
  dsimp only at *
  have EM := Lib.hid (fun w => rempty_any node th old su g n r S a b f T K As At Ak cs ct ck w)
  obtain ⟨ee, hee⟩ : ∃ ee, decide (th = 0 ∧ Pr.empty ⟨node, th, su, old, ⟨g, n, r, S⟩, ⟨a, b, f, T, K⟩⟩) = ee := ⟨_, rfl⟩
  have EE := Lib.hid hee
  rw [hee] at EM
  clear hee

  by_cases o0 : node < 1
  case pos =>
    have R := Lib.hid (CP.out.trans (if_pos (show Pr.out ⟨node, th, su, old, ⟨g, n, r, S⟩, ⟨a, b, f, T, K⟩⟩ from .inl o0)))
    go_enter Try.func21, Try.ntmps21
    go_wp2_with fail
    go_ret
    exact ⟨by rw [R.out]; rfl, (by repeat (first | with_reducible exact Below.refl _ _ | with_reducible refine Below.drew ?_ | with_reducible refine below_drewN ?_ _ | with_reducible refine bal ?_ _ | with_reducible refine bset ?_ (by first | (simp; done) | (simp; omega)) _ | with_reducible refine bnext ?_ (by assumption) | with_reducible assumption))⟩
  by_cases o1 : node > 16
  case pos =>
    have R := Lib.hid (CP.out.trans (if_pos (show Pr.out ⟨node, th, su, old, ⟨g, n, r, S⟩, ⟨a, b, f, T, K⟩⟩ from .inr (.inl o1))))
    go_enter Try.func21, Try.ntmps21
    go_wp2_with fail
    go_ret
    exact ⟨by rw [R.out]; rfl, (by repeat (first | with_reducible exact Below.refl _ _ | with_reducible refine Below.drew ?_ | with_reducible refine below_drewN ?_ _ | with_reducible refine bal ?_ _ | with_reducible refine bset ?_ (by first | (simp; done) | (simp; omega)) _ | with_reducible refine bnext ?_ (by assumption) | with_reducible assumption))⟩
  by_cases o2 : th > 1099511627776
  case pos =>
    have R := Lib.hid (CP.out.trans (if_pos (show Pr.out ⟨node, th, su, old, ⟨g, n, r, S⟩, ⟨a, b, f, T, K⟩⟩ from .inr (.inr (.inl o2)))))
    go_enter Try.func21, Try.ntmps21
    go_wp2_with fail
    go_ret
    exact ⟨by rw [R.out]; rfl, (by repeat (first | with_reducible exact Below.refl _ _ | with_reducible refine Below.drew ?_ | with_reducible refine below_drewN ?_ _ | with_reducible refine bal ?_ _ | with_reducible refine bset ?_ (by first | (simp; done) | (simp; omega)) _ | with_reducible refine bnext ?_ (by assumption) | with_reducible assumption))⟩
  by_cases o3 : old > 1125899906842624
  case pos =>
    have R := Lib.hid (CP.out.trans (if_pos (show Pr.out ⟨node, th, su, old, ⟨g, n, r, S⟩, ⟨a, b, f, T, K⟩⟩ from .inr (.inr (.inr o3)))))
    go_enter Try.func21, Try.ntmps21
    go_wp2_with fail
    go_ret
    exact ⟨by rw [R.out]; rfl, (by repeat (first | with_reducible exact Below.refl _ _ | with_reducible refine Below.drew ?_ | with_reducible refine below_drewN ?_ _ | with_reducible refine bal ?_ _ | with_reducible refine bset ?_ (by first | (simp; done) | (simp; omega)) _ | with_reducible refine bnext ?_ (by assumption) | with_reducible assumption))⟩
  have CP1 := Lib.hid (CP.out.trans (if_neg (show ¬ Pr.out ⟨node, th, su, old, ⟨g, n, r, S⟩, ⟨a, b, f, T, K⟩⟩ from fun h => h.elim o0 (fun h => h.elim o1 (fun h => h.elim o2 o3)))))
  clear CP
  go_enter Try.func21, Try.ntmps21
  go_wp2_with fail
  have k0 := Blk.new w 31 #[.int .i64 node, .int .u64 th, .bool su, .int .u64 old, .int .u64 g, .int .u64 n, .int .u64 r, .slice As S.length cs, .int .u64 a, .int .u64 b, .int .u64 f, .slice At T.length ct, .slice Ak K.length ck]
  have hB := bal (Below.refl w.heap.size w) (.cells #[.int .i64 node, .int .u64 th, .bool su, .int .u64 old, .int .u64 g, .int .u64 n, .int .u64 r, .slice As S.length cs, .int .u64 a, .int .u64 b, .int .u64 f, .slice At T.length ct, .slice Ak K.length ck] 31)
  refine (SC2.out _ _ (HS.out.below hB)).mono ?_
  rintro e w1 ⟨rfl, hb1⟩
  have kk : BK w w.heap.size 31 #[.int .i64 node, .int .u64 th, .bool su, .int .u64 old, .int .u64 g, .int .u64 n, .int .u64 r, .slice As S.length cs, .int .u64 a, .int .u64 b, .int .u64 f, .slice At T.length ct, .slice Ak K.length ck] w1 := ⟨k0.below hb1, bnext hB hb1⟩
  clear k0 hB hb1 SC2
  obtain ⟨g0, hg0⟩ : ∃ g0, w.heap.size = g0 := ⟨_, rfl⟩
  have HG0 := Lib.hid hg0
  rw [hg0] at kk ⊢
  clear hg0
  obtain ⟨x0, x1, x2, x3, x4, x5, x6, x7, x8, x9, x10, x11, x12⟩ := kk.b.c13
  have hl0 := kk.b.lt
  have K1 := Lib.hid kk
  clear kk
  by_cases s0 : es = 0
  case neg =>
    have R := Lib.hid (CP1.out.trans (if_pos s0))
    have sb : (es != 0) = true := by simpa using s0
    have sb' : (es == 0) = false := by simpa using s0
    clear s0
    go_wp2_with fail
    go_ret
    exact ⟨by rw [R.out]; rfl, K1.out.hB⟩
  have CP2 := Lib.hid (CP1.out.trans (if_neg (fun h => h s0)))
  subst s0
  go_wp2_with fail
  refine (RC2.out _ _ _ (HT.out.below K1.out.hB) (HK.out.below K1.out.hB)).mono ?_
  rintro e w2 ⟨rfl, hb2⟩
  have kk := K1.out.below hb2
  clear hb2 RC2 x0 x1 x2 x3 x4 x5 x6 x7 x8 x9 x10 x11 x12 hl0 K1 CP1
  obtain ⟨x0, x1, x2, x3, x4, x5, x6, x7, x8, x9, x10, x11, x12⟩ := kk.b.c13
  have hl0 := kk.b.lt
  have K1 := Lib.hid kk
  clear kk
  by_cases r0 : er = 0
  case neg =>
    have R := Lib.hid (CP2.out.trans (if_pos r0))
    have sb : (er != 0) = true := by simpa using r0
    have sb' : (er == 0) = false := by simpa using r0
    clear r0
    go_wp2_with fail
    go_ret
    exact ⟨by rw [R.out]; rfl, K1.out.hB⟩
  have CP3 := Lib.hid (CP2.out.trans (if_neg (fun h => h r0)))
  subst r0
  clear CP2
  by_cases t0 : th = 0
  case neg =>
    have R := Lib.hid (CP3.out.trans (if_neg (fun h => t0 h.1)))
    have sb : (th == 0) = false := beq_eq_false_iff_ne.2 t0
    clear t0
    go_wp2_with fail
    go_ret
    exact ⟨by rw [R.out]; rfl, K1.out.hB⟩
  have tb : (th == 0) = true := by simp [t0]
  have T0 := Lib.hid t0
  clear t0
  go_wp2_with fail
  refine (EM.out _).mono ?_
  rintro e w3 ⟨rfl, hb3⟩
  have HB := Lib.hid (bnext K1.out.hB hb3)
  clear hb3 x0 x1 x2 x3 x4 x5 x6 x7 x8 x9 x10 x11 x12 hl0 K1 EM
  cases ee with
  | true =>
    have R : Hid (cp = 0) := Lib.hid (CP3.out.trans (if_neg (fun h => h.2 ((of_decide_eq_true EE.out).2))))
    go_wp2_with fail
    go_ret
    exact ⟨by rw [R.out]; rfl, HB.out⟩
  | false =>
    have R : Hid (cp = 12) := Lib.hid (CP3.out.trans (if_pos ⟨T0.out, fun h => of_decide_eq_false EE.out ⟨T0.out, h⟩⟩))
    go_wp2_with fail
    go_ret
    exact ⟨by rw [R.out]; rfl, HB.out⟩

theorem opnR_of {z : Rec} (h : okR z) : opnR z = z := if_pos h
theorem chkP_r {p : Pr} (h : chkP p = 0) : okR p.r := (chkP_ok h).2.2.1

set_option maxRecDepth 100000 in
set_option maxHeartbeats 8000000 in
theorem pheld_any (p : Pr) (hw : WfP p) (hok : chkP p = 0) (V : Value) (w : World) (hV : PrAt w V p) : Calls Try.prog 41 #[V] w (fun e w' => e = .returned (.tuple #[.int .u64 (heldP p), .bool true]) ∧ Below w.heap.size w w') := by
  obtain ⟨vs, vt, vk, rfl, hs, ht, hk⟩ := hV
  obtain ⟨As, cs, rfl⟩ := hs.form
  obtain ⟨At, ct, rfl⟩ := ht.form
  obtain ⟨Ak, ck, rfl⟩ := hk.form
  have HT := Lib.hid ht
  have HK := Lib.hid hk
  have hb := heldP_b hw hok
  have ho := okR_of (chkP_r hok)
  have hrb := resv_b ho hw.r.fl.1 hw.r.r.1
  have hg := ho.g
  have hob := hw.old
  have HH : Hid (heldP p = p.old + resv p.r) := Lib.hid rfl
  have RS : Hid (∀ vt vk w, RgsAt w vt p.r.tk → KpsAt w vk p.r.kp → Calls Try.prog 78 #[.agg #[.int .u64 p.r.g, .int .u64 p.r.r, .int .u64 p.r.fl, vt, vk]] w (Ret2 .u64 .i64 (resv p.r) 0 w)) := Lib.hid (fun vt vk w h1 h2 => by
    have := Reserved_any p.r hw.r vt vk w h1 h2
    rw [opnR_of (chkP_r hok), show (chkR p.r).1 = 0 from chkP_r hok] at this
    exact this)
  obtain ⟨rv, hrv⟩ : ∃ rv, resv p.r = rv := ⟨_, rfl⟩
  obtain ⟨hp, hhp⟩ : ∃ hp, heldP p = hp := ⟨_, rfl⟩
  rw [hrv] at RS HH hrb
  rw [hhp] at HH hb ⊢
  clear hs ht hk hw hok ho hrv hhp
  obtain ⟨node, th, su, old, ⟨g, n, r, S⟩, ⟨a, b, f, T, K⟩⟩ := p
  dsimp only at *
  have hHH := HH.out
  have AD := run_add old rv hob.1 hrb.1
  have M1 : (old + rv) % 18446744073709551616 = hp := by rw [← hHH]; exact Int.emod_eq_of_lt (by omega) (by omega)
  have M2 : (old + rv) / 18446744073709551616 = 0 := by rw [← hHH]; exact Int.ediv_eq_zero_of_lt (by omega) (by omega)
  rw [M1, M2] at AD
  clear hHH M1 M2
  go_enter Try.func41, Try.ntmps41
  go_wp2_with fail
  have k0 := Blk.new w 31 #[.int .i64 node, .int .u64 th, .bool su, .int .u64 old, .int .u64 g, .int .u64 n, .int .u64 r, .slice As S.length cs, .int .u64 a, .int .u64 b, .int .u64 f, .slice At T.length ct, .slice Ak K.length ck]
  have hB := bal (Below.refl w.heap.size w) (.cells #[.int .i64 node, .int .u64 th, .bool su, .int .u64 old, .int .u64 g, .int .u64 n, .int .u64 r, .slice As S.length cs, .int .u64 a, .int .u64 b, .int .u64 f, .slice At T.length ct, .slice Ak K.length ck] 31)
  refine (RS.out _ _ _ (HT.out.below hB) (HK.out.below hB)).mono ?_
  rintro e w1 ⟨rfl, hb1⟩
  have kk : BK w w.heap.size 31 #[.int .i64 node, .int .u64 th, .bool su, .int .u64 old, .int .u64 g, .int .u64 n, .int .u64 r, .slice As S.length cs, .int .u64 a, .int .u64 b, .int .u64 f, .slice At T.length ct, .slice Ak K.length ck] w1 := ⟨k0.below hb1, bnext hB hb1⟩
  clear k0 hB hb1 RS
  obtain ⟨x0, x1, x2, x3, x4, x5, x6, x7, x8, x9, x10, x11, x12⟩ := kk.b.c13
  have hl0 := kk.b.lt
  have K1 := Lib.hid kk
  clear kk
  go_wp2_with fail
  go_ret2
  exact ⟨rfl, K1.out.hB⟩

/-- what is held back, or the error -/
def hlE (p : Pr) : Int := if chkP p = 0 then heldP p else 0
set_option maxRecDepth 100000 in
set_option maxHeartbeats 4000000 in
theorem pHeld_any (p : Pr) (hw : WfP p) (V : Value) (w : World) (hV : PrAt w V p) : Calls Try.prog 26 #[V] w (Ret2 .u64 .i64 (hlE p) (chkP p) w) := by
  have CK := Lib.hid (fun V w h => pCheck_any p hw V w h)
  have HE := Lib.hid (fun h V w hV => pheld_any p hw h V w hV)
  have E1 : Hid (chkP p = 0 → hlE p = heldP p) := Lib.hid (fun h => if_pos h)
  have E2 : Hid (chkP p ≠ 0 → hlE p = 0) := Lib.hid (fun h => if_neg h)
  obtain ⟨hl, hhl⟩ : ∃ hl, hlE p = hl := ⟨_, rfl⟩
  obtain ⟨cp, hcp⟩ : ∃ cp, chkP p = cp := ⟨_, rfl⟩
  obtain ⟨hp, hhp⟩ : ∃ hp, heldP p = hp := ⟨_, rfl⟩
  rw [hhl] at E1 E2 ⊢
  rw [hcp] at CK HE E1 E2 ⊢
  rw [hhp] at HE E1
  have HV := Lib.hid hV
  obtain ⟨vs, vt, vk, rfl, hs, ht, hk⟩ := hV
  obtain ⟨As, cs, rfl⟩ := hs.form
  obtain ⟨At, ct, rfl⟩ := ht.form
  obtain ⟨Ak, ck, rfl⟩ := hk.form
  clear hs ht hk hw hhl hcp hhp
  obtain ⟨node, th, su, old, ⟨g, n, r, S⟩, ⟨a, b, f, T, K⟩⟩ := p
  dsimp only at *
  go_enter Try.func26, Try.ntmps26
  go_wp2_with fail
  have k0 := Blk.new w 31 #[.int .i64 node, .int .u64 th, .bool su, .int .u64 old, .int .u64 g, .int .u64 n, .int .u64 r, .slice As S.length cs, .int .u64 a, .int .u64 b, .int .u64 f, .slice At T.length ct, .slice Ak K.length ck]
  have hB := bal (Below.refl w.heap.size w) (.cells #[.int .i64 node, .int .u64 th, .bool su, .int .u64 old, .int .u64 g, .int .u64 n, .int .u64 r, .slice As S.length cs, .int .u64 a, .int .u64 b, .int .u64 f, .slice At T.length ct, .slice Ak K.length ck] 31)
  refine (CK.out _ _ (HV.out.below hB)).mono ?_
  rintro e w1 ⟨rfl, hb1⟩
  have kk : BK w w.heap.size 31 #[.int .i64 node, .int .u64 th, .bool su, .int .u64 old, .int .u64 g, .int .u64 n, .int .u64 r, .slice As S.length cs, .int .u64 a, .int .u64 b, .int .u64 f, .slice At T.length ct, .slice Ak K.length ck] w1 := ⟨k0.below hb1, bnext hB hb1⟩
  clear k0 hB hb1 CK
  obtain ⟨x0, x1, x2, x3, x4, x5, x6, x7, x8, x9, x10, x11, x12⟩ := kk.b.c13
  have hl0 := kk.b.lt
  have K1 := Lib.hid kk
  clear kk
  by_cases c0 : cp = 0
  · have R := Lib.hid (E1.out c0)
    have HE2 := Lib.hid (HE.out c0)
    subst c0
    clear HE
    go_wp2_with fail
    refine (HE2.out _ _ (HV.out.below K1.out.hB)).mono ?_
    rintro e w2 ⟨rfl, hb2⟩
    have hB2 := bnext K1.out.hB hb2
    clear hb2 x0 x1 x2 x3 x4 x5 x6 x7 x8 x9 x10 x11 x12 hl0
    go_wp2_with fail
    go_ret2
    exact ⟨by rw [R.out]; rfl, hB2⟩
  · have R := Lib.hid (E2.out c0)
    have sb : (cp != 0) = true := by simpa using c0
    clear c0 HE
    go_wp2_with fail
    go_ret2
    exact ⟨by rw [R.out]; rfl, K1.out.hB⟩

set_option maxRecDepth 100000 in
set_option maxHeartbeats 4000000 in
theorem rHeld_any (p : Pr) (hw : WfP p) (V : Value) (w : World) (hV : PrAt w V p) : Calls Try.prog 33 #[V] w (Ret2 .u64 .i64 (hlE p) (chkP p) w) := by
  have CK := Lib.hid (fun V w h => rpCheck_any p hw V w h)
  have E1 : Hid (chkP p = 0 → hlE p = p.old + resv p.r ∧ 0 ≤ p.old + resv p.r ∧ p.old + resv p.r ≤ 2251799813685248) := Lib.hid (fun h => ⟨if_pos h, heldP_b hw h⟩)
  have E2 : Hid (chkP p ≠ 0 → hlE p = 0) := Lib.hid (fun h => if_neg h)
  have RS : Hid (chkP p = 0 → ∀ vt vk w, RgsAt w vt p.r.tk → KpsAt w vk p.r.kp → Calls Try.prog 29 #[.agg #[.int .u64 p.r.g, .int .u64 p.r.r, .int .u64 p.r.fl, vt, vk]] w (Ret2 .u64 .i64 (resv p.r) 0 w)) := Lib.hid (fun hok vt vk w h1 h2 => by
    have := rReserved_any p.r hw.r vt vk w h1 h2
    rw [opnR_of (chkP_r hok), show (chkR p.r).1 = 0 from chkP_r hok] at this
    exact this)
  obtain ⟨hl, hhl⟩ : ∃ hl, hlE p = hl := ⟨_, rfl⟩
  obtain ⟨cp, hcp⟩ : ∃ cp, chkP p = cp := ⟨_, rfl⟩
  obtain ⟨rv, hrv⟩ : ∃ rv, resv p.r = rv := ⟨_, rfl⟩
  rw [hhl] at E1 E2 ⊢
  rw [hcp] at CK RS E1 E2 ⊢
  rw [hrv] at RS E1
  have HV := Lib.hid hV
  obtain ⟨vs, vt, vk, rfl, hs, ht, hk⟩ := hV
  obtain ⟨As, cs, rfl⟩ := hs.form
  obtain ⟨At, ct, rfl⟩ := ht.form
  obtain ⟨Ak, ck, rfl⟩ := hk.form
  have HT := Lib.hid ht
  have HK := Lib.hid hk
  clear hs ht hk hw hhl hcp hrv
  obtain ⟨node, th, su, old, ⟨g, n, r, S⟩, ⟨a, b, f, T, K⟩⟩ := p
  dsimp only at *
  go_enter Try.func33, Try.ntmps33
  go_wp2_with fail
  have k0 := Blk.new w 31 #[.int .i64 node, .int .u64 th, .bool su, .int .u64 old, .int .u64 g, .int .u64 n, .int .u64 r, .slice As S.length cs, .int .u64 a, .int .u64 b, .int .u64 f, .slice At T.length ct, .slice Ak K.length ck]
  have hB := bal (Below.refl w.heap.size w) (.cells #[.int .i64 node, .int .u64 th, .bool su, .int .u64 old, .int .u64 g, .int .u64 n, .int .u64 r, .slice As S.length cs, .int .u64 a, .int .u64 b, .int .u64 f, .slice At T.length ct, .slice Ak K.length ck] 31)
  refine (CK.out _ _ (HV.out.below hB)).mono ?_
  rintro e w1 ⟨rfl, hb1⟩
  have kk : BK w w.heap.size 31 #[.int .i64 node, .int .u64 th, .bool su, .int .u64 old, .int .u64 g, .int .u64 n, .int .u64 r, .slice As S.length cs, .int .u64 a, .int .u64 b, .int .u64 f, .slice At T.length ct, .slice Ak K.length ck] w1 := ⟨k0.below hb1, bnext hB hb1⟩
  clear k0 hB hb1 CK
  obtain ⟨x0, x1, x2, x3, x4, x5, x6, x7, x8, x9, x10, x11, x12⟩ := kk.b.c13
  have hl0 := kk.b.lt
  have K1 := Lib.hid kk
  clear kk
  by_cases c0 : cp = 0
  · obtain ⟨e1, e2, e3⟩ := E1.out c0
    have R := Lib.hid e1
    have RS2 := Lib.hid (RS.out c0)
    have W1 : IntKind.u64.wrap (old + rv) = old + rv := IntWalk.u64_in _ (by omega)
    subst c0
    clear RS e1 e2 e3 E1
    go_wp2_with fail
    refine (RS2.out _ _ _ (HT.out.below K1.out.hB) (HK.out.below K1.out.hB)).mono ?_
    rintro e w2 ⟨rfl, hb2⟩
    have kk := K1.out.below hb2
    clear hb2 x0 x1 x2 x3 x4 x5 x6 x7 x8 x9 x10 x11 x12 hl0 K1
    obtain ⟨x0, x1, x2, x3, x4, x5, x6, x7, x8, x9, x10, x11, x12⟩ := kk.b.c13
    have hl0 := kk.b.lt
    have K1 := Lib.hid kk
    clear kk
    go_wp2_with fail
    go_ret2
    exact ⟨by rw [R.out]; rfl, K1.out.hB⟩
  · have R := Lib.hid (E2.out c0)
    have sb : (cp != 0) = true := by simpa using c0
    clear c0 RS
    go_wp2_with fail
    go_ret2
    exact ⟨by rw [R.out]; rfl, K1.out.hB⟩
end Go.Proofs.Ytfgkkflbpfocjaa

namespace Go.Proofs.Ytfgkkflbpfocjaa.Bu
open Go.RowKit
set_option linter.unusedVariables false
set_option linter.unusedSimpArgs false

def RetI (a : Int) (w : World) (e : Ending) (w' : World) : Prop := e = .returned (.int .i64 a) ∧ Below w.heap.size w w'
def RetB (a : Bool) (w : World) (e : Ending) (w' : World) : Prop := e = .returned (.bool a) ∧ Below w.heap.size w w'
def Lm.cells (x : Lm) : List Value := [.int .i64 x.n, .int .i64 x.l, .int .i64 x.g]
theorem lm3 (x : Lm) : x.cells.length = 3 := rfl
def Bn.cells (x : Bn) : List Value := [.int .i64 x.node, .int .u64 x.seq, .int .i64 x.off, .int .i64 x.dest, .int .i64 x.prio, .int .i64 x.born, .int .i64 x.life, .int .i64 x.total, .string x.data]
theorem bn9 (x : Bn) : x.cells.length = 9 := rfl
def Bn.val (x : Bn) : Value := .agg x.cells.toArray
theorem Bn.val_eq (x : Bn) : x.val = .agg #[.int .i64 x.node, .int .u64 x.seq, .int .i64 x.off, .int .i64 x.dest, .int .i64 x.prio, .int .i64 x.born, .int .i64 x.life, .int .i64 x.total, .string x.data] := rfl

set_option maxRecDepth 100000 in
set_option maxHeartbeats 2000000 in
theorem within_any (L : List Lm) (v : Value) (w : World) (hS : SlAt w 3 v L.length (fl Lm.cells L)) :
    Calls Try.prog 114 #[v] w (RetB (!L.any Lm.bad) w) := by
  obtain ⟨A, c, rfl, _, hc2, hR⟩ := hS
  unfold maxLen at hc2
  have HR := Lib.hid hR
  clear hR
  go_enter Try.func114, Try.ntmps114
  go_wp2_with fail
  go_loopw [7] (fun a wr => ∃ k : Nat, k ≤ L.length ∧ a = .int .i64 k ∧ LmMid L k ∧ Below w.heap.size w wr) (fun a _ => L.length - (intOf a).toNat)
  case atStart => exact ⟨0, by omega, rfl, rfl, Below.refl _ _⟩
  case round =>
    obtain ⟨k, hk, rfl, hM, hB⟩ := hrel
    have HM := Lib.hid hM
    clear hM
    by_cases hlt : k < L.length
    · obtain ⟨x, hx⟩ : ∃ x, L[k]? = some x := ⟨_, List.getElem?_eq_getElem hlt⟩
      obtain ⟨b, o, rfl, hb, d0', d1', d2'⟩ := reads_fl3 lm3 HR.out rfl hx rfl
      have d0 := (hB.cell (p := ⟨b, o + k * 3, none⟩) hb).trans d0'
      have d1 := (hB.cell (p := ⟨b, o + k * 3 + 1, none⟩) hb).trans d1'
      have d2 := (hB.cell (p := ⟨b, o + k * 3 + 2, none⟩) hb).trans d2'
      have hi : (k : Int) < L.length := by omega
      have HX := Lib.hid hx
      clear hx d0' d1' d2'
      by_cases c1 : x.n < x.l
      · have F : Hid (L.any Lm.bad = true) := Lib.hid (HM.out.hit HX.out (by simp [Lm.bad, c1]))
        go_wp2_with fail
        go_ret
        exact ⟨by rw [F.out]; rfl, (by repeat (first | with_reducible exact Below.refl _ _ | with_reducible refine Below.drew ?_ | with_reducible refine below_drewN ?_ _ | with_reducible refine bal ?_ _ | with_reducible refine bset ?_ (by first | (simp; done) | (simp; omega)) _ | with_reducible refine bnext ?_ (by assumption) | with_reducible assumption))⟩
      · by_cases c2 : x.n > x.g
        · have F : Hid (L.any Lm.bad = true) := Lib.hid (HM.out.hit HX.out (by simp [Lm.bad]; omega))
          go_wp2_with fail
          go_ret
          exact ⟨by rw [F.out]; rfl, (by repeat (first | with_reducible exact Below.refl _ _ | with_reducible refine Below.drew ?_ | with_reducible refine below_drewN ?_ _ | with_reducible refine bal ?_ _ | with_reducible refine bset ?_ (by first | (simp; done) | (simp; omega)) _ | with_reducible refine bnext ?_ (by assumption) | with_reducible assumption))⟩
        · have N1 := Lib.hid (HM.out.next HX.out (by simp [Lm.bad]; omega))
          go_wp2_with fail
          go_roundw
          case rel => exact ⟨k + 1, by omega, by go_num, N1.out, (by repeat (first | with_reducible exact Below.refl _ _ | with_reducible refine Below.drew ?_ | with_reducible refine below_drewN ?_ _ | with_reducible refine bal ?_ _ | with_reducible refine bset ?_ (by first | (simp; done) | (simp; omega)) _ | with_reducible refine bnext ?_ (by assumption) | with_reducible assumption))⟩
          case measure => simp [intOf]; omega
    · obtain rfl : k = L.length := by omega
      have F : Hid (L.any Lm.bad = false) := Lib.hid (HM.out.done (Nat.le_refl _))
      go_wp2_with fail
      go_ret
      exact ⟨by rw [F.out]; rfl, (by repeat (first | with_reducible exact Below.refl _ _ | with_reducible refine Below.drew ?_ | with_reducible refine below_drewN ?_ _ | with_reducible refine bal ?_ _ | with_reducible refine bset ?_ (by first | (simp; done) | (simp; omega)) _ | with_reducible refine bnext ?_ (by assumption) | with_reducible assumption))⟩
theorem lm_lit {w : World} {g : Nat} {t : TypeId} {L : List Lm} (h : Blk w g t (fl Lm.cells L).toArray) (n : Nat) (hn : n = L.length) (hm : n ≤ 1000) : SlAt w 3 (.slice (some ⟨g, 0, none⟩) n n) L.length (fl Lm.cells L) := by
  subst hn
  refine ⟨_, _, rfl, Nat.le_refl _, by unfold maxLen; omega, by rw [fl_len lm3], fun _ => ⟨g, 0, rfl, h.lt, fun j u hj => ?_⟩⟩
  rw [Nat.zero_add, h.cell, List.getElem?_toArray, hj]

set_option maxRecDepth 100000 in
set_option maxHeartbeats 2000000 in
theorem CheckID_any (node seq io : Int) (w : World) :
    Calls Try.prog 91 #[.agg #[.int .i64 node, .int .u64 seq, .int .i64 io]] w (RetI (idE node seq io) w) := by
  by_cases h : (1 ≤ node ∧ node ≤ 16) ∧ (0 ≤ io ∧ io ≤ 19999)
  · have D : Hid ((!([⟨node, 1, 16⟩, ⟨io, 0, 19999⟩] : List Lm).any Lm.bad) = true) := Lib.hid (by simp [Lm.bad]; omega)
    by_cases hs : seq ≤ 1099511627776
    · have R : Hid (idE node seq io = 0) := Lib.hid (if_pos ⟨h.1.1, h.1.2, h.2.1, h.2.2, hs⟩)
      clear h
      go_enter Try.func91, Try.ntmps91
      go_wp2_with fail
      refine (within_any [⟨node, 1, 16⟩, ⟨io, 0, 19999⟩] _ _ (lm_lit (t := 154) (Blk.new1 _ _ _ _) 2 rfl (by decide))).mono ?_
      rintro e w1 ⟨rfl, hb1⟩
      rw [D.out]
      have k0 := ((Blk.new w 47 #[.int .i64 node, .int .u64 seq, .int .i64 io]).alloc (.cells #[.int .i64 node, .int .i64 1, .int .i64 16, .int .i64 io, .int .i64 0, .int .i64 19999] 154)).below hb1
      obtain ⟨x0, x1, x2⟩ := k0.c3
      have hB := bnext (bal (bal (Below.refl w.heap.size w) (.cells #[.int .i64 node, .int .u64 seq, .int .i64 io] 47)) (.cells #[.int .i64 node, .int .i64 1, .int .i64 16, .int .i64 io, .int .i64 0, .int .i64 19999] 154)) hb1
      clear hb1 k0
      go_wp2_with fail
      go_ret
      exact ⟨ret_int R.out.symm, hB⟩
    · have R : Hid (idE node seq io = 2) := Lib.hid (if_neg (fun h => hs h.2.2.2.2))
      clear h
      go_enter Try.func91, Try.ntmps91
      go_wp2_with fail
      refine (within_any [⟨node, 1, 16⟩, ⟨io, 0, 19999⟩] _ _ (lm_lit (t := 154) (Blk.new1 _ _ _ _) 2 rfl (by decide))).mono ?_
      rintro e w1 ⟨rfl, hb1⟩
      rw [D.out]
      have k0 := ((Blk.new w 47 #[.int .i64 node, .int .u64 seq, .int .i64 io]).alloc (.cells #[.int .i64 node, .int .i64 1, .int .i64 16, .int .i64 io, .int .i64 0, .int .i64 19999] 154)).below hb1
      obtain ⟨x0, x1, x2⟩ := k0.c3
      have hB := bnext (bal (bal (Below.refl w.heap.size w) (.cells #[.int .i64 node, .int .u64 seq, .int .i64 io] 47)) (.cells #[.int .i64 node, .int .i64 1, .int .i64 16, .int .i64 io, .int .i64 0, .int .i64 19999] 154)) hb1
      clear hb1 k0
      go_wp2_with fail
      go_ret
      exact ⟨ret_int R.out.symm, hB⟩
  · have D : Hid ((!([⟨node, 1, 16⟩, ⟨io, 0, 19999⟩] : List Lm).any Lm.bad) = false) := Lib.hid (by simp [Lm.bad]; omega)
    have R : Hid (idE node seq io = 2) := Lib.hid (if_neg (fun e => h ⟨⟨e.1, e.2.1⟩, e.2.2.1, e.2.2.2.1⟩))
    clear h
    go_enter Try.func91, Try.ntmps91
    go_wp2_with fail
    refine (within_any [⟨node, 1, 16⟩, ⟨io, 0, 19999⟩] _ _ (lm_lit (t := 154) (Blk.new1 _ _ _ _) 2 rfl (by decide))).mono ?_
    rintro e w1 ⟨rfl, hb1⟩
    rw [D.out]
    have hB := bnext (bal (bal (Below.refl w.heap.size w) (.cells #[.int .i64 node, .int .u64 seq, .int .i64 io] 47)) (.cells #[.int .i64 node, .int .i64 1, .int .i64 16, .int .i64 io, .int .i64 0, .int .i64 19999] 154)) hb1
    clear hb1
    go_wp2_with fail
    go_ret
    exact ⟨ret_int R.out.symm, hB⟩
end Go.Proofs.Ytfgkkflbpfocjaa.Bu

