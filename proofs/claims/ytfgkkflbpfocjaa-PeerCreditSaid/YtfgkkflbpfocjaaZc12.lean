/- Contracts: the reference's check of a receiver's ledger. -/
import Derived.Test.YtfgkkflbpfocjaaZc11
namespace Go.Proofs.Ytfgkkflbpfocjaa
open Go.RowKit
set_option linter.unusedVariables false
set_option linter.unusedSimpArgs false

set_option maxRecDepth 100000 in
set_option maxHeartbeats 2000000 in
theorem inside_any (l : List Rg) (n : Int) (v : Value) (w : World) (hS : RgsAt w v l) :
    Calls Try.prog 106 #[v, .int .u64 n] w (RetB (inR l n) w) := by
  obtain ⟨A, c, rfl, h1, h2, hR⟩ := hS
  unfold maxLen at h2
  have HR := Lib.hid hR
  obtain ⟨ib, hib⟩ : ∃ ib, inR l n = ib := ⟨_, rfl⟩
  have IB := Lib.hid hib
  rw [hib]
  clear hR hib
  go_enter Try.func106, Try.ntmps106
  go_wp2_with fail
  go_loopw [5] (fun a wr => ∃ k : Nat, k ≤ l.length ∧ a = .int .i64 k ∧ (∀ j x, j < k → l[j]? = some x → x.inB n = false) ∧ Below w.heap.size w wr) (fun a _ => l.length - (intOf a).toNat)
  case atStart => exact ⟨0, by omega, rfl, fun j x hj => by omega, Below.refl _ _⟩
  case round =>
    obtain ⟨k, hk, rfl, hf, hB⟩ := hrel
    obtain ⟨wy, rfl⟩ : ∃ wy : World, wy = wr := ⟨_, rfl⟩
    have HF := Lib.hid hf
    have HB := Lib.hid hB
    clear hf hB
    by_cases hlt : k < l.length
    · obtain ⟨x, hx⟩ : ∃ x, l[k]? = some x := ⟨_, List.getElem?_eq_getElem hlt⟩
      obtain ⟨b, o, rfl, hb, p0, p1⟩ := reads_rg HR.out rfl hx
      have d0 := (HB.out.cell (p := ⟨b, o + k * 2, none⟩) hb).trans p0
      have d1 := (HB.out.cell (p := ⟨b, o + k * 2 + 1, none⟩) hb).trans p1
      have hki : (k : Int) < l.length := by omega
      have hk0 : (0 : Int) ≤ k := by omega
      have HX := Lib.hid hx
      clear hx p0 p1
      have MIS := Lib.hid (fun (h : x.inB n = false) => (fun j y hj hy => by
        rcases Nat.lt_or_eq_of_le (Nat.le_of_lt_succ hj) with d | d
        · exact HF.out j y d hy
        · have := HX.out
          rw [d] at hy
          rw [hy] at this
          cases this
          exact h : ∀ j y, j < k + 1 → l[j]? = some y → y.inB n = false))
      by_cases c1 : x.f ≤ n
      · by_cases c2 : n < x.t
        · have R : Hid (ib = true) := Lib.hid (by rw [← IB.out]; exact inR_hit HX.out (by simp [Rg.inB, c1, c2]))
          go_wp2_with fail
          go_ret
          exact ⟨by rw [R.out]; rfl, HB.out⟩
        · have M := Lib.hid (MIS.out (by simp [Rg.inB, c2]))
          go_wp2_with fail
          go_roundw
          case rel => exact ⟨k + 1, by omega, by go_num, M.out, HB.out⟩
          case measure => simp [intOf]; omega
      · have M := Lib.hid (MIS.out (by simp [Rg.inB, c1]))
        go_wp2_with fail
        go_roundw
        case rel => exact ⟨k + 1, by omega, by go_num, M.out, HB.out⟩
        case measure => simp [intOf]; omega
    · obtain rfl : k = l.length := by omega
      have R : Hid (ib = false) := Lib.hid (by rw [← IB.out]; exact inR_miss fun j x hj hx => HF.out j x hj hx)
      go_wp2_with fail
      go_ret
      exact ⟨by rw [R.out]; rfl, HB.out⟩

set_option maxRecDepth 100000 in
set_option maxHeartbeats 8000000 in
theorem rvCheck_any (z : Rec) (hw : WfR z) (vt vk : Value) (w : World) (ht : RgsAt w vt z.tk) (hk : KpsAt w vk z.kp) :
    Calls Try.prog 64 #[.agg #[.int .u64 z.g, .int .u64 z.r, .int .u64 z.fl, vt, vk]] w (Ret2 .i64 .i64 (chkR z).1 ((chkR z).2 : Int) w) := by
  obtain ⟨a, b, f, T, K⟩ := z
  obtain ⟨⟨ha0, ha1⟩, ⟨hb0, hb1⟩, ⟨hf0, hf1⟩, _, _⟩ := hw
  dsimp only at *
  obtain ⟨A, ca, rfl, _, hca, hRt⟩ := id ht
  obtain ⟨C, cc, rfl, _, hcc, hRk⟩ := id hk
  unfold maxLen at hca hcc
  have HT := Lib.hid ht
  have HK := Lib.hid hk
  have HRt := Lib.hid hRt
  have HRk := Lib.hid hRk
  obtain ⟨ch, hch⟩ : ∃ ch, chkR ⟨a, b, f, T, K⟩ = ch := ⟨_, rfl⟩
  have CH : Hid (ch = if 1125899906842624 < a then (2, 0) else if a < b ∨ a - b < f then (14, 0) else if 1000 < T.length ∨ 1000 < K.length then (5, 0) else if (fstE (tErr ⟨a, b, f, T, K⟩) T.length 0).1 ≠ 0 then fstE (tErr ⟨a, b, f, T, K⟩) T.length 0 else fstE (kErr ⟨a, b, f, T, K⟩) K.length 0) := Lib.hid (by rw [← hch]; rfl)
  rw [hch]
  clear ht hk hRt hRk hch
  by_cases h1 : 1125899906842624 < a
  · have R := Lib.hid (CH.out.trans (if_pos h1))
    go_enter Try.func64, Try.ntmps64
    go_wp2_with fail
    go_ret2
    exact ⟨by rw [R.out]; rfl, (by repeat (first | with_reducible exact Below.refl _ _ | with_reducible refine Below.drew ?_ | with_reducible refine below_drewN ?_ _ | with_reducible refine bal ?_ _ | with_reducible refine bset ?_ (by first | (simp; done) | (simp; omega)) _ | with_reducible refine bnext ?_ (by assumption) | with_reducible assumption))⟩
  have h1i : ¬ a > 1125899906842624 := by omega
  have CH1 := Lib.hid (CH.out.trans (if_neg h1))
  clear CH h1
  by_cases h2 : a < b
  · have R := Lib.hid (CH1.out.trans (if_pos (.inl h2)))
    go_enter Try.func64, Try.ntmps64
    go_wp2_with fail
    go_ret2
    exact ⟨by rw [R.out]; rfl, (by repeat (first | with_reducible exact Below.refl _ _ | with_reducible refine Below.drew ?_ | with_reducible refine below_drewN ?_ _ | with_reducible refine bal ?_ _ | with_reducible refine bset ?_ (by first | (simp; done) | (simp; omega)) _ | with_reducible refine bnext ?_ (by assumption) | with_reducible assumption))⟩
  have h2i : b ≤ a := by omega
  obtain ⟨rm, hrm⟩ : ∃ rm, a - b = rm := ⟨_, rfl⟩
  rw [hrm] at CH1
  have hrm0 : 0 ≤ rm ∧ rm ≤ 1125899906842624 := by omega
  have WR : IntKind.u64.wrap (a - b) = rm := by rw [hrm]; exact IntWalk.u64_in _ (by omega)
  have HRM := Lib.hid hrm
  have N2 := Lib.hid h2
  clear h2 hrm
  by_cases h3 : f > rm
  · have R : Hid (ch = (14, 0)) := Lib.hid (CH1.out.trans (if_pos (.inr h3)))
    go_enter Try.func64, Try.ntmps64
    go_wp2_with fail
    go_ret2
    exact ⟨by rw [R.out]; rfl, (by repeat (first | with_reducible exact Below.refl _ _ | with_reducible refine Below.drew ?_ | with_reducible refine below_drewN ?_ _ | with_reducible refine bal ?_ _ | with_reducible refine bset ?_ (by first | (simp; done) | (simp; omega)) _ | with_reducible refine bnext ?_ (by assumption) | with_reducible assumption))⟩
  have CH2 := Lib.hid (CH1.out.trans (if_neg (fun c => c.elim N2.out (fun d => h3 d))))
  clear CH1
  by_cases h4 : 1000 < T.length
  · have R : Hid (ch = (5, 0)) := Lib.hid (CH2.out.trans (if_pos (.inl h4)))
    have h4i : (T.length : Int) > 1000 := by omega
    go_enter Try.func64, Try.ntmps64
    go_wp2_with fail
    go_ret2
    exact ⟨by rw [R.out]; rfl, (by repeat (first | with_reducible exact Below.refl _ _ | with_reducible refine Below.drew ?_ | with_reducible refine below_drewN ?_ _ | with_reducible refine bal ?_ _ | with_reducible refine bset ?_ (by first | (simp; done) | (simp; omega)) _ | with_reducible refine bnext ?_ (by assumption) | with_reducible assumption))⟩
  have h4i : ¬ (T.length : Int) > 1000 := by omega
  by_cases h5 : 1000 < K.length
  · have R : Hid (ch = (5, 0)) := Lib.hid (CH2.out.trans (if_pos (.inr h5)))
    have h5i : (K.length : Int) > 1000 := by omega
    go_enter Try.func64, Try.ntmps64
    go_wp2_with fail
    go_ret2
    exact ⟨by rw [R.out]; rfl, (by repeat (first | with_reducible exact Below.refl _ _ | with_reducible refine Below.drew ?_ | with_reducible refine below_drewN ?_ _ | with_reducible refine bal ?_ _ | with_reducible refine bset ?_ (by first | (simp; done) | (simp; omega)) _ | with_reducible refine bnext ?_ (by assumption) | with_reducible assumption))⟩
  have h5i : ¬ (K.length : Int) > 1000 := by omega
  have CH3 := Lib.hid (CH2.out.trans (if_neg (fun c => c.elim h4 h5)))
  clear CH2
  have htl : T.length ≤ 1000 := by omega
  have hkl : K.length ≤ 1000 := by omega
  clear h4 h5
  go_enter Try.func64, Try.ntmps64
  go_wp2_with fail
  have kb0 : BK w w.heap.size 29 #[.int .u64 a, .int .u64 b, .int .u64 f, .slice A T.length ca, .slice C K.length cc] (w.alloc (.cells #[.int .u64 a, .int .u64 b, .int .u64 f, .slice A T.length ca, .slice C K.length cc] 29)) := ⟨Blk.new _ _ _, bal (Below.refl _ _) _⟩
  obtain ⟨g0, hg0⟩ : ∃ g0, w.heap.size = g0 := ⟨_, rfl⟩
  have HG0 := Lib.hid hg0
  rw [hg0] at kb0 ⊢
  clear hg0
  generalize w.alloc (.cells #[.int .u64 a, .int .u64 b, .int .u64 f, .slice A T.length ca, .slice C K.length cc] 29) = w1 at kb0 ⊢
  have K1 := Lib.hid kb0
  clear kb0
  go_loopw [4] (fun s wr => ∃ k : Nat, k ≤ T.length ∧ s = .int .i64 k ∧ fstE (tErr ⟨a, b, f, T, K⟩) T.length 0 = fstE (tErr ⟨a, b, f, T, K⟩) (T.length - k) k ∧ BK w g0 29 #[.int .u64 a, .int .u64 b, .int .u64 f, .slice A T.length ca, .slice C K.length cc] wr) (fun s _ => T.length - (intOf s).toNat)
  case atStart => exact ⟨0, by omega, rfl, rfl, K1.out⟩
  case round =>
    obtain ⟨k, hk, rfl, hM, kb⟩ := hrel
    obtain ⟨wy, rfl⟩ : ∃ wy : World, wy = wr := ⟨_, rfl⟩
    have HM := Lib.hid hM
    have KB := Lib.hid kb
    clear hM K1
    obtain ⟨x0, x1, x2, x3, x4⟩ := kb.b.c5
    have hgy := kb.b.lt
    clear kb
    by_cases hlt : k < T.length
    · obtain ⟨bt, ot, rfl, hbt, p0, p1⟩ := reads_rg HRt.out rfl (rgAt_get hlt)
      have d0 := (KB.out.hB.cell (p := ⟨bt, ot + k * 2, none⟩) hbt).trans p0
      have d1 := (KB.out.hB.cell (p := ⟨bt, ot + k * 2 + 1, none⟩) hbt).trans p1
      clear p0 p1
      have HER : Hid (tErr ⟨a, b, f, T, K⟩ k = if (rgAt T k).t ≤ (rgAt T k).f ∨ (rgAt T k).f < f ∨ (0 < k ∧ (rgAt T k).f ≤ (rgAt T (k - 1)).t) then 19 else if rm < (rgAt T k).t then 14 else 0) := Lib.hid (by rw [← HRM.out]; rfl)
      have HIT := Lib.hid (fun e (h : tErr ⟨a, b, f, T, K⟩ k = e) (he : e ≠ 0) => (by rw [CH3.out, HM.out, fstE_hit hlt (by rw [h]; exact he), h, if_pos he] : ch = (e, k)))
      have MIS := Lib.hid (fun (h : tErr ⟨a, b, f, T, K⟩ k = 0) => HM.out.trans (fstE_miss hlt h))
      have hki : (k : Int) < T.length := by omega
      have hk0 : (0 : Int) ≤ k := by omega
      obtain ⟨x, hx⟩ : ∃ x, rgAt T k = x := ⟨_, rfl⟩
      rw [hx] at d0 d1 HER
      clear hx
      go_upto_region 11 with fail
      have kc2 : BK2 w g0 29 #[.int .u64 a, .int .u64 b, .int .u64 f, .slice (some ⟨bt, ot, none⟩) T.length ca, .slice C K.length cc] wy.heap.size 74 #[.int .u64 x.f, .int .u64 x.t] (wy.alloc (.cells #[.int .u64 x.f, .int .u64 x.t] 74)) := ⟨KB.out.b.alloc _, Blk.new _ _ _, bal KB.out.hB _⟩
      have dprev : ∀ j, j < T.length → ∀ y, rgAt T j = y → (wy.alloc (.cells #[.int .u64 x.f, .int .u64 x.t] 74)).cell? ⟨bt, ot + j * 2 + 1, none⟩ = some (.int .u64 y.t) := fun j hj y hy => by
        obtain ⟨b2, o2, e2, _, p0, p1⟩ := reads_rg HRt.out rfl (rgAt_get hj)
        cases e2
        rw [hy] at p1
        exact ((bal KB.out.hB (.cells #[.int .u64 x.f, .int .u64 x.t] 74)).cell (p := ⟨bt, ot + j * 2 + 1, none⟩) hbt).trans p1
      obtain ⟨gx, hgx⟩ : ∃ gx, wy.heap.size = gx := ⟨_, rfl⟩
      rw [hgx] at kc2 ⊢
      have hgxn : ¬ g0 = gx := by omega
      clear d0 d1 x0 x1 x2 x3 x4
      generalize wy.alloc (.cells #[.int .u64 x.f, .int .u64 x.t] 74) = wz at kc2 dprev ⊢
      obtain ⟨x0, x1, x2, x3, x4⟩ := kc2.b.c5
      obtain ⟨y0, y1⟩ := kc2.c.c2
      have KC := Lib.hid kc2
      clear kc2 hgx KB
      by_cases c1 : x.f ≥ x.t
      · have R := Lib.hid (HIT.out 19 (HER.out.trans (if_pos (.inl c1))) (by decide))
        clear dprev
        go_quiet (fail)
        go_wp2_with fail
        go_ret2
        exact ⟨by rw [R.out]; rfl, below_drewN KC.out.hB _⟩
      by_cases c2 : x.f < f
      · have R := Lib.hid (HIT.out 19 (HER.out.trans (if_pos (.inr (.inl c2)))) (by decide))
        clear dprev
        go_quiet (fail)
        go_wp2_with fail
        go_ret2
        exact ⟨by rw [R.out]; rfl, below_drewN KC.out.hB _⟩
      by_cases c0 : k = 0
      · have NER := Lib.hid (HER.out.trans (if_neg (fun c => c.elim (fun d => c1 d) (fun d => d.elim c2 (fun g => by omega)))))
        subst c0
        clear dprev
        go_quiet (fail)
        by_cases c5 : x.t > rm
        · have R := Lib.hid (HIT.out 14 (NER.out.trans (if_pos c5)) (by decide))
          go_wp2_with fail
          go_ret2
          exact ⟨by rw [R.out]; rfl, below_drewN KC.out.hB _⟩
        · have M2 := Lib.hid (MIS.out (NER.out.trans (if_neg c5)))
          go_wp2_with fail
          go_roundw
          case rel => exact ⟨0 + 1, by omega, by go_num, M2.out, ⟨KC.out.b.drewN _, below_drewN KC.out.hB _⟩⟩
          case measure => simp [intOf]; omega
      · obtain ⟨m, rfl⟩ : ∃ m, k = m + 1 := ⟨k - 1, by omega⟩
        have q1 := dprev m (by omega) _ rfl
        obtain ⟨y, hy⟩ : ∃ y, rgAt T m = y := ⟨_, rfl⟩
        rw [Nat.add_sub_cancel, hy] at HER
        rw [hy] at q1
        have hm1 : ((m + 1 : Nat) : Int) > 0 := by omega
        have WM : IntKind.i64.wrap (((m + 1 : Nat) : Int) - 1) = (m : Int) := by rw [show ((m + 1 : Nat) : Int) - 1 = m by omega]; exact IntWalk.i64_in _ (by omega)
        have hmi : (m : Int) < T.length := by omega
        have hm0 : (0 : Int) ≤ m := by omega
        clear hy dprev
        by_cases c3 : x.f ≤ y.t
        · have R := Lib.hid (HIT.out 19 (HER.out.trans (if_pos (.inr (.inr ⟨by omega, c3⟩)))) (by decide))
          go_quiet (fail)
          go_wp2_with fail
          go_ret2
          exact ⟨by rw [R.out]; rfl, below_drewN KC.out.hB _⟩
        · have NER := Lib.hid (HER.out.trans (if_neg (fun c => c.elim (fun d => c1 d) (fun d => d.elim c2 (fun g => c3 g.2)))))
          go_quiet (fail)
          clear q1
          by_cases c5 : x.t > rm
          · have R := Lib.hid (HIT.out 14 (NER.out.trans (if_pos c5)) (by decide))
            go_wp2_with fail
            go_ret2
            exact ⟨by rw [R.out]; rfl, below_drewN KC.out.hB _⟩
          · have M2 := Lib.hid (MIS.out (NER.out.trans (if_neg c5)))
            go_wp2_with fail
            go_roundw
            case rel => exact ⟨(m + 1) + 1, by omega, by go_num, M2.out, ⟨KC.out.b.drewN _, below_drewN KC.out.hB _⟩⟩
            case measure => simp [intOf]; omega
    · obtain rfl : k = T.length := by omega
      have CH4 : Hid (ch = fstE (kErr ⟨a, b, f, T, K⟩) K.length 0) := Lib.hid (by rw [CH3.out, HM.out, fstE_end, if_neg (by decide)])
      clear HM
      go_wp2_with fail
      clear x0 x1 x2 x3 x4
      go_loopw [6] (fun s wr => ∃ k : Nat, k ≤ K.length ∧ s = .int .i64 k ∧ fstE (kErr ⟨a, b, f, T, K⟩) K.length 0 = fstE (kErr ⟨a, b, f, T, K⟩) (K.length - k) k ∧ BK w g0 29 #[.int .u64 a, .int .u64 b, .int .u64 f, .slice A T.length ca, .slice C K.length cc] wr) (fun s _ => K.length - (intOf s).toNat)
      case atStart => exact ⟨0, by omega, rfl, rfl, KB.out⟩
      case round =>
        obtain ⟨k, hk, rfl, hM, kb⟩ := hrel
        obtain ⟨wk, rfl⟩ : ∃ wk : World, wk = wr := ⟨_, rfl⟩
        have HM := Lib.hid hM
        have KK := Lib.hid kb
        clear hM KB
        obtain ⟨x0, x1, x2, x3, x4⟩ := kb.b.c5
        have hgy := kb.b.lt
        clear kb
        by_cases hlt : k < K.length
        · obtain ⟨bk, ok, rfl, hbk, p0⟩ := reads_kp HRk.out rfl (kpAt_get hlt)
          have d0 := (KK.out.hB.cell (p := ⟨bk, ok + k, none⟩) hbk).trans p0
          have HER : Hid (kErr ⟨a, b, f, T, K⟩ k = if 0 < k ∧ kpAt K k ≤ kpAt K (k - 1) then 19 else if inR T (kpAt K k) = false then 12 else 0) := Lib.hid rfl
          have HIT := Lib.hid (fun e (h : kErr ⟨a, b, f, T, K⟩ k = e) (he : e ≠ 0) => (by rw [CH4.out, HM.out, fstE_hit hlt (by rw [h]; exact he), h] : ch = (e, k)))
          have MIS := Lib.hid (fun (h : kErr ⟨a, b, f, T, K⟩ k = 0) => HM.out.trans (fstE_miss hlt h))
          have hki : (k : Int) < K.length := by omega
          have hk0 : (0 : Int) ≤ k := by omega
          have CN : Hid (∀ wv, BK w g0 29 #[.int .u64 a, .int .u64 b, .int .u64 f, .slice A T.length ca, .slice (some ⟨bk, ok, none⟩) K.length cc] wv → Calls Try.prog 106 #[.slice A T.length ca, .int .u64 (kpAt K k)] wv (RetB (inR T (kpAt K k)) wv)) := Lib.hid (fun wv hv => inside_any T (kpAt K k) _ wv (RgsAt.below HT.out hv.hB))
          have dprev : ∀ j, j < K.length → ∀ y, kpAt K j = y → wk.cell? ⟨bk, ok + j, none⟩ = some (.int .u64 y) := fun j hj y hy => by
            obtain ⟨b2, o2, e2, _, p1⟩ := reads_kp HRk.out rfl (kpAt_get hj)
            cases e2
            rw [hy] at p1
            exact (KK.out.hB.cell (p := ⟨bk, ok + j, none⟩) hbk).trans p1
          obtain ⟨x, hx⟩ : ∃ x, kpAt K k = x := ⟨_, rfl⟩
          have HDX : Hid (∀ wv, BK w g0 29 #[.int .u64 a, .int .u64 b, .int .u64 f, .slice A T.length ca, .slice (some ⟨bk, ok, none⟩) K.length cc] wv → wv.cell? ⟨bk, ok + k, none⟩ = some (.int .u64 x)) := Lib.hid (fun wv hv => by rw [← hx]; exact (hv.hB.cell (p := ⟨bk, ok + k, none⟩) hbk).trans p0)
          rw [hx] at d0 HER CN
          clear hx p0
          obtain ⟨ib, hib⟩ : ∃ ib, inR T x = ib := ⟨_, rfl⟩
          rw [hib] at HER CN
          clear hib
          by_cases c0 : k = 0
          · subst c0
            simp only [Nat.add_zero] at d0 HDX
            clear dprev
            go_upto_region 18 with fail
            go_quiet (fail)
            go_upto_region 20 with fail
            have kq : BK w g0 29 #[.int .u64 a, .int .u64 b, .int .u64 f, .slice A T.length ca, .slice (some ⟨bk, ok, none⟩) K.length cc] (wk.drewN nq) := ⟨KK.out.b.drewN _, below_drewN KK.out.hB _⟩
            generalize wk.drewN nq = wq at kq ⊢
            have KQ := Lib.hid kq
            clear kq KK x0 x1 x2 x3 x4 d0 
            obtain ⟨x0, x1, x2, x3, x4⟩ := KQ.out.b.c5
            have d0 := HDX.out _ KQ.out
            cases ib with
            | false =>
              have R := Lib.hid (HIT.out 12 (by rw [HER.out, if_neg (fun c => absurd c.1 (by omega))]; rfl) (by decide))
              go_region_with (go_at_call 106; refine (CN.out _ (by (repeat (first | with_reducible exact KQ.out | with_reducible refine BK.drew ?_)))).mono ?_; rintro e wn ⟨rfl, hbn⟩; have K' : BK w g0 29 #[.int .u64 a, .int .u64 b, .int .u64 f, .slice A T.length ca, .slice (some ⟨bk, ok, none⟩) K.length cc] wn := (by refine BK.below ?_ hbn; (repeat (first | with_reducible exact KQ.out | with_reducible refine BK.drew ?_))); have KN := Lib.hid K'; clear K' hbn)
              all_goals
                go_wp2_with fail
                go_ret2
                exact ⟨by rw [R.out]; rfl, KN.out.hB⟩
            | true =>
              have M2 := Lib.hid (MIS.out (by rw [HER.out, if_neg (fun c => absurd c.1 (by omega))]; rfl))
              go_region_with (go_at_call 106; refine (CN.out _ (by (repeat (first | with_reducible exact KQ.out | with_reducible refine BK.drew ?_)))).mono ?_; rintro e wn ⟨rfl, hbn⟩; have K' : BK w g0 29 #[.int .u64 a, .int .u64 b, .int .u64 f, .slice A T.length ca, .slice (some ⟨bk, ok, none⟩) K.length cc] wn := (by refine BK.below ?_ hbn; (repeat (first | with_reducible exact KQ.out | with_reducible refine BK.drew ?_))); have KN := Lib.hid K'; clear K' hbn)
              all_goals
                go_wp2_with fail
                go_roundw
                case rel => exact ⟨0 + 1, by omega, by go_num, M2.out, KN.out⟩
                case measure => simp [intOf]; omega
          · obtain ⟨m, rfl⟩ : ∃ m, k = m + 1 := ⟨k - 1, by omega⟩
            have q1 := dprev m (by omega) _ rfl
            obtain ⟨y, hy⟩ : ∃ y, kpAt K m = y := ⟨_, rfl⟩
            have HER2 : Hid (kErr ⟨a, b, f, T, K⟩ (m + 1) = if x ≤ y then 19 else if ib = false then 12 else 0) := Lib.hid (by
              rw [HER.out, Nat.add_sub_cancel, hy]
              by_cases c : x ≤ y
              · rw [if_pos c, if_pos ⟨by omega, c⟩]
              · rw [if_neg c, if_neg (fun h => c h.2)])
            rw [hy] at q1
            have hm1 : ((m + 1 : Nat) : Int) > 0 := by omega
            have WM : IntKind.i64.wrap (((m + 1 : Nat) : Int) - 1) = (m : Int) := by rw [show ((m + 1 : Nat) : Int) - 1 = m by omega]; exact IntWalk.i64_in _ (by omega)
            have hmi : (m : Int) < K.length := by omega
            have hm0 : (0 : Int) ≤ m := by omega
            clear hy dprev HER
            by_cases c3 : x ≤ y
            · have R := Lib.hid (HIT.out 19 (HER2.out.trans (if_pos c3)) (by decide))
              go_upto_region 18 with fail
              go_quiet (fail)
              go_wp2_with fail
              go_ret2
              exact ⟨by rw [R.out]; rfl, below_drewN KK.out.hB _⟩
            · have HER3 := Lib.hid (HER2.out.trans (if_neg c3))
              clear HER2
              go_upto_region 18 with fail
              go_quiet (fail)
              go_upto_region 20 with fail
              have kq : BK w g0 29 #[.int .u64 a, .int .u64 b, .int .u64 f, .slice A T.length ca, .slice (some ⟨bk, ok, none⟩) K.length cc] (wk.drewN nq) := ⟨KK.out.b.drewN _, below_drewN KK.out.hB _⟩
              generalize wk.drewN nq = wq at kq ⊢
              have KQ := Lib.hid kq
              clear kq KK x0 x1 x2 x3 x4 d0 q1
              obtain ⟨x0, x1, x2, x3, x4⟩ := KQ.out.b.c5
              have d0 := HDX.out _ KQ.out
              cases ib with
              | false =>
                have R := Lib.hid (HIT.out 12 (by rw [HER3.out]; rfl) (by decide))
                go_region_with (go_at_call 106; refine (CN.out _ (by (repeat (first | with_reducible exact KQ.out | with_reducible refine BK.drew ?_)))).mono ?_; rintro e wn ⟨rfl, hbn⟩; have K' : BK w g0 29 #[.int .u64 a, .int .u64 b, .int .u64 f, .slice A T.length ca, .slice (some ⟨bk, ok, none⟩) K.length cc] wn := (by refine BK.below ?_ hbn; (repeat (first | with_reducible exact KQ.out | with_reducible refine BK.drew ?_))); have KN := Lib.hid K'; clear K' hbn)
                all_goals
                  go_wp2_with fail
                  go_ret2
                  exact ⟨by rw [R.out]; rfl, KN.out.hB⟩
              | true =>
                have M2 := Lib.hid (MIS.out (by rw [HER3.out]; rfl))
                go_region_with (go_at_call 106; refine (CN.out _ (by (repeat (first | with_reducible exact KQ.out | with_reducible refine BK.drew ?_)))).mono ?_; rintro e wn ⟨rfl, hbn⟩; have K' : BK w g0 29 #[.int .u64 a, .int .u64 b, .int .u64 f, .slice A T.length ca, .slice (some ⟨bk, ok, none⟩) K.length cc] wn := (by refine BK.below ?_ hbn; (repeat (first | with_reducible exact KQ.out | with_reducible refine BK.drew ?_))); have KN := Lib.hid K'; clear K' hbn)
                all_goals
                  go_wp2_with fail
                  go_roundw
                  case rel => exact ⟨(m + 1) + 1, by omega, by go_num, M2.out, KN.out⟩
                  case measure => simp [intOf]; omega
        · obtain rfl : k = K.length := by omega
          have R : Hid (ch = (0, 0)) := Lib.hid (by rw [CH4.out, HM.out, fstE_end])
          go_wp2_with fail
          go_ret2
          exact ⟨by rw [R.out]; rfl, KK.out.hB⟩
end Go.Proofs.Ytfgkkflbpfocjaa

