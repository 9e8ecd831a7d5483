/- Contract: the check of a receiver's ledger. -/
import Derived.Test.YtfgkkflbpfocjaaZc7
namespace Go.Proofs.Ytfgkkflbpfocjaa
open Go.RowKit
set_option linter.unusedVariables false
set_option linter.unusedSimpArgs false

/-- a block that is known whole, far from what was there -/
structure BK (w : World) (g : Nat) (t : TypeId) (cs : Array Value) (wx : World) : Prop where
  b : Blk wx g t cs
  hB : Below w.heap.size w wx
section
variable {w wx wy : World} {g : Nat} {t : TypeId} {cs : Array Value}
theorem BK.below (h : BK w g t cs wx) (hb : Below wx.heap.size wx wy) : BK w g t cs wy := ⟨h.b.below hb, bnext h.hB hb⟩
theorem BK.drew (h : BK w g t cs wx) : BK w g t cs wx.drew := h.below (Below.refl _ _).drew
end
/-- two of them -/
structure BK2 (w : World) (g : Nat) (t : TypeId) (cs : Array Value) (g' : Nat) (t' : TypeId) (cs' : Array Value) (wx : World) : Prop where
  b : Blk wx g t cs
  c : Blk wx g' t' cs'
  hB : Below w.heap.size w wx
section
variable {w wx wy : World} {g g' : Nat} {t t' : TypeId} {cs cs' : Array Value}
theorem BK2.below (h : BK2 w g t cs g' t' cs' wx) (hb : Below wx.heap.size wx wy) : BK2 w g t cs g' t' cs' wy := ⟨h.b.below hb, h.c.below hb, bnext h.hB hb⟩
theorem BK2.drew (h : BK2 w g t cs g' t' cs' wx) : BK2 w g t cs g' t' cs' wx.drew := h.below (Below.refl _ _).drew
end
theorem Blk.c2 {w : World} {g : Nat} {t : TypeId} {a b : Value} (h : Blk w g t #[a, b]) : w.cell? ⟨g, 0, none⟩ = some a ∧ w.cell? ⟨g, 1, none⟩ = some b := ⟨h.cell 0, h.cell 1⟩
theorem Blk.f2 {w : World} {g : Nat} {t : TypeId} {a b : Value} (h : Blk w g t #[a, b]) : w.frozen? ⟨g, 0, none⟩ = false ∧ w.frozen? ⟨g, 1, none⟩ = false := ⟨h.frozen 0, h.frozen 1⟩
theorem kpAt_get {l : List Int} {i : Nat} (h : i < l.length) : l[i]? = some (kpAt l i) := by
  unfold kpAt; rw [List.getD_eq_getElem?_getD, List.getElem?_eq_getElem h]; rfl
theorem rgAt_get {l : List Rg} {i : Nat} (h : i < l.length) : l[i]? = some (rgAt l i) := by
  unfold rgAt; rw [List.getD_eq_getElem?_getD, List.getElem?_eq_getElem h]; rfl

set_option maxRecDepth 100000 in
set_option maxHeartbeats 8000000 in
theorem vCheck_any (z : Rec) (hw : WfR z) (vt vk : Value) (w : World) (ht : RgsAt w vt z.tk) (hk : KpsAt w vk z.kp) :
    Calls Try.prog 61 #[.agg #[.int .u64 z.g, .int .u64 z.r, .int .u64 z.fl, vt, vk]] w (Ret2 .i64 .i64 (chkR z).1 ((chkR z).2 : Int) w) := by
  obtain ⟨a, b, f, T, K⟩ := z
  obtain ⟨⟨ha0, ha1⟩, ⟨hb0, hb1⟩, ⟨hf0, hf1⟩, hTw, hKw⟩ := hw
  dsimp only at *
  obtain ⟨A, ca, rfl, _, hca, hRt⟩ := id ht
  obtain ⟨C, cc, rfl, _, hcc, hRk⟩ := id hk
  unfold maxLen at hca hcc
  have HT := Lib.hid ht
  have HK := Lib.hid hk
  have HRt := Lib.hid hRt
  have HRk := Lib.hid hRk
  have HTw := Lib.hid hTw
  have HKw := Lib.hid hKw
  obtain ⟨ch, hch⟩ : ∃ ch, chkR ⟨a, b, f, T, K⟩ = ch := ⟨_, rfl⟩
  have CH : Hid (ch = if 1125899906842624 < a then (2, 0) else if a < b ∨ a - b < f then (14, 0) else if 1000 < T.length ∨ 1000 < K.length then (5, 0) else if (fstE (tErr ⟨a, b, f, T, K⟩) T.length 0).1 ≠ 0 then fstE (tErr ⟨a, b, f, T, K⟩) T.length 0 else fstE (kErr ⟨a, b, f, T, K⟩) K.length 0) := Lib.hid (by rw [← hch]; rfl)
  rw [hch]
  clear ht hk hRt hRk hTw hKw hch
  by_cases h1 : 1125899906842624 < a
  · have R := Lib.hid (CH.out.trans (if_pos h1))
    go_enter Try.func61, Try.ntmps61
    go_wp2_with fail
    go_ret2
    exact ⟨by rw [R.out]; rfl, (by repeat (first | with_reducible exact Below.refl _ _ | with_reducible refine Below.drew ?_ | with_reducible refine below_drewN ?_ _ | with_reducible refine bal ?_ _ | with_reducible refine bset ?_ (by first | (simp; done) | (simp; omega)) _ | with_reducible refine bnext ?_ (by assumption) | with_reducible assumption))⟩
  have h1i : ¬ a > 1125899906842624 := by omega
  have CH1 := Lib.hid (CH.out.trans (if_neg h1))
  clear CH h1
  by_cases h2 : a < b
  · have R := Lib.hid (CH1.out.trans (if_pos (.inl h2)))
    go_enter Try.func61, Try.ntmps61
    go_upto_region 3 with fail
    go_quiet (fail)
    go_wp2_with fail
    go_ret2
    exact ⟨by rw [R.out]; rfl, (by repeat (first | with_reducible exact Below.refl _ _ | with_reducible refine Below.drew ?_ | with_reducible refine below_drewN ?_ _ | with_reducible refine bal ?_ _ | with_reducible refine bset ?_ (by first | (simp; done) | (simp; omega)) _ | with_reducible refine bnext ?_ (by assumption) | with_reducible assumption))⟩
  have h2i : b ≤ a := by omega
  have RM := Lib.hid (fun w => room_any a b f (.slice A T.length ca) (.slice C K.length cc) w hb0 h2i ha1 ⟨_, _, _, rfl⟩ ⟨_, _, _, rfl⟩)
  obtain ⟨rm, hrm⟩ : ∃ rm, a - b = rm := ⟨_, rfl⟩
  rw [hrm] at RM CH1
  have hrm0 : 0 ≤ rm ∧ rm ≤ 1125899906842624 := by omega
  have HRM := Lib.hid hrm
  have N2 := Lib.hid h2
  clear h2 hrm
  go_enter Try.func61, Try.ntmps61
  go_upto_region 3 with fail
  have kb : BK w w.heap.size 29 #[.int .u64 a, .int .u64 b, .int .u64 f, .slice A T.length ca, .slice C K.length cc] (w.alloc (.cells #[.int .u64 a, .int .u64 b, .int .u64 f, .slice A T.length ca, .slice C K.length cc] 29)) := ⟨Blk.new _ _ _, bal (Below.refl _ _) _⟩
  obtain ⟨g0, hg0⟩ : ∃ g0, w.heap.size = g0 := ⟨_, rfl⟩
  have HG0 := Lib.hid hg0
  have hgw : g0 < (w.alloc (.cells #[.int .u64 a, .int .u64 b, .int .u64 f, .slice A T.length ca, .slice C K.length cc] 29)).heap.size := by rw [World.size_alloc]; omega
  have kb' : BK w g0 29 #[.int .u64 a, .int .u64 b, .int .u64 f, .slice A T.length ca, .slice C K.length cc] (w.alloc (.cells #[.int .u64 a, .int .u64 b, .int .u64 f, .slice A T.length ca, .slice C K.length cc] 29)) := by rw [← hg0]; exact kb
  clear kb
  generalize w.alloc (.cells #[.int .u64 a, .int .u64 b, .int .u64 f, .slice A T.length ca, .slice C K.length cc] 29) = w1 at kb' hgw ⊢
  rw [hg0]
  clear hg0
  obtain ⟨d3, hd3⟩ : ∃ d3, decide (f > rm) = d3 := ⟨_, rfl⟩
  have D3 := Lib.hid hd3
  clear hd3
  obtain ⟨x0, x1, x2, x3, x4⟩ := kb'.b.c5
  have K1 := Lib.hid kb'
  clear kb'
  go_cut [12] (fun s12 wx => s12 = .bool d3 ∧ BK w g0 29 #[.int .u64 a, .int .u64 b, .int .u64 f, .slice A T.length ca, .slice C K.length cc] wx)
  case first =>
    have n1 : decide (b > a) = false := by simp; omega
    have n2 : ¬ b > a := by omega
    go_region_with (go_at_call 103; refine (RM.out _).mono ?_; rintro e wn ⟨rfl, hbn⟩; have K' : BK w g0 29 #[.int .u64 a, .int .u64 b, .int .u64 f, .slice A T.length ca, .slice C K.length cc] wn := (by refine BK.below ?_ hbn; (repeat (first | with_reducible exact K1.out | with_reducible refine BK.drew ?_))); clear K1 x0 x1 x2 x3 x4; have K1 := Lib.hid K'; obtain ⟨x0, x1, x2, x3, x4⟩ := K'.b.c5; clear K' hbn)
    all_goals
      go_wp2_with fail
      go_meet
      exact ⟨by rw [← D3.out], K1.out⟩

  case rest =>
    obtain ⟨rfl, kx⟩ := hcut
    clear K1 x0 x1 x2 x3 x4
    obtain ⟨x0, x1, x2, x3, x4⟩ := kx.b.c5
    have K1 := Lib.hid kx
    have hgc := kx.b.lt
    clear kx
    by_cases h3 : f > rm
    · have R : Hid (ch = (14, 0)) := Lib.hid (CH1.out.trans (if_pos (.inr h3)))
      obtain rfl : d3 = true := by rw [← D3.out]; exact decide_eq_true h3
      go_wp2_with fail
      go_ret2
      exact ⟨by rw [R.out]; rfl, K1.out.hB⟩
    have CH2 := Lib.hid (CH1.out.trans (if_neg (fun c => c.elim N2.out (fun d => h3 d))))
    obtain rfl : d3 = false := by rw [← D3.out]; exact decide_eq_false h3
    clear CH1 D3 h3
    by_cases h4 : 1000 < T.length
    · have R : Hid (ch = (5, 0)) := Lib.hid (CH2.out.trans (if_pos (.inl h4)))
      have h4i : (T.length : Int) > 1000 := by omega
      go_wp2_with fail
      go_ret2
      exact ⟨by rw [R.out]; rfl, K1.out.hB⟩
    have h4i : ¬ (T.length : Int) > 1000 := by omega
    by_cases h5 : 1000 < K.length
    · have R : Hid (ch = (5, 0)) := Lib.hid (CH2.out.trans (if_pos (.inr h5)))
      have h5i : (K.length : Int) > 1000 := by omega
      go_wp2_with fail
      go_ret2
      exact ⟨by rw [R.out]; rfl, K1.out.hB⟩
    have h5i : ¬ (K.length : Int) > 1000 := by omega
    have CH3 := Lib.hid (CH2.out.trans (if_neg (fun c => c.elim h4 h5)))
    clear CH2
    have htl : T.length ≤ 1000 := by omega
    have hkl : K.length ≤ 1000 := by omega
    clear h4 h5
    go_wp2_with fail
    clear x0 x1 x2 x3 x4
    go_loopw [39] (fun s wr => ∃ k : Nat, k ≤ T.length ∧ s = .int .i64 k ∧ fstE (tErr ⟨a, b, f, T, K⟩) T.length 0 = fstE (tErr ⟨a, b, f, T, K⟩) (T.length - k) k ∧ BK w g0 29 #[.int .u64 a, .int .u64 b, .int .u64 f, .slice A T.length ca, .slice C K.length cc] wr) (fun s _ => T.length - (intOf s).toNat)
    case atStart => exact ⟨0, by omega, rfl, rfl, K1.out⟩
    case round =>
      obtain ⟨k, hk, rfl, hM, kb⟩ := hrel
      obtain ⟨wy, rfl⟩ : ∃ wy : World, wy = wr := ⟨_, rfl⟩
      have HM := Lib.hid hM
      have KB := Lib.hid kb
      clear hM K1
      obtain ⟨x0, x1, x2, x3, x4⟩ := kb.b.c5
      have hgy := kb.b.lt
      clear kb
      by_cases hlt : k < T.length
      · obtain ⟨bt, ot, rfl, hbt, p0, p1⟩ := reads_rg HRt.out rfl (rgAt_get hlt)
        have d0 := (KB.out.hB.cell (p := ⟨bt, ot + k * 2, none⟩) hbt).trans p0
        have d1 := (KB.out.hB.cell (p := ⟨bt, ot + k * 2 + 1, none⟩) hbt).trans p1
        clear p0 p1
        have HER : Hid (tErr ⟨a, b, f, T, K⟩ k = if (rgAt T k).t ≤ (rgAt T k).f ∨ (rgAt T k).f < f ∨ (0 < k ∧ (rgAt T k).f ≤ (rgAt T (k - 1)).t) then 19 else if rm < (rgAt T k).t then 14 else 0) := Lib.hid (by rw [← HRM.out]; rfl)
        have HIT := Lib.hid (fun e (h : tErr ⟨a, b, f, T, K⟩ k = e) (he : e ≠ 0) => (by rw [CH3.out, HM.out, fstE_hit hlt (by rw [h]; exact he), h, if_pos he] : ch = (e, k)))
        have MIS := Lib.hid (fun (h : tErr ⟨a, b, f, T, K⟩ k = 0) => HM.out.trans (fstE_miss hlt h))
        have hki : (k : Int) < T.length := by omega
        have hk0 : (0 : Int) ≤ k := by omega
        obtain ⟨x, hx⟩ : ∃ x, rgAt T k = x := ⟨_, rfl⟩
        rw [hx] at d0 d1 HER
        clear hx
        go_upto_region 10 with fail
        have kc2 : BK2 w g0 29 #[.int .u64 a, .int .u64 b, .int .u64 f, .slice (some ⟨bt, ot, none⟩) T.length ca, .slice C K.length cc] wy.heap.size 74 #[.int .u64 x.f, .int .u64 x.t] (wy.alloc (.cells #[.int .u64 x.f, .int .u64 x.t] 74)) := ⟨KB.out.b.alloc _, Blk.new _ _ _, bal KB.out.hB _⟩
        have dprev : ∀ j, j < T.length → ∀ y, rgAt T j = y → (wy.alloc (.cells #[.int .u64 x.f, .int .u64 x.t] 74)).cell? ⟨bt, ot + j * 2 + 1, none⟩ = some (.int .u64 y.t) := fun j hj y hy => by
          obtain ⟨b2, o2, e2, _, p0, p1⟩ := reads_rg HRt.out rfl (rgAt_get hj)
          cases e2
          rw [hy] at p1
          exact ((bal KB.out.hB (.cells #[.int .u64 x.f, .int .u64 x.t] 74)).cell (p := ⟨bt, ot + j * 2 + 1, none⟩) hbt).trans p1
        obtain ⟨gx, hgx⟩ : ∃ gx, wy.heap.size = gx := ⟨_, rfl⟩
        rw [hgx] at kc2 ⊢
        have hgxn : ¬ g0 = gx := by omega
        clear d0 d1 x0 x1 x2 x3 x4
        generalize wy.alloc (.cells #[.int .u64 x.f, .int .u64 x.t] 74) = wz at kc2 dprev ⊢
        obtain ⟨x0, x1, x2, x3, x4⟩ := kc2.b.c5
        obtain ⟨y0, y1⟩ := kc2.c.c2
        have KC := Lib.hid kc2
        clear kc2 hgx KB
        by_cases c1 : x.f ≥ x.t
        · have R := Lib.hid (HIT.out 19 (HER.out.trans (if_pos (.inl c1))) (by decide))
          clear dprev
          go_quiet (fail)
          go_wp2_with fail
          go_ret2
          exact ⟨by rw [R.out]; rfl, below_drewN KC.out.hB _⟩
        by_cases c2 : x.f < f
        · have R := Lib.hid (HIT.out 19 (HER.out.trans (if_pos (.inr (.inl c2)))) (by decide))
          clear dprev
          go_quiet (fail)
          go_wp2_with fail
          go_ret2
          exact ⟨by rw [R.out]; rfl, below_drewN KC.out.hB _⟩
        have RG : Hid (∀ wv, BK2 w g0 29 #[.int .u64 a, .int .u64 b, .int .u64 f, .slice (some ⟨bt, ot, none⟩) T.length ca, .slice C K.length cc] gx 74 #[.int .u64 x.f, .int .u64 x.t] wv → Calls Try.prog 103 #[.agg #[.int .u64 a, .int .u64 b, .int .u64 f, .slice (some ⟨bt, ot, none⟩) T.length ca, .slice C K.length cc]] wv (RetI .u64 rm wv)) := Lib.hid (fun wv _ => RM.out wv)
        obtain ⟨d4, hd4⟩ : ∃ d4, decide (x.t > rm) = d4 := ⟨_, rfl⟩
        have D4 := Lib.hid hd4
        clear hd4
        by_cases c0 : k = 0
        · have NER := Lib.hid (HER.out.trans (if_neg (fun c => c.elim (fun d => c1 d) (fun d => d.elim c2 (fun g => by omega)))))
          subst c0
          clear dprev
          go_quiet (fail)
          go_upto_region 12 with fail
          have kq := (show BK2 w g0 29 #[.int .u64 a, .int .u64 b, .int .u64 f, .slice (some ⟨bt, ot, none⟩) T.length ca, .slice C K.length cc] gx 74 #[.int .u64 x.f, .int .u64 x.t] _ from KC.out.below (below_drewN (Below.refl _ _) nq))
          generalize wz.drewN nq = wq at kq ⊢
          have KQ := Lib.hid kq
          clear kq KC x0 x1 x2 x3 x4 y0 y1
          obtain ⟨x0, x1, x2, x3, x4⟩ := KQ.out.b.c5
          obtain ⟨y0, y1⟩ := KQ.out.c.c2
          have hgq := KQ.out.b.lt
          have hgq2 := KQ.out.c.lt
          go_cut [74] (fun s wx => s = .bool d4 ∧ BK2 w g0 29 #[.int .u64 a, .int .u64 b, .int .u64 f, .slice (some ⟨bt, ot, none⟩) T.length ca, .slice C K.length cc] gx 74 #[.int .u64 x.f, .int .u64 x.t] wx)
          case first =>
            go_region_with (go_at_call 103; refine (RM.out _).mono ?_; rintro e wn ⟨rfl, hbn⟩; have K' : BK2 w g0 29 #[.int .u64 a, .int .u64 b, .int .u64 f, .slice (some ⟨bt, ot, none⟩) T.length ca, .slice C K.length cc] gx 74 #[.int .u64 x.f, .int .u64 x.t] wn := (by refine BK2.below ?_ hbn; (repeat (first | with_reducible exact KQ.out | with_reducible refine BK2.drew ?_))); clear KQ x0 x1 x2 x3 x4 y0 y1; have KQ := Lib.hid K'; obtain ⟨x0, x1, x2, x3, x4⟩ := K'.b.c5; obtain ⟨y0, y1⟩ := K'.c.c2; clear K' hbn)
            all_goals
              go_wp2_with fail
              go_meet
              exact ⟨by rw [← D4.out], KQ.out⟩
          case rest =>
            obtain ⟨rfl, kx⟩ := hcut
            have KX := Lib.hid kx
            clear kx KQ x0 x1 x2 x3 x4 y0 y1
            by_cases c5 : x.t > rm
            · have R := Lib.hid (HIT.out 14 (NER.out.trans (if_pos c5)) (by decide))
              obtain rfl : d4 = true := by rw [← D4.out]; exact decide_eq_true c5
              go_wp2_with fail
              go_ret2
              exact ⟨by rw [R.out]; rfl, KX.out.hB⟩
            · have M2 := Lib.hid (MIS.out (NER.out.trans (if_neg c5)))
              obtain rfl : d4 = false := by rw [← D4.out]; exact decide_eq_false c5
              go_wp2_with fail
              go_roundw
              case rel => exact ⟨0 + 1, by omega, by go_num, M2.out, ⟨KX.out.b, KX.out.hB⟩⟩
              case measure => simp [intOf]; omega
        · obtain ⟨m, rfl⟩ : ∃ m, k = m + 1 := ⟨k - 1, by omega⟩
          have q1 := dprev m (by omega) _ rfl
          obtain ⟨y, hy⟩ : ∃ y, rgAt T m = y := ⟨_, rfl⟩
          rw [Nat.add_sub_cancel, hy] at HER
          rw [hy] at q1
          have hm1 : ((m + 1 : Nat) : Int) > 0 := by omega
          have WM : IntKind.i64.wrap (((m + 1 : Nat) : Int) - 1) = (m : Int) := by rw [show ((m + 1 : Nat) : Int) - 1 = m by omega]; exact IntWalk.i64_in _ (by omega)
          have hmi : (m : Int) < T.length := by omega
          have hm0 : (0 : Int) ≤ m := by omega
          clear hy dprev
          by_cases c3 : x.f ≤ y.t
          · have R := Lib.hid (HIT.out 19 (HER.out.trans (if_pos (.inr (.inr ⟨by omega, c3⟩)))) (by decide))
            go_quiet (fail)
            go_wp2_with fail
            go_ret2
            exact ⟨by rw [R.out]; rfl, below_drewN KC.out.hB _⟩
          · have NER := Lib.hid (HER.out.trans (if_neg (fun c => c.elim (fun d => c1 d) (fun d => d.elim c2 (fun g => c3 g.2)))))
            go_quiet (fail)
            clear q1
            go_upto_region 12 with fail
            have kq := (show BK2 w g0 29 #[.int .u64 a, .int .u64 b, .int .u64 f, .slice (some ⟨bt, ot, none⟩) T.length ca, .slice C K.length cc] gx 74 #[.int .u64 x.f, .int .u64 x.t] _ from KC.out.below (below_drewN (Below.refl _ _) nq))
            generalize wz.drewN nq = wq at kq ⊢
            have KQ := Lib.hid kq
            clear kq KC x0 x1 x2 x3 x4 y0 y1
            obtain ⟨x0, x1, x2, x3, x4⟩ := KQ.out.b.c5
            obtain ⟨y0, y1⟩ := KQ.out.c.c2
            have hgq := KQ.out.b.lt
            have hgq2 := KQ.out.c.lt
            go_cut [74] (fun s wx => s = .bool d4 ∧ BK2 w g0 29 #[.int .u64 a, .int .u64 b, .int .u64 f, .slice (some ⟨bt, ot, none⟩) T.length ca, .slice C K.length cc] gx 74 #[.int .u64 x.f, .int .u64 x.t] wx)
            case first =>
              go_region_with (go_at_call 103; refine (RM.out _).mono ?_; rintro e wn ⟨rfl, hbn⟩; have K' : BK2 w g0 29 #[.int .u64 a, .int .u64 b, .int .u64 f, .slice (some ⟨bt, ot, none⟩) T.length ca, .slice C K.length cc] gx 74 #[.int .u64 x.f, .int .u64 x.t] wn := (by refine BK2.below ?_ hbn; (repeat (first | with_reducible exact KQ.out | with_reducible refine BK2.drew ?_))); clear KQ x0 x1 x2 x3 x4 y0 y1; have KQ := Lib.hid K'; obtain ⟨x0, x1, x2, x3, x4⟩ := K'.b.c5; obtain ⟨y0, y1⟩ := K'.c.c2; clear K' hbn)
              all_goals
                go_wp2_with fail
                go_meet
                exact ⟨by rw [← D4.out], KQ.out⟩
            case rest =>
              obtain ⟨rfl, kx⟩ := hcut
              have KX := Lib.hid kx
              clear kx KQ x0 x1 x2 x3 x4 y0 y1
              by_cases c5 : x.t > rm
              · have R := Lib.hid (HIT.out 14 (NER.out.trans (if_pos c5)) (by decide))
                obtain rfl : d4 = true := by rw [← D4.out]; exact decide_eq_true c5
                go_wp2_with fail
                go_ret2
                exact ⟨by rw [R.out]; rfl, KX.out.hB⟩
              · have M2 := Lib.hid (MIS.out (NER.out.trans (if_neg c5)))
                obtain rfl : d4 = false := by rw [← D4.out]; exact decide_eq_false c5
                go_wp2_with fail
                go_roundw
                case rel => exact ⟨(m + 1) + 1, by omega, by go_num, M2.out, ⟨KX.out.b, KX.out.hB⟩⟩
                case measure => simp [intOf]; omega
      · obtain rfl : k = T.length := by omega
        have CH4 : Hid (ch = fstE (kErr ⟨a, b, f, T, K⟩) K.length 0) := Lib.hid (by rw [CH3.out, HM.out, fstE_end, if_neg (by decide)])
        clear HM
        go_wp2_with fail
        clear x0 x1 x2 x3 x4
        go_loopw [85] (fun s wr => ∃ k : Nat, k ≤ K.length ∧ s = .int .i64 k ∧ fstE (kErr ⟨a, b, f, T, K⟩) K.length 0 = fstE (kErr ⟨a, b, f, T, K⟩) (K.length - k) k ∧ BK w g0 29 #[.int .u64 a, .int .u64 b, .int .u64 f, .slice A T.length ca, .slice C K.length cc] wr) (fun s _ => K.length - (intOf s).toNat)
        case atStart => exact ⟨0, by omega, rfl, rfl, KB.out⟩
        case round =>
          obtain ⟨k, hk, rfl, hM, kb⟩ := hrel
          obtain ⟨wk, rfl⟩ : ∃ wk : World, wk = wr := ⟨_, rfl⟩
          have HM := Lib.hid hM
          have KK := Lib.hid kb
          clear hM KB
          obtain ⟨x0, x1, x2, x3, x4⟩ := kb.b.c5
          have hgy := kb.b.lt
          have HTk := Lib.hid (RgsAt.below HT.out kb.hB)
          clear kb
          by_cases hlt : k < K.length
          · obtain ⟨bk, ok, rfl, hbk, p0⟩ := reads_kp HRk.out rfl (kpAt_get hlt)
            have d0 := (KK.out.hB.cell (p := ⟨bk, ok + k, none⟩) hbk).trans p0
            have HER : Hid (kErr ⟨a, b, f, T, K⟩ k = if 0 < k ∧ kpAt K k ≤ kpAt K (k - 1) then 19 else if inR T (kpAt K k) = false then 12 else 0) := Lib.hid rfl
            have HIT := Lib.hid (fun e (h : kErr ⟨a, b, f, T, K⟩ k = e) (he : e ≠ 0) => (by rw [CH4.out, HM.out, fstE_hit hlt (by rw [h]; exact he), h] : ch = (e, k)))
            have MIS := Lib.hid (fun (h : kErr ⟨a, b, f, T, K⟩ k = 0) => HM.out.trans (fstE_miss hlt h))
            have hki : (k : Int) < K.length := by omega
            have hk0 : (0 : Int) ≤ k := by omega
            have CN : Hid (∀ wv, BK w g0 29 #[.int .u64 a, .int .u64 b, .int .u64 f, .slice A T.length ca, .slice (some ⟨bk, ok, none⟩) K.length cc] wv → Calls Try.prog 104 #[.slice A T.length ca, .int .u64 (kpAt K k)] wv (RetB (inR T (kpAt K k)) wv)) := Lib.hid (fun wv hv => rin_any T (kpAt K k) _ wv (RgsAt.below HT.out hv.hB))
            have dprev : ∀ j, j < K.length → ∀ y, kpAt K j = y → wk.cell? ⟨bk, ok + j, none⟩ = some (.int .u64 y) := fun j hj y hy => by
              obtain ⟨b2, o2, e2, _, p1⟩ := reads_kp HRk.out rfl (kpAt_get hj)
              cases e2
              rw [hy] at p1
              exact (KK.out.hB.cell (p := ⟨bk, ok + j, none⟩) hbk).trans p1
            obtain ⟨x, hx⟩ : ∃ x, kpAt K k = x := ⟨_, rfl⟩
            rw [hx] at d0 HER CN
            clear hx p0
            obtain ⟨ib, hib⟩ : ∃ ib, inR T x = ib := ⟨_, rfl⟩
            rw [hib] at HER CN
            clear hib
            by_cases c0 : k = 0
            · subst c0
              simp only [Nat.add_zero] at d0
              clear dprev
              cases ib with
              | false =>
                have R := Lib.hid (HIT.out 12 (by rw [HER.out, if_neg (fun c => absurd c.1 (by omega))]; rfl) (by decide))
                go_wp2_with fail
                refine (CN.out _ KK.out).mono ?_
                rintro e wn ⟨rfl, hbn⟩
                have hBn := bnext KK.out.hB hbn
                clear hbn
                go_wp2_with fail
                go_ret2
                exact ⟨by rw [R.out]; rfl, hBn⟩
              | true =>
                have M2 := Lib.hid (MIS.out (by rw [HER.out, if_neg (fun c => absurd c.1 (by omega))]; rfl))
                go_wp2_with fail
                refine (CN.out _ KK.out).mono ?_
                rintro e wn ⟨rfl, hbn⟩
                have KN := Lib.hid (KK.out.below hbn)
                clear hbn x0 x1 x2 x3 x4
                obtain ⟨x0, x1, x2, x3, x4⟩ := KN.out.b.c5
                go_wp2_with fail
                go_roundw
                case rel => exact ⟨0 + 1, by omega, by go_num, M2.out, KN.out⟩
                case measure => simp [intOf]; omega
            · obtain ⟨m, rfl⟩ : ∃ m, k = m + 1 := ⟨k - 1, by omega⟩
              have q1 := dprev m (by omega) _ rfl
              obtain ⟨y, hy⟩ : ∃ y, kpAt K m = y := ⟨_, rfl⟩
              have HER2 : Hid (kErr ⟨a, b, f, T, K⟩ (m + 1) = if x ≤ y then 19 else if ib = false then 12 else 0) := Lib.hid (by
                rw [HER.out, Nat.add_sub_cancel, hy]
                by_cases c : x ≤ y
                · rw [if_pos c, if_pos ⟨by omega, c⟩]
                · rw [if_neg c, if_neg (fun h => c h.2)])
              rw [hy] at q1
              have hm1 : ((m + 1 : Nat) : Int) > 0 := by omega
              have WM : IntKind.i64.wrap (((m + 1 : Nat) : Int) - 1) = (m : Int) := by rw [show ((m + 1 : Nat) : Int) - 1 = m by omega]; exact IntWalk.i64_in _ (by omega)
              have hmi : (m : Int) < K.length := by omega
              have hm0 : (0 : Int) ≤ m := by omega
              clear hy dprev HER
              by_cases c3 : x ≤ y
              · have R := Lib.hid (HIT.out 19 (HER2.out.trans (if_pos c3)) (by decide))
                go_wp2_with fail
                go_ret2
                exact ⟨by rw [R.out]; rfl, KK.out.hB⟩
              · have HER3 := Lib.hid (HER2.out.trans (if_neg c3))
                clear HER2
                cases ib with
                | false =>
                  have R := Lib.hid (HIT.out 12 (by rw [HER3.out]; rfl) (by decide))
                  go_wp2_with fail
                  refine (CN.out _ KK.out).mono ?_
                  rintro e wn ⟨rfl, hbn⟩
                  have hBn := bnext KK.out.hB hbn
                  clear hbn
                  go_wp2_with fail
                  go_ret2
                  exact ⟨by rw [R.out]; rfl, hBn⟩
                | true =>
                  have M2 := Lib.hid (MIS.out (by rw [HER3.out]; rfl))
                  go_wp2_with fail
                  refine (CN.out _ KK.out).mono ?_
                  rintro e wn ⟨rfl, hbn⟩
                  have KN := Lib.hid (KK.out.below hbn)
                  clear hbn x0 x1 x2 x3 x4
                  obtain ⟨x0, x1, x2, x3, x4⟩ := KN.out.b.c5
                  go_wp2_with fail
                  go_roundw
                  case rel => exact ⟨(m + 1) + 1, by omega, by go_num, M2.out, KN.out⟩
                  case measure => simp [intOf]; omega
          · obtain rfl : k = K.length := by omega
            have R : Hid (ch = (0, 0)) := Lib.hid (by rw [CH4.out, HM.out, fstE_end])
            go_wp2_with fail
            go_ret2
            exact ⟨by rw [R.out]; rfl, KK.out.hB⟩
end Go.Proofs.Ytfgkkflbpfocjaa

