/- Contracts: what is reserved, the state of a range (the reference). The plain laws of a ledger: what stays valid, what is usable, how the floor moves; no program in sight. -/
import Derived.Test.YtfgkkflbpfocjaaZc12
import Derived.Test.YtfgkkflbpfocjaaZc1
namespace Go.Proofs.Ytfgkkflbpfocjaa
open Go.RowKit
set_option linter.unusedVariables false
set_option linter.unusedSimpArgs false

/-- what is left when the first k ranges are taken off -/
def lft (z : Rec) (k : Nat) : Int := z.g - z.r - z.fl - szs z.tk k
theorem lft_b {z : Rec} (hz : OkR z) (h0 : 0 ≤ z.fl) (h1 : 0 ≤ z.r) {k : Nat} (hk : k ≤ z.tk.length) : 0 ≤ lft z k ∧ lft z k ≤ 1125899906842624 := by
  have a := szs_le hz k hk
  have b := endK_le hz hk
  have := hz.g
  unfold lft
  omega

set_option maxRecDepth 100000 in
set_option maxHeartbeats 4000000 in
theorem rreserved_any (z : Rec) (hz : OkR z) (hw : WfR z) (vt vk : Value) (w : World) (ht : RgsAt w vt z.tk) (hk : ∃ A l c, vk = .slice A l c) :
    Calls Try.prog 71 #[.agg #[.int .u64 z.g, .int .u64 z.r, .int .u64 z.fl, vt, vk]] w (RetI .u64 (resv z) w) := by
  have h1 := hz.g
  have h2 := hz.r
  have h3 := hz.fl
  have h4 := hw.r.1
  have h5 := hw.fl.1
  have hn := hz.nt
  have LB : Hid (∀ k, k ≤ z.tk.length → 0 ≤ lft z k ∧ lft z k ≤ 1125899906842624) := Lib.hid (fun k hk => lft_b hz h5 h4 hk)
  have LS : Hid (∀ k, lft z (k + 1) = lft z k - ((rgAt z.tk k).t - (rgAt z.tk k).f)) := Lib.hid (fun k => by unfold lft; rw [szs]; omega)
  have L0 : Hid (lft z 0 = z.g - z.r - z.fl) := Lib.hid (by unfold lft; rw [szs]; omega)
  have LE : Hid (resv z = lft z z.tk.length) := Lib.hid rfl
  have TT : Hid (∀ k, k < z.tk.length → (rgAt z.tk k).f < (rgAt z.tk k).t ∧ 0 ≤ (rgAt z.tk k).f ∧ (rgAt z.tk k).t ≤ 1125899906842624) := Lib.hid (fun k hk => by have := hz.t k hk; omega)
  obtain ⟨A, c, rfl⟩ := ht.form
  obtain ⟨C, l, d, rfl⟩ := hk
  obtain ⟨_, _, e, _, hcc, hRt⟩ := id ht
  cases e
  unfold maxLen at hcc
  have HRt := Lib.hid hRt
  obtain ⟨lf, hlf⟩ : ∃ lf, lft z = lf := ⟨_, rfl⟩
  rw [hlf] at LB LS L0 LE
  obtain ⟨rs, hrs⟩ : ∃ rs, resv z = rs := ⟨_, rfl⟩
  rw [hrs] at LE ⊢
  obtain ⟨a, b, f, T, K⟩ := z
  dsimp only at *
  have W1 : IntKind.u64.wrap (a - b) = a - b := IntWalk.u64_in _ (by omega)
  have W2 : IntKind.u64.wrap (a - b - f) = lf 0 := by rw [L0.out]; exact IntWalk.u64_in _ (by omega)
  clear hz hw ht hRt hlf hrs
  go_enter Try.func71, Try.ntmps71
  go_wp2_with fail
  have kb0 : BK w w.heap.size 29 #[.int .u64 a, .int .u64 b, .int .u64 f, .slice A T.length c, .slice C l d] (w.alloc (.cells #[.int .u64 a, .int .u64 b, .int .u64 f, .slice A T.length c, .slice C l d] 29)) := ⟨Blk.new _ _ _, bal (Below.refl _ _) _⟩
  obtain ⟨g0, hg0⟩ : ∃ g0, w.heap.size = g0 := ⟨_, rfl⟩
  rw [hg0] at kb0 ⊢
  clear hg0
  generalize w.alloc (.cells #[.int .u64 a, .int .u64 b, .int .u64 f, .slice A T.length c, .slice C l d] 29) = w1 at kb0 ⊢
  have K1 := Lib.hid kb0
  clear kb0 W1 W2
  go_loopw [3, 4] (fun s3 s wr => ∃ k : Nat, k ≤ T.length ∧ s = .int .i64 k ∧ s3 = .int .u64 (lf k) ∧ BK w g0 29 #[.int .u64 a, .int .u64 b, .int .u64 f, .slice A T.length c, .slice C l d] wr) (fun _ s _ => T.length - (intOf s).toNat)
  case atStart => exact ⟨0, by omega, rfl, rfl, K1.out⟩
  case round =>
    obtain ⟨k, hk, rfl, rfl, kb⟩ := hrel
    obtain ⟨wy, rfl⟩ : ∃ wy : World, wy = wr := ⟨_, rfl⟩
    have KB := Lib.hid kb
    clear K1
    obtain ⟨x0, x1, x2, x3, x4⟩ := kb.b.c5
    have hgy := kb.b.lt
    clear kb
    by_cases hlt : k < T.length
    · obtain ⟨bt, ot, rfl, hbt, p0, p1⟩ := reads_rg HRt.out rfl (rgAt_get hlt)
      have d0 := (KB.out.hB.cell (p := ⟨bt, ot + k * 2, none⟩) hbt).trans p0
      have d1 := (KB.out.hB.cell (p := ⟨bt, ot + k * 2 + 1, none⟩) hbt).trans p1
      obtain ⟨t1, t2, t3⟩ := TT.out k hlt
      obtain ⟨u1, u2⟩ := LB.out k (by omega)
      obtain ⟨v1, v2⟩ := LB.out (k + 1) (by omega)
      have LK := Lib.hid (LS.out k)
      have hLK := LS.out k
      have hki : (k : Int) < T.length := by omega
      have hk0 : (0 : Int) ≤ k := by omega
      obtain ⟨x, hx⟩ : ∃ x, rgAt T k = x := ⟨_, rfl⟩
      rw [hx] at d0 d1 LK hLK t1 t2 t3
      obtain ⟨c0, hc0⟩ : ∃ c0, lf k = c0 := ⟨_, rfl⟩
      rw [hc0] at LK hLK u1 u2 ⊢
      have W1 : IntKind.u64.wrap (x.t - x.f) = x.t - x.f := IntWalk.u64_in _ (by omega)
      have W2 : IntKind.u64.wrap (c0 - (x.t - x.f)) = c0 - (x.t - x.f) := IntWalk.u64_in _ (by omega)
      clear hx p0 p1 hc0 hLK
      go_upto_region 5 with fail
      go_quiet (fail)
      go_wp2_with fail
      go_roundw
      case rel => exact ⟨k + 1, by omega, by go_num, by rw [LK.out], KB.out.b.drewN _, below_drewN KB.out.hB _⟩
      case measure => simp [intOf]; omega
    · obtain rfl : k = T.length := by omega
      go_wp2_with fail
      go_ret
      exact ⟨ret_int LE.out.symm, KB.out.hB⟩

set_option maxRecDepth 100000 in
set_option maxHeartbeats 8000000 in
theorem rState_any (z : Rec) (hw : WfR z) (off size : Int) (ho : 0 ≤ off ∧ off ≤ 18446744073709551615) (hs : 0 ≤ size ∧ size ≤ 18446744073709551615) (vt vk : Value) (w : World) (ht : RgsAt w vt z.tk) (hkp : KpsAt w vk z.kp) :
    Calls Try.prog 44 #[.agg #[.int .u64 z.g, .int .u64 z.r, .int .u64 z.fl, vt, vk], .int .u64 off, .int .u64 size] w (Ret2 .i64 .i64 (stE z off size).1 (stE z off size).2 w) := by
  have HC := Lib.hid (fun vt vk w h1 h2 => rvCheck_any z hw vt vk w h1 h2)
  obtain ⟨st, hst⟩ : ∃ st, stE z off size = st := ⟨_, rfl⟩
  have ST : Hid (st = if (chkR z).1 ≠ 0 then (0, (chkR z).1) else if size = 0 then (0, 2) else if z.g - z.r < size ∨ z.g - z.r - size < off then (0, 14) else (stOf (cons z off size z.tk.length) size, 0)) := Lib.hid (by rw [← hst]; rfl)
  have OKZ : Hid ((chkR z).1 = 0 → OkR z) := Lib.hid (fun h => okR_of h)
  obtain ⟨e1, he1⟩ : ∃ e1 : Int, (chkR z).1 = e1 := ⟨_, rfl⟩
  obtain ⟨e2, he2⟩ : ∃ e2 : Int, (((chkR z).2 : Nat) : Int) = e2 := ⟨_, rfl⟩
  have HC2 : Hid (∀ vt vk w, RgsAt w vt z.tk → KpsAt w vk z.kp → Calls Try.prog 64 #[.agg #[.int .u64 z.g, .int .u64 z.r, .int .u64 z.fl, vt, vk]] w (Ret2 .i64 .i64 e1 e2 w)) := Lib.hid (fun vt vk w h1 h2 => by have := HC.out vt vk w h1 h2; rw [he1, he2] at this; exact this)
  rw [he1] at ST OKZ
  rw [hst]
  have h4 := hw.r.1
  have h5 := hw.fl.1
  clear he1 he2 HC hst hw
  by_cases h0 : e1 = 0
  · have hz := OKZ.out h0
    have h1 := hz.g
    have h2 := hz.r
    have h3 := hz.fl
    have hn := hz.nt
    have CB : Hid (∀ k, 0 < size → k ≤ z.tk.length → 0 ≤ cons z off size k ∧ cons z off size k ≤ size) := Lib.hid (fun k hs hk => cons_le hz hs hk)
    have CS : Hid (∀ k, cons z off size (k + 1) = cons z off size k + ov off (off + size) (rgAt z.tk k)) := Lib.hid (fun k => rfl)
    have C0 : Hid (cons z off size 0 = flv z off size) := Lib.hid rfl
    have TT : Hid (∀ k, k < z.tk.length → (rgAt z.tk k).f < (rgAt z.tk k).t ∧ 0 ≤ (rgAt z.tk k).f ∧ (rgAt z.tk k).t ≤ 1125899906842624) := Lib.hid (fun k hk => by have := hz.t k hk; omega)
    obtain ⟨A, c, rfl⟩ := ht.form
    obtain ⟨C, d, rfl⟩ := hkp.form
    have HT := Lib.hid ht
    have HK := Lib.hid hkp
    obtain ⟨_, _, e, _, hcc, hRt⟩ := id ht
    cases e
    unfold maxLen at hcc
    have HRt := Lib.hid hRt
    obtain ⟨cf, hcf⟩ : ∃ cf, cons z off size = cf := ⟨_, rfl⟩
    rw [hcf] at ST CB CS C0
    have FL : Hid (flv z off size = if off < z.fl then min (z.fl - off) size else 0) := Lib.hid rfl
    obtain ⟨fv, hfv⟩ : ∃ fv, flv z off size = fv := ⟨_, rfl⟩
    rw [hfv] at C0 FL
    have ST1 := Lib.hid (ST.out.trans (if_neg (fun c => c h0)))
    subst h0
    obtain ⟨a, b, f, T, K⟩ := z
    dsimp only at *
    clear ht hkp hRt hz ST OKZ hcf hfv
    have WR : IntKind.u64.wrap (a - b) = a - b := IntWalk.u64_in _ (by omega)
    go_enter Try.func44, Try.ntmps44
    go_wp2_with fail
    have k0 := Blk.new w 29 #[.int .u64 a, .int .u64 b, .int .u64 f, .slice A T.length c, .slice C K.length d]
    have hB := bal (Below.refl w.heap.size w) (.cells #[.int .u64 a, .int .u64 b, .int .u64 f, .slice A T.length c, .slice C K.length d] 29)
    refine (HC2.out _ _ _ (HT.out.below hB) (HK.out.below hB)).mono ?_
    rintro e w1 ⟨rfl, hb1⟩
    have kk : BK w w.heap.size 29 #[.int .u64 a, .int .u64 b, .int .u64 f, .slice A T.length c, .slice C K.length d] w1 := ⟨k0.below hb1, bnext hB hb1⟩
    clear hb1 k0 hB HC2
    obtain ⟨g0, hg0⟩ : ∃ g0, w.heap.size = g0 := ⟨_, rfl⟩
    rw [hg0] at kk ⊢
    clear hg0
    obtain ⟨x0, x1, x2, x3, x4⟩ := kk.b.c5
    have hl0 := kk.b.lt
    have K1 := Lib.hid kk
    clear kk
    by_cases hs0 : size = 0
    · have R := Lib.hid (ST1.out.trans (if_pos hs0))
      subst hs0
      go_wp2_with fail
      go_ret2
      exact ⟨by rw [R.out]; rfl, K1.out.hB⟩
    have ST2 := Lib.hid (ST1.out.trans (if_neg hs0))
    have hsz : (size == 0) = false := beq_eq_false_iff_ne.2 hs0
    have hs1 : 0 < size := by omega
    clear ST1 hs0
    by_cases q1 : size > a - b
    · have R := Lib.hid (ST2.out.trans (if_pos (.inl q1)))
      go_wp2_with fail
      go_ret2
      exact ⟨by rw [R.out]; rfl, K1.out.hB⟩
    have WR2 : IntKind.u64.wrap (a - b - size) = a - b - size := IntWalk.u64_in _ (by omega)
    by_cases q2 : off > a - b - size
    · have R := Lib.hid (ST2.out.trans (if_pos (.inr q2)))
      go_wp2_with fail
      go_ret2
      exact ⟨by rw [R.out]; rfl, K1.out.hB⟩
    have ST3 := Lib.hid (ST2.out.trans (if_neg (fun c => by omega)))
    clear ST2
    obtain ⟨hi, hhi⟩ : ∃ hi, off + size = hi := ⟨_, rfl⟩
    rw [hhi] at CS
    have hhb : hi ≤ a - b ∧ off < hi := by omega
    have WH : IntKind.u64.wrap (off + size) = hi := by rw [hhi]; exact IntWalk.u64_in _ (by omega)
    have HHI := Lib.hid hhi
    clear hhi
    go_upto_if 48 with fail
    go_cut [10] (fun s wx => s = .int .u64 fv ∧ wx = w1)
    case first =>
      by_cases c1 : off < f
      · have c1d : decide (off < f) = true := decide_eq_true c1
        have W1 : IntKind.u64.wrap (f - off) = f - off := IntWalk.u64_in _ (by omega)
        by_cases c2 : size < f - off
        · have R : Hid (fv = size) := Lib.hid (by rw [FL.out, if_pos c1]; omega)
          go_wp2_with fail
          go_meet
          exact ⟨by rw [R.out], rfl⟩
        · have R : Hid (fv = f - off) := Lib.hid (by rw [FL.out, if_pos c1]; omega)
          go_wp2_with fail
          go_meet
          exact ⟨by rw [R.out], rfl⟩
      · have c1d : decide (off < f) = false := decide_eq_false c1
        have R : Hid (fv = 0) := Lib.hid (by rw [FL.out, if_neg c1])
        go_wp2_with fail
        go_meet
        exact ⟨by rw [R.out], rfl⟩
    case rest =>
      obtain ⟨rfl, rfl⟩ := hcut
      rw [← C0.out]
      go_wp2_with fail
      clear x0 x1 x2 x3 x4 hl0
      go_loopw [10, 11] (fun s9 s wr => ∃ k : Nat, k ≤ T.length ∧ s = .int .i64 k ∧ s9 = .int .u64 (cf k) ∧ BK w g0 29 #[.int .u64 a, .int .u64 b, .int .u64 f, .slice A T.length c, .slice C K.length d] wr) (fun _ s _ => T.length - (intOf s).toNat)
      case atStart => exact ⟨0, by omega, rfl, rfl, K1.out⟩
      case round =>
        obtain ⟨k, hk, rfl, rfl, kb⟩ := hrel
        obtain ⟨wy, rfl⟩ : ∃ wy : World, wy = wr := ⟨_, rfl⟩
        have KB := Lib.hid kb
        clear K1
        obtain ⟨x0, x1, x2, x3, x4⟩ := kb.b.c5
        have hgy := kb.b.lt
        clear kb
        obtain ⟨u1, u2⟩ := CB.out k hs1 hk
        by_cases hlt : k < T.length
        · obtain ⟨bt, ot, rfl, hbt, p0, p1⟩ := reads_rg HRt.out rfl (rgAt_get hlt)
          have d0 := (KB.out.hB.cell (p := ⟨bt, ot + k * 2, none⟩) hbt).trans p0
          have d1 := (KB.out.hB.cell (p := ⟨bt, ot + k * 2 + 1, none⟩) hbt).trans p1
          obtain ⟨t1, t2, t3⟩ := TT.out k hlt
          have CSk := Lib.hid (CS.out k)
          obtain ⟨v1, v2⟩ := CB.out (k + 1) hs1 hlt
          have OV : Hid (ov off hi (rgAt T k) = if max (rgAt T k).f off < min (rgAt T k).t hi then min (rgAt T k).t hi - max (rgAt T k).f off else 0) := Lib.hid rfl
          have hki : (k : Int) < T.length := by omega
          have hk0 : (0 : Int) ≤ k := by omega
          obtain ⟨x, hx⟩ : ∃ x, rgAt T k = x := ⟨_, rfl⟩
          rw [hx] at d0 d1 CSk OV t1 t2 t3
          obtain ⟨oo, hoo⟩ : ∃ oo, ov off hi x = oo := ⟨_, rfl⟩
          rw [hoo] at CSk OV
          obtain ⟨c0, hc0⟩ : ∃ c0, cf k = c0 := ⟨_, rfl⟩
          rw [hc0] at CSk u1 u2 ⊢
          obtain ⟨c1, hc1⟩ : ∃ c1, cf (k + 1) = c1 := ⟨_, rfl⟩
          rw [hc1] at CSk v1 v2
          have HC1 := Lib.hid hc1
          clear hx p0 p1 hoo hc0 hc1
          obtain ⟨P, hP⟩ : ∃ P, max x.f off = P := ⟨_, rfl⟩
          obtain ⟨Q, hQ⟩ : ∃ Q, min x.t hi = Q := ⟨_, rfl⟩
          rw [hP, hQ] at OV
          have hPb : off ≤ P ∧ 0 ≤ P := by omega
          have hQb : Q ≤ hi := by omega
          go_upto_region 14 with fail
          go_cut [12, 13] (fun s12 s13 wx => s12 = .int .u64 P ∧ s13 = .int .u64 Q ∧ ∃ n, wx = wy.drewN n)
          case first =>
            by_cases m1 : x.f < off
            · by_cases m2 : hi < x.t
              · obtain rfl : P = off := by omega
                obtain rfl : Q = hi := by omega
                clear hP hQ
                go_quiet (fail)
                go_wp2_with fail
                go_meet
                exact ⟨rfl, rfl, _, rfl⟩
              · have e2 : Q = x.t := by omega
                subst e2
                obtain rfl : P = off := by omega
                clear hP hQ
                go_quiet (fail)
                go_wp2_with fail
                go_meet
                exact ⟨rfl, rfl, _, rfl⟩
            · by_cases m2 : hi < x.t
              · have e1 : P = x.f := by omega
                subst e1
                obtain rfl : Q = hi := by omega
                clear hP hQ
                go_quiet (fail)
                go_wp2_with fail
                go_meet
                exact ⟨rfl, rfl, _, rfl⟩
              · have e1 : P = x.f := by omega
                have e2 : Q = x.t := by omega
                subst e1
                subst e2
                clear hP hQ
                go_quiet (fail)
                go_wp2_with fail
                go_meet
                exact ⟨rfl, rfl, _, rfl⟩
          case rest =>
            obtain ⟨rfl, rfl, nd, rfl⟩ := hcut
            clear hP hQ x0 x1 x2 x3 x4 d0 d1
            by_cases m3 : P < Q
            · have E : Hid (oo = Q - P) := Lib.hid (by rw [OV.out, if_pos m3])
              have N1 : Hid (c1 = c0 + (Q - P)) := Lib.hid (by rw [CSk.out, E.out])
              have hN1 := N1.out
              have W1 : IntKind.u64.wrap (c0 + Q) = c0 + Q := IntWalk.u64_in _ (by omega)
              have W2 : IntKind.u64.wrap (c0 + Q - P) = c0 + (Q - P) := by rw [show c0 + Q - P = c0 + (Q - P) by omega]; exact IntWalk.u64_in _ (by omega)
              clear hN1
              go_wp2_with fail
              go_roundw
              case rel => exact ⟨k + 1, by omega, by go_num, by rw [HC1.out, N1.out], KB.out.b.drewN _, below_drewN KB.out.hB _⟩
              case measure => simp [intOf]; omega
            · have E : Hid (oo = 0) := Lib.hid (by rw [OV.out, if_neg m3])
              have N1 : Hid (c1 = c0) := Lib.hid (by rw [CSk.out, E.out, Int.add_zero])
              go_wp2_with fail
              go_roundw
              case rel => exact ⟨k + 1, by omega, by go_num, by rw [HC1.out, N1.out], KB.out.b.drewN _, below_drewN KB.out.hB _⟩
              case measure => simp [intOf]; omega
        · obtain rfl : k = T.length := by omega
          have R : Hid (st = (stOf (cf T.length) size, 0)) := ST3
          obtain ⟨cz, hcz⟩ : ∃ cz, cf T.length = cz := ⟨_, rfl⟩
          rw [hcz] at R u1 u2 ⊢
          clear hcz
          by_cases e1 : cz = size
          · have R2 : Hid (st = (1, 0)) := Lib.hid (by rw [R.out]; unfold stOf; rw [if_pos e1])
            subst e1
            go_wp2_with fail
            go_ret2
            exact ⟨by rw [R2.out]; rfl, KB.out.hB⟩
          · have e1' : (cz == size) = false := beq_eq_false_iff_ne.2 e1
            by_cases e0 : cz = 0
            · have R2 : Hid (st = (2, 0)) := Lib.hid (by rw [R.out]; unfold stOf; rw [if_neg e1, if_pos e0])
              have e0' : (cz == 0) = true := by simp [e0]
              have E0 := Lib.hid e0
              clear e0 e1
              go_wp2_with fail
              go_ret2
              exact ⟨by rw [R2.out]; rfl, KB.out.hB⟩
            · have e0' : (cz == 0) = false := beq_eq_false_iff_ne.2 e0
              have R2 : Hid (st = (3, 0)) := Lib.hid (by rw [R.out]; unfold stOf; rw [if_neg e1, if_neg e0])
              clear e0 e1
              go_wp2_with fail
              go_ret2
              exact ⟨by rw [R2.out]; rfl, KB.out.hB⟩
  · have R := Lib.hid (ST.out.trans (if_pos h0))
    have h0' : (e1 != 0) = true := by simpa using h0
    obtain ⟨A, c, rfl⟩ := ht.form
    obtain ⟨C, d, rfl⟩ := hkp.form
    have HT := Lib.hid ht
    have HK := Lib.hid hkp
    obtain ⟨a, b, f, T, K⟩ := z
    dsimp only at *
    clear ht hkp ST OKZ h0
    go_enter Try.func44, Try.ntmps44
    go_wp2_with fail
    have hB := bal (Below.refl w.heap.size w) (.cells #[.int .u64 a, .int .u64 b, .int .u64 f, .slice A T.length c, .slice C K.length d] 29)
    refine (HC2.out _ _ _ (HT.out.below hB) (HK.out.below hB)).mono ?_
    rintro e w1 ⟨rfl, hb1⟩
    have HB := Lib.hid (bnext hB hb1)
    clear hb1 hB HC2
    go_wp2_with fail
    go_ret2
    exact ⟨by rw [R.out]; rfl, HB.out⟩
end Go.Proofs.Ytfgkkflbpfocjaa

namespace Go.Proofs.Ytfgkkflbpfocjaa
set_option linter.unusedVariables false
set_option linter.unusedSimpArgs false

def Good (nxt : Int) : List Sl → Int → List Sl → Prop
  | _, _, [] => True
  | done, e, x :: r => slotE nxt done e x = 0 ∧ Good nxt (done ++ [x]) (x.off + x.size) r
theorem scan_good (nxt : Int) (done : List Sl) (e : Int) (l : List Sl) : (scan nxt done e l).1 = 0 ↔ Good nxt done e l := by
  induction l generalizing done e with
  | nil => simp [scan, Good]
  | cons x r ih =>
    unfold scan Good
    by_cases h : slotE nxt done e x = 0
    · rw [if_pos h, ih]; simp [h]
    · rw [if_neg h]; simp [h]
theorem slotE_zero {nxt e : Int} {done : List Sl} {x : Sl} : slotE nxt done e x = 0 ↔ x.size ≠ 0 ∧ IdOk x.node x.seq x.io ∧ e ≤ x.off ∧ x.off ≤ nxt ∧ x.size ≤ nxt - x.off ∧ anyHas x.node x.seq x.io done = false := by
  unfold slotE
  split
  · rename_i h
    constructor
    · intro h'; exact absurd h' (by decide)
    · rintro ⟨a, b, _⟩; rcases h with h | h
      · exact absurd h a
      · exact absurd b h
  · rename_i h1
    split
    · rename_i h
      constructor
      · intro h'; exact absurd h' (by decide)
      · rintro ⟨_, _, a, b, c, _⟩; omega
    · rename_i h2
      split
      · rename_i h
        constructor
        · intro h'; exact absurd h' (by decide)
        · rintro ⟨_, _, _, _, _, a⟩; rw [h] at a; cases a
      · rename_i h3
        constructor
        · intro _
          refine ⟨fun h => h1 (.inl h), ?_, by omega, by omega, by omega, by simpa using h3⟩
          by_cases h : IdOk x.node x.seq x.io
          · exact h
          · exact absurd (.inr h) h1
        · intro _; rfl
theorem okL_iff (s : Led) : okL s ↔ s.g ≤ 1125899906842624 ∧ s.r ≤ s.g ∧ s.n ≤ s.g - s.r ∧ s.sl.length ≤ 100 ∧ Good s.n [] 0 s.sl := by
  unfold okL chk
  split
  · constructor
    · intro h; exact absurd h (by decide)
    · rintro ⟨a, _⟩; omega
  · split
    · constructor
      · intro h; exact absurd h (by decide)
      · rintro ⟨_, a, b, _⟩; omega
    · split
      · constructor
        · intro h; exact absurd h (by decide)
        · rintro ⟨_, _, _, a, _⟩; omega
      · rw [scan_good]
        constructor
        · intro h; exact ⟨by omega, by omega, by omega, by omega, h⟩
        · intro h; exact h.2.2.2.2

theorem good_end {nxt : Int} {done : List Sl} {e : Int} {l : List Sl} (h : Good nxt done e l) (he : e ≤ nxt) {x : Sl} {nxt' : Int} (hn : nxt ≤ nxt') (hx : slotE nxt' (done ++ l) nxt x = 0) : Good nxt' done e (l ++ [x]) := by
  induction l generalizing done e with
  | nil =>
    refine ⟨?_, trivial⟩
    obtain ⟨a, b, c, d, f, g⟩ := slotE_zero.1 hx
    rw [List.append_nil] at g
    exact slotE_zero.2 ⟨a, b, by omega, d, f, g⟩
  | cons y r ih =>
    obtain ⟨h1, h2⟩ := h
    obtain ⟨a, b, c, d, f, g⟩ := slotE_zero.1 h1
    refine ⟨slotE_zero.2 ⟨a, b, c, by omega, by omega, g⟩, ih h2 (by omega) ?_⟩
    rw [List.append_assoc]
    exact hx
theorem good_off {nxt : Int} {done : List Sl} {e : Int} {l : List Sl} (h : Good nxt done e l) (hs : ∀ x ∈ l, 0 ≤ x.size) {x : Sl} (hx : x ∈ l) : e ≤ x.off ∧ x.off + x.size ≤ nxt := by
  induction l generalizing done e with
  | nil => simp at hx
  | cons y r ih =>
    obtain ⟨h1, h2⟩ := h
    obtain ⟨a, b, c, d, f, g⟩ := slotE_zero.1 h1
    rcases List.mem_cons.1 hx with rfl | hx
    · omega
    · have := ih h2 (fun z hz => hs z (by simp [hz])) hx
      have := hs y (by simp)
      omega
end Go.Proofs.Ytfgkkflbpfocjaa

