/- Contracts: the state of a range (the program). -/
import Derived.Test.YtfgkkflbpfocjaaZc10
namespace Go.Proofs.Ytfgkkflbpfocjaa
open Go.RowKit
set_option linter.unusedVariables false
set_option linter.unusedSimpArgs false

theorem run_eql_rg (a b c d : Int) (w : World) : (binOp .eql 74 (.agg #[.int .u64 a, .int .u64 b]) (.agg #[.int .u64 c, .int .u64 d])).run Try.prog w = .ok (.bool (a == c && b == d)) w := by
  go_simp
  by_cases h1 : a = c <;> by_cases h2 : b = d <;> simp [h1, h2]
/-- the state of a range of a valid ledger -/
def lokE (z : Rec) (off size : Int) : Int × Int := if size = 0 then (0, 2) else if z.g - z.r < off ∨ z.g - z.r - off < size then (0, 14) else (stOf (cons z off size z.tk.length) size, 0)

set_option maxRecDepth 100000 in
set_option maxHeartbeats 16000000 in
theorem look_any (z : Rec) (hz : OkR z) (hw : WfR z) (off size : Int) (ho : 0 ≤ off ∧ off ≤ 18446744073709551615) (hs : 0 ≤ size ∧ size ≤ 18446744073709551615) (vt vk : Value) (w : World) (ht : RgsAt w vt z.tk) (hk : ∃ A l c, vk = .slice A l c) :
    Calls Try.prog 109 #[.agg #[.int .u64 z.g, .int .u64 z.r, .int .u64 z.fl, vt, vk], .int .u64 off, .int .u64 size] w (Ret2 .i64 .i64 (lokE z off size).1 (lokE z off size).2 w) := by
  have h1 := hz.g
  have h2 := hz.r
  have h3 := hz.fl
  have h4 := hw.r.1
  have h5 := hw.fl.1
  have hn := hz.nt
  obtain ⟨lk, hlk⟩ : ∃ lk, lokE z off size = lk := ⟨_, rfl⟩
  have LK : Hid (lk = if size = 0 then (0, 2) else if z.g - z.r < off ∨ z.g - z.r - off < size then (0, 14) else (stOf (cons z off size z.tk.length) size, 0)) := Lib.hid (by rw [← hlk]; rfl)
  have HZ := Lib.hid hz
  rw [hlk]
  have CW : Hid (∀ k, 0 < size → k < z.tk.length → (rgAt z.tk k).f ≤ off → off + size ≤ (rgAt z.tk k).t → cons z off size z.tk.length = size) := Lib.hid (fun k hs hk a b => cons_whole hz hs hk a b)
  have CB : Hid (∀ k, 0 < size → k ≤ z.tk.length → 0 ≤ cons z off size k ∧ cons z off size k ≤ size) := Lib.hid (fun k hs hk => cons_le hz hs hk)
  have CS : Hid (∀ k, cons z off size (k + 1) = cons z off size k + ov off (off + size) (rgAt z.tk k)) := Lib.hid (fun k => rfl)
  have C0 : Hid (cons z off size 0 = flv z off size) := Lib.hid rfl
  have TT : Hid (∀ k, k < z.tk.length → (rgAt z.tk k).f < (rgAt z.tk k).t ∧ 0 ≤ (rgAt z.tk k).f ∧ (rgAt z.tk k).t ≤ 1125899906842624) := Lib.hid (fun k hk => by have := hz.t k hk; omega)
  obtain ⟨A, c, rfl⟩ := ht.form
  obtain ⟨C, l, d, rfl⟩ := hk
  have HT := Lib.hid ht
  obtain ⟨_, _, e, _, hcc, hRt⟩ := id ht
  cases e
  unfold maxLen at hcc
  have HRt := Lib.hid hRt
  obtain ⟨cf, hcf⟩ : ∃ cf, cons z off size = cf := ⟨_, rfl⟩
  rw [hcf] at LK CW CB CS C0
  have FL : Hid (flv z off size = if off < z.fl then min (z.fl - off) size else 0) := Lib.hid rfl
  obtain ⟨fv, hfv⟩ : ∃ fv, flv z off size = fv := ⟨_, rfl⟩
  rw [hfv] at C0 FL
  obtain ⟨a, b, f, T, K⟩ := z
  dsimp only at *
  clear hz hw ht hRt hlk hcf hfv HZ
  by_cases hs0 : size = 0
  · have R := Lib.hid (LK.out.trans (if_pos hs0))
    subst hs0
    go_enter Try.func109, Try.ntmps109
    go_wp2_with fail
    go_ret2
    exact ⟨by rw [R.out]; rfl, (by repeat (first | with_reducible exact Below.refl _ _ | with_reducible refine Below.drew ?_ | with_reducible refine below_drewN ?_ _ | with_reducible refine bal ?_ _ | with_reducible refine bset ?_ (by first | (simp; done) | (simp; omega)) _ | with_reducible refine bnext ?_ (by assumption) | with_reducible assumption))⟩
  have LK1 := Lib.hid (LK.out.trans (if_neg hs0))
  have hsz : (size == 0) = false := beq_eq_false_iff_ne.2 hs0
  have hs1 : 0 < size := by omega
  clear LK
  have RM := Lib.hid (fun w => room_any a b f (.slice A T.length c) (.slice C l d) w h4 h2 (by omega) ⟨_, _, _, rfl⟩ ⟨_, _, _, rfl⟩)
  obtain ⟨rm, hrm⟩ : ∃ rm, a - b = rm := ⟨_, rfl⟩
  rw [hrm] at RM LK1
  have hrm0 : 0 ≤ rm ∧ rm ≤ 1125899906842624 ∧ f ≤ rm := by omega
  clear hrm hs0
  go_enter Try.func109, Try.ntmps109
  go_wp2_with fail
  have k0 := Blk.new w 29 #[.int .u64 a, .int .u64 b, .int .u64 f, .slice A T.length c, .slice C l d]
  have hB := bal (Below.refl w.heap.size w) (.cells #[.int .u64 a, .int .u64 b, .int .u64 f, .slice A T.length c, .slice C l d] 29)
  refine (RM.out _).mono ?_
  rintro e w1 ⟨rfl, hb1⟩
  have kk : BK w w.heap.size 29 #[.int .u64 a, .int .u64 b, .int .u64 f, .slice A T.length c, .slice C l d] w1 := ⟨k0.below hb1, bnext hB hb1⟩
  clear k0 hB hb1
  obtain ⟨g0, hg0⟩ : ∃ g0, w.heap.size = g0 := ⟨_, rfl⟩
  have HG0 := Lib.hid hg0
  rw [hg0] at kk ⊢
  clear hg0
  obtain ⟨x0, x1, x2, x3, x4⟩ := kk.b.c5
  have hl0 := kk.b.lt
  have KK := Lib.hid kk
  clear kk
  by_cases q1 : off > rm
  · have R := Lib.hid (LK1.out.trans (if_pos (.inl q1)))
    go_wp2_with fail
    go_ret2
    exact ⟨by rw [R.out]; rfl, KK.out.hB⟩
  have WR : IntKind.u64.wrap (rm - off) = rm - off := IntWalk.u64_in _ (by omega)
  go_wp2_with fail
  refine (RM.out _).mono ?_
  rintro e w2 ⟨rfl, hb2⟩
  have kk := KK.out.below hb2
  clear KK hb2 x0 x1 x2 x3 x4 hl0 RM
  obtain ⟨x0, x1, x2, x3, x4⟩ := kk.b.c5
  have hl0 := kk.b.lt
  have KK := Lib.hid kk
  clear kk
  by_cases q2 : size > rm - off
  · have R := Lib.hid (LK1.out.trans (if_pos (.inr q2)))
    go_wp2_with fail
    go_ret2
    exact ⟨by rw [R.out]; rfl, KK.out.hB⟩
  have LK2 := Lib.hid (LK1.out.trans (if_neg (fun c => by omega)))
  obtain ⟨hi, hhi⟩ : ∃ hi, off + size = hi := ⟨_, rfl⟩
  rw [hhi] at CW CS
  have hhb : hi ≤ rm ∧ off < hi := by omega
  have WH : IntKind.u64.wrap (off + size) = hi := by rw [hhi]; exact IntWalk.u64_in _ (by omega)
  have HHI := Lib.hid hhi
  clear LK1
  go_upto_region 6 with fail
  have kb := KK.out.b.alloc (.cells #[.int .u64 off, .int .u64 hi] 74)
  have kw := Blk.new w2 74 #[.int .u64 off, .int .u64 hi]
  have hB := bal KK.out.hB (.cells #[.int .u64 off, .int .u64 hi] 74)
  obtain ⟨g8, hg8⟩ : ∃ g8, w2.heap.size = g8 := ⟨_, rfl⟩
  rw [hg8] at kw ⊢
  have kk2 : BK2 w g0 29 #[.int .u64 a, .int .u64 b, .int .u64 f, .slice A T.length c, .slice C l d] g8 74 #[.int .u64 off, .int .u64 hi] (w2.alloc (.cells #[.int .u64 off, .int .u64 hi] 74)) := ⟨kb, kw, hB⟩
  clear kb kw hB hg8 KK x0 x1 x2 x3 x4 hl0
  generalize w2.alloc (.cells #[.int .u64 off, .int .u64 hi] 74) = w3 at kk2 ⊢
  obtain ⟨x0, x1, x2, x3, x4⟩ := kk2.b.c5
  obtain ⟨y0, y1⟩ := kk2.c.c2
  have hl0 := kk2.b.lt
  have hl1 := kk2.c.lt
  go_upto_if 37 with fail
  go_cut [9] (fun s wx => s = .int .u64 fv ∧ wx = w3)
  case first =>
    clear kk2
    by_cases c1 : off < f
    · have c1d : decide (off < f) = true := decide_eq_true c1
      by_cases c2 : hi < f
      · have W1 : IntKind.u64.wrap (hi - off) = hi - off := IntWalk.u64_in _ (by omega)
        have R : Hid (fv = hi - off) := Lib.hid (by rw [FL.out, if_pos c1]; have := HHI.out; omega)
        go_wp2_with fail
        go_meet
        exact ⟨by rw [R.out], rfl⟩
      · have W1 : IntKind.u64.wrap (f - off) = f - off := IntWalk.u64_in _ (by omega)
        have R : Hid (fv = f - off) := Lib.hid (by rw [FL.out, if_pos c1]; have := HHI.out; omega)
        go_wp2_with fail
        go_meet
        exact ⟨by rw [R.out], rfl⟩
    · have c1d : decide (off < f) = false := decide_eq_false c1
      have R : Hid (fv = 0) := Lib.hid (by rw [FL.out, if_neg c1])
      go_wp2_with fail
      go_meet
      exact ⟨by rw [R.out], rfl⟩
  case rest =>
    obtain ⟨rfl, rfl⟩ := hcut
    rw [← C0.out]
    have K3 := Lib.hid kk2
    clear kk2
    go_wp2_with fail
    clear x0 x1 x2 x3 x4
    go_loopw [9, 48] (fun s9 s wr => ∃ k : Nat, k ≤ T.length ∧ s = .int .i64 k ∧ s9 = .int .u64 (cf k) ∧ BK2 w g0 29 #[.int .u64 a, .int .u64 b, .int .u64 f, .slice A T.length c, .slice C l d] g8 74 #[.int .u64 off, .int .u64 hi] wr) (fun _ s _ => T.length - (intOf s).toNat)
    case atStart => exact ⟨0, by omega, rfl, rfl, K3.out⟩
    case round =>
      obtain ⟨k, hk, rfl, rfl, kb⟩ := hrel
      obtain ⟨wy, rfl⟩ : ∃ wy : World, wy = wr := ⟨_, rfl⟩
      have KB := Lib.hid kb
      clear K3
      obtain ⟨x0, x1, x2, x3, x4⟩ := kb.b.c5
      obtain ⟨y0, y1⟩ := kb.c.c2
      have hgy := kb.b.lt
      have hgy2 := kb.c.lt
      clear kb
      obtain ⟨u1, u2⟩ := CB.out k hs1 hk
      by_cases hlt : k < T.length
      · obtain ⟨bt, ot, rfl, hbt, p0, p1⟩ := reads_rg HRt.out rfl (rgAt_get hlt)
        have d0 := (KB.out.hB.cell (p := ⟨bt, ot + k * 2, none⟩) hbt).trans p0
        have d1 := (KB.out.hB.cell (p := ⟨bt, ot + k * 2 + 1, none⟩) hbt).trans p1
        have hty : bt < wy.heap.size := by have := KB.out.hB.size; omega
        have hne : ¬ bt = wy.heap.size := by omega
        have hne2 : ¬ bt = wy.heap.size + 1 := by omega
        have hne3 : ¬ g8 = wy.heap.size := by omega
        have hne4 : ¬ g8 = wy.heap.size + 1 := by omega
        have hne5 : ¬ g0 = wy.heap.size := by omega
        have hne6 : ¬ g0 = wy.heap.size + 1 := by omega
        obtain ⟨t1, t2, t3⟩ := TT.out k hlt
        have CWk := Lib.hid (CW.out k hs1 hlt)
        have CSk := Lib.hid (CS.out k)
        obtain ⟨v1, v2⟩ := CB.out (k + 1) hs1 hlt
        have OV : Hid (ov off hi (rgAt T k) = if max (rgAt T k).f off < min (rgAt T k).t hi then min (rgAt T k).t hi - max (rgAt T k).f off else 0) := Lib.hid rfl
        have hki : (k : Int) < T.length := by omega
        have hk0 : (0 : Int) ≤ k := by omega
        have OLD := Lib.hid (fun (h : cf T.length = size) => (by rw [LK2.out, h]; unfold stOf; rw [if_pos rfl] : lk = (1, 0)))
        obtain ⟨x, hx⟩ : ∃ x, rgAt T k = x := ⟨_, rfl⟩
        rw [hx] at d0 d1 CWk CSk OV t1 t2 t3
        obtain ⟨oo, hoo⟩ : ∃ oo, ov off hi x = oo := ⟨_, rfl⟩
        rw [hoo] at CSk OV
        obtain ⟨c0, hc0⟩ : ∃ c0, cf k = c0 := ⟨_, rfl⟩
        rw [hc0] at CSk u1 u2 ⊢
        obtain ⟨c1, hc1⟩ : ∃ c1, cf (k + 1) = c1 := ⟨_, rfl⟩
        rw [hc1] at CSk v1 v2
        have HC1 := Lib.hid hc1
        have he := run_eql_rg
        clear hx p0 p1 hoo hc0 hc1
        by_cases m1 : x.f < off
        · by_cases m2 : hi < x.t
          · skip
            have R := Lib.hid (OLD.out (CWk.out (by omega) (by have := HHI.out; omega)))
            go_wp2_with fail
            go_ret2
            exact ⟨by rw [R.out]; rfl, bal (bal KB.out.hB _) _⟩
          · by_cases m3 : x.t = hi
            · have m4 : ¬ x.t < hi := by omega
              have R := Lib.hid (OLD.out (CWk.out (by omega) (by have := HHI.out; omega)))
              have b1 : (x.t == hi) = true := by simp; omega
              go_wp2_with fail
              go_ret2
              exact ⟨by rw [R.out]; rfl, bal (bal KB.out.hB _) _⟩
            · by_cases m4 : off < x.t
              · skip
                have E : Hid (oo = x.t - off) := Lib.hid (by rw [OV.out, if_pos (by omega)]; omega)
                have N1 : Hid (c1 = c0 + (x.t - off)) := Lib.hid (by rw [CSk.out, E.out])
                have hN1 := N1.out
                have W1 : IntKind.u64.wrap (x.t - off) = x.t - off := IntWalk.u64_in _ (by omega)
                have W2 : IntKind.u64.wrap (c0 + (x.t - off)) = c0 + (x.t - off) := IntWalk.u64_in _ (by omega)
                clear hN1
                have b1 : (x.t == hi) = false := beq_eq_false_iff_ne.2 (by omega)
                go_wp2_with fail
                go_roundw
                case rel => exact ⟨k + 1, by omega, by go_num, by rw [HC1.out, N1.out], (KB.out.b.alloc _).alloc _, (KB.out.c.alloc _).alloc _, bal (bal KB.out.hB _) _⟩
                case measure => simp [intOf]; omega
              · skip
                have E : Hid (oo = 0) := Lib.hid (by rw [OV.out, if_neg (by omega)])
                have N1 : Hid (c1 = c0) := Lib.hid (by rw [CSk.out, E.out, Int.add_zero])
                have b1 : (x.t == hi) = false := beq_eq_false_iff_ne.2 (by omega)
                go_wp2_with fail
                go_roundw
                case rel => exact ⟨k + 1, by omega, by go_num, by rw [HC1.out, N1.out], (KB.out.b.alloc _).alloc _, (KB.out.c.alloc _).alloc _, bal (bal KB.out.hB _) _⟩
                case measure => simp [intOf]; omega
        · by_cases m2 : hi < x.t
          · by_cases m3 : x.f = off
            · skip
              have R := Lib.hid (OLD.out (CWk.out (by omega) (by have := HHI.out; omega)))
              have b1 : (x.f == off) = true := by simp; omega
              go_wp2_with fail
              go_ret2
              exact ⟨by rw [R.out]; rfl, bal (bal KB.out.hB _) _⟩
            · by_cases m4 : x.f < hi
              · skip
                have E : Hid (oo = hi - x.f) := Lib.hid (by rw [OV.out, if_pos (by omega)]; omega)
                have N1 : Hid (c1 = c0 + (hi - x.f)) := Lib.hid (by rw [CSk.out, E.out])
                have hN1 := N1.out
                have W1 : IntKind.u64.wrap (hi - x.f) = hi - x.f := IntWalk.u64_in _ (by omega)
                have W2 : IntKind.u64.wrap (c0 + (hi - x.f)) = c0 + (hi - x.f) := IntWalk.u64_in _ (by omega)
                clear hN1
                have b1 : (x.f == off) = false := beq_eq_false_iff_ne.2 (by omega)
                go_wp2_with fail
                go_roundw
                case rel => exact ⟨k + 1, by omega, by go_num, by rw [HC1.out, N1.out], (KB.out.b.alloc _).alloc _, (KB.out.c.alloc _).alloc _, bal (bal KB.out.hB _) _⟩
                case measure => simp [intOf]; omega
              · skip
                have E : Hid (oo = 0) := Lib.hid (by rw [OV.out, if_neg (by omega)])
                have N1 : Hid (c1 = c0) := Lib.hid (by rw [CSk.out, E.out, Int.add_zero])
                have b1 : (x.f == off) = false := beq_eq_false_iff_ne.2 (by omega)
                go_wp2_with fail
                go_roundw
                case rel => exact ⟨k + 1, by omega, by go_num, by rw [HC1.out, N1.out], (KB.out.b.alloc _).alloc _, (KB.out.c.alloc _).alloc _, bal (bal KB.out.hB _) _⟩
                case measure => simp [intOf]; omega
          · by_cases m3 : x.f = off
            · by_cases m4 : x.t = hi
              · skip
                have R := Lib.hid (OLD.out (CWk.out (by omega) (by have := HHI.out; omega)))
                have b1 : (x.f == off) = true := by simp; omega
                have b2 : (x.t == hi) = true := by simp; omega
                go_wp2_with fail
                go_ret2
                exact ⟨by rw [R.out]; rfl, bal (bal KB.out.hB _) _⟩
              · skip
                have E : Hid (oo = x.t - x.f) := Lib.hid (by rw [OV.out, if_pos (by omega)]; omega)
                have N1 : Hid (c1 = c0 + (x.t - x.f)) := Lib.hid (by rw [CSk.out, E.out])
                have hN1 := N1.out
                have W1 : IntKind.u64.wrap (x.t - x.f) = x.t - x.f := IntWalk.u64_in _ (by omega)
                have W2 : IntKind.u64.wrap (c0 + (x.t - x.f)) = c0 + (x.t - x.f) := IntWalk.u64_in _ (by omega)
                clear hN1
                have b1 : (x.f == off) = true := by simp; omega
                have b2 : (x.t == hi) = false := beq_eq_false_iff_ne.2 (by omega)
                have M3 := Lib.hid m3
                clear m3
                go_wp2_with fail
                go_roundw
                case rel => exact ⟨k + 1, by omega, by go_num, by rw [HC1.out, N1.out], (KB.out.b.alloc _).alloc _, (KB.out.c.alloc _).alloc _, bal (bal KB.out.hB _) _⟩
                case measure => simp [intOf]; omega
            · skip
              have E : Hid (oo = x.t - x.f) := Lib.hid (by rw [OV.out, if_pos (by omega)]; omega)
              have N1 : Hid (c1 = c0 + (x.t - x.f)) := Lib.hid (by rw [CSk.out, E.out])
              have hN1 := N1.out
              have W1 : IntKind.u64.wrap (x.t - x.f) = x.t - x.f := IntWalk.u64_in _ (by omega)
              have W2 : IntKind.u64.wrap (c0 + (x.t - x.f)) = c0 + (x.t - x.f) := IntWalk.u64_in _ (by omega)
              clear hN1
              have b1 : (x.f == off) = false := beq_eq_false_iff_ne.2 (by omega)
              go_wp2_with fail
              go_roundw
              case rel => exact ⟨k + 1, by omega, by go_num, by rw [HC1.out, N1.out], (KB.out.b.alloc _).alloc _, (KB.out.c.alloc _).alloc _, bal (bal KB.out.hB _) _⟩
              case measure => simp [intOf]; omega
      · obtain rfl : k = T.length := by omega
        have R : Hid (lk = (stOf (cf T.length) size, 0)) := LK2
        obtain ⟨cz, hcz⟩ : ∃ cz, cf T.length = cz := ⟨_, rfl⟩
        rw [hcz] at R u1 u2 ⊢
        clear hcz
        by_cases e0 : cz = 0
        · have R2 : Hid (lk = (2, 0)) := Lib.hid (by rw [R.out]; unfold stOf; rw [if_neg (by omega), if_pos e0])
          subst e0
          clear u1 u2
          go_wp2_with fail
          go_ret2
          exact ⟨by rw [R2.out]; rfl, KB.out.hB⟩
        · have e0' : (cz == 0) = false := beq_eq_false_iff_ne.2 e0
          by_cases e1 : cz = size
          · have R2 : Hid (lk = (1, 0)) := Lib.hid (by rw [R.out]; unfold stOf; rw [if_pos e1])
            subst e1
            go_wp2_with fail
            go_ret2
            exact ⟨by rw [R2.out]; rfl, KB.out.hB⟩
          · have e1' : (cz == size) = false := beq_eq_false_iff_ne.2 e1
            have R2 : Hid (lk = (3, 0)) := Lib.hid (by rw [R.out]; unfold stOf; rw [if_neg e1, if_neg e0])
            clear e0 e1
            go_wp2_with fail
            go_ret2
            exact ⟨by rw [R2.out]; rfl, KB.out.hB⟩

theorem stE_lok (z : Rec) (off size : Int) (ho : 0 ≤ off) (hs : 0 ≤ size) (h : okR z) : stE z off size = lokE z off size := by
  unfold stE lokE
  rw [if_neg (fun c => c h)]
  by_cases h0 : size = 0
  · rw [if_pos h0, if_pos h0]
  · rw [if_neg h0, if_neg h0]
    by_cases h1 : z.g - z.r < size ∨ z.g - z.r - size < off
    · rw [if_pos h1, if_pos (by omega)]
    · rw [if_neg h1, if_neg (by omega)]

set_option maxRecDepth 100000 in
set_option maxHeartbeats 4000000 in
theorem State_any (z : Rec) (hw : WfR z) (off size : Int) (ho : 0 ≤ off ∧ off ≤ 18446744073709551615) (hs : 0 ≤ size ∧ size ≤ 18446744073709551615) (vt vk : Value) (w : World) (ht : RgsAt w vt z.tk) (hkp : KpsAt w vk z.kp) :
    Calls Try.prog 77 #[.agg #[.int .u64 z.g, .int .u64 z.r, .int .u64 z.fl, vt, vk], .int .u64 off, .int .u64 size] w (Ret2 .i64 .i64 (stE z off size).1 (stE z off size).2 w) := by
  obtain ⟨hok, hwo⟩ := opnR_ok z hw
  have HO := Lib.hid (fun vt vk w h1 h2 => openedR_any z hw vt vk w h1 h2)
  have LO := Lib.hid (fun vt vk w h1 h2 => look_any (opnR z) hok hwo off size ho hs vt vk w h1 h2)
  obtain ⟨st, hst⟩ : ∃ st, stE z off size = st := ⟨_, rfl⟩
  have R1 : Hid ((chkR z).1 ≠ 0 → st = (0, (chkR z).1)) := Lib.hid (fun h => by rw [← hst]; exact if_pos h)
  have R2 : Hid ((chkR z).1 = 0 → st = lokE (opnR z) off size) := Lib.hid (fun h => by rw [← hst, stE_lok z off size ho.1 hs.1 h]; unfold opnR; rw [if_pos (show okR z from h)])
  obtain ⟨y, hy⟩ : ∃ y, opnR z = y := ⟨_, rfl⟩
  obtain ⟨e1, he1⟩ : ∃ e1 : Int, (chkR z).1 = e1 := ⟨_, rfl⟩
  rw [hy] at HO LO R2
  rw [he1] at HO R1 R2
  rw [hst]
  obtain ⟨A, c, rfl⟩ := ht.form
  obtain ⟨C, d, rfl⟩ := hkp.form
  have HT := Lib.hid ht
  have HK := Lib.hid hkp
  obtain ⟨a, b, f, T, K⟩ := z
  obtain ⟨lk, hlk⟩ : ∃ lk, lokE y off size = lk := ⟨_, rfl⟩
  rw [hlk] at LO R2
  obtain ⟨a', b', f', T', K'⟩ := y
  dsimp only at *
  clear ht hkp hw he1 hy hst hok hwo hlk
  go_enter Try.func77, Try.ntmps77
  go_wp2_with fail
  have k0 := Blk.new w 29 #[.int .u64 a, .int .u64 b, .int .u64 f, .slice A T.length c, .slice C K.length d]
  have hB := bal (Below.refl w.heap.size w) (.cells #[.int .u64 a, .int .u64 b, .int .u64 f, .slice A T.length c, .slice C K.length d] 29)
  refine (HO.out _ _ _ (HT.out.below hB) (HK.out.below hB)).mono ?_
  rintro e w1 ⟨At, ct, Ak, ck, rfl, hrT, hrK, hb1⟩
  have kb := k0.below hb1
  have HB := Lib.hid (bnext hB hb1)
  rw [World.size_alloc] at hrT hrK
  have RT := Lib.hid hrT
  clear hb1 k0 HO hB hrT hrK HT HK
  obtain ⟨x0, x1, x2, x3, x4⟩ := kb.c5
  obtain ⟨f0, f1, f2, f3, f4⟩ := kb.f5
  have hl0 := kb.lt
  clear kb
  by_cases h0 : e1 = 0
  · have R := Lib.hid (R2.out h0)
    subst h0
    go_wp2_with fail
    refine (LO.out _ _ _ ?_ ⟨_, _, _, rfl⟩).mono ?_
    · refine RowB.at (B := w.heap.size + 1 + 2) ?_
      repeat (first | with_reducible exact RT.out | with_reducible refine RowB.set ?_ (by show w.heap.size < _; omega) _)
    rintro e w2 ⟨rfl, hb2⟩
    have hB2 : Below w.heap.size w w2 := bnext (by repeat (first | with_reducible exact HB.out | with_reducible refine bset ?_ (Nat.le_refl _) _)) hb2
    clear hb2
    go_wp2_with fail
    go_ret2
    exact ⟨by rw [R.out]; rfl, hB2⟩
  · have R := Lib.hid (R1.out h0)
    have h0' : (e1 != 0) = true := by simpa using h0
    clear h0
    go_wp2_with fail
    go_ret2
    refine ⟨by rw [R.out]; rfl, ?_⟩
    repeat (first | with_reducible exact HB.out | with_reducible refine bset ?_ (Nat.le_refl _) _)
end Go.Proofs.Ytfgkkflbpfocjaa

