/- Contract: what is missing (the reference). -/
import Derived.Test.YtcifngefclgefaaJd
namespace Go.Proofs.Ytcifngefclgefaa
open Go.RowKit
set_option linter.unusedVariables false
set_option linter.unusedSimpArgs false

theorem mis_len (c : List Rg) (k : Nat) : (mis c k).1.length ≤ k := by
  induction k with
  | zero => exact Nat.le_refl _
  | succ k ih =>
    rw [mis]
    dsimp only
    split
    · rw [List.length_append, List.length_singleton]; omega
    · omega
theorem mis_b {c : List Rg} {T k : Nat} (h : ∀ x ∈ c, x.f < x.t ∧ x.t ≤ T) (hk : k ≤ c.length) : (mis c k).2 ≤ T := by
  cases k with
  | zero => exact Nat.zero_le _
  | succ k => exact (h _ (List.mem_of_getElem? (rgAt_get (by omega)))).2
theorem mis_lt {c : List Rg} {k : Nat} (h : (mis c k).2 < (rgAt c k).f) : mis c (k + 1) = ((mis c k).1 ++ [⟨(mis c k).2, (rgAt c k).f⟩], (rgAt c k).t) := by rw [mis, if_pos h]
theorem mis_ge {c : List Rg} {k : Nat} (h : ¬ (mis c k).2 < (rgAt c k).f) : mis c (k + 1) = ((mis c k).1, (rgAt c k).t) := by rw [mis, if_neg h]
theorem reads_rg {w : World} {A : Option Addr} {n : Nat} {l : List Rg} (h : Reads w 2 A n (fl Rg.cells l)) (hn : n = l.length) {i : Nat} (hi : i < l.length) :
    ∃ b o, A = some ⟨b, o, none⟩ ∧ b < w.heap.size ∧ w.cell? ⟨b, o + i * 2, none⟩ = some (.int .u64 ((rgAt l i).f : Int)) ∧ w.cell? ⟨b, o + i * 2 + 1, none⟩ = some (.int .u64 ((rgAt l i).t : Int)) := reads_fl2 rg2 h hn (rgAt_get hi) rfl

set_option maxRecDepth 100000 in
set_option maxHeartbeats 8000000 in
theorem rMissing_any (l : List Bn) (v : Value) (w : World) (hV : BnAt w v l) (hl : l.length ≤ 100000) :
    Calls Try.prog 22 #[v] w (RetRg (rgsOf l false).1 (rgsOf l false).2 w) := by
  have HV := Lib.hid hV
  obtain ⟨A, c, rfl, _, hc2, hR⟩ := hV
  have HR := Lib.hid hR
  clear hR
  obtain ⟨a, b, hab⟩ : ∃ a b, laidE l = (a, b) := ⟨_, _, rfl⟩
  have CV := Lib.hid (rCovered_any l _ w HV.out hl)
  have HAB := Lib.hid hab
  clear hab
  by_cases ha : a = 0
  · subst ha
    have HO := lok_of (l := l) (by rw [HAB.out])
    have hln : 0 < l.length := by have := HO.ne; omega
    obtain ⟨y, hy⟩ : ∃ y, l[0]? = some y := ⟨_, List.getElem?_eq_getElem hln⟩
    have hyt := (HO.ok 0 hln).f.2.2.2.2
    rw [bnAt_of hy] at hyt
    obtain ⟨T, hT⟩ : ∃ T : Nat, y.total = T := ⟨y.total.toNat, by omega⟩
    obtain ⟨P, hP⟩ : ∃ P : Nat → Bool, P = cvd l l.length := ⟨_, rfl⟩
    have h1 : rgsOf l true = (rgs P T, 0) := by rw [cov_rgs HO, bnAt_of hy, hT, hP]; rfl
    have h2 : rgsOf l false = (misT (rgs P T) T, 0) := by rw [mis_of HO, h1, bnAt_of hy, hT]; rfl
    obtain ⟨hcl, hcb⟩ := rgs_b P T
    obtain ⟨C, hC⟩ : ∃ C, rgs P T = C := ⟨_, rfl⟩
    rw [hC] at h1 h2 hcl hcb
    have CV2 : Hid (Calls Try.prog 19 #[.slice A l.length c] w (RetRg C 0 w)) := Lib.hid (by have := CV.out; rw [h1] at this; exact this)
    have HRES := Lib.hid h2
    have HCB := Lib.hid hcb
    have hT2 : T ≤ 20000 := by omega
    obtain ⟨b', o', rfl, hb', _, _, _, _, _, _, _, q7, _⟩ := reads_bn HR.out rfl hy
    rw [hT] at q7
    simp only [Nat.zero_mul, Nat.add_zero] at q7
    have Q7 := Lib.hid q7
    have hl0 : (0 : Int) < l.length := by omega
    clear hy hyt hT hP HO q7 CV h1 h2 hC hcb
    rw [HRES.out]
    go_enter Try.func22, Try.ntmps22
    go_wp2_with fail
    refine CV2.out.mono ?_
    rintro e w1 ⟨vc, rfl, hvc, hb1⟩
    obtain ⟨Ac, cc, rfl, _, hcc, hRc⟩ := hvc
    unfold maxLen at hcc
    have HRc := Lib.hid hRc
    have HB := Lib.hid hb1
    clear CV2 hb1 hRc
    go_wp2_with fail
    go_loopw [6, 7, 8] (fun s6 s7 s8 wr => ∃ k : Nat, k ≤ C.length ∧ s8 = .int .i64 k ∧ s7 = .int .u64 ((mis C k).2 : Int) ∧ OwnR wr w1.heap.size s6 (mis C k).1 ∧ Below w1.heap.size w1 wr) (fun _ _ s8 _ => C.length - (intOf s8).toNat)
    case atStart => exact ⟨0, by omega, rfl, rfl, World.ownsRow_nil _ _ _ _, Below.refl _ _⟩
    case round =>
      obtain ⟨k, hk, rfl, rfl, hO, hB⟩ := hrel
      obtain ⟨wy, rfl⟩ : ∃ wy : World, wy = wr := ⟨_, rfl⟩
      obtain ⟨Ao, co, rfl⟩ := hO.form
      have HO := Lib.hid hO
      have HBy := Lib.hid hB
      have hsz := hB.size
      have hml := mis_len C k
      have hm2 := mis_b HCB.out hk
      have HBw := Lib.hid (bnext HB.out hB)
      clear hO hB
      by_cases hlt : k < C.length
      · have hki : (k : Int) < C.length := by omega
        have hk0 : (0 : Int) ≤ k := by omega
        obtain ⟨bc, oc, rfl, hbc, p0, p1⟩ := reads_rg HRc.out rfl hlt
        have d0 := (HBy.out.cell (p := ⟨bc, oc + k * 2, none⟩) hbc).trans p0
        have d1 := (HBy.out.cell (p := ⟨bc, oc + k * 2 + 1, none⟩) hbc).trans p1
        obtain ⟨hx1, hx2⟩ := HCB.out _ (List.mem_of_getElem? (rgAt_get hlt))
        obtain ⟨L, hL⟩ : ∃ L, (mis C k).1 = L := ⟨_, rfl⟩
        obtain ⟨m, hm⟩ : ∃ m, (mis C k).2 = m := ⟨_, rfl⟩
        obtain ⟨xf, hxf⟩ : ∃ xf, (rgAt C k).f = xf := ⟨_, rfl⟩
        obtain ⟨xt, hxt⟩ : ∃ xt, (rgAt C k).t = xt := ⟨_, rfl⟩
        clear p0 p1
        by_cases hmf : m < xf
        · have HN : Hid (mis C (k + 1) = (L ++ [⟨m, xf⟩], xt)) := Lib.hid (by rw [mis_lt (by rw [hm, hxf]; exact hmf), hL, hm, hxf, hxt])
          have HO2 : Hid (OwnR wy w1.heap.size (.slice Ao L.length co) L) := Lib.hid (by rw [← hL]; exact HO.out)
          rw [hL] at hml ⊢
          rw [hm] at hm2 ⊢
          rw [hxf] at d0 hx1
          rw [hxt] at d1 hx1 hx2
          have hmi : (m : Int) < xf := by omega
          have l1 : (L.length + 1) * 16 ≤ 140737488355328 := by omega
          have l2 : L.length + 1 ≤ maxLen := by unfold maxLen; omega
          clear hL hm hxf hxt hmf HO
          go_upto_region 10 with fail
          go_wp2_with (at_builtin; refine wpList_app1n (f := Rg.cells) rfl _ _ 38 rfl w1.heap.size 50 2 16 infoRg rfl (by decide) Try.underlying38 rg2 rg_one wy w1 w1.heap.size ⟨m, xf⟩ L _ (by rfl) (by rfl) HO2.out HBy.out (Nat.le_refl _) hsz l1 l2 ?_)
          intro A3 c3 w3 hown3 hB3 hg3 _
          have HO3 := Lib.hid hown3
          have HB3 := Lib.hid hB3
          have d1' := (hB3.cell (p := ⟨bc, oc + k * 2 + 1, none⟩) hbc).trans ((HBy.out.cell (p := ⟨bc, oc + k * 2 + 1, none⟩) hbc).symm.trans d1)
          clear hown3 hg3 d0 d1 hB3
          go_wp2_with fail
          go_roundw
          case rel => exact ⟨k + 1, by omega, by go_num, by rw [HN.out], (by rw [HN.out]; unfold OwnR; rw [List.length_append, List.length_singleton]; exact HO3.out), HB3.out⟩
          case measure => simp [intOf]; omega
        · have HN : Hid (mis C (k + 1) = (L, xt)) := Lib.hid (by rw [mis_ge (by rw [hm, hxf]; exact hmf), hL, hxt])
          have HO2 : Hid (OwnR wy w1.heap.size (.slice Ao L.length co) L) := Lib.hid (by rw [← hL]; exact HO.out)
          rw [hL] at hml ⊢
          rw [hm] at hm2 ⊢
          rw [hxf] at d0 hx1
          rw [hxt] at d1 hx1 hx2
          have hmi : ¬ (m : Int) < xf := by omega
          clear hL hm hxf hxt hmf HO
          go_wp2_with fail
          go_roundw
          case rel => exact ⟨k + 1, by omega, by go_num, by rw [HN.out], (by rw [HN.out]; exact HO2.out), HBy.out⟩
          case measure => simp [intOf]; omega
      · obtain rfl : k = C.length := by omega
        have q7 := (HBw.out.cell (p := ⟨b', o' + 7, none⟩) hb').trans Q7.out
        obtain ⟨L, hL⟩ : ∃ L, (mis C C.length).1 = L := ⟨_, rfl⟩
        obtain ⟨m, hm⟩ : ∃ m, (mis C C.length).2 = m := ⟨_, rfl⟩
        have HO2 : Hid (OwnR wy w1.heap.size (.slice Ao L.length co) L) := Lib.hid (by rw [← hL]; exact HO.out)
        have HMT : Hid (misT C T = if m < T then L ++ [⟨m, T⟩] else L) := Lib.hid (by unfold misT; rw [hL, hm])
        rw [hL] at hml ⊢
        rw [hm] at hm2 ⊢
        have WK : IntKind.u64.wrap (T : Int) = T := IntWalk.u64_in _ (by omega)
        clear hL hm HO
        by_cases hmT : m < T
        · have hmi : (m : Int) < T := by omega
          have HM2 : Hid (misT C T = L ++ [⟨m, T⟩]) := Lib.hid (by rw [HMT.out, if_pos hmT])
          have l1 : (L.length + 1) * 16 ≤ 140737488355328 := by omega
          have l2 : L.length + 1 ≤ maxLen := by unfold maxLen; omega
          clear hmT
          go_upto_region 13 with fail
          go_wp2_with (at_builtin; refine wpList_app1n (f := Rg.cells) rfl _ _ 38 rfl w1.heap.size 50 2 16 infoRg rfl (by decide) Try.underlying38 rg2 rg_one wy w1 w1.heap.size ⟨m, T⟩ L _ (by rfl) (by rfl) HO2.out HBy.out (Nat.le_refl _) hsz l1 l2 ?_)
          intro A3 c3 w3 hown3 hB3 hg3 _
          have HO3 := Lib.hid hown3
          have HB3 := Lib.hid (bnext HB.out hB3)
          clear hown3 hg3 hB3
          go_wp2_with fail
          go_ret2
          exact ⟨_, rfl, by rw [HM2.out]; have := SlAt.own HO3.out; unfold RgAt; rw [List.length_append, List.length_singleton]; exact this, HB3.out⟩
        · have hmi : ¬ (m : Int) < T := by omega
          have HM2 : Hid (misT C T = L) := Lib.hid (by rw [HMT.out, if_neg hmT])
          clear hmT
          go_wp2_with fail
          go_ret2
          exact ⟨_, rfl, by rw [HM2.out]; exact HO2.out.at, HBw.out⟩
  · have han : (a != 0) = true := by simpa using ha
    have HRES : Hid (rgsOf l false = ([], a)) := Lib.hid (by unfold rgsOf; rw [HAB.out, if_pos ha])
    have HRET : Hid (rgsOf l true = ([], a)) := Lib.hid (by unfold rgsOf; rw [HAB.out, if_pos ha])
    have CV2 : Hid (Calls Try.prog 19 #[.slice A l.length c] w (RetRg [] a w)) := Lib.hid (by have := CV.out; rw [HRET.out] at this; exact this)
    rw [HRES.out]
    clear ha CV
    go_enter Try.func22, Try.ntmps22
    go_wp2_with fail
    refine CV2.out.mono ?_
    rintro e w1 ⟨vc, rfl, hvc, hb1⟩
    obtain ⟨Ac, cc, rfl, _⟩ := id hvc
    clear CV2 hvc
    go_wp2_with fail
    go_ret2
    exact ⟨_, rfl, SlAt.nil _ 2, hb1⟩
end Go.Proofs.Ytcifngefclgefaa
