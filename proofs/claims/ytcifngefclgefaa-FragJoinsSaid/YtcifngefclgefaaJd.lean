/- Contract: what is covered (the reference). -/
import Derived.Test.YtcifngefclgefaaJc
namespace Go.Proofs.Ytcifngefclgefaa
open Go.RowKit
set_option linter.unusedVariables false
set_option linter.unusedSimpArgs false

theorem cov_iff (x : Bn) (p : Nat) : cov x p ↔ (x.o ≤ p ∧ p < x.o + x.data.size) := Iff.rfl

set_option maxRecDepth 100000 in
set_option maxHeartbeats 8000000 in
theorem rCovered_any (l : List Bn) (v : Value) (w : World) (hV : BnAt w v l) (hl : l.length ≤ 100000) :
    Calls Try.prog 19 #[v] w (RetRg (rgsOf l true).1 (rgsOf l true).2 w) := by
  have HV := Lib.hid hV
  obtain ⟨A, c, rfl, _, hc2, hR⟩ := hV
  have HR := Lib.hid hR
  clear hR
  obtain ⟨a, b, hab⟩ : ∃ a b, laidE l = (a, b) := ⟨_, _, rfl⟩
  have CL : Hid (Calls Try.prog 17 #[.slice A l.length c] w (RetII a (b : Int) w)) := Lib.hid (by have := rChk_any l _ w HV.out hl; rw [hab] at this; exact this)
  have HAB := Lib.hid hab
  clear hab
  by_cases ha : a = 0
  · subst ha
    have HO := lok_of (l := l) (by rw [HAB.out])
    have hln : 0 < l.length := by have := HO.ne; omega
    obtain ⟨y, hy⟩ : ∃ y, l[0]? = some y := ⟨_, List.getElem?_eq_getElem hln⟩
    have hyt := (HO.ok 0 hln).f.2.2.2.2
    rw [bnAt_of hy] at hyt
    obtain ⟨T, hT⟩ : ∃ T : Nat, y.total = T := ⟨y.total.toNat, by omega⟩
    obtain ⟨P, hP⟩ : ∃ P : Nat → Bool, P = cvd l l.length := ⟨_, rfl⟩
    have HRES : Hid (rgsOf l true = (rgs P T, 0)) := Lib.hid (by rw [cov_rgs HO, bnAt_of hy, hT, hP]; rfl)
    have HP := Lib.hid hP
    have HOK := Lib.hid HO
    have hT2 : T ≤ 20000 := by omega
    obtain ⟨b', o', rfl, hb', _, _, _, _, _, _, _, q7, _⟩ := reads_bn HR.out rfl hy
    rw [hT] at q7
    simp only [Nat.zero_mul, Nat.add_zero] at q7
    have Q7 := Lib.hid q7
    have hl0 : (0 : Int) < l.length := by omega
    clear hy hyt hT hP HO q7
    rw [HRES.out]
    go_enter Try.func19, Try.ntmps19
    go_wp2_with fail
    refine CL.out.mono ?_
    rintro e w1 ⟨rfl, hb1⟩
    have HB := Lib.hid hb1
    clear CL hb1
    go_wp2_with fail
    go_loopw [6, 7] (fun s6 s7 wr => ∃ k : Nat, k ≤ T ∧ s7 = .int .i64 k ∧ OwnR wr w1.heap.size s6 (rgs P k) ∧ Below w.heap.size w wr ∧ w1.heap.size ≤ wr.heap.size) (fun _ s7 _ => T - (intOf s7).toNat)
    case atStart => exact ⟨0, by omega, rfl, World.ownsRow_nil _ _ _ _, HB.out, Nat.le_refl _⟩
    case round =>
      obtain ⟨k, hk, rfl, hO, hB, hsz⟩ := hrel
      obtain ⟨wy, rfl⟩ : ∃ wy : World, wy = wr := ⟨_, rfl⟩
      obtain ⟨Ao, co, rfl⟩ := hO.form
      have HO := Lib.hid hO
      have HBy := Lib.hid hB
      have q7 := (hB.cell (p := ⟨b', o' + 7, none⟩) hb').trans Q7.out
      clear hO hB
      by_cases hlt : k < T
      · have hki : (k : Int) < T := by omega
        have hk0 : (0 : Int) ≤ k := by omega
        go_wp2_with fail
        clear q7
        go_loopw [8, 9] (fun s8 s9 wr => ∃ i : Nat, i ≤ l.length ∧ s8 = .bool (cvd l i k) ∧ s9 = .int .i64 i ∧ Below wy.heap.size wy wr) (fun _ s9 _ => l.length - (intOf s9).toNat)
        case atStart => exact ⟨0, by omega, rfl, rfl, Below.refl _ _⟩
        case round =>
          obtain ⟨i, hi, rfl, rfl, hBi⟩ := hrel
          obtain ⟨wi, rfl⟩ : ∃ wi : World, wi = wr := ⟨_, rfl⟩
          have HBi := Lib.hid hBi
          clear hBi
          by_cases hil : i < l.length
          · obtain ⟨x, hx⟩ : ∃ x, l[i]? = some x := ⟨_, List.getElem?_eq_getElem hil⟩
            obtain ⟨b2, o2, e2, _, _, _, p2, _, _, _, _, _, p8⟩ := reads_bn HR.out rfl hx
            cases e2
            have hxo := HOK.out.ok i hil
            rw [bnAt_of hx] at hxo
            obtain ⟨ho1, ho2, _⟩ := bok_o hxo
            have HC : Hid (cvd l (i + 1) k = (cvd l i k || decide (x.o ≤ k ∧ k < x.o + x.data.size))) := Lib.hid (by rw [cvd_succ, bnAt_of hx]; rfl)
            have hBw := bnext HBy.out HBi.out
            have d2 := (hBw.cell (p := ⟨b', o' + i * 9 + 2, none⟩) hb').trans p2
            have d8 := (hBw.cell (p := ⟨b', o' + i * 9 + 8, none⟩) hb').trans p8
            rw [ho1] at d2
            obtain ⟨xo, hxo'⟩ : ∃ xo, x.o = xo := ⟨_, rfl⟩
            rw [hxo'] at d2 HC ho2
            have hii : (i : Int) < l.length := by omega
            have hi0 : (0 : Int) ≤ i := by omega
            have WS : IntKind.i64.wrap ((xo : Int) + x.data.size) = (xo : Int) + x.data.size := IntWalk.i64_in _ (by omega)
            clear hx p2 p8 hxo ho1 hBw hxo'
            obtain ⟨cb, hcb⟩ : ∃ cb, cvd l i k = cb := ⟨_, rfl⟩
            rw [hcb] at HC ⊢
            clear hcb
            cases cb with
            | true =>
              have HC2 : Hid (cvd l (i + 1) k = true) := Lib.hid (by rw [HC.out]; rfl)
              go_upto_region 12 with fail
              go_quiet (fail)
              go_wp2_with fail
              go_roundw
              case rel => exact ⟨i + 1, by omega, by rw [HC2.out], by go_num, below_drewN HBi.out _⟩
              case measure => simp [intOf]; omega
            | false =>
              by_cases c1 : xo ≤ k
              · have c1i : (k : Int) ≥ xo := by omega
                by_cases c2 : k < xo + x.data.size
                · have c2i : (k : Int) < (xo : Int) + x.data.size := by omega
                  have HC2 : Hid (cvd l (i + 1) k = true) := Lib.hid (by rw [HC.out, decide_eq_true (And.intro c1 c2)]; rfl)
                  go_upto_region 12 with fail
                  go_quiet (fail)
                  go_wp2_with fail
                  go_roundw
                  case rel => exact ⟨i + 1, by omega, by rw [HC2.out], by go_num, below_drewN HBi.out _⟩
                  case measure => simp [intOf]; omega
                · have c2i : ¬ (k : Int) < (xo : Int) + x.data.size := by omega
                  have HC2 : Hid (cvd l (i + 1) k = false) := Lib.hid (by rw [HC.out, decide_eq_false (fun h => c2 h.2)]; rfl)
                  go_upto_region 12 with fail
                  go_quiet (fail)
                  go_wp2_with fail
                  go_roundw
                  case rel => exact ⟨i + 1, by omega, by rw [HC2.out], by go_num, below_drewN HBi.out _⟩
                  case measure => simp [intOf]; omega
              · have c1i : ¬ (k : Int) ≥ xo := by omega
                have HC2 : Hid (cvd l (i + 1) k = false) := Lib.hid (by rw [HC.out, decide_eq_false (fun h => c1 h.1)]; rfl)
                go_upto_region 12 with fail
                go_quiet (fail)
                go_wp2_with fail
                go_roundw
                case rel => exact ⟨i + 1, by omega, by rw [HC2.out], by go_num, below_drewN HBi.out _⟩
                case measure => simp [intOf]; omega
          · obtain rfl : i = l.length := by omega
            have HB2 := Lib.hid (bnext HBy.out HBi.out)
            have HO2 := Lib.hid (own_below HBi.out HO.out)
            have hs2w : w1.heap.size ≤ wi.heap.size := Nat.le_trans hsz HBi.out.size
            have HPk : Hid (P k = cvd l l.length k) := Lib.hid (by rw [HP.out])
            obtain ⟨cb, hcb⟩ : ∃ cb, cvd l l.length k = cb := ⟨_, rfl⟩
            rw [hcb] at HPk ⊢
            obtain ⟨hLn, hLb⟩ := rgs_b P k
            clear hcb HO HBy HBi hsz
            cases cb with
            | false =>
              have HPK : Hid (rgs P (k + 1) = rgs P k) := Lib.hid (by rw [rgs, HPk.out]; rfl)
              go_wp2_with fail
              go_roundw
              case rel => exact ⟨k + 1, by omega, by go_num, by rw [HPK.out]; exact HO2.out, HB2.out, hs2w⟩
              case measure => simp [intOf]; omega
            | true =>
              have HPS : Hid (rgs P (k + 1) = addR (rgs P k) k) := Lib.hid (by rw [rgs, HPk.out]; rfl)
              obtain ⟨L, hL⟩ : ∃ L, L = rgs P k := ⟨_, rfl⟩
              have HO2' : Hid (OwnR wi w1.heap.size (.slice Ao L.length co) L) := Lib.hid (by rw [hL]; exact HO2.out)
              rw [← hL] at HPS hLn hLb ⊢
              have WK : IntKind.u64.wrap (k : Int) = k := IntWalk.u64_in _ (by omega)
              have WK1 : IntKind.u64.wrap ((k : Int) + 1) = (k : Int) + 1 := IntWalk.u64_in _ (by omega)
              clear hL HO2
              by_cases hn0 : L.length = 0
              · have hL0 : L = [] := List.eq_nil_of_length_eq_zero hn0
                subst hL0
                have HAD := Lib.hid (addR_nil k)
                have l1 : (([] : List Rg).length + 1) * 16 ≤ 140737488355328 := by decide
                have l2 : ([] : List Rg).length + 1 ≤ maxLen := by unfold maxLen; decide
                go_upto_region 17 with fail
                go_wp2_with (at_builtin; refine wpList_app1n (f := Rg.cells) rfl _ _ 38 rfl w1.heap.size 50 2 16 infoRg rfl (by decide) Try.underlying38 rg2 rg_one wi w w.heap.size ⟨k, k + 1⟩ [] _ (by rfl) (by rfl) HO2'.out HB2.out HB.out.size hs2w l1 l2 ?_)
                intro A3 c3 w3 hown3 hB3 hg3 _
                have HO3 := Lib.hid hown3
                have hs3 := hg3.size
                clear hown3 hg3
                go_wp2_with fail
                go_roundw
                case rel => exact ⟨k + 1, by omega, by go_num, (by rw [HPS.out, HAD.out]; unfold OwnR; rw [List.length_append, List.length_singleton]; exact HO3.out), hB3, by simp at hs3; omega⟩
                case measure => simp [intOf]; omega
              · obtain ⟨n, hn⟩ : ∃ n, L.length = n + 1 := ⟨L.length - 1, by omega⟩
                obtain ⟨gO, rfl⟩ := OwnR.block HO2'.out (by omega)
                have hcell := own_cell rg2 (show wi.ownsRow w1.heap.size 50 2 (.slice (some ⟨gO, 0, none⟩) L.length co) L.length (fl Rg.cells L) from HO2'.out) n 1 (rgAt_get (by omega)) (by decide)
                have hcell' : wi.cell? ⟨gO, n * 2 + 1, none⟩ = some (.int .u64 ((rgAt L n).t : Int)) := hcell
                have hfr := World.ownsRow.frozenAt HO2'.out (n * 2 + 1)
                have hgO : w1.heap.size ≤ gO := (World.ownsRow.lt HO2'.out gO rfl).1
                have hwO : w.heap.size ≤ gO := by have := HB.out.size; omega
                have HLE := Lib.hid hn
                have hnk : n + 1 ≤ 20000 := by omega
                rw [hn] at HO2' ⊢
                clear hcell hn0 hn
                by_cases htk : (rgAt L n).t = k
                · have HAD := Lib.hid (addR_ext HLE.out htk)
                  have hst := own_store rg2 (show wi.ownsRow w1.heap.size 50 2 (.slice (some ⟨gO, 0, none⟩) (n + 1) co) (n + 1) (fl Rg.cells L) from by have := HO2'.out; unfold OwnR at this; rwa [HLE.out] at this) n 1 (y := ⟨(rgAt L n).f, k + 1⟩) (u := .int .u64 ((k : Int) + 1)) (rgAt_get (by rw [HLE.out]; omega)) (by decide) rfl
                  have HST := Lib.hid hst
                  rw [htk] at hcell'
                  clear hst htk
                  go_wp2_with fail
                  go_roundw
                  case rel => exact ⟨k + 1, by omega, by go_num, (by rw [HPS.out, HAD.out]; have := HST.out; unfold OwnR; rw [List.length_set, HLE.out]; exact this), HB2.out.setCell (p := ⟨gO, n * 2 + 1, none⟩) hwO _, by simp; omega⟩
                  case measure => simp [intOf]; omega
                · have HAD := Lib.hid (addR_new HLE.out htk)
                  have hne : (((rgAt L n).t : Int) == (k : Int)) = false := beq_eq_false_iff_ne.2 (by omega)
                  have l1 : (L.length + 1) * 16 ≤ 140737488355328 := by rw [HLE.out]; omega
                  have l2 : L.length + 1 ≤ maxLen := by rw [HLE.out]; unfold maxLen; omega
                  clear htk
                  go_upto_region 17 with fail
                  go_wp2_with (at_builtin; refine wpList_app1n (f := Rg.cells) rfl _ _ 38 rfl w1.heap.size 50 2 16 infoRg rfl (by decide) Try.underlying38 rg2 rg_one wi w w.heap.size ⟨k, k + 1⟩ L _ (by rfl) (by rfl) HO2'.out HB2.out HB.out.size hs2w l1 l2 ?_)
                  intro A3 c3 w3 hown3 hB3 hg3 _
                  have HO3 := Lib.hid hown3
                  have hs3 := hg3.size
                  clear hown3 hg3
                  go_wp2_with fail
                  go_roundw
                  case rel => exact ⟨k + 1, by omega, by go_num, (by rw [HPS.out, HAD.out]; unfold OwnR; rw [List.length_append, List.length_singleton]; exact HO3.out), hB3, by simp at hs3; omega⟩
                  case measure => simp [intOf]; omega
      · obtain rfl : k = T := by omega
        go_wp2_with fail
        go_ret2
        exact ⟨_, rfl, HO.out.at, HBy.out⟩
  · have han : (a != 0) = true := by simpa using ha
    have HRES : Hid (rgsOf l true = ([], a)) := Lib.hid (by unfold rgsOf; rw [HAB.out, if_pos ha])
    rw [HRES.out]
    clear ha
    go_enter Try.func19, Try.ntmps19
    go_wp2_with fail
    refine CL.out.mono ?_
    rintro e w1 ⟨rfl, hb1⟩
    clear CL
    go_wp2_with fail
    go_ret2
    exact ⟨_, rfl, SlAt.nil _ 2, hb1⟩
end Go.Proofs.Ytcifngefclgefaa
