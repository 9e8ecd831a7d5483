/- Contract: the ranges that are covered, or not (the program). -/
import Derived.Test.YtcifngefclgefaaI
namespace Go.Proofs.Ytcifngefclgefaa
open Go.RowKit
set_option linter.unusedVariables false
set_option linter.unusedSimpArgs false

theorem bool_ne : ∀ a b : Bool, ¬ a = b → (a = true ∧ b = false) ∨ (a = false ∧ b = true) := by decide
theorem addR_nil (k : Nat) : addR [] k = [] ++ [⟨k, k + 1⟩] := by unfold addR; rw [if_neg (by simp)]
theorem addR_ext {L : List Rg} {n k : Nat} (hn : L.length = n + 1) (h : (rgAt L n).t = k) : addR L k = L.set n ⟨(rgAt L n).f, k + 1⟩ := by
  unfold addR
  rw [hn, Nat.add_sub_cancel, if_pos ⟨by omega, h⟩]
theorem addR_new {L : List Rg} {n k : Nat} (hn : L.length = n + 1) (h : ¬ (rgAt L n).t = k) : addR L k = L ++ [⟨k, k + 1⟩] := by
  unfold addR
  rw [hn, Nat.add_sub_cancel, if_neg (fun c => h c.2)]
set_option maxRecDepth 100000 in
set_option maxHeartbeats 8000000 in
theorem ranges_any (l : List Bn) (cv : Bool) (v : Value) (w : World) (hV : BnAt w v l) (hl : l.length ≤ 100000) :
    Calls Try.prog 39 #[v, .bool cv] w (RetRg (rgsOf l cv).1 (rgsOf l cv).2 w) := by
  have HV := Lib.hid hV
  obtain ⟨A, c, rfl, _, hc2, hR⟩ := hV
  have HR := Lib.hid hR
  clear hR
  obtain ⟨a, b, hab⟩ : ∃ a b, laidE l = (a, b) := ⟨_, _, rfl⟩
  have CL := Lib.hid (laid_to hab _ w HV.out hl)
  have HAB := Lib.hid hab
  clear hab
  by_cases ha : a = 0
  · subst ha
    have HO := lok_of (l := l) (by rw [HAB.out])
    have hln : 0 < l.length := by have := HO.ne; omega
    obtain ⟨y, hy⟩ : ∃ y, l[0]? = some y := ⟨_, List.getElem?_eq_getElem hln⟩
    have hyt := (HO.ok 0 hln).f.2.2.2.2
    rw [bnAt_of hy] at hyt
    obtain ⟨T, hT⟩ : ∃ T : Nat, y.total = T := ⟨y.total.toNat, by omega⟩
    obtain ⟨P, hP⟩ : ∃ P : Nat → Bool, P = fun p => (lays l l.length p).isSome == cv := ⟨_, rfl⟩
    have HRES : Hid (rgsOf l cv = (rgs P T, 0)) := Lib.hid (by unfold rgsOf; rw [HAB.out, if_neg (fun h => h rfl), bnAt_of hy, hT, hP]; rfl)
    have HP := Lib.hid hP
    have hT2 : T ≤ 20000 := by omega
    obtain ⟨b', o', rfl, hb', _, _, _, _, _, _, _, q7, _⟩ := reads_bn HR.out rfl hy
    rw [hT] at q7
    have Q7 := Lib.hid q7
    have hl0 : (0 : Int) < l.length := by omega
    clear hy hyt hT hP HO q7
    rw [HRES.out]
    go_enter Try.func39, Try.ntmps39
    go_wp2_with fail
    refine CL.out.mono ?_
    rintro e w1 ⟨gc, G, C, rfl, hC, hCe, hgc, hb1⟩
    have hCe := hCe rfl
    subst hCe
    have HC := Lib.hid hC
    have q7 := (hb1.cell (p := ⟨b', o' + 0 * 9 + 7, none⟩) hb').trans Q7.out
    simp only [Nat.zero_mul, Nat.add_zero] at q7
    have HB := Lib.hid hb1
    clear CL hC hb1
    go_wp2_with fail
    go_loopw [9, 27] (fun s9 s27 wr => ∃ k : Nat, k ≤ T ∧ s27 = .int .i64 k ∧ OwnR wr w1.heap.size s9 (rgs P k) ∧ (∃ G, CanG wr gc G (lays l l.length)) ∧ Below w.heap.size w wr ∧ w1.heap.size ≤ wr.heap.size) (fun _ s27 _ => T - (intOf s27).toNat)
    case atStart => exact ⟨0, by omega, rfl, World.ownsRow_nil _ _ _ _, ⟨_, HC.out⟩, HB.out, Nat.le_refl _⟩
    case round =>
      obtain ⟨k, hk, rfl, hO, ⟨G1, hG1⟩, hB, hsz⟩ := hrel
      obtain ⟨wy, rfl⟩ : ∃ wy : World, wy = wr := ⟨_, rfl⟩
      obtain ⟨Ao, co, rfl⟩ := hO.form
      have HO := Lib.hid hO
      have HG1 := Lib.hid hG1
      have HBy := Lib.hid hB
      clear hO hG1 hB q7
      by_cases hlt : k < T
      · have hki : (k : Int) < T := by omega
        have hk0 : (0 : Int) ≤ k := by omega
        go_wp2_with fail
        refine (at_to gc k (by omega) rfl G1 _ _ HG1.out).mono ?_
        rintro e w2 ⟨g, G2, rfl, hC2, hg2, ho2⟩
        obtain ⟨j, hj⟩ : ∃ j, k / 1024 = j := ⟨_, rfl⟩
        obtain ⟨m, hm⟩ : ∃ m, k % 1024 = m := ⟨_, rfl⟩
        rw [hj] at hg2
        rw [hm]
        have hj20 : j < 20 := by omega
        have hm1 : m < 1024 := by omega
        have hmi : (m : Int) < 1024 := by omega
        have hm0 : (0 : Int) ≤ m := by omega
        obtain ⟨e1, _, _, _⟩ := hC2.has j m g hj20 hm1 hg2
        rw [show j * 1024 + m = k by omega] at e1
        have hap := HG1.out.apart HO.out (by decide) (by decide)
        have hO2 : OwnR w2 w1.heap.size (.slice Ao (rgs P k).length co) (rgs P k) := own_only HO.out ho2 (fun g e c => by have : g = gc := c; rw [this] at e; exact hap.1 e)
        have hB2 : Below w.heap.size w w2 := HBy.out.trans (ho2.to_below (fun c e => by have : c = gc := e; omega) HBy.out.size)
        have hs2 := ho2.size
        have HO2 := Lib.hid hO2
        have HC2 := Lib.hid hC2
        have HB2 := Lib.hid hB2
        obtain ⟨hs, hhs⟩ : ∃ hs, (lays l l.length k).isSome = hs := ⟨_, rfl⟩
        rw [hhs] at e1
        clear hg2 hC2 hO2 hB2 ho2 hj hm hap
        by_cases hpk : hs = cv
        · subst hpk
          have HPK : Hid (P k = true) := Lib.hid (by rw [HP.out]; dsimp only; rw [hhs]; simp)
          have HPS : Hid (rgs P (k + 1) = addR (rgs P k) k) := Lib.hid (by rw [rgs, HPK.out]; rfl)
          obtain ⟨hLn, hLb⟩ := rgs_b P k
          obtain ⟨L, hL⟩ : ∃ L, L = rgs P k := ⟨_, rfl⟩
          rw [← hL] at HPS HO2 hLn hLb ⊢
          have HLL := Lib.hid hL
          have WK : IntKind.u64.wrap (k : Int) = k := IntWalk.u64_in _ (by omega)
          have WK1 : IntKind.u64.wrap ((k : Int) + 1) = (k : Int) + 1 := IntWalk.u64_in _ (by omega)
          have hapc := HC2.out.apart HO2.out (by decide) (by decide)
          have HAPC := Lib.hid hapc
          clear hhs HO HG1 HBy hL hapc
          by_cases hn0 : L.length = 0
          · have hL0 : L = [] := List.eq_nil_of_length_eq_zero hn0
            subst hL0
            have HAD := Lib.hid (addR_nil k)
            have hs2w : w1.heap.size ≤ w2.heap.size := by omega
            have l1 : (([] : List Rg).length + 1) * 16 ≤ 140737488355328 := by decide
            have l2 : ([] : List Rg).length + 1 ≤ maxLen := by unfold maxLen; decide
            cases hs
            all_goals
              go_upto_region 13 with fail
              go_wp2_with (at_builtin; refine wpList_app1n (f := Rg.cells) rfl _ _ 38 rfl w1.heap.size 50 2 16 infoRg rfl (by decide) Try.underlying38 rg2 rg_one w2 w w.heap.size ⟨k, k + 1⟩ [] _ (by rfl) (by rfl) HO2.out HB2.out HB.out.size hs2w l1 l2 ?_)
              intro A3 c3 w3 hown3 hB3 hg3 _
              have HC3 := Lib.hid ((HC2.out.alloc _).grown hg3 HAPC.out)
              have HO3 := Lib.hid hown3
              have hs3 := hg3.size
              clear hown3 hg3
              go_wp2_with fail
              go_roundw
              case rel => exact ⟨k + 1, by omega, by go_num, (by rw [HPS.out, HAD.out]; unfold OwnR; rw [List.length_append, List.length_singleton]; exact HO3.out), ⟨G2, HC3.out⟩, hB3, by simp at hs3; omega⟩
              case measure => simp [intOf]; omega
          · obtain ⟨n, hn⟩ : ∃ n, L.length = n + 1 := ⟨L.length - 1, by omega⟩
            obtain ⟨gO, rfl⟩ := OwnR.block HO2.out (by omega)
            have hcell := own_cell rg2 (show w2.ownsRow w1.heap.size 50 2 (.slice (some ⟨gO, 0, none⟩) L.length co) L.length (fl Rg.cells L) from HO2.out) n 1 (rgAt_get (by omega)) (by decide)
            have hcell' : w2.cell? ⟨gO, n * 2 + 1, none⟩ = some (.int .u64 ((rgAt L n).t : Int)) := hcell
            have hfr := World.ownsRow.frozenAt HO2.out (n * 2 + 1)
            have hs2w : w1.heap.size ≤ w2.heap.size := by omega
            have hgO : w1.heap.size ≤ gO := (World.ownsRow.lt HO2.out gO rfl).1
            have hwO : w.heap.size ≤ gO := by have := HB.out.size; omega
            have HLE := Lib.hid hn
            have hnk : n + 1 ≤ 20000 := by omega
            rw [hn] at HO2 HAPC ⊢
            clear hcell hn0 hn
            by_cases htk : (rgAt L n).t = k
            · have HAD := Lib.hid (addR_ext HLE.out htk)
              have hst := own_store rg2 (show w2.ownsRow w1.heap.size 50 2 (.slice (some ⟨gO, 0, none⟩) (n + 1) co) (n + 1) (fl Rg.cells L) from by have := HO2.out; unfold OwnR at this; rwa [HLE.out] at this) n 1 (y := ⟨(rgAt L n).f, k + 1⟩) (u := .int .u64 ((k : Int) + 1)) (rgAt_get (by rw [HLE.out]; omega)) (by decide) rfl
              have HST := Lib.hid hst
              rw [htk] at hcell'
              clear hst htk
              have hfar : some gO ≠ some gc ∧ ∀ j g, j < 20 → G2 j = some g → some gO ≠ some g := HAPC.out
              have HC3 := Lib.hid (HC2.out.far (p := ⟨gO, n * 2 + 1, none⟩) hfar (.int .u64 ((k : Int) + 1)))
              clear hfar
              cases hs
              all_goals
                go_wp2_with fail
                go_roundw
                case rel => exact ⟨k + 1, by omega, by go_num, (by rw [HPS.out, HAD.out]; have := HST.out; unfold OwnR; rw [List.length_set, HLE.out]; exact this), ⟨G2, HC3.out⟩, HB2.out.setCell (p := ⟨gO, n * 2 + 1, none⟩) hwO _, by simp; omega⟩
                case measure => simp [intOf]; omega
            · have HAD := Lib.hid (addR_new HLE.out htk)
              have hne : (((rgAt L n).t : Int) == (k : Int)) = false := beq_eq_false_iff_ne.2 (by omega)
              have l1 : (L.length + 1) * 16 ≤ 140737488355328 := by rw [HLE.out]; omega
              have l2 : L.length + 1 ≤ maxLen := by rw [HLE.out]; unfold maxLen; omega
              have HO2' : Hid (OwnR w2 w1.heap.size (.slice (some ⟨gO, 0, none⟩) (n + 1) co) L) := HO2
              clear htk
              cases hs
              all_goals
                go_upto_region 13 with fail
                go_wp2_with (at_builtin; refine wpList_app1n (f := Rg.cells) rfl _ _ 38 rfl w1.heap.size 50 2 16 infoRg rfl (by decide) Try.underlying38 rg2 rg_one w2 w w.heap.size ⟨k, k + 1⟩ L _ (by rfl) (by rfl) HO2.out HB2.out HB.out.size hs2w l1 l2 ?_)
                intro A3 c3 w3 hown3 hB3 hg3 _
                have HC3 := Lib.hid ((HC2.out.alloc _).grown hg3 HAPC.out)
                have HO3 := Lib.hid hown3
                have hs3 := hg3.size
                clear hown3 hg3
                go_wp2_with fail
                go_roundw
                case rel => exact ⟨k + 1, by omega, by go_num, (by rw [HPS.out, HAD.out]; unfold OwnR; rw [List.length_append, List.length_singleton]; exact HO3.out), ⟨G2, HC3.out⟩, hB3, by simp at hs3; omega⟩
                case measure => simp [intOf]; omega
        · have hpf : P k = false := by rw [HP.out]; show ((lays l l.length k).isSome == cv) = false; rw [hhs]; simpa using hpk
          have HPK : Hid (rgs P (k + 1) = rgs P k) := Lib.hid (by rw [rgs, hpf]; rfl)
          have hcase : (hs = true ∧ cv = false) ∨ (hs = false ∧ cv = true) := bool_ne _ _ hpk
          clear hhs hpk hpf
          rcases hcase with ⟨rfl, rfl⟩ | ⟨rfl, rfl⟩
          all_goals
            go_wp2_with fail
            go_roundw
            case rel => exact ⟨k + 1, by omega, by go_num, by rw [HPK.out]; exact HO2.out, ⟨G2, HC2.out⟩, HB2.out, by omega⟩
            case measure => simp [intOf]; omega
      · obtain rfl : k = T := by omega
        go_wp2_with fail
        go_ret2
        exact ⟨_, rfl, HO.out.at, HBy.out⟩
  · have han : (a != 0) = true := by simpa using ha
    have HRES : Hid (rgsOf l cv = ([], a)) := Lib.hid (by unfold rgsOf; rw [HAB.out, if_pos ha])
    rw [HRES.out]
    clear ha
    go_enter Try.func39, Try.ntmps39
    go_wp2_with fail
    refine CL.out.mono ?_
    rintro e w1 ⟨gc, G, C, rfl, _, _, _, hb1⟩
    clear CL
    go_wp2_with fail
    go_ret2
    exact ⟨_, rfl, SlAt.nil _ 2, hb1⟩
end Go.Proofs.Ytcifngefclgefaa
