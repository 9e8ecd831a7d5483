/- Contracts: copies, sets, an opened ledger, what is reserved. -/
import Derived.Test.YtfgkkflbpfocjaaZc8
namespace Go.Proofs.Ytfgkkflbpfocjaa
open Go.RowKit
set_option linter.unusedVariables false
set_option linter.unusedSimpArgs false

theorem RowB.drew {B : Nat} {w : World} {k : Nat} {v : Value} {n : Nat} {xs : List Value} (h : RowB B w k v n xs) : RowB B w.drew k v n xs := h
theorem RowB.nil (B : Nat) (w : World) (k : Nat) : RowB B w k (.slice none 0 0) 0 [] := ⟨none, 0, rfl, Nat.le_refl _, Nat.zero_le _, by simp, fun h => absurd h (by omega)⟩
theorem SlAt.none0 {w : World} {k n c : Nat} {xs : List Value} (h : SlAt w k (.slice none n c) n xs) : n = 0 := by
  obtain ⟨A, c', e, _, _, hR⟩ := h
  cases e
  rcases Nat.eq_zero_or_pos n with h | h
  · exact h
  · obtain ⟨b, o, e, _⟩ := hR.2 h
    cases e
def RetRgs (l : List Rg) (w : World) (e : Ending) (w' : World) : Prop := ∃ A c, e = .returned (.slice A l.length c) ∧ RgsB w.heap.size w' (.slice A l.length c) l ∧ Below w.heap.size w w'
def RetKps (l : List Int) (w : World) (e : Ending) (w' : World) : Prop := ∃ A c, e = .returned (.slice A l.length c) ∧ KpsB w.heap.size w' (.slice A l.length c) l ∧ Below w.heap.size w w'

set_option maxHeartbeats 2000000 in
theorem CloneR_any (l : List Rg) (v : Value) (w : World) (h : RgsAt w v l) (hl : l.length ≤ 100000) : Calls Try.prog 93 #[v] w (RetRgs l w) := by
  have H := Lib.hid h
  obtain ⟨A, c, rfl⟩ := h.form
  have he := fun (w : World) (a : Option Addr) (n c : Nat) => Lib.run_eql_slice_nil w 26 74 a n c 0 0 Try.underlying26
  cases A with
  | none =>
    have h0 := SlAt.none0 h
    have hn : l = [] := List.eq_nil_of_length_eq_zero h0
    subst hn
    clear h0 h H
    go_enter Try.func93, Try.ntmps93
    go_wp2_with fail
    go_ret
    exact ⟨none, 0, rfl, RowB.nil _ _ _, Below.refl _ _⟩
  | some ad =>
    clear h
    have HO := Lib.hid (own0 w 74 2)
    go_enter Try.func93, Try.ntmps93
    go_wp2_with (at_builtin; refine wpList_app_all (f := Rg.cells) rfl _ _ 26 rfl w.heap.size 74 2 16 infoRg rfl (by decide) Try.underlying26 rg2 rg_one _ w w.heap.size [] l _ _ (by rfl) (by rfl) (SlAt.alloc H.out _) HO.out (bal (Below.refl _ _) _) (Nat.le_refl _) (by simp) (by simp; omega) (by unfold maxLen; simp; omega) ?_)
    intro B d U hown hBu hg
    try simp only [List.length_nil, Nat.zero_add, List.nil_append] at hown
    try simp only [List.length_nil, Nat.zero_add]
    go_wp2_with fail
    go_ret
    exact ⟨B, d, rfl, RowB.own hown (Nat.le_refl _), hBu⟩

set_option maxHeartbeats 2000000 in
theorem CloneK_any (l : List Int) (v : Value) (w : World) (h : KpsAt w v l) (hl : l.length ≤ 100000) : Calls Try.prog 94 #[v] w (RetKps l w) := by
  have H := Lib.hid h
  obtain ⟨A, c, rfl⟩ := h.form
  have he := fun (w : World) (a : Option Addr) (n c : Nat) => Lib.run_eql_slice_nil w 27 22 a n c 0 0 Try.underlying27
  cases A with
  | none =>
    have h0 := SlAt.none0 h
    have hn : l = [] := List.eq_nil_of_length_eq_zero h0
    subst hn
    clear h0 h H
    go_enter Try.func94, Try.ntmps94
    go_wp2_with fail
    go_ret
    exact ⟨none, 0, rfl, RowB.nil _ _ _, Below.refl _ _⟩
  | some ad =>
    clear h
    have HO := Lib.hid (own0 w 22 1)
    go_enter Try.func94, Try.ntmps94
    go_wp2_with (at_builtin; refine wpList_app_all (f := kc) rfl _ _ 27 rfl w.heap.size 22 1 8 infoU rfl (by decide) Try.underlying27 kc1 kc_one _ w w.heap.size [] l _ _ (by rfl) (by rfl) (SlAt.alloc H.out _) HO.out (bal (Below.refl _ _) _) (Nat.le_refl _) (by simp) (by simp; omega) (by unfold maxLen; simp; omega) ?_)
    intro B d U hown hBu hg
    try simp only [List.length_nil, Nat.zero_add, List.nil_append] at hown
    try simp only [List.length_nil, Nat.zero_add]
    go_wp2_with fail
    go_ret
    exact ⟨B, d, rfl, RowB.own hown (Nat.le_refl _), hBu⟩

set_option maxRecDepth 100000 in
set_option maxHeartbeats 4000000 in
theorem setCheck_any (l : List Rg) (v : Value) (w : World) (h : RgsAt w v l) : Calls Try.prog 123 #[v] w (Ret2 .i64 .i64 (setE l).1 ((setE l).2 : Int) w) := by
  obtain ⟨A, c, rfl, _, hca, hR⟩ := id h
  unfold maxLen at hca
  have HR := Lib.hid hR
  obtain ⟨ch, hch⟩ : ∃ ch, setE l = ch := ⟨_, rfl⟩
  have CH : Hid (ch = if 1000 < l.length then (5, 0) else fstE (seE l) l.length 0) := Lib.hid (by rw [← hch]; rfl)
  rw [hch]
  clear h hR hch
  by_cases h1 : 1000 < l.length
  · have R := Lib.hid (CH.out.trans (if_pos h1))
    have h1i : (l.length : Int) > 1000 := by omega
    go_enter Try.func123, Try.ntmps123
    go_wp2_with fail
    go_ret2
    exact ⟨by rw [R.out]; rfl, (by repeat (first | with_reducible exact Below.refl _ _ | with_reducible refine Below.drew ?_ | with_reducible refine below_drewN ?_ _ | with_reducible refine bal ?_ _ | with_reducible refine bset ?_ (by first | (simp; done) | (simp; omega)) _ | with_reducible refine bnext ?_ (by assumption) | with_reducible assumption))⟩
  have h1i : ¬ (l.length : Int) > 1000 := by omega
  have CH1 := Lib.hid (CH.out.trans (if_neg h1))
  clear CH
  go_enter Try.func123, Try.ntmps123
  go_wp2_with fail
  go_loopw [11] (fun s wr => ∃ k : Nat, k ≤ l.length ∧ s = .int .i64 k ∧ fstE (seE l) l.length 0 = fstE (seE l) (l.length - k) k ∧ Below w.heap.size w wr) (fun s _ => l.length - (intOf s).toNat)
  case atStart => exact ⟨0, by omega, rfl, rfl, Below.refl _ _⟩
  case round =>
    obtain ⟨k, hk, rfl, hM, hB⟩ := hrel
    obtain ⟨wy, rfl⟩ : ∃ wy : World, wy = wr := ⟨_, rfl⟩
    have HM := Lib.hid hM
    have HB := Lib.hid hB
    clear hM hB
    by_cases hlt : k < l.length
    · obtain ⟨bt, ot, rfl, hbt, p0, p1⟩ := reads_rg HR.out rfl (rgAt_get hlt)
      have HER : Hid (seE l k = if (rgAt l k).t ≤ (rgAt l k).f then 2 else if 0 < k ∧ (rgAt l k).f ≤ (rgAt l (k - 1)).t then 19 else 0) := Lib.hid rfl
      have HIT := Lib.hid (fun e (h : seE l k = e) (he : e ≠ 0) => (by rw [CH1.out, HM.out, fstE_hit hlt (by rw [h]; exact he), h] : ch = (e, k)))
      have MIS := Lib.hid (fun (h : seE l k = 0) => HM.out.trans (fstE_miss hlt h))
      have hki : (k : Int) < l.length := by omega
      have hk0 : (0 : Int) ≤ k := by omega
      have d0 := (HB.out.cell (p := ⟨bt, ot + k * 2, none⟩) hbt).trans p0
      have d1 := (HB.out.cell (p := ⟨bt, ot + k * 2 + 1, none⟩) hbt).trans p1
      have hty : bt < wy.heap.size := by have := HB.out.size; omega
      have hne : ¬ bt = wy.heap.size := by omega
      have dprev : ∀ j, j < l.length → ∀ y, rgAt l j = y → wy.cell? ⟨bt, ot + j * 2 + 1, none⟩ = some (.int .u64 y.t) := fun j hj y hy => by
        obtain ⟨b2, o2, e2, _, p0, p1⟩ := reads_rg HR.out rfl (rgAt_get hj)
        cases e2
        rw [hy] at p1
        exact (HB.out.cell (p := ⟨bt, ot + j * 2 + 1, none⟩) hbt).trans p1
      obtain ⟨x, hx⟩ : ∃ x, rgAt l k = x := ⟨_, rfl⟩
      rw [hx] at d0 d1 HER
      clear hx p0 p1
      by_cases c1 : x.f ≥ x.t
      · have R := Lib.hid (HIT.out 2 (HER.out.trans (if_pos c1)) (by decide))
        clear dprev
        go_wp2_with fail
        go_ret2
        exact ⟨by rw [R.out]; rfl, bal HB.out _⟩
      have NER := Lib.hid (HER.out.trans (if_neg c1))
      by_cases c0 : k = 0
      · have M2 := Lib.hid (MIS.out (NER.out.trans (if_neg (fun c => by omega))))
        subst c0
        simp only [Nat.zero_mul, Nat.add_zero] at d0 d1
        clear dprev
        go_upto_region 8 with fail
        go_quiet (fail)
        go_wp2_with fail
        go_roundw
        case rel => exact ⟨0 + 1, by omega, by go_num, M2.out, below_drewN (bal HB.out _) _⟩
        case measure => simp [intOf]; omega
      · obtain ⟨m, rfl⟩ : ∃ m, k = m + 1 := ⟨k - 1, by omega⟩
        have q1 := dprev m (by omega) _ rfl
        obtain ⟨y, hy⟩ : ∃ y, rgAt l m = y := ⟨_, rfl⟩
        rw [Nat.add_sub_cancel, hy] at NER
        rw [hy] at q1
        have hm1 : ((m + 1 : Nat) : Int) > 0 := by omega
        have WM : IntKind.i64.wrap (((m + 1 : Nat) : Int) - 1) = (m : Int) := by rw [show ((m + 1 : Nat) : Int) - 1 = m by omega]; exact IntWalk.i64_in _ (by omega)
        have hmi : (m : Int) < l.length := by omega
        have hm0 : (0 : Int) ≤ m := by omega
        clear hy dprev
        by_cases c3 : x.f ≤ y.t
        · have R := Lib.hid (HIT.out 19 (NER.out.trans (if_pos ⟨by omega, c3⟩)) (by decide))
          go_upto_region 8 with fail
          go_quiet (fail)
          go_wp2_with fail
          go_ret2
          exact ⟨by rw [R.out]; rfl, below_drewN (bal HB.out _) _⟩
        · have M2 := Lib.hid (MIS.out (NER.out.trans (if_neg (fun c => c3 c.2))))
          go_upto_region 8 with fail
          go_quiet (fail)
          go_wp2_with fail
          go_roundw
          case rel => exact ⟨m + 1 + 1, by omega, by go_num, M2.out, below_drewN (bal HB.out _) _⟩
          case measure => simp [intOf]; omega
    · obtain rfl : k = l.length := by omega
      have R : Hid (ch = (0, 0)) := Lib.hid (by rw [CH1.out, HM.out, fstE_end])
      go_wp2_with fail
      go_ret2
      exact ⟨by rw [R.out]; rfl, HB.out⟩

set_option maxRecDepth 100000 in
set_option maxHeartbeats 4000000 in
theorem setSize_ok (z : Rec) (hz : OkR z) (hf : 0 ≤ z.fl) (hr : 0 ≤ z.r) (v : Value) (w : World) (h : RgsAt w v z.tk) : Calls Try.prog 120 #[v] w (Ret2 .u64 .i64 (szs z.tk z.tk.length) 0 w) := by
  have HC := Lib.hid (setCheck_any z.tk v w h)
  rw [setE_ok hz] at HC
  have hb : ∀ k, k < z.tk.length → 0 ≤ szs z.tk k ∧ 0 ≤ (rgAt z.tk k).t - (rgAt z.tk k).f ∧ szs z.tk k + ((rgAt z.tk k).t - (rgAt z.tk k).f) ≤ 1125899906842624 ∧ (rgAt z.tk k).t - (rgAt z.tk k).f ≤ 1125899906842624 := fun k hk => by
    have h1 := szs_le hz k (by omega)
    have h2 := szs_le hz (k + 1) (by omega)
    have h3 : szs z.tk (k + 1) = szs z.tk k + ((rgAt z.tk k).t - (rgAt z.tk k).f) := rfl
    have h4 := endK_le hz (k := k + 1) (by omega)
    have h5 := hz.t k hk
    have h6 := hz.g
    have h7 := hz.r
    omega
  have HBD := Lib.hid hb
  have hl := hz.nt
  obtain ⟨l, hl'⟩ : ∃ l, z.tk = l := ⟨_, rfl⟩
  rw [hl'] at h hl HBD ⊢
  clear hb hl' hz hf hr
  obtain ⟨A, c, rfl, _, hca, hR⟩ := id h
  have HR := Lib.hid hR
  clear h hR
  go_enter Try.func120, Try.ntmps120
  go_wp2_with fail
  refine HC.out.mono ?_
  rintro e w1 ⟨rfl, hb1⟩
  have HB1 := Lib.hid hb1
  clear hb1 HC
  go_wp2_with fail
  go_loopw [6, 19] (fun s6 s wr => ∃ k : Nat, k ≤ l.length ∧ s = .int .i64 k ∧ s6 = .int .u64 (szs l k) ∧ Below w.heap.size w wr) (fun _ s _ => l.length - (intOf s).toNat)
  case atStart => exact ⟨0, by omega, rfl, rfl, HB1.out⟩
  case round =>
    obtain ⟨k, hk, rfl, rfl, hB⟩ := hrel
    obtain ⟨wy, rfl⟩ : ∃ wy : World, wy = wr := ⟨_, rfl⟩
    have HB := Lib.hid hB
    clear hB
    by_cases hlt : k < l.length
    · obtain ⟨bt, ot, rfl, hbt, p0, p1⟩ := reads_rg HR.out rfl (rgAt_get hlt)
      have d0 := (HB.out.cell (p := ⟨bt, ot + k * 2, none⟩) hbt).trans p0
      have d1 := (HB.out.cell (p := ⟨bt, ot + k * 2 + 1, none⟩) hbt).trans p1
      have hty : bt < wy.heap.size := by have := HB.out.size; omega
      have hne : ¬ bt = wy.heap.size := by omega
      obtain ⟨e1, e2, e3, e4⟩ := HBD.out k hlt
      have HS : Hid (szs l (k + 1) = szs l k + ((rgAt l k).t - (rgAt l k).f)) := Lib.hid rfl
      obtain ⟨x, hx⟩ : ∃ x, rgAt l k = x := ⟨_, rfl⟩
      obtain ⟨s, hs⟩ : ∃ s, szs l k = s := ⟨_, rfl⟩
      rw [hx] at d0 d1 HS e2 e3 e4
      rw [hs] at HS e1 e3 ⊢
      have W1 : IntKind.u64.wrap (x.t - x.f) = x.t - x.f := IntWalk.u64_in _ (by omega)
      have W2 : IntKind.u64.wrap (s + (x.t - x.f)) = s + (x.t - x.f) := IntWalk.u64_in _ (by omega)
      have hki : (k : Int) < l.length := by omega
      have hk0 : (0 : Int) ≤ k := by omega
      clear hx hs p0 p1
      go_wp2_with fail
      go_roundw
      case rel => exact ⟨k + 1, by omega, by go_num, by rw [HS.out], bal HB.out _⟩
      case measure => simp [intOf]; omega
    · obtain rfl : k = l.length := by omega
      go_wp2_with fail
      go_ret2
      exact ⟨rfl, HB.out⟩
end Go.Proofs.Ytfgkkflbpfocjaa

