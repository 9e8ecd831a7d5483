/- Contracts: the reference's levels after letting down. -/
import Derived.Test.YtlpdebbedoibiaaQ3
namespace Go.Proofs.Ytlpdebbedoibiaa
open Go.RowKit
set_option linter.unusedVariables false
set_option linter.unusedSimpArgs false

def LoweredPost (L : List Int) (A : Int) (w : World) (e : Ending) (w' : World) : Prop := ∃ v0, IsDown L 1125899906842624 A v0 ∧ RetU (low v0 L (A - gives L v0)) w e w'
def DnMid (L : List Int) (A a b : Int) : Prop := 0 ≤ a ∧ a ≤ b ∧ b ≤ 1125899906842624 ∧ gives L b ≤ A ∧ (a = 0 ∨ A < gives L (a - 1))
/-- behind k levels, from the last one on -/
def DipMid (R : List Int) (v od : Int) (k : Nat) (T : List Int) (o : Int) : Prop := ∃ P, P.length = k ∧ T = P ++ List.replicate (R.length - k) 0 ∧ P ++ dip v (R.drop k) o = dip v R od ∧ 0 ≤ o ∧ o ≤ od
theorem DipMid.len {R : List Int} {v od : Int} {k : Nat} {T : List Int} {o : Int} (h : DipMid R v od k T o) (hk : k ≤ R.length) : T.length = R.length := by
  obtain ⟨P, hP, rfl, _⟩ := h
  rw [List.length_append, List.length_replicate]; omega
theorem DipMid.at {R : List Int} {v od : Int} {k : Nat} {T : List Int} {o : Int} (h : DipMid R v od k T o) (hk : k < R.length) : T[k]? = some 0 := by
  obtain ⟨P, hP, rfl, _⟩ := h
  rw [List.getElem?_append_right (by omega), hP, Nat.sub_self, List.getElem?_replicate, if_pos (by omega)]
theorem DipMid.next {R : List Int} {v od : Int} {k : Nat} {T : List Int} {o x : Int} (h : DipMid R v od k T o) (hx : R[k]? = some x) : if v ≤ x ∧ 0 < v ∧ 0 < o then DipMid R v od (k + 1) (T.set k (v - 1)) (o - 1) else DipMid R v od (k + 1) (T.set k (mn x v)) o := by
  obtain ⟨P, h1, rfl, h2, h3, h4⟩ := h
  obtain ⟨hi, rfl⟩ := List.getElem?_eq_some_iff.1 hx
  rw [List.drop_eq_getElem_cons hi] at h2
  have hset : ∀ y : Int, (P ++ List.replicate (R.length - k) 0).set k y = (P ++ [y]) ++ List.replicate (R.length - (k + 1)) 0 := by
    intro y
    rw [List.set_append_right _ _ (by omega), h1, Nat.sub_self, show R.length - k = (R.length - (k + 1)) + 1 by omega, List.replicate_succ, List.set_cons_zero, List.append_assoc]
    rfl
  by_cases hc : v ≤ R[k] ∧ 0 < v ∧ 0 < o
  · rw [if_pos hc]
    rw [dip, if_pos hc] at h2
    exact ⟨P ++ [v - 1], by simp [h1], hset _, by rw [← h2, List.append_assoc]; rfl, by omega, by omega⟩
  · rw [if_neg hc]
    rw [dip, if_neg hc] at h2
    exact ⟨P ++ [mn R[k] v], by simp [h1], hset _, by rw [← h2, List.append_assoc]; rfl, h3, h4⟩
theorem DipMid.fin {R : List Int} {v od : Int} {T : List Int} {o : Int} (h : DipMid R v od R.length T o) : T = dip v R od := by
  obtain ⟨P, h1, rfl, h2, h3, h4⟩ := h
  rw [← h2, List.drop_of_length_le (Nat.le_refl _), Nat.sub_self]
  rfl

set_option maxRecDepth 100000 in
set_option maxHeartbeats 8000000 in
theorem lowered_any (L : List Int) (hl : L.length ≤ 16) (hL : LevOk L) (A : Int) (hA0 : 0 ≤ A) (hA1 : A ≤ 1125899906842624) (v : Value) (w : World) (hS : NuAt w v L) :
    Calls Try.prog 42 #[v, .int .u64 A] w (LoweredPost L A w) := by
  have hz0 : gives L 1125899906842624 ≤ A := by rw [gives_top L _ (fun x hx => (hL x hx).2)]; exact hA0
  obtain ⟨Ad, c, rfl, hc1, hc2, _⟩ := id hS
  unfold maxLen at hc2
  have HS := Lib.hid hS
  have HL := Lib.hid hL
  have HZ := Lib.hid hz0
  clear hS hL hz0
  go_enter Try.func42, Try.ntmps42
  go_wp2_with fail
  go_loopw [5, 6] (fun p q wr => ∃ a b : Int, DnMid L A a b ∧ p = .int .u64 a ∧ q = .int .u64 b ∧ Below w.heap.size w wr) (fun p q _ => (intOf q - intOf p).toNat)
  case atStart => exact ⟨0, 1125899906842624, ⟨Int.le_refl _, by decide, Int.le_refl _, HZ.out, .inl rfl⟩, rfl, rfl, Below.refl _ _⟩
  case round =>
    obtain ⟨a, b, hM, rfl, rfl, hB⟩ := hrel
    have HM := Lib.hid hM
    obtain ⟨ha0, hab, hbW, _, _⟩ := hM
    by_cases hlt : a < b
    · have hm0 : a ≤ a + (b - a) / 2 := by omega
      have hm1 : a + (b - a) / 2 < b := by omega
      obtain ⟨m, hm⟩ : ∃ m, a + (b - a) / 2 = m := ⟨_, rfl⟩
      rw [hm] at hm0 hm1
      go_wp2_with fail
      refine (above_any L hl HL.out m (by omega) (by omega) _ wr (HS.out.below hB)).mono ?_
      rintro e w1 ⟨rfl, hb1⟩
      have hn0 := gives_nonneg L m
      have hB1 := bnext hB hb1
      have HMm := Lib.hid hm
      clear hm
      by_cases hq : gives L m ≤ A
      · have HQ := Lib.hid hq
        obtain ⟨nn, hnn⟩ : ∃ nn, gives L m = nn := ⟨_, rfl⟩
        rw [hnn] at hq hn0 ⊢
        clear hnn
        go_wp2_with fail
        go_roundw
        case rel => exact ⟨a, m, ⟨ha0, by omega, by omega, HQ.out, HM.out.2.2.2.2⟩, rfl, rfl, hB1⟩
        case measure => simp [intOf]; omega
      · have HQ : Hid (A < gives L (m + 1 - 1)) := hidI (by rw [Int.add_sub_cancel]; omega)
        obtain ⟨nn, hnn⟩ : ∃ nn, gives L m = nn := ⟨_, rfl⟩
        rw [hnn] at hq hn0 ⊢
        clear hnn
        go_wp2_with fail
        go_roundw
        case rel => exact ⟨m + 1, b, ⟨by omega, by omega, hbW, HM.out.2.2.2.1, .inr HQ.out⟩, by go_num, rfl, hB1⟩
        case measure => simp [intOf]; omega
    · obtain rfl : a = b := by omega
      have HU : Hid (IsDown L 1125899906842624 A a) := hidI ⟨ha0, hbW, HM.out.2.2.2.1, HM.out.2.2.2.2⟩
      have hna := HM.out.2.2.2.1
      have hn0 := gives_nonneg L a
      clear HM
      go_wp2_with fail
      refine (above_any L hl HL.out a ha0 (by omega) _ wr (HS.out.below hB)).mono ?_
      rintro e w1 ⟨rfl, hb1⟩
      have hB1 := bnext hB hb1
      obtain ⟨od, hod⟩ : ∃ od, A - gives L a = od := ⟨_, rfl⟩
      have hod0 : 0 ≤ od ∧ od ≤ 1125899906842624 := by omega
      obtain ⟨hod0, hod1⟩ := hod0
      have HOD := Lib.hid hod
      obtain ⟨nn, hnn⟩ : ∃ nn, gives L a = nn := ⟨_, rfl⟩
      rw [hnn] at hna hn0 hod ⊢
      have hz := hB1.size
      obtain ⟨i0, hi', hz0', hz1', hz2'⟩ := info_parts infoU
      clear hB hb1 hnn
      go_wp2_with (first
        | (at_make; refine wpList_make_full w1 rfl _ _ 61 rfl w.heap.size 23 i0 (.int .u64 0) 1 Try.underlying61 hi' hz0' hz1' .i64 .i64 _ _ L.length (by rfl) (by rfl) rfl rfl (by rw [hz2']; omega) (by unfold maxLen; omega) hz ?_; intro w2 hown hgrow; have hO : Hid (w2.ownsRow w.heap.size 23 1 (.slice (some ⟨w1.heap.size, 0, none⟩) L.length L.length) L.length (fl U1 (List.replicate L.length 0))) := hidI (by have q := made_fl u1 (by decide) (0 : Int) L.length; rw [← q]; exact hown); have hG : w1.heap.size < w2.heap.size := (hown.lt w1.heap.size rfl).2; have hB2 : Below w.heap.size w w2 := hB1.grown hgrow hz (fun _ h => by cases h); clear hown hgrow))
      obtain ⟨G, hGe⟩ : ∃ G, w1.heap.size = G := ⟨_, rfl⟩
      have hwG : w.heap.size ≤ G := by omega
      rw [hGe] at hO hG ⊢
      clear hB1 hGe hz hod
      go_loopw [8, 10] (fun s q wr => ∃ (k : Nat) (T : List Int) (o : Int), k ≤ L.length ∧ q = .int .i64 ((L.length : Int) - 1 - k) ∧ s = .int .u64 o ∧ T.length = L.length ∧ DipMid L.reverse a od k T.reverse o ∧ wr.ownsRow w.heap.size 23 1 (.slice (some ⟨G, 0, none⟩) L.length L.length) L.length (fl U1 T) ∧ G < wr.heap.size ∧ Below w.heap.size w wr) (fun _ q _ => (intOf q + 1).toNat)
      case atStart => exact ⟨0, List.replicate L.length 0, od, by omega, by go_num, rfl, by simp, ⟨[], rfl, by rw [List.reverse_replicate]; simp, rfl, hod0, Int.le_refl _⟩, hO.out, hG, hB2⟩
      case round =>
        clear hB2 hO hG
        obtain ⟨k, T, o, hk, rfl, rfl, hTl, hM, hO, hG, hB⟩ := hrel
        have ho0 := hM.choose_spec.2.2.2.1
        have ho1 := hM.choose_spec.2.2.2.2
        have HTL := Lib.hid hTl
        clear hTl
        by_cases hkl : k < L.length
        · obtain ⟨m, hm⟩ : ∃ m, m + k + 1 = L.length := ⟨L.length - 1 - k, by omega⟩
          obtain ⟨x, hx⟩ : ∃ x, L[m]? = some x := ⟨_, List.getElem?_eq_getElem (by omega)⟩
          have hxr : L.reverse[k]? = some x := by rw [List.getElem?_reverse hkl, show L.length - 1 - k = m by omega]; exact hx
          rw [show (L.length : Int) - 1 - (k : Int) = (m : Int) by omega]
          have hTm : T[m]? = some 0 := by
            have h1 := hM.at (by simpa using hkl)
            rw [List.getElem?_reverse (by rw [HTL.out]; exact hkl), HTL.out, show L.length - 1 - k = m by omega] at h1
            exact h1
          obtain ⟨g, f, rfl, hg, d0⟩ := (HS.out.below hB).get hx
          obtain ⟨hx0, hx1⟩ := HL.out x (List.mem_of_getElem? hx)
          have hnx := hM.next hxr
          rw [← set_rev T m k _ (by rw [HTL.out]; exact hm), ← set_rev T m k _ (by rw [HTL.out]; exact hm)] at hnx
          have HN := Lib.hid hnx
          have hml : (m : Int) < L.length := by omega
          have hm0 : (0 : Int) ≤ m := by omega
          have e0 := own_cell1 hO m hTm
          have f0 := hO.frozenAt m
          have HM' := Lib.hid hm
          have hmL : m < L.length := by omega
          have P1 := fun y => own_store1 hO m (y := y) hTm
          have P2 := fun y z => own_store1 (P1 y) m (y := z) (List.getElem?_set_self (by rw [HTL.out]; exact hmL))
          have HP1 := Lib.hid P1
          have HP2 : Hid (∀ y z, ((wr.setCell ⟨G, m, none⟩ (.int .u64 y)).setCell ⟨G, m, none⟩ (.int .u64 z)).ownsRow w.heap.size 23 1 (.slice (some ⟨G, 0, none⟩) L.length L.length) L.length (fl U1 (T.set m z))) := hidI (fun y z => by have := P2 y z; rwa [List.set_set] at this)
          clear hx hxr hM hnx hO hTm P1 P2 hm
          have HI : Hid ((L.length : Int) - 1 - ((k + 1 : Nat) : Int) = (m : Int) - 1) := hidI (by have := HM'.out; omega)
          by_cases h1 : a ≤ x
          · have hmx : (if a < x then a else x) = a := by split <;> omega
            have HX : Hid (mn x a = a) := hmx
            by_cases h2 : 0 < a
            · by_cases h3 : 0 < o
              · have HN2 : Hid (DipMid L.reverse a od (k + 1) (T.set m (a - 1)).reverse (o - 1)) := hidI (by have := HN.out; rwa [if_pos ⟨h1, h2, h3⟩] at this)
                go_wp2_with fail
                try (go_region; all_goals go_wp2_with fail)
                all_goals go_roundw
                case rel => exact ⟨k + 1, _, o - 1, by omega, by rw [HI.out], by go_num, by rw [List.length_set]; exact HTL.out, HN2.out, by first | exact HP2.out a (a - 1) | exact HP1.out (a - 1), by simpa using hG, (by repeat (first | with_reducible exact Below.refl _ _ | with_reducible refine Below.drew ?_ | with_reducible refine below_drewN ?_ _ | with_reducible refine bal ?_ _ | with_reducible refine bset ?_ (by first | (simp; done) | (simp; omega)) _ | with_reducible refine bnext ?_ (by assumption) | with_reducible assumption))⟩
                case measure => simp [intOf] <;> omega
              · have HN2 : Hid (DipMid L.reverse a od (k + 1) (T.set m a).reverse o) := hidI (by have := HN.out; rwa [if_neg (fun h => h3 h.2.2), HX.out] at this)
                go_wp2_with fail
                go_roundw
                case rel => exact ⟨k + 1, _, o, by omega, by rw [HI.out], rfl, by rw [List.length_set]; exact HTL.out, HN2.out, HP1.out a, by simpa using hG, (by repeat (first | with_reducible exact Below.refl _ _ | with_reducible refine Below.drew ?_ | with_reducible refine below_drewN ?_ _ | with_reducible refine bal ?_ _ | with_reducible refine bset ?_ (by first | (simp; done) | (simp; omega)) _ | with_reducible refine bnext ?_ (by assumption) | with_reducible assumption))⟩
                case measure => simp [intOf] <;> omega
            · have HN2 : Hid (DipMid L.reverse a od (k + 1) (T.set m a).reverse o) := hidI (by have := HN.out; rwa [if_neg (fun h => h2 h.2.1), HX.out] at this)
              go_wp2_with fail
              go_roundw
              case rel => exact ⟨k + 1, _, o, by omega, by rw [HI.out], rfl, by rw [List.length_set]; exact HTL.out, HN2.out, HP1.out a, by simpa using hG, (by repeat (first | with_reducible exact Below.refl _ _ | with_reducible refine Below.drew ?_ | with_reducible refine below_drewN ?_ _ | with_reducible refine bal ?_ _ | with_reducible refine bset ?_ (by first | (simp; done) | (simp; omega)) _ | with_reducible refine bnext ?_ (by assumption) | with_reducible assumption))⟩
              case measure => simp [intOf] <;> omega
          · have hmx : (if a < x then a else x) = x := by split <;> omega
            have HX : Hid (mn x a = x) := hmx
            have t1 : (x == a) = false := by rw [beq_eq_false_iff_ne]; omega
            have HN2 : Hid (DipMid L.reverse a od (k + 1) (T.set m x).reverse o) := hidI (by have := HN.out; rwa [if_neg (fun h => h1 h.1), HX.out] at this)
            go_wp2_with fail
            go_roundw
            case rel => exact ⟨k + 1, _, o, by omega, by rw [HI.out], rfl, by rw [List.length_set]; exact HTL.out, HN2.out, HP1.out x, by simpa using hG, (by repeat (first | with_reducible exact Below.refl _ _ | with_reducible refine Below.drew ?_ | with_reducible refine below_drewN ?_ _ | with_reducible refine bal ?_ _ | with_reducible refine bset ?_ (by first | (simp; done) | (simp; omega)) _ | with_reducible refine bnext ?_ (by assumption) | with_reducible assumption))⟩
            case measure => simp [intOf] <;> omega
        · obtain rfl : k = L.length := by omega
          rw [show (L.length : Int) - 1 - (L.length : Int) = -1 by omega]
          have HE : Hid (T = low a L od) := hidI (by have h := DipMid.fin (R := L.reverse) (by rw [List.length_reverse]; exact hM); unfold low; rw [← h, List.reverse_reverse])
          have HN : Hid (NuAt wr (.slice (some ⟨G, 0, none⟩) L.length L.length) T) := hidI (by have q := SlAt.own hO; rw [fl_u1] at q; unfold NuAt; rw [HTL.out]; exact q)
          have HEL : Hid (L.length = (low a L od).length) := (low_len a L od).symm
          rw [HE.out] at HN
          clear hO hM
          go_wp2_with fail
          go_ret
          exact ⟨a, HU.out, some ⟨G, 0, none⟩, L.length, by rw [HOD.out, ← HEL.out]; rfl, by rw [HOD.out, ← HEL.out]; exact HN.out, hB⟩
end Go.Proofs.Ytlpdebbedoibiaa
