/- Contracts: the reference's levels after filling up. -/
import Derived.Test.YtlpdebbedoibiaaQ2
namespace Go.Proofs.Ytlpdebbedoibiaa
open Go.RowKit
set_option linter.unusedVariables false
set_option linter.unusedSimpArgs false

theorem own_store1 {w : World} {base g n cap : Nat} {e : TypeId} {L : List Int} (h : w.ownsRow base e 1 (.slice (some ⟨g, 0, none⟩) n cap) n (fl U1 L)) (i : Nat) {x y : Int} (hx : L[i]? = some x) :
    (w.setCell ⟨g, i, none⟩ (.int .u64 y)).ownsRow base e 1 (.slice (some ⟨g, 0, none⟩) n cap) n (fl U1 (L.set i y)) := by
  have := own_store u1 h i 0 (y := y) (u := .int .u64 y) hx (by decide) rfl
  rwa [Nat.mul_one, Nat.add_zero] at this
theorem own_cell1 {w : World} {base g n cap : Nat} {e : TypeId} {L : List Int} (h : w.ownsRow base e 1 (.slice (some ⟨g, 0, none⟩) n cap) n (fl U1 L)) (i : Nat) {x : Int} (hx : L[i]? = some x) : w.cell? ⟨g, i, none⟩ = some (.int .u64 x) := by
  have := own_cell u1 h i 0 hx (by decide)
  rwa [Nat.mul_one, Nat.add_zero] at this

def FilledPost (L : List Int) (W A : Int) (w : World) (e : Ending) (w' : World) : Prop := ∃ v0, IsUp L W A v0 ∧ RetU (bump W v0 L (A - needs L v0)) w e w'
/-- the search for the level -/
def UpMid (L : List Int) (W A a b : Int) : Prop := 0 ≤ a ∧ a ≤ b ∧ b ≤ W ∧ needs L a ≤ A ∧ (b = W ∨ A < needs L (b + 1))
/-- behind i levels -/
def BumpMid (L : List Int) (W v od : Int) (i : Nat) (P : List Int) (o : Int) : Prop := P.length = i ∧ P ++ bump W v (L.drop i) o = bump W v L od ∧ 0 ≤ o ∧ o ≤ od
theorem BumpMid.next {L : List Int} {W v od : Int} {i : Nat} {P : List Int} {o x : Int} (h : BumpMid L W v od i P o) (hx : L[i]? = some x) : if x ≤ v ∧ v < W ∧ 0 < o then BumpMid L W v od (i + 1) (P ++ [v + 1]) (o - 1) else BumpMid L W v od (i + 1) (P ++ [mx x v]) o := by
  obtain ⟨h1, h2, h3, h4⟩ := h
  obtain ⟨hi, rfl⟩ := List.getElem?_eq_some_iff.1 hx
  rw [List.drop_eq_getElem_cons hi] at h2
  by_cases hc : L[i] ≤ v ∧ v < W ∧ 0 < o
  · rw [if_pos hc]
    rw [bump, if_pos hc] at h2
    exact ⟨by simp [h1], by rw [← h2, List.append_assoc]; rfl, by omega, by omega⟩
  · rw [if_neg hc]
    rw [bump, if_neg hc] at h2
    exact ⟨by simp [h1], by rw [← h2, List.append_assoc]; rfl, h3, h4⟩

set_option maxRecDepth 100000 in
set_option maxHeartbeats 8000000 in
theorem filled_any (L : List Int) (hl : L.length ≤ 16) (hL : LevOk L) (W A : Int) (hW0 : 0 ≤ W) (hW1 : W ≤ 1125899906842624) (hA0 : 0 ≤ A) (hA1 : A ≤ 1125899906842624) (v : Value) (w : World) (hS : NuAt w v L) :
    Calls Try.prog 41 #[v, .int .u64 W, .int .u64 A] w (FilledPost L W A w) := by
  have hz0 : needs L 0 ≤ A := by rw [needs_zero L (fun x hx => (hL x hx).1)]; exact hA0
  obtain ⟨Ad, c, rfl, hc1, hc2, _⟩ := id hS
  unfold maxLen at hc2
  have HS := Lib.hid hS
  have HL := Lib.hid hL
  have HZ := Lib.hid hz0
  clear hS hL hz0
  go_enter Try.func41, Try.ntmps41
  go_wp2_with fail
  go_loopw [7, 8] (fun p q wr => ∃ a b : Int, UpMid L W A a b ∧ p = .int .u64 a ∧ q = .int .u64 b ∧ Below w.heap.size w wr) (fun p q _ => (intOf q - intOf p).toNat)
  case atStart => exact ⟨0, W, ⟨Int.le_refl _, hW0, Int.le_refl _, HZ.out, .inl rfl⟩, rfl, rfl, Below.refl _ _⟩
  case round =>
    obtain ⟨a, b, hM, rfl, rfl, hB⟩ := hrel
    have HM := Lib.hid hM
    obtain ⟨ha0, hab, hbW, _, _⟩ := hM
    by_cases hlt : a < b
    · have hm0 : a < a + (b - a + 1) / 2 := by omega
      have hm1 : a + (b - a + 1) / 2 ≤ b := by omega
      obtain ⟨m, hm⟩ : ∃ m, a + (b - a + 1) / 2 = m := ⟨_, rfl⟩
      rw [hm] at hm0 hm1
      go_wp2_with fail
      refine (missing_any L hl HL.out m (by omega) (by omega) _ wr (HS.out.below hB)).mono ?_
      rintro e w1 ⟨rfl, hb1⟩
      have hn0 := needs_nonneg L m
      have hB1 := bnext hB hb1
      have HMm := Lib.hid hm
      clear hm
      by_cases hq : needs L m ≤ A
      · have HQ := Lib.hid hq
        obtain ⟨nn, hnn⟩ : ∃ nn, needs L m = nn := ⟨_, rfl⟩
        rw [hnn] at hq hn0 ⊢
        clear hnn
        go_wp2_with fail
        go_roundw
        case rel => exact ⟨m, b, ⟨by omega, by omega, hbW, HQ.out, HM.out.2.2.2.2⟩, rfl, rfl, hB1⟩
        case measure => simp [intOf]; omega
      · have HQ : Hid (A < needs L (m - 1 + 1)) := hidI (by rw [Int.sub_add_cancel]; omega)
        obtain ⟨nn, hnn⟩ : ∃ nn, needs L m = nn := ⟨_, rfl⟩
        rw [hnn] at hq hn0 ⊢
        clear hnn
        go_wp2_with fail
        go_roundw
        case rel => exact ⟨a, m - 1, ⟨ha0, by omega, by omega, HM.out.2.2.2.1, .inr HQ.out⟩, rfl, by go_num, hB1⟩
        case measure => simp [intOf]; omega
    · obtain rfl : a = b := by omega
      have HU : Hid (IsUp L W A a) := hidI ⟨ha0, hbW, HM.out.2.2.2.1, HM.out.2.2.2.2⟩
      have hna := HM.out.2.2.2.1
      have hn0 := needs_nonneg L a
      clear HM
      go_wp2_with fail
      refine (missing_any L hl HL.out a ha0 (by omega) _ wr (HS.out.below hB)).mono ?_
      rintro e w1 ⟨rfl, hb1⟩
      have hB1 := bnext hB hb1
      obtain ⟨od, hod⟩ : ∃ od, A - needs L a = od := ⟨_, rfl⟩
      have hod0 : 0 ≤ od ∧ od ≤ 1125899906842624 := by omega
      obtain ⟨hod0, hod1⟩ := hod0
      have HOD := Lib.hid hod
      obtain ⟨nn, hnn⟩ : ∃ nn, needs L a = nn := ⟨_, rfl⟩
      rw [hnn] at hna hn0 hod ⊢
      clear hB hb1 hnn
      go_wp2_with fail
      go_loopw [10, 11, 12] (fun s p q wr => ∃ (i : Nat) (P : List Int) (o : Int), i ≤ L.length ∧ q = .int .i64 i ∧ s = .int .u64 o ∧ BumpMid L W a od i P o ∧ OwnU w wr p P ∧ Below w.heap.size w wr) (fun _ _ q _ => L.length - (intOf q).toNat)
      case atStart => exact ⟨0, [], od, by omega, rfl, rfl, ⟨rfl, rfl, hod0, Int.le_refl _⟩, World.ownsRow_nil _ _ _ _, hB1⟩
      case round =>
        clear hB1 hod
        obtain ⟨i, P, o, hi, rfl, rfl, hM, hO, hB⟩ := hrel
        have ho0 := hM.2.2.1
        have ho1 := hM.2.2.2
        have hPl := hM.1
        obtain ⟨A1, c1, rfl⟩ := own_form hO
        have hz := hB.size
        have HO := Lib.hid hO
        have HM := Lib.hid hM
        clear hO hM
        have HPL := Lib.hid hPl
        clear hPl
        by_cases hlt2 : i < L.length
        · obtain ⟨x, hx⟩ : ∃ x, L[i]? = some x := ⟨_, List.getElem?_eq_getElem hlt2⟩
          obtain ⟨g, f, rfl, hg, d0⟩ := (HS.out.below hB).get hx
          obtain ⟨hx0, hx1⟩ := HL.out x (List.mem_of_getElem? hx)
          have HN := hidI (HM.out.next hx)
          have hii : (i : Int) < L.length := by omega
          have hpb : P.length ≤ 16 := by have := HPL.out; omega
          clear hx
          by_cases h1 : x ≤ a
          · have hmx : (if x < a then a else x) = a := by split <;> omega
            have HX : Hid (mx x a = a) := hmx
            by_cases h2 : a < W
            · by_cases h3 : 0 < o
              · have HN2 : Hid (BumpMid L W a od (i + 1) (P ++ [a + 1]) (o - 1)) := hidI (by have := HN.out; rwa [if_pos ⟨h1, h2, h3⟩] at this)
                go_wp2_with (first
                  | (at_builtin; refine wpList_app1 (f := U1) rfl _ _ 61 rfl w.heap.size 23 1 8 infoU rfl (by decide) Try.underlying61 u1 u1_one wr w w.heap.size (a + 1) P _ (by rfl) (by rfl) HO.out hB (Nat.le_refl _) hz (by omega) (by unfold maxLen; omega) ?_; intro A2 c2 w2 hown hB2 _; have HO2 := Lib.hid hown; clear hown))
                go_roundw
                case rel => exact ⟨i + 1, _, o - 1, by omega, by go_num, by go_num, HN2.out, HO2.out, hB2⟩
                case measure => simp [intOf]; omega
              · have HN2 : Hid (BumpMid L W a od (i + 1) (P ++ [a]) o) := hidI (by have := HN.out; rwa [if_neg (fun h => h3 h.2.2), HX.out] at this)
                go_wp2_with (first
                  | (at_builtin; refine wpList_app1 (f := U1) rfl _ _ 61 rfl w.heap.size 23 1 8 infoU rfl (by decide) Try.underlying61 u1 u1_one wr w w.heap.size a P _ (by rfl) (by rfl) HO.out hB (Nat.le_refl _) hz (by omega) (by unfold maxLen; omega) ?_; intro A2 c2 w2 hown hB2 _; have HO2 := Lib.hid hown; clear hown))
                go_roundw
                case rel => exact ⟨i + 1, _, o, by omega, by go_num, rfl, HN2.out, HO2.out, hB2⟩
                case measure => simp [intOf]; omega
            · have HN2 : Hid (BumpMid L W a od (i + 1) (P ++ [a]) o) := hidI (by have := HN.out; rwa [if_neg (fun h => h2 h.2.1), HX.out] at this)
              go_wp2_with (first
                | (at_builtin; refine wpList_app1 (f := U1) rfl _ _ 61 rfl w.heap.size 23 1 8 infoU rfl (by decide) Try.underlying61 u1 u1_one wr w w.heap.size a P _ (by rfl) (by rfl) HO.out hB (Nat.le_refl _) hz (by omega) (by unfold maxLen; omega) ?_; intro A2 c2 w2 hown hB2 _; have HO2 := Lib.hid hown; clear hown))
              go_roundw
              case rel => exact ⟨i + 1, _, o, by omega, by go_num, rfl, HN2.out, HO2.out, hB2⟩
              case measure => simp [intOf]; omega
          · have hmx : (if x < a then a else x) = x := by split <;> omega
            have HX : Hid (mx x a = x) := hmx
            have t1 : (x == a) = false := by rw [beq_eq_false_iff_ne]; omega
            have HN2 : Hid (BumpMid L W a od (i + 1) (P ++ [x]) o) := hidI (by have := HN.out; rwa [if_neg (fun h => h1 h.1), HX.out] at this)
            go_wp2_with (first
              | (at_builtin; refine wpList_app1 (f := U1) rfl _ _ 61 rfl w.heap.size 23 1 8 infoU rfl (by decide) Try.underlying61 u1 u1_one wr w w.heap.size x P _ (by rfl) (by rfl) HO.out hB (Nat.le_refl _) hz (by omega) (by unfold maxLen; omega) ?_; intro A2 c2 w2 hown hB2 _; have HO2 := Lib.hid hown; clear hown))
            go_roundw
            case rel => exact ⟨i + 1, _, o, by omega, by go_num, rfl, HN2.out, HO2.out, hB2⟩
            case measure => simp [intOf]; omega
        · obtain rfl : i = L.length := by omega
          have HE : Hid (P = bump W a L od) := hidI (by have := HM.out.2.1; rw [List.drop_of_length_le (Nat.le_refl _)] at this; simpa [bump] using this)
          have HN : Hid (NuAt wr (.slice A1 P.length c1) P) := hidI HO.out.at
          rw [HE.out] at HN ⊢
          clear HO HM
          go_wp2_with fail
          go_ret
          exact ⟨a, HU.out, A1, c1, by rw [HOD.out]; rfl, by rw [HOD.out]; exact HN.out, hB⟩
end Go.Proofs.Ytlpdebbedoibiaa
