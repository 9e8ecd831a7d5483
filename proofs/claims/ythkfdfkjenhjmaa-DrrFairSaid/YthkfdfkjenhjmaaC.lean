/- Contracts: the errors of heads. -/
import Derived.Test.YthkfdfkjenhjmaaB
namespace Go.Proofs.Ythkfdfkjenhjmaa
open Go.RowKit
set_option linter.unusedVariables false
set_option linter.unusedSimpArgs false

def mxk (H : List Int) : Nat → Int
  | 0 => at0 H 0
  | k + 1 => if mxk H k < at0 H (k + 1) then at0 H (k + 1) else mxk H k

set_option maxRecDepth 100000 in
set_option maxHeartbeats 2000000 in
theorem Max_any (H : List Int) (h3 : H.length = 3) (v : Value) (w : World) (hS : IntAt w v H) :
    Calls Try.prog 46 #[v] w (RetI (mxk H 2) w) := by
  obtain ⟨A, c, rfl, hc1, hc2, hR⟩ := hS
  unfold maxLen at hc2
  have HR := Lib.hid hR
  have H3 := Lib.hid h3
  obtain ⟨b, o, rfl, hb, d0⟩ := reads_at hR (ints_get (at0_get (l := H) (i := 0) (by omega)))
  have hl : (1 : Int) ≤ H.length := by omega
  have hl0 : (0 : Int) < H.length := by omega
  have hln : 0 < H.length := by omega
  rw [Nat.add_zero] at d0
  clear hR h3
  go_enter Try.func46, Try.ntmps46
  go_wp2_with fail
  go_loop [3, 4] (fun m a => ∃ k : Nat, k < 3 ∧ a = .int .i64 ((k : Int) + 1) ∧ m = .int .i64 (mxk H k)) (fun _ a => 3 - (intOf a).toNat)
  case atStart => exact ⟨0, by omega, rfl, rfl⟩
  case round =>
    obtain ⟨k, hk, rfl, rfl⟩ := hrel
    by_cases hlt : k < 2
    · have hkl : k + 1 < H.length := by rw [H3.out]; omega
      obtain ⟨b', o', e', hb', d1⟩ := reads_at HR.out (ints_get (at0_get hkl))
      cases e'
      have hi : (k : Int) + 1 < H.length := by omega
      have hmx : mxk H (k + 1) = if mxk H k < at0 H (k + 1) then at0 H (k + 1) else mxk H k := rfl
      have HM := Lib.hid hmx
      clear hmx
      go_wp2_with fail
      go_round
      case rel => exact ⟨k + 1, by omega, by go_num, by rw [HM.out]⟩
      case measure => simp [intOf]; omega
    · obtain rfl : k = 2 := by omega
      have h33 := H3.out
      have hi : ¬ (((2 : Nat) : Int) + 1 < H.length) := by omega
      rw [show (((2 : Nat) : Int) + 1) = 3 from rfl] at *
      clear h33
      go_wp2_with fail
      go_ret
      exact ⟨rfl, Below.refl _ _⟩

theorem mxk_zero {H : List Int} (h : ∀ x ∈ H, 0 ≤ x) (h3 : H.length = 3) : mxk H 2 = 0 ↔ (at0 H 0 = 0 ∧ at0 H 1 = 0 ∧ at0 H 2 = 0) := by
  have a := h _ (at0_mem (l := H) (i := 0) (by omega))
  have b := h _ (at0_mem (l := H) (i := 1) (by omega))
  have c := h _ (at0_mem (l := H) (i := 2) (by omega))
  rw [show at0 H 0 = mxk H 0 from rfl] at *
  have e1 : mxk H 1 = if mxk H 0 < at0 H 1 then at0 H 1 else mxk H 0 := rfl
  have e2 : mxk H 2 = if mxk H 1 < at0 H 2 then at0 H 2 else mxk H 1 := rfl
  split at e1 <;> split at e2 <;> omega
theorem hb_all {H : List Int} (h : H.any hbad = false) : ∀ x ∈ H, 0 ≤ x ∧ x ≤ 1200 := by
  intro x hx
  have : ¬ hbad x = true := fun hb => by
    have := List.any_eq_true.2 ⟨x, hx, hb⟩
    rw [h] at this
    cases this
  unfold hbad at this
  simp at this
  omega
theorem hdE_len {H : List Int} (h : H.length ≠ 3) : hdE H = 3 := if_pos h
theorem hdE_bad {H : List Int} (h : H.length = 3) (hb : H.any hbad = true) : hdE H = 2 := by
  unfold hdE; rw [if_neg (by omega), if_pos hb]
theorem hdE_none {H : List Int} (h : H.length = 3) (hb : H.any hbad = false) (hz : at0 H 0 = 0 ∧ at0 H 1 = 0 ∧ at0 H 2 = 0) : hdE H = 8 := by
  unfold hdE; rw [if_neg (by omega), hb, if_neg (by decide)]; exact if_pos hz
theorem hdE_some {H : List Int} (h : H.length = 3) (hb : H.any hbad = false) (hz : ¬ (at0 H 0 = 0 ∧ at0 H 1 = 0 ∧ at0 H 2 = 0)) : hdE H = 0 := by
  unfold hdE; rw [if_neg (by omega), hb, if_neg (by decide)]; exact if_neg hz

set_option maxRecDepth 100000 in
set_option maxHeartbeats 4000000 in
theorem headed_any (H : List Int) (v : Value) (w : World) (hS : IntAt w v H) :
    Calls Try.prog 40 #[v] w (RetI (hdE H) w) := by
  obtain ⟨A, c, rfl, hc1, hc2, hR⟩ := hS
  unfold maxLen at hc2
  have HR := Lib.hid hR
  clear hR
  by_cases h3 : H.length = 3
  · have t1 : ((H.length : Int) != 3) = false := by rw [h3]; rfl
    have H3 := Lib.hid h3
    clear h3
    go_enter Try.func40, Try.ntmps40
    go_wp2_with fail
    go_loopw [3] (fun a wr => ∃ k : Nat, k ≤ 3 ∧ a = .int .i64 k ∧ AnyMid hbad H k ∧ Below w.heap.size w wr) (fun a _ => 3 - (intOf a).toNat)
    case atStart => exact ⟨0, by omega, rfl, rfl, Below.refl _ _⟩
    case round =>
      obtain ⟨k, hk, rfl, hM, hB⟩ := hrel
      have HM := Lib.hid hM
      clear hM
      have HRr := Lib.hid (HR.out.keep hB.size fun b o h => hB.cell (p := ⟨b, o, none⟩) h)
      by_cases hlt : k < 3
      · obtain ⟨x, hx⟩ : ∃ x, H[k]? = some x := ⟨_, List.getElem?_eq_getElem (by rw [H3.out]; exact hlt)⟩
        obtain ⟨b, o, rfl, hb, d0⟩ := reads_at HRr.out (ints_get hx)
        have hi : (k : Int) < H.length := by rw [H3.out]; omega
        have HX := Lib.hid hx
        clear hx
        by_cases c1 : x < 0
        · have F : Hid (hdE H = 2) := Lib.hid (hdE_bad H3.out (HM.out.hit HX.out (by simp [hbad, c1])))
          go_wp2_with fail
          go_ret
          exact ⟨by rw [F.out]; rfl, hB⟩
        · by_cases c2 : 1200 < x
          · have F : Hid (hdE H = 2) := Lib.hid (hdE_bad H3.out (HM.out.hit HX.out (by simp [hbad, c2])))
            go_wp2_with fail
            go_ret
            exact ⟨by rw [F.out]; rfl, hB⟩
          · have F : Hid (AnyMid hbad H (k + 1)) := Lib.hid (HM.out.next HX.out (by simp [hbad]; omega))
            go_wp2_with fail
            go_roundw
            case rel => exact ⟨k + 1, by omega, by go_num, F.out, hB⟩
            case measure => simp [intOf]; omega
      · obtain rfl : k = 3 := by omega
        have F : Hid (H.any hbad = false) := Lib.hid (HM.out.done (by rw [H3.out]; exact Nat.le_refl _))
        obtain ⟨b, o, rfl, hb, d0⟩ := reads_at HRr.out (ints_get (at0_get (l := H) (i := 0) (by rw [H3.out]; decide)))
        obtain ⟨_, _, e, _, d1⟩ := reads_at HRr.out (ints_get (at0_get (l := H) (i := 1) (by rw [H3.out]; decide)))
        cases e
        obtain ⟨_, _, e, _, d2⟩ := reads_at HRr.out (ints_get (at0_get (l := H) (i := 2) (by rw [H3.out]; decide)))
        cases e
        rw [Nat.add_zero] at d0
        have l0 : (0 : Int) < H.length := by rw [H3.out]; decide
        have l1 : (1 : Int) < H.length := by rw [H3.out]; decide
        have l2 : (2 : Int) < H.length := by rw [H3.out]; decide
        have n0 : 0 < H.length := by rw [H3.out]; decide
        by_cases z0 : at0 H 0 = 0
        · have q0 : (at0 H 0 == 0) = true := by simpa using z0
          by_cases z1 : at0 H 1 = 0
          · have q1 : (at0 H 1 == 0) = true := by simpa using z1
            by_cases z2 : at0 H 2 = 0
            · have q2 : (at0 H 2 == 0) = true := by simpa using z2
              have G : Hid (hdE H = 8) := Lib.hid (hdE_none H3.out F.out ⟨z0, z1, z2⟩)
              clear z0 z1 z2
              go_wp2_with fail
              go_ret
              exact ⟨by rw [G.out]; rfl, hB⟩
            · have q2 : (at0 H 2 == 0) = false := by simpa using z2
              have G : Hid (hdE H = 0) := Lib.hid (hdE_some H3.out F.out (fun h => z2 h.2.2))
              clear z0 z1 z2
              go_wp2_with fail
              go_ret
              exact ⟨by rw [G.out]; rfl, hB⟩
          · have q1 : (at0 H 1 == 0) = false := by simpa using z1
            have G : Hid (hdE H = 0) := Lib.hid (hdE_some H3.out F.out (fun h => z1 h.2.1))
            clear z0 z1
            go_wp2_with fail
            go_ret
            exact ⟨by rw [G.out]; rfl, hB⟩
        · have q0 : (at0 H 0 == 0) = false := by simpa using z0
          have G : Hid (hdE H = 0) := Lib.hid (hdE_some H3.out F.out (fun h => z0 h.1))
          clear z0
          go_wp2_with fail
          go_ret
          exact ⟨by rw [G.out]; rfl, hB⟩
  · have t1 : ((H.length : Int) != 3) = true := by simp; omega
    have F : Hid (hdE H = 3) := Lib.hid (hdE_len h3)
    clear h3
    go_enter Try.func40, Try.ntmps40
    go_wp2_with fail
    go_ret
    exact ⟨by rw [F.out]; rfl, Below.refl _ _⟩

theorem lnE_chk {d : Dr} {H : List Int} (h : chk d ≠ 0) : lnE d H = chk d := if_pos h
theorem lnE_hd {d : Dr} {H : List Int} (h : chk d = 0) : lnE d H = hdE H := if_neg (by omega)

set_option maxRecDepth 100000 in
set_option maxHeartbeats 4000000 in
theorem lined_any (d : Dr) (H : List Int) (v u : Value) (w : World) (hD : DrV w v d) (hS : IntAt w u H) :
    Calls Try.prog 37 #[v, u] w (RetI (lnE d H) w) := by
  obtain ⟨A, c, rfl, _, hc2, _⟩ := id hS
  obtain ⟨vW, vD, rfl, hW, hDD⟩ := id hD
  unfold maxLen at hc2
  have HS := Lib.hid hS
  have HD := Lib.hid hD
  clear hS hD hW hDD
  by_cases hk : chk d = 0
  · have t0 : (chk d != 0) = false := by rw [hk]; rfl
    have K := Lib.hid (lnE_hd (H := H) hk)
    clear hk
    go_enter Try.func37, Try.ntmps37
    go_wp2_with fail
    refine (Check_any d _ _ (HD.out.alloc _)).mono ?_
    rintro e w1 ⟨rfl, hb1⟩
    have hB1 : Below w.heap.size w w1 := bnext (bal (Below.refl _ _) _) hb1
    have HS1 := Lib.hid ((HS.out.alloc _).below hb1)
    clear hb1
    by_cases h3 : H.length = 3
    · have t1 : ((H.length : Int) != 3) = false := by rw [h3]; rfl
      have H3 := Lib.hid h3
      clear h3
      go_wp2_with fail
      go_loop [18] (fun a => ∃ k : Nat, k ≤ H.length ∧ a = .int .i64 k ∧ AnyMid hbad H k) (fun a => H.length - (intOf a).toNat)
      case atStart => exact ⟨0, by omega, rfl, rfl⟩
      case round =>
        obtain ⟨k, hk, rfl, hM⟩ := hrel
        have HM := Lib.hid hM
        clear hM
        by_cases hlt : k < H.length
        · obtain ⟨x, hx⟩ : ∃ x, H[k]? = some x := ⟨_, List.getElem?_eq_getElem hlt⟩
          obtain ⟨A2, c2', e2, _, _, hR⟩ := HS1.out
          cases e2
          obtain ⟨b, o, rfl, hb, d0⟩ := reads_at hR (ints_get hx)
          have hi : (k : Int) < H.length := by omega
          have HX := Lib.hid hx
          clear hx hR
          by_cases x1 : x < 0
          · have F : Hid (hdE H = 2) := Lib.hid (hdE_bad H3.out (HM.out.hit HX.out (by simp [hbad, x1])))
            go_wp2_with fail
            go_ret
            exact ⟨by rw [K.out, F.out]; rfl, hB1⟩
          · by_cases x2 : 1200 < x
            · have F : Hid (hdE H = 2) := Lib.hid (hdE_bad H3.out (HM.out.hit HX.out (by simp [hbad, x2])))
              go_wp2_with fail
              go_ret
              exact ⟨by rw [K.out, F.out]; rfl, hB1⟩
            · have F : Hid (AnyMid hbad H (k + 1)) := Lib.hid (HM.out.next HX.out (by simp [hbad]; omega))
              go_wp2_with fail
              go_round
              case rel => exact ⟨k + 1, by omega, by go_num, F.out⟩
              case measure => simp [intOf]; omega
        · obtain rfl : k = H.length := by omega
          have F : Hid (H.any hbad = false) := Lib.hid (HM.out.done (Nat.le_refl _))
          go_wp2_with fail
          refine (Max_any H H3.out _ _ HS1.out).mono ?_
          rintro e w2 ⟨rfl, hb2⟩
          have hB2 := bnext hB1 hb2
          have hz := mxk_zero (fun x hx => (hb_all F.out x hx).1) H3.out
          by_cases z : mxk H 2 = 0
          · have q0 : (mxk H 2 == 0) = true := by simpa using z
            have G : Hid (hdE H = 8) := Lib.hid (hdE_none H3.out F.out (hz.1 z))
            clear z hz hb2
            go_wp2_with fail
            go_ret
            exact ⟨by rw [K.out, G.out]; rfl, hB2⟩
          · have q0 : (mxk H 2 == 0) = false := by simpa using z
            have G : Hid (hdE H = 0) := Lib.hid (hdE_some H3.out F.out (fun h => z (hz.2 h)))
            clear z hz hb2
            go_wp2_with fail
            go_ret
            exact ⟨by rw [K.out, G.out]; rfl, hB2⟩
    · have t1 : ((H.length : Int) != 3) = true := by simp; omega
      have F : Hid (hdE H = 3) := Lib.hid (hdE_len h3)
      clear h3
      go_wp2_with fail
      go_ret
      exact ⟨by rw [K.out, F.out]; rfl, hB1⟩
  · have t0 : (chk d != 0) = true := by simpa using hk
    have K := Lib.hid (lnE_chk (H := H) hk)
    clear hk
    go_enter Try.func37, Try.ntmps37
    go_wp2_with fail
    refine (Check_any d _ _ (HD.out.alloc _)).mono ?_
    rintro e w1 ⟨rfl, hb1⟩
    have hB1 : Below w.heap.size w w1 := bnext (bal (Below.refl _ _) _) hb1
    clear hb1
    go_wp2_with fail
    go_ret
    exact ⟨by rw [K.out]; rfl, hB1⟩
end Go.Proofs.Ythkfdfkjenhjmaa
