/- PolicySums: the walk. -/
import Derived.Test.YtlpdebbedoibiaaK
namespace Go.Proofs.Ytlpdebbedoibiaa
open Go.RowKit
set_option linter.unusedVariables false
set_option linter.unusedSimpArgs false

theorem lev_take' (l : List Cl) (k : Nat) : lev (l.take k) = (lev l).take k := by unfold lev; rw [List.map_take]
theorem lev_sum_take {l : List Cl} {k : Nat} {x : Cl} (h : l[k]? = some x) : (lev (l.take (k + 1))).sum = (lev (l.take k)).sum + x.res := by rw [lev_take h]; simp
theorem needs_take {l : List Cl} {k : Nat} {x : Cl} (v : Int) (h : l[k]? = some x) : needs (lev (l.take (k + 1))) v = needs (lev (l.take k)) v + (mx x.res v - x.res) := by rw [lev_take h, needs_app]; simp
/-- what letting few claims down gives -/
def DnOf (l : List Cl) (A v0 : Int) (S : List Sh) (X : List Cl) : Prop := IsDown (lev l) 1125899906842624 A v0 ∧ S = shDown l (low v0 (lev l) (A - gives (lev l) v0)) ∧ aft true l S = some X ∧ ShWf S
def FewLow (l : List Cl) (A : Int) (w : World) (e : Ending) (w' : World) : Prop := ∃ v0 S X Ad c, DnOf l A v0 S X ∧ e = .returned (.tuple #[.slice Ad S.length c, .int .i64 0]) ∧ ShAt w' (.slice Ad S.length c) S ∧ Below w.heap.size w w'
theorem lev_len (l : List Cl) : (lev l).length = l.length := by unfold lev; rw [List.length_map]
theorem Lower_few (l : List Cl) (h : Few l) (A : Int) (hA : 0 ≤ A ∧ A ≤ 1000) (v : Value) (w : World) (hS : ClAt w v l) :
    Calls Try.prog 11 #[v, .int .u64 A] w (FewLow l A w) :=
  (Lower_ok l h.wf A hA.1 (h.ask (by intro x hx; simp at hx; omega)) v w hS).mono fun e w' ⟨v0, hu, Ad, c, he, ho, hb⟩ => by
    have hd : ∀ (i : Nat) (c : Cl) (y : Int), l[i]? = some c → (low v0 (lev l) (A - gives (lev l) v0))[i]? = some y → y ≤ c.res ∧ 0 ≤ y :=
      fun i c y hc hy => low_dn hu.1 (h.2.2 c (List.mem_of_getElem? hc)).1 (lev_get hc) hy
    have hll : (low v0 (lev l) (A - gives (lev l) v0)).length = l.length := by rw [low_len, lev_len]
    refine ⟨v0, _, _, Ad, c, ⟨hu, rfl, aft_down l _ h.asc hll hd, ⟨?_, fun x hx => ?_⟩⟩, he, SlAt.own ho, hb⟩
    · have := shDown_len l (low v0 (lev l) (A - gives (lev l) v0)); have := h.1; omega
    · have := shDown_bd l (low v0 (lev l) (A - gives (lev l) v0)) (m := 1000) (fun c hc => (h.2.2 c hc).2) (fun y hy => by
        obtain ⟨i, hi⟩ := List.mem_iff_getElem?.1 hy
        have hil := (List.getElem?_eq_some_iff.1 hi).1
        exact (hd i l[i] y (List.getElem?_eq_getElem (by omega)) hi).2) x hx
      omega
theorem after_low (l : List Cl) (h : Few l) {A v0 : Int} {S : List Sh} {X : List Cl} (hU : DnOf l A v0 S X) (v u : Value) (w : World) (hS : ClAt w v l) (hT : ShAt w u S) :
    Calls Try.prog 12 #[v, u, .bool true] w (AftPost X w) :=
  (after_down l S X hU.2.2.1 (by have := h.1; omega) (fun c hc => by have := h.2.2 c hc; omega) hU.2.2.2 v u w hS hT).mono fun e w' ⟨Ad, c, he, ho, hb⟩ => ⟨Ad, c, he, SlAt.own ho, hb⟩
theorem up_total {l : List Cl} {W A v0 : Int} {S : List Sh} {X : List Cl} (h : UpOf l W A v0 S X) : shSum S = mn A (needs (lev l) W) := by
  obtain ⟨a, _, rfl, _⟩ := h
  rw [shUp_sum l _ (by rw [bump_len, lev_len]) (fun i c y hc hy => bump_up (lev_get hc) hy), up_sum a]
theorem down_total {l : List Cl} (hf : Few l) {A v0 : Int} {S : List Sh} {X : List Cl} (h : DnOf l A v0 S X) : shSum S = mn A (lev l).sum := by
  obtain ⟨a, rfl, _⟩ := h
  rw [shDown_sum l _ (by rw [low_len, lev_len]) (fun i c y hc hy => (low_dn a.1 (hf.2.2 c (List.mem_of_getElem? hc)).1 (lev_get hc) hy).1), down_sum (fun x hx => (hf.lev x hx).1) a]
/-- what each claim is after filling up -/
theorem up_each {l : List Cl} {W A v0 : Int} {S : List Sh} {X : List Cl} (h : UpOf l W A v0 S X) {i : Nat} {x y : Cl} (hx : l[i]? = some x) (hy : X[i]? = some y) : y.res = mx x.res v0 ∨ (y.res = v0 + 1 ∧ x.res ≤ v0 ∧ v0 < W) := by
  obtain ⟨a, rfl, _⟩ := h
  have hi := (List.getElem?_eq_some_iff.1 hx).1
  obtain ⟨z, hz⟩ : ∃ z, (bump W v0 (lev l) (A - needs (lev l) v0))[i]? = some z := ⟨_, List.getElem?_eq_getElem (by rw [bump_len, lev_len]; exact hi)⟩
  rw [put_at l _ i hx hz] at hy
  cases hy
  exact bump_at W v0 (lev l) _ i (lev_get hx) hz
theorem up_len {l : List Cl} {W A v0 : Int} {S : List Sh} {X : List Cl} (h : UpOf l W A v0 S X) : X.length = l.length := by
  obtain ⟨a, rfl, _⟩ := h
  exact put_len l _ (by rw [bump_len, lev_len])

set_option maxRecDepth 100000 in
set_option maxHeartbeats 8000000 in
theorem PolicySums_t (xs : List Int) (win am : Int) (h0 : 0 ≤ win) (h1 : 0 ≤ am) (v : Value) (w : World) (hS : SlAt w 1 v xs.length (ints xs)) :
    Calls Try.prog 3 #[v, .int .u64 win, .int .u64 am] w (RetB true w) := by
  obtain ⟨W, hW⟩ : ∃ W, win % 80 = W := ⟨_, rfl⟩
  obtain ⟨A, hA⟩ : ∃ A, am % 300 = A := ⟨_, rfl⟩
  have hW' : win.tmod 80 = W := by rw [Int.tmod_eq_emod_of_nonneg h0]; exact hW
  have hA' : am.tmod 300 = A := by rw [Int.tmod_eq_emod_of_nonneg h1]; exact hA
  have b1 : 0 ≤ W ∧ W ≤ 79 := by omega
  have b2 : 0 ≤ A ∧ A ≤ 299 := by omega
  obtain ⟨hW0, hW1⟩ := b1
  obtain ⟨hA0, hA1⟩ := b2
  have HS := Lib.hid hS
  clear hS
  go_enter Try.func3, Try.ntmps3
  go_wp2_with fail
  refine (made_few xs v w HS.out).mono ?_
  rintro e w1 ⟨l, Ad, c, hl, rfl, hS1, hb1⟩
  have HF := Lib.hid hl
  have HL := Lib.hid hS1
  have hBw := hb1
  have hl8 := hl.1
  have hcc : l.length ≤ c ∧ c ≤ 9223372036854775807 := by
    obtain ⟨A', c', e, h1, h2, _⟩ := hS1
    cases e
    unfold maxLen at h2
    exact ⟨h1, h2⟩
  obtain ⟨hc1, hc2⟩ := hcc
  clear hl hS1 hb1
  go_wp2_with fail
  go_loopw [8, 9, 10] (fun m r a wr => ∃ k : Nat, k ≤ l.length ∧ a = .int .i64 k ∧ m = .int .u64 (needs (lev (l.take k)) W) ∧ r = .int .u64 (lev (l.take k)).sum ∧ Below w1.heap.size w1 wr) (fun _ _ a _ => l.length - (intOf a).toNat)
  case atStart => exact ⟨0, by omega, rfl, rfl, rfl, Below.refl _ _⟩
  case round =>
    obtain ⟨k, hk, rfl, rfl, rfl, hB⟩ := hrel
    by_cases hlt : k < l.length
    · obtain ⟨x, hx⟩ : ∃ x, l[k]? = some x := ⟨_, List.getElem?_eq_getElem hlt⟩
      obtain ⟨A', c', e', _, _, hR⟩ := HL.out
      cases e'
      obtain ⟨b, o, rfl, hb, x0, x1, x2, x3⟩ := reads_fl4 cl4 (hR.keep hB.size fun b o h => hB.cell (p := ⟨b, o, none⟩) h) rfl hx (by rfl : x.cells = [_, _, _, _])
      have hi : (k : Int) < l.length := by omega
      have hxr := HF.out.2.2 x (List.mem_of_getElem? hx)
      obtain ⟨hx0, hx1⟩ := hxr
      have hn0 := needs_nonneg (lev (l.take k)) W
      have hlm : ∀ y ∈ lev (l.take k), 0 ≤ y ∧ y ≤ 1000 := fun y hy => HF.out.lev y (by rw [lev_take'] at hy; exact List.mem_of_mem_take hy)
      have hn1 : needs (lev (l.take k)) W ≤ 800 := by
        have := needs_bd (lev (l.take k)) W 100 (fun y hy => (hlm y hy).1) hW0 (by omega)
        have e : ((lev (l.take k)).length : Int) ≤ 8 := by rw [lev_len, List.length_take]; omega
        omega
      have hs0 : 0 ≤ (lev (l.take k)).sum ∧ (lev (l.take k)).sum ≤ 8000 := by
        have h1 := gives_zero (lev (l.take k)) (fun y hy => (hlm y hy).1)
        have h2 := gives_nonneg (lev (l.take k)) 0
        have h3 := gives_bd (lev (l.take k)) 0 1000 hlm (by decide)
        have e : ((lev (l.take k)).length : Int) ≤ 8 := by rw [lev_len, List.length_take]; omega
        omega
      obtain ⟨hs0, hs1⟩ := hs0
      have N1 := hidI (needs_take W hx)
      have S1 := hidI (lev_sum_take hx)
      clear hx hR hlm
      generalize needs (lev (l.take k)) W = nn at *
      generalize (lev (l.take k)).sum = ss at *
      by_cases c1 : x.res < W
      · have HM : Hid (mx x.res W = W) := if_pos c1
        go_wp2_with fail
        go_roundw
        case rel => exact ⟨k + 1, by omega, by go_num, by rw [N1.out, HM.out]; go_num, by rw [S1.out], hB⟩
        case measure => simp [intOf]; omega
      · have HM : Hid (mx x.res W = x.res) := if_neg c1
        go_wp2_with fail
        go_roundw
        case rel => exact ⟨k + 1, by omega, by go_num, by rw [N1.out, HM.out]; simp, by rw [S1.out], hB⟩
        case measure => simp [intOf]; omega
    · obtain rfl : k = l.length := by omega
      have HT : Hid (l.take l.length = l) := hidI (List.take_of_length_le (Nat.le_refl _))
      rw [HT.out]
      have hBw1 := bnext hBw hB
      have HL1 := Lib.hid (HL.out.below hB)
      clear hBw hB
      go_wp2_with fail
      refine (Fill_few l HF.out W A ⟨hW0, by omega⟩ ⟨hA0, by omega⟩ _ wr HL1.out).mono ?_
      rintro e w2 ⟨v1, S1, X, A2, c2, hU1, rfl, hT1, hb2⟩
      have U1 := Lib.hid hU1
      have HL2 := Lib.hid (HL1.out.below hb2)
      have hBw2 := bnext hBw1 hb2
      have HT := Lib.hid hT1
      clear hU1 HL1 hb2 hT1 hBw1
      go_wp2_with fail
      refine (Lower_few l HF.out A ⟨hA0, by omega⟩ _ w2 HL2.out).mono ?_
      rintro e w3 ⟨v2, S2, Y, A3, c3, hU2, rfl, hT2, hb3⟩
      have U2 := Lib.hid hU2
      have HL3 := Lib.hid (HL2.out.below hb3)
      have HT3 := Lib.hid (HT.out.below hb3)
      have hBw3 := bnext hBw2 hb3
      have HR := Lib.hid hT2
      clear hU2 HL2 hb3 hT2 hBw2 HT
      go_wp2_with fail
      refine (after_few l HF.out U1.out _ _ w3 HL3.out HT3.out).mono ?_
      rintro e w4 ⟨A4, c4, rfl, hX, hb4⟩
      have XL := up_len U1.out
      rw [XL]
      have HX : Hid (SlAt w4 4 (.slice A4 l.length c4) l.length (fl Cl.cells X)) := hidI (by have := hX; unfold ClAt at this; rwa [XL] at this)
      have hcc : l.length ≤ c4 ∧ c4 ≤ 9223372036854775807 := by
        obtain ⟨A', c', e, h1, h2, _⟩ := HX.out
        cases e
        unfold maxLen at h2
        exact ⟨h1, h2⟩
      obtain ⟨hc3, hc4⟩ := hcc
      have HXL := Lib.hid XL
      have HL4 := Lib.hid (HL3.out.below hb4)
      have HT4 := Lib.hid (HT3.out.below hb4)
      have HR4 := Lib.hid (HR.out.below hb4)
      have hBw4 := bnext hBw3 hb4
      clear HL3 HT3 HR hb4 hX hBw3 XL
      go_wp2_with fail
      refine (after_low l HF.out U2.out _ _ w4 HL4.out HR4.out).mono ?_
      rintro e w5 ⟨A5, c5, rfl, hY, hb5⟩
      have HX5 := Lib.hid (HX.out.below hb5)
      have HL5 := Lib.hid (HL4.out.below hb5)
      have HT5 := Lib.hid (HT4.out.below hb5)
      have HR5 := Lib.hid (HR4.out.below hb5)
      have hBw5 := bnext hBw4 hb5
      clear HL4 HT4 HR4 hb5 hY hBw4 HX
      obtain ⟨m1, hm1⟩ : ∃ m1, (if needs (lev l) W < A then needs (lev l) W else A) = m1 := ⟨_, rfl⟩
      obtain ⟨m2, hm2⟩ : ∃ m2, (if (lev l).sum < A then (lev l).sum else A) = m2 := ⟨_, rfl⟩
      have T1 := hidI ((up_total U1.out).trans hm1)
      have T2 := hidI ((down_total HF.out U2.out).trans hm2)
      generalize needs (lev l) W = nn at *
      generalize (lev l).sum = ss at *
      go_wp2_with fail
      refine (sum_any S1 U1.out.2.2.2.2.2 _ w5 HT5.out).mono ?_
      rintro e w6 ⟨rfl, hb6⟩
      rw [T1.out]
      have HX6 := Lib.hid (HX5.out.below hb6)
      have HL6 := Lib.hid (HL5.out.below hb6)
      have HR6 := Lib.hid (HR5.out.below hb6)
      have hBw6 := bnext hBw5 hb6
      clear HX5 HL5 HR5 HT5 hb6 hBw5
      go_wp2_with fail
      refine (sum_any S2 U2.out.2.2.2 _ w6 HR6.out).mono ?_
      rintro e w7 ⟨rfl, hb7⟩
      rw [T2.out]
      have HX7 := Lib.hid (HX6.out.below hb7)
      have HL7 := Lib.hid (HL6.out.below hb7)
      have hBw7 := bnext hBw6 hb7
      clear HX6 HL6 HR6 hb7 hBw6
      go_wp2_with fail
      go_loopw [19] (fun a wr => ∃ i : Nat, i ≤ l.length ∧ a = .int .i64 i ∧ Below w7.heap.size w7 wr) (fun a _ => l.length - (intOf a).toNat)
      case atStart => exact ⟨0, by omega, rfl, Below.refl _ _⟩
      case round =>
        obtain ⟨i, hi, rfl, hB⟩ := hrel
        by_cases hlt : i < l.length
        · have hi1 : (i : Int) < l.length := by omega
          go_wp2_with fail
          obtain ⟨wo, rfl⟩ : ∃ wo : World, wo = wr := ⟨_, rfl⟩
          go_loopw [20] (fun a wr => ∃ k : Nat, k ≤ l.length ∧ a = .int .i64 k ∧ Below w7.heap.size w7 wr) (fun a _ => l.length - (intOf a).toNat)
          case atStart => exact ⟨0, by omega, rfl, hB⟩
          case round =>
            clear hB
            obtain ⟨k, hk, rfl, hB⟩ := hrel
            by_cases hkl : k < l.length
            · have hk1 : (k : Int) < l.length := by omega
              obtain ⟨x, hx⟩ : ∃ x, l[i]? = some x := ⟨_, List.getElem?_eq_getElem hlt⟩
              obtain ⟨y, hy⟩ : ∃ y, X[i]? = some y := ⟨_, List.getElem?_eq_getElem (by rw [HXL.out]; exact hlt)⟩
              obtain ⟨z, hz⟩ : ∃ z, X[k]? = some z := ⟨_, List.getElem?_eq_getElem (by rw [HXL.out]; exact hkl)⟩
              obtain ⟨q, hq⟩ : ∃ q, l[k]? = some q := ⟨_, List.getElem?_eq_getElem hkl⟩
              have e1 := up_each U1.out hx hy
              have e2 := up_each U1.out hq hz
              have hv1 := U1.out.1.2.1
              obtain ⟨A', c', e', _, _, hR⟩ := HL7.out
              cases e'
              obtain ⟨A', c', e', _, _, hR'⟩ := HX7.out
              cases e'
              obtain ⟨b, o, rfl, hb, x0, x1, x2, x3⟩ := reads_fl4 cl4 (hR.keep hB.size fun b o h => hB.cell (p := ⟨b, o, none⟩) h) rfl hx (by rfl : x.cells = [_, _, _, _])
              have hR2 := hR'.keep hB.size fun b o h => hB.cell (p := ⟨b, o, none⟩) h
              obtain ⟨b2, o2, rfl, hb2, y0, y1, y2, y3⟩ := reads_fl4 cl4 hR2 HXL.out.symm hy (by rfl : y.cells = [_, _, _, _])
              obtain ⟨b3, o3, e3, hb3, z0, z1, z2, z3⟩ := reads_fl4 cl4 hR2 HXL.out.symm hz (by rfl : z.cells = [_, _, _, _])
              cases e3
              have hi0 : (0 : Int) ≤ i := by omega
              have hk0 : (0 : Int) ≤ k := by omega
              have hyz : y.res ≤ W ∨ ¬ x.res < y.res := by
                rcases e1 with e1 | e1
                · unfold mx at e1
                  split at e1 <;> omega
                · omega
              have hyk : x.res < y.res → y.res ≤ z.res + 1 := by
                intro hlt
                unfold mx at e1 e2
                split at e1 <;> split at e2 <;> omega
              have hz0 : 0 ≤ z.res ∧ z.res ≤ 1000 := U1.out.2.2.2.1.2.2 z (List.mem_of_getElem? hz)
              have WS : IntKind.u64.wrap (z.res + 1) = z.res + 1 := IntWalk.u64_in _ (by omega)
              clear hx hy hz hq e1 e2 hR hR' hR2 hz0 hv1
              by_cases t1 : x.res < y.res
              · have d1 : decide (x.res < y.res) = true := by simpa using t1
                have d2 : decide (W < y.res) = false := by simp; omega
                have d4 : decide (z.res + 1 < y.res) = false := by have := hyk t1; simp; omega
                clear hyz hyk
                by_cases t3 : z.res < W
                · have d3 : decide (z.res < W) = true := by simpa using t3
                  clear t1 t3
                  go_wp2_with fail
                  go_quiet (fail)
                  clear WS
                  go_wp2_with fail
                  go_roundw
                  case rel => exact ⟨k + 1, by omega, by go_num, (by repeat (first | with_reducible exact Below.refl _ _ | with_reducible refine Below.drew ?_ | with_reducible refine below_drewN ?_ _ | with_reducible refine bal ?_ _ | with_reducible refine bset ?_ (by first | (simp; done) | (simp; omega)) _ | with_reducible refine bnext ?_ (by assumption) | with_reducible assumption))⟩
                  case measure => simp [intOf]; omega
                · have d3 : decide (z.res < W) = false := by simpa using t3
                  clear t1 t3
                  go_wp2_with fail
                  go_quiet (fail)
                  clear WS
                  go_wp2_with fail
                  go_roundw
                  case rel => exact ⟨k + 1, by omega, by go_num, (by repeat (first | with_reducible exact Below.refl _ _ | with_reducible refine Below.drew ?_ | with_reducible refine below_drewN ?_ _ | with_reducible refine bal ?_ _ | with_reducible refine bset ?_ (by first | (simp; done) | (simp; omega)) _ | with_reducible refine bnext ?_ (by assumption) | with_reducible assumption))⟩
                  case measure => simp [intOf]; omega
              · have d1 : decide (x.res < y.res) = false := by simpa using t1
                clear t1 hyz hyk
                go_wp2_with fail
                go_quiet (fail)
                clear WS
                go_wp2_with fail
                go_roundw
                case rel => exact ⟨k + 1, by omega, by go_num, (by repeat (first | with_reducible exact Below.refl _ _ | with_reducible refine Below.drew ?_ | with_reducible refine below_drewN ?_ _ | with_reducible refine bal ?_ _ | with_reducible refine bset ?_ (by first | (simp; done) | (simp; omega)) _ | with_reducible refine bnext ?_ (by assumption) | with_reducible assumption))⟩
                case measure => simp [intOf]; omega
            · have hk1 : ¬ (k : Int) < l.length := by omega
              go_wp2_with fail
              go_roundw
              case rel => exact ⟨i + 1, by omega, by go_num, hB⟩
              case measure => simp [intOf]; omega
        · have hi1 : ¬ (i : Int) < l.length := by omega
          go_wp2_with fail
          refine (awake_t _).mono ?_
          rintro e w9 ⟨rfl, hb9⟩
          go_wp2_with fail
          go_ret
          exact ⟨rfl, bnext (bnext hBw7 hB) hb9⟩
end Go.Proofs.Ytlpdebbedoibiaa
