/- PolicySafe: the walk. -/
import Derived.Test.YtlpdebbedoibiaaM
import Derived.Test.YtlpdebbedoibiaaL
namespace Go.Proofs.Ytlpdebbedoibiaa
open Go.RowKit
set_option linter.unusedVariables false
set_option linter.unusedSimpArgs false

theorem well_less {p q : Int} {l : List Cl} (h : Well p l) (hq : q ≤ p) : Well q l := by
  cases l with
  | nil => trivial
  | cons c r =>
    obtain ⟨h1, h2⟩ := h
    obtain ⟨a, b, d⟩ := cerr_zero.1 h1
    exact ⟨cerr_zero.2 ⟨a, by omega, d⟩, h2⟩
theorem well_filter {p : Int} {l : List Cl} (h : Well p l) (f : Cl → Bool) : Well p (l.filter f) := by
  induction l generalizing p with
  | nil => trivial
  | cons c r ih =>
    obtain ⟨h1, h2⟩ := h
    rw [List.filter_cons]
    split
    · exact ⟨h1, ih h2⟩
    · exact well_less (ih h2) (by have := (cerr_zero.1 h1).2.1; omega)
theorem Few.act {l : List Cl} (h : Few l) : Few (act l) :=
  ⟨Nat.le_trans (act_len l) h.1, well_filter h.2.1 _, fun c hc => h.2.2 c (List.mem_filter.1 hc).1⟩
theorem act_act (l : List Cl) : _root_.Go.Proofs.Ytlpdebbedoibiaa.act (_root_.Go.Proofs.Ytlpdebbedoibiaa.act l) = _root_.Go.Proofs.Ytlpdebbedoibiaa.act l := by
  unfold _root_.Go.Proofs.Ytlpdebbedoibiaa.act
  rw [List.filter_filter]
  simp
theorem shUp_pos (l : List Cl) (ys : List Int) : ∀ x ∈ shUp l ys, 0 < x.bytes := by
  induction l generalizing ys with
  | nil => simp [shUp]
  | cons c l ih =>
    cases ys with
    | nil => simp [shUp]
    | cons y ys =>
      unfold shUp
      split
      · intro x hx
        rcases List.mem_cons.1 hx with rfl | hx
        · dsimp only; omega
        · exact ih ys x hx
      · exact ih ys
theorem shDown_pos (l : List Cl) (ys : List Int) : ∀ x ∈ shDown l ys, 0 < x.bytes := by
  induction l generalizing ys with
  | nil => simp [shDown]
  | cons c l ih =>
    cases ys with
    | nil => simp [shDown]
    | cons y ys =>
      unfold shDown
      split
      · intro x hx
        rcases List.mem_cons.1 hx with rfl | hx
        · dsimp only; omega
        · exact ih ys x hx
      · exact ih ys
theorem sh_empty {S : List Sh} (h : ∀ x ∈ S, 0 < x.bytes) (hs : shSum S ≤ 0) : S = [] := by
  cases S with
  | nil => rfl
  | cons x S =>
    exfalso
    have h0 : ∀ T : List Sh, (∀ x ∈ T, 0 < x.bytes) → 0 ≤ shSum T := by
      intro T
      induction T with
      | nil => intro _; simp [shSum]
      | cons y T ih =>
        intro hT
        have := ih (fun z hz => hT z (by simp [hz]))
        have := hT y (by simp)
        have e : shSum (y :: T) = y.bytes + shSum T := by simp [shSum]
        omega
    have e : shSum (x :: S) = x.bytes + shSum S := by simp [shSum]
    have := h0 S (fun z hz => h z (by simp [hz]))
    have := h x (by simp)
    omega
theorem mn_le (a b : Int) : mn a b ≤ a := by unfold mn; split <;> omega
theorem up_le {l : List Cl} {W A v0 : Int} {S : List Sh} {X : List Cl} (h : UpOf l W A v0 S X) : shSum S ≤ A := by rw [up_total h]; exact mn_le _ _
theorem up_none {l : List Cl} {W A v0 : Int} {S : List Sh} {X : List Cl} (h : UpOf l W A v0 S X) (hA : A ≤ 0) : S = [] := by
  refine sh_empty ?_ (Int.le_trans (up_le h) hA)
  obtain ⟨_, _, rfl, _⟩ := h
  exact shUp_pos _ _
theorem down_le {l : List Cl} (hf : Few l) {A v0 : Int} {S : List Sh} {X : List Cl} (h : DnOf l A v0 S X) : shSum S ≤ A := by rw [down_total hf h]; exact mn_le _ _
theorem down_none {l : List Cl} (hf : Few l) {A v0 : Int} {S : List Sh} {X : List Cl} (h : DnOf l A v0 S X) (hA : A ≤ 0) : S = [] := by
  refine sh_empty ?_ (Int.le_trans (down_le hf h) hA)
  obtain ⟨_, rfl, _⟩ := h
  exact shDown_pos _ _
theorem up_same {l : List Cl} {W A v0 v1 : Int} {S T : List Sh} {X Y : List Cl} (h : UpOf l W A v0 S X) (h' : UpOf l W A v1 T Y) : S = T := by
  obtain ⟨a, _, rfl, _⟩ := h
  obtain ⟨b, _, rfl, _⟩ := h'
  rw [isUp_uniq a b]
theorem down_same {l : List Cl} {A v0 v1 : Int} {S T : List Sh} {X Y : List Cl} (h : DnOf l A v0 S X) (h' : DnOf l A v1 T Y) : S = T := by
  obtain ⟨a, rfl, _⟩ := h
  obtain ⟨b, rfl, _⟩ := h'
  rw [isDown_uniq a b]
theorem over_few {a b : Int} (ha : 0 ≤ a ∧ a ≤ 1000) (hb : 0 ≤ b) : 0 ≤ over a b ∧ over a b ≤ 1000 := by unfold over mx; split <;> omega

theorem low_facts {l : List Cl} (h : Few l) {A v0 : Int} (hu : IsDown (lev l) 1125899906842624 A v0) : ∃ X, DnOf l A v0 (shDown l (low v0 (lev l) (A - gives (lev l) v0))) X := by
  have hd : ∀ (i : Nat) (c : Cl) (y : Int), l[i]? = some c → (low v0 (lev l) (A - gives (lev l) v0))[i]? = some y → y ≤ c.res ∧ 0 ≤ y :=
    fun i c y hc hy => low_dn hu.1 (h.2.2 c (List.mem_of_getElem? hc)).1 (lev_get hc) hy
  have hll : (low v0 (lev l) (A - gives (lev l) v0)).length = l.length := by rw [low_len, lev_len]
  refine ⟨_, hu, rfl, aft_down l _ h.asc hll hd, ⟨?_, fun x hx => ?_⟩⟩
  · have := shDown_len l (low v0 (lev l) (A - gives (lev l) v0)); have := h.1; omega
  · have := shDown_bd l (low v0 (lev l) (A - gives (lev l) v0)) (m := 1000) (fun c hc => (h.2.2 c hc).2) (fun y hy => by
      obtain ⟨i, hi⟩ := List.mem_iff_getElem?.1 hy
      have hil := (List.getElem?_eq_some_iff.1 hi).1
      exact (hd i l[i] y (List.getElem?_eq_getElem (by omega)) hi).2) x hx
    omega
def FewGr (l : List Cl) (F L W : Int) (w : World) (e : Ending) (w' : World) : Prop := ∃ v0 S X Ad c, UpOf (act l) W (over F L) v0 S X ∧ e = .returned (.tuple #[.slice Ad S.length c, .int .i64 0]) ∧ ShAt w' (.slice Ad S.length c) S ∧ Below w.heap.size w w'
theorem Grants_few (l : List Cl) (h : Few l) (F L W : Int) (hF : 0 ≤ F ∧ F ≤ 1000) (hL : 0 ≤ L ∧ L ≤ 1000) (hW : 0 ≤ W ∧ W ≤ 1000) (v : Value) (w : World) (hS : ClAt w v l) :
    Calls Try.prog 17 #[v, .int .u64 F, .int .u64 L, .int .u64 W] w (FewGr l F L W w) :=
  (Grants_ok l h.wf F L W hF.1 hL.1 hW.1 (h.ask (by intro x hx; simp at hx; rcases hx with rfl | rfl | rfl <;> omega)) v w hS).mono fun e w' ⟨v0, hu, Ad, c, he, ho, hb⟩ => by
    obtain ⟨a, b, d, _⟩ := h.act.up (o := over F L - needs (lev (act l)) v0) hu.1 hu.2.1 hW.2
    exact ⟨v0, _, _, Ad, c, ⟨hu, rfl, rfl, b, a, d⟩, he, SlAt.own ho, hb⟩
def FewRc (l : List Cl) (F L : Int) (w : World) (e : Ending) (w' : World) : Prop := ∃ v0 S X Ad c, DnOf (act l) (over L F) v0 S X ∧ e = .returned (.tuple #[.slice Ad S.length c, .int .i64 0]) ∧ ShAt w' (.slice Ad S.length c) S ∧ Below w.heap.size w w'
theorem Reclaims_few (l : List Cl) (h : Few l) (F L : Int) (hF : 0 ≤ F ∧ F ≤ 1000) (hL : 0 ≤ L ∧ L ≤ 1000) (v : Value) (w : World) (hS : ClAt w v l) :
    Calls Try.prog 19 #[v, .int .u64 F, .int .u64 L] w (FewRc l F L w) :=
  (Reclaims_ok l h.wf F L hF.1 hL.1 (h.ask (by intro x hx; simp at hx; rcases hx with rfl | rfl <;> omega)) v w hS).mono fun e w' ⟨v0, hu, Ad, c, he, ho, hb⟩ => by
    obtain ⟨X, hX⟩ := low_facts h.act hu
    exact ⟨v0, _, X, Ad, c, hX, he, SlAt.own ho, hb⟩

set_option maxRecDepth 100000 in
set_option maxHeartbeats 8000000 in
theorem PolicySafe_t (xs : List Int) (fr lo win : Int) (h0 : 0 ≤ fr) (h1 : 0 ≤ lo) (h2 : 0 ≤ win) (v : Value) (w : World) (hS : SlAt w 1 v xs.length (ints xs)) :
    Calls Try.prog 6 #[v, .int .u64 fr, .int .u64 lo, .int .u64 win] w (RetB true w) := by
  obtain ⟨F, hF⟩ : ∃ F, fr % 500 = F := ⟨_, rfl⟩
  obtain ⟨L, hL⟩ : ∃ L, lo % 500 = L := ⟨_, rfl⟩
  obtain ⟨W, hW⟩ : ∃ W, win % 80 = W := ⟨_, rfl⟩
  have hF' : fr.tmod 500 = F := by rw [Int.tmod_eq_emod_of_nonneg h0]; exact hF
  have hL' : lo.tmod 500 = L := by rw [Int.tmod_eq_emod_of_nonneg h1]; exact hL
  have hW' : win.tmod 80 = W := by rw [Int.tmod_eq_emod_of_nonneg h2]; exact hW
  have b1 : 0 ≤ F ∧ F ≤ 1000 := by omega
  have b2 : 0 ≤ L ∧ L ≤ 1000 := by omega
  have b3 : 0 ≤ W ∧ W ≤ 1000 := by omega
  have BF := Lib.hid b1
  have BL := Lib.hid b2
  have BW := Lib.hid b3
  obtain ⟨hF0, hF1⟩ := b1
  obtain ⟨hL0, hL1⟩ := b2
  have HS := Lib.hid hS
  clear hS b3
  go_enter Try.func6, Try.ntmps6
  go_wp2_with fail
  refine (made_few xs v w HS.out).mono ?_
  rintro e w1 ⟨l, Ad, c, hl, rfl, hS1, hb1⟩
  have HF := Lib.hid hl
  have HL := Lib.hid hS1
  have hBw := hb1
  have hl8 := hl.1
  have hcc : l.length ≤ c ∧ c ≤ 9223372036854775807 := by
    obtain ⟨A', c', e, h1, h2, _⟩ := hS1
    cases e
    unfold maxLen at h2
    exact ⟨h1, h2⟩
  obtain ⟨hc1, hc2⟩ := hcc
  clear hl hS1 hb1
  go_wp2_with fail
  refine (Grants_few l HF.out F L W BF.out BL.out BW.out _ w1 HL.out).mono ?_
  rintro e w2 ⟨v1, S1, X1, A2, c2, hU1, rfl, hT1, hb2⟩
  have U1 := Lib.hid hU1
  have HA2 := Lib.hid hT1
  have HL2 := Lib.hid (HL.out.below hb2)
  have hBw2 := bnext hBw hb2
  clear hU1 HL hb2 hT1 hBw
  go_wp2_with fail
  refine (Reclaims_few l HF.out F L BF.out BL.out _ w2 HL2.out).mono ?_
  rintro e w3 ⟨v2, S2, X2, A3, c3, hU2, rfl, hT2, hb3⟩
  have U2 := Lib.hid hU2
  have HR3 := Lib.hid hT2
  have HA3 := Lib.hid (HA2.out.below hb3)
  have HL3 := Lib.hid (HL2.out.below hb3)
  have hBw3 := bnext hBw2 hb3
  clear hU2 HL2 hb3 hT2 hBw2 HA2
  go_wp2_with fail
  go_loopw [14, 15] (fun s a wr => ∃ k : Nat, k ≤ l.length ∧ a = .int .i64 k ∧ OwnCl w3 wr s (act (l.take k)) ∧ Below w3.heap.size w3 wr) (fun _ a _ => l.length - (intOf a).toNat)
  case atStart => exact ⟨0, by omega, rfl, World.ownsRow_nil _ _ _ _, Below.refl _ _⟩
  case round =>
    obtain ⟨k, hk, rfl, hO, hB⟩ := hrel
    obtain ⟨A1, c1, rfl⟩ := own_form hO
    have hz := hB.size
    have HO := Lib.hid hO
    by_cases hlt : k < l.length
    · obtain ⟨x, hx⟩ : ∃ x, l[k]? = some x := ⟨_, List.getElem?_eq_getElem hlt⟩
      obtain ⟨A', c', e', _, _, hR⟩ := HL3.out
      cases e'
      obtain ⟨b, o, rfl, hb, x0, x1, x2, x3⟩ := reads_fl4 cl4 (hR.keep hB.size fun b o h => hB.cell (p := ⟨b, o, none⟩) h) rfl hx (by rfl : x.cells = [_, _, _, _])
      have hi : (k : Int) < l.length := by omega
      have HT := hidI (filter_take (p := Cl.act) hx)
      have hlen := filter_take_len Cl.act l k
      clear hx hR hO
      obtain ⟨xn, xr, xs, xo⟩ := x
      dsimp only at x0 x1 x2 x3
      cases hsu : xs with
      | false =>
        have P : Hid (Cl.act ⟨xn, xr, xs, xo⟩ = false) := hidI (by rw [hsu]; rfl)
        subst hsu
        go_wp2_with fail
        go_roundw
        case rel => exact ⟨k + 1, by omega, by go_num, by unfold act; rw [HT.out, if_neg (by rw [P.out]; decide)]; exact HO.out, hB⟩
        case measure => simp [intOf]; omega
      | true =>
        cases hop : xo with
        | false =>
          have P : Hid (Cl.act ⟨xn, xr, xs, xo⟩ = false) := hidI (by rw [hsu, hop]; rfl)
          subst hsu hop
          go_wp2_with fail
          go_roundw
          case rel => exact ⟨k + 1, by omega, by go_num, by unfold act; rw [HT.out, if_neg (by rw [P.out]; decide)]; exact HO.out, hB⟩
          case measure => simp [intOf]; omega
        | true =>
          have P : Hid (Cl.act ⟨xn, xr, xs, xo⟩ = true) := hidI (by rw [hsu, hop]; rfl)
          subst hsu hop
          go_wp2_with (first
            | (at_builtin; refine wpList_app1 (f := Cl.cells) rfl _ _ 24 rfl w3.heap.size 27 4 24 infoCl rfl (by decide) Try.underlying24 cl4 cl_one wr w3 w3.heap.size ⟨xn, xr, true, true⟩ (act (l.take k)) _ (by rfl) (by rfl) HO.out hB (Nat.le_refl _) hz (by unfold act; omega) (by unfold act maxLen; omega) ?_; intro A2 c2 w2 hown hB2 _; have HO2 := Lib.hid hown; clear hown))
          go_roundw
          case rel => exact ⟨k + 1, by omega, by go_num, by unfold act; rw [HT.out, if_pos P.out]; exact HO2.out, hB2⟩
          case measure => simp [intOf]; omega
    · obtain rfl : k = l.length := by omega
      have HT : Hid (l.take l.length = l) := hidI (List.take_of_length_le (Nat.le_refl _))
      have HM : Hid (ClAt wr (.slice A1 (act l).length c1) (act l)) := hidI (by have := SlAt.own hO; rw [HT.out] at this; exact this)
      rw [HT.out]
      have HA4 := Lib.hid (HA3.out.below hB)
      have HR4 := Lib.hid (HR3.out.below hB)
      have hBw4 := bnext hBw3 hB
      clear hO HO HA3 HR3 hBw3 hB
      go_wp2_with fail
      refine (Grants_few (act l) HF.out.act F L W BF.out BL.out BW.out _ wr HM.out).mono ?_
      rintro e w5 ⟨v5, S5, X5, A5, c5, hU5, rfl, hT5, hb5⟩
      obtain rfl : S1 = S5 := (up_same (by rw [act_act] at hU5; exact hU5) U1.out).symm
      have HC5 := Lib.hid hT5
      have HA5 := Lib.hid (HA4.out.below hb5)
      have HR5 := Lib.hid (HR4.out.below hb5)
      have HM5 := Lib.hid (HM.out.below hb5)
      have hBw5 := bnext hBw4 hb5
      clear hU5 hT5 hb5 HA4 HR4 hBw4 HM
      go_wp2_with fail
      refine (Reclaims_few (act l) HF.out.act F L BF.out BL.out _ w5 HM5.out).mono ?_
      rintro e w6 ⟨v6, S6, X6, A6, c6, hU6, rfl, hT6, hb6⟩
      obtain rfl : S2 = S6 := (down_same (by rw [act_act] at hU6; exact hU6) U2.out).symm
      have HD6 := Lib.hid hT6
      have HC6 := Lib.hid (HC5.out.below hb6)
      have HA6 := Lib.hid (HA5.out.below hb6)
      have HR6 := Lib.hid (HR5.out.below hb6)
      have hBw6 := bnext hBw5 hb6
      clear hU6 hT6 hb6 HA5 HR5 hBw5 HM5 HC5
      go_wp2_with fail
      refine (same_t S1 _ _ w6 HA6.out HC6.out).mono ?_
      rintro e w7 ⟨rfl, hb7⟩
      have HA7 := Lib.hid (HA6.out.below hb7)
      have HR7 := Lib.hid (HR6.out.below hb7)
      have HD7 := Lib.hid (HD6.out.below hb7)
      have hBw7 := bnext hBw6 hb7
      clear hb7 HA6 HR6 hBw6 HC6 HD6
      go_wp2_with fail
      refine (same_t S2 _ _ w7 HR7.out HD7.out).mono ?_
      rintro e w8 ⟨rfl, hb8⟩
      have HA8 := Lib.hid (HA7.out.below hb8)
      have HR8 := Lib.hid (HR7.out.below hb8)
      have hBw8 := bnext hBw7 hb8
      clear hb8 HA7 HR7 hBw7 HD7
      rcases (by omega : L < F ∨ F ≤ L) with hLF | hLF
      · obtain rfl : S2 = [] := down_none HF.out.act U2.out (by unfold over mx; split <;> omega)
        have hsum : shSum S1 ≤ F - L := Int.le_trans (up_le U1.out) (by unfold over mx; split <;> omega)
        rw [List.length_nil]
        by_cases hp : 0 < S1.length
        · have hp1 : (0 : Int) < S1.length := by omega
          have hs8 : (S1.length : Int) ≤ 100 := by have := U1.out.2.2.2.2.2.1; omega
          go_wp2_with fail
          refine (sum_any S1 U1.out.2.2.2.2.2 _ w8 HA8.out).mono ?_
          rintro e w9 ⟨rfl, hb9⟩
          generalize shSum S1 = s at *
          have hBw9 := bnext hBw8 hb9
          go_wp2_with fail
          refine (awake_t _).mono ?_
          rintro e w10 ⟨rfl, hb10⟩
          go_wp2_with fail
          go_ret
          exact ⟨rfl, bnext hBw9 hb10⟩
        · have hp1 : S1.length = 0 := by omega
          rw [hp1]
          clear hp1 hp
          go_wp2_with fail
          refine (awake_t _).mono ?_
          rintro e w10 ⟨rfl, hb10⟩
          go_wp2_with fail
          go_ret
          exact ⟨rfl, bnext hBw8 hb10⟩
      · obtain rfl : S1 = [] := up_none U1.out (by unfold over mx; split <;> omega)
        have hsum : shSum S2 ≤ L - F := Int.le_trans (down_le HF.out.act U2.out) (by unfold over mx; split <;> omega)
        rw [List.length_nil]
        by_cases hp : 0 < S2.length
        · have hp1 : (0 : Int) < S2.length := by omega
          have hs8 : (S2.length : Int) ≤ 100 := by have := U2.out.2.2.2.1; omega
          go_wp2_with fail
          refine (sum_any S2 U2.out.2.2.2 _ w8 HR8.out).mono ?_
          rintro e w9 ⟨rfl, hb9⟩
          generalize shSum S2 = s at *
          have hBw9 := bnext hBw8 hb9
          go_wp2_with fail
          refine (awake_t _).mono ?_
          rintro e w10 ⟨rfl, hb10⟩
          go_wp2_with fail
          go_ret
          exact ⟨rfl, bnext hBw9 hb10⟩
        · have hp1 : S2.length = 0 := by omega
          rw [hp1]
          clear hp1 hp
          go_wp2_with fail
          refine (awake_t _).mono ?_
          rintro e w10 ⟨rfl, hb10⟩
          go_wp2_with fail
          go_ret
          exact ⟨rfl, bnext hBw8 hb10⟩
end Go.Proofs.Ytlpdebbedoibiaa
