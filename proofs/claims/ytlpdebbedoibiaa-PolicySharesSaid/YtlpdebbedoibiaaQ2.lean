/- Contracts: the reference's active claims, shares and levels. -/
import Derived.Test.YtlpdebbedoibiaaQ1
import Derived.Test.YtlpdebbedoibiaaH
namespace Go.Proofs.Ytlpdebbedoibiaa
open Go.RowKit
set_option linter.unusedVariables false
set_option linter.unusedSimpArgs false

set_option maxRecDepth 100000 in
set_option maxHeartbeats 4000000 in
theorem ractive_any (l : List Cl) (v : Value) (w : World) (hS : ClAt w v l) (hl : l.length ≤ 100000) :
    Calls Try.prog 38 #[v] w (RetCl (act l) w) := by
  obtain ⟨A, c, rfl, hc1, hc2, hR⟩ := hS
  unfold maxLen at hc2
  have HR := Lib.hid hR
  clear hR
  go_enter Try.func38, Try.ntmps38
  go_wp2_with fail
  go_loopw [3, 4] (fun s a wr => ∃ k : Nat, k ≤ l.length ∧ a = .int .i64 k ∧ OwnCl w wr s (act (l.take k)) ∧ Below w.heap.size w wr) (fun _ a _ => l.length - (intOf a).toNat)
  case atStart => exact ⟨0, by omega, rfl, World.ownsRow_nil _ _ _ _, Below.refl _ _⟩
  case round =>
    obtain ⟨k, hk, rfl, hO, hB⟩ := hrel
    obtain ⟨A1, c1, rfl⟩ := own_form hO
    have hz := hB.size
    have HO := Lib.hid hO
    by_cases hlt : k < l.length
    · obtain ⟨x, hx⟩ : ∃ x, l[k]? = some x := ⟨_, List.getElem?_eq_getElem hlt⟩
      obtain ⟨b, o, rfl, hb, x0, x1, x2, x3⟩ := reads_fl4 cl4 (HR.out.keep hB.size fun b o h => hB.cell (p := ⟨b, o, none⟩) h) rfl hx (by rfl : x.cells = [_, _, _, _])
      have hi : (k : Int) < l.length := by omega
      have HT := hidI (filter_take (p := Cl.act) hx)
      have hlen := filter_take_len Cl.act l k
      clear hx hO
      obtain ⟨xn, xr, xs, xo⟩ := x
      dsimp only at x0 x1 x2 x3
      cases hsu : xs with
      | false =>
        have P : Hid (Cl.act ⟨xn, xr, xs, xo⟩ = false) := hidI (by rw [hsu]; rfl)
        subst hsu
        go_wp2_with fail
        go_roundw
        case rel => exact ⟨k + 1, by omega, by go_num, by unfold act; rw [HT.out, if_neg (by rw [P.out]; decide)]; exact HO.out, hB⟩
        case measure => simp [intOf]; omega
      | true =>
        cases hop : xo with
        | false =>
          have P : Hid (Cl.act ⟨xn, xr, xs, xo⟩ = false) := hidI (by rw [hsu, hop]; rfl)
          subst hsu hop
          go_wp2_with fail
          go_roundw
          case rel => exact ⟨k + 1, by omega, by go_num, by unfold act; rw [HT.out, if_neg (by rw [P.out]; decide)]; exact HO.out, hB⟩
          case measure => simp [intOf]; omega
        | true =>
          have P : Hid (Cl.act ⟨xn, xr, xs, xo⟩ = true) := hidI (by rw [hsu, hop]; rfl)
          subst hsu hop
          go_wp2_with (first
            | (at_builtin; refine wpList_app1 (f := Cl.cells) rfl _ _ 24 rfl w.heap.size 27 4 24 infoCl rfl (by decide) Try.underlying24 cl4 cl_one wr w w.heap.size ⟨xn, xr, true, true⟩ (act (l.take k)) _ (by rfl) (by rfl) HO.out hB (Nat.le_refl _) hz (by unfold act; omega) (by unfold act maxLen; omega) ?_; intro A2 c2 w2 hown hB2 _; have HO2 := Lib.hid hown; clear hown))
          go_roundw
          case rel => exact ⟨k + 1, by omega, by go_num, by unfold act; rw [HT.out, if_pos P.out]; exact HO2.out, hB2⟩
          case measure => simp [intOf]; omega
    · obtain rfl : k = l.length := by omega
      have HT : Hid (l.take l.length = l) := hidI (List.take_of_length_le (Nat.le_refl _))
      rw [HT.out] at HO ⊢
      clear hO
      go_wp2_with fail
      go_ret
      exact ⟨A1, c1, rfl, HO.out, hB⟩

/-- the differences of two levels av shares -/
def shr : List Cl → List Int → List Int → List Sh
  | c :: r, a :: av, b :: bv => if a < b then ⟨c.node, b - a⟩ :: shr r av bv else shr r av bv
  | _, _, _ => []
theorem shr_up (l : List Cl) (ys : List Int) (h : ys.length = l.length) : shr l (lev l) ys = shUp l ys := by
  induction l generalizing ys with
  | nil => cases ys <;> rfl
  | cons c l ih =>
    cases ys with
    | nil => simp at h
    | cons y ys =>
      show (if c.res < y then ⟨c.node, y - c.res⟩ :: shr l (lev l) ys else shr l (lev l) ys) = shUp (c :: l) (y :: ys)
      rw [ih ys (by simpa using h)]
      rfl
theorem shr_down (l : List Cl) (ys : List Int) (h : ys.length = l.length) : shr l ys (lev l) = shDown l ys := by
  induction l generalizing ys with
  | nil => cases ys <;> rfl
  | cons c l ih =>
    cases ys with
    | nil => simp at h
    | cons y ys =>
      show (if y < c.res then ⟨c.node, c.res - y⟩ :: shr l ys (lev l) else shr l ys (lev l)) = shDown (c :: l) (y :: ys)
      rw [ih ys (by simpa using h)]
      rfl
theorem shr_snoc (l : List Cl) (av bv : List Int) (h1 : av.length = l.length) (h2 : bv.length = l.length) (c : Cl) (a b : Int) : shr (l ++ [c]) (av ++ [a]) (bv ++ [b]) = shr l av bv ++ if a < b then [⟨c.node, b - a⟩] else [] := by
  induction l generalizing av bv with
  | nil =>
    have : av = [] := List.eq_nil_of_length_eq_zero h1
    subst this
    have : bv = [] := List.eq_nil_of_length_eq_zero h2
    subst this
    rfl
  | cons d l ih =>
    cases av with
    | nil => simp at h1
    | cons x av =>
      cases bv with
      | nil => simp at h2
      | cons y bv =>
        have r := ih av bv (by simpa using h1) (by simpa using h2)
        show (if x < y then ⟨d.node, y - x⟩ :: shr (l ++ [c]) (av ++ [a]) (bv ++ [b]) else shr (l ++ [c]) (av ++ [a]) (bv ++ [b])) = (if x < y then ⟨d.node, y - x⟩ :: shr l av bv else shr l av bv) ++ _
        by_cases hxy : x < y
        · rw [if_pos hxy, if_pos hxy, r]; rfl
        · rw [if_neg hxy, if_neg hxy, r]
theorem shr_len (l : List Cl) (av bv : List Int) : (shr l av bv).length ≤ l.length := by
  induction l generalizing av bv with
  | nil => simp [shr]
  | cons c l ih =>
    cases av with
    | nil => simp [shr]
    | cons a av =>
      cases bv with
      | nil => simp [shr]
      | cons b bv =>
        have := ih av bv
        show (if a < b then ⟨c.node, b - a⟩ :: shr l av bv else shr l av bv).length ≤ _
        split <;> simp <;> omega

set_option maxRecDepth 100000 in
set_option maxHeartbeats 4000000 in
theorem shares_any (l : List Cl) (hl : l.length ≤ 16) (av bv : List Int) (h1 : av.length = l.length) (h2 : bv.length = l.length) (ha : LevOk av) (hb : LevOk bv) (v p q : Value) (w : World) (hS : ClAt w v l) (hP : NuAt w p av) (hQ : NuAt w q bv) :
    Calls Try.prog 39 #[v, p, q] w (RetSh (shr l av bv) w) := by
  obtain ⟨A, c, rfl, hc1, hc2, hR⟩ := hS
  obtain ⟨Ap, cp, rfl, hp1, hp2, _⟩ := id hP
  obtain ⟨Aq, cq, rfl, hq1, hq2, _⟩ := id hQ
  unfold maxLen at hc2 hp2 hq2
  rw [h1] at hp1 ⊢
  rw [h2] at hq1 ⊢
  have HR := Lib.hid hR
  have HP := Lib.hid hP
  have HQ := Lib.hid hQ
  have HA := Lib.hid ha
  have HB := Lib.hid hb
  have H1 := Lib.hid h1
  have H2 := Lib.hid h2
  clear hR hP hQ ha hb h1 h2
  go_enter Try.func39, Try.ntmps39
  go_wp2_with fail
  go_loopw [7, 8] (fun s a wr => ∃ k : Nat, k ≤ l.length ∧ a = .int .i64 k ∧ OwnSh w wr s (shr (l.take k) (av.take k) (bv.take k)) ∧ Below w.heap.size w wr) (fun _ a _ => l.length - (intOf a).toNat)
  case atStart => exact ⟨0, by omega, rfl, World.ownsRow_nil _ _ _ _, Below.refl _ _⟩
  case round =>
    obtain ⟨k, hk, rfl, hO, hB⟩ := hrel
    obtain ⟨A1, c1, rfl⟩ := own_form hO
    have hz := hB.size
    have HO := Lib.hid hO
    by_cases hlt : k < l.length
    · obtain ⟨x, hx⟩ : ∃ x, l[k]? = some x := ⟨_, List.getElem?_eq_getElem hlt⟩
      obtain ⟨y, hy⟩ : ∃ y, av[k]? = some y := ⟨_, List.getElem?_eq_getElem (by rw [H1.out]; exact hlt)⟩
      obtain ⟨z, hz'⟩ : ∃ z, bv[k]? = some z := ⟨_, List.getElem?_eq_getElem (by rw [H2.out]; exact hlt)⟩
      obtain ⟨b, o, rfl, hbl, x0, x1, x2, x3⟩ := reads_fl4 cl4 HR.out rfl hx (by rfl : x.cells = [_, _, _, _])
      have HP' := HP.out
      rw [H1.out] at HP'
      have HQ' := HQ.out
      rw [H2.out] at HQ'
      obtain ⟨b2, o2, rfl, hbl2, y0⟩ := NuAt.get HP' hy
      obtain ⟨b3, o3, rfl, hbl3, z0⟩ := NuAt.get HQ' hz'
      have e0 := (hB.cell (p := ⟨b, o + k * 4, none⟩) hbl).trans x0
      have e1 := (hB.cell (p := ⟨b2, o2 + k, none⟩) hbl2).trans y0
      have e2 := (hB.cell (p := ⟨b3, o3 + k, none⟩) hbl3).trans z0
      obtain ⟨hy0, hy1⟩ := HA.out y (List.mem_of_getElem? hy)
      obtain ⟨hz0, hz1⟩ := HB.out z (List.mem_of_getElem? hz')
      have hi : (k : Int) < l.length := by omega
      have hi0 : (0 : Int) ≤ k := by omega
      have HT : Hid (shr (l.take (k + 1)) (av.take (k + 1)) (bv.take (k + 1)) = shr (l.take k) (av.take k) (bv.take k) ++ if y < z then [⟨x.node, z - y⟩] else []) := hidI (by
        rw [take_snoc' hx, take_snoc' hy, take_snoc' hz']
        exact shr_snoc _ _ _ (by rw [List.length_take, List.length_take, H1.out]) (by rw [List.length_take, List.length_take, H2.out]) _ _ _)
      have hlen : (shr (l.take k) (av.take k) (bv.take k)).length ≤ 16 := Nat.le_trans (shr_len _ _ _) (by rw [List.length_take]; omega)
      clear hx hy hz' hO HP' HQ' x1 x2 x3
      by_cases hyz : y < z
      · have HT2 : Hid (shr (l.take (k + 1)) (av.take (k + 1)) (bv.take (k + 1)) = shr (l.take k) (av.take k) (bv.take k) ++ [⟨x.node, z - y⟩]) := hidI (by rw [HT.out, if_pos hyz])
        have t1 : decide (y < z) = true := by simpa using hyz
        have WS : IntKind.u64.wrap (z - y) = z - y := IntWalk.u64_in _ (by omega)
        go_wp2_with fail
        go_quiet (fail)
        go_wp2_with fail
        go_region_held3 (fun w' => w'.cell? ⟨b, o + k * 4, none⟩ = some (.int .i64 x.node) ∧ w'.cell? ⟨b2, o2 + k, none⟩ = some (.int .u64 y) ∧ w'.cell? ⟨b3, o3 + k, none⟩ = some (.int .u64 z)) (first | go_keep | exact ⟨(hB2.cell (p := ⟨b, o + k * 4, none⟩) hbl).trans x0, (hB2.cell (p := ⟨b2, o2 + k, none⟩) hbl2).trans y0, (hB2.cell (p := ⟨b3, o3 + k, none⟩) hbl3).trans z0⟩)
          ((refine step_app (f := Sh.cells) (by rfl) _ _ 28 (by rfl) w.heap.size 58 2 16 infoSh rfl (by decide) Try.underlying28 sh2 sh_one _ w w.heap.size ⟨x.node, z - y⟩ (shr (l.take k) (av.take k) (bv.take k)) _ wr.heap.size (by rfl) (by rfl) (by first | exact (Blk.new _ _ _).drew | exact Blk.new _ _ _ | exact (Blk.new wr _ _).drewN _) (by first | exact (HO.out.alloc _).drew | exact HO.out.alloc _) (by exact (by repeat (first | with_reducible exact Below.refl _ _ | with_reducible refine Below.drew ?_ | with_reducible refine below_drewN ?_ _ | with_reducible refine bal ?_ _ | with_reducible refine bset ?_ (by first | (simp; done) | (simp; omega)) _ | with_reducible refine bnext ?_ (by assumption) | with_reducible assumption))) (Nat.le_refl _) (by simp; omega) (by omega) (by unfold maxLen; omega) ?_; intro A2 c2 w2 hown hB2 _; have HO2 := Lib.hid hown; clear hown))
        clear WS
        go_wp2_with fail
        go_roundw
        case rel => exact ⟨k + 1, by omega, by go_num, by rw [HT2.out]; exact HO2.out, hB2⟩
        case measure => simp [intOf]; omega
      · have HT2 : Hid (shr (l.take (k + 1)) (av.take (k + 1)) (bv.take (k + 1)) = shr (l.take k) (av.take k) (bv.take k)) := hidI (by rw [HT.out, if_neg hyz, List.append_nil])
        have t1 : decide (y < z) = false := by simpa using hyz
        go_wp2_with fail
        go_quiet (fail)
        go_wp2_with fail
        go_roundw
        case rel => exact ⟨k + 1, by omega, by go_num, by rw [HT2.out]; exact HO.out, (by repeat (first | with_reducible exact Below.refl _ _ | with_reducible refine Below.drew ?_ | with_reducible refine below_drewN ?_ _ | with_reducible refine bal ?_ _ | with_reducible refine bset ?_ (by first | (simp; done) | (simp; omega)) _ | with_reducible refine bnext ?_ (by assumption) | with_reducible assumption))⟩
        case measure => simp [intOf]; omega
    · obtain rfl : k = l.length := by omega
      have HT : Hid (shr (l.take l.length) (av.take l.length) (bv.take l.length) = shr l av bv) := hidI (by rw [List.take_of_length_le (Nat.le_refl _), List.take_of_length_le (by rw [H1.out]; exact Nat.le_refl _), List.take_of_length_le (by rw [H2.out]; exact Nat.le_refl _)])
      rw [HT.out] at HO ⊢
      clear hO
      go_wp2_with fail
      go_ret
      exact ⟨A1, c1, rfl, HO.out, hB⟩
end Go.Proofs.Ytlpdebbedoibiaa
