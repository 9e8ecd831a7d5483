/- Contracts: the reference's helpers. -/
import Derived.Test.YtlpdebbedoibiaaM
import Derived.Test.YtlpdebbedoibiaaA2
import Derived.Test.YtlpdebbedoibiaaL
import Derived.Test.YtlpdebbedoibiaaO
namespace Go.Proofs.Ytlpdebbedoibiaa
open Go.RowKit
set_option linter.unusedVariables false
set_option linter.unusedSimpArgs false

def U1 (x : Int) : List Value := [.int .u64 x]
theorem u1 (x : Int) : (U1 x).length = 1 := rfl
theorem u1_one (x : Int) : ∀ u ∈ U1 x, u.oneCell' = true := by
  intro u hu
  simp [U1] at hu
  subst hu
  rfl
theorem fl_u1 (xs : List Int) : fl U1 xs = nums xs := by
  induction xs with
  | nil => rfl
  | cons x xs ih => rw [fl_cons, ih]; rfl
theorem infoU : (Try.prog.info? 23).map (fun i => (i.zero, i.size, i.bytes)) = some (some (.int .u64 0), 1, 8) := by kernel_rfl
/-- numbers in a slice -/
def NuAt (w : World) (v : Value) (xs : List Int) : Prop := SlAt w 1 v xs.length (nums xs)
def OwnU (w w' : World) (v : Value) (xs : List Int) : Prop := w'.ownsRow w.heap.size 23 1 v xs.length (fl U1 xs)
theorem OwnU.at {w w' : World} {v : Value} {xs : List Int} (h : OwnU w w' v xs) : NuAt w' v xs := by have := SlAt.own h; unfold NuAt; rwa [fl_u1] at this
def RetU (xs : List Int) (w : World) (e : Ending) (w' : World) : Prop := ∃ A c, e = .returned (.slice A xs.length c) ∧ NuAt w' (.slice A xs.length c) xs ∧ Below w.heap.size w w'
theorem NuAt.below {w w' : World} {v : Value} {xs : List Int} (h : NuAt w v xs) (hb : Below w.heap.size w w') : NuAt w' v xs := SlAt.below h hb
theorem NuAt.get {w : World} {A : Option Addr} {n c : Nat} {xs : List Int} (h : NuAt w (.slice A n c) xs) {i : Nat} {x : Int} (hx : xs[i]? = some x) : ∃ b o, A = some ⟨b, o, none⟩ ∧ b < w.heap.size ∧ w.cell? ⟨b, o + i, none⟩ = some (.int .u64 x) := by
  obtain ⟨A', c', e, _, _, hR⟩ := h
  cases e
  exact reads_at hR (by unfold nums; rw [List.getElem?_map, hx]; rfl)
theorem NuAt.caps {w : World} {A : Option Addr} {n c : Nat} {xs : List Int} (h : NuAt w (.slice A n c) xs) : n = xs.length ∧ n ≤ c ∧ c ≤ 9223372036854775807 := by
  obtain ⟨A', c', e, h1, h2, hR⟩ := h
  cases e
  unfold maxLen at h2
  exact ⟨rfl, h1, h2⟩

set_option maxHeartbeats 2000000 in
theorem rasks_any (l : List Cl) (a b c : Int) (v : Value) (w : World) (hS : ClAt w v l) :
    Calls Try.prog 37 #[v, .int .u64 a, .int .u64 b, .int .u64 c] w (RetI .i64 (askE l [a, b, c]) w) := by
  have HC := Lib.hid (rCheck_any l v w hS)
  clear hS
  by_cases h0 : (cchk l).1 = 0
  · have E : Hid (askE l [a, b, c] = if tooBig [a, b, c] = true then 2 else 0) := if_neg (fun h => h h0)
    have H0 := Lib.hid h0
    clear h0
    by_cases ha : 1125899906842624 < a
    · have T : Hid (tooBig [a, b, c] = true) := hidI (List.any_eq_true.2 ⟨a, by simp, by simpa using ha⟩)
      go_enter Try.func37, Try.ntmps37
      go_wp2_with fail
      refine HC.out.mono ?_
      rintro e w1 ⟨rfl, hb1⟩
      rw [H0.out]
      go_wp2_with fail
      go_ret
      exact ⟨by rw [E.out, if_pos T.out]; rfl, hb1⟩
    · by_cases hb : 1125899906842624 < b
      · have T : Hid (tooBig [a, b, c] = true) := hidI (List.any_eq_true.2 ⟨b, by simp, by simpa using hb⟩)
        go_enter Try.func37, Try.ntmps37
        go_wp2_with fail
        refine HC.out.mono ?_
        rintro e w1 ⟨rfl, hb1⟩
        rw [H0.out]
        go_wp2_with fail
        go_ret
        exact ⟨by rw [E.out, if_pos T.out]; rfl, hb1⟩
      · by_cases hc : 1125899906842624 < c
        · have T : Hid (tooBig [a, b, c] = true) := hidI (List.any_eq_true.2 ⟨c, by simp, by simpa using hc⟩)
          go_enter Try.func37, Try.ntmps37
          go_wp2_with fail
          refine HC.out.mono ?_
          rintro e w1 ⟨rfl, hb1⟩
          rw [H0.out]
          go_wp2_with fail
          go_ret
          exact ⟨by rw [E.out, if_pos T.out]; rfl, hb1⟩
        · have T : Hid (¬ tooBig [a, b, c] = true) := hidI (by
            intro h
            obtain ⟨x, hx, hx2⟩ := List.any_eq_true.1 h
            simp at hx hx2
            rcases hx with rfl | rfl | rfl <;> omega)
          go_enter Try.func37, Try.ntmps37
          go_wp2_with fail
          refine HC.out.mono ?_
          rintro e w1 ⟨rfl, hb1⟩
          rw [H0.out]
          go_wp2_with fail
          go_ret
          exact ⟨by rw [E.out, if_neg T.out]; rfl, hb1⟩
  · have E : Hid (askE l [a, b, c] = (cchk l).1) := if_pos h0
    have hne : ((cchk l).1 == 0) = false := by rw [beq_eq_false_iff_ne]; exact h0
    clear h0
    go_enter Try.func37, Try.ntmps37
    go_wp2_with fail
    refine HC.out.mono ?_
    rintro e w1 ⟨rfl, hb1⟩
    go_wp2_with fail
    go_ret
    exact ⟨by rw [E.out]; rfl, hb1⟩

set_option maxRecDepth 100000 in
set_option maxHeartbeats 2000000 in
theorem levels_any (l : List Cl) (v : Value) (w : World) (hS : ClAt w v l) (hl : l.length ≤ 1000) :
    Calls Try.prog 40 #[v] w (RetU (lev l) w) := by
  obtain ⟨A, c, rfl, hc1, hc2, hR⟩ := hS
  unfold maxLen at hc2
  have HR := Lib.hid hR
  clear hR
  go_enter Try.func40, Try.ntmps40
  go_wp2_with fail
  go_loopw [3, 4] (fun s a wr => ∃ k : Nat, k ≤ l.length ∧ a = .int .i64 k ∧ OwnU w wr s (lev (l.take k)) ∧ Below w.heap.size w wr) (fun _ a _ => l.length - (intOf a).toNat)
  case atStart => exact ⟨0, by omega, rfl, World.ownsRow_nil _ _ _ _, Below.refl _ _⟩
  case round =>
    obtain ⟨k, hk, rfl, hO, hB⟩ := hrel
    obtain ⟨A1, c1, rfl⟩ := own_form hO
    have hz := hB.size
    have HO := Lib.hid hO
    by_cases hlt : k < l.length
    · obtain ⟨x, hx⟩ : ∃ x, l[k]? = some x := ⟨_, List.getElem?_eq_getElem hlt⟩
      obtain ⟨b, o, rfl, hb, d0, d1, d2, d3⟩ := reads_fl4 cl4 (HR.out.keep hB.size fun b o h => hB.cell (p := ⟨b, o, none⟩) h) rfl hx (by rfl : x.cells = [_, _, _, _])
      have hi : (k : Int) < l.length := by omega
      have HT := hidI (lev_take hx)
      have hlen : (lev (l.take k)).length ≤ k := by rw [lev_len]; exact List.length_take_le _ _
      clear hx hO
      go_wp2_with (first
        | (at_builtin; refine wpList_app1 (f := U1) rfl _ _ 61 rfl w.heap.size 23 1 8 infoU rfl (by decide) Try.underlying61 u1 u1_one wr w w.heap.size x.res (lev (l.take k)) _ (by rfl) (by rfl) HO.out hB (Nat.le_refl _) hz (by omega) (by unfold maxLen; omega) ?_; intro A2 c2 w2 hown hB2 _; have HO2 := Lib.hid hown; clear hown))
      go_roundw
      case rel => exact ⟨k + 1, by omega, by go_num, by rw [HT.out]; exact HO2.out, hB2⟩
      case measure => simp [intOf]; omega
    · obtain rfl : k = l.length := by omega
      have HT : Hid (l.take l.length = l) := hidI (List.take_of_length_le (Nat.le_refl _))
      have HN := hidI hO.at
      rw [HT.out] at HN ⊢
      clear hO HO
      go_wp2_with fail
      go_ret
      exact ⟨A1, c1, rfl, HN.out, hB⟩

theorem needs_take' {L : List Int} {k : Nat} {x : Int} (v : Int) (h : L[k]? = some x) : needs (L.take (k + 1)) v = needs (L.take k) v + (mx x v - x) := by rw [take_snoc' h, needs_app]; simp
theorem gives_take' {L : List Int} {k : Nat} {x : Int} (v : Int) (h : L[k]? = some x) : gives (L.take (k + 1)) v = gives (L.take k) v + (x - mn x v) := by rw [take_snoc' h, gives_app]; simp

set_option maxRecDepth 100000 in
set_option maxHeartbeats 2000000 in
theorem missing_any (L : List Int) (hl : L.length ≤ 16) (hL : LevOk L) (level : Int) (h0 : 0 ≤ level) (h1 : level ≤ 1125899906842624) (v : Value) (w : World) (hS : NuAt w v L) :
    Calls Try.prog 51 #[v, .int .u64 level] w (RetI .u64 (needs L level) w) := by
  obtain ⟨A, c, rfl, hc1, hc2, _⟩ := id hS
  unfold maxLen at hc2
  have HS := Lib.hid hS
  have HL := Lib.hid hL
  clear hS hL
  go_enter Try.func51, Try.ntmps51
  go_wp2_with fail
  go_loopw [5, 6] (fun s a wr => ∃ k : Nat, k ≤ L.length ∧ a = .int .i64 k ∧ s = .int .u64 (needs (L.take k) level) ∧ Below w.heap.size w wr) (fun _ a _ => L.length - (intOf a).toNat)
  case atStart => exact ⟨0, by omega, rfl, rfl, Below.refl _ _⟩
  case round =>
    obtain ⟨k, hk, rfl, rfl, hB⟩ := hrel
    by_cases hlt : k < L.length
    · obtain ⟨x, hx⟩ : ∃ x, L[k]? = some x := ⟨_, List.getElem?_eq_getElem hlt⟩
      obtain ⟨b, o, rfl, hb, d0⟩ := (HS.out.below hB).get hx
      obtain ⟨hx0, hx1⟩ := HL.out x (List.mem_of_getElem? hx)
      have HT := hidI (needs_take' level hx)
      have hn0 := needs_nonneg (L.take k) level
      have hn1 : needs (L.take k) level ≤ 18014398509481984 := by
        have := needs_bd (L.take k) level 1125899906842624 (fun y hy => (HL.out y (List.mem_of_mem_take hy)).1) h0 h1
        have e : ((L.take k).length : Int) ≤ 16 := by rw [List.length_take]; omega
        have : ((L.take k).length : Int) * 1125899906842624 ≤ 16 * 1125899906842624 := Int.mul_le_mul_of_nonneg_right e (by decide)
        omega
      have hi : (k : Int) < L.length := by omega
      clear hx
      generalize needs (L.take k) level = s at *
      by_cases c1 : x < level
      · have HM : Hid (mx x level = level) := if_pos c1
        go_wp2_with fail
        go_roundw
        case rel => exact ⟨k + 1, by omega, by go_num, by rw [HT.out, HM.out]; go_num, hB⟩
        case measure => simp [intOf]; omega
      · have HM : Hid (mx x level = x) := if_neg c1
        go_wp2_with fail
        go_roundw
        case rel => exact ⟨k + 1, by omega, by go_num, by rw [HT.out, HM.out]; simp, hB⟩
        case measure => simp [intOf]; omega
    · obtain rfl : k = L.length := by omega
      have HT : Hid (L.take L.length = L) := hidI (List.take_of_length_le (Nat.le_refl _))
      go_wp2_with fail
      go_ret
      exact ⟨by rw [HT.out]; rfl, hB⟩
set_option maxRecDepth 100000 in
set_option maxHeartbeats 2000000 in
theorem above_any (L : List Int) (hl : L.length ≤ 16) (hL : LevOk L) (level : Int) (h0 : 0 ≤ level) (h1 : level ≤ 1125899906842624) (v : Value) (w : World) (hS : NuAt w v L) :
    Calls Try.prog 52 #[v, .int .u64 level] w (RetI .u64 (gives L level) w) := by
  obtain ⟨A, c, rfl, hc1, hc2, _⟩ := id hS
  unfold maxLen at hc2
  have HS := Lib.hid hS
  have HL := Lib.hid hL
  clear hS hL
  go_enter Try.func52, Try.ntmps52
  go_wp2_with fail
  go_loopw [5, 6] (fun s a wr => ∃ k : Nat, k ≤ L.length ∧ a = .int .i64 k ∧ s = .int .u64 (gives (L.take k) level) ∧ Below w.heap.size w wr) (fun _ a _ => L.length - (intOf a).toNat)
  case atStart => exact ⟨0, by omega, rfl, rfl, Below.refl _ _⟩
  case round =>
    obtain ⟨k, hk, rfl, rfl, hB⟩ := hrel
    by_cases hlt : k < L.length
    · obtain ⟨x, hx⟩ : ∃ x, L[k]? = some x := ⟨_, List.getElem?_eq_getElem hlt⟩
      obtain ⟨b, o, rfl, hb, d0⟩ := (HS.out.below hB).get hx
      obtain ⟨hx0, hx1⟩ := HL.out x (List.mem_of_getElem? hx)
      have HT := hidI (gives_take' level hx)
      have hn0 := gives_nonneg (L.take k) level
      have hn1 : gives (L.take k) level ≤ 18014398509481984 := by
        have := gives_bd (L.take k) level 1125899906842624 (fun y hy => HL.out y (List.mem_of_mem_take hy)) h0
        have e : ((L.take k).length : Int) ≤ 16 := by rw [List.length_take]; omega
        have : ((L.take k).length : Int) * 1125899906842624 ≤ 16 * 1125899906842624 := Int.mul_le_mul_of_nonneg_right e (by decide)
        omega
      have hi : (k : Int) < L.length := by omega
      clear hx
      generalize gives (L.take k) level = s at *
      by_cases c1 : level < x
      · have HM : Hid (mn x level = level) := if_pos c1
        go_wp2_with fail
        go_roundw
        case rel => exact ⟨k + 1, by omega, by go_num, by rw [HT.out, HM.out]; go_num, hB⟩
        case measure => simp [intOf]; omega
      · have HM : Hid (mn x level = x) := if_neg c1
        go_wp2_with fail
        go_roundw
        case rel => exact ⟨k + 1, by omega, by go_num, by rw [HT.out, HM.out]; simp, hB⟩
        case measure => simp [intOf]; omega
    · obtain rfl : k = L.length := by omega
      have HT : Hid (L.take L.length = L) := hidI (List.take_of_length_le (Nat.le_refl _))
      go_wp2_with fail
      go_ret
      exact ⟨by rw [HT.out]; rfl, hB⟩
end Go.Proofs.Ytlpdebbedoibiaa
