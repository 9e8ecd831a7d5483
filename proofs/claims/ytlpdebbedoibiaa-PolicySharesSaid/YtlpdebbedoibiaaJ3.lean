/- Contract: claims with shares taken. -/
import Derived.Test.YtlpdebbedoibiaaJ2
namespace Go.Proofs.Ytlpdebbedoibiaa
open Go.RowKit
set_option linter.unusedVariables false
set_option linter.unusedSimpArgs false

set_option maxRecDepth 100000 in
set_option maxHeartbeats 4000000 in
theorem after_down (l : List Cl) (s : List Sh) (out : List Cl) (h : aft true l s = some out) (hl : l.length ≤ 16) (hr : ∀ c ∈ l, 0 ≤ c.res ∧ c.res ≤ 1125899906842624) (hs : ShWf s) (v u : Value) (w : World) (hS : ClAt w v l) (hT : ShAt w u s) :
    Calls Try.prog 12 #[v, u, .bool true] w (RetAft out w) := by
  obtain ⟨B, d, rfl, hd1, hd2, hT'⟩ := hT
  unfold maxLen at hd2
  have HS := Lib.hid hS
  have HT := Lib.hid hT'
  have HA := Lib.hid (AftMid.start h)
  have HR := Lib.hid hr
  have HSW := Lib.hid hs
  have hsl := hs.1
  clear hS hT' h hr hs
  go_enter Try.func12, Try.ntmps12
  go_wp2_with fail
  refine (own_any l v w HS.out (by omega)).mono ?_
  rintro e w1 ⟨A, c, rfl, ho, hb1⟩
  have HO := Lib.hid ho
  have hc : l.length ≤ c ∧ c ≤ 9223372036854775807 := by
    obtain ⟨A', c', e, h1, h2, _⟩ := SlAt.own ho
    cases e
    unfold maxLen at h2
    exact ⟨h1, h2⟩
  obtain ⟨hc1, hc2⟩ := hc
  clear ho
  go_wp2_with fail
  go_loopw [9, 10] (fun b a wr => ∃ (i k : Nat) (M : List Cl), i ≤ l.length ∧ k ≤ s.length ∧ a = .int .i64 i ∧ b = .int .i64 k ∧ AftMid true l s out i k M ∧ wr.ownsRow w.heap.size 27 4 (.slice A l.length c) l.length (fl Cl.cells M) ∧ Below w.heap.size w wr) (fun _ a _ => l.length - (intOf a).toNat)
  case atStart => exact ⟨0, 0, l, by omega, by omega, rfl, rfl, HA.out, HO.out, hb1⟩
  case round =>
    clear HO hb1
    obtain ⟨i, k, M, hi, hk, rfl, rfl, hM, hO, hB⟩ := hrel
    have HM := Lib.hid hM
    have HO := Lib.hid hO
    have hz := hB.size
    by_cases hlt : i < l.length
    · have hi1 : (i : Int) < l.length := by omega
      by_cases hkt : k < s.length
      · have hk1 : (k : Int) < s.length := by omega
        obtain ⟨x, hx⟩ : ∃ x, l[i]? = some x := ⟨_, List.getElem?_eq_getElem hlt⟩
        obtain ⟨y, hy⟩ : ∃ y, s[k]? = some y := ⟨_, List.getElem?_eq_getElem hkt⟩
        obtain ⟨g, o, rfl, hg, y0, y1⟩ := reads_fl2 sh2 (HT.out.keep hB.size fun b o h => hB.cell (p := ⟨b, o, none⟩) h) rfl hy (by rfl : y.cells = [_, _])
        obtain ⟨G, hG⟩ : ∃ G, A = some ⟨G, 0, none⟩ := by
          rcases hO.2 with ⟨h, _⟩ | ⟨G, cap, cur, h, _⟩
          · have h0 : l.length = 0 := by simp at h; omega
            omega
          · cases h; exact ⟨_, rfl⟩
        subst hG
        have x0 : wr.cell? ⟨G, i * 4, none⟩ = some (.int .i64 x.node) := own_cell cl4 hO i 0 (hM.at hx) (by decide)
        have x1 : wr.cell? ⟨G, i * 4 + 1, none⟩ = some (.int .u64 x.res) := own_cell cl4 hO i 1 (hM.at hx) (by decide)
        have f1 := hO.frozenAt (i * 4 + 1)
        have hwG := (hO.lt G rfl).1
        have hGr := (hO.lt G rfl).2
        obtain ⟨hr0, hr1⟩ := HR.out x (List.mem_of_getElem? hx)
        obtain ⟨hb0, hb1⟩ := HSW.out.2 y (List.mem_of_getElem? hy)
        have hi0 : (0 : Int) ≤ i := by omega
        have hk0 : (0 : Int) ≤ k := by omega
        by_cases hn : x.node = y.node
        · obtain ⟨hbx, hU⟩ := hM.down hx hy hn
          have HU := Lib.hid hU
          have P := Lib.hid (own_store cl4 hO i 1 (y := { x with res := x.res - y.bytes }) (u := .int .u64 (x.res - y.bytes)) (hM.at hx) (by decide) rfl)
          have t1 : (x.node != y.node) = false := by rw [bne_eq_false_iff_eq]; exact hn
          have t2 : decide (x.res < y.bytes) = false := by simpa using hbx
          have WS : IntKind.u64.wrap (x.res - y.bytes) = x.res - y.bytes := IntWalk.u64_in _ (by omega)
          clear hx hy hM hO hn hU
          go_wp2_with fail
          go_quiet (fail)
          go_wp2_with fail
          go_quiet (fail)
          go_wp2_with fail
          go_region
          clear WS
          go_wp2_with fail
          go_roundw
          case rel => exact ⟨i + 1, k + 1, _, by omega, by omega, by go_num, by go_num, HU.out, P.out, (by repeat (first | with_reducible exact Below.refl _ _ | with_reducible refine Below.drew ?_ | with_reducible refine below_drewN ?_ _ | with_reducible refine bal ?_ _ | with_reducible refine bset ?_ (by first | (simp; done) | (simp; omega)) _ | with_reducible refine bnext ?_ (by assumption) | with_reducible assumption))⟩
          case measure => simp [intOf]; omega
        · have HU := Lib.hid (hM.skip hx hy hn)
          have t1 : (x.node != y.node) = true := by rw [bne_iff_ne]; exact hn
          clear hx hy hM hO hn
          go_wp2_with fail
          go_quiet (fail)
          go_wp2_with fail
          go_roundw
          case rel => exact ⟨i + 1, k, M, by omega, by omega, by go_num, rfl, HU.out, by first | exact HO.out | exact (HO.out : _), (by repeat (first | with_reducible exact Below.refl _ _ | with_reducible refine Below.drew ?_ | with_reducible refine below_drewN ?_ _ | with_reducible refine bal ?_ _ | with_reducible refine bset ?_ (by first | (simp; done) | (simp; omega)) _ | with_reducible refine bnext ?_ (by assumption) | with_reducible assumption))⟩
          case measure => simp [intOf]; omega
      · obtain rfl : k = s.length := by omega
        have hk1 : ¬ (s.length : Int) < s.length := by omega
        have HE := hidI (hM.endS (Nat.le_refl _))
        have HEL := hidI (hM.len hi)
        clear hM hO
        go_wp2_with fail
        go_ret2
        exact ⟨A, c, by rw [← HE.out, HEL.out]; rfl, by unfold OwnCl; rw [← HE.out, HEL.out]; exact HO.out, hB⟩
    · obtain rfl : i = l.length := by omega
      have hk2 := hM.endL (Nat.le_refl _)
      obtain rfl : k = s.length := by omega
      have HE := hidI (hM.endS (Nat.le_refl _))
      have HEL := hidI (hM.len hi)
      clear hM hO
      go_wp2_with fail
      go_ret2
      exact ⟨A, c, by rw [← HE.out, HEL.out]; rfl, by unfold OwnCl; rw [← HE.out, HEL.out]; exact HO.out, hB⟩
end Go.Proofs.Ytlpdebbedoibiaa
