/- Contracts: claims with shares, sums of shares. -/
import Derived.Test.YtlpdebbedoibiaaJ
namespace Go.Proofs.Ytlpdebbedoibiaa
open Go.RowKit
set_option linter.unusedVariables false
set_option linter.unusedSimpArgs false

theorem shSum_app (a b : List Sh) : shSum (a ++ b) = shSum a + shSum b := by simp [shSum]
theorem shSum_take {l : List Sh} {k : Nat} {x : Sh} (h : l[k]? = some x) : shSum (l.take (k + 1)) = shSum (l.take k) + x.bytes := by
  obtain ⟨hk, rfl⟩ := List.getElem?_eq_some_iff.1 h
  rw [List.take_succ_eq_append_getElem hk, shSum_app]; simp [shSum]
/-- shares of few bytes -/
def ShWf (l : List Sh) : Prop := l.length ≤ 100 ∧ ∀ x ∈ l, 0 ≤ x.bytes ∧ x.bytes ≤ 1125899906842624
theorem shSum_bd {l : List Sh} (h : ∀ x ∈ l, 0 ≤ x.bytes ∧ x.bytes ≤ 1125899906842624) : 0 ≤ shSum l ∧ shSum l ≤ l.length * 1125899906842624 := by
  induction l with
  | nil => simp [shSum]
  | cons x l ih =>
    have a := ih fun y hy => h y (by simp [hy])
    have b := h x (by simp)
    have e : shSum (x :: l) = x.bytes + shSum l := by simp [shSum]
    rw [e, List.length_cons]
    have : ((l.length + 1 : Nat) : Int) * 1125899906842624 = l.length * 1125899906842624 + 1125899906842624 := by omega
    omega

set_option maxRecDepth 100000 in
set_option maxHeartbeats 2000000 in
theorem sum_any (l : List Sh) (hw : ShWf l) (v : Value) (w : World) (hS : ShAt w v l) :
    Calls Try.prog 13 #[v] w (RetI .u64 (shSum l) w) := by
  obtain ⟨A, c, rfl, hc1, hc2, hR⟩ := hS
  unfold maxLen at hc2
  have HR := Lib.hid hR
  have HW := Lib.hid hw
  have hl := hw.1
  clear hR hw
  go_enter Try.func13, Try.ntmps13
  go_wp2_with fail
  go_loopw [3, 4] (fun s a wr => ∃ k : Nat, k ≤ l.length ∧ a = .int .i64 k ∧ s = .int .u64 (shSum (l.take k)) ∧ Below w.heap.size w wr) (fun _ a _ => l.length - (intOf a).toNat)
  case atStart => exact ⟨0, by omega, rfl, rfl, Below.refl _ _⟩
  case round =>
    obtain ⟨k, hk, rfl, rfl, hB⟩ := hrel
    by_cases hlt : k < l.length
    · obtain ⟨x, hx⟩ : ∃ x, l[k]? = some x := ⟨_, List.getElem?_eq_getElem hlt⟩
      obtain ⟨b, o, rfl, hb, x0, x1⟩ := reads_fl2 sh2 (HR.out.keep hB.size fun b o h => hB.cell (p := ⟨b, o, none⟩) h) rfl hx (by rfl : x.cells = [_, _])
      have hi : (k : Int) < l.length := by omega
      have hx0 := HW.out.2 x (List.mem_of_getElem? hx)
      have hs := shSum_bd (l := l.take k) (fun y hy => HW.out.2 y (List.mem_of_mem_take hy))
      have hsl : ((l.take k).length : Int) * 1125899906842624 ≤ 100 * 1125899906842624 := Int.mul_le_mul_of_nonneg_right (by rw [List.length_take]; omega) (by decide)
      obtain ⟨hs0, hs1⟩ := hs
      obtain ⟨hx0, hx1⟩ := hx0
      have hs2 : shSum (l.take k) ≤ 112589990684262400 := by omega
      have HT := hidI (shSum_take hx)
      clear hx hs1 hsl
      generalize shSum (l.take k) = s at *
      go_wp2_with fail
      go_roundw
      case rel => exact ⟨k + 1, by omega, by go_num, by rw [HT.out], hB⟩
      case measure => simp [intOf]; omega
    · obtain rfl : k = l.length := by omega
      have HT : Hid (l.take l.length = l) := hidI (List.take_of_length_le (Nat.le_refl _))
      go_wp2_with fail
      go_ret
      exact ⟨by rw [HT.out]; rfl, hB⟩

def RetAft (l : List Cl) (w : World) (e : Ending) (w' : World) : Prop := ∃ A c, e = .returned (.tuple #[.slice A l.length c, .bool true]) ∧ OwnCl w w' (.slice A l.length c) l ∧ Below w.heap.size w w'
/-- behind i claims and k shares: what has been done, what is still to be done -/
def AftMid (less : Bool) (l : List Cl) (s : List Sh) (out : List Cl) (i k : Nat) (M : List Cl) : Prop := ∃ P R, P.length = i ∧ M = P ++ l.drop i ∧ aft less (l.drop i) (s.drop k) = some R ∧ P ++ R = out
theorem AftMid.start {less : Bool} {l : List Cl} {s : List Sh} {out : List Cl} (h : aft less l s = some out) : AftMid less l s out 0 0 l := ⟨[], out, rfl, rfl, h, rfl⟩
theorem AftMid.at {less : Bool} {l : List Cl} {s : List Sh} {out : List Cl} {i k : Nat} {M : List Cl} (h : AftMid less l s out i k M) {x : Cl} (hx : l[i]? = some x) : M[i]? = some x := by
  obtain ⟨P, R, hP, rfl, _⟩ := h
  rw [List.getElem?_append_right (by omega), hP, Nat.sub_self, List.getElem?_drop, Nat.add_zero, hx]
theorem AftMid.len {less : Bool} {l : List Cl} {s : List Sh} {out : List Cl} {i k : Nat} {M : List Cl} (h : AftMid less l s out i k M) (hi : i ≤ l.length) : M.length = l.length := by
  obtain ⟨P, R, hP, rfl, _⟩ := h
  rw [List.length_append, List.length_drop]; omega
theorem AftMid.skip {less : Bool} {l : List Cl} {s : List Sh} {out : List Cl} {i k : Nat} {M : List Cl} (h : AftMid less l s out i k M) {x : Cl} {y : Sh} (hx : l[i]? = some x) (hy : s[k]? = some y) (hn : x.node ≠ y.node) : AftMid less l s out (i + 1) k M := by
  obtain ⟨P, R, hP, rfl, h1, h2⟩ := h
  obtain ⟨hi, rfl⟩ := List.getElem?_eq_some_iff.1 hx
  obtain ⟨hk, rfl⟩ := List.getElem?_eq_some_iff.1 hy
  rw [List.drop_eq_getElem_cons hi] at h1 ⊢
  rw [List.drop_eq_getElem_cons hk, aft, if_pos hn, ← List.drop_eq_getElem_cons hk] at h1
  obtain ⟨R', hR', rfl⟩ := Option.map_eq_some_iff.1 h1
  exact ⟨P ++ [l[i]], R', by simp [hP], by simp, hR', by rw [← h2]; simp⟩
theorem AftMid.up {l : List Cl} {s : List Sh} {out : List Cl} {i k : Nat} {M : List Cl} (h : AftMid false l s out i k M) {x : Cl} {y : Sh} (hx : l[i]? = some x) (hy : s[k]? = some y) (hn : x.node = y.node) : AftMid false l s out (i + 1) (k + 1) (M.set i { x with res := x.res + y.bytes }) := by
  obtain ⟨P, R, hP, rfl, h1, h2⟩ := h
  obtain ⟨hi, rfl⟩ := List.getElem?_eq_some_iff.1 hx
  obtain ⟨hk, rfl⟩ := List.getElem?_eq_some_iff.1 hy
  rw [List.drop_eq_getElem_cons hi] at h1 ⊢
  rw [List.drop_eq_getElem_cons hk, aft, if_neg (by simp [hn]), if_neg (by decide)] at h1
  obtain ⟨R', hR', rfl⟩ := Option.map_eq_some_iff.1 h1
  refine ⟨P ++ [⟨l[i].node, l[i].res + s[k].bytes, l[i].sure, l[i].opn⟩], R', by simp [hP], ?_, hR', by rw [← h2]; simp⟩
  rw [List.set_append_right _ _ (by omega), hP, Nat.sub_self, List.set_cons_zero, List.append_assoc]; rfl
theorem AftMid.down {l : List Cl} {s : List Sh} {out : List Cl} {i k : Nat} {M : List Cl} (h : AftMid true l s out i k M) {x : Cl} {y : Sh} (hx : l[i]? = some x) (hy : s[k]? = some y) (hn : x.node = y.node) : y.bytes ≤ x.res ∧ AftMid true l s out (i + 1) (k + 1) (M.set i { x with res := x.res - y.bytes }) := by
  obtain ⟨P, R, hP, rfl, h1, h2⟩ := h
  obtain ⟨hi, rfl⟩ := List.getElem?_eq_some_iff.1 hx
  obtain ⟨hk, rfl⟩ := List.getElem?_eq_some_iff.1 hy
  rw [List.drop_eq_getElem_cons hi] at h1 ⊢
  rw [List.drop_eq_getElem_cons hk, aft, if_neg (by simp [hn]), if_pos rfl] at h1
  split at h1
  · cases h1
  · rename_i hb
    obtain ⟨R', hR', rfl⟩ := Option.map_eq_some_iff.1 h1
    refine ⟨by omega, P ++ [⟨l[i].node, l[i].res - s[k].bytes, l[i].sure, l[i].opn⟩], R', by simp [hP], ?_, hR', by rw [← h2]; simp⟩
    rw [List.set_append_right _ _ (by omega), hP, Nat.sub_self, List.set_cons_zero, List.append_assoc]; rfl
theorem AftMid.endS {less : Bool} {l : List Cl} {s : List Sh} {out : List Cl} {i k : Nat} {M : List Cl} (h : AftMid less l s out i k M) (hk : s.length ≤ k) : M = out := by
  obtain ⟨P, R, hP, rfl, h1, h2⟩ := h
  rw [List.drop_of_length_le hk] at h1
  have : aft less (l.drop i) [] = some (l.drop i) := by cases l.drop i <;> rfl
  rw [this] at h1
  cases h1
  exact h2
theorem AftMid.endL {less : Bool} {l : List Cl} {s : List Sh} {out : List Cl} {i k : Nat} {M : List Cl} (h : AftMid less l s out i k M) (hi : l.length ≤ i) : s.length ≤ k := by
  obtain ⟨P, R, hP, rfl, h1, h2⟩ := h
  rw [List.drop_of_length_le hi] at h1
  by_cases hk : s.length ≤ k
  · exact hk
  · rw [List.drop_eq_getElem_cons (by omega)] at h1
    cases h1

set_option maxRecDepth 100000 in
set_option maxHeartbeats 4000000 in
theorem after_up (l : List Cl) (s : List Sh) (out : List Cl) (h : aft false l s = some out) (hl : l.length ≤ 16) (hr : ∀ c ∈ l, 0 ≤ c.res ∧ c.res ≤ 1125899906842624) (hs : ShWf s) (v u : Value) (w : World) (hS : ClAt w v l) (hT : ShAt w u s) :
    Calls Try.prog 12 #[v, u, .bool false] w (RetAft out w) := by
  obtain ⟨B, d, rfl, hd1, hd2, hT'⟩ := hT
  unfold maxLen at hd2
  have HS := Lib.hid hS
  have HT := Lib.hid hT'
  have HA := Lib.hid (AftMid.start h)
  have HR := Lib.hid hr
  have HSW := Lib.hid hs
  have hsl := hs.1
  clear hS hT' h hr hs
  go_enter Try.func12, Try.ntmps12
  go_wp2_with fail
  refine (own_any l v w HS.out (by omega)).mono ?_
  rintro e w1 ⟨A, c, rfl, ho, hb1⟩
  have HO := Lib.hid ho
  have hc : l.length ≤ c ∧ c ≤ 9223372036854775807 := by
    obtain ⟨A', c', e, h1, h2, _⟩ := SlAt.own ho
    cases e
    unfold maxLen at h2
    exact ⟨h1, h2⟩
  obtain ⟨hc1, hc2⟩ := hc
  clear ho
  go_wp2_with fail
  go_loopw [9, 10] (fun b a wr => ∃ (i k : Nat) (M : List Cl), i ≤ l.length ∧ k ≤ s.length ∧ a = .int .i64 i ∧ b = .int .i64 k ∧ AftMid false l s out i k M ∧ wr.ownsRow w.heap.size 27 4 (.slice A l.length c) l.length (fl Cl.cells M) ∧ Below w.heap.size w wr) (fun _ a _ => l.length - (intOf a).toNat)
  case atStart => exact ⟨0, 0, l, by omega, by omega, rfl, rfl, HA.out, HO.out, hb1⟩
  case round =>
    clear HO hb1
    obtain ⟨i, k, M, hi, hk, rfl, rfl, hM, hO, hB⟩ := hrel
    have HM := Lib.hid hM
    have HO := Lib.hid hO
    have hz := hB.size
    by_cases hlt : i < l.length
    · have hi1 : (i : Int) < l.length := by omega
      by_cases hkt : k < s.length
      · have hk1 : (k : Int) < s.length := by omega
        obtain ⟨x, hx⟩ : ∃ x, l[i]? = some x := ⟨_, List.getElem?_eq_getElem hlt⟩
        obtain ⟨y, hy⟩ : ∃ y, s[k]? = some y := ⟨_, List.getElem?_eq_getElem hkt⟩
        obtain ⟨g, o, rfl, hg, y0, y1⟩ := reads_fl2 sh2 (HT.out.keep hB.size fun b o h => hB.cell (p := ⟨b, o, none⟩) h) rfl hy (by rfl : y.cells = [_, _])
        obtain ⟨G, hG⟩ : ∃ G, A = some ⟨G, 0, none⟩ := by
          rcases hO.2 with ⟨h, _⟩ | ⟨G, cap, cur, h, _⟩
          · have h0 : l.length = 0 := by simp at h; omega
            omega
          · cases h; exact ⟨_, rfl⟩
        subst hG
        have x0 : wr.cell? ⟨G, i * 4, none⟩ = some (.int .i64 x.node) := own_cell cl4 hO i 0 (hM.at hx) (by decide)
        have x1 : wr.cell? ⟨G, i * 4 + 1, none⟩ = some (.int .u64 x.res) := own_cell cl4 hO i 1 (hM.at hx) (by decide)
        have f1 := hO.frozenAt (i * 4 + 1)
        have hwG := (hO.lt G rfl).1
        have hGr := (hO.lt G rfl).2
        obtain ⟨hr0, hr1⟩ := HR.out x (List.mem_of_getElem? hx)
        obtain ⟨hb0, hb1⟩ := HSW.out.2 y (List.mem_of_getElem? hy)
        have hsum : x.res + y.bytes ≤ 18446744073709551615 := by omega
        have hi0 : (0 : Int) ≤ i := by omega
        have hk0 : (0 : Int) ≤ k := by omega
        by_cases hn : x.node = y.node
        · have HU := Lib.hid (hM.up hx hy hn)
          have P := Lib.hid (own_store cl4 hO i 1 (y := { x with res := x.res + y.bytes }) (u := .int .u64 (x.res + y.bytes)) (hM.at hx) (by decide) rfl)
          have t1 : (x.node != y.node) = false := by rw [bne_eq_false_iff_eq]; exact hn
          have WS : IntKind.u64.wrap (x.res + y.bytes) = x.res + y.bytes := IntWalk.u64_in _ (by omega)
          clear hx hy hM hO hn
          go_wp2_with fail
          go_quiet (fail)
          go_wp2_with fail
          go_quiet (fail)
          go_wp2_with fail
          go_region
          clear WS
          go_wp2_with fail
          go_roundw
          case rel => exact ⟨i + 1, k + 1, _, by omega, by omega, by go_num, by go_num, HU.out, P.out, (by repeat (first | with_reducible exact Below.refl _ _ | with_reducible refine Below.drew ?_ | with_reducible refine below_drewN ?_ _ | with_reducible refine bal ?_ _ | with_reducible refine bset ?_ (by first | (simp; done) | (simp; omega)) _ | with_reducible refine bnext ?_ (by assumption) | with_reducible assumption))⟩
          case measure => simp [intOf]; omega
        · have HU := Lib.hid (hM.skip hx hy hn)
          have t1 : (x.node != y.node) = true := by rw [bne_iff_ne]; exact hn
          clear hx hy hM hO hn
          go_wp2_with fail
          go_quiet (fail)
          go_wp2_with fail
          go_roundw
          case rel => exact ⟨i + 1, k, M, by omega, by omega, by go_num, rfl, HU.out, by first | exact HO.out | exact (HO.out : _), (by repeat (first | with_reducible exact Below.refl _ _ | with_reducible refine Below.drew ?_ | with_reducible refine below_drewN ?_ _ | with_reducible refine bal ?_ _ | with_reducible refine bset ?_ (by first | (simp; done) | (simp; omega)) _ | with_reducible refine bnext ?_ (by assumption) | with_reducible assumption))⟩
          case measure => simp [intOf]; omega
      · obtain rfl : k = s.length := by omega
        have hk1 : ¬ (s.length : Int) < s.length := by omega
        have HE := hidI (hM.endS (Nat.le_refl _))
        have HEL := hidI (hM.len hi)
        clear hM hO
        go_wp2_with fail
        go_ret2
        exact ⟨A, c, by rw [← HE.out, HEL.out]; rfl, by unfold OwnCl; rw [← HE.out, HEL.out]; exact HO.out, hB⟩
    · obtain rfl : i = l.length := by omega
      have hk2 := hM.endL (Nat.le_refl _)
      obtain rfl : k = s.length := by omega
      have HE := hidI (hM.endS (Nat.le_refl _))
      have HEL := hidI (hM.len hi)
      clear hM hO
      go_wp2_with fail
      go_ret2
      exact ⟨A, c, by rw [← HE.out, HEL.out]; rfl, by unfold OwnCl; rw [← HE.out, HEL.out]; exact HO.out, hB⟩
end Go.Proofs.Ytlpdebbedoibiaa
