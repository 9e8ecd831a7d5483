/- Contracts: the chapter's examples that every statement asks. -/
import Derived.Test.YtlpdebbedoibiaaH
namespace Go.Proofs.Ytlpdebbedoibiaa
open Go.RowKit
set_option linter.unusedVariables false
set_option linter.unusedSimpArgs false

set_option maxHeartbeats 1000000 in
theorem fills_t (l : List Cl) (hw : ClWf l) (W A v0 : Int) (hW : 0 ≤ W) (hA : 0 ≤ A) (hk : askE l [W, A] = 0) (hv : IsUp (lev l) W A v0) (L : List Sh) (hL : shUp l (bump W v0 (lev l) (A - needs (lev l) v0)) = L) (va vb : Value) (w : World) (ha : ClAt w va l) (hb : ShAt w vb L) :
    Calls Try.prog 29 #[va, .int .u64 W, .int .u64 A, vb] w (RetB true w) := by
  have HF := Lib.hid (Fill_at l hw W A v0 hW hA hk hv L hL va w ha)
  have HB := Lib.hid hb
  clear hk hL ha hb hv
  go_enter Try.func29, Try.ntmps29
  go_wp2_with fail
  refine HF.out.mono ?_
  rintro e w1 ⟨A1, c1, rfl, ho, hb1⟩
  have HS := Lib.hid (SlAt.own ho)
  clear ho
  go_wp2_with fail
  refine (same_t L _ vb w1 (by unfold ShAt; exact HS.out) (HB.out.below hb1)).mono ?_
  rintro e w2 ⟨rfl, hb2⟩
  go_wp2_with fail
  go_ret
  exact ⟨rfl, (by repeat (first | with_reducible exact Below.refl _ _ | with_reducible refine Below.drew ?_ | with_reducible refine below_drewN ?_ _ | with_reducible refine bal ?_ _ | with_reducible refine bset ?_ (by first | (simp; done) | (simp; omega)) _ | with_reducible refine bnext ?_ (by assumption) | with_reducible assumption))⟩
set_option maxHeartbeats 1000000 in
theorem lowers_t (l : List Cl) (hw : ClWf l) (A v0 : Int) (hA : 0 ≤ A) (hk : askE l [A] = 0) (hv : IsDown (lev l) 1125899906842624 A v0) (L : List Sh) (hL : shDown l (dip v0 (lev l).reverse (A - gives (lev l) v0)).reverse = L) (va vb : Value) (w : World) (ha : ClAt w va l) (hb : ShAt w vb L) :
    Calls Try.prog 31 #[va, .int .u64 A, vb] w (RetB true w) := by
  have HF := Lib.hid (Lower_at l hw A v0 hA hk hv L hL va w ha)
  have HB := Lib.hid hb
  clear hk hL ha hb hv
  go_enter Try.func31, Try.ntmps31
  go_wp2_with fail
  refine HF.out.mono ?_
  rintro e w1 ⟨A1, c1, rfl, ho, hb1⟩
  have HS := Lib.hid (SlAt.own ho)
  clear ho
  go_wp2_with fail
  refine (same_t L _ vb w1 (by unfold ShAt; exact HS.out) (HB.out.below hb1)).mono ?_
  rintro e w2 ⟨rfl, hb2⟩
  go_wp2_with fail
  go_ret
  exact ⟨rfl, (by repeat (first | with_reducible exact Below.refl _ _ | with_reducible refine Below.drew ?_ | with_reducible refine below_drewN ?_ _ | with_reducible refine bal ?_ _ | with_reducible refine bset ?_ (by first | (simp; done) | (simp; omega)) _ | with_reducible refine bnext ?_ (by assumption) | with_reducible assumption))⟩

/-- a list in memory of n elements -/
def RetShN (n : Nat) (l : List Sh) (w : World) (e : Ending) (w' : World) : Prop := ∃ A c, e = .returned (.slice A n c) ∧ ShAt w' (.slice A n c) l ∧ Below w.heap.size w w'
def RetClN (n : Nat) (l : List Cl) (w : World) (e : Ending) (w' : World) : Prop := ∃ A c, e = .returned (.slice A n c) ∧ ClAt w' (.slice A n c) l ∧ Below w.heap.size w w'
theorem RetSh.n {n : Nat} {l : List Sh} {w w' : World} {e : Ending} (h : RetSh l w e w') (hn : l.length = n) : RetShN n l w e w' := by
  subst hn
  obtain ⟨A, c, he, ho, hb⟩ := h
  exact ⟨A, c, he, SlAt.own ho, hb⟩
theorem RetCl.n {n : Nat} {l : List Cl} {w w' : World} {e : Ending} (h : RetCl l w e w') (hn : l.length = n) : RetClN n l w e w' := by
  subst hn
  obtain ⟨A, c, he, ho, hb⟩ := h
  exact ⟨A, c, he, SlAt.own ho, hb⟩
theorem claims3 (a b c : Int) (w : World) (t : TypeId) : Calls Try.prog 28 #[.slice (some ⟨w.heap.size, 0, none⟩) 3 3] (w.alloc (.cells #[.int .u64 a, .int .u64 b, .int .u64 c] t)) (RetClN 3 [⟨1, a, true, true⟩, ⟨2, b, true, true⟩, ⟨3, c, true, true⟩] (w.alloc (.cells #[.int .u64 a, .int .u64 b, .int .u64 c] t))) :=
  (claims_any [a, b, c] _ _ (lit3 w t a b c) (by simp)).mono fun _ _ h => h.n rfl
theorem list2 (a b : Int) (ha : 0 ≤ a ∧ a ≤ 1000000) (hb : 0 ≤ b ∧ b ≤ 1000000) (w : World) (t : TypeId) : Calls Try.prog 30 #[.slice (some ⟨w.heap.size, 0, none⟩) 2 2] (w.alloc (.cells #[.int .i64 a, .int .i64 b] t)) (RetShN 1 [⟨a, b⟩] (w.alloc (.cells #[.int .i64 a, .int .i64 b] t))) :=
  (list_any [a, b] 1 rfl (by intro x hx; simp at hx; rcases hx with rfl | rfl <;> omega) _ _ (SlAt.lit w t 1 2 #[.int .i64 a, .int .i64 b] rfl (by unfold maxLen; omega)) (by decide)).mono fun _ _ h => h.n rfl
theorem list4 (a b c d : Int) (ha : 0 ≤ a ∧ a ≤ 1000000) (hb : 0 ≤ b ∧ b ≤ 1000000) (hc : 0 ≤ c ∧ c ≤ 1000000) (hd : 0 ≤ d ∧ d ≤ 1000000) (w : World) (t : TypeId) : Calls Try.prog 30 #[.slice (some ⟨w.heap.size, 0, none⟩) 4 4] (w.alloc (.cells #[.int .i64 a, .int .i64 b, .int .i64 c, .int .i64 d] t)) (RetShN 2 [⟨a, b⟩, ⟨c, d⟩] (w.alloc (.cells #[.int .i64 a, .int .i64 b, .int .i64 c, .int .i64 d] t))) :=
  (list_any [a, b, c, d] 2 rfl (by intro x hx; simp at hx; rcases hx with rfl | rfl | rfl | rfl <;> omega) _ _ (SlAt.lit w t 1 4 #[.int .i64 a, .int .i64 b, .int .i64 c, .int .i64 d] rfl (by unfold maxLen; omega)) (by decide)).mono fun _ _ h => h.n rfl
theorem list6 (a b c d e f : Int) (ha : 0 ≤ a ∧ a ≤ 1000000) (hb : 0 ≤ b ∧ b ≤ 1000000) (hc : 0 ≤ c ∧ c ≤ 1000000) (hd : 0 ≤ d ∧ d ≤ 1000000) (he : 0 ≤ e ∧ e ≤ 1000000) (hf : 0 ≤ f ∧ f ≤ 1000000) (w : World) (t : TypeId) : Calls Try.prog 30 #[.slice (some ⟨w.heap.size, 0, none⟩) 6 6] (w.alloc (.cells #[.int .i64 a, .int .i64 b, .int .i64 c, .int .i64 d, .int .i64 e, .int .i64 f] t)) (RetShN 3 [⟨a, b⟩, ⟨c, d⟩, ⟨e, f⟩] (w.alloc (.cells #[.int .i64 a, .int .i64 b, .int .i64 c, .int .i64 d, .int .i64 e, .int .i64 f] t))) :=
  (list_any [a, b, c, d, e, f] 3 rfl (by intro x hx; simp at hx; rcases hx with rfl | rfl | rfl | rfl | rfl | rfl <;> omega) _ _ (SlAt.lit w t 1 6 #[.int .i64 a, .int .i64 b, .int .i64 c, .int .i64 d, .int .i64 e, .int .i64 f] rfl (by unfold maxLen; omega)) (by decide)).mono fun _ _ h => h.n rfl

def cl3 (a b c : Int) : List Cl := [⟨1, a, true, true⟩, ⟨2, b, true, true⟩, ⟨3, c, true, true⟩]
theorem cl3_wf {a b c : Int} (ha : 0 ≤ a) (hb : 0 ≤ b) (hc : 0 ≤ c) : ClWf (cl3 a b c) := by
  intro x hx
  simp [cl3] at hx
  rcases hx with rfl | rfl | rfl <;> assumption
theorem fill_ex1 : shUp (cl3 10 40 0) (bump 50 22 (lev (cl3 10 40 0)) (35 - needs (lev (cl3 10 40 0)) 22)) = [⟨1, 13⟩, ⟨3, 22⟩] := by decide
theorem up_ex1 : IsUp (lev (cl3 10 40 0)) 50 35 22 := ⟨by decide, by decide, by decide, .inr (by decide)⟩
theorem low_ex1 : shDown (cl3 10 40 40) (dip 39 (lev (cl3 10 40 40)).reverse (3 - gives (lev (cl3 10 40 40)) 39)).reverse = [⟨2, 1⟩, ⟨3, 2⟩] := by decide
theorem down_ex1 : IsDown (lev (cl3 10 40 40)) 1125899906842624 3 39 := ⟨by decide, by decide, by decide, .inr (by decide)⟩

set_option maxRecDepth 100000 in
set_option maxHeartbeats 2000000 in
theorem awake_t (w : World) : Calls Try.prog 14 #[] w (RetB true w) := by
  go_enter Try.func14, Try.ntmps14
  go_wp2_with fail
  refine (claims3 10 40 0 _ _).mono ?_
  rintro e w1 ⟨A1, c1, rfl, hS1, hb1⟩
  have HS1 := Lib.hid hS1
  have hB1 : Below w.heap.size w w1 := bnext (bal (Below.refl _ _) _) hb1
  clear hS1 hb1
  go_wp2_with fail
  refine (list4 1 13 3 22 (by decide) (by decide) (by decide) (by decide) _ _).mono ?_
  rintro e w2 ⟨A2, c2, rfl, hS2, hb2⟩
  have HS2 := Lib.hid hS2
  have HS1 := Lib.hid ((HS1.out.alloc _).below hb2)
  have hB2 : Below w.heap.size w w2 := bnext (bal hB1 _) hb2
  clear hS2 hb2
  go_wp2_with fail
  refine (fills_t (cl3 10 40 0) (cl3_wf (by decide) (by decide) (by decide)) 50 35 22 (by decide) (by decide) (by decide) up_ex1 _ fill_ex1 _ _ _ HS1.out HS2.out).mono ?_
  rintro e w3 ⟨rfl, hb3⟩
  have hB3 : Below w.heap.size w w3 := bnext hB2 hb3
  clear hb3
  go_wp2_with fail
  refine (claims3 10 40 40 _ _).mono ?_
  rintro e w4 ⟨A4, c4, rfl, hS4, hb4⟩
  have HS4 := Lib.hid hS4
  have hB4 : Below w.heap.size w w4 := bnext (bal hB3 _) hb4
  clear hS4 hb4
  go_wp2_with fail
  refine (list4 2 1 3 2 (by decide) (by decide) (by decide) (by decide) _ _).mono ?_
  rintro e w5 ⟨A5, c5, rfl, hS5, hb5⟩
  have HS5 := Lib.hid hS5
  have HS4 := Lib.hid ((HS4.out.alloc _).below hb5)
  have hB5 : Below w.heap.size w w5 := bnext (bal hB4 _) hb5
  clear hS5 hb5
  go_wp2_with fail
  refine (lowers_t (cl3 10 40 40) (cl3_wf (by decide) (by decide) (by decide)) 3 39 (by decide) (by decide) down_ex1 _ low_ex1 _ _ _ HS4.out HS5.out).mono ?_
  rintro e w6 ⟨rfl, hb6⟩
  go_wp2_with fail
  go_ret
  exact ⟨rfl, bnext hB5 hb6⟩
end Go.Proofs.Ytlpdebbedoibiaa
