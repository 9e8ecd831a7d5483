/- Contracts: filling up and letting down, with their checks. -/
import Derived.Test.YtlpdebbedoibiaaE3
namespace Go.Proofs.Ytlpdebbedoibiaa
open Go.RowKit
set_option linter.unusedVariables false
set_option linter.unusedSimpArgs false

/-- the claims are well, behind a claim of node p -/
def Well (p : Int) : List Cl → Prop
  | [] => True
  | c :: r => cerr p c = 0 ∧ Well c.node r
theorem cscan_well (p : Int) (i : Nat) (l : List Cl) : (cscan p i l).1 = 0 ↔ Well p l := by
  induction l generalizing p i with
  | nil => simp [cscan, Well]
  | cons c r ih =>
    unfold cscan Well
    by_cases h : cerr p c = 0
    · rw [if_pos h, ih]; simp [h]
    · rw [if_neg h]; simp [h]
theorem cscan_two (p : Int) (i : Nat) (l : List Cl) (h : Well p l) : cscan p i l = (0, 0) := by
  induction l generalizing p i with
  | nil => rfl
  | cons c r ih =>
    unfold cscan
    rw [if_pos h.1, ih _ _ h.2]
theorem cerr_zero {p : Int} {c : Cl} : cerr p c = 0 ↔ (1 ≤ c.node ∧ c.node ≤ 16) ∧ p < c.node ∧ c.res ≤ 1125899906842624 := by
  unfold cerr
  split
  · constructor
    · intro h; exact absurd h (by decide)
    · intro h; omega
  · split
    · constructor
      · intro h; exact absurd h (by decide)
      · intro h; omega
    · split
      · constructor
        · intro h; exact absurd h (by decide)
        · intro h; omega
      · constructor
        · intro _; omega
        · intro _; rfl
theorem well_asc {p : Int} {l : List Cl} (h : Well p l) : Asc l ∧ (∀ c ∈ l, p < c.node) ∧ ∀ c ∈ l, c.res ≤ 1125899906842624 := by
  induction l generalizing p with
  | nil => exact ⟨List.Pairwise.nil, by simp, by simp⟩
  | cons c r ih =>
    obtain ⟨h1, h2⟩ := h
    obtain ⟨a, b, d⟩ := cerr_zero.1 h1
    obtain ⟨e, f, g⟩ := ih h2
    refine ⟨List.pairwise_cons.2 ⟨f, e⟩, fun x hx => ?_, fun x hx => ?_⟩
    · rcases List.mem_cons.1 hx with rfl | hx
      · exact b
      · have := f x hx; omega
    · rcases List.mem_cons.1 hx with rfl | hx
      · exact d
      · exact g x hx
/-- the reserved bytes are numbers of their kind -/
def ClWf (l : List Cl) : Prop := ∀ c ∈ l, 0 ≤ c.res
theorem ask_ok {l : List Cl} {xs : List Int} (hw : ClWf l) (h : askE l xs = 0) : l.length ≤ 16 ∧ LevOk (lev l) ∧ Asc l ∧ ∀ x ∈ xs, x ≤ 1125899906842624 := by
  unfold askE at h
  split at h
  · rename_i h1; exact absurd h h1
  · rename_i h1
    have h0 : (cchk l).1 = 0 := by
      by_cases h2 : (cchk l).1 = 0
      · exact h2
      · exact absurd h2 h1
    split at h
    · exact absurd h (by decide)
    · rename_i h3
      unfold cchk at h0
      split at h0
      · exact absurd h0 (by decide)
      · rename_i h4
        have hq := well_asc ((cscan_well 0 0 l).1 h0)
        refine ⟨by omega, fun x hx => ?_, hq.1, fun x hx => ?_⟩
        · obtain ⟨c, hc, rfl⟩ := List.mem_map.1 hx
          exact ⟨hw c hc, hq.2.2 c hc⟩
        · by_cases hx2 : x ≤ 1125899906842624
          · exact hx2
          · exact absurd (List.any_eq_true.2 ⟨x, hx, by simp; omega⟩) h3
theorem ask_of {l : List Cl} {xs : List Int} (hl : l.length ≤ 16) (hw : Well 0 l) (hx : ∀ x ∈ xs, x ≤ 1125899906842624) : askE l xs = 0 := by
  have h0 : cchk l = (0, 0) := by unfold cchk; rw [if_neg (by omega)]; exact cscan_two 0 0 l hw
  unfold askE
  rw [h0, if_neg (by simp), if_neg]
  intro h
  obtain ⟨x, h1, h2⟩ := List.any_eq_true.1 h
  have := hx x h1
  simp at h2
  omega

theorem lit1 (w : World) (t : TypeId) (a : Int) : SlAt (w.alloc (.cells #[.int .u64 a] t)) 1 (.slice (some ⟨w.heap.size, 0, none⟩) 1 1) [a].length (nums [a]) := SlAt.lit w t 1 1 #[.int .u64 a] rfl (by unfold maxLen; omega)
theorem lit2 (w : World) (t : TypeId) (a b : Int) : SlAt (w.alloc (.cells #[.int .u64 a, .int .u64 b] t)) 1 (.slice (some ⟨w.heap.size, 0, none⟩) 2 2) [a, b].length (nums [a, b]) := SlAt.lit w t 1 2 #[.int .u64 a, .int .u64 b] rfl (by unfold maxLen; omega)
theorem lit3 (w : World) (t : TypeId) (a b c : Int) : SlAt (w.alloc (.cells #[.int .u64 a, .int .u64 b, .int .u64 c] t)) 1 (.slice (some ⟨w.heap.size, 0, none⟩) 3 3) [a, b, c].length (nums [a, b, c]) := SlAt.lit w t 1 3 #[.int .u64 a, .int .u64 b, .int .u64 c] rfl (by unfold maxLen; omega)
theorem ClAt.below {w w' : World} {v : Value} {l : List Cl} (h : ClAt w v l) (hb : Below w.heap.size w w') : ClAt w' v l := SlAt.below h hb
theorem ClAt.alloc {w : World} {v : Value} {l : List Cl} (h : ClAt w v l) (o : Obj) : ClAt (w.alloc o) v l := SlAt.alloc h o
theorem ShAt.below {w w' : World} {v : Value} {l : List Sh} (h : ShAt w v l) (hb : Below w.heap.size w w') : ShAt w' v l := SlAt.below h hb
theorem ShAt.alloc {w : World} {v : Value} {l : List Sh} (h : ShAt w v l) (o : Obj) : ShAt (w.alloc o) v l := SlAt.alloc h o

/-- shares and an error are returned -/
def RetShE (l : List Sh) (er : Int) (w : World) (e : Ending) (w' : World) : Prop := ∃ A c, e = .returned (.tuple #[.slice A l.length c, .int .i64 er]) ∧ OwnSh w w' (.slice A l.length c) l ∧ Below w.heap.size w w'
def FillR (l : List Cl) (W A : Int) (w : World) (e : Ending) (w' : World) : Prop := ∃ v0, IsUp (lev l) W A v0 ∧ RetShE (shUp l (bump W v0 (lev l) (A - needs (lev l) v0))) 0 w e w'
def LowR (l : List Cl) (A : Int) (w : World) (e : Ending) (w' : World) : Prop := ∃ v0, IsDown (lev l) 1125899906842624 A v0 ∧ RetShE (shDown l (dip v0 (lev l).reverse (A - gives (lev l) v0)).reverse) 0 w e w'

set_option maxHeartbeats 1000000 in
theorem Fill_ok (l : List Cl) (hw : ClWf l) (W A : Int) (hW : 0 ≤ W) (hA : 0 ≤ A) (hk : askE l [W, A] = 0) (v : Value) (w : World) (hS : ClAt w v l) :
    Calls Try.prog 10 #[v, .int .u64 W, .int .u64 A] w (FillR l W A w) := by
  obtain ⟨hl, hL, _, hx⟩ := ask_ok hw hk
  have hW1 := hx W (by simp)
  have hA1 := hx A (by simp)
  have HS := Lib.hid hS
  have HK := Lib.hid hk
  have HL := Lib.hid hL
  clear hS hk hx hL
  go_enter Try.func10, Try.ntmps10
  go_wp2_with fail
  refine (asked_any l [W, A] v _ _ (HS.out.alloc _) (lit2 w _ W A)).mono ?_
  rintro e w1 ⟨rfl, hb1⟩
  rw [HK.out]
  have hB1 : Below w.heap.size w w1 := bnext (bal (Below.refl _ _) _) hb1
  have HS1 := Lib.hid ((HS.out.alloc _).below hb1)
  go_wp2_with fail
  refine (fill_any l hl HL.out W A hW hW1 hA hA1 v _ HS1.out).mono ?_
  rintro e w2 ⟨v0, hu, A', c', rfl, ho, hb2⟩
  have HU := Lib.hid hu
  have HO := Lib.hid ho
  clear hu ho
  go_wp2_with fail
  go_ret2
  exact ⟨v0, HU.out, A', c', rfl, own_mono HO.out hB1.size, bnext hB1 hb2⟩
set_option maxHeartbeats 1000000 in
theorem Fill_no (l : List Cl) (W A : Int) (hk : askE l [W, A] ≠ 0) (v : Value) (w : World) (hS : ClAt w v l) :
    Calls Try.prog 10 #[v, .int .u64 W, .int .u64 A] w (RetShE [] (askE l [W, A]) w) := by
  have HS := Lib.hid hS
  have hne : (askE l [W, A] != 0) = true := by rw [bne_iff_ne]; exact hk
  clear hS hk
  go_enter Try.func10, Try.ntmps10
  go_wp2_with fail
  refine (asked_any l [W, A] v _ _ (HS.out.alloc _) (lit2 w _ W A)).mono ?_
  rintro e w1 ⟨rfl, hb1⟩
  have hB1 : Below w.heap.size w w1 := bnext (bal (Below.refl _ _) _) hb1
  generalize askE l [W, A] = er at *
  go_wp2_with fail
  go_ret2
  exact ⟨none, 0, rfl, World.ownsRow_nil _ _ _ _, hB1⟩
set_option maxHeartbeats 1000000 in
theorem Lower_ok (l : List Cl) (hw : ClWf l) (A : Int) (hA : 0 ≤ A) (hk : askE l [A] = 0) (v : Value) (w : World) (hS : ClAt w v l) :
    Calls Try.prog 11 #[v, .int .u64 A] w (LowR l A w) := by
  obtain ⟨hl, hL, _, hx⟩ := ask_ok hw hk
  have hA1 := hx A (by simp)
  have HS := Lib.hid hS
  have HK := Lib.hid hk
  have HL := Lib.hid hL
  clear hS hk hx hL
  go_enter Try.func11, Try.ntmps11
  go_wp2_with fail
  refine (asked_any l [A] v _ _ (HS.out.alloc _) (lit1 w _ A)).mono ?_
  rintro e w1 ⟨rfl, hb1⟩
  rw [HK.out]
  have hB1 : Below w.heap.size w w1 := bnext (bal (Below.refl _ _) _) hb1
  have HS1 := Lib.hid ((HS.out.alloc _).below hb1)
  go_wp2_with fail
  refine (lower_any l hl HL.out A hA hA1 v _ HS1.out).mono ?_
  rintro e w2 ⟨v0, hu, A', c', rfl, ho, hb2⟩
  have HU := Lib.hid hu
  have HO := Lib.hid ho
  clear hu ho
  go_wp2_with fail
  go_ret2
  exact ⟨v0, HU.out, A', c', rfl, own_mono HO.out hB1.size, bnext hB1 hb2⟩
set_option maxHeartbeats 1000000 in
theorem Lower_no (l : List Cl) (A : Int) (hk : askE l [A] ≠ 0) (v : Value) (w : World) (hS : ClAt w v l) :
    Calls Try.prog 11 #[v, .int .u64 A] w (RetShE [] (askE l [A]) w) := by
  have HS := Lib.hid hS
  have hne : (askE l [A] != 0) = true := by rw [bne_iff_ne]; exact hk
  clear hS hk
  go_enter Try.func11, Try.ntmps11
  go_wp2_with fail
  refine (asked_any l [A] v _ _ (HS.out.alloc _) (lit1 w _ A)).mono ?_
  rintro e w1 ⟨rfl, hb1⟩
  have hB1 : Below w.heap.size w w1 := bnext (bal (Below.refl _ _) _) hb1
  generalize askE l [A] = er at *
  go_wp2_with fail
  go_ret2
  exact ⟨none, 0, rfl, World.ownsRow_nil _ _ _ _, hB1⟩
theorem Fill_at (l : List Cl) (hw : ClWf l) (W A v0 : Int) (hW : 0 ≤ W) (hA : 0 ≤ A) (hk : askE l [W, A] = 0) (hv : IsUp (lev l) W A v0) (L : List Sh) (hL : shUp l (bump W v0 (lev l) (A - needs (lev l) v0)) = L) (v : Value) (w : World) (hS : ClAt w v l) :
    Calls Try.prog 10 #[v, .int .u64 W, .int .u64 A] w (RetShE L 0 w) :=
  (Fill_ok l hw W A hW hA hk v w hS).mono fun e w' ⟨v1, h1, h2⟩ => by rw [isUp_uniq h1 hv, hL] at h2; exact h2
theorem Lower_at (l : List Cl) (hw : ClWf l) (A v0 : Int) (hA : 0 ≤ A) (hk : askE l [A] = 0) (hv : IsDown (lev l) 1125899906842624 A v0) (L : List Sh) (hL : shDown l (dip v0 (lev l).reverse (A - gives (lev l) v0)).reverse = L) (v : Value) (w : World) (hS : ClAt w v l) :
    Calls Try.prog 11 #[v, .int .u64 A] w (RetShE L 0 w) :=
  (Lower_ok l hw A hA hk v w hS).mono fun e w' ⟨v1, h1, h2⟩ => by rw [isDown_uniq h1 hv, hL] at h2; exact h2
end Go.Proofs.Ytlpdebbedoibiaa
