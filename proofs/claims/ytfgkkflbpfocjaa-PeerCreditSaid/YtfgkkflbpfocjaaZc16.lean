/- The plain model of what a receiver does with its ledger: more, taking, a floor, what was given back; no program in sight. Contracts: the reference's check of a slot. -/
import Derived.Test.YtfgkkflbpfocjaaZc15
import Derived.Test.YtfgkkflbpfocjaaZc4
import Derived.Test.YtfgkkflbpfocjaaZc13
namespace Go.Proofs.Ytfgkkflbpfocjaa
set_option linter.unusedVariables false
set_option linter.unusedSimpArgs false

theorem tErr_of {r : Rec} {i : Nat} (h : (rgAt r.tk i).f < (rgAt r.tk i).t ∧ r.fl ≤ (rgAt r.tk i).f ∧ (rgAt r.tk i).t ≤ r.g - r.r ∧ (0 < i → (rgAt r.tk (i - 1)).t < (rgAt r.tk i).f)) : tErr r i = 0 := by
  obtain ⟨h1, h2, h3, h4⟩ := h
  unfold tErr
  rw [if_neg, if_neg (by omega)]
  rintro (c | c | ⟨c, d⟩)
  · omega
  · omega
  · have := h4 c; omega
/-- a ledger that keeps nothing is valid -/
theorem okR_mk {r : Rec} (h : OkR r) (hk : r.kp = []) : okR r := by
  unfold okR chkR
  have ht : fstE (tErr r) r.tk.length 0 = (0, 0) := fstE_all fun k hk => tErr_of (h.t k hk)
  rw [if_neg (by have := h.g; omega), if_neg (by have := h.r; have := h.fl; omega), if_neg (by have := h.nt; have := h.nk; omega), ht, if_neg (fun c => c rfl), hk]
  rfl
def moreR (r : Rec) (z : Int) : Rec × Int := if (chkR r).1 ≠ 0 then (zRec, (chkR r).1) else if 1125899906842624 - r.g < z then (zRec, 2) else ({ r with g := r.g + z }, 0)
theorem moreR_ok {r r' : Rec} {z : Int} (h : moreR r z = (r', 0)) (hz : 0 ≤ z) (hk : r.kp = []) : r' = { r with g := r.g + z } ∧ okR { r with g := r.g + z } := by
  unfold moreR at h
  by_cases c : (chkR r).1 = 0
  · rw [if_neg (fun d => d c)] at h
    by_cases d : 1125899906842624 - r.g < z
    · rw [if_pos d] at h; injection h with _ h2; cases h2
    · rw [if_neg d] at h
      injection h with h1 _
      have o := okR_of c
      refine ⟨h1.symm, okR_mk ⟨by show r.g + z ≤ _; omega, by have := o.r; show r.r ≤ r.g + z; omega, by have := o.fl; show r.fl ≤ r.g + z - r.r; omega, o.nt, o.nk, fun i hi => ?_⟩ hk⟩
      have := o.t i hi
      refine ⟨this.1, this.2.1, ?_, this.2.2.2⟩
      show (rgAt r.tk i).t ≤ r.g + z - r.r
      omega
  · rw [if_pos c] at h; injection h with _ h2; exact absurd h2 c
/-! sets -/
def lastT (l : List Rg) : Int := (rgAt l (l.length - 1)).t
def joinK (l : List Rg) : Nat → List Rg
  | 0 => []
  | k + 1 => if (rgAt l k).t ≤ (rgAt l k).f then joinK l k else if 0 < (joinK l k).length ∧ (rgAt l k).f ≤ lastT (joinK l k) then (joinK l k).set ((joinK l k).length - 1) ⟨(rgAt (joinK l k) ((joinK l k).length - 1)).f, max (lastT (joinK l k)) (rgAt l k).t⟩ else joinK l k ++ [rgAt l k]
theorem rgAt_app {c : List Rg} {x : Rg} {i : Nat} (h : i < c.length) : rgAt (c ++ [x]) i = rgAt c i := by
  unfold rgAt
  rw [List.getD_eq_getElem?_getD, List.getD_eq_getElem?_getD, List.getElem?_append_left h]
theorem rgAt_end {c : List Rg} {x : Rg} : rgAt (c ++ [x]) c.length = x := by
  unfold rgAt
  rw [List.getD_eq_getElem?_getD, List.getElem?_append_right (Nat.le_refl _), Nat.sub_self]; rfl
theorem rgAt_set {c : List Rg} {x : Rg} {n i : Nat} (h : i ≠ n) : rgAt (c.set n x) i = rgAt c i := by
  unfold rgAt
  rw [List.getD_eq_getElem?_getD, List.getD_eq_getElem?_getD, List.getElem?_set_ne (Ne.symm h)]
theorem rgAt_set_self {c : List Rg} {x : Rg} {n : Nat} (h : n < c.length) : rgAt (c.set n x) n = x := by
  unfold rgAt
  rw [List.getD_eq_getElem?_getD, List.getElem?_set_self h]; rfl
/-- ranges in order, apart, between two bounds -/
def Apart (a b : Int) (l : List Rg) : Prop := ∀ i, i < l.length → (rgAt l i).f < (rgAt l i).t ∧ a ≤ (rgAt l i).f ∧ (rgAt l i).t ≤ b ∧ (0 < i → (rgAt l (i - 1)).t < (rgAt l i).f)
theorem joinK_apart {l : List Rg} {a b : Int} : ∀ k, (∀ i, i < k → a ≤ (rgAt l i).f ∧ (rgAt l i).t ≤ b) → Apart a b (joinK l k) := by
  intro k
  induction k with
  | zero => intro _ i hi; cases hi
  | succ k ih =>
    intro h
    have ih := ih fun i hi => h i (by omega)
    have hx := h k (by omega)
    rw [joinK]
    by_cases c : (rgAt l k).t ≤ (rgAt l k).f
    · rw [if_pos c]; exact ih
    · rw [if_neg c]
      by_cases d : 0 < (joinK l k).length ∧ (rgAt l k).f ≤ lastT (joinK l k)
      · rw [if_pos d]
        intro i hi
        rw [List.length_set] at hi
        have hl := ih ((joinK l k).length - 1) (by omega)
        unfold lastT at d ⊢
        by_cases e : i = (joinK l k).length - 1
        · rw [e, rgAt_set_self (by omega)]
          refine ⟨?_, hl.2.1, ?_, fun h0 => ?_⟩
          · dsimp only; omega
          · dsimp only; omega
          · rw [rgAt_set (by omega)]; exact hl.2.2.2 h0
        · rw [rgAt_set e]
          have := ih i hi
          refine ⟨this.1, this.2.1, this.2.2.1, fun h0 => ?_⟩
          rw [rgAt_set (by omega)]; exact this.2.2.2 h0
      · rw [if_neg d]
        intro i hi
        rw [List.length_append, List.length_singleton] at hi
        by_cases e : i = (joinK l k).length
        · rw [e, rgAt_end]
          refine ⟨by omega, hx.1, hx.2, fun h0 => ?_⟩
          rw [rgAt_app (by omega)]
          unfold lastT at d
          omega
        · rw [rgAt_app (by omega)]
          have := ih i (by omega)
          refine ⟨this.1, this.2.1, this.2.2.1, fun h0 => ?_⟩
          rw [rgAt_app (by omega)]; exact this.2.2.2 h0
/-- one more range among the others -/
def insS (l : List Rg) (x : Rg) (k : Nat) : List Rg := l.take k ++ [x] ++ l.drop k
theorem rgAt_mem {l : List Rg} {i : Nat} (h : i < l.length) : rgAt l i ∈ l := by
  unfold rgAt
  rw [List.getD_eq_getElem?_getD, List.getElem?_eq_getElem h]
  exact List.getElem_mem h
theorem mem_rgAt {l : List Rg} {x : Rg} (h : x ∈ l) : ∃ i, i < l.length ∧ rgAt l i = x := by
  obtain ⟨i, hi, e⟩ := List.mem_iff_getElem.1 h
  exact ⟨i, hi, rgAt_of (by rw [List.getElem?_eq_getElem hi, e])⟩
theorem insS_b {l : List Rg} {x : Rg} {k : Nat} {a b : Int} (hl : ∀ i, i < l.length → a ≤ (rgAt l i).f ∧ (rgAt l i).t ≤ b) (hx : a ≤ x.f ∧ x.t ≤ b) : ∀ i, i < (insS l x k).length → a ≤ (rgAt (insS l x k) i).f ∧ (rgAt (insS l x k) i).t ≤ b := by
  intro i hi
  have hm := rgAt_mem hi
  have key : ∀ y, y ∈ insS l x k → y = x ∨ y ∈ l := fun y hy => by
    unfold insS at hy
    rcases List.mem_append.1 hy with h | h
    · rcases List.mem_append.1 h with h | h
      · exact .inr (List.mem_of_mem_take h)
      · exact .inl (by simpa using h)
    · exact .inr (List.mem_of_mem_drop h)
  rcases key _ hm with e | e
  · rw [e]; exact hx
  · obtain ⟨j, hj, e2⟩ := mem_rgAt e
    rw [← e2]; exact hl j hj
end Go.Proofs.Ytfgkkflbpfocjaa

namespace Go.Proofs.Ytfgkkflbpfocjaa
open Go.RowKit
set_option linter.unusedVariables false
set_option linter.unusedSimpArgs false

theorem hidI' {p : Prop} (h : p) : Hid p := h
theorem anyHas_take {a b c : Int} {l : List Sl} {i : Nat} (h : ∀ k y, k < i → l[k]? = some y → y.has a b c = false) : anyHas a b c (l.take i) = false := by
  unfold anyHas
  rw [List.any_eq_false]
  intro y hy
  obtain ⟨k, hk⟩ := List.mem_iff_getElem?.1 hy
  have hk1 := (List.getElem?_eq_some_iff.1 hk).1
  rw [List.length_take] at hk1
  rw [List.getElem?_take, if_pos (by omega)] at hk
  rw [h k y (by omega) hk]
  decide
theorem anyHas_hit {a b c : Int} {l : List Sl} {i k : Nat} {y : Sl} (hk : k < i) (hy : l[k]? = some y) (h : y.has a b c = true) : anyHas a b c (l.take i) = true := by
  unfold anyHas
  rw [List.any_eq_true]
  exact ⟨y, List.mem_iff_getElem?.2 ⟨k, by rw [List.getElem?_take, if_pos hk]; exact hy⟩, h⟩

set_option maxRecDepth 100000 in
set_option maxHeartbeats 8000000 in
theorem rslot_any (g n r : Int) (l : List Sl) (i : Nat) (x : Sl) (e : Int) (hx : l[i]? = some x) (hn0 : 0 ≤ n) (hn1 : n ≤ 18446744073709551615) (hw : 0 ≤ x.off ∧ x.off ≤ 18446744073709551615 ∧ 0 ≤ x.size) (h0 : i = 0 → e = 0)
    (hp : ∀ p, 0 < i → l[i - 1]? = some p → p.off + p.size = e) (he0 : 0 ≤ e) (he1 : e ≤ 18446744073709551615) (v : Value) (w : World) (hS : SlAt w 5 v l.length (flat l)) :
    Calls Try.prog 105 #[.agg #[.int .u64 g, .int .u64 n, .int .u64 r, v], .int .i64 i] w (RetI .i64 (slotE n (l.take i) e x) w) := by
  obtain ⟨A, c, rfl, hc1, hc2, hR⟩ := id hS
  have hil : i < l.length := (List.getElem?_eq_some_iff.1 hx).1
  obtain ⟨b, o, rfl, hbl, x0, x1, x2, x3, x4⟩ := slot_cells hR rfl hx
  obtain ⟨xo, xz, xn, xq, xi⟩ := x
  dsimp only at *
  have hii : (i : Int) < l.length := by omega
  have HS := Lib.hid hS
  clear hS
  go_enter Try.func105, Try.ntmps105
  by_cases hz : xz = 0
  · have E : Hid (slotE n (l.take i) e ⟨xo, xz, xn, xq, xi⟩ = 2) := by show (if _ then _ else _) = _; rw [if_pos (.inl hz)]
    go_wp2_with fail
    go_ret
    exact ⟨ret_int E.out.symm, (by repeat (first | with_reducible exact Below.refl _ _ | with_reducible refine Below.drew ?_ | with_reducible refine below_drewN ?_ _ | with_reducible refine bal ?_ _ | with_reducible refine bset ?_ (by first | (simp; done) | (simp; omega)) _ | with_reducible refine bnext ?_ (by assumption) | with_reducible assumption))⟩
  · by_cases hid : IdOk xn xq xi
    · have ID : Hid (idE xn xq xi = 0) := if_pos hid
      have C1 : Hid (¬ (xz = 0 ∨ ¬ IdOk xn xq xi)) := by rintro (h | h); exact hz h; exact h hid
      clear hid
      go_wp2_with fail
      refine (rCheckID_any _ _ _ _).mono ?_
      rintro e' w1 ⟨rfl, hb1⟩
      rw [ID.out]
      have hB1 : Below w.heap.size w w1 := bnext (bal (bal (Below.refl _ _) _) _) hb1
      have k0 := ((Blk.new w 25 #[.int .u64 g, .int .u64 n, .int .u64 r, .slice (some ⟨b, o, none⟩) l.length c]).alloc (.cells #[.int .u64 xo, .int .u64 xz, .int .i64 xn, .int .u64 xq, .int .i64 xi] 81)).below hb1
      have k1 := (Blk.new1 w (.cells #[.int .u64 g, .int .u64 n, .int .u64 r, .slice (some ⟨b, o, none⟩) l.length c] 25) 81 #[.int .u64 xo, .int .u64 xz, .int .i64 xn, .int .u64 xq, .int .i64 xi]).below hb1
      have hs1 := ((HS.out.alloc (.cells #[.int .u64 g, .int .u64 n, .int .u64 r, .slice (some ⟨b, o, none⟩) l.length c] 25)).alloc (.cells #[.int .u64 xo, .int .u64 xz, .int .i64 xn, .int .u64 xq, .int .i64 xi] 81)).below hb1
      obtain ⟨_, _, e1, _, _, hR1⟩ := hs1
      cases e1
      obtain ⟨d0, d1, d2, d3⟩ := k0.c4
      obtain ⟨f0, f1, f2, f3, f4⟩ := k1.c5
      have K0' := Lib.hid k0
      have K1' := Lib.hid k1
      clear x0 x1 x2 x3 x4 k0 k1
      have hlt1 : w.heap.size + 1 < w1.heap.size := by have := hb1.size; simp at this; omega
      by_cases c1 : n < xo
      · have E : Hid (slotE n (l.take i) e ⟨xo, xz, xn, xq, xi⟩ = 19) := by show (if _ then _ else if xo < e ∨ n < xo ∨ n - xo < xz then _ else _) = _; rw [if_neg C1.out, if_pos (.inr (.inl c1))]
        have t1 : decide (n < xo) = true := by simpa using c1
        go_wp2_with fail
        go_quiet (fail)
        go_wp2_with fail
        go_ret
        exact ⟨ret_int E.out.symm, (by repeat (first | with_reducible exact Below.refl _ _ | with_reducible refine Below.drew ?_ | with_reducible refine below_drewN ?_ _ | with_reducible refine bal ?_ _ | with_reducible refine bset ?_ (by first | (simp; done) | (simp; omega)) _ | with_reducible refine bnext ?_ (by assumption) | with_reducible assumption))⟩
      · have t1 : decide (n < xo) = false := by simpa using c1
        have c1' : xo ≤ n := by omega
        clear c1
        by_cases c2 : n - xo < xz
        · have E : Hid (slotE n (l.take i) e ⟨xo, xz, xn, xq, xi⟩ = 19) := by show (if _ then _ else if xo < e ∨ n < xo ∨ n - xo < xz then _ else _) = _; rw [if_neg C1.out, if_pos (.inr (.inr c2))]
          have t2 : decide (n - xo < xz) = true := by simpa using c2
          go_wp2_with fail
          go_quiet (fail)
          go_wp2_with fail
          go_ret
          exact ⟨ret_int E.out.symm, (by repeat (first | with_reducible exact Below.refl _ _ | with_reducible refine Below.drew ?_ | with_reducible refine below_drewN ?_ _ | with_reducible refine bal ?_ _ | with_reducible refine bset ?_ (by first | (simp; done) | (simp; omega)) _ | with_reducible refine bnext ?_ (by assumption) | with_reducible assumption))⟩
        · have t2 : decide (n - xo < xz) = false := by simpa using c2
          have c2' : xz ≤ n - xo := by omega
          clear c2
          have HX : Hid (l[i]? = some ⟨xo, xz, xn, xq, xi⟩) := hx
          clear hx
          rcases i with _ | j
          · have h00 : e = 0 := h0 rfl
            have E0 : ∀ b, anyHas xn xq xi (l.take 0) = b → slotE n (l.take 0) e ⟨xo, xz, xn, xq, xi⟩ = if b = true then 9 else 0 := by
              rintro _ rfl
              show (if _ then _ else if xo < e ∨ n < xo ∨ n - xo < xz then _ else _) = _
              rw [if_neg C1.out, if_neg (by omega)]
            have E : Hid (slotE n (l.take 0) e ⟨xo, xz, xn, xq, xi⟩ = 0) := by rw [E0 false rfl]; rfl
            clear hp h0 E0
            subst h00
            rw [show ((0 : Nat) : Int) = 0 from rfl]
            go_wp2_with fail
            go_quiet (fail)
            go_wp2_with fail
            go_loopw [6] (fun a wr => a = .int .i64 0 ∧ Below w.heap.size w wr) (fun a _ => (intOf a).toNat)
            case atStart => exact ⟨rfl, (by repeat (first | with_reducible exact Below.refl _ _ | with_reducible refine Below.drew ?_ | with_reducible refine below_drewN ?_ _ | with_reducible refine bal ?_ _ | with_reducible refine bset ?_ (by first | (simp; done) | (simp; omega)) _ | with_reducible refine bnext ?_ (by assumption) | with_reducible assumption))⟩
            case round =>
              obtain ⟨rfl, hB⟩ := hrel
              go_wp2_with fail
              go_ret
              exact ⟨ret_int E.out.symm, hB⟩
          · obtain ⟨p, hpi⟩ : ∃ p, l[j]? = some p := ⟨_, List.getElem?_eq_getElem (by omega)⟩
            have hpe : p.off + p.size = e := hp p (by omega) hpi
            obtain ⟨b', o', eb, _, p0, p1, _⟩ := slot_cells hR1 rfl hpi
            cases eb
            have hj0 : (j : Int) < l.length := by omega
            have hj1 : (0 : Int) ≤ (j : Int) := by omega
            have hlm : l.length ≤ 9223372036854775807 := by unfold maxLen at hc2; omega
            have WJ : IntKind.i64.wrap (j : Int) = (j : Int) := IntWalk.i64_in _ (by omega)
            have WN : IntKind.u64.wrap (n - xo) = n - xo := IntWalk.u64_in _ (by omega)
            have WP : IntKind.u64.wrap (p.off + p.size) = p.off + p.size := IntWalk.u64_in _ (by omega)
            by_cases c3 : xo < e
            · have E : Hid (slotE n (l.take (j + 1)) e ⟨xo, xz, xn, xq, xi⟩ = 19) := by show (if _ then _ else if xo < e ∨ n < xo ∨ n - xo < xz then _ else _) = _; rw [if_neg C1.out, if_pos (.inl c3)]
              have t3 : decide (xo < p.off + p.size) = true := by rw [hpe]; simpa using c3
              have t4 : decide (0 < (j : Int) + 1) = true := by simp
              clear hpi hp h0 hpe
              go_wp2_with fail
              go_quiet (fail)
              clear WP WN WJ
              go_wp2_with fail
              go_ret
              exact ⟨ret_int E.out.symm, (by repeat (first | with_reducible exact Below.refl _ _ | with_reducible refine Below.drew ?_ | with_reducible refine below_drewN ?_ _ | with_reducible refine bal ?_ _ | with_reducible refine bset ?_ (by first | (simp; done) | (simp; omega)) _ | with_reducible refine bnext ?_ (by assumption) | with_reducible assumption))⟩
            · have E0 : ∀ b, anyHas xn xq xi (l.take (j + 1)) = b → slotE n (l.take (j + 1)) e ⟨xo, xz, xn, xq, xi⟩ = if b = true then 9 else 0 := by
                rintro _ rfl
                show (if _ then _ else if xo < e ∨ n < xo ∨ n - xo < xz then _ else _) = _
                rw [if_neg C1.out, if_neg (by omega)]
              have HE0 := Lib.hid E0
              have t3 : decide (xo < p.off + p.size) = false := by rw [hpe]; simpa using c3
              have t4 : decide (0 < (j : Int) + 1) = true := by simp
              have HR1 := Lib.hid hR1
              clear hpi hp h0 E0 hpe hR1
              go_wp2_with fail
              go_quiet (fail)
              clear WP WN WJ
              go_wp2_with fail
              have hfx : Below w1.heap.size w1 (w1.drewN nq) := below_drewN (Below.refl _ _) nq
              clear p0 p1 t3 t4
              go_loopw [6] (fun a wr => ∃ k : Nat, k ≤ j + 1 ∧ a = .int .i64 k ∧ (∀ q y, q < k → l[q]? = some y → y.has xn xq xi = false) ∧ Below w1.heap.size w1 wr) (fun a _ => j + 1 - (intOf a).toNat)
              case atStart => exact ⟨0, by omega, rfl, fun q y h => by omega, hfx⟩
              case round =>
                clear hfx d0 d1 d2 d3 f0 f1 f2 f3 f4
                obtain ⟨k, hk, rfl, hno, hB⟩ := hrel
                have HNO := Lib.hid hno
                have k0' := K0'.out.below hB
                have k1' := K1'.out.below hB
                obtain ⟨d0, d1, d2, d3⟩ := k0'.c4
                obtain ⟨f0, f1, f2, f3, f4⟩ := k1'.c5
                clear hno k0' k1'
                by_cases hkj : k < j + 1
                · obtain ⟨y, hy⟩ : ∃ y, l[k]? = some y := ⟨_, List.getElem?_eq_getElem (by omega)⟩
                  obtain ⟨b2, o2, eb, _, y0, y1, y2, y3, y4⟩ := slot_cells (HR1.out.keep hB.size fun b o h => hB.cell (p := ⟨b, o, none⟩) h) rfl hy
                  cases eb
                  have hkl : (k : Int) < l.length := by omega
                  have hk0 : (0 : Int) ≤ (k : Int) := by omega
                  have hkj' : (k : Int) < (j : Int) + 1 := by omega
                  by_cases hh : y.has xn xq xi = true
                  · have E := hidI' (HE0.out true (anyHas_hit hkj hy hh))
                    have he : ∀ w, (binOp .eql 47 (.agg #[.int .i64 y.node, .int .u64 y.seq, .int .i64 y.io]) (.agg #[.int .i64 xn, .int .u64 xq, .int .i64 xi])).run Try.prog w = .ok (.bool true) w := fun w => by rw [run_eql_id]; unfold Sl.has at hh; rw [hh]
                    clear hy hh
                    go_wp2_with fail
                    go_quiet (fail)
                    go_wp2_with fail
                    go_ret
                    exact ⟨by rw [E.out]; rfl, below_drewN (bnext hB1 hB) _⟩
                  · have hh' : y.has xn xq xi = false := by simpa using hh
                    have he : ∀ w, (binOp .eql 47 (.agg #[.int .i64 y.node, .int .u64 y.seq, .int .i64 y.io]) (.agg #[.int .i64 xn, .int .u64 xq, .int .i64 xi])).run Try.prog w = .ok (.bool false) w := fun w => by rw [run_eql_id]; unfold Sl.has at hh'; rw [hh']
                    have HNO2 : Hid (∀ q z, q < k + 1 → l[q]? = some z → z.has xn xq xi = false) := hidI' (fun q z hq hz => by
                      by_cases hqk : q = k
                      · subst hqk; rw [hy] at hz; cases hz; exact hh'
                      · exact HNO.out q z (by omega) hz)
                    clear hy hh hh'
                    go_wp2_with fail
                    go_quiet (fail)
                    go_wp2_with fail
                    go_roundw
                    case rel => exact ⟨k + 1, by omega, by go_num, HNO2.out, below_drewN hB _⟩
                    case measure => simp [intOf]; omega
                · obtain rfl : k = j + 1 := by omega
                  have E := hidI' (HE0.out false (anyHas_take HNO.out))
                  go_wp2_with fail
                  go_ret
                  exact ⟨by rw [E.out]; rfl, bnext hB1 hB⟩
    · have ID : Hid (idE xn xq xi = 2) := if_neg hid
      have E : Hid (slotE n (l.take i) e ⟨xo, xz, xn, xq, xi⟩ = 2) := by show (if _ then _ else _) = _; rw [if_pos (.inr hid)]
      clear hid
      go_wp2_with fail
      refine (rCheckID_any _ _ _ _).mono ?_
      rintro e' w1 ⟨rfl, hb1⟩
      rw [ID.out]
      go_wp2_with fail
      go_ret
      exact ⟨ret_int E.out.symm, (by repeat (first | with_reducible exact Below.refl _ _ | with_reducible refine Below.drew ?_ | with_reducible refine below_drewN ?_ _ | with_reducible refine bal ?_ _ | with_reducible refine bset ?_ (by first | (simp; done) | (simp; omega)) _ | with_reducible refine bnext ?_ (by assumption) | with_reducible assumption))⟩
end Go.Proofs.Ytfgkkflbpfocjaa

