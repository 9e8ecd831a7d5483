/- Contract: slices.Delete of one slot of a row of the call's own. -/
import Derived.Test.YtdfppaafoecgmaaL
import Derived.Deep.DeepAppendRoom
import Derived.Laws.IdiomCopy
namespace Go.Proofs.Ytdfppaafoecgmaa
open Go.RowKit
set_option linter.unusedVariables false
set_option linter.unusedSimpArgs false

section
variable {P : Program} {w : World} {base g n cap size : Nat} {e : TypeId} {xs : List Value}
/-- fewer of the row -/
theorem own_shrink (h : w.ownsRow base e size (.slice (some ⟨g, 0, none⟩) n cap) n xs) {m : Nat} (hm : m ≤ n) : w.ownsRow base e size (.slice (some ⟨g, 0, none⟩) m cap) m (xs.take (m * size)) := by
  rcases h.2 with ⟨h', _⟩ | ⟨g', cap', cur, h', hb, hg, hnc, hcm, hcs, htake⟩
  · simp at h'
  · simp only [Value.slice.injEq, Option.some.injEq, Addr.mk.injEq, and_true, true_and] at h'
    obtain ⟨rfl, rfl⟩ := h'
    have hle : m * size ≤ n * size := Nat.mul_le_mul_right _ hm
    exact ⟨by rw [List.length_take, h.1]; omega, .inr ⟨g, cap, cur, rfl, hb, hg, by omega, hcm, hcs, by rw [← htake, List.take_take, Nat.min_eq_left hle]⟩⟩
/-- every cell of the row's room is there -/
theorem own_room (h : w.ownsRow base e size (.slice (some ⟨g, 0, none⟩) n cap) n xs) {j : Nat} (hj : j < cap * size) : (w.cell? ⟨g, j, none⟩).isSome = true := by
  rcases h.2 with ⟨h', _⟩ | ⟨g', cap', cur, h', hb, hg, hnc, hcm, hcs, htake⟩
  · simp at h'
  · simp only [Value.slice.injEq, Option.some.injEq, Addr.mk.injEq, and_true, true_and] at h'
    obtain ⟨rfl, rfl⟩ := h'
    rw [cell_of_row w g j cur e (0, 0) hg, Array.getElem?_eq_getElem (by omega)]
    rfl
/-- stores behind the row's end -/
theorem own_set_far : ∀ (vs : List Value) (j : Nat) (w : World), w.ownsRow base e size (.slice (some ⟨g, 0, none⟩) n cap) n xs → n * size ≤ j → (w.setCells g j vs).ownsRow base e size (.slice (some ⟨g, 0, none⟩) n cap) n xs ∧ w.grownBy (w.setCells g j vs) (some g)
  | [], _, w, h, _ => ⟨h, World.grownBy.refl w _⟩
  | v :: r, j, w, h, hj => by
    obtain ⟨h1, h2⟩ := h.stored j v
    rw [List.set_eq_of_length_le (by rw [h.1]; exact hj)] at h1
    obtain ⟨h3, h4⟩ := own_set_far r (j + 1) _ h1 (by omega)
    refine ⟨h3, ⟨h4.os.trans h2.os, h4.tape.trans h2.tape, h4.output.trans h2.output, Nat.le_trans h2.size h4.size, fun k hk hne => ?_⟩⟩
    exact (h4.block k (by have := h2.size; omega) hne).trans (h2.block k hk hne)
theorem grown_two {w w1 w2 : World} {r : Option Nat} (h1 : w.grownBy w1 r) (h2 : w1.grownBy w2 r) : w.grownBy w2 r :=
  ⟨h2.os.trans h1.os, h2.tape.trans h1.tape, h2.output.trans h1.output, Nat.le_trans h1.size h2.size, fun k hk hne => (h2.block k (by have := h1.size; omega) hne).trans (h1.block k hk hne)⟩

/-- append onto a slice of the call's own that has room, as one step of a region that draws -/
theorem step_append_spare {ops : Array Oper} {o : Oper} {a : Act} {K : Act → World → Prop} {Q : Exit → Act → World → Prop} {E : Prop} (hgd : o.guard = none) (s x : Operand) (t : TypeId)
    (ho : o.op = .call { callee := .builtin .append, args := #[s, x], argTypes := #[t, t] })
    (base : Nat) (e : TypeId) (i : TypeInfo) (size : Nat) (ht : P.underlying t = some (.slice e)) (hi : P.info? e = some i) (hsize : i.size = size)
    (g n cap : Nat) (xs : List Value) (hs : a.eval s = .slice (some ⟨g, 0, none⟩) n cap) (hown : w.ownsRow base e size (.slice (some ⟨g, 0, none⟩) n cap) n xs)
    (ad : Addr) (m c : Nat) (news : List Value) (hx : a.eval x = .slice (some ad) m c) (hl : news.length = m * size) (hnews : ∀ j u, news[j]? = some u → w.cell? (ad.add j) = some u) (h1 : ∀ u ∈ news, u.oneCell' = true)
    (hroom : n + m ≤ cap) (N : Nat) (hN : n + m = N)
    (h : ∀ w', w'.ownsRow base e size (.slice (some ⟨g, 0, none⟩) N cap) N (xs ++ news) → w.grownBy w' (some g) → K (a.put o.dst (.slice (some ⟨g, 0, none⟩) N cap)) w') :
    if Region.wanted o (yielded ops a.tmps) = true then Oper.wp P o a w K Q else E := by
  have hw : Region.wanted o (yielded ops a.tmps) = true := by simp [Region.wanted, hgd]
  rw [if_pos hw]
  subst hN
  exact wp_append_own_spare w s x t ho base e i size ht hi hsize g n cap xs hs hown ad m c news hx hl hnews h1 hroom h
end

theorem zeroSlot (w : World) : (zeroValue 44).run Try.prog w = .ok zslot w := by
  obtain ⟨i0, hi, hz0, hz1, hz2⟩ := info_parts infoSlot
  simp [zeroValue, typeInfo, hi, hz0, zslot]

/-- clearing one slot -/
theorem run_clear1 (w : World) (ty : TypeId) (b o c : Nat) (hc : ∀ j, j < 5 → (w.cell? ⟨b, o + j, none⟩).isSome = true) (hf : ∀ j, j < 5 → w.frozen? ⟨b, o + j, none⟩ = false) :
    (Builtin.clear_ #[24] ty #[.slice (some ⟨b, o, none⟩) 1 c]).run Try.prog w = .ok (.tuple #[]) (w.setCells b o [.int .u64 0, .int .u64 0, .int .i64 0, .int .u64 0, .int .i64 0]) := by
  have hzc : (Builtin.zeroCells (Value.agg #[.int .u64 0, .int .u64 0, .int .i64 0, .int .u64 0, .int .i64 0]).cells 1).toList = [.int .u64 0, .int .u64 0, .int .i64 0, .int .u64 0, .int .i64 0] := by kernel_rfl
  have hst := run_storeCells_cells (P := Try.prog) b o [.int .u64 0, .int .u64 0, .int .i64 0, .int .u64 0, .int .i64 0] 0 w (by simpa using hc) (by simpa using hf) (by intro v hv; simp at hv; rcases hv with rfl | rfl | rfl | rfl | rfl <;> rfl)
  simp only [Nat.add_zero] at hst
  simp only [Builtin.clear_]
  simp [run_underlying Try.underlying24, zeroSlot, zslot]
  rw [hzc, hst]
  rfl

def DelPost (base g cap N : Nat) (l : List Sl) (i : Nat) (w : World) (e : Ending) (w' : World) : Prop :=
  e = .returned (.slice (some ⟨g, 0, none⟩) N cap) ∧ w'.ownsRow base 44 5 (.slice (some ⟨g, 0, none⟩) N cap) N (flat (l.eraseIdx i)) ∧ w.grownBy w' (some g)

set_option maxRecDepth 100000 in
set_option maxHeartbeats 4000000 in
theorem Delete_any (base g cap N : Nat) (l : List Sl) (hlN : l.length = N + 1) (i : Nat) (hi : i < N + 1) (w : World) (hO : w.ownsRow base 44 5 (.slice (some ⟨g, 0, none⟩) (N + 1) cap) (N + 1) (flat l)) :
    Calls Try.prog 48 #[.slice (some ⟨g, 0, none⟩) (N + 1) cap, .int .i64 i, .int .i64 ((i : Int) + 1)] w (DelPost base g cap N l i w) := by
  obtain ⟨ii, hii, hz0, hz1, hz2⟩ := info_parts infoSlot
  obtain ⟨_, _, e, hlc, hcm, hRd⟩ := SlAt.own hO
  cases e
  obtain ⟨_, _, e, hgl, hRB⟩ := hRd.2 (by omega)
  cases e
  unfold maxLen at hcm
  have hii0 : (0 : Int) ≤ (i : Int) := by omega
  have hii1 : (0 : Int) ≤ (i : Int) + 1 := by omega
  have hi1 : (i : Int) + 1 ≤ (N : Int) + 1 := by omega
  have hi2 : (i : Int) ≤ (i : Int) + 1 := by omega
  have hi3 : (i : Int) ≤ (N : Int) + 1 := by omega
  have hi4 : (N : Int) + 1 ≤ cap := by omega
  have hi5 : (i : Int) ≤ cap := by omega
  have hi6 : (i : Int) + 1 ≤ cap := by omega
  have hi7 : (N : Int) ≤ cap := by omega
  have hi8 : (i : Int) ≤ N := by omega
  have hn1 : ((i : Int) + 1).toNat = i + 1 := by omega
  have hn2 : ((N : Int) + 1).toNat = N + 1 := by omega
  have hne : ((i : Int) == (i : Int) + 1) = false := by rw [beq_eq_false_iff_ne]; omega
  have hic : i + (N - i) ≤ cap := by omega
  have HO := Lib.hid hO
  have ET : Hid ((flat l).take (i * 5) = flat (l.take i)) := by
    have e : flat l = flat (l.take i) ++ flat (l.drop i) := by rw [← flat_app, List.take_append_drop]
    have hl : (flat (l.take i)).length = i * 5 := by rw [flat_len, List.length_take, Nat.min_eq_left (by omega)]
    show _ = _
    rw [e, ← hl, List.take_left]
  have hs0 := own_shrink hO (show i ≤ N + 1 by omega)
  rw [ET.out] at hs0
  have HS0 := Lib.hid hs0
  have EF : Hid (flat (l.take i) ++ flat (l.drop (i + 1)) = flat (l.eraseIdx i)) := by rw [← flat_app, List.eraseIdx_eq_take_drop_succ]; rfl
  have LD : Hid ((flat (l.drop (i + 1))).length = (N - i) * 5) := by rw [flat_len, List.length_drop, hlN, Nat.add_sub_add_right]; rfl
  have EN : Hid (i + (N - i) = N) := by show _ = _; omega
  obtain ⟨ad, had⟩ : ∃ ad, (if cap = i + 1 then some (⟨g, 0, none⟩ : Addr) else some ⟨g, (i + 1) * 5, none⟩) = some ad := by split <;> exact ⟨_, rfl⟩
  have N2 : Hid (∀ j u, (flat (l.drop (i + 1)))[j]? = some u → w.cell? (ad.add j) = some u) := by
    intro j u h
    have h0 := (List.getElem?_eq_some_iff.1 h).1
    rw [LD.out] at h0
    rw [if_neg (by omega)] at had
    have ha := Option.some.inj had
    have e1 : ad.add j = ⟨g, (i + 1) * 5 + j, none⟩ := by rw [← ha]; unfold Addr.add; split <;> simp_all
    rw [e1]
    have := hRB _ u (flat_drop_get (by omega) h)
    rwa [Nat.zero_add] at this
  clear hRB hRd hO hs0 ET
  have HLN := Lib.hid hlN
  clear hlN
  go_enter Try.func48, Try.ntmps48
  go_upto_region 5 with fail
  go_region_law (refine step_append_spare (by rfl) _ _ 24 (by rfl) base 44 ii 5 Try.underlying24 hii hz1 g i cap (flat (l.take i)) (by rfl) HS0.out.drew ad (N - i) (cap - (i + 1)) (flat (l.drop (i + 1))) (by rfl) LD.out N2.out (flat_one _) hic N EN.out ?_; intro w1 hown1 hgrow1; rw [EF.out] at hown1; have HO1 := Lib.hid hown1; have HG1 := Lib.hid hgrow1; clear hown1 hgrow1)
  all_goals
    have hcl : ∀ ty, (Builtin.clear_ #[24] ty #[.slice (some ⟨g, N * 5, none⟩) 1 (cap - N)]).run Try.prog w1 = .ok (.tuple #[]) (w1.setCells g (N * 5) [.int .u64 0, .int .u64 0, .int .i64 0, .int .u64 0, .int .i64 0]) := fun ty => run_clear1 w1 ty g (N * 5) (cap - N) (fun j hj => own_room HO1.out (by omega)) (fun j hj => HO1.out.frozenAt _)
    have hfar := own_set_far [.int .u64 0, .int .u64 0, .int .i64 0, .int .u64 0, .int .i64 0] (N * 5) w1 HO1.out (Nat.le_refl _)
    have HF := Lib.hid hfar
    clear hfar
    have hc1 : ¬ cap = N := by omega
    obtain ⟨w2, hw2⟩ : ∃ w2, w1.setCells g (N * 5) [.int .u64 0, .int .u64 0, .int .i64 0, .int .u64 0, .int .i64 0] = w2 := ⟨_, rfl⟩
    rw [hw2] at hcl HF
    clear hw2
    go_wp2_with fail
    go_ret
    exact ⟨rfl, HF.out.1, grown_two (⟨rfl, rfl, rfl, Nat.le_refl _, fun _ _ _ => rfl⟩ : w.grownBy w.drew (some g)) (grown_two HG1.out HF.out.2)⟩
end Go.Proofs.Ytdfppaafoecgmaa
