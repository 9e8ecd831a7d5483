/- Contracts on the way to this seat's statements; what each theorem says stands in its type. -/
import Derived.RangeFuncBox
import Derived.RangeFuncNested
import Derived.RangeFuncBound
import Derived.RangeFuncCalls
import Derived.RangeFuncLeaves
import Derived.Shelf.Abstract
import Derived.Shelf.RegionOpen
import Derived.WalkKit
import Derived.OwnWalkIn
import Derived.TacticsInMore
import Derived.LoopNIn
import Derived.LoopIn
import Derived.Maps.AppendAt
import Derived.Test.YtblfdikjimagjaaW11
namespace Go.Proofs.Ytblfdikjimagjaa
set_option linter.unusedVariables false
open Go.RowKit Go.Shelf
attribute [local go_sem] Oper.semAt_some

theorem boxed_below {W W' : World} {B n : Nat} {t : TypeId} {v : Value} (h : Boxed W B t v) (hb : Below n W W') (hB : B < n) : Boxed W' B t v := (hb.block B hB).trans h
theorem grown_of_below {W W' : World} (h : Below W.heap.size W W') : W.grownBy W' none := ⟨h.os, h.tape, h.output, h.size, fun k hk _ => h.block k hk⟩
theorem own_below {W W' : World} (h : Below W.heap.size W W') {base : Nat} {e : TypeId} {size n : Nat} {v : Value} {xs : List Value} (hr : W.ownsRow base e size v n xs) : W'.ownsRow base e size v n xs := by
  refine hr.kept (grown_of_below h) ?_
  rcases hr.2 with ⟨rfl, _⟩ | ⟨g, cap, cur, rfl, _⟩
  · exact .inl rfl
  · exact .inr (by simp [Value.ownBlock])
theorem others_below {W W' : World} (h : Below W.heap.size W W') : KeepsOthers W W' := ⟨h.size, fun k o hk _ => (h.block k (Array.getElem?_eq_some_iff.1 hk).1).trans hk⟩
theorem own_mono {w : World} {base base' : Nat} {e : TypeId} {size n : Nat} {v : Value} {xs : List Value} (h : w.ownsRow base e size v n xs) (hb : base' ≤ base) : w.ownsRow base' e size v n xs := by
  obtain ⟨h1, h2⟩ := h
  refine ⟨h1, ?_⟩
  rcases h2 with h2 | ⟨g, cap, cur, a, b, c⟩
  · exact .inl h2
  · exact .inr ⟨g, cap, cur, a, by omega, c⟩
theorem box3 (w : World) (a b c : Int) : let W := ((w.alloc (.cells #[.int .i64 a] 3)).alloc (.cells #[.int .i64 b] 3)).alloc (.cells #[.int .i64 c] 3)
    W.cell? ⟨w.heap.size, 0, none⟩ = some (.int .i64 a) ∧ W.cell? ⟨w.heap.size + 1, 0, none⟩ = some (.int .i64 b) ∧ W.cell? ⟨w.heap.size + 1 + 1, 0, none⟩ = some (.int .i64 c) := by
  have b0 := ((Boxed.new w 3 (.int .i64 a)).alloc (.cells #[.int .i64 b] 3)).alloc (.cells #[.int .i64 c] 3)
  have b1 := (Boxed.new (w.alloc (.cells #[.int .i64 a] 3)) 3 (.int .i64 b)).alloc (.cells #[.int .i64 c] 3)
  have b2 := Boxed.new ((w.alloc (.cells #[.int .i64 a] 3)).alloc (.cells #[.int .i64 b] 3)) 3 (.int .i64 c)
  rw [World.size_alloc] at b1
  rw [World.size_alloc, World.size_alloc] at b2
  exact ⟨b0.cell, b1.cell, b2.cell⟩
theorem info3 : (Try.prog.info? 3).map (fun i => (i.zero, i.size, i.bytes)) = some (some (.int .i64 0), 1, 8) := by kernel_rfl

/-- the times with numbers below N -/
def tl (f m s : Int) (l : List Int) : List Int := l.map fun k => timeV f m s k
theorem tl_snoc (f m s : Int) (l : List Int) (x : Int) : tl f m s (l ++ [x]) = tl f m s l ++ [timeV f m s x] := by simp [tl]
theorem tl_len (f m s : Int) (l : List Int) : (tl f m s l).length = l.length := by simp [tl]

def TimesPost (xs : List Int) (err : Int) (w : World) (e : Ending) (w' : World) : Prop :=
  ∃ v, e = .returned (.tuple #[v, .int .i64 err]) ∧ w'.ownsRow w.heap.size 3 1 v xs.length (xs.map (.int .i64)) ∧ Below w.heap.size w w'

set_option maxRecDepth 100000 in
set_option maxHeartbeats 2000000 in
theorem Times_yes (f m s n : Int) (w : World) (h : Asked f m s n) (hle : cn m f (n - s) ≤ 1000) :
    Calls Try.prog 17 #[.int .i64 f, .int .i64 m, .int .i64 s, .int .i64 n] w (TimesPost (tl f m s (rng (cn m f (n - s)))) 0 w) := by
  have C1 : Hid (cntV f m s n = cn m f (n - s)) := if_pos h
  have C2 : Hid (cntE f m s n = 0) := if_pos h
  obtain ⟨N, hN⟩ : ∃ N, cn m f (n - s) = N := ⟨_, rfl⟩
  rw [hN] at hle C1 ⊢
  clear hN h
  obtain ⟨i0, hi, hz0, hz1, hz2⟩ := info_parts info3
  refine (callsIn_wide (n := 3)).1 ?_
  refine callsIn_of_wp_marks Try.func17 rfl trivial ?_ rfl
  simp only [Try.ntmps17, List.size_toArray, List.length_cons, List.length_nil, Nat.reduceAdd, Nat.reduceSub, Array.replicate_succ, Array.replicate_zero, List.push_toArray, List.append_toArray, List.nil_append, List.cons_append]
  gi_wp2_with (first
    | (refine ⟨trivial, ?_⟩; gi_at_call 20; refine (callsIn_wide.2 (Count_any f m s n _)).mono ?_; rintro e w1 ⟨rfl, hb⟩; rw [C1.out, C2.out]; clear C1 C2; have hcf := (bcell hb).1; have hff := (bcell hb).2; have hz := hb.size; try simp at hz)
    | (gi_at_make; refine wpListIn_make_own _ rfl _ _ 29 rfl w1.heap.size 3 i0 (.int .i64 0) 1 Try.underlying29 hi hz0 hz1 .i64 .i64 _ N rfl rfl rfl (by rw [hz2]; omega) (by unfold maxLen; omega) (Nat.le_refl _) ?_; intro w2 hown0 hgrow0)
    | (refine ⟨trivial, ?_⟩; gi_at_call 35; refine (numbers_in Fence.wide _ trivial rfl _ _).mono ?_; rintro e w' ⟨rfl, rfl⟩))
  have hB1 : Below w.heap.size w w1 := bnext (bal (bal (bal (Below.refl _ _) _) _) _) hb
  have hB2 : Below w1.heap.size w1 w2 := (Below.refl _ _).grown hgrow0 (Nat.le_refl _) (fun k e => by cases e)
  have p0 : w1.cell? ⟨w.heap.size, 0, none⟩ = some (.int .i64 f) := by rw [hcf _ _ (by simp; omega)]; exact (box3 w f m s).1
  have p1 : w1.cell? ⟨w.heap.size + 1, 0, none⟩ = some (.int .i64 m) := by rw [hcf _ _ (by simp)]; exact (box3 w f m s).2.1
  have p2 : w1.cell? ⟨w.heap.size + 1 + 1, 0, none⟩ = some (.int .i64 s) := by rw [hcf _ _ (by simp)]; exact (box3 w f m s).2.2
  clear hcf hff hb
  have bO := Boxed.new w2 29 (.slice (some ⟨w1.heap.size, 0, none⟩) 0 N)
  have bN := Boxed.new (w2.alloc (.cells #[.slice (some ⟨w1.heap.size, 0, none⟩) 0 N] 29)) 3 (.int .i64 N)
  rw [World.size_alloc] at bN
  have hB0 : Below w1.heap.size w1 ((w2.alloc (.cells #[.slice (some ⟨w1.heap.size, 0, none⟩) 0 N] 29)).alloc (.cells #[.int .i64 N] 3)) := bal (bal hB2 _) _
  have hle2 : w1.heap.size ≤ w2.heap.size := hB2.size
  refine wpIn_rangeFunc_ownG rfl (by omega) (gf := 39) (lb := #[.pointer (some ⟨w2.heap.size + 1, 0, none⟩)]) rfl trivial (enters_of Try.func39 (by kernel_rfl) rfl)
    (num_stops Fence.wide _ trivial rfl (by omega) (w2.heap.size + 1) w1.heap.size N (by omega) _ (by simp) (by simp; omega) bN.cell) belowK_t (belowK_b (by simp; omega)) (Below.refl _ _) (fun _ => rfl)
    (fun pre W => (∃ v, Boxed W w2.heap.size 29 v ∧ W.ownsRow w1.heap.size 3 1 v pre.length ((tl f m s pre).map (Value.int .i64)) ∧ True) ∧ Below w1.heap.size w1 W)
    (fun _ _ _ => False)
    (OwnFrom.and (Own.from (holdsRow_own w1.heap.size w2.heap.size 29 3 1 (fun pre => pre.length) (fun pre => (tl f m s pre).map (Value.int .i64)) (fun pre v => True)) _) (ownFrom_below (Nat.le_refl _) (by simp; omega)))
    (fun _ _ _ _ _ hs _ _ => hs)
    ⟨⟨_, bO.alloc _, (hown0.alloc _).alloc _, trivial⟩, hB0⟩
    (fun x => { tmps := #[.int .i64 f, .int .i64 m, .int .i64 s, .int .i64 n, .pointer (some ⟨w.heap.size, 0, none⟩), .pointer (some ⟨w.heap.size + 1, 0, none⟩), .pointer (some ⟨w.heap.size + 1 + 1, 0, none⟩), undef, .slice none 0 0, .int .i64 0, .int .i64 N, .int .i64 0, .pointer (some ⟨w2.heap.size, 0, none⟩), .int .i64 x, undef, undef, .tuple #[.int .i64 N, .int .i64 0], .int .i64 f, .int .i64 m, .int .i64 s, .int .i64 n, .tuple #[.int .i64 N, .int .i64 0], .int .i64 N, .int .i64 0, .bool false, .int .i64 0, .bool false, undef, .bool (decide (1000 < (N : Int))), .int .i64 N, .bool (decide (1000 < (N : Int))), .int .i64 N, .slice (some ⟨w1.heap.size, 0, none⟩) 0 N, .int .i64 N, .func (.func 39) #[] #[.pointer (some ⟨w2.heap.size + 1, 0, none⟩)], .int .i64 x, undef, undef, undef, undef, undef, undef, undef, undef, undef, undef, undef, undef, undef], defers := [] }) ?assign ?body ?done ?stop
  case assign =>
    intro l x W K hK
    gi_wp2
    exact hK
  case body =>
    rintro l pre x W ⟨⟨v, hv, hrow, _⟩, hB⟩ hlt
    have hc := hv.cell
    have c0 := (hB.cell (p := ⟨w.heap.size, 0, none⟩) (by show w.heap.size < w1.heap.size; omega)).trans p0
    have c1 := (hB.cell (p := ⟨w.heap.size + 1, 0, none⟩) (by show w.heap.size + 1 < w1.heap.size; omega)).trans p1
    have c2 := (hB.cell (p := ⟨w.heap.size + 1 + 1, 0, none⟩) (by show w.heap.size + 1 + 1 < w1.heap.size; omega)).trans p2
    have ht := tl_len f m s pre
    gi_wp2_with (first
      | (refine ⟨trivial, ?_⟩; gi_at_call 12; refine (CallsIn.inRound l (callsIn_wide.2 (Time_any f m s x _))).mono ?_; rintro e w4 ⟨rfl, hb4⟩; have hv4 := boxed_below hv hb4 hv.lt; have hrow4 := own_below hb4 hrow; have hc4 := hv4.cell; have hz4 := hb4.size; have hf4 := hv4.frozen)
      | (gi_at_builtin; refine wpListIn_append_own _ rfl _ _ 29 rfl w1.heap.size 3 i0 (.int .i64 0) 1 8 Try.underlying29 hi hz0 hz1 hz2 rfl (by decide) _ _ _ rfl (hrow4.alloc _) ⟨w4.heap.size, 0, none⟩ 1 1 [.int .i64 (timeV f m s x)] rfl rfl (cell_one_new _ _ _) (by simp [Value.oneCell']) (by unfold maxLen; omega) (by omega) (by have := hB.size; simp; omega) ?_; intro v' w1' hown' hgrow _; obtain ⟨g', cap', rfl⟩ := ownsRow_succ hown'; obtain ⟨hv1, hv2, hr2, hk2, hb2⟩ := hv4.appended (by decide) hrow4 (by have := hB.size; omega) hle2 hown' hgrow; have hc1 := hv1.cell; have hf1 := hv1.frozen))
    have hb24 := (hb4.mono hB.size).trans hb2
    exact ⟨((others_below hb4).trans hk2).from _, hb24, ⟨_, hv2, by rw [tl_snoc]; simpa using hr2, trivial⟩, hB.trans hb24⟩
  case done =>
    rintro D ys W hD rfl ⟨⟨v, hv, hrow, _⟩, hB⟩ hK
    have hc := hv.cell
    gi_wp2
    refine ⟨by simp, .inl ⟨_, _, rfl, run_takeDeferred hK, ?_⟩⟩
    have hz3 := hB.size
    have hfin : Below w.heap.size w (W.putObj D (.deferred none)) := (hB1.trans (hB.mono hB1.size)).trans (belowK_b (w := w) (Nat.le_refl _) W D _ _ (by simp at hD; omega) hK rfl rfl)
    refine ⟨_, results_tmp2 rfl _ _ _, v, rfl, ?_, hfin⟩
    rw [tl_len]
    exact ownsRow_putObj (own_mono hrow hB1.size) _ hK rfl
  case stop =>
    rintro D c pre W _ _ h _
    exact h.elim
