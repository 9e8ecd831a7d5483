/- Contracts: the chunks of a message (an iterator). -/
import Derived.RangeFuncBox
import Derived.RangeFuncNested
import Derived.RangeFuncBound
import Derived.RangeFuncCalls
import Derived.RangeFuncLeaves
import Derived.Shelf.Abstract
import Derived.Shelf.RegionOpen
import Derived.WalkKit
import Derived.OwnWalkIn
import Derived.TacticsInMore
import Derived.LoopNIn
import Derived.LoopIn
import Derived.Sort.CutIn
import Derived.Maps.AppendAt
import Derived.Test.YtcifngefclgefaaL
namespace Go.Proofs.Ytcifngefclgefaa
open Go.RowKit Go.Shelf
set_option linter.unusedVariables false
set_option linter.unusedSimpArgs false
attribute [local go_sem] Oper.semAt_some

/-- the numbers of the chunks -/
abbrev Ck (M s : Nat) := { j : Nat // j * s < M }
/-- the length of a chunk -/
def ckLen (M s j : Nat) : Nat := min s (M - j * s)
def ckVal (M s g : Nat) (x : Ck M s) : Value := .slice (some ⟨g, x.1 * s, none⟩) (ckLen M s x.1) (ckLen M s x.1)

theorem wpIn_by {F : Fence} {n : Nat} {P : Program} {c : Code} {Q : Exit → Act → World → Prop} {a : Act} {w : World} (A : Act) (W : World) (h : Q .normal A W) (h2 : ∀ Q' : Exit → Act → World → Prop, Q' .normal A W → Code.wpIn F n P c Q' a w) : Code.wpIn F n P c Q a w := h2 Q h
theorem grown_drew (w : World) : w.grownBy w.drew none := ⟨rfl, rfl, rfl, Nat.le_refl _, fun _ _ _ => rfl⟩

set_option maxRecDepth 100000 in
set_option maxHeartbeats 2000000 in
theorem chunk1_in (F : Fence) (n : Nat) (h48 : F.fn 48) (hro : F.round = none) (hn : 1 ≤ n) (l Bs Bn n₁ M s g cap : Nat) (hM : M ≤ 20000) (hs : 1 ≤ s ∧ s ≤ 1000) (hMc : M ≤ cap) (hcap : cap ≤ 9223372036854775807) (Kp : World → World → Prop) (hKs : ∀ A B, Kp A B → B.cell? ⟨Bs, 0, none⟩ = A.cell? ⟨Bs, 0, none⟩) (hKn : ∀ A B, Kp A B → B.cell? ⟨Bn, 0, none⟩ = A.cell? ⟨Bn, 0, none⟩) (J Jx : List (Ck M s) → World → Prop) (hJa : AbidesFrom n₁ J)
    (hY : ∀ pre x W, J pre W → pre.length < (M + s - 1) / s → YieldAt F (n - 1) Try.prog l #[ckVal M s g x] W fun e W' =>
      (e = .returned (.bool true) ∧ J (pre ++ [x]) W' ∧ Kp W W') ∨ (e = .returned (.bool false) ∧ Jx (pre ++ [x]) W'))
    (W : World) (hBsc : W.cell? ⟨Bs, 0, none⟩ = some (.slice (some ⟨g, 0, none⟩) M cap)) (hBnc : W.cell? ⟨Bn, 0, none⟩ = some (.int .i64 s)) (h0 : J [] W) :
    CallsIn F n Try.prog 48 #[.func (.yield l) #[] #[], .pointer (some ⟨Bs, 0, none⟩), .pointer (some ⟨Bn, 0, none⟩)] W fun e W' => (∃ v, e = .returned v) ∧
      ((∃ ys, ys.map (·.1) = List.range ((M + s - 1) / s) ∧ J ys W') ∨ (∃ pre, True ∧ Jx pre W')) := by
  refine callsIn_of_wp Try.func48 rfl h48 ?_ hro
  simp only [Try.ntmps48, List.size_toArray, List.length_cons, List.length_nil, Nat.reduceAdd, Nat.reduceSub, Array.replicate_succ, Array.replicate_zero, List.push_toArray, List.append_toArray, List.nil_append, List.cons_append]
  gi_wp2
  gi_loopw [4] (fun a wr => ∃ k o : Nat, k ≤ (M + s - 1) / s ∧ a = .int .i64 (o : Int) ∧ Hid (o = k * s) ∧ wr.cell? ⟨Bs, 0, none⟩ = some (.slice (some ⟨g, 0, none⟩) M cap) ∧ wr.cell? ⟨Bn, 0, none⟩ = some (.int .i64 s) ∧ ∃ pre : List (Ck M s), pre.map (·.1) = List.range k ∧ J pre wr)
    (fun a _ => M + 2000 - (intOf a).toNat)
  case atStart => exact ⟨0, 0, Nat.zero_le _, rfl, Lib.hid (by simp), hBsc, hBnc, [], rfl, h0⟩
  case round =>
    obtain ⟨k, o, hk, rfl, ho, hcs, hcn, pre, hpre, hJ⟩ := hrel
    have hpl : pre.length = k := by have := congrArg List.length hpre; simpa using this
    have hks : Hid ((k + 1) * s = o + s) := Lib.hid (by rw [Nat.add_mul, Nat.one_mul, ho.out])
    by_cases hlt : o < M
    · have hltk : k * s < M := by rw [← ho.out]; exact hlt
      have hlt2 : k < (M + s - 1) / s := by
        rw [Nat.lt_div_iff_mul_lt hs.1]
        have : s * k < M := by rw [Nat.mul_comm]; exact hltk
        omega
      obtain ⟨X, hX⟩ : ∃ X : Ck M s, Hid (X.1 = k) := ⟨⟨k, hltk⟩, Lib.hid rfl⟩
      obtain ⟨fn, tmps, assign, body, hy, hR⟩ := hY pre X wr.drew (hJa _ _ _ _ hJ (grown_drew wr) (fun r e => by cases e)) (by rw [hpl]; exact hlt2)
      obtain ⟨e, he⟩ : ∃ e, ckLen M s k = e := ⟨_, rfl⟩
      have heq : Hid ((if M - o < s then ((M - o : Nat) : Int) else (s : Int)) = (e : Int)) := Lib.hid (by
        rw [← he, ckLen, ← ho.out]
        by_cases h : M - o < s
        · rw [if_pos h, Nat.min_eq_right (by omega)]
        · rw [if_neg h, Nat.min_eq_left (by omega)])
      have heM : e ≤ M - o := by rw [← he, ckLen, ← ho.out]; exact Nat.min_le_right _ _
      have hep : 0 < e := by rw [← he, ckLen, ← ho.out]; omega
      have hen : ¬ e = 0 := by omega
      have hes : e ≤ s := by rw [← he, ckLen]; exact Nat.min_le_left _ _
      unfold ckVal at hy
      rw [hX.out, he, ← ho.out] at hy
      have hoM : (o : Int) < M := by omega
      have hoc : o ≤ cap := by omega
      have hoi : (o : Int) ≤ cap := by omega
      have ho0 : (0 : Int) ≤ o := by omega
      have he0 : (0 : Int) ≤ e := by omega
      have hoe : (o : Int) ≤ o + e := by omega
      have hoec : (o : Int) + e ≤ cap := by omega
      have hoei : o + e ≤ cap := by omega
      have WS : IntKind.i64.wrap ((o : Int) + e) = o + e := IntWalk.i64_in _ (by omega)
      have hM1 : M ≤ 20000 := hM
      clear hltk he heM
      gi_upto_region 11 with fail
      refine wpIn_by { tmps := #[.func (.yield l) #[] #[], .pointer (some ⟨Bs, 0, none⟩), .pointer (some ⟨Bn, 0, none⟩), undef, .int .i64 o, .int .i64 e, .int .i64 o, .slice (some ⟨g, 0, none⟩) M cap, .int .i64 M, .bool true, u10, u11, u12, .int .i64 s, .slice (some ⟨g, 0, none⟩) M cap, .int .i64 o, .slice (some ⟨g, o, none⟩) (M - o) (cap - o), .int .i64 ((M - o : Nat) : Int), .int .i64 e, u19, u20, u21, u22, u23, u24, u25, u26, u27, u28, u29, u30], defers := [] } wr.drew ?_ (fun Q' hQ' => ?_)
      · gi_wp2
        refine hR.mono ?_
        rintro e3 W3 (⟨rfl, hJ3, hk3⟩ | ⟨rfl, hJx3⟩)
        · have hcs3 := (hKs _ _ hk3).trans hcs
          have hcn3 := (hKn _ _ hk3).trans hcn
          have WS2 : IntKind.i64.wrap ((o : Int) + s) = o + s := IntWalk.i64_in _ (by omega)
          gi_wp2
          go_roundw
          case rel => exact ⟨k + 1, o + s, by omega, by go_num, Lib.hid hks.out.symm, hcs3, hcn3, pre ++ [X], by rw [List.map_append, hpre, List.range_succ]; simp [hX.out], hJ3⟩
          case measure => simp [intOf]; omega
        · gi_wp2
          refine bodyPost_ret (results_none rfl _ _ _) rfl ?_
          exact ⟨⟨_, rfl⟩, .inr ⟨_, trivial, hJx3⟩⟩
      · rw [← heq.out] at hQ'
        gi_region
        all_goals exact hQ'
    · have hkK : k = (M + s - 1) / s := by
        have h1 : ¬ k < (M + s - 1) / s := fun c => by
          rw [Nat.lt_div_iff_mul_lt hs.1] at c
          have : s * k = o := by rw [Nat.mul_comm]; exact ho.out.symm
          have : k * s = o := ho.out.symm
          omega
        omega
      have hni : ¬ (o : Int) < M := by omega
      clear hlt
      gi_wp2
      go_end0
      exact ⟨⟨_, rfl⟩, .inl ⟨pre, hpre.trans (congrArg List.range hkK), hJ⟩⟩

/-- slices.Chunk of the bytes -/
theorem chunk_stops (F : Fence) (n : Nat) (h48 : F.fn 48) (hro : F.round = none) (hn : 1 ≤ n) (Bs Bn M s g cap : Nat) (hM : M ≤ 20000) (hs : 1 ≤ s ∧ s ≤ 1000) (hMc : M ≤ cap) (hcap : cap ≤ 9223372036854775807) (w : World) (hBs : Bs < w.heap.size) (hBn : Bn < w.heap.size)
    (Kp : World → World → Prop) (hKs : ∀ A B, Kp A B → B.cell? ⟨Bs, 0, none⟩ = A.cell? ⟨Bs, 0, none⟩) (hKn : ∀ A B, Kp A B → B.cell? ⟨Bn, 0, none⟩ = A.cell? ⟨Bn, 0, none⟩)
    (hcs : w.cell? ⟨Bs, 0, none⟩ = some (.slice (some ⟨g, 0, none⟩) M cap)) (hcn : w.cell? ⟨Bn, 0, none⟩ = some (.int .i64 s)) :
    SeqStopsK F n Try.prog 48 #[.pointer (some ⟨Bs, 0, none⟩), .pointer (some ⟨Bn, 0, none⟩)] (fun x : Ck M s => #[ckVal M s g x]) Kp (fun ys => ys.map (·.1) = List.range ((M + s - 1) / s)) (fun _ => True) ((M + s - 1) / s) w := fun l J Jx W hW hJ _ hY h0 =>
  chunk1_in F n h48 hro hn l Bs Bn W.heap.size M s g cap hM hs hMc hcap Kp hKs hKn J Jx hJ hY W ((hW.cell (p := ⟨Bs, 0, none⟩) hBs).trans hcs) ((hW.cell (p := ⟨Bn, 0, none⟩) hBn).trans hcn) h0
end Go.Proofs.Ytcifngefclgefaa
