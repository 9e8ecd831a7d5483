/- Contracts: the slots that count (an iterator of the program). Contracts: the slots that count, as a range asks them. -/
import Derived.RangeFuncBox
import Derived.RangeFuncNested
import Derived.RangeFuncBound
import Derived.RangeFuncCalls
import Derived.RangeFuncLeaves
import Derived.Shelf.Abstract
import Derived.WalkKit
import Derived.OwnWalkIn
import Derived.TacticsInMore
import Derived.LoopNIn
import Derived.LoopIn
import Derived.Sort.CutIn
import Derived.Test.YtfgkkflbpfocjaaZc48
import Derived.Test.YtfgkkflbpfocjaaZc43
import Derived.Shelf.RegionOpen
namespace Go.Proofs.Ytfgkkflbpfocjaa
open Go.RowKit Go.Shelf
set_option linter.unusedVariables false
set_option linter.unusedSimpArgs false
attribute [local go_sem] Oper.semAt_some

/-- what the rounds keep: all below n0, and three blocks -/
structure KpH (n0 b1 b2 b3 : Nat) (X Y : World) : Prop where
  hB : Below n0 X Y
  e1 : Y.heap[b1]? = X.heap[b1]?
  e2 : Y.heap[b2]? = X.heap[b2]?
  e3 : Y.heap[b3]? = X.heap[b3]?
theorem KpH.trans {n0 b1 b2 b3 : Nat} {X Y Z : World} (h : KpH n0 b1 b2 b3 X Y) (k : KpH n0 b1 b2 b3 Y Z) : KpH n0 b1 b2 b3 X Z :=
  ⟨h.hB.trans k.hB, k.e1.trans h.e1, k.e2.trans h.e2, k.e3.trans h.e3⟩
theorem KpH.refl {n0 b1 b2 b3 : Nat} {X : World} : KpH n0 b1 b2 b3 X X := ⟨Below.refl _ _, rfl, rfl, rfl⟩

theorem kph_of {n0 b1 b2 b3 : Nat} {X Y Z : World} (h : Below X.heap.size X Y) (k : Below Y.heap.size Y Z) (hn : n0 ≤ X.heap.size) (h1 : b1 < X.heap.size) (h2 : b2 < X.heap.size) (h3 : b3 < X.heap.size) : KpH n0 b1 b2 b3 X Z := by
  have hh : Below X.heap.size X Z := h.trans (k.mono h.size)
  exact ⟨hh.mono hn, hh.block _ h1, hh.block _ h2, hh.block _ h3⟩
def ctd (z : Rec) (l : List Sl) : List Sl := l.filter (cntB z)
theorem ctd_snoc (z : Rec) (l : List Sl) (k : Nat) (hk : k < l.length) : ctd z (l.take (k + 1)) = if cntB z (slAtI l k) = true then ctd z (l.take k) ++ [slAtI l k] else ctd z (l.take k) := by
  have h1 : l.take (k + 1) = l.take k ++ [slAtI l k] := by
    rw [List.take_add_one, slAtI_get hk]; rfl
  unfold ctd
  rw [h1, List.filter_append]
  by_cases h : cntB z (slAtI l k) = true <;> simp [List.filter_cons, h]
theorem ctd_len (z : Rec) (l : List Sl) (k : Nat) (hk : k ≤ l.length) : (ctd z (l.take k)).length ≤ k := by
  have h1 := List.length_filter_le (cntB z) (l.take k)
  rw [List.length_take] at h1
  unfold ctd
  omega

def IsCt (again : Bool) (z : Rec) (l ys : List Sl) : Prop := ys = if again = true then [] else ctd z l
def Sl.val (x : Sl) : Value := .agg #[.int .u64 x.off, .int .u64 x.size, .int .i64 x.node, .int .u64 x.seq, .int .i64 x.io]

set_option maxRecDepth 100000 in
set_option maxHeartbeats 4000000 in
theorem counted1_in (n : Nat) (hn : 1 ≤ n) (l : Nat) (wi : World) (ga gs gr : Nat) (again : Bool) (S cs : Nat) (As : Option Addr) (SL : List Sl) (hSl : S = SL.length) (PS PR : Array Value) (z : Rec)
    (hPS : PS[7]? = some (.slice As S cs)) (a b f : Int) (vt vk : Value) (hR8 : PR[8]? = some (.int .u64 a)) (hR9 : PR[9]? = some (.int .u64 b)) (hR10 : PR[10]? = some (.int .u64 f)) (hR11 : PR[11]? = some vt) (hR12 : PR[12]? = some vk)
    (hRd : Reads wi 5 As S (flat SL)) (hcs : S ≤ cs ∧ cs ≤ maxLen) (hwf : ∀ x ∈ SL, (0 ≤ x.off ∧ x.off ≤ 18446744073709551615) ∧ (0 ≤ x.size ∧ x.size ≤ 18446744073709551615)) (hps : ∀ x ∈ SL, (stE z x.off x.size).2 = 0 ∨ (stE z x.off x.size).2 = 14)
    (ST : ∀ w', Below wi.heap.size wi w' → ∀ off size : Int, (0 ≤ off ∧ off ≤ 18446744073709551615) → (0 ≤ size ∧ size ≤ 18446744073709551615) → Calls Try.prog 77 #[.agg #[.int .u64 a, .int .u64 b, .int .u64 f, vt, vk], .int .u64 off, .int .u64 size] w' (Ret2 .i64 .i64 (stE z off size).1 (stE z off size).2 w'))
    (n₁ : Nat) (J Jx : List Sl → World → Prop) (hJa : AbidesFrom n₁ J)
    (hY : ∀ pre x W, J pre W → pre.length < S → YieldAt Fence.wide (n - 1) Try.prog l #[Sl.val x] W fun e W' =>
      (e = .returned (.bool true) ∧ J (pre ++ [x]) W' ∧ KpH wi.heap.size ga gs gr W W') ∨ (e = .returned (.bool false) ∧ Jx (pre ++ [x]) W'))
    (W : World) (hB : Below wi.heap.size wi W) (ka : Blk W ga 4 #[.bool again]) (ks : Blk W gs 31 PS) (kr : Blk W gr 31 PR) (h0 : J [] W) :
    CallsIn Fence.wide n Try.prog 76 #[.func (.yield l) #[] #[], .pointer (some ⟨ga, 0, none⟩), .pointer (some ⟨gs, 0, none⟩), .pointer (some ⟨gr, 0, none⟩)] W fun e W' => (∃ v, e = .returned v) ∧
      ((∃ ys, IsCt again z SL ys ∧ J ys W') ∨ (∃ pre, True ∧ Jx pre W')) := by
  refine callsIn_of_wp Try.func76 rfl trivial ?_ rfl
  simp only [Try.ntmps76, List.size_toArray, List.length_cons, List.length_nil, Nat.reduceAdd, Nat.reduceSub, Array.replicate_succ, Array.replicate_zero, List.push_toArray, List.append_toArray, List.nil_append, List.cons_append]
  have a0 : W.cell? ⟨ga, 0, none⟩ = some (.bool again) := ka.cell 0
  have s7 : W.cell? ⟨gs, 7, none⟩ = some (.slice As S cs) := (ks.cell 7).trans hPS
  unfold maxLen at hcs
  by_cases hag : again = true
  · subst hag
    gi_wp2
    refine bodyPost_ret (results_none rfl _ _ _) rfl ?_
    exact ⟨⟨_, rfl⟩, .inl ⟨[], rfl, h0⟩⟩
  · obtain rfl : again = false := by simpa using hag
    clear hag
    have hJ0 : Hid (J (ctd z (SL.take 0)) W) := Lib.hid h0
    have HB := Lib.hid hB
    have KS := Lib.hid ks
    have KR := Lib.hid kr
    have KA := Lib.hid ka
    have HRd := Lib.hid hRd
    have HSL := Lib.hid hSl
    have HWF := Lib.hid hwf
    have HPS := Lib.hid hps
    have ST' := Lib.hid ST
    have HY := Lib.hid hY
    have E7 := Lib.hid hPS
    have E8 := Lib.hid hR8
    have E9 := Lib.hid hR9
    have E10 := Lib.hid hR10
    have E11 := Lib.hid hR11
    have E12 := Lib.hid hR12
    clear hB ks kr ka hRd hSl hwf hps ST hY h0 hPS hR8 hR9 hR10 hR11 hR12
    gi_wp2
    clear s7 a0
    gi_loopw [14] (fun s14 wr => ∃ k : Nat, k ≤ S ∧ s14 = .int .i64 (k : Int) ∧ KpH wi.heap.size ga gs gr W wr ∧ Hid (J (ctd z (SL.take k)) wr)) (fun s14 _ => S - (intOf s14).toNat)
    case atStart => exact ⟨0, Nat.zero_le _, rfl, KpH.refl, hJ0⟩
    case round =>
      obtain ⟨k, hk, rfl, hkp, hJ⟩ := hrel
      clear hJ0
      have hBw : Below wi.heap.size wi wr := HB.out.trans hkp.hB
      have ksw : Blk wr gs 31 PS := hkp.e2.trans KS.out
      have krw : Blk wr gr 31 PR := hkp.e3.trans KR.out
      have hgs := ksw.lt
      have hgr := krw.lt
      have hga : ga < wr.heap.size := Blk.lt (hkp.e1.trans KA.out)
      have hni : wi.heap.size ≤ wr.heap.size := hBw.size
      have HKP := Lib.hid hkp
      clear hkp
      by_cases hlt : k < S
      · obtain ⟨x, hx⟩ : ∃ x, slAtI SL k = x := ⟨_, rfl⟩
        have hkl : k < SL.length := by rw [← HSL.out]; exact hlt
        obtain ⟨bt, ot, e, hbt, p0, p1, p2, p3, p4⟩ := slot_cells HRd.out HSL.out (slAtI_get hkl)
        subst e
        have hxm := slAtI_mem hkl
        have hsn := ctd_snoc z SL k hkl
        have hln := ctd_len z SL k (by omega)
        rw [hx] at p0 p1 p2 p3 p4 hxm hsn
        have HSN := Lib.hid hsn
        obtain ⟨hxo, hxs⟩ := HWF.out x hxm
        have hpe := HPS.out x hxm
        have d0 := (hBw.cell (p := ⟨bt, ot + k * 5, none⟩) hbt).trans p0
        have d1 := (hBw.cell (p := ⟨bt, ot + k * 5 + 1, none⟩) hbt).trans p1
        have d2 := (hBw.cell (p := ⟨bt, ot + k * 5 + 2, none⟩) hbt).trans p2
        have d3 := (hBw.cell (p := ⟨bt, ot + k * 5 + 3, none⟩) hbt).trans p3
        have d4 := (hBw.cell (p := ⟨bt, ot + k * 5 + 4, none⟩) hbt).trans p4
        have r8 : wr.cell? ⟨gr, 8, none⟩ = some (.int .u64 a) := (krw.cell 8).trans E8.out
        have r9 : wr.cell? ⟨gr, 9, none⟩ = some (.int .u64 b) := (krw.cell 9).trans E9.out
        have r10 : wr.cell? ⟨gr, 10, none⟩ = some (.int .u64 f) := (krw.cell 10).trans E10.out
        have r11 : wr.cell? ⟨gr, 11, none⟩ = some vt := (krw.cell 11).trans E11.out
        have r12 : wr.cell? ⟨gr, 12, none⟩ = some vk := (krw.cell 12).trans E12.out
        have hC : cntB z x = (decide ((stE z x.off x.size).2 ≠ 0) || decide ((stE z x.off x.size).1 = 2)) := rfl
        have STx := Lib.hid (fun w' hb => ST'.out w' hb x.off x.size hxo hxs)
        obtain ⟨s1, hs1⟩ : ∃ s1, (stE z x.off x.size).1 = s1 := ⟨_, rfl⟩
        obtain ⟨s2, hs2⟩ : ∃ s2, (stE z x.off x.size).2 = s2 := ⟨_, rfl⟩
        rw [hs1, hs2] at STx hC
        rw [hs2] at hpe
        have hki : (k : Int) < S := by omega
        have hk0 : (0 : Int) ≤ k := by omega
        clear hx p0 p1 p2 p3 p4 hxm hs1 hs2 ksw krw hsn hkl
        by_cases b1 : s2 = 14
        · have hct : Hid (cntB z x = true) := Lib.hid (by rw [hC]; simp [b1])
          subst b1
          clear hC hpe
          gi_wp2
          refine ⟨trivial, ?_⟩
          refine (callsIn_wide.2 (STx.out _ (bal hBw _))).mono ?_
          rintro e wn ⟨rfl, hb⟩
          have KN := Lib.hid (kph_of (b1 := ga) (b2 := gs) (b3 := gr) (bal (Below.refl _ _) _) hb hni hga hgs hgr)
          have q0 := (Blk.new wr 81 #[.int .u64 x.off, .int .u64 x.size, .int .i64 x.node, .int .u64 x.seq, .int .i64 x.io]).below hb
          have q00 : wn.cell? ⟨wr.heap.size, 0, none⟩ = some (.int .u64 x.off) := q0.cell 0
          have q01 : wn.cell? ⟨wr.heap.size, 1, none⟩ = some (.int .u64 x.size) := q0.cell 1
          have q02 : wn.cell? ⟨wr.heap.size, 2, none⟩ = some (.int .i64 x.node) := q0.cell 2
          have q03 : wn.cell? ⟨wr.heap.size, 3, none⟩ = some (.int .u64 x.seq) := q0.cell 3
          have q04 : wn.cell? ⟨wr.heap.size, 4, none⟩ = some (.int .i64 x.io) := q0.cell 4
          have hgw : wr.grownBy wn none := grown_of_below (((Below.refl wr.heap.size wr).alloc (Nat.le_refl _) _).trans (hb.mono (by simp)))
          have hJ2 : Hid (J (ctd z (SL.take k)) wn) := Lib.hid (hJa _ _ _ _ hJ.out hgw (fun r e => by cases e))
          clear hb STx d0 d1 d2 d3 d4 r8 r9 r10 r11 r12 q0 hgw
          obtain ⟨fn, tmps, assign, body, hy, hR⟩ := HY.out _ x wn hJ2.out (by omega)
          unfold Sl.val at hy
          have HSN2 := Lib.hid (HSN.out.trans (if_pos hct.out))
          gi_wp2
          refine hR.mono ?_
          rintro e3 W3 (⟨rfl, hJ3, hk3⟩ | ⟨rfl, hJx3⟩)
          · have HJ3 : Hid (J (ctd z (SL.take (k + 1))) W3) := Lib.hid (by rw [HSN2.out]; exact hJ3)
            have HK3 := Lib.hid hk3
            clear hy hR hJ3 hk3
            gi_wp2
            go_roundw
            case rel => exact ⟨k + 1, by omega, by go_num, (HKP.out.trans KN.out).trans HK3.out, HJ3⟩
            case measure => simp [intOf]; omega
          · have HJx := Lib.hid hJx3
            clear hy hR hJx3
            gi_wp2
            refine bodyPost_ret (results_none rfl _ _ _) rfl ?_
            exact ⟨⟨_, rfl⟩, .inr ⟨_, trivial, HJx.out⟩⟩
        · have b0 : s2 = 0 := by omega
          subst b0
          by_cases b2 : s1 = 2
          · have hct : Hid (cntB z x = true) := Lib.hid (by rw [hC]; simp [b2])
            subst b2
            clear hC hpe b1
            gi_wp2
            refine ⟨trivial, ?_⟩
            refine (callsIn_wide.2 (STx.out _ (bal hBw _))).mono ?_
            rintro e wn ⟨rfl, hb⟩
            have KN := Lib.hid (kph_of (b1 := ga) (b2 := gs) (b3 := gr) (bal (Below.refl _ _) _) hb hni hga hgs hgr)
            have q0 := (Blk.new wr 81 #[.int .u64 x.off, .int .u64 x.size, .int .i64 x.node, .int .u64 x.seq, .int .i64 x.io]).below hb
            have q00 : wn.cell? ⟨wr.heap.size, 0, none⟩ = some (.int .u64 x.off) := q0.cell 0
            have q01 : wn.cell? ⟨wr.heap.size, 1, none⟩ = some (.int .u64 x.size) := q0.cell 1
            have q02 : wn.cell? ⟨wr.heap.size, 2, none⟩ = some (.int .i64 x.node) := q0.cell 2
            have q03 : wn.cell? ⟨wr.heap.size, 3, none⟩ = some (.int .u64 x.seq) := q0.cell 3
            have q04 : wn.cell? ⟨wr.heap.size, 4, none⟩ = some (.int .i64 x.io) := q0.cell 4
            have hgw : wr.grownBy wn none := grown_of_below (((Below.refl wr.heap.size wr).alloc (Nat.le_refl _) _).trans (hb.mono (by simp)))
            have hJ2 : Hid (J (ctd z (SL.take k)) wn) := Lib.hid (hJa _ _ _ _ hJ.out hgw (fun r e => by cases e))
            clear hb STx d0 d1 d2 d3 d4 r8 r9 r10 r11 r12 q0 hgw
            obtain ⟨fn, tmps, assign, body, hy, hR⟩ := HY.out _ x wn hJ2.out (by omega)
            unfold Sl.val at hy
            have HSN2 := Lib.hid (HSN.out.trans (if_pos hct.out))
            gi_wp2
            refine hR.mono ?_
            rintro e3 W3 (⟨rfl, hJ3, hk3⟩ | ⟨rfl, hJx3⟩)
            · have HJ3 : Hid (J (ctd z (SL.take (k + 1))) W3) := Lib.hid (by rw [HSN2.out]; exact hJ3)
              have HK3 := Lib.hid hk3
              clear hy hR hJ3 hk3
              gi_wp2
              go_roundw
              case rel => exact ⟨k + 1, by omega, by go_num, (HKP.out.trans KN.out).trans HK3.out, HJ3⟩
              case measure => simp [intOf]; omega
            · have HJx := Lib.hid hJx3
              clear hy hR hJx3
              gi_wp2
              refine bodyPost_ret (results_none rfl _ _ _) rfl ?_
              exact ⟨⟨_, rfl⟩, .inr ⟨_, trivial, HJx.out⟩⟩
          · have hct : Hid (ctd z (SL.take (k + 1)) = ctd z (SL.take k)) := Lib.hid (HSN.out.trans (if_neg (by rw [hC]; simp [b2])))
            have e2 : (s1 == 2) = false := by simpa using b2
            clear hC hpe b1 b2
            gi_wp2
            refine ⟨trivial, ?_⟩
            refine (callsIn_wide.2 (STx.out _ (bal hBw _))).mono ?_
            rintro e wn ⟨rfl, hb⟩
            have KN := Lib.hid (kph_of (b1 := ga) (b2 := gs) (b3 := gr) (bal (Below.refl _ _) _) hb hni hga hgs hgr)
            have q0 := (Blk.new wr 81 #[.int .u64 x.off, .int .u64 x.size, .int .i64 x.node, .int .u64 x.seq, .int .i64 x.io]).below hb
            have q00 : wn.cell? ⟨wr.heap.size, 0, none⟩ = some (.int .u64 x.off) := q0.cell 0
            have q01 : wn.cell? ⟨wr.heap.size, 1, none⟩ = some (.int .u64 x.size) := q0.cell 1
            have q02 : wn.cell? ⟨wr.heap.size, 2, none⟩ = some (.int .i64 x.node) := q0.cell 2
            have q03 : wn.cell? ⟨wr.heap.size, 3, none⟩ = some (.int .u64 x.seq) := q0.cell 3
            have q04 : wn.cell? ⟨wr.heap.size, 4, none⟩ = some (.int .i64 x.io) := q0.cell 4
            have hgw : wr.grownBy wn none := grown_of_below (((Below.refl wr.heap.size wr).alloc (Nat.le_refl _) _).trans (hb.mono (by simp)))
            have hJ2 : Hid (J (ctd z (SL.take k)) wn) := Lib.hid (hJa _ _ _ _ hJ.out hgw (fun r e => by cases e))
            clear hb STx d0 d1 d2 d3 d4 r8 r9 r10 r11 r12 q0 hgw
            gi_wp2
            refine ⟨fun _ h => (by cases h), ?_⟩
            gi_wp2
            go_roundw
            case rel => exact ⟨k + 1, by omega, by go_num, HKP.out.trans KN.out, Lib.hid (by rw [hct.out]; exact hJ2.out)⟩
            case measure => simp [intOf]; omega
      · obtain rfl : k = S := by omega
        have hfin : Hid (ctd z (SL.take k) = ctd z SL) := Lib.hid (by rw [List.take_of_length_le (by rw [← HSL.out]; exact Nat.le_refl _)])
        gi_wp2
        go_end0
        exact ⟨⟨_, rfl⟩, .inl ⟨_, (hfin.out : _ = _), hJ.out⟩⟩
end Go.Proofs.Ytfgkkflbpfocjaa

namespace Go.Proofs.Ytfgkkflbpfocjaa
open Go.RowKit Go.Shelf
set_option linter.unusedVariables false
set_option linter.unusedSimpArgs false
attribute [local go_sem] Oper.semAt_some

theorem counted_stops (n : Nat) (hn : 1 ≤ n) (wi : World) (ga gs gr : Nat) (again : Bool) (S cs : Nat) (As : Option Addr) (SL : List Sl) (hSl : S = SL.length) (PS PR : Array Value) (z : Rec)
    (hPS : PS[7]? = some (.slice As S cs)) (a b f : Int) (vt vk : Value) (hR8 : PR[8]? = some (.int .u64 a)) (hR9 : PR[9]? = some (.int .u64 b)) (hR10 : PR[10]? = some (.int .u64 f)) (hR11 : PR[11]? = some vt) (hR12 : PR[12]? = some vk)
    (hRd : Reads wi 5 As S (flat SL)) (hcs : S ≤ cs ∧ cs ≤ maxLen) (hwf : ∀ x ∈ SL, (0 ≤ x.off ∧ x.off ≤ 18446744073709551615) ∧ (0 ≤ x.size ∧ x.size ≤ 18446744073709551615)) (hps : ∀ x ∈ SL, (stE z x.off x.size).2 = 0 ∨ (stE z x.off x.size).2 = 14)
    (ST : ∀ w', Below wi.heap.size wi w' → ∀ off size : Int, (0 ≤ off ∧ off ≤ 18446744073709551615) → (0 ≤ size ∧ size ≤ 18446744073709551615) → Calls Try.prog 77 #[.agg #[.int .u64 a, .int .u64 b, .int .u64 f, vt, vk], .int .u64 off, .int .u64 size] w' (Ret2 .i64 .i64 (stE z off size).1 (stE z off size).2 w'))
    (w : World) (hB : Below wi.heap.size wi w) (ka : Blk w ga 4 #[.bool again]) (ks : Blk w gs 31 PS) (kr : Blk w gr 31 PR) :
    SeqStopsK Fence.wide n Try.prog 76 #[.pointer (some ⟨ga, 0, none⟩), .pointer (some ⟨gs, 0, none⟩), .pointer (some ⟨gr, 0, none⟩)] (fun x : Sl => #[Sl.val x]) (KpH wi.heap.size ga gs gr) (IsCt again z SL) (fun _ => True) S w := fun l J Jx W hW hJ _ hY h0 =>
  counted1_in n hn l wi ga gs gr again S cs As SL hSl PS PR z hPS a b f vt vk hR8 hR9 hR10 hR11 hR12 hRd hcs hwf hps ST W.heap.size J Jx hJ hY W (hB.trans (hW.mono hB.size)) (ka.below hW) (ks.below hW) (kr.below hW) h0

/-- the iterator made -/
def RetCtd (PS PR : Array Value) (again : Bool) (w : World) (e : Ending) (w' : World) : Prop :=
  e = .returned (.func (.func 76) #[] #[.pointer (some ⟨w.heap.size + 1 + 1, 0, none⟩), .pointer (some ⟨w.heap.size, 0, none⟩), .pointer (some ⟨w.heap.size + 1, 0, none⟩)]) ∧ w' = ((w.alloc (.cells PS 31)).alloc (.cells PR 31)).alloc (.cells #[.bool again] 4)
theorem counted_raw (p0 p1 p2 p3 p4 p5 p6 p7 p8 p9 p10 p11 p12 q0 q1 q2 q3 q4 q5 q6 q7 q8 q9 q10 q11 q12 : Value) (again : Bool) (w : World) :
    Calls Try.prog 40 #[.agg #[p0, p1, p2, p3, p4, p5, p6, p7, p8, p9, p10, p11, p12], .agg #[q0, q1, q2, q3, q4, q5, q6, q7, q8, q9, q10, q11, q12], .bool again] w (RetCtd #[p0, p1, p2, p3, p4, p5, p6, p7, p8, p9, p10, p11, p12] #[q0, q1, q2, q3, q4, q5, q6, q7, q8, q9, q10, q11, q12] again w) := by
  have hmf : ∀ (fn : Fn) (first cap : Array Value) (w : World), (Instr.makeFunc fn first cap).run Try.prog w = .ok (.func fn first cap) w := fun _ _ _ _ => rfl
  go_enter Try.func40, Try.ntmps40
  go_wp2_with fail
  go_ret
  exact ⟨rfl, rfl⟩

theorem wrap_add (a b : Int) : IntKind.u64.wrap (IntKind.u64.wrap a + b) = IntKind.u64.wrap (a + b) := by
  rw [IntKind.wrap_u64, IntKind.wrap_u64, IntKind.wrap_u64]; omega
theorem szSum_snoc (l : List Sl) (x : Sl) : szSum (l ++ [x]) = szSum l + x.size := by
  induction l with
  | nil => simp [szSum]
  | cons y l ih => simp only [List.cons_append, szSum, ih]; omega
theorem szSum_ctd (z : Rec) : ∀ l : List Sl, szSum (ctd z l) = opn' z l
  | [] => rfl
  | x :: l => by
    have ih := szSum_ctd z l
    unfold ctd at ih ⊢
    unfold opn'
    by_cases h : cntB z x = true
    · rw [List.filter_cons_of_pos h, if_pos h, szSum, ih]
    · rw [List.filter_cons_of_neg h, if_neg h, ih]; omega
theorem ownFrom_kph {β : Type} {n0 b1 b2 b3 B : Nat} {w₀ : World} (hn : n0 ≤ B) (hB : B ≤ w₀.heap.size) (h1 : b1 < B) (h2 : b2 < B) (h3 : b3 < B) : OwnFrom B (fun (_ : β) W => Below n0 w₀ W ∧ KpH n0 b1 b2 b3 w₀ W) := fun _ X Y row hs hg hr => by
  have hsz := hs.2.hB.size
  have hb : ∀ b, b < B → Y.heap[b]? = X.heap[b]? := fun b hb => hg.block b (by omega) (fun e => by have := (hr b e.symm).1; omega)
  have hbl : Below n0 w₀ Y := hs.1.grown hg (by omega) (fun k e => by have := (hr k e).1; omega)
  exact ⟨hbl, hbl, (hb _ h1).trans hs.2.e1, (hb _ h2).trans hs.2.e2, (hb _ h3).trans hs.2.e3⟩
/-- the frame of a round: the slot lies in a block of its own -/
def AxH (act : Nat → Sl → Act) (B : Nat) (x : Sl) (a' : Act) (W : World) : Prop := ∃ gx, a' = act gx x ∧ Blk W gx 81 #[.int .u64 x.off, .int .u64 x.size, .int .i64 x.node, .int .u64 x.seq, .int .i64 x.io] ∧ B ≤ gx
theorem axH_own {act : Nat → Sl → Act} {B N : Nat} (x : Sl) (a' : Act) : OwnFrom N (fun (_ : Unit) W => AxH act B x a' W) := fun _ X Y row hs hg hr => by
  obtain ⟨gx, h1, h2, h3⟩ := hs
  refine ⟨gx, h1, ?_, h3⟩
  exact (grownBy_keeps_cells hg (fun r e => (hr r e).2) h2 rfl).trans h2
end Go.Proofs.Ytfgkkflbpfocjaa

