/- Contract: a bundle laid on the canvas. -/
import Derived.Test.YtcifngefclgefaaE
import Derived.Deep.DeepCutAuto
import Derived.Deep.RegionHeld3
import Derived.Deep.RegionLaw
import Derived.StillTailTactics
namespace Go.Proofs.Ytcifngefclgefaa
open Go.RowKit
set_option linter.unusedVariables false
set_option linter.unusedSimpArgs false

/-- byte k of a string -/
def byt (s : ByteArray) (k : Nat) : UInt8 := if h : k < s.size then s[k] else 0
theorem byt_at {s : ByteArray} {k : Nat} (h : k < s.size) : byt s k = s[k] := dif_pos h
/-- a canvas on which n bytes are laid from o on -/
def layC (C : Nat → Option UInt8) (o : Nat) (s : ByteArray) (n : Nat) : Nat → Option UInt8 := fun p => if o ≤ p ∧ p < o + n then some (byt s (p - o)) else C p
theorem layC_zero (C : Nat → Option UInt8) (o : Nat) (s : ByteArray) : layC C o s 0 = C := by
  funext p
  unfold layC
  rw [if_neg (by omega)]
theorem layC_put (C : Nat → Option UInt8) (o : Nat) (s : ByteArray) (n : Nat) : putP (layC C o s n) (o + n) (byt s n) = layC C o s (n + 1) := by
  funext p
  unfold putP layC
  by_cases h : p = o + n
  · subst h
    rw [if_pos rfl, if_pos (by omega)]
    congr 2
    omega
  · rw [if_neg h]
    by_cases h2 : o ≤ p ∧ p < o + n
    · rw [if_pos h2, if_pos (by omega)]
    · rw [if_neg h2, if_neg (by omega)]
theorem layC_at (C : Nat → Option UInt8) (o : Nat) (s : ByteArray) (n : Nat) : layC C o s n (o + n) = C (o + n) := by
  unfold layC
  rw [if_neg (by omega)]
/-- byte i does not agree with what lies there -/
def cfl (C : Nat → Option UInt8) (o : Nat) (s : ByteArray) (i : Nat) : Bool := match C (o + i) with
  | none => false
  | some y => y != byt s i
/-- a bundle agrees with what lies there -/
def fits (C : Nat → Option UInt8) (o : Nat) (s : ByteArray) : Bool := (List.range s.size).all fun i => !cfl C o s i
theorem fits_yes {C : Nat → Option UInt8} {o : Nat} {s : ByteArray} (h : ∀ i, i < s.size → cfl C o s i = false) : fits C o s = true := by
  unfold fits
  rw [List.all_eq_true]
  intro i hi
  rw [h i (List.mem_range.1 hi)]; rfl
theorem fits_no {C : Nat → Option UInt8} {o : Nat} {s : ByteArray} {i : Nat} (hi : i < s.size) (h : cfl C o s i = true) : fits C o s = false := by
  unfold fits
  rw [Bool.eq_false_iff]
  intro c
  have := List.all_eq_true.1 c i (List.mem_range.2 hi)
  rw [h] at this
  cases this
theorem at_to (gc i : Nat) (hi : i < 20480) {iv : Int} (hiv : iv = i) (G : Nat → Option Nat) (C : Nat → Option UInt8) (w : World) (h : CanG w gc G C) :
    Calls Try.prog 40 #[.pointer (some ⟨gc, 0, none⟩), .int .i64 iv] w (RetAt w gc i C) := by
  subst hiv
  exact at_any gc i hi G C w h
theorem blk_ne {w : World} {g g' : Nat} {t t' : TypeId} {cs cs' : Array Value} (h : Blk w g t cs) (h' : Blk w g' t' cs') (ht : t ≠ t') : g ≠ g' := by
  rintro rfl
  unfold Blk at h h'
  rw [h] at h'
  simp at h'
  exact ht h'.2
/-- what laying leaves -/
def RetLay (w : World) (gc : Nat) (C : Nat → Option UInt8) (o : Nat) (s : ByteArray) (e : Ending) (w' : World) : Prop :=
  e = .returned (.bool (fits C o s)) ∧ (∃ G C', CanG w' gc G C' ∧ (fits C o s = true → C' = layC C o s s.size)) ∧ Below gc w w'

set_option maxRecDepth 100000 in
set_option maxHeartbeats 8000000 in
theorem lay_any (x : Bn) (o : Nat) (ho : x.off = o) (hb : o + x.data.size ≤ 20000) (gc : Nat) (G : Nat → Option Nat) (C : Nat → Option UInt8) (w : World) (h : CanG w gc G C) :
    Calls Try.prog 47 #[.pointer (some ⟨gc, 0, none⟩), x.val] w (RetLay w gc C o x.data) := by
  rw [Bn.val_eq, ho]
  obtain ⟨node, seq, off, dest, prio, born, life, total, s⟩ := x
  dsimp only at *
  clear ho
  have hlc := h.b.lt
  have HC := Lib.hid (h.alloc (.cells #[.int .i64 node, .int .u64 seq, .int .i64 o, .int .i64 dest, .int .i64 prio, .int .i64 born, .int .i64 life, .int .i64 total, .string s] 26))
  have hss : (s.size : Int) ≤ 20000 := by omega
  clear h
  go_enter Try.func47, Try.ntmps47
  go_wp2_with fail
  go_loopw [11] (fun a wr => ∃ k : Nat, k ≤ s.size ∧ a = .int .i64 k ∧ (∀ j, j < k → cfl C o s j = false) ∧ (∃ G, CanG wr gc G (layC C o s k)) ∧ Blk wr w.heap.size 26 #[.int .i64 node, .int .u64 seq, .int .i64 o, .int .i64 dest, .int .i64 prio, .int .i64 born, .int .i64 life, .int .i64 total, .string s] ∧ Below gc w wr) (fun a _ => s.size - (intOf a).toNat)
  case atStart => exact ⟨0, by omega, rfl, fun j hj => by omega, ⟨G, by rw [layC_zero]; exact HC.out⟩, Blk.new _ _ _, (Below.refl _ _).alloc (by omega) _⟩
  case round =>
    obtain ⟨k, hk, rfl, hno, ⟨G1, hG1⟩, hbx, hB⟩ := hrel
    obtain ⟨wy, rfl⟩ : ∃ wy : World, wy = wr := ⟨_, rfl⟩
    have HNO := Lib.hid hno
    have HG1 := Lib.hid hG1
    have HBX := Lib.hid hbx
    have HB := Lib.hid hB
    have hgne := blk_ne hG1.b hbx (by decide)
    obtain ⟨x0, x1, x2, x3, x4, x5, x6, x7, x8⟩ := hbx.c9
    clear hno hG1 hbx hB
    by_cases hlt : k < s.size
    · have hki : (k : Int) < s.size := by omega
      have hk0 : (0 : Int) ≤ k := by omega
      go_wp2_with fail
      refine (at_to gc (o + k) (by omega) (by omega) G1 _ _ HG1.out).mono ?_
      rintro e w1 ⟨g, G2, rfl, hC2, hg2, ho2⟩
      obtain ⟨j, hj⟩ : ∃ j, (o + k) / 1024 = j := ⟨_, rfl⟩
      obtain ⟨m, hm⟩ : ∃ m, (o + k) % 1024 = m := ⟨_, rfl⟩
      rw [hj] at hg2
      rw [hm]
      have hj20 : j < 20 := by omega
      have hm1 : m < 1024 := by omega
      have hmi : (m : Int) < 1024 := by omega
      have hm0 : (0 : Int) ≤ m := by omega
      have hjm : j * 1024 + m = o + k := by omega
      obtain ⟨e1, e2, e3, e4⟩ := hC2.has j m g hj20 hm1 hg2
      rw [hjm, layC_at] at e1 e2
      have hb2 := HBX.out.only ho2 (fun c => hgne c.symm)
      have hgb := blk_ne (hC2.pg j g hj20 hg2).2 hb2 (by decide)
      have hgc := (hC2.pg j g hj20 hg2).1
      have hB2 : Below gc w w1 := HB.out.trans (ho2.to_below (fun c e => by have : c = gc := e; omega) (by have := HB.out.size; omega))
      have HC2 := Lib.hid hC2
      have HG2 := Lib.hid hg2
      have HB2' := Lib.hid hb2
      have HJM := Lib.hid hjm
      have HBL := Lib.hid hB2
      clear x0 x1 x2 x3 x4 x5 x6 x7 x8
      obtain ⟨x0, x1, x2, x3, x4, x5, x6, x7, x8⟩ := hb2.c9
      clear hC2 hg2 hj hm hb2 hjm ho2 hB2
      cases hC : C (o + k) with
      | none =>
        rw [hC] at e1 e2
        have e1' : w1.cell? ⟨g, 1024 + m, none⟩ = some (.bool false) := e1
        have HN : Hid (cfl C o s k = false) := Lib.hid (by unfold cfl; rw [hC])
        clear e1 hC
        go_wp2_with fail
        go_quiet (fail)
        go_upto_region 7 with fail
        go_region
        all_goals
          go_wp2_with fail
          go_roundw
          case rel =>
            refine ⟨k + 1, by omega, by go_num, fun i hi => ?_, ⟨G2, ?_⟩, ?_, ((below_drewN HBL.out _).setCell (p := ⟨g, 1024 + m, none⟩) (by show gc ≤ g; omega) _).setCell (p := ⟨g, m, none⟩) (by show gc ≤ g; omega) _⟩
            · rcases Nat.lt_or_eq_of_le (Nat.le_of_lt_succ hi) with c | c
              · exact HNO.out i c
              · rw [c]; exact HN.out
            · have := (HC2.out.drewN (nq + 1)).put j m g hj20 hm1 HG2.out (byt s k)
              rw [HJM.out, layC_put, byt_at hlt] at this
              exact this
            · exact ((HB2'.out.drewN _).far (p := ⟨g, 1024 + m, none⟩) (fun c => hgb c.symm) _).far (p := ⟨g, m, none⟩) (fun c => hgb c.symm) _
          case measure => simp [intOf]; omega
      | some y =>
        rw [hC] at e1 e2
        have e1' : w1.cell? ⟨g, 1024 + m, none⟩ = some (.bool true) := e1
        have e2' : w1.cell? ⟨g, m, none⟩ = some (.int .u8 (y.toNat : Int)) := e2
        have HY := Lib.hid hC
        clear e1 e2 hC
        by_cases hy : y = byt s k
        · have HN : Hid (cfl C o s k = false) := Lib.hid (by unfold cfl; rw [HY.out, hy]; simp)
          rw [byt_at hlt] at hy
          have hn2 : ((y.toNat : Int) != (s[k].toNat : Int)) = false := by rw [hy]; simp
          clear hy
          go_wp2_with fail
          go_quiet (fail)
          go_upto_region 7 with fail
          go_region
          all_goals
            go_wp2_with fail
            go_roundw
            case rel =>
              refine ⟨k + 1, by omega, by go_num, fun i hi => ?_, ⟨G2, ?_⟩, ?_, ((below_drewN HBL.out _).setCell (p := ⟨g, 1024 + m, none⟩) (by show gc ≤ g; omega) _).setCell (p := ⟨g, m, none⟩) (by show gc ≤ g; omega) _⟩
              · rcases Nat.lt_or_eq_of_le (Nat.le_of_lt_succ hi) with c | c
                · exact HNO.out i c
                · rw [c]; exact HN.out
              · have := (HC2.out.drewN (nq + 1)).put j m g hj20 hm1 HG2.out (byt s k)
                rw [HJM.out, layC_put, byt_at hlt] at this
                exact this
              · exact ((HB2'.out.drewN _).far (p := ⟨g, 1024 + m, none⟩) (fun c => hgb c.symm) _).far (p := ⟨g, m, none⟩) (fun c => hgb c.symm) _
            case measure => simp [intOf]; omega
        · have HN : Hid (cfl C o s k = true) := Lib.hid (by unfold cfl; rw [HY.out]; simpa using hy)
          have HF := Lib.hid (fits_no hlt HN.out)
          rw [byt_at hlt] at hy
          have hn2 : ((y.toNat : Int) != (s[k].toNat : Int)) = true := by
            rw [bne_iff_ne]
            intro c
            exact hy (UInt8.toNat_inj.1 (by omega))
          clear hy
          go_wp2_with fail
          go_quiet (fail)
          go_wp2_with fail
          go_ret
          exact ⟨by rw [HF.out]; rfl, ⟨G2, _, HC2.out.drewN _, fun c => by rw [HF.out] at c; cases c⟩, below_drewN HBL.out _⟩
    · obtain rfl : k = s.size := by omega
      have HF := Lib.hid (fits_yes HNO.out)
      go_wp2_with fail
      go_ret
      exact ⟨by rw [HF.out]; rfl, ⟨G1, _, HG1.out, fun _ => rfl⟩, HB.out⟩
end Go.Proofs.Ytcifngefclgefaa
