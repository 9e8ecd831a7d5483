/- Contract: bundles laid one after the other (the program). -/
import Derived.Test.YtcifngefclgefaaG
namespace Go.Proofs.Ytcifngefclgefaa
open Go.RowKit
set_option linter.unusedVariables false
set_option linter.unusedSimpArgs false

/-- what laying a list leaves -/
def RetLaid (l : List Bn) (w : World) (e : Ending) (w' : World) : Prop := ∃ gc G C, e = .returned (.tuple #[.pointer (some ⟨gc, 0, none⟩), .int .i64 (laidE l).1, .int .i64 ((laidE l).2 : Int)]) ∧ CanG w' gc G C ∧ ((laidE l).1 = 0 → C = lays l l.length) ∧ w.heap.size ≤ gc ∧ Below w.heap.size w w'
def BX (x : Bn) : Array Value := #[.int .i64 x.node, .int .u64 x.seq, .int .i64 x.off, .int .i64 x.dest, .int .i64 x.prio, .int .i64 x.born, .int .i64 x.life, .int .i64 x.total, .string x.data]

theorem kind_lit (x : Bn) (w : World) : Calls Try.prog 46 #[x.val] w (fun e w' => e = .returned (.agg #[.int .i64 x.node, .int .u64 x.seq, .int .i64 0, .int .i64 x.dest, .int .i64 x.prio, .int .i64 x.born, .int .i64 x.life, .int .i64 x.total, .string ByteArray.empty]) ∧ Below w.heap.size w w') := kind_any x w
/-- a bundle's cells -/
def Q9 (w : World) (b o : Nat) (x : Bn) : Prop := b < w.heap.size ∧ w.cell? ⟨b, o, none⟩ = some (.int .i64 x.node) ∧ w.cell? ⟨b, o + 1, none⟩ = some (.int .u64 x.seq) ∧ w.cell? ⟨b, o + 2, none⟩ = some (.int .i64 x.off) ∧ w.cell? ⟨b, o + 3, none⟩ = some (.int .i64 x.dest) ∧ w.cell? ⟨b, o + 4, none⟩ = some (.int .i64 x.prio) ∧ w.cell? ⟨b, o + 5, none⟩ = some (.int .i64 x.born) ∧ w.cell? ⟨b, o + 6, none⟩ = some (.int .i64 x.life) ∧ w.cell? ⟨b, o + 7, none⟩ = some (.int .i64 x.total) ∧ w.cell? ⟨b, o + 8, none⟩ = some (.string x.data)
theorem Q9.below {w w' : World} {b o : Nat} {x : Bn} (h : Q9 w b o x) (hb : Below w.heap.size w w') : Q9 w' b o x := by
  obtain ⟨h0, h1, h2, h3, h4, h5, h6, h7, h8, h9⟩ := h
  have c := fun (i : Nat) => (bcell hb).1 b i h0
  have hs := hb.size
  exact ⟨by omega, (c _).trans h1, (c _).trans h2, (c _).trans h3, (c _).trans h4, (c _).trans h5, (c _).trans h6, (c _).trans h7, (c _).trans h8, (c _).trans h9⟩
theorem Q9.drew {w : World} {b o : Nat} {x : Bn} (h : Q9 w b o x) : Q9 w.drew b o x := h.below (Below.refl _ _).drew
/-- what a round of laid knows -/
structure LK (w : World) (gc : Nat) (C : Nat → Option UInt8) (gb b o : Nat) (x y : Bn) (wx : World) : Prop where
  g : ∃ G, CanG wx gc G C
  k : Blk wx gb 26 (BX x)
  q : Q9 wx b o y
  hB : Below w.heap.size w wx
section
variable {w wx wy : World} {gc gb b o : Nat} {C : Nat → Option UInt8} {x y : Bn}
theorem LK.below (h : LK w gc C gb b o x y wx) (hb : Below wx.heap.size wx wy) : LK w gc C gb b o x y wy := ⟨by obtain ⟨G, hG⟩ := h.g; exact ⟨G, hG.below hb⟩, h.k.below hb, h.q.below hb, bnext h.hB hb⟩
theorem LK.drew (h : LK w gc C gb b o x y wx) : LK w gc C gb b o x y wx.drew := h.below (Below.refl _ _).drew
end

set_option maxRecDepth 100000 in
set_option maxHeartbeats 8000000 in
theorem laid_any (l : List Bn) (v : Value) (w : World) (hV : BnAt w v l) (hl : l.length ≤ 100000) :
    Calls Try.prog 36 #[v] w (RetLaid l w) := by
  obtain ⟨A, c, rfl, _, hc2, hR⟩ := hV
  have HR := Lib.hid hR
  clear hR
  have HC := Lib.hid (CanG.new w)
  have hzc := zeroCanvas
  have hbx := boxCanvas
  by_cases hnil : l.length = 0
  · have HE : Hid (laidE l = (8, 0)) := Lib.hid (by unfold laidE; rw [if_pos hnil])
    have hz : ((l.length : Int) == 0) = true := by rw [hnil]; rfl
    clear hnil
    go_enter Try.func36, Try.ntmps36
    go_wp2_with fail
    go_ret3
    exact ⟨w.heap.size, _, _, by rw [HE.out]; rfl, HC.out, (by intro h; rw [HE.out] at h; cases h), Nat.le_refl _, (by repeat (first | with_reducible exact Below.refl _ _ | with_reducible refine Below.drew ?_ | with_reducible refine below_drewN ?_ _ | with_reducible refine bal ?_ _ | with_reducible refine bset ?_ (by first | (simp; done) | (simp; omega)) _ | with_reducible refine bnext ?_ (by assumption) | with_reducible assumption))⟩
  · have hz : ((l.length : Int) == 0) = false := beq_eq_false_iff_ne.2 (by omega)
    have HE := Lib.hid (laidE_cons hnil)
    have hl0 : (0 : Int) < l.length := by omega
    have hln : 0 < l.length := by omega
    clear hnil
    go_enter Try.func36, Try.ntmps36
    go_wp2_with fail
    clear hzc hbx
    go_loopw [17] (fun a wr => ∃ k : Nat, k ≤ l.length ∧ a = .int .i64 k ∧ fstE (errL l) l.length 0 = fstE (errL l) (l.length - k) k ∧ (∀ j, j < k → errL l j = 0) ∧ (∃ G, CanG wr w.heap.size G (lays l k)) ∧ Below w.heap.size w wr) (fun a _ => l.length - (intOf a).toNat)
    case atStart => exact ⟨0, by omega, rfl, rfl, fun j hj => by omega, ⟨_, HC.out⟩, bal (Below.refl _ _) _⟩
    case round =>
      obtain ⟨k, hk, rfl, hM, hok, ⟨G, hG⟩, hB⟩ := hrel
      obtain ⟨wy, rfl⟩ : ∃ wy : World, wy = wr := ⟨_, rfl⟩
      have HM := Lib.hid hM
      have HOK := Lib.hid hok
      have HG := Lib.hid hG
      have HB := Lib.hid hB
      have hlg := hG.b.lt
      clear hM hok hG hB
      by_cases hlt : k < l.length
      · obtain ⟨x, hx⟩ : ∃ x, l[k]? = some x := ⟨_, List.getElem?_eq_getElem hlt⟩
        obtain ⟨y, hy⟩ : ∃ y, l[0]? = some y := ⟨_, List.getElem?_eq_getElem hln⟩
        have HXA := Lib.hid (bnAt_of hx)
        have HYA := Lib.hid (bnAt_of hy)
        obtain ⟨b, o, rfl, hb, p0, p1, p2, p3, p4, p5, p6, p7, p8⟩ := reads_bn HR.out rfl hx
        obtain ⟨b', o', e', _, q0, q1, q2, q3, q4, q5, q6, q7, q8⟩ := reads_bn HR.out rfl hy
        cases e'
        have HP := Lib.hid (And.intro p0 (And.intro p1 (And.intro p2 (And.intro p3 (And.intro p4 (And.intro p5 (And.intro p6 (And.intro p7 p8))))))))
        have HQ := Lib.hid (And.intro q0 (And.intro q1 (And.intro q2 (And.intro q3 (And.intro q4 (And.intro q5 (And.intro q6 (And.intro q7 q8))))))))
        clear hx hy p0 p1 p2 p3 p4 p5 p6 p7 p8 q0 q1 q2 q3 q4 q5 q6 q7 q8
        have cell := fun (i : Nat) {u : Value} (h : w.cell? ⟨b, o + i, none⟩ = some u) => (HB.out.cell (p := ⟨b, o + i, none⟩) hb).trans h
        have d0 := (HB.out.cell (p := ⟨b, o + k * 9, none⟩) hb).trans HP.out.1
        have d1 := (HB.out.cell (p := ⟨b, o + k * 9 + 1, none⟩) hb).trans HP.out.2.1
        have d2 := (HB.out.cell (p := ⟨b, o + k * 9 + 2, none⟩) hb).trans HP.out.2.2.1
        have d3 := (HB.out.cell (p := ⟨b, o + k * 9 + 3, none⟩) hb).trans HP.out.2.2.2.1
        have d4 := (HB.out.cell (p := ⟨b, o + k * 9 + 4, none⟩) hb).trans HP.out.2.2.2.2.1
        have d5 := (HB.out.cell (p := ⟨b, o + k * 9 + 5, none⟩) hb).trans HP.out.2.2.2.2.2.1
        have d6 := (HB.out.cell (p := ⟨b, o + k * 9 + 6, none⟩) hb).trans HP.out.2.2.2.2.2.2.1
        have d7 := (HB.out.cell (p := ⟨b, o + k * 9 + 7, none⟩) hb).trans HP.out.2.2.2.2.2.2.2.1
        have d8 := (HB.out.cell (p := ⟨b, o + k * 9 + 8, none⟩) hb).trans HP.out.2.2.2.2.2.2.2.2
        have hki : (k : Int) < l.length := by omega
        have hk0 : (0 : Int) ≤ k := by omega
        clear cell
        obtain ⟨ee, hee⟩ : ∃ ee, bE x = ee := ⟨_, rfl⟩
        have HEE := Lib.hid hee
        have CK : Hid (∀ w, Calls Try.prog 34 #[.agg (BX x)] w (RetI ee w)) := Lib.hid (fun w => by rw [← hee]; exact Check_any x w)
        clear hee
        have k1 := Lib.hid (Blk.new wy 26 (BX x))
        have G1 := Lib.hid (HG.out.alloc (.cells (BX x) 26))
        go_wp2_with fail
        clear d0 d1 d2 d3 d4 d5 d6 d7 d8
        refine (CK.out _).mono ?_
        rintro e w1 ⟨rfl, hb1⟩
        have k2 := k1.out.below hb1
        have G2 := Lib.hid (G1.out.below hb1)
        have hB1 : Below w.heap.size w w1 := bnext (bal HB.out (.cells (BX x) 26)) hb1
        have hgn : wy.heap.size ≠ w.heap.size := by omega
        have K2 := Lib.hid k2
        have hl2 := k2.lt
        clear k1 G1 hb1 k2
        by_cases he : ee = 0
        · subst he
          have hne := run_ne_bn
          have hq := HQ.out
          have hq9 : Q9 w b o y := ⟨hb, by simpa using hq⟩
          obtain ⟨gb, hgb⟩ : ∃ g, g = wy.heap.size := ⟨_, rfl⟩
          rw [← hgb] at K2 hl2
          have kk : LK w w.heap.size (lays l k) gb b o x y w1 := ⟨⟨_, G2.out⟩, K2.out, hq9.below hB1, hB1⟩
          have hgn' : gb ≠ w.heap.size := by omega
          have K := Lib.hid kk
          have HGB := Lib.hid hgb
          have hee0 : ((0 : Int) != 0) = false := rfl
          go_upto_region 10 with fail
          rw [← HGB.out]
          obtain ⟨z0, z1, z2, z3, z4, z5, z6, z7, z8⟩ := Blk.c9 kk.k
          obtain ⟨_, q0, q1, q2, q3, q4, q5, q6, q7, q8⟩ := kk.q
          clear kk hq hq9 hgb G2 K2 hB1
          obtain ⟨bb, hbb⟩ : ∃ bb, (!(Bn.eqB x.kd y.kd)) = bb := ⟨_, rfl⟩
          have HBB := Lib.hid hbb
          clear hbb
          go_cut [35] (fun s35 wx => s35 = .bool bb ∧ LK w w.heap.size (lays l k) gb b o x y wx)
          case first =>
            go_region_held3 (fun w' => w'.cell? ⟨gb, 0, none⟩ = some (.int .i64 x.node) ∧ w'.cell? ⟨gb, 1, none⟩ = some (.int .u64 x.seq) ∧ w'.cell? ⟨gb, 2, none⟩ = some (.int .i64 x.off) ∧ w'.cell? ⟨gb, 3, none⟩ = some (.int .i64 x.dest) ∧ w'.cell? ⟨gb, 4, none⟩ = some (.int .i64 x.prio) ∧ w'.cell? ⟨gb, 5, none⟩ = some (.int .i64 x.born) ∧ w'.cell? ⟨gb, 6, none⟩ = some (.int .i64 x.life) ∧ w'.cell? ⟨gb, 7, none⟩ = some (.int .i64 x.total) ∧ w'.cell? ⟨gb, 8, none⟩ = some (.string x.data) ∧ w'.cell? ⟨b, o, none⟩ = some (.int .i64 y.node) ∧ w'.cell? ⟨b, o + 1, none⟩ = some (.int .u64 y.seq) ∧ w'.cell? ⟨b, o + 2, none⟩ = some (.int .i64 y.off) ∧ w'.cell? ⟨b, o + 3, none⟩ = some (.int .i64 y.dest) ∧ w'.cell? ⟨b, o + 4, none⟩ = some (.int .i64 y.prio) ∧ w'.cell? ⟨b, o + 5, none⟩ = some (.int .i64 y.born) ∧ w'.cell? ⟨b, o + 6, none⟩ = some (.int .i64 y.life) ∧ w'.cell? ⟨b, o + 7, none⟩ = some (.int .i64 y.total) ∧ w'.cell? ⟨b, o + 8, none⟩ = some (.string y.data)) (go_keep)
              (first
                | (go_at_call 46; refine (kind_lit x _).mono ?_; rintro e wn ⟨rfl, hbn⟩; have K' : LK w w.heap.size (lays l k) gb b o x y wn := (by refine LK.below ?_ hbn; (repeat (first | with_reducible exact K.out | with_reducible refine LK.drew ?_))); clear K z0 z1 z2 z3 z4 z5 z6 z7 z8 q0 q1 q2 q3 q4 q5 q6 q7 q8; have K := Lib.hid K'; obtain ⟨z0, z1, z2, z3, z4, z5, z6, z7, z8⟩ := Blk.c9 K'.k; obtain ⟨_, q0, q1, q2, q3, q4, q5, q6, q7, q8⟩ := K'.q; clear K')
                | (go_at_call 46; refine (kind_lit y _).mono ?_; rintro e wn ⟨rfl, hbn⟩; have K' : LK w w.heap.size (lays l k) gb b o x y wn := (by refine LK.below ?_ hbn; (repeat (first | with_reducible exact K.out | with_reducible refine LK.drew ?_))); clear K z0 z1 z2 z3 z4 z5 z6 z7 z8 q0 q1 q2 q3 q4 q5 q6 q7 q8; have K := Lib.hid K'; obtain ⟨z0, z1, z2, z3, z4, z5, z6, z7, z8⟩ := Blk.c9 K'.k; obtain ⟨_, q0, q1, q2, q3, q4, q5, q6, q7, q8⟩ := K'.q; clear K'))
            all_goals
              go_wp2_with fail
              go_meet
              exact ⟨by rw [← HBB.out]; rfl, K.out⟩
          case rest =>
            obtain ⟨rfl, kx⟩ := hcut
            clear K z0 z1 z2 z3 z4 z5 z6 z7 z8 q0 q1 q2 q3 q4 q5 q6 q7 q8 hne
            obtain ⟨G5, hG5⟩ := kx.g
            have hB5 := kx.hB
            cases bb with
            | false =>
              have hkd : Bn.eqB x.kd y.kd = true := by simpa using HBB.out
              obtain ⟨hox, hsx, _⟩ := bok_o (bok_of HEE.out)
              obtain ⟨z0, z1, z2, z3, z4, z5, z6, z7, z8⟩ := Blk.c9 kx.k
              have LY : Hid (∀ wz G, CanG wz w.heap.size G (lays l k) → Calls Try.prog 47 #[.pointer (some ⟨w.heap.size, 0, none⟩), .agg (BX x)] wz (RetLay wz w.heap.size (lays l k) x.o x.data)) := Lib.hid (fun wz G h => lay_any x x.o hox hsx w.heap.size G _ wz h)
              have HKD := Lib.hid hkd
              have HG5 := Lib.hid hG5
              clear hkd hG5 kx hox hsx
              go_wp2_with fail
              refine (LY.out _ _ HG5.out).mono ?_
              rintro e w6 ⟨rfl, ⟨G6, C6, hC6, hfit⟩, hB6⟩
              have hB7 := hB5.trans hB6
              cases hft : fits (lays l k) x.o x.data with
              | true =>
                have HER : Hid (errL l k = 0) := Lib.hid (by unfold errL; rw [HXA.out, HYA.out, HEE.out, if_neg (by decide), if_neg (by rw [HKD.out]; decide), if_neg (by rw [hft]; decide)])
                have hC := hfit hft
                subst hC
                have HC6 := Lib.hid hC6
                have HM2 : Hid (fstE (errL l) l.length 0 = fstE (errL l) (l.length - (k + 1)) (k + 1)) := Lib.hid (HM.out.trans (fstE_miss hlt HER.out))
                have HLY : Hid (lays l (k + 1) = layC (lays l k) x.o x.data x.data.size) := Lib.hid (by show layC _ _ _ _ = _; rw [HXA.out])
                clear hC6 hfit hft hB6
                go_wp2_with fail
                go_roundw
                case rel =>
                  refine ⟨k + 1, by omega, by go_num, HM2.out, fun j hj => ?_, ⟨G6, by rw [HLY.out]; exact HC6.out⟩, hB7⟩
                  rcases Nat.lt_or_eq_of_le (Nat.le_of_lt_succ hj) with d | d
                  · exact HOK.out j d
                  · rw [d]; exact HER.out
                case measure => simp [intOf]; omega
              | false =>
                have HER : Hid (errL l k = 12) := Lib.hid (by unfold errL; rw [HXA.out, HYA.out, HEE.out, if_neg (by decide), if_neg (by rw [HKD.out]; decide), if_pos hft])
                have HF : Hid (laidE l = (12, k)) := Lib.hid (by rw [HE.out, HM.out, fstE_hit hlt (by rw [HER.out]; decide), HER.out])
                have HC6 := Lib.hid hC6
                clear hC6 hfit hft hB6
                go_wp2_with fail
                go_ret3
                exact ⟨w.heap.size, _, _, by rw [HF.out]; rfl, HC6.out, (by intro h; rw [HF.out] at h; cases h), Nat.le_refl _, hB7⟩
            | true =>
              have hkd : ¬ Bn.eqB x.kd y.kd = true := by have := HBB.out; simp at this; rw [this]; decide
              have HER : Hid (errL l k = 3) := Lib.hid (by unfold errL; rw [HXA.out, HYA.out, HEE.out, if_neg (by decide), if_pos (by simpa using hkd)])
              have HF : Hid (laidE l = (3, k)) := Lib.hid (by rw [HE.out, HM.out, fstE_hit hlt (by rw [HER.out]; decide), HER.out])
              have HG5 := Lib.hid hG5
              clear hkd hG5 kx
              go_wp2_with fail
              go_ret3
              exact ⟨w.heap.size, _, _, by rw [HF.out]; rfl, HG5.out, (by intro h; rw [HF.out] at h; cases h), Nat.le_refl _, hB5⟩
        · have hen : (ee != 0) = true := by simpa using he
          have HER : Hid (errL l k = ee) := Lib.hid (by unfold errL; rw [HXA.out, HEE.out, if_pos he])
          have HF : Hid (laidE l = (ee, k)) := Lib.hid (by rw [HE.out, HM.out, fstE_hit hlt (by rw [HER.out]; exact he), HER.out])
          clear he
          go_wp2_with fail
          go_ret3
          exact ⟨w.heap.size, _, _, by rw [HF.out]; rfl, G2.out, (by intro h; rw [HF.out] at h; dsimp only at h; rw [h] at hen; cases hen), Nat.le_refl _, hB1⟩
      · obtain rfl : k = l.length := by omega
        have HF : Hid (laidE l = (0, 0)) := Lib.hid (by rw [HE.out, HM.out, Nat.sub_self]; rfl)
        go_wp2_with fail
        go_ret3
        exact ⟨w.heap.size, _, _, by rw [HF.out]; rfl, HG.out, fun _ => rfl, Nat.le_refl _, HB.out⟩
end Go.Proofs.Ytcifngefclgefaa
