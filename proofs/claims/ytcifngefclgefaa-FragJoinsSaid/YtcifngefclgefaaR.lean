/- The law's examples hold: awake. -/
import Derived.Deep.RegionHeld3
import Derived.Test.YtcifngefclgefaaQ
namespace Go.Proofs.Ytcifngefclgefaa
open Go.RowKit
set_option linter.unusedVariables false
set_option linter.unusedSimpArgs false

/-- what awake keeps -/
structure AwF (w : World) (g : Nat) (v u : Value) (w' : World) : Prop where
  b : Blk w' g 26 #[.int .i64 2, .int .u64 5, .int .i64 4, .int .i64 3, .int .i64 1, .int .i64 0, .int .i64 100, .int .i64 7, .string ⟨#[101, 102]⟩]
  s : BnAt w' v l3
  r : RgAt w' u [⟨6, 7⟩]
  hB : Below w.heap.size w w'
section
variable {w w' w'' : World} {g : Nat} {v u : Value}
theorem AwF.alloc (h : AwF w g v u w') (o : Obj) : AwF w g v u (w'.alloc o) := ⟨h.b.alloc o, SlAt.alloc h.s o, SlAt.alloc h.r o, bal h.hB o⟩
theorem AwF.drew (h : AwF w g v u w') : AwF w g v u w'.drew := ⟨h.b.drew, SlAt.drew h.s, SlAt.drew h.r, h.hB.drew⟩
theorem AwF.below (h : AwF w g v u w') (hb : Below w'.heap.size w' w'') : AwF w g v u w'' := ⟨h.b.below hb, SlAt.below h.s hb, SlAt.below h.r hb, bnext h.hB hb⟩
end
def sEF : ByteArray := ⟨#[101, 102]⟩

set_option maxRecDepth 100000 in
set_option maxHeartbeats 8000000 in
theorem awake_any (w : World) : Calls Try.prog 10 #[] w (RetB true w) := by
  have C1 : Hid (∀ w, Calls Try.prog 11 #[hd0.val, .string sAll, .int .i64 3] w (RetBs l3 0 w)) := Lib.hid (fun w => by have := fCut_any hd0 sAll 3 w; rw [ex_cut] at this; exact this)
  have C2 : Hid (∀ v w, BnAt w v [pc 3 sDEF, pc 6 sG, pc 0 sABC] → Calls Try.prog 23 #[v] w (RetSt sAll 0 w)) := Lib.hid (fun v w h => by have := Join_any _ v w h (by decide); rw [ex_join] at this; exact this)
  have C3 : Hid (∀ v w, BnAt w v [pc 3 sDEF, pc 0 sABC] → Calls Try.prog 21 #[v] w (RetRg [⟨6, 7⟩] 0 w)) := Lib.hid (fun v w h => by have := Missing_any _ v w h (by decide); rw [ex_miss] at this; exact this)
  have C4 : Hid (∀ w, Calls Try.prog 13 #[(pc 3 sDEF).val, .int .i64 4, .int .i64 6] w (RetBE (pc 4 ⟨#[101, 102]⟩) 0 w)) := Lib.hid (fun w => by have := Part_any (pc 3 sDEF) 4 6 (by omega) (by omega) w; rw [ex_part] at this; exact this)
  have heq := run_eq_bn
  have t2 : Bn.eqB ⟨2, 5, 4, 3, 1, 0, 100, 7, ⟨#[101, 102]⟩⟩ ⟨2, 5, 4, 3, 1, 0, 100, 7, ⟨#[101, 102]⟩⟩ = true := Bn.eqB_self _
  have HEQ := Lib.hid heq
  clear heq
  go_enter Try.func10, Try.ntmps10
  go_wp2_with fail
  refine (head_any _).mono ?_
  rintro e w1 ⟨rfl, hb1⟩
  rw [Bn.val_eq]
  dsimp only [hd0]
  go_wp2_with fail
  refine (C1.out _).mono ?_
  rintro e w2 ⟨v1, rfl, hv1, hb2⟩
  obtain ⟨A1, c1, rfl, _⟩ := id hv1
  have hB2 := bnext (bnext (Below.refl w.heap.size w) hb1) hb2
  have V2 := Lib.hid hv1
  clear hb1 hb2 hv1
  go_wp2_with fail
  refine (piece_any 3 sDEF _).mono ?_
  rintro e w3 ⟨rfl, hb3⟩
  rw [Bn.val_eq]
  dsimp only [pc]
  go_wp2_with fail
  refine (piece_any 6 sG _).mono ?_
  rintro e w4 ⟨rfl, hb4⟩
  rw [Bn.val_eq]
  dsimp only [pc]
  go_wp2_with fail
  refine (piece_any 0 sABC _).mono ?_
  rintro e w5 ⟨rfl, hb5⟩
  rw [Bn.val_eq]
  dsimp only [pc]
  have hB5 := bnext (bnext (bnext hB2 hb3) hb4) hb5
  have V5 := Lib.hid (SlAt.below (SlAt.below (SlAt.below V2.out hb3) hb4) hb5)
  clear hb3 hb4 hb5 hB2 V2
  go_wp2_with fail
  refine (C2.out _ _ (bn_lit (L := [pc 3 sDEF, pc 6 sG, pc 0 sABC]) (Blk.new _ _ _) 3 rfl (by decide))).mono ?_
  rintro e w6 ⟨rfl, hb6⟩
  have hB6 := bnext (bal hB5 _) hb6
  have V6 := Lib.hid (SlAt.below (SlAt.alloc V5.out _) hb6)
  clear hb6 hB5 V5
  dsimp only [sAll]
  go_wp2_with fail
  refine (piece_any 3 sDEF _).mono ?_
  rintro e w7 ⟨rfl, hb7⟩
  rw [Bn.val_eq]
  dsimp only [pc]
  go_wp2_with fail
  refine (piece_any 0 sABC _).mono ?_
  rintro e w8 ⟨rfl, hb8⟩
  rw [Bn.val_eq]
  dsimp only [pc]
  have hB8 := bnext (bnext hB6 hb7) hb8
  have V8 := Lib.hid (SlAt.below (SlAt.below V6.out hb7) hb8)
  clear hb7 hb8 hB6 V6
  go_wp2_with fail
  refine (C3.out _ _ (bn_lit (L := [pc 3 sDEF, pc 0 sABC]) (Blk.new _ _ _) 2 rfl (by decide))).mono ?_
  rintro e w9 ⟨v5, rfl, hv5, hb9⟩
  obtain ⟨A5, c5, rfl, _⟩ := id hv5
  have hB9 := bnext (bal hB8 _) hb9
  have V9 := Lib.hid (SlAt.below (SlAt.alloc V8.out _) hb9)
  have R9 := Lib.hid hv5
  clear hb9 hB8 V8 hv5
  go_wp2_with fail
  refine (piece_any 3 sDEF _).mono ?_
  rintro e wa ⟨rfl, hba⟩
  rw [Bn.val_eq]
  dsimp only [pc]
  have hBa := bnext hB9 hba
  have Va := Lib.hid (SlAt.below V9.out hba)
  have Ra := Lib.hid (SlAt.below R9.out hba)
  clear hba hB9 V9 R9
  go_wp2_with fail
  refine (C4.out _).mono ?_
  rintro e wb ⟨rfl, hbb⟩
  rw [Bn.val_eq]
  dsimp only [pc]
  have hBb := bnext hBa hbb
  have Vb := SlAt.below Va.out hbb
  have Rb := SlAt.below Ra.out hbb
  have kk : AwF w wb.heap.size (.slice A1 l3.length c1) (.slice A5 1 c5) (wb.alloc (.cells #[.int .i64 2, .int .u64 5, .int .i64 4, .int .i64 3, .int .i64 1, .int .i64 0, .int .i64 100, .int .i64 7, .string ⟨#[101, 102]⟩] 26)) := ⟨Blk.new _ _ _, SlAt.alloc Vb _, SlAt.alloc Rb _, bal hBb _⟩
  have K := Lib.hid kk
  clear hbb hBa hBb Va Ra Vb Rb kk C1 C2 C3 C4
  go_upto_region 5 with fail
  obtain ⟨g, hg⟩ : ∃ g, g = wb.heap.size := ⟨_, rfl⟩
  rw [← hg] at K ⊢
  generalize wb.alloc (.cells #[.int .i64 2, .int .u64 5, .int .i64 4, .int .i64 3, .int .i64 1, .int .i64 0, .int .i64 100, .int .i64 7, .string ⟨#[101, 102]⟩] 26) = wo at K ⊢
  clear hg
  obtain ⟨z0, z1, z2, z3, z4, z5, z6, z7, z8⟩ := K.out.b.c9
  have l1 := K.out.b.lt
  have n1 : ¬ g = wo.heap.size := by omega
  have heq := HEQ.out
  go_region_held3 (fun w' => w'.cell? ⟨g, 0, none⟩ = some (.int .i64 2) ∧ w'.cell? ⟨g, 1, none⟩ = some (.int .u64 5) ∧ w'.cell? ⟨g, 2, none⟩ = some (.int .i64 4) ∧ w'.cell? ⟨g, 3, none⟩ = some (.int .i64 3) ∧ w'.cell? ⟨g, 4, none⟩ = some (.int .i64 1) ∧ w'.cell? ⟨g, 5, none⟩ = some (.int .i64 0) ∧ w'.cell? ⟨g, 6, none⟩ = some (.int .i64 100) ∧ w'.cell? ⟨g, 7, none⟩ = some (.int .i64 7) ∧ w'.cell? ⟨g, 8, none⟩ = some (.string ⟨#[101, 102]⟩)) (go_keep)
    (first
      | (go_at_call 29; refine (three_any _).mono ?_; rintro e wn ⟨vs, rfl, hvs, hbn⟩; obtain ⟨vsA, vsC, rfl, _⟩ := id hvs; have HVS := Lib.hid (show SlAt _ 9 _ l3.length (fl Bn.cells l3) from hvs); clear hvs; have K' : AwF w g (.slice A1 l3.length c1) (.slice A5 1 c5) wn := (by refine AwF.below ?_ hbn; (repeat (first | with_reducible exact K.out | with_reducible refine AwF.alloc ?_ _ | with_reducible refine AwF.drew ?_))); clear K z0 z1 z2 z3 z4 z5 z6 z7 z8; have K := Lib.hid K'; obtain ⟨z0, z1, z2, z3, z4, z5, z6, z7, z8⟩ := K'.b.c9; have n1 : ¬ g = wn.heap.size := Nat.ne_of_lt K'.b.lt; have l1 := K'.b.lt; clear K')
      | (go_at_call 15; refine (same_eq l3 _ _ _ ?_ ?_).mono ?_; (focus (refine AwF.s (w := w) (g := g) (v := .slice A1 l3.length c1) (u := .slice A5 1 c5) ?_; (repeat (first | with_reducible exact K.out | with_reducible refine AwF.alloc ?_ _ | with_reducible refine AwF.drew ?_)))); (focus (unfold BnAt; (repeat (first | with_reducible exact HVS.out | with_reducible refine SlAt.alloc ?_ _ | with_reducible refine SlAt.drew ?_)))); rintro e wn ⟨rfl, hbn⟩; have K' : AwF w g (.slice A1 l3.length c1) (.slice A5 1 c5) wn := (by refine AwF.below ?_ hbn; (repeat (first | with_reducible exact K.out | with_reducible refine AwF.alloc ?_ _ | with_reducible refine AwF.drew ?_))); clear K z0 z1 z2 z3 z4 z5 z6 z7 z8; have K := Lib.hid K'; obtain ⟨z0, z1, z2, z3, z4, z5, z6, z7, z8⟩ := K'.b.c9; have n1 : ¬ g = wn.heap.size := Nat.ne_of_lt K'.b.lt; have l1 := K'.b.lt; clear K')
      | (go_at_call 20; refine (SameRanges_eq [⟨6, 7⟩] _ _ _ ?_ ?_).mono ?_; (focus (refine AwF.r (w := w) (g := g) (v := .slice A1 l3.length c1) (u := .slice A5 1 c5) ?_; (repeat (first | with_reducible exact K.out | with_reducible refine AwF.alloc ?_ _ | with_reducible refine AwF.drew ?_)))); (focus (refine rg_lit (t := 50) (L := [⟨6, 7⟩]) (show Blk _ _ _ #[.int .u64 6, .int .u64 7] from ?_) 1 rfl (by decide); (repeat (first | with_reducible exact Blk.new _ _ _ | with_reducible exact Blk.new1 _ _ _ _ | with_reducible refine Blk.alloc ?_ _ | with_reducible refine Blk.drew ?_)))); rintro e wn ⟨rfl, hbn⟩; have K' : AwF w g (.slice A1 l3.length c1) (.slice A5 1 c5) wn := (by refine AwF.below ?_ hbn; (repeat (first | with_reducible exact K.out | with_reducible refine AwF.alloc ?_ _ | with_reducible refine AwF.drew ?_))); clear K z0 z1 z2 z3 z4 z5 z6 z7 z8; have K := Lib.hid K'; obtain ⟨z0, z1, z2, z3, z4, z5, z6, z7, z8⟩ := K'.b.c9; have n1 : ¬ g = wn.heap.size := Nat.ne_of_lt K'.b.lt; have l1 := K'.b.lt; clear K')
      | (go_at_call 28; refine (piece_any 4 ⟨#[101, 102]⟩ _).mono ?_; rintro e wn ⟨rfl, hbn⟩; rw [Bn.val_eq]; dsimp only [pc]; have K' : AwF w g (.slice A1 l3.length c1) (.slice A5 1 c5) wn := (by refine AwF.below ?_ hbn; (repeat (first | with_reducible exact K.out | with_reducible refine AwF.alloc ?_ _ | with_reducible refine AwF.drew ?_))); clear K z0 z1 z2 z3 z4 z5 z6 z7 z8; have K := Lib.hid K'; obtain ⟨z0, z1, z2, z3, z4, z5, z6, z7, z8⟩ := K'.b.c9; have n1 : ¬ g = wn.heap.size := Nat.ne_of_lt K'.b.lt; have l1 := K'.b.lt; clear K'))
  all_goals
    go_wp2_with fail
    go_ret
    exact ⟨rfl, K.out.hB⟩
end Go.Proofs.Ytcifngefclgefaa
