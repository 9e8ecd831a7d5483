/- A peer copied (the program). Rows of 13 and 22 cells that are set. Worlds that differ in some blocks alone. -/
import Derived.Test.YtfgkkflbpfocjaaZc18
import Derived.Test.YtfgkkflbpfocjaaZc20
import Derived.Test.YtfgkkflbpfocjaaZc4
namespace Go.Proofs.Ytfgkkflbpfocjaa
open Go.RowKit
set_option linter.unusedVariables false
set_option linter.unusedSimpArgs false

def RetSls (l : List Sl) (w : World) (e : Ending) (w' : World) : Prop := ∃ A c, e = .returned (.slice A l.length c) ∧ SlsB w.heap.size w' (.slice A l.length c) l ∧ Below w.heap.size w w'
theorem CloneS_any (l : List Sl) (v : Value) (w : World) (h : SlsAt w v l) (hl : l.length ≤ 100000) : Calls Try.prog 92 #[v] w (RetSls l w) := by
  refine (Clone_any v l w h hl).mono ?_
  rintro e w' ⟨v', rfl, hown, hB⟩
  obtain ⟨A, c, rfl, _⟩ := SlAt.own hown
  exact ⟨A, c, rfl, RowB.own hown (Nat.le_refl _), hB⟩
/-- a copied peer, by its address -/
def RetCop (node th old : Int) (su : Bool) (g n r : Int) (S : List Sl) (a b f : Int) (T : List Rg) (K : List Int) (w : World) (e : Ending) (w' : World) : Prop := ∃ gp As cs At ct Ak ck, e = .returned (.pointer (some ⟨gp, 0, none⟩)) ∧ Blk w' gp 31 #[.int .i64 node, .int .u64 th, .bool su, .int .u64 old, .int .u64 g, .int .u64 n, .int .u64 r, .slice As S.length cs, .int .u64 a, .int .u64 b, .int .u64 f, .slice At T.length ct, .slice Ak K.length ck] ∧ w.heap.size ≤ gp ∧ SlsB (gp + 1) w' (.slice As S.length cs) S ∧ RgsB (gp + 1) w' (.slice At T.length ct) T ∧ KpsB (gp + 1) w' (.slice Ak K.length ck) K ∧ Below w.heap.size w w'

set_option maxRecDepth 100000 in
set_option maxHeartbeats 4000000 in
theorem copied_any (node th old : Int) (su : Bool) (g n r : Int) (S : List Sl) (a b f : Int) (T : List Rg) (K : List Int) (vs vt vk : Value) (w : World) (hs : SlsAt w vs S) (ht : RgsAt w vt T) (hk : KpsAt w vk K) (hsl : S.length ≤ 100000) (htl : T.length ≤ 100000) (hkl : K.length ≤ 100000) :
    Calls Try.prog 54 #[.agg #[.int .i64 node, .int .u64 th, .bool su, .int .u64 old, .int .u64 g, .int .u64 n, .int .u64 r, vs, .int .u64 a, .int .u64 b, .int .u64 f, vt, vk]] w (RetCop node th old su g n r S a b f T K w) := by
  obtain ⟨As, cs, rfl⟩ := hs.form
  obtain ⟨At, ct, rfl⟩ := ht.form
  obtain ⟨Ak, ck, rfl⟩ := hk.form
  have HS := Lib.hid hs
  have HT := Lib.hid ht
  have HK := Lib.hid hk
  clear hs ht hk
  go_enter Try.func54, Try.ntmps54
  go_upto_region 1 with fail
  have k0 := Blk.new w 31 #[.int .i64 node, .int .u64 th, .bool su, .int .u64 old, .int .u64 g, .int .u64 n, .int .u64 r, .slice As S.length cs, .int .u64 a, .int .u64 b, .int .u64 f, .slice At T.length ct, .slice Ak K.length ck]
  have hB := bal (Below.refl w.heap.size w) (.cells #[.int .i64 node, .int .u64 th, .bool su, .int .u64 old, .int .u64 g, .int .u64 n, .int .u64 r, .slice As S.length cs, .int .u64 a, .int .u64 b, .int .u64 f, .slice At T.length ct, .slice Ak K.length ck] 31)
  obtain ⟨g0, hg0⟩ : ∃ g0, w.heap.size = g0 := ⟨_, rfl⟩
  have HG0 := Lib.hid hg0
  have hg1 : g0 + 1 = (w.alloc (.cells #[.int .i64 node, .int .u64 th, .bool su, .int .u64 old, .int .u64 g, .int .u64 n, .int .u64 r, .slice As S.length cs, .int .u64 a, .int .u64 b, .int .u64 f, .slice At T.length ct, .slice Ak K.length ck] 31)).heap.size := by rw [World.size_alloc, hg0]
  rw [hg0] at k0 ⊢
  generalize w.alloc (.cells #[.int .i64 node, .int .u64 th, .bool su, .int .u64 old, .int .u64 g, .int .u64 n, .int .u64 r, .slice As S.length cs, .int .u64 a, .int .u64 b, .int .u64 f, .slice At T.length ct, .slice Ak K.length ck] 31) = W0 at k0 hB hg1 ⊢
  have hgz : g0 + 1 ≤ W0.heap.size := by omega
  clear hg0 hg1
  obtain ⟨_, _, _, _, _, _, _, x7, _, _, _, _, _⟩ := k0.c13
  obtain ⟨_, _, _, _, _, _, _, f7, _, _, _, _, _⟩ := k0.f13
  have hl0 := k0.lt
  go_wp2_with fail
  refine (CloneS_any S _ _ (HS.out.below hB) hsl).mono ?_
  rintro e U ⟨Bs, ds, rfl, hr, hbu⟩
  have Rs : SlsB (g0 + 1) U (.slice Bs S.length ds) S := RowB.low hr (by omega)
  replace k0 := k0.below hbu
  have hBu := bnext hB hbu
  have hsz := hbu.size
  clear hr hbu hB x7 f7 hl0
  obtain ⟨_, _, _, _, _, _, _, x7, _, _, _, _, _⟩ := k0.c13
  obtain ⟨_, _, _, _, _, _, _, f7, _, _, _, _, _⟩ := k0.f13
  have hl0 := k0.lt
  go_upto_region 2 with fail
  replace k0 : Blk (U.setCell ⟨g0, 7, none⟩ (.slice Bs S.length ds)) g0 31 #[.int .i64 node, .int .u64 th, .bool su, .int .u64 old, .int .u64 g, .int .u64 n, .int .u64 r, .slice Bs S.length ds, .int .u64 a, .int .u64 b, .int .u64 f, .slice At T.length ct, .slice Ak K.length ck] := k0.set 7 (.slice Bs S.length ds)
  have hB := bset hBu (p := ⟨g0, 7, none⟩) (by show w.heap.size ≤ g0; rw [HG0.out]; omega) (.slice Bs S.length ds)
  replace Rs := RowB.set Rs (p := ⟨g0, 7, none⟩) (by show g0 < _; omega) (.slice Bs S.length ds)
  have hgz0 : g0 + 1 ≤ (U.setCell ⟨g0, 7, none⟩ (.slice Bs S.length ds)).heap.size := by rw [World.size_setCell]; omega
  generalize U.setCell ⟨g0, 7, none⟩ (.slice Bs S.length ds) = W1 at k0 hB hgz0 Rs ⊢
  clear hBu hsz x7 f7 hl0 hgz
  obtain ⟨_, _, _, _, _, _, _, _, _, _, _, x11, _⟩ := k0.c13
  obtain ⟨_, _, _, _, _, _, _, _, _, _, _, f11, _⟩ := k0.f13
  have hl0 := k0.lt
  go_wp2_with fail
  refine (CloneR_any T _ _ (HT.out.below hB) htl).mono ?_
  rintro e U ⟨Bt, dt, rfl, hr, hbu⟩
  have Rt : RgsB (g0 + 1) U (.slice Bt T.length dt) T := RowB.low hr (by omega)
  replace k0 := k0.below hbu
  have hBu := bnext hB hbu
  replace Rs := RowB.below Rs hbu
  have hsz := hbu.size
  clear hr hbu hB x11 f11 hl0
  obtain ⟨_, _, _, _, _, _, _, _, _, _, _, x11, _⟩ := k0.c13
  obtain ⟨_, _, _, _, _, _, _, _, _, _, _, f11, _⟩ := k0.f13
  have hl0 := k0.lt
  go_upto_region 3 with fail
  replace k0 : Blk (U.setCell ⟨g0, 11, none⟩ (.slice Bt T.length dt)) g0 31 #[.int .i64 node, .int .u64 th, .bool su, .int .u64 old, .int .u64 g, .int .u64 n, .int .u64 r, .slice Bs S.length ds, .int .u64 a, .int .u64 b, .int .u64 f, .slice Bt T.length dt, .slice Ak K.length ck] := k0.set 11 (.slice Bt T.length dt)
  have hB := bset hBu (p := ⟨g0, 11, none⟩) (by show w.heap.size ≤ g0; rw [HG0.out]; omega) (.slice Bt T.length dt)
  replace Rs := RowB.set Rs (p := ⟨g0, 11, none⟩) (by show g0 < _; omega) (.slice Bt T.length dt)
  replace Rt := RowB.set Rt (p := ⟨g0, 11, none⟩) (by show g0 < _; omega) (.slice Bt T.length dt)
  have hgz1 : g0 + 1 ≤ (U.setCell ⟨g0, 11, none⟩ (.slice Bt T.length dt)).heap.size := by rw [World.size_setCell]; omega
  generalize U.setCell ⟨g0, 11, none⟩ (.slice Bt T.length dt) = W2 at k0 hB hgz1 Rs Rt ⊢
  clear hBu hsz x11 f11 hl0 hgz0
  obtain ⟨_, _, _, _, _, _, _, _, _, _, _, _, x12⟩ := k0.c13
  obtain ⟨_, _, _, _, _, _, _, _, _, _, _, _, f12⟩ := k0.f13
  have hl0 := k0.lt
  go_wp2_with fail
  refine (CloneK_any K _ _ (HK.out.below hB) hkl).mono ?_
  rintro e U ⟨Bk, dk, rfl, hr, hbu⟩
  have Rk : KpsB (g0 + 1) U (.slice Bk K.length dk) K := RowB.low hr (by omega)
  replace k0 := k0.below hbu
  have hBu := bnext hB hbu
  replace Rs := RowB.below Rs hbu
  replace Rt := RowB.below Rt hbu
  have hsz := hbu.size
  clear hr hbu hB x12 f12 hl0
  obtain ⟨_, _, _, _, _, _, _, _, _, _, _, _, x12⟩ := k0.c13
  obtain ⟨_, _, _, _, _, _, _, _, _, _, _, _, f12⟩ := k0.f13
  have hl0 := k0.lt
  go_upto_region 4 with fail
  replace k0 : Blk (U.setCell ⟨g0, 12, none⟩ (.slice Bk K.length dk)) g0 31 #[.int .i64 node, .int .u64 th, .bool su, .int .u64 old, .int .u64 g, .int .u64 n, .int .u64 r, .slice Bs S.length ds, .int .u64 a, .int .u64 b, .int .u64 f, .slice Bt T.length dt, .slice Bk K.length dk] := k0.set 12 (.slice Bk K.length dk)
  have hB := bset hBu (p := ⟨g0, 12, none⟩) (by show w.heap.size ≤ g0; rw [HG0.out]; omega) (.slice Bk K.length dk)
  replace Rs := RowB.set Rs (p := ⟨g0, 12, none⟩) (by show g0 < _; omega) (.slice Bk K.length dk)
  replace Rt := RowB.set Rt (p := ⟨g0, 12, none⟩) (by show g0 < _; omega) (.slice Bk K.length dk)
  replace Rk := RowB.set Rk (p := ⟨g0, 12, none⟩) (by show g0 < _; omega) (.slice Bk K.length dk)
  have hgz2 : g0 + 1 ≤ (U.setCell ⟨g0, 12, none⟩ (.slice Bk K.length dk)).heap.size := by rw [World.size_setCell]; omega
  generalize U.setCell ⟨g0, 12, none⟩ (.slice Bk K.length dk) = W3 at k0 hB hgz2 Rs Rt Rk ⊢
  clear hBu hsz x12 f12 hl0 hgz1
  go_wp2_with fail
  go_ret
  exact ⟨g0, Bs, ds, Bt, dt, Bk, dk, rfl, k0, by rw [HG0.out]; omega, Rs, Rt, Rk, hB⟩
end Go.Proofs.Ytfgkkflbpfocjaa

namespace Go.Proofs.Ytfgkkflbpfocjaa
open Go.RowKit
set_option linter.unusedVariables false

theorem set13a (c0 c1 c2 c3 c4 c5 c6 c7 c8 c9 c10 c11 c12 d0 d1 d2 d3 d4 d5 d6 d7 d8 d9 d10 d11 d12 : Value) : ((((((((((((((#[c0, c1, c2, c3, c4, c5, c6, c7, c8, c9, c10, c11, c12] : Array Value)).setIfInBounds 0 d0).setIfInBounds 1 d1).setIfInBounds 2 d2).setIfInBounds 3 d3).setIfInBounds 4 d4).setIfInBounds 5 d5).setIfInBounds 6 d6).setIfInBounds 7 d7).setIfInBounds 8 d8).setIfInBounds 9 d9).setIfInBounds 10 d10).setIfInBounds 11 d11).setIfInBounds 12 d12 = #[d0, d1, d2, d3, d4, d5, d6, d7, d8, d9, d10, d11, d12] := by kernel_rfl
theorem set13b (c0 c1 c2 c3 c4 c5 c6 c7 c8 c9 c10 c11 c12 a b : Value) : (((#[c0, c1, c2, c3, c4, c5, c6, c7, c8, c9, c10, c11, c12] : Array Value)).setIfInBounds 2 a).setIfInBounds 3 b = #[c0, c1, a, b, c4, c5, c6, c7, c8, c9, c10, c11, c12] := by kernel_rfl
theorem set22a (e0 e1 e2 e3 e4 e5 e6 e7 e8 e9 e10 e11 e12 e13 e14 e15 e16 e17 e18 e19 e20 e21 u : Value) : (#[e0, e1, e2, e3, e4, e5, e6, e7, e8, e9, e10, e11, e12, e13, e14, e15, e16, e17, e18, e19, e20, e21] : Array Value).setIfInBounds 21 u = #[e0, e1, e2, e3, e4, e5, e6, e7, e8, e9, e10, e11, e12, e13, e14, e15, e16, e17, e18, e19, e20, u] := by kernel_rfl
section
variable {w : World} {g g' : Nat} {t t' : TypeId} {cs : Array Value}
theorem Blk.set13 {c0 c1 c2 c3 c4 c5 c6 c7 c8 c9 c10 c11 c12 : Value} (h : Blk w g t #[c0, c1, c2, c3, c4, c5, c6, c7, c8, c9, c10, c11, c12]) (d0 d1 d2 d3 d4 d5 d6 d7 d8 d9 d10 d11 d12 : Value) : Blk ((((((((((((((w).setCell ⟨g, 0, none⟩ d0).setCell ⟨g, 1, none⟩ d1).setCell ⟨g, 2, none⟩ d2).setCell ⟨g, 3, none⟩ d3).setCell ⟨g, 4, none⟩ d4).setCell ⟨g, 5, none⟩ d5).setCell ⟨g, 6, none⟩ d6).setCell ⟨g, 7, none⟩ d7).setCell ⟨g, 8, none⟩ d8).setCell ⟨g, 9, none⟩ d9).setCell ⟨g, 10, none⟩ d10).setCell ⟨g, 11, none⟩ d11).setCell ⟨g, 12, none⟩ d12) g t #[d0, d1, d2, d3, d4, d5, d6, d7, d8, d9, d10, d11, d12] := by
  have k := (Blk.set ((Blk.set ((Blk.set ((Blk.set ((Blk.set ((Blk.set ((Blk.set ((Blk.set ((Blk.set ((Blk.set ((Blk.set ((Blk.set ((Blk.set (h) 0 d0)) 1 d1)) 2 d2)) 3 d3)) 4 d4)) 5 d5)) 6 d6)) 7 d7)) 8 d8)) 9 d9)) 10 d10)) 11 d11)) 12 d12)
  rw [set13a] at k
  exact k
theorem Blk.set23 {c0 c1 c2 c3 c4 c5 c6 c7 c8 c9 c10 c11 c12 : Value} (h : Blk w g t #[c0, c1, c2, c3, c4, c5, c6, c7, c8, c9, c10, c11, c12]) (a b : Value) : Blk (((w).setCell ⟨g, 2, none⟩ a).setCell ⟨g, 3, none⟩ b) g t #[c0, c1, a, b, c4, c5, c6, c7, c8, c9, c10, c11, c12] := by
  have k := (Blk.set ((Blk.set (h) 2 a)) 3 b)
  rw [set13b] at k
  exact k
theorem Blk.set22 {e0 e1 e2 e3 e4 e5 e6 e7 e8 e9 e10 e11 e12 e13 e14 e15 e16 e17 e18 e19 e20 e21 : Value} (h : Blk w g t #[e0, e1, e2, e3, e4, e5, e6, e7, e8, e9, e10, e11, e12, e13, e14, e15, e16, e17, e18, e19, e20, e21]) (u : Value) : Blk (w.setCell ⟨g, 21, none⟩ u) g t #[e0, e1, e2, e3, e4, e5, e6, e7, e8, e9, e10, e11, e12, e13, e14, e15, e16, e17, e18, e19, e20, u] := by
  have k := Blk.set h 21 u
  rw [set22a] at k
  exact k
theorem Blk.far13 (h : Blk w g t cs) (hn : ¬ g = g') (d0 d1 d2 d3 d4 d5 d6 d7 d8 d9 d10 d11 d12 : Value) : Blk ((((((((((((((w).setCell ⟨g', 0, none⟩ d0).setCell ⟨g', 1, none⟩ d1).setCell ⟨g', 2, none⟩ d2).setCell ⟨g', 3, none⟩ d3).setCell ⟨g', 4, none⟩ d4).setCell ⟨g', 5, none⟩ d5).setCell ⟨g', 6, none⟩ d6).setCell ⟨g', 7, none⟩ d7).setCell ⟨g', 8, none⟩ d8).setCell ⟨g', 9, none⟩ d9).setCell ⟨g', 10, none⟩ d10).setCell ⟨g', 11, none⟩ d11).setCell ⟨g', 12, none⟩ d12) g t cs := (Blk.far ((Blk.far ((Blk.far ((Blk.far ((Blk.far ((Blk.far ((Blk.far ((Blk.far ((Blk.far ((Blk.far ((Blk.far ((Blk.far ((Blk.far (h) (p := ⟨g', 0, none⟩) hn d0)) (p := ⟨g', 1, none⟩) hn d1)) (p := ⟨g', 2, none⟩) hn d2)) (p := ⟨g', 3, none⟩) hn d3)) (p := ⟨g', 4, none⟩) hn d4)) (p := ⟨g', 5, none⟩) hn d5)) (p := ⟨g', 6, none⟩) hn d6)) (p := ⟨g', 7, none⟩) hn d7)) (p := ⟨g', 8, none⟩) hn d8)) (p := ⟨g', 9, none⟩) hn d9)) (p := ⟨g', 10, none⟩) hn d10)) (p := ⟨g', 11, none⟩) hn d11)) (p := ⟨g', 12, none⟩) hn d12)
theorem Blk.far23 (h : Blk w g t cs) (hn : ¬ g = g') (a b : Value) : Blk (((w).setCell ⟨g', 2, none⟩ a).setCell ⟨g', 3, none⟩ b) g t cs := (Blk.far ((Blk.far (h) (p := ⟨g', 2, none⟩) hn a)) (p := ⟨g', 3, none⟩) hn b)
end
end Go.Proofs.Ytfgkkflbpfocjaa

namespace Go.Proofs.Ytfgkkflbpfocjaa
open Go.RowKit
set_option linter.unusedVariables false
set_option linter.unusedSimpArgs false

/-- of the blocks that there were, those in S alone may have changed -/
structure Only (S : Nat → Prop) (w w' : World) : Prop where
  os : w'.os = w.os
  tape : w'.tape = w.tape
  output : w'.output = w.output
  size : w.heap.size ≤ w'.heap.size
  block : ∀ k, k < w.heap.size → ¬ S k → w'.heap[k]? = w.heap[k]?
section
variable {S : Nat → Prop} {w w' w'' : World}
theorem Only.refl (S : Nat → Prop) (w : World) : Only S w w := ⟨rfl, rfl, rfl, Nat.le_refl _, fun _ _ _ => rfl⟩
theorem Only.trans (h : Only S w w') (k : Only S w' w'') : Only S w w'' :=
  ⟨k.os.trans h.os, k.tape.trans h.tape, k.output.trans h.output, Nat.le_trans h.size k.size, fun i hi hs => (k.block i (Nat.lt_of_lt_of_le hi h.size) hs).trans (h.block i hi hs)⟩
theorem Only.mono {T : Nat → Prop} (h : Only S w w') (hs : ∀ k, S k → T k) : Only T w w' := ⟨h.os, h.tape, h.output, h.size, fun i hi ht => h.block i hi (fun c => ht (hs i c))⟩
theorem Only.of_below (h : Below w.heap.size w w') : Only S w w' := ⟨h.os, h.tape, h.output, h.size, fun k hk _ => h.block k hk⟩
theorem Only.below (h : Only S w w') (k : Below w'.heap.size w' w'') : Only S w w'' := h.trans (Only.of_below k)
theorem Only.alloc (h : Only S w w') (o : Obj) : Only S w (w'.alloc o) := h.below ((Below.refl _ _).alloc (Nat.le_refl _) o)
theorem Only.drew (h : Only S w w') : Only S w w'.drew := ⟨h.os, h.tape, h.output, h.size, h.block⟩
theorem Only.drewN (h : Only S w w') (n : Nat) : Only S w (w'.drewN n) := ⟨h.os, h.tape, h.output, h.size, h.block⟩
theorem Only.set (h : Only S w w') {p : Addr} (hp : S p.block ∨ w.heap.size ≤ p.block) (u : Value) : Only S w (w'.setCell p u) := by
  refine ⟨h.os, h.tape, h.output, by rw [World.size_setCell]; exact h.size, fun k hk hs => (Below.heap_setCell w' p u k ?_).trans (h.block k hk hs)⟩
  rintro rfl
  rcases hp with hp | hp
  · exact hs hp
  · omega
theorem Only.grown {row : Option Nat} (h : Only S w w') (hg : w'.grownBy w'' row) (hr : ∀ k, row = some k → S k ∨ w.heap.size ≤ k) : Only S w w'' := by
  refine ⟨hg.os.trans h.os, hg.tape.trans h.tape, hg.output.trans h.output, Nat.le_trans h.size hg.size, fun k hk hs => (hg.block k (Nat.lt_of_lt_of_le hk h.size) ?_).trans (h.block k hk hs)⟩
  intro e
  rcases hr k e.symm with a | a
  · exact hs a
  · omega
theorem Only.cell (h : Only S w w') {b : Nat} (hb : b < w.heap.size) (hs : ¬ S b) (o : Nat) : w'.cell? ⟨b, o, none⟩ = w.cell? ⟨b, o, none⟩ := World.cell?_of_block (h.block b hb hs)
theorem Only.frozen (h : Only S w w') {b : Nat} (hb : b < w.heap.size) (hs : ¬ S b) (o : Nat) : w'.frozen? ⟨b, o, none⟩ = w.frozen? ⟨b, o, none⟩ := World.frozen?_of_block (h.block b hb hs)
theorem Blk.only {g : Nat} {t : TypeId} {cs : Array Value} (h : Blk w g t cs) (ho : Only S w w') (hs : ¬ S g) : Blk w' g t cs := (ho.block g h.lt hs).trans h
end
end Go.Proofs.Ytfgkkflbpfocjaa

