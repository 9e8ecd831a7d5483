/- Contracts: the part of a bundle. -/
import Derived.Test.YtcifngefclgefaaK
namespace Go.Proofs.Ytcifngefclgefaa
open Go.RowKit
set_option linter.unusedVariables false
set_option linter.unusedSimpArgs false

def zBn : Bn := ⟨0, 0, 0, 0, 0, 0, 0, 0, ⟨#[]⟩⟩
/-- the part of a bundle, or the error -/
def partOf (x : Bn) (f t : Int) : Bn × Int := if bE x ≠ 0 then (zBn, bE x) else if f < x.off ∨ t ≤ f ∨ x.off + x.data.size < t then (zBn, 2) else (⟨x.node, x.seq, f, x.dest, x.prio, x.born, x.life, x.total, x.data.extract (f - x.off).toNat (t - x.off).toNat⟩, 0)
def RetBE (x : Bn) (er : Int) (w : World) (e : Ending) (w' : World) : Prop := e = .returned (.tuple #[x.val, .int .i64 er]) ∧ Below w.heap.size w w'

set_option maxRecDepth 100000 in
set_option maxHeartbeats 8000000 in
theorem Part_any (x : Bn) (f t : Int) (hf : -9223372036854775808 ≤ f ∧ f ≤ 9223372036854775807) (ht : -9223372036854775808 ≤ t ∧ t ≤ 9223372036854775807) (w : World) :
    Calls Try.prog 13 #[x.val, .int .i64 f, .int .i64 t] w (RetBE (partOf x f t).1 (partOf x f t).2 w) := by
  rw [Bn.val_eq]
  obtain ⟨ee, hee⟩ : ∃ ee, bE x = ee := ⟨_, rfl⟩
  have HEE := Lib.hid hee
  have CK : Hid (∀ w, Calls Try.prog 34 #[.agg (BX x)] w (RetI ee w)) := Lib.hid (fun w => by rw [← hee]; exact Check_any x w)
  clear hee
  by_cases he : ee = 0
  · subst he
    obtain ⟨hox, hsx, _⟩ := bok_o (bok_of HEE.out)
    have hs1 := (bok_of HEE.out).s
    have hoo : x.off ≤ 20000 := by omega
    have WS : IntKind.i64.wrap (x.off + x.data.size) = x.off + x.data.size := IntWalk.i64_in _ (by omega)
    by_cases h1 : f < x.off
    · skip
      have R : Hid (partOf x f t = (zBn, 2)) := Lib.hid (by unfold partOf; rw [HEE.out, if_neg (fun h => h rfl), if_pos (by omega)])
      clear hox
      go_enter Try.func13, Try.ntmps13
      go_wp2_with fail
      refine (CK.out _).mono ?_
      rintro e w1 ⟨rfl, hb1⟩
      have k1 := ((Blk.new w 26 #[.int .i64 x.node, .int .u64 x.seq, .int .i64 x.off, .int .i64 x.dest, .int .i64 x.prio, .int .i64 x.born, .int .i64 x.life, .int .i64 x.total, .string x.data]).alloc (.cells #[.int .i64 0, .int .u64 0, .int .i64 0, .int .i64 0, .int .i64 0, .int .i64 0, .int .i64 0, .int .i64 0, .string ⟨#[]⟩] 26)).below hb1
      have k2 := (Blk.new1 w (.cells #[.int .i64 x.node, .int .u64 x.seq, .int .i64 x.off, .int .i64 x.dest, .int .i64 x.prio, .int .i64 x.born, .int .i64 x.life, .int .i64 x.total, .string x.data] 26) 26 #[.int .i64 0, .int .u64 0, .int .i64 0, .int .i64 0, .int .i64 0, .int .i64 0, .int .i64 0, .int .i64 0, .string ⟨#[]⟩]).below hb1
      have hB1 := bnext (bal (bal (Below.refl w.heap.size w) (.cells #[.int .i64 x.node, .int .u64 x.seq, .int .i64 x.off, .int .i64 x.dest, .int .i64 x.prio, .int .i64 x.born, .int .i64 x.life, .int .i64 x.total, .string x.data] 26)) (.cells #[.int .i64 0, .int .u64 0, .int .i64 0, .int .i64 0, .int .i64 0, .int .i64 0, .int .i64 0, .int .i64 0, .string ⟨#[]⟩] 26)) hb1
      obtain ⟨x0, x1, x2, x3, x4, x5, x6, x7, x8⟩ := k1.c9
      obtain ⟨f0, f1, f2, f3, f4, f5, f6, f7, f8⟩ := k1.f9
      obtain ⟨y0, y1, y2, y3, y4, y5, y6, y7, y8⟩ := k2.c9
      obtain ⟨g0, g1, g2, g3, g4, g5, g6, g7, g8⟩ := k2.f9
      have hl1 := k1.lt
      have hl2 := k2.lt
      clear hb1 k1 k2
      go_wp2_with fail
      refine bodyPost_ret (v := .tuple #[zBn.val, .int .i64 2]) (by simp [results, Try.results13, go_sem, y0, y1, y2, y3, y4, y5, y6, y7, y8, hl2, Bn.val, Bn.cells, zBn]) rfl ?_
      rw [R.out]
      exact ⟨rfl, (by repeat (first | with_reducible exact Below.refl _ _ | with_reducible refine Below.drew ?_ | with_reducible refine below_drewN ?_ _ | with_reducible refine bal ?_ _ | with_reducible refine bset ?_ (by first | (simp; done) | (simp; omega)) _ | with_reducible refine bnext ?_ (by assumption) | with_reducible assumption))⟩
    by_cases h2 : t ≤ f
    · have h2' : f ≥ t := h2
      have R : Hid (partOf x f t = (zBn, 2)) := Lib.hid (by unfold partOf; rw [HEE.out, if_neg (fun h => h rfl), if_pos (by omega)])
      clear hox
      go_enter Try.func13, Try.ntmps13
      go_wp2_with fail
      refine (CK.out _).mono ?_
      rintro e w1 ⟨rfl, hb1⟩
      have k1 := ((Blk.new w 26 #[.int .i64 x.node, .int .u64 x.seq, .int .i64 x.off, .int .i64 x.dest, .int .i64 x.prio, .int .i64 x.born, .int .i64 x.life, .int .i64 x.total, .string x.data]).alloc (.cells #[.int .i64 0, .int .u64 0, .int .i64 0, .int .i64 0, .int .i64 0, .int .i64 0, .int .i64 0, .int .i64 0, .string ⟨#[]⟩] 26)).below hb1
      have k2 := (Blk.new1 w (.cells #[.int .i64 x.node, .int .u64 x.seq, .int .i64 x.off, .int .i64 x.dest, .int .i64 x.prio, .int .i64 x.born, .int .i64 x.life, .int .i64 x.total, .string x.data] 26) 26 #[.int .i64 0, .int .u64 0, .int .i64 0, .int .i64 0, .int .i64 0, .int .i64 0, .int .i64 0, .int .i64 0, .string ⟨#[]⟩]).below hb1
      have hB1 := bnext (bal (bal (Below.refl w.heap.size w) (.cells #[.int .i64 x.node, .int .u64 x.seq, .int .i64 x.off, .int .i64 x.dest, .int .i64 x.prio, .int .i64 x.born, .int .i64 x.life, .int .i64 x.total, .string x.data] 26)) (.cells #[.int .i64 0, .int .u64 0, .int .i64 0, .int .i64 0, .int .i64 0, .int .i64 0, .int .i64 0, .int .i64 0, .string ⟨#[]⟩] 26)) hb1
      obtain ⟨x0, x1, x2, x3, x4, x5, x6, x7, x8⟩ := k1.c9
      obtain ⟨f0, f1, f2, f3, f4, f5, f6, f7, f8⟩ := k1.f9
      obtain ⟨y0, y1, y2, y3, y4, y5, y6, y7, y8⟩ := k2.c9
      obtain ⟨g0, g1, g2, g3, g4, g5, g6, g7, g8⟩ := k2.f9
      have hl1 := k1.lt
      have hl2 := k2.lt
      clear hb1 k1 k2
      go_wp2_with fail
      refine bodyPost_ret (v := .tuple #[zBn.val, .int .i64 2]) (by simp [results, Try.results13, go_sem, y0, y1, y2, y3, y4, y5, y6, y7, y8, hl2, Bn.val, Bn.cells, zBn]) rfl ?_
      rw [R.out]
      exact ⟨rfl, (by repeat (first | with_reducible exact Below.refl _ _ | with_reducible refine Below.drew ?_ | with_reducible refine below_drewN ?_ _ | with_reducible refine bal ?_ _ | with_reducible refine bset ?_ (by first | (simp; done) | (simp; omega)) _ | with_reducible refine bnext ?_ (by assumption) | with_reducible assumption))⟩
    by_cases h3 : x.off + x.data.size < t
    · have h3' : t > x.off + x.data.size := h3
      have h2' : ¬ f ≥ t := h2
      have R : Hid (partOf x f t = (zBn, 2)) := Lib.hid (by unfold partOf; rw [HEE.out, if_neg (fun h => h rfl), if_pos (by omega)])
      clear hox
      go_enter Try.func13, Try.ntmps13
      go_wp2_with fail
      refine (CK.out _).mono ?_
      rintro e w1 ⟨rfl, hb1⟩
      have k1 := ((Blk.new w 26 #[.int .i64 x.node, .int .u64 x.seq, .int .i64 x.off, .int .i64 x.dest, .int .i64 x.prio, .int .i64 x.born, .int .i64 x.life, .int .i64 x.total, .string x.data]).alloc (.cells #[.int .i64 0, .int .u64 0, .int .i64 0, .int .i64 0, .int .i64 0, .int .i64 0, .int .i64 0, .int .i64 0, .string ⟨#[]⟩] 26)).below hb1
      have k2 := (Blk.new1 w (.cells #[.int .i64 x.node, .int .u64 x.seq, .int .i64 x.off, .int .i64 x.dest, .int .i64 x.prio, .int .i64 x.born, .int .i64 x.life, .int .i64 x.total, .string x.data] 26) 26 #[.int .i64 0, .int .u64 0, .int .i64 0, .int .i64 0, .int .i64 0, .int .i64 0, .int .i64 0, .int .i64 0, .string ⟨#[]⟩]).below hb1
      have hB1 := bnext (bal (bal (Below.refl w.heap.size w) (.cells #[.int .i64 x.node, .int .u64 x.seq, .int .i64 x.off, .int .i64 x.dest, .int .i64 x.prio, .int .i64 x.born, .int .i64 x.life, .int .i64 x.total, .string x.data] 26)) (.cells #[.int .i64 0, .int .u64 0, .int .i64 0, .int .i64 0, .int .i64 0, .int .i64 0, .int .i64 0, .int .i64 0, .string ⟨#[]⟩] 26)) hb1
      obtain ⟨x0, x1, x2, x3, x4, x5, x6, x7, x8⟩ := k1.c9
      obtain ⟨f0, f1, f2, f3, f4, f5, f6, f7, f8⟩ := k1.f9
      obtain ⟨y0, y1, y2, y3, y4, y5, y6, y7, y8⟩ := k2.c9
      obtain ⟨g0, g1, g2, g3, g4, g5, g6, g7, g8⟩ := k2.f9
      have hl1 := k1.lt
      have hl2 := k2.lt
      clear hb1 k1 k2
      go_wp2_with fail
      refine bodyPost_ret (v := .tuple #[zBn.val, .int .i64 2]) (by simp [results, Try.results13, go_sem, y0, y1, y2, y3, y4, y5, y6, y7, y8, hl2, Bn.val, Bn.cells, zBn]) rfl ?_
      rw [R.out]
      exact ⟨rfl, (by repeat (first | with_reducible exact Below.refl _ _ | with_reducible refine Below.drew ?_ | with_reducible refine below_drewN ?_ _ | with_reducible refine bal ?_ _ | with_reducible refine bset ?_ (by first | (simp; done) | (simp; omega)) _ | with_reducible refine bnext ?_ (by assumption) | with_reducible assumption))⟩
    obtain ⟨p, hp⟩ : ∃ p : Nat, f - x.off = p := ⟨(f - x.off).toNat, by omega⟩
    obtain ⟨q, hq⟩ : ∃ q : Nat, t - x.off = q := ⟨(t - x.off).toNat, by omega⟩
    have R : Hid (partOf x f t = (⟨x.node, x.seq, f, x.dest, x.prio, x.born, x.life, x.total, x.data.extract p q⟩, 0)) := Lib.hid (by unfold partOf; rw [HEE.out, if_neg (fun h => h rfl), if_neg (by omega), hp, hq]; rfl)
    have hpq : p < q := by omega
    have hqs : q ≤ x.data.size := by omega
    have hpi : (p : Int) ≤ q := by omega
    have hqi : (q : Int) ≤ x.data.size := by omega
    have hp0 : (0 : Int) ≤ p := by omega
    have hq0 : (0 : Int) ≤ q := by omega
    have h2' : ¬ f ≥ t := h2
    have h3' : ¬ t > x.off + x.data.size := h3
    have W1 : IntKind.i64.wrap (f - x.off) = p := by rw [hp]; exact IntWalk.i64_in _ (by omega)
    have W2 : IntKind.i64.wrap (t - x.off) = q := by rw [hq]; exact IntWalk.i64_in _ (by omega)
    clear hox
    go_enter Try.func13, Try.ntmps13
    go_wp2_with fail
    refine (CK.out _).mono ?_
    rintro e w1 ⟨rfl, hb1⟩
    have k1 := ((Blk.new w 26 #[.int .i64 x.node, .int .u64 x.seq, .int .i64 x.off, .int .i64 x.dest, .int .i64 x.prio, .int .i64 x.born, .int .i64 x.life, .int .i64 x.total, .string x.data]).alloc (.cells #[.int .i64 0, .int .u64 0, .int .i64 0, .int .i64 0, .int .i64 0, .int .i64 0, .int .i64 0, .int .i64 0, .string ⟨#[]⟩] 26)).below hb1
    have k2 := (Blk.new1 w (.cells #[.int .i64 x.node, .int .u64 x.seq, .int .i64 x.off, .int .i64 x.dest, .int .i64 x.prio, .int .i64 x.born, .int .i64 x.life, .int .i64 x.total, .string x.data] 26) 26 #[.int .i64 0, .int .u64 0, .int .i64 0, .int .i64 0, .int .i64 0, .int .i64 0, .int .i64 0, .int .i64 0, .string ⟨#[]⟩]).below hb1
    have hB1 := bnext (bal (bal (Below.refl w.heap.size w) (.cells #[.int .i64 x.node, .int .u64 x.seq, .int .i64 x.off, .int .i64 x.dest, .int .i64 x.prio, .int .i64 x.born, .int .i64 x.life, .int .i64 x.total, .string x.data] 26)) (.cells #[.int .i64 0, .int .u64 0, .int .i64 0, .int .i64 0, .int .i64 0, .int .i64 0, .int .i64 0, .int .i64 0, .string ⟨#[]⟩] 26)) hb1
    obtain ⟨x0, x1, x2, x3, x4, x5, x6, x7, x8⟩ := k1.c9
    obtain ⟨f0, f1, f2, f3, f4, f5, f6, f7, f8⟩ := k1.f9
    obtain ⟨y0, y1, y2, y3, y4, y5, y6, y7, y8⟩ := k2.c9
    obtain ⟨g0, g1, g2, g3, g4, g5, g6, g7, g8⟩ := k2.f9
    have hl1 := k1.lt
    have hl2 := k2.lt
    clear hb1 k1 k2
    go_wp2_with fail
    refine bodyPost_ret (v := .tuple #[Bn.val ⟨x.node, x.seq, f, x.dest, x.prio, x.born, x.life, x.total, x.data.extract p q⟩, .int .i64 0]) (by simp [results, Try.results13, go_sem, y0, y1, y2, y3, y4, y5, y6, y7, y8, x0, x1, x2, x3, x4, x5, x6, x7, x8, hl1, hl2, Bn.val, Bn.cells]) rfl ?_
    rw [R.out]
    exact ⟨rfl, (by repeat (first | with_reducible exact Below.refl _ _ | with_reducible refine Below.drew ?_ | with_reducible refine below_drewN ?_ _ | with_reducible refine bal ?_ _ | with_reducible refine bset ?_ (by first | (simp; done) | (simp; omega)) _ | with_reducible refine bnext ?_ (by assumption) | with_reducible assumption))⟩
  · have hen : (ee != 0) = true := by simpa using he
    have R : Hid (partOf x f t = (zBn, ee)) := Lib.hid (by unfold partOf; rw [HEE.out, if_pos he])
    clear he
    go_enter Try.func13, Try.ntmps13
    go_wp2_with fail
    refine (CK.out _).mono ?_
    rintro e w1 ⟨rfl, hb1⟩
    have k1 := ((Blk.new w 26 #[.int .i64 x.node, .int .u64 x.seq, .int .i64 x.off, .int .i64 x.dest, .int .i64 x.prio, .int .i64 x.born, .int .i64 x.life, .int .i64 x.total, .string x.data]).alloc (.cells #[.int .i64 0, .int .u64 0, .int .i64 0, .int .i64 0, .int .i64 0, .int .i64 0, .int .i64 0, .int .i64 0, .string ⟨#[]⟩] 26)).below hb1
    have k2 := (Blk.new1 w (.cells #[.int .i64 x.node, .int .u64 x.seq, .int .i64 x.off, .int .i64 x.dest, .int .i64 x.prio, .int .i64 x.born, .int .i64 x.life, .int .i64 x.total, .string x.data] 26) 26 #[.int .i64 0, .int .u64 0, .int .i64 0, .int .i64 0, .int .i64 0, .int .i64 0, .int .i64 0, .int .i64 0, .string ⟨#[]⟩]).below hb1
    have hB1 := bnext (bal (bal (Below.refl w.heap.size w) (.cells #[.int .i64 x.node, .int .u64 x.seq, .int .i64 x.off, .int .i64 x.dest, .int .i64 x.prio, .int .i64 x.born, .int .i64 x.life, .int .i64 x.total, .string x.data] 26)) (.cells #[.int .i64 0, .int .u64 0, .int .i64 0, .int .i64 0, .int .i64 0, .int .i64 0, .int .i64 0, .int .i64 0, .string ⟨#[]⟩] 26)) hb1
    obtain ⟨x0, x1, x2, x3, x4, x5, x6, x7, x8⟩ := k1.c9
    obtain ⟨f0, f1, f2, f3, f4, f5, f6, f7, f8⟩ := k1.f9
    obtain ⟨y0, y1, y2, y3, y4, y5, y6, y7, y8⟩ := k2.c9
    obtain ⟨g0, g1, g2, g3, g4, g5, g6, g7, g8⟩ := k2.f9
    have hl1 := k1.lt
    have hl2 := k2.lt
    clear hb1 k1 k2
    go_wp2_with fail
    refine bodyPost_ret (v := .tuple #[zBn.val, .int .i64 ee]) (by simp [results, Try.results13, go_sem, y0, y1, y2, y3, y4, y5, y6, y7, y8, hl2, Bn.val, Bn.cells, zBn]) rfl ?_
    rw [R.out]
    exact ⟨rfl, (by repeat (first | with_reducible exact Below.refl _ _ | with_reducible refine Below.drew ?_ | with_reducible refine below_drewN ?_ _ | with_reducible refine bal ?_ _ | with_reducible refine bset ?_ (by first | (simp; done) | (simp; omega)) _ | with_reducible refine bnext ?_ (by assumption) | with_reducible assumption))⟩

set_option maxRecDepth 100000 in
set_option maxHeartbeats 8000000 in
theorem rPart_any (x : Bn) (f t : Int) (hf : -9223372036854775808 ≤ f ∧ f ≤ 9223372036854775807) (ht : -9223372036854775808 ≤ t ∧ t ≤ 9223372036854775807) (w : World) :
    Calls Try.prog 14 #[x.val, .int .i64 f, .int .i64 t] w (RetBE (partOf x f t).1 (partOf x f t).2 w) := by
  rw [Bn.val_eq]
  obtain ⟨ee, hee⟩ : ∃ ee, bE x = ee := ⟨_, rfl⟩
  have HEE := Lib.hid hee
  have CK : Hid (∀ w, Calls Try.prog 35 #[.agg (BX x)] w (RetI ee w)) := Lib.hid (fun w => by rw [← hee]; exact rCheck_any x w)
  clear hee
  by_cases he : ee = 0
  · subst he
    obtain ⟨hox, hsx, _⟩ := bok_o (bok_of HEE.out)
    have hs1 := (bok_of HEE.out).s
    have hoo : x.off ≤ 20000 := by omega
    have WS : IntKind.i64.wrap (x.off + x.data.size) = x.off + x.data.size := IntWalk.i64_in _ (by omega)
    by_cases h1 : f < x.off
    · skip
      have R : Hid (partOf x f t = (zBn, 2)) := Lib.hid (by unfold partOf; rw [HEE.out, if_neg (fun h => h rfl), if_pos (by omega)])
      clear hox
      go_enter Try.func14, Try.ntmps14
      go_wp2_with fail
      refine (CK.out _).mono ?_
      rintro e w1 ⟨rfl, hb1⟩
      have k1 := ((Blk.new w 26 #[.int .i64 x.node, .int .u64 x.seq, .int .i64 x.off, .int .i64 x.dest, .int .i64 x.prio, .int .i64 x.born, .int .i64 x.life, .int .i64 x.total, .string x.data]).alloc (.cells #[.int .i64 0, .int .u64 0, .int .i64 0, .int .i64 0, .int .i64 0, .int .i64 0, .int .i64 0, .int .i64 0, .string ⟨#[]⟩] 26)).below hb1
      have k2 := (Blk.new1 w (.cells #[.int .i64 x.node, .int .u64 x.seq, .int .i64 x.off, .int .i64 x.dest, .int .i64 x.prio, .int .i64 x.born, .int .i64 x.life, .int .i64 x.total, .string x.data] 26) 26 #[.int .i64 0, .int .u64 0, .int .i64 0, .int .i64 0, .int .i64 0, .int .i64 0, .int .i64 0, .int .i64 0, .string ⟨#[]⟩]).below hb1
      have hB1 := bnext (bal (bal (Below.refl w.heap.size w) (.cells #[.int .i64 x.node, .int .u64 x.seq, .int .i64 x.off, .int .i64 x.dest, .int .i64 x.prio, .int .i64 x.born, .int .i64 x.life, .int .i64 x.total, .string x.data] 26)) (.cells #[.int .i64 0, .int .u64 0, .int .i64 0, .int .i64 0, .int .i64 0, .int .i64 0, .int .i64 0, .int .i64 0, .string ⟨#[]⟩] 26)) hb1
      obtain ⟨x0, x1, x2, x3, x4, x5, x6, x7, x8⟩ := k1.c9
      obtain ⟨f0, f1, f2, f3, f4, f5, f6, f7, f8⟩ := k1.f9
      obtain ⟨y0, y1, y2, y3, y4, y5, y6, y7, y8⟩ := k2.c9
      obtain ⟨g0, g1, g2, g3, g4, g5, g6, g7, g8⟩ := k2.f9
      have hl1 := k1.lt
      have hl2 := k2.lt
      clear hb1 k1 k2
      go_wp2_with fail
      refine bodyPost_ret (v := .tuple #[zBn.val, .int .i64 2]) (by simp [results, Try.results14, go_sem, y0, y1, y2, y3, y4, y5, y6, y7, y8, hl2, Bn.val, Bn.cells, zBn]) rfl ?_
      rw [R.out]
      exact ⟨rfl, (by repeat (first | with_reducible exact Below.refl _ _ | with_reducible refine Below.drew ?_ | with_reducible refine below_drewN ?_ _ | with_reducible refine bal ?_ _ | with_reducible refine bset ?_ (by first | (simp; done) | (simp; omega)) _ | with_reducible refine bnext ?_ (by assumption) | with_reducible assumption))⟩
    by_cases h2 : t ≤ f
    · have h2' : f ≥ t := h2
      have R : Hid (partOf x f t = (zBn, 2)) := Lib.hid (by unfold partOf; rw [HEE.out, if_neg (fun h => h rfl), if_pos (by omega)])
      clear hox
      go_enter Try.func14, Try.ntmps14
      go_wp2_with fail
      refine (CK.out _).mono ?_
      rintro e w1 ⟨rfl, hb1⟩
      have k1 := ((Blk.new w 26 #[.int .i64 x.node, .int .u64 x.seq, .int .i64 x.off, .int .i64 x.dest, .int .i64 x.prio, .int .i64 x.born, .int .i64 x.life, .int .i64 x.total, .string x.data]).alloc (.cells #[.int .i64 0, .int .u64 0, .int .i64 0, .int .i64 0, .int .i64 0, .int .i64 0, .int .i64 0, .int .i64 0, .string ⟨#[]⟩] 26)).below hb1
      have k2 := (Blk.new1 w (.cells #[.int .i64 x.node, .int .u64 x.seq, .int .i64 x.off, .int .i64 x.dest, .int .i64 x.prio, .int .i64 x.born, .int .i64 x.life, .int .i64 x.total, .string x.data] 26) 26 #[.int .i64 0, .int .u64 0, .int .i64 0, .int .i64 0, .int .i64 0, .int .i64 0, .int .i64 0, .int .i64 0, .string ⟨#[]⟩]).below hb1
      have hB1 := bnext (bal (bal (Below.refl w.heap.size w) (.cells #[.int .i64 x.node, .int .u64 x.seq, .int .i64 x.off, .int .i64 x.dest, .int .i64 x.prio, .int .i64 x.born, .int .i64 x.life, .int .i64 x.total, .string x.data] 26)) (.cells #[.int .i64 0, .int .u64 0, .int .i64 0, .int .i64 0, .int .i64 0, .int .i64 0, .int .i64 0, .int .i64 0, .string ⟨#[]⟩] 26)) hb1
      obtain ⟨x0, x1, x2, x3, x4, x5, x6, x7, x8⟩ := k1.c9
      obtain ⟨f0, f1, f2, f3, f4, f5, f6, f7, f8⟩ := k1.f9
      obtain ⟨y0, y1, y2, y3, y4, y5, y6, y7, y8⟩ := k2.c9
      obtain ⟨g0, g1, g2, g3, g4, g5, g6, g7, g8⟩ := k2.f9
      have hl1 := k1.lt
      have hl2 := k2.lt
      clear hb1 k1 k2
      go_wp2_with fail
      refine bodyPost_ret (v := .tuple #[zBn.val, .int .i64 2]) (by simp [results, Try.results14, go_sem, y0, y1, y2, y3, y4, y5, y6, y7, y8, hl2, Bn.val, Bn.cells, zBn]) rfl ?_
      rw [R.out]
      exact ⟨rfl, (by repeat (first | with_reducible exact Below.refl _ _ | with_reducible refine Below.drew ?_ | with_reducible refine below_drewN ?_ _ | with_reducible refine bal ?_ _ | with_reducible refine bset ?_ (by first | (simp; done) | (simp; omega)) _ | with_reducible refine bnext ?_ (by assumption) | with_reducible assumption))⟩
    by_cases h3 : x.off + x.data.size < t
    · have h3' : t > x.off + x.data.size := h3
      have h2' : ¬ f ≥ t := h2
      have R : Hid (partOf x f t = (zBn, 2)) := Lib.hid (by unfold partOf; rw [HEE.out, if_neg (fun h => h rfl), if_pos (by omega)])
      clear hox
      go_enter Try.func14, Try.ntmps14
      go_wp2_with fail
      refine (CK.out _).mono ?_
      rintro e w1 ⟨rfl, hb1⟩
      have k1 := ((Blk.new w 26 #[.int .i64 x.node, .int .u64 x.seq, .int .i64 x.off, .int .i64 x.dest, .int .i64 x.prio, .int .i64 x.born, .int .i64 x.life, .int .i64 x.total, .string x.data]).alloc (.cells #[.int .i64 0, .int .u64 0, .int .i64 0, .int .i64 0, .int .i64 0, .int .i64 0, .int .i64 0, .int .i64 0, .string ⟨#[]⟩] 26)).below hb1
      have k2 := (Blk.new1 w (.cells #[.int .i64 x.node, .int .u64 x.seq, .int .i64 x.off, .int .i64 x.dest, .int .i64 x.prio, .int .i64 x.born, .int .i64 x.life, .int .i64 x.total, .string x.data] 26) 26 #[.int .i64 0, .int .u64 0, .int .i64 0, .int .i64 0, .int .i64 0, .int .i64 0, .int .i64 0, .int .i64 0, .string ⟨#[]⟩]).below hb1
      have hB1 := bnext (bal (bal (Below.refl w.heap.size w) (.cells #[.int .i64 x.node, .int .u64 x.seq, .int .i64 x.off, .int .i64 x.dest, .int .i64 x.prio, .int .i64 x.born, .int .i64 x.life, .int .i64 x.total, .string x.data] 26)) (.cells #[.int .i64 0, .int .u64 0, .int .i64 0, .int .i64 0, .int .i64 0, .int .i64 0, .int .i64 0, .int .i64 0, .string ⟨#[]⟩] 26)) hb1
      obtain ⟨x0, x1, x2, x3, x4, x5, x6, x7, x8⟩ := k1.c9
      obtain ⟨f0, f1, f2, f3, f4, f5, f6, f7, f8⟩ := k1.f9
      obtain ⟨y0, y1, y2, y3, y4, y5, y6, y7, y8⟩ := k2.c9
      obtain ⟨g0, g1, g2, g3, g4, g5, g6, g7, g8⟩ := k2.f9
      have hl1 := k1.lt
      have hl2 := k2.lt
      clear hb1 k1 k2
      go_wp2_with fail
      refine bodyPost_ret (v := .tuple #[zBn.val, .int .i64 2]) (by simp [results, Try.results14, go_sem, y0, y1, y2, y3, y4, y5, y6, y7, y8, hl2, Bn.val, Bn.cells, zBn]) rfl ?_
      rw [R.out]
      exact ⟨rfl, (by repeat (first | with_reducible exact Below.refl _ _ | with_reducible refine Below.drew ?_ | with_reducible refine below_drewN ?_ _ | with_reducible refine bal ?_ _ | with_reducible refine bset ?_ (by first | (simp; done) | (simp; omega)) _ | with_reducible refine bnext ?_ (by assumption) | with_reducible assumption))⟩
    obtain ⟨p, hp⟩ : ∃ p : Nat, f - x.off = p := ⟨(f - x.off).toNat, by omega⟩
    obtain ⟨q, hq⟩ : ∃ q : Nat, t - x.off = q := ⟨(t - x.off).toNat, by omega⟩
    have R : Hid (partOf x f t = (⟨x.node, x.seq, f, x.dest, x.prio, x.born, x.life, x.total, x.data.extract p q⟩, 0)) := Lib.hid (by unfold partOf; rw [HEE.out, if_neg (fun h => h rfl), if_neg (by omega), hp, hq]; rfl)
    have hpq : p < q := by omega
    have hqs : q ≤ x.data.size := by omega
    have hpi : (p : Int) ≤ q := by omega
    have hqi : (q : Int) ≤ x.data.size := by omega
    have hp0 : (0 : Int) ≤ p := by omega
    have hq0 : (0 : Int) ≤ q := by omega
    have h2' : ¬ f ≥ t := h2
    have h3' : ¬ t > x.off + x.data.size := h3
    have W1 : IntKind.i64.wrap (f - x.off) = p := by rw [hp]; exact IntWalk.i64_in _ (by omega)
    have W2 : IntKind.i64.wrap (t - x.off) = q := by rw [hq]; exact IntWalk.i64_in _ (by omega)
    clear hox
    go_enter Try.func14, Try.ntmps14
    go_wp2_with fail
    refine (CK.out _).mono ?_
    rintro e w1 ⟨rfl, hb1⟩
    have k1 := ((Blk.new w 26 #[.int .i64 x.node, .int .u64 x.seq, .int .i64 x.off, .int .i64 x.dest, .int .i64 x.prio, .int .i64 x.born, .int .i64 x.life, .int .i64 x.total, .string x.data]).alloc (.cells #[.int .i64 0, .int .u64 0, .int .i64 0, .int .i64 0, .int .i64 0, .int .i64 0, .int .i64 0, .int .i64 0, .string ⟨#[]⟩] 26)).below hb1
    have k2 := (Blk.new1 w (.cells #[.int .i64 x.node, .int .u64 x.seq, .int .i64 x.off, .int .i64 x.dest, .int .i64 x.prio, .int .i64 x.born, .int .i64 x.life, .int .i64 x.total, .string x.data] 26) 26 #[.int .i64 0, .int .u64 0, .int .i64 0, .int .i64 0, .int .i64 0, .int .i64 0, .int .i64 0, .int .i64 0, .string ⟨#[]⟩]).below hb1
    have hB1 := bnext (bal (bal (Below.refl w.heap.size w) (.cells #[.int .i64 x.node, .int .u64 x.seq, .int .i64 x.off, .int .i64 x.dest, .int .i64 x.prio, .int .i64 x.born, .int .i64 x.life, .int .i64 x.total, .string x.data] 26)) (.cells #[.int .i64 0, .int .u64 0, .int .i64 0, .int .i64 0, .int .i64 0, .int .i64 0, .int .i64 0, .int .i64 0, .string ⟨#[]⟩] 26)) hb1
    obtain ⟨x0, x1, x2, x3, x4, x5, x6, x7, x8⟩ := k1.c9
    obtain ⟨f0, f1, f2, f3, f4, f5, f6, f7, f8⟩ := k1.f9
    obtain ⟨y0, y1, y2, y3, y4, y5, y6, y7, y8⟩ := k2.c9
    obtain ⟨g0, g1, g2, g3, g4, g5, g6, g7, g8⟩ := k2.f9
    have hl1 := k1.lt
    have hl2 := k2.lt
    clear hb1 k1 k2
    go_wp2_with fail
    refine bodyPost_ret (v := .tuple #[Bn.val ⟨x.node, x.seq, f, x.dest, x.prio, x.born, x.life, x.total, x.data.extract p q⟩, .int .i64 0]) (by simp [results, Try.results14, go_sem, y0, y1, y2, y3, y4, y5, y6, y7, y8, x0, x1, x2, x3, x4, x5, x6, x7, x8, hl1, hl2, Bn.val, Bn.cells]) rfl ?_
    rw [R.out]
    exact ⟨rfl, (by repeat (first | with_reducible exact Below.refl _ _ | with_reducible refine Below.drew ?_ | with_reducible refine below_drewN ?_ _ | with_reducible refine bal ?_ _ | with_reducible refine bset ?_ (by first | (simp; done) | (simp; omega)) _ | with_reducible refine bnext ?_ (by assumption) | with_reducible assumption))⟩
  · have hen : (ee != 0) = true := by simpa using he
    have R : Hid (partOf x f t = (zBn, ee)) := Lib.hid (by unfold partOf; rw [HEE.out, if_pos he])
    clear he
    go_enter Try.func14, Try.ntmps14
    go_wp2_with fail
    refine (CK.out _).mono ?_
    rintro e w1 ⟨rfl, hb1⟩
    have k1 := ((Blk.new w 26 #[.int .i64 x.node, .int .u64 x.seq, .int .i64 x.off, .int .i64 x.dest, .int .i64 x.prio, .int .i64 x.born, .int .i64 x.life, .int .i64 x.total, .string x.data]).alloc (.cells #[.int .i64 0, .int .u64 0, .int .i64 0, .int .i64 0, .int .i64 0, .int .i64 0, .int .i64 0, .int .i64 0, .string ⟨#[]⟩] 26)).below hb1
    have k2 := (Blk.new1 w (.cells #[.int .i64 x.node, .int .u64 x.seq, .int .i64 x.off, .int .i64 x.dest, .int .i64 x.prio, .int .i64 x.born, .int .i64 x.life, .int .i64 x.total, .string x.data] 26) 26 #[.int .i64 0, .int .u64 0, .int .i64 0, .int .i64 0, .int .i64 0, .int .i64 0, .int .i64 0, .int .i64 0, .string ⟨#[]⟩]).below hb1
    have hB1 := bnext (bal (bal (Below.refl w.heap.size w) (.cells #[.int .i64 x.node, .int .u64 x.seq, .int .i64 x.off, .int .i64 x.dest, .int .i64 x.prio, .int .i64 x.born, .int .i64 x.life, .int .i64 x.total, .string x.data] 26)) (.cells #[.int .i64 0, .int .u64 0, .int .i64 0, .int .i64 0, .int .i64 0, .int .i64 0, .int .i64 0, .int .i64 0, .string ⟨#[]⟩] 26)) hb1
    obtain ⟨x0, x1, x2, x3, x4, x5, x6, x7, x8⟩ := k1.c9
    obtain ⟨f0, f1, f2, f3, f4, f5, f6, f7, f8⟩ := k1.f9
    obtain ⟨y0, y1, y2, y3, y4, y5, y6, y7, y8⟩ := k2.c9
    obtain ⟨g0, g1, g2, g3, g4, g5, g6, g7, g8⟩ := k2.f9
    have hl1 := k1.lt
    have hl2 := k2.lt
    clear hb1 k1 k2
    go_wp2_with fail
    refine bodyPost_ret (v := .tuple #[zBn.val, .int .i64 ee]) (by simp [results, Try.results14, go_sem, y0, y1, y2, y3, y4, y5, y6, y7, y8, hl2, Bn.val, Bn.cells, zBn]) rfl ?_
    rw [R.out]
    exact ⟨rfl, (by repeat (first | with_reducible exact Below.refl _ _ | with_reducible refine Below.drew ?_ | with_reducible refine below_drewN ?_ _ | with_reducible refine bal ?_ _ | with_reducible refine bset ?_ (by first | (simp; done) | (simp; omega)) _ | with_reducible refine bnext ?_ (by assumption) | with_reducible assumption))⟩

end Go.Proofs.Ytcifngefclgefaa
