/- Contract: a state made. -/
import Derived.Test.YthkfdfkjenhjmaaU
import Derived.Test.YthkfdfkjenhjmaaPut
import Derived.Test.YthkfdfkjenhjmaaJ
namespace Go.Proofs.Ythkfdfkjenhjmaa
open Go.RowKit
set_option linter.unusedVariables false
set_option linter.unusedSimpArgs false

/-- a state as it should be -/
def RetMd (w : World) (e : Ending) (w' : World) : Prop := ∃ v d, e = .returned (.tuple #[v, .bool true]) ∧ Ok d ∧ d.q ≤ 300 ∧ d.D = [0, 0, at0 d.W 2 * d.q] ∧ d.t = 2 ∧ DrV w' v d ∧ Below w.heap.size w w'
theorem New_any' {W : List Int} {q e : Int} {d : Dr} (h : newD W q = (d, e)) (v : Value) (w : World) (hW : IntAt w v W) : Calls Try.prog 25 #[v, .int .i64 q] w (RetDE d e w) := by
  have := New_any W q v w hW
  rwa [h] at this
theorem DrV.form3' {w : World} {v : Value} {d : Dr} (h : DrV w v d) (hW : d.W.length = 3) (hD : d.D.length = 3) : ∃ A c A' c', v = .agg #[.slice A 3 c, .int .i64 d.q, .slice A' 3 c', .int .i64 d.t] := by
  obtain ⟨vW, vD, rfl, h1, h2⟩ := h
  obtain ⟨A, c, rfl, _⟩ := h1
  obtain ⟨A', c', rfl, _⟩ := h2
  rw [hW, hD]
  exact ⟨_, _, _, _, rfl⟩
/-- what made knows of its cells -/
structure MdK (w : World) (g8 g10 : Nat) (A B : Option Addr) (c e : Nat) (d : Dr) (wx : World) : Prop where
  b8 : Blk wx g8 24 #[.slice none 0 0, .int .i64 0, .slice none 0 0, .int .i64 0]
  b10 : Blk wx g10 24 #[.slice A 3 c, .int .i64 d.q, .slice B 3 e, .int .i64 d.t]
  v : DrV wx (.agg #[.slice A 3 c, .int .i64 d.q, .slice B 3 e, .int .i64 d.t]) d
  hB : Below w.heap.size w wx
theorem MdK.drew {w wx : World} {g8 g10 : Nat} {A B : Option Addr} {c e : Nat} {d : Dr} (h : MdK w g8 g10 A B c e d wx) : MdK w g8 g10 A B c e d wx.drew := ⟨h.b8.drew, h.b10.drew, h.v.drew, h.hB.drew⟩
theorem MdK.below {w wx wy : World} {g8 g10 : Nat} {A B : Option Addr} {c e : Nat} {d : Dr} (h : MdK w g8 g10 A B c e d wx) (hb : Below wx.heap.size wx wy) : MdK w g8 g10 A B c e d wy := ⟨h.b8.below hb, h.b10.below hb, h.v.below hb, bnext h.hB hb⟩

set_option maxRecDepth 100000 in
set_option maxHeartbeats 4000000 in
theorem made_any (a b c q : Int) (w : World) : Calls Try.prog 31 #[.int .i64 a, .int .i64 b, .int .i64 c, .int .i64 q] w (RetMd w) := by
  obtain ⟨x, hx⟩ : ∃ m, a % 100 = m := ⟨_, rfl⟩
  obtain ⟨y, hy⟩ : ∃ m, b % 100 = m := ⟨_, rfl⟩
  obtain ⟨z, hz⟩ : ∃ m, c % 100 = m := ⟨_, rfl⟩
  obtain ⟨u, hu⟩ : ∃ m, q % 300 = m := ⟨_, rfl⟩
  have hx0 : 0 ≤ x ∧ x < 100 := by omega
  have hy0 : 0 ≤ y ∧ y < 100 := by omega
  have hz0 : 0 ≤ z ∧ z < 100 := by omega
  have hu0 : 0 ≤ u ∧ u < 300 := by omega
  have HX := Lib.hid hx
  have HY := Lib.hid hy
  have HZ := Lib.hid hz
  have HU := Lib.hid hu
  have hw : wgE [1 + x, 1 + y, 1 + z] (1 + u) = 0 := by
    have e1 : ([1 + x, 1 + y, 1 + z] : List Int).any wbad = false := by
      simp [wbad]; omega
    unfold wgE
    rw [e1, if_neg (by decide), if_neg (by omega)]
  have HN : Hid (newD [1 + x, 1 + y, 1 + z] (1 + u) = (⟨[1 + x, 1 + y, 1 + z], 1 + u, [0, 0, (1 + z) * (1 + u)], 2⟩, 0)) := Lib.hid (newD_ok rfl hw)
  obtain ⟨d, hd⟩ : ∃ d : Dr, d = ⟨[1 + x, 1 + y, 1 + z], 1 + u, [0, 0, (1 + z) * (1 + u)], 2⟩ := ⟨_, rfl⟩
  have HD := Lib.hid hd
  have dw : d.W.length = 3 := by rw [hd]; rfl
  have dd : d.D.length = 3 := by rw [hd]; rfl
  rw [← hd] at HN
  have hmul : 0 ≤ (1 + z) * (1 + u) ∧ (1 + z) * (1 + u) ≤ 1099511627776 := by
    have h1 := Int.mul_nonneg (show 0 ≤ 1 + z by omega) (show 0 ≤ 1 + u by omega)
    have h2 := Int.mul_le_mul (show 1 + z ≤ 100 by omega) (show 1 + u ≤ 300 by omega) (by omega) (by omega)
    omega
  have hok : Ok d := by
    rw [hd]
    refine ⟨rfl, rfl, ?_, by show 1 ≤ 1 + u; omega, by show 1 + u ≤ 1200; omega, ?_, (show (0 : Int) ≤ 2 by decide), (show (2 : Int) < 3 by decide)⟩
    · intro k hk; simp at hk; omega
    · intro k hk; simp only [List.mem_cons, List.not_mem_nil, or_false] at hk; rcases hk with rfl | rfl | rfl <;> first | decide | exact hmul
  have h03 : dr03 d := ⟨.inr dw, .inr dd⟩
  clear hmul
  have xw : IntKind.i64.wrap (1 + x) = 1 + x := IntWalk.i64_in _ (by omega)
  have yw : IntKind.i64.wrap (1 + y) = 1 + y := IntWalk.i64_in _ (by omega)
  have zw : IntKind.i64.wrap (1 + z) = 1 + z := IntWalk.i64_in _ (by omega)
  have uw : IntKind.i64.wrap (1 + u) = 1 + u := IntWalk.i64_in _ (by omega)
  clear hx hy hz hu hd hw
  go_enter Try.func31, Try.ntmps31
  go_wp2_with fail
  refine (Mod_any _ _ _ (by decide) (by decide)).mono ?_
  rintro e w1 ⟨rfl, rfl⟩
  rw [HX.out]
  go_wp2_with fail
  refine (Mod_any _ _ _ (by decide) (by decide)).mono ?_
  rintro e w1 ⟨rfl, rfl⟩
  rw [HY.out]
  go_wp2_with fail
  refine (Mod_any _ _ _ (by decide) (by decide)).mono ?_
  rintro e w1 ⟨rfl, rfl⟩
  rw [HZ.out]
  go_wp2_with fail
  refine (Mod_any _ _ _ (by decide) (by decide)).mono ?_
  rintro e w1 ⟨rfl, rfl⟩
  rw [HU.out]
  go_wp2_with fail
  refine (New_any' HN.out _ _ (lit_at (t := 3) (L := [1 + x, 1 + y, 1 + z]) (Blk.new1 _ _ _ _) 3 rfl (by decide))).mono ?_
  rintro e w1 ⟨v1, rfl, hv1, hb1⟩
  obtain ⟨A1, c1, B1, e1, rfl⟩ := hv1.form3' dw dd
  have hlt1 : w.heap.size < w1.heap.size := by have := hb1.size; simp at this; omega
  have hB1 : Below w.heap.size w w1 := bnext (bal (bal (Below.refl _ _) _) _) hb1
  have k8 := ((Blk.new w 24 #[.slice none 0 0, .int .i64 0, .slice none 0 0, .int .i64 0]).alloc (.cells #[.int .i64 (1 + x), .int .i64 (1 + y), .int .i64 (1 + z)] 3)).below hb1
  have kk : MdK w w.heap.size w1.heap.size A1 B1 c1 e1 d (w1.alloc (.cells #[.slice A1 3 c1, .int .i64 d.q, .slice B1 3 e1, .int .i64 d.t] 24)) := ⟨k8.alloc _, Blk.new _ _ _, hv1.alloc _, bal hB1 _⟩
  have K := Lib.hid kk
  clear kk k8 hv1 hb1
  go_upto_region 2 with fail
  obtain ⟨g8, hg8⟩ : ∃ g, g = w.heap.size := ⟨_, rfl⟩
  obtain ⟨g10, hg10⟩ : ∃ g, g = w1.heap.size := ⟨_, rfl⟩
  have hw8 : w.heap.size ≤ g8 := by omega
  rw [← hg8, ← hg10] at K ⊢
  generalize w1.alloc (.cells #[.slice A1 3 c1, .int .i64 d.q, .slice B1 3 e1, .int .i64 d.t] 24) = wo at K ⊢
  have nn : ¬ g10 = g8 := by have hz1 := hlt1; omega
  have nn2 : ¬ g8 = g10 := by omega
  clear hg8 hg10 hB1
  obtain ⟨z0, z1, z2, z3⟩ := K.out.b8.c4
  obtain ⟨f0, f1, f2, f3⟩ := K.out.b8.f4
  obtain ⟨z4, z5, z6, z7⟩ := K.out.b10.c4
  have CK : Hid (∀ (v : Value) (w : World), DrV w v d → Calls Try.prog 15 #[v] w (RetI 0 w)) := Lib.hid (fun v w hD => by have := Check_any d v w hD; rwa [chk_ok hok] at this)
  go_region_held3 (fun w' => w'.cell? ⟨g10, 0, none⟩ = some (.slice A1 3 c1) ∧ w'.cell? ⟨g10, 1, none⟩ = some (.int .i64 d.q) ∧ w'.cell? ⟨g10, 2, none⟩ = some (.slice B1 3 e1) ∧ w'.cell? ⟨g10, 3, none⟩ = some (.int .i64 d.t)) (go_keep)
    (first
      | (go_at_call 15; refine (CK.out _ _ ?_).mono ?_; (focus (exact K.out.v.drew)); rintro e wn ⟨rfl, hbn⟩; have K' := (MdK.drew K.out).below hbn; clear K z0 z1 z2 z3 z4 z5 z6 z7 f0 f1 f2 f3; have K := Lib.hid K'; obtain ⟨z0, z1, z2, z3⟩ := K'.b8.c4; obtain ⟨f0, f1, f2, f3⟩ := K'.b8.f4; obtain ⟨z4, z5, z6, z7⟩ := K'.b10.c4; clear K'))
  all_goals
    go_wp2_with fail
    have PB := put4_blk (a := .slice A1 3 c1) (b := .int .i64 d.q) (c := .slice B1 3 e1) (d := .int .i64 d.t) K.out.b8
    obtain ⟨y0, y1, y2, y3⟩ := PB.c4
    unfold put4 at y0 y1 y2 y3
    refine bodyPost_ret (v := .tuple #[.agg #[.slice A1 3 c1, .int .i64 d.q, .slice B1 3 e1, .int .i64 d.t], .bool true]) (by simp [results, Try.results31, go_sem, y0, y1, y2, y3]) rfl ?_
    refine ⟨_, d, rfl, hok, ?_, ?_, ?_, K.out.v.far h03 K.out.b8 (put4_only _ g8 _ _ _ _), ?_⟩
    · rw [HD.out]; show 1 + u ≤ 300; omega
    · rw [HD.out]; rfl
    · rw [HD.out]
    · exact bset (bset (bset (bset K.out.hB hw8 _) hw8 _) hw8 _) hw8 _
end Go.Proofs.Ythkfdfkjenhjmaa
