/- Contracts: giving bytes back. -/
import Derived.Test.YthkfdfkjenhjmaaH2
namespace Go.Proofs.Ythkfdfkjenhjmaa
open Go.RowKit
set_option linter.unusedVariables false
set_option linter.unusedSimpArgs false

/-- the state after bytes were given back, or the error -/
def bck (d : Dr) (p s : Int) : Dr × Int := if chk d ≠ 0 then (zDr, chk d) else if p < 0 ∨ 3 ≤ p ∨ s < 1 ∨ 1200 < s ∨ 1099511627776 < at0 d.D p.toNat + s then (zDr, 2) else (⟨d.W, d.q, d.D.set p.toNat (at0 d.D p.toNat + s), d.t⟩, 0)
theorem bck_bad {d : Dr} {p s : Int} (h : chk d = 0) (hb : p < 0 ∨ 3 ≤ p ∨ s < 1 ∨ 1200 < s ∨ 1099511627776 < at0 d.D p.toNat + s) : bck d p s = (zDr, 2) := by
  unfold bck; rw [if_neg (by omega), if_pos hb]
theorem bck_ok {d : Dr} {k : Nat} {s : Int} (h : chk d = 0) (hk : k < 3) (h3 : ¬ s < 1) (h4 : ¬ 1200 < s) (h5 : ¬ 1099511627776 < at0 d.D k + s) : bck d k s = (⟨d.W, d.q, d.D.set k (at0 d.D k + s), d.t⟩, 0) := by
  unfold bck
  rw [if_neg (by omega), if_neg]
  · simp
  · rintro (a | a | a | a | a)
    · omega
    · omega
    · exact h3 a
    · exact h4 a
    · simp at a; exact h5 a

set_option maxRecDepth 100000 in
set_option maxHeartbeats 8000000 in
theorem Back_any (d : Dr) (p s : Int) (v : Value) (w : World) (hD : DrV w v d) :
    Calls Try.prog 22 #[v, .int .i64 p, .int .i64 s] w (RetDE (bck d p s).1 (bck d p s).2 w) := by
  obtain ⟨W, q, D, t⟩ := d
  obtain ⟨vW, vD, rfl, hW, hDD⟩ := id hD
  obtain ⟨A, c, rfl, _⟩ := id hW
  obtain ⟨A', c', rfl, _, hc2', _⟩ := id hDD
  unfold maxLen at hc2'
  have HD := Lib.hid hD
  have HDD := Lib.hid hDD
  clear hW hDD hD
  dsimp only at HD
  by_cases hk : chk ⟨W, q, D, t⟩ = 0
  · have t1 : (chk ⟨W, q, D, t⟩ != 0) = false := by rw [hk]; rfl
    have ho := ok_of hk
    have hlW : W.length = 3 := ho.w3
    have hlD : D.length = 3 := ho.d3
    have HL : Hid (lt20 ⟨W, q, D, t⟩) := Lib.hid ⟨by show W.length ≤ 100000; omega, by show D.length ≤ 100000; omega⟩
    have HK := Lib.hid hk
    have HO := Lib.hid ho
    have HLW := Lib.hid hlW
    have HLD := Lib.hid hlD
    clear hk ho hlW hlD
    by_cases h1 : p < 0
    · have HE : Hid (bck ⟨W, q, D, t⟩ p s = (zDr, 2)) := Lib.hid (bck_bad HK.out (.inl h1))
      go_enter Try.func22, Try.ntmps22
      go_wp2_with fail
      refine (Check_any ⟨W, q, D, t⟩ _ _ ((HD.out.alloc _).alloc _)).mono ?_
      rintro e w1 ⟨rfl, hb1⟩
      have b1 := Lib.hid (((Blk.new w 24 #[.slice A W.length c, .int .i64 q, .slice A' D.length c', .int .i64 t]).alloc (.cells #[.slice none 0 0, .int .i64 0, .slice none 0 0, .int .i64 0] 24)).below hb1)
      have r1 := Lib.hid ((Blk.new1 w (.cells #[.slice A W.length c, .int .i64 q, .slice A' D.length c', .int .i64 t] 24) 24 #[.slice none 0 0, .int .i64 0, .slice none 0 0, .int .i64 0]).below hb1)
      have hB1 : Below w.heap.size w w1 := bnext (bal (bal (Below.refl w.heap.size w) _) _) hb1
      have hlx1 := b1.out.lt
      have hlr1 := r1.out.lt
      clear hb1
      obtain ⟨x0, x1, x2, x3⟩ := b1.out.c4
      obtain ⟨f0, f1, f2, f3⟩ := b1.out.f4
      obtain ⟨y0, y1, y2, y3⟩ := r1.out.c4
      obtain ⟨g0, g1, g2, g3⟩ := r1.out.f4
      go_wp2_with fail
      refine bodyPost_ret (v := .tuple #[.agg #[.slice none 0 0, .int .i64 0, .slice none 0 0, .int .i64 0], .int .i64 2]) (by simp [results, Try.results22, go_sem, y0, y1, y2, y3]) rfl ?_
      rw [HE.out]
      exact ⟨_, rfl, zDr_v _, (by repeat (first | with_reducible exact Below.refl _ _ | with_reducible refine Below.drew ?_ | with_reducible refine below_drewN ?_ _ | with_reducible refine bal ?_ _ | with_reducible refine bset ?_ (by first | (simp; done) | (simp; omega)) _ | with_reducible refine bnext ?_ (by assumption) | with_reducible assumption))⟩
    by_cases h2 : 3 ≤ p
    · have HE : Hid (bck ⟨W, q, D, t⟩ p s = (zDr, 2)) := Lib.hid (bck_bad HK.out (.inr (.inl (by omega))))
      go_enter Try.func22, Try.ntmps22
      go_wp2_with fail
      refine (Check_any ⟨W, q, D, t⟩ _ _ ((HD.out.alloc _).alloc _)).mono ?_
      rintro e w1 ⟨rfl, hb1⟩
      have b1 := Lib.hid (((Blk.new w 24 #[.slice A W.length c, .int .i64 q, .slice A' D.length c', .int .i64 t]).alloc (.cells #[.slice none 0 0, .int .i64 0, .slice none 0 0, .int .i64 0] 24)).below hb1)
      have r1 := Lib.hid ((Blk.new1 w (.cells #[.slice A W.length c, .int .i64 q, .slice A' D.length c', .int .i64 t] 24) 24 #[.slice none 0 0, .int .i64 0, .slice none 0 0, .int .i64 0]).below hb1)
      have hB1 : Below w.heap.size w w1 := bnext (bal (bal (Below.refl w.heap.size w) _) _) hb1
      have hlx1 := b1.out.lt
      have hlr1 := r1.out.lt
      clear hb1
      obtain ⟨x0, x1, x2, x3⟩ := b1.out.c4
      obtain ⟨f0, f1, f2, f3⟩ := b1.out.f4
      obtain ⟨y0, y1, y2, y3⟩ := r1.out.c4
      obtain ⟨g0, g1, g2, g3⟩ := r1.out.f4
      go_wp2_with fail
      refine bodyPost_ret (v := .tuple #[.agg #[.slice none 0 0, .int .i64 0, .slice none 0 0, .int .i64 0], .int .i64 2]) (by simp [results, Try.results22, go_sem, y0, y1, y2, y3]) rfl ?_
      rw [HE.out]
      exact ⟨_, rfl, zDr_v _, (by repeat (first | with_reducible exact Below.refl _ _ | with_reducible refine Below.drew ?_ | with_reducible refine below_drewN ?_ _ | with_reducible refine bal ?_ _ | with_reducible refine bset ?_ (by first | (simp; done) | (simp; omega)) _ | with_reducible refine bnext ?_ (by assumption) | with_reducible assumption))⟩
    by_cases h3 : s < 1
    · have HE : Hid (bck ⟨W, q, D, t⟩ p s = (zDr, 2)) := Lib.hid (bck_bad HK.out (.inr (.inr (.inl h3))))
      go_enter Try.func22, Try.ntmps22
      go_wp2_with fail
      refine (Check_any ⟨W, q, D, t⟩ _ _ ((HD.out.alloc _).alloc _)).mono ?_
      rintro e w1 ⟨rfl, hb1⟩
      have b1 := Lib.hid (((Blk.new w 24 #[.slice A W.length c, .int .i64 q, .slice A' D.length c', .int .i64 t]).alloc (.cells #[.slice none 0 0, .int .i64 0, .slice none 0 0, .int .i64 0] 24)).below hb1)
      have r1 := Lib.hid ((Blk.new1 w (.cells #[.slice A W.length c, .int .i64 q, .slice A' D.length c', .int .i64 t] 24) 24 #[.slice none 0 0, .int .i64 0, .slice none 0 0, .int .i64 0]).below hb1)
      have hB1 : Below w.heap.size w w1 := bnext (bal (bal (Below.refl w.heap.size w) _) _) hb1
      have hlx1 := b1.out.lt
      have hlr1 := r1.out.lt
      clear hb1
      obtain ⟨x0, x1, x2, x3⟩ := b1.out.c4
      obtain ⟨f0, f1, f2, f3⟩ := b1.out.f4
      obtain ⟨y0, y1, y2, y3⟩ := r1.out.c4
      obtain ⟨g0, g1, g2, g3⟩ := r1.out.f4
      go_wp2_with fail
      refine bodyPost_ret (v := .tuple #[.agg #[.slice none 0 0, .int .i64 0, .slice none 0 0, .int .i64 0], .int .i64 2]) (by simp [results, Try.results22, go_sem, y0, y1, y2, y3]) rfl ?_
      rw [HE.out]
      exact ⟨_, rfl, zDr_v _, (by repeat (first | with_reducible exact Below.refl _ _ | with_reducible refine Below.drew ?_ | with_reducible refine below_drewN ?_ _ | with_reducible refine bal ?_ _ | with_reducible refine bset ?_ (by first | (simp; done) | (simp; omega)) _ | with_reducible refine bnext ?_ (by assumption) | with_reducible assumption))⟩
    by_cases h4 : 1200 < s
    · have HE : Hid (bck ⟨W, q, D, t⟩ p s = (zDr, 2)) := Lib.hid (bck_bad HK.out (.inr (.inr (.inr (.inl h4)))))
      go_enter Try.func22, Try.ntmps22
      go_wp2_with fail
      refine (Check_any ⟨W, q, D, t⟩ _ _ ((HD.out.alloc _).alloc _)).mono ?_
      rintro e w1 ⟨rfl, hb1⟩
      have b1 := Lib.hid (((Blk.new w 24 #[.slice A W.length c, .int .i64 q, .slice A' D.length c', .int .i64 t]).alloc (.cells #[.slice none 0 0, .int .i64 0, .slice none 0 0, .int .i64 0] 24)).below hb1)
      have r1 := Lib.hid ((Blk.new1 w (.cells #[.slice A W.length c, .int .i64 q, .slice A' D.length c', .int .i64 t] 24) 24 #[.slice none 0 0, .int .i64 0, .slice none 0 0, .int .i64 0]).below hb1)
      have hB1 : Below w.heap.size w w1 := bnext (bal (bal (Below.refl w.heap.size w) _) _) hb1
      have hlx1 := b1.out.lt
      have hlr1 := r1.out.lt
      clear hb1
      obtain ⟨x0, x1, x2, x3⟩ := b1.out.c4
      obtain ⟨f0, f1, f2, f3⟩ := b1.out.f4
      obtain ⟨y0, y1, y2, y3⟩ := r1.out.c4
      obtain ⟨g0, g1, g2, g3⟩ := r1.out.f4
      go_wp2_with fail
      refine bodyPost_ret (v := .tuple #[.agg #[.slice none 0 0, .int .i64 0, .slice none 0 0, .int .i64 0], .int .i64 2]) (by simp [results, Try.results22, go_sem, y0, y1, y2, y3]) rfl ?_
      rw [HE.out]
      exact ⟨_, rfl, zDr_v _, (by repeat (first | with_reducible exact Below.refl _ _ | with_reducible refine Below.drew ?_ | with_reducible refine below_drewN ?_ _ | with_reducible refine bal ?_ _ | with_reducible refine bset ?_ (by first | (simp; done) | (simp; omega)) _ | with_reducible refine bnext ?_ (by assumption) | with_reducible assumption))⟩
    obtain ⟨k, rfl⟩ : ∃ k : Nat, p = k := ⟨p.toNat, by omega⟩
    have hk3 : k < 3 := by omega
    have hkD : (k : Int) < D.length := by rw [HLD.out]; omega
    have hkDn : k < D.length := by rw [HLD.out]; omega
    obtain ⟨A2, c2', e2, _, _, hR⟩ := HDD.out
    cases e2
    obtain ⟨b, o, rfl, hb, d0⟩ := reads_at hR (ints_get (at0_get hkDn))
    have bD : 0 ≤ at0 D k ∧ at0 D k ≤ 1099511627776 := HO.out.dd _ (at0_mem hkDn)
    have WA : IntKind.i64.wrap (at0 D k + s) = at0 D k + s := IntWalk.i64_in _ (by omega)
    clear hR
    by_cases h5 : 1099511627776 < at0 D k + s
    · have HE : Hid (bck ⟨W, q, D, t⟩ k s = (zDr, 2)) := Lib.hid (bck_bad HK.out (.inr (.inr (.inr (.inr (by simpa [at0] using h5))))))
      go_enter Try.func22, Try.ntmps22
      go_wp2_with fail
      refine (Check_any ⟨W, q, D, t⟩ _ _ ((HD.out.alloc _).alloc _)).mono ?_
      rintro e w1 ⟨rfl, hb1⟩
      have b1 := Lib.hid (((Blk.new w 24 #[.slice A W.length c, .int .i64 q, .slice (some ⟨b, o, none⟩) D.length c', .int .i64 t]).alloc (.cells #[.slice none 0 0, .int .i64 0, .slice none 0 0, .int .i64 0] 24)).below hb1)
      have r1 := Lib.hid ((Blk.new1 w (.cells #[.slice A W.length c, .int .i64 q, .slice (some ⟨b, o, none⟩) D.length c', .int .i64 t] 24) 24 #[.slice none 0 0, .int .i64 0, .slice none 0 0, .int .i64 0]).below hb1)
      have hB1 : Below w.heap.size w w1 := bnext (bal (bal (Below.refl w.heap.size w) _) _) hb1
      have hlx1 := b1.out.lt
      have hlr1 := r1.out.lt
      clear hb1
      obtain ⟨x0, x1, x2, x3⟩ := b1.out.c4
      obtain ⟨f0, f1, f2, f3⟩ := b1.out.f4
      obtain ⟨y0, y1, y2, y3⟩ := r1.out.c4
      obtain ⟨g0, g1, g2, g3⟩ := r1.out.f4
      have d1 := (hB1.cell (p := ⟨b, o + k, none⟩) hb).trans d0
      go_wp2_with fail
      refine bodyPost_ret (v := .tuple #[.agg #[.slice none 0 0, .int .i64 0, .slice none 0 0, .int .i64 0], .int .i64 2]) (by simp [results, Try.results22, go_sem, y0, y1, y2, y3]) rfl ?_
      rw [HE.out]
      exact ⟨_, rfl, zDr_v _, (by repeat (first | with_reducible exact Below.refl _ _ | with_reducible refine Below.drew ?_ | with_reducible refine below_drewN ?_ _ | with_reducible refine bal ?_ _ | with_reducible refine bset ?_ (by first | (simp; done) | (simp; omega)) _ | with_reducible refine bnext ?_ (by assumption) | with_reducible assumption))⟩
    · have HE : Hid (bck ⟨W, q, D, t⟩ k s = (⟨W, q, D.set k (at0 D k + s), t⟩, 0)) := Lib.hid (bck_ok HK.out hk3 h3 h4 h5)
      go_enter Try.func22, Try.ntmps22
      go_wp2_with fail
      refine (Check_any ⟨W, q, D, t⟩ _ _ ((HD.out.alloc _).alloc _)).mono ?_
      rintro e w1 ⟨rfl, hb1⟩
      have b1 := Lib.hid (((Blk.new w 24 #[.slice A W.length c, .int .i64 q, .slice (some ⟨b, o, none⟩) D.length c', .int .i64 t]).alloc (.cells #[.slice none 0 0, .int .i64 0, .slice none 0 0, .int .i64 0] 24)).below hb1)
      have r1 := Lib.hid ((Blk.new1 w (.cells #[.slice A W.length c, .int .i64 q, .slice (some ⟨b, o, none⟩) D.length c', .int .i64 t] 24) 24 #[.slice none 0 0, .int .i64 0, .slice none 0 0, .int .i64 0]).below hb1)
      have hB1 : Below w.heap.size w w1 := bnext (bal (bal (Below.refl w.heap.size w) _) _) hb1
      have hlx1 := b1.out.lt
      have hlr1 := r1.out.lt
      clear hb1
      obtain ⟨x0, x1, x2, x3⟩ := b1.out.c4
      obtain ⟨f0, f1, f2, f3⟩ := b1.out.f4
      obtain ⟨y0, y1, y2, y3⟩ := r1.out.c4
      obtain ⟨g0, g1, g2, g3⟩ := r1.out.f4
      have d1 := (hB1.cell (p := ⟨b, o + k, none⟩) hb).trans d0
      go_wp2_with fail
      refine (clone_any ⟨W, q, D, t⟩ _ _ (HD.out.below hB1) HL.out).mono ?_
      rintro e w2 ⟨B1, k1, B2, k2, rfl, oW, oD, ap, hb2⟩
      dsimp only at oW oD ap ⊢
      obtain ⟨gw, rfl, rW⟩ := row3_of oW HLW.out
      obtain ⟨gd, rfl, rD⟩ := row3_of oD HLD.out
      have hn1 : gw ≠ gd := fun e => ap gw rfl (by rw [e]; rfl)
      have b2 := Lib.hid (b1.out.below hb2)
      have r2 := Lib.hid (r1.out.below hb2)
      have hB2 := bnext hB1 hb2
      have hz2 := hb2.size
      have hgw := rW.lt
      have hgd := rD.lt
      have hlx2 := b2.out.lt
      have hlr2 := r2.out.lt
      clear oW oD ap hb2 x0 x1 x2 x3 f0 f1 f2 f3 y0 y1 y2 y3 g0 g1 g2 g3 d0 d1
      rw [show W.length = 3 from HLW.out, show D.length = 3 from HLD.out]
      have eD := rD.cell k hk3
      have fD := rD.frozen k
      have RW := Lib.hid rW
      have RD := Lib.hid rD
      clear rW rD
      have hi3 : (k : Int) < 3 := by omega
      obtain ⟨x0, x1, x2, x3⟩ := b2.out.c4
      obtain ⟨f0, f1, f2, f3⟩ := b2.out.f4
      obtain ⟨y0, y1, y2, y3⟩ := r2.out.c4
      obtain ⟨g0, g1, g2, g3⟩ := r2.out.f4
      have hne1 : ¬ w2.heap.size = w.heap.size + 1 := by omega
      have hne4 : ¬ w.heap.size + 1 = w2.heap.size := by omega
      have hne5 : ¬ w.heap.size + 1 = gd := by omega
      have hne6 : ¬ gd = w.heap.size + 1 := by omega
      have hne2 : ¬ gd = w2.heap.size := by omega
      have hne3 : ¬ w2.heap.size = gd := by omega
      go_wp2_with fail
      refine bodyPost_ret (v := .tuple #[.agg #[.slice (some ⟨gw, 0, none⟩) 3 k1, .int .i64 q, .slice (some ⟨gd, 0, none⟩) 3 k2, .int .i64 t], .int .i64 0]) (by simp [results, Try.results22, go_sem, y0, y1, y2, y3, hlr2, hne1, hne4, hne5, hne6]) rfl ?_
      rw [HE.out]
      refine ⟨_, rfl, ⟨_, _, rfl, ?_, ?_⟩, (by repeat (first | with_reducible exact Below.refl _ _ | with_reducible refine Below.drew ?_ | with_reducible refine below_drewN ?_ _ | with_reducible refine bal ?_ _ | with_reducible refine bset ?_ (by first | (simp; done) | (simp; omega)) _ | with_reducible refine bnext ?_ (by assumption) | with_reducible assumption))⟩
      · refine Row3.at (B := w1.heap.size) (c := k1) ?_
        dsimp only
        repeat (first | with_reducible exact RW.out | with_reducible refine Row3.alloc ?_ _ | with_reducible refine Row3.far ?_ (by first | exact hn1 | (show gw ≠ w.heap.size + 1; omega)) _)
      · refine Row3.at (B := w1.heap.size) (c := k2) ?_
        dsimp only
        repeat (first | with_reducible exact (RD.out.alloc _).set k hk3 _ | with_reducible exact RD.out.set k hk3 _ | with_reducible refine Row3.alloc ?_ _ | with_reducible refine Row3.far ?_ (by show gd ≠ w.heap.size + 1; omega) _)
  · have t1 : (chk ⟨W, q, D, t⟩ != 0) = true := by simpa using hk
    have HE : Hid (bck ⟨W, q, D, t⟩ p s = (zDr, chk ⟨W, q, D, t⟩)) := Lib.hid (if_pos hk)
    clear hk
    go_enter Try.func22, Try.ntmps22
    go_wp2_with fail
    refine (Check_any ⟨W, q, D, t⟩ _ _ ((HD.out.alloc _).alloc _)).mono ?_
    rintro e w1 ⟨rfl, hb1⟩
    have b1 := Lib.hid (((Blk.new w 24 #[.slice A W.length c, .int .i64 q, .slice A' D.length c', .int .i64 t]).alloc (.cells #[.slice none 0 0, .int .i64 0, .slice none 0 0, .int .i64 0] 24)).below hb1)
    have r1 := Lib.hid ((Blk.new1 w (.cells #[.slice A W.length c, .int .i64 q, .slice A' D.length c', .int .i64 t] 24) 24 #[.slice none 0 0, .int .i64 0, .slice none 0 0, .int .i64 0]).below hb1)
    have hB1 : Below w.heap.size w w1 := bnext (bal (bal (Below.refl w.heap.size w) _) _) hb1
    have hlx1 := b1.out.lt
    have hlr1 := r1.out.lt
    clear hb1
    obtain ⟨x0, x1, x2, x3⟩ := b1.out.c4
    obtain ⟨f0, f1, f2, f3⟩ := b1.out.f4
    obtain ⟨y0, y1, y2, y3⟩ := r1.out.c4
    obtain ⟨g0, g1, g2, g3⟩ := r1.out.f4
    go_wp2_with fail
    refine bodyPost_ret (v := .tuple #[.agg #[.slice none 0 0, .int .i64 0, .slice none 0 0, .int .i64 0], .int .i64 (chk ⟨W, q, D, t⟩)]) (by simp [results, Try.results22, go_sem, y0, y1, y2, y3]) rfl ?_
    rw [HE.out]
    exact ⟨_, rfl, zDr_v _, (by repeat (first | with_reducible exact Below.refl _ _ | with_reducible refine Below.drew ?_ | with_reducible refine below_drewN ?_ _ | with_reducible refine bal ?_ _ | with_reducible refine bset ?_ (by first | (simp; done) | (simp; omega)) _ | with_reducible refine bnext ?_ (by assumption) | with_reducible assumption))⟩

set_option maxRecDepth 100000 in
set_option maxHeartbeats 8000000 in
theorem rBack_any (d : Dr) (p s : Int) (v : Value) (w : World) (hD : DrV w v d) :
    Calls Try.prog 23 #[v, .int .i64 p, .int .i64 s] w (RetDE (bck d p s).1 (bck d p s).2 w) := by
  obtain ⟨W, q, D, t⟩ := d
  obtain ⟨vW, vD, rfl, hW, hDD⟩ := id hD
  obtain ⟨A, c, rfl, _⟩ := id hW
  obtain ⟨A', c', rfl, _, hc2', _⟩ := id hDD
  unfold maxLen at hc2'
  have HD := Lib.hid hD
  have HDD := Lib.hid hDD
  clear hW hDD hD
  dsimp only at HD
  by_cases hk : chk ⟨W, q, D, t⟩ = 0
  · have t1 : (chk ⟨W, q, D, t⟩ != 0) = false := by rw [hk]; rfl
    have ho := ok_of hk
    have hlW : W.length = 3 := ho.w3
    have hlD : D.length = 3 := ho.d3
    have HL : Hid (lt20 ⟨W, q, D, t⟩) := Lib.hid ⟨by show W.length ≤ 100000; omega, by show D.length ≤ 100000; omega⟩
    have HK := Lib.hid hk
    have HO := Lib.hid ho
    have HLW := Lib.hid hlW
    have HLD := Lib.hid hlD
    clear hk ho hlW hlD
    by_cases h1 : p < 0
    · have HE : Hid (bck ⟨W, q, D, t⟩ p s = (zDr, 2)) := Lib.hid (bck_bad HK.out (.inl h1))
      go_enter Try.func23, Try.ntmps23
      go_wp2_with fail
      refine (rCheck_any ⟨W, q, D, t⟩ _ _ ((HD.out.alloc _).alloc _)).mono ?_
      rintro e w1 ⟨rfl, hb1⟩
      have b1 := Lib.hid (((Blk.new w 24 #[.slice A W.length c, .int .i64 q, .slice A' D.length c', .int .i64 t]).alloc (.cells #[.slice none 0 0, .int .i64 0, .slice none 0 0, .int .i64 0] 24)).below hb1)
      have r1 := Lib.hid ((Blk.new1 w (.cells #[.slice A W.length c, .int .i64 q, .slice A' D.length c', .int .i64 t] 24) 24 #[.slice none 0 0, .int .i64 0, .slice none 0 0, .int .i64 0]).below hb1)
      have hB1 : Below w.heap.size w w1 := bnext (bal (bal (Below.refl w.heap.size w) _) _) hb1
      have hlx1 := b1.out.lt
      have hlr1 := r1.out.lt
      clear hb1
      obtain ⟨x0, x1, x2, x3⟩ := b1.out.c4
      obtain ⟨f0, f1, f2, f3⟩ := b1.out.f4
      obtain ⟨y0, y1, y2, y3⟩ := r1.out.c4
      obtain ⟨g0, g1, g2, g3⟩ := r1.out.f4
      go_wp2_with fail
      refine bodyPost_ret (v := .tuple #[.agg #[.slice none 0 0, .int .i64 0, .slice none 0 0, .int .i64 0], .int .i64 2]) (by simp [results, Try.results23, go_sem, y0, y1, y2, y3]) rfl ?_
      rw [HE.out]
      exact ⟨_, rfl, zDr_v _, (by repeat (first | with_reducible exact Below.refl _ _ | with_reducible refine Below.drew ?_ | with_reducible refine below_drewN ?_ _ | with_reducible refine bal ?_ _ | with_reducible refine bset ?_ (by first | (simp; done) | (simp; omega)) _ | with_reducible refine bnext ?_ (by assumption) | with_reducible assumption))⟩
    by_cases h2 : 2 < p
    · have HE : Hid (bck ⟨W, q, D, t⟩ p s = (zDr, 2)) := Lib.hid (bck_bad HK.out (.inr (.inl (by omega))))
      go_enter Try.func23, Try.ntmps23
      go_wp2_with fail
      refine (rCheck_any ⟨W, q, D, t⟩ _ _ ((HD.out.alloc _).alloc _)).mono ?_
      rintro e w1 ⟨rfl, hb1⟩
      have b1 := Lib.hid (((Blk.new w 24 #[.slice A W.length c, .int .i64 q, .slice A' D.length c', .int .i64 t]).alloc (.cells #[.slice none 0 0, .int .i64 0, .slice none 0 0, .int .i64 0] 24)).below hb1)
      have r1 := Lib.hid ((Blk.new1 w (.cells #[.slice A W.length c, .int .i64 q, .slice A' D.length c', .int .i64 t] 24) 24 #[.slice none 0 0, .int .i64 0, .slice none 0 0, .int .i64 0]).below hb1)
      have hB1 : Below w.heap.size w w1 := bnext (bal (bal (Below.refl w.heap.size w) _) _) hb1
      have hlx1 := b1.out.lt
      have hlr1 := r1.out.lt
      clear hb1
      obtain ⟨x0, x1, x2, x3⟩ := b1.out.c4
      obtain ⟨f0, f1, f2, f3⟩ := b1.out.f4
      obtain ⟨y0, y1, y2, y3⟩ := r1.out.c4
      obtain ⟨g0, g1, g2, g3⟩ := r1.out.f4
      go_wp2_with fail
      refine bodyPost_ret (v := .tuple #[.agg #[.slice none 0 0, .int .i64 0, .slice none 0 0, .int .i64 0], .int .i64 2]) (by simp [results, Try.results23, go_sem, y0, y1, y2, y3]) rfl ?_
      rw [HE.out]
      exact ⟨_, rfl, zDr_v _, (by repeat (first | with_reducible exact Below.refl _ _ | with_reducible refine Below.drew ?_ | with_reducible refine below_drewN ?_ _ | with_reducible refine bal ?_ _ | with_reducible refine bset ?_ (by first | (simp; done) | (simp; omega)) _ | with_reducible refine bnext ?_ (by assumption) | with_reducible assumption))⟩
    by_cases h3 : s < 1
    · have HE : Hid (bck ⟨W, q, D, t⟩ p s = (zDr, 2)) := Lib.hid (bck_bad HK.out (.inr (.inr (.inl h3))))
      go_enter Try.func23, Try.ntmps23
      go_wp2_with fail
      refine (rCheck_any ⟨W, q, D, t⟩ _ _ ((HD.out.alloc _).alloc _)).mono ?_
      rintro e w1 ⟨rfl, hb1⟩
      have b1 := Lib.hid (((Blk.new w 24 #[.slice A W.length c, .int .i64 q, .slice A' D.length c', .int .i64 t]).alloc (.cells #[.slice none 0 0, .int .i64 0, .slice none 0 0, .int .i64 0] 24)).below hb1)
      have r1 := Lib.hid ((Blk.new1 w (.cells #[.slice A W.length c, .int .i64 q, .slice A' D.length c', .int .i64 t] 24) 24 #[.slice none 0 0, .int .i64 0, .slice none 0 0, .int .i64 0]).below hb1)
      have hB1 : Below w.heap.size w w1 := bnext (bal (bal (Below.refl w.heap.size w) _) _) hb1
      have hlx1 := b1.out.lt
      have hlr1 := r1.out.lt
      clear hb1
      obtain ⟨x0, x1, x2, x3⟩ := b1.out.c4
      obtain ⟨f0, f1, f2, f3⟩ := b1.out.f4
      obtain ⟨y0, y1, y2, y3⟩ := r1.out.c4
      obtain ⟨g0, g1, g2, g3⟩ := r1.out.f4
      go_wp2_with fail
      refine bodyPost_ret (v := .tuple #[.agg #[.slice none 0 0, .int .i64 0, .slice none 0 0, .int .i64 0], .int .i64 2]) (by simp [results, Try.results23, go_sem, y0, y1, y2, y3]) rfl ?_
      rw [HE.out]
      exact ⟨_, rfl, zDr_v _, (by repeat (first | with_reducible exact Below.refl _ _ | with_reducible refine Below.drew ?_ | with_reducible refine below_drewN ?_ _ | with_reducible refine bal ?_ _ | with_reducible refine bset ?_ (by first | (simp; done) | (simp; omega)) _ | with_reducible refine bnext ?_ (by assumption) | with_reducible assumption))⟩
    by_cases h4 : 1200 < s
    · have HE : Hid (bck ⟨W, q, D, t⟩ p s = (zDr, 2)) := Lib.hid (bck_bad HK.out (.inr (.inr (.inr (.inl h4)))))
      go_enter Try.func23, Try.ntmps23
      go_wp2_with fail
      refine (rCheck_any ⟨W, q, D, t⟩ _ _ ((HD.out.alloc _).alloc _)).mono ?_
      rintro e w1 ⟨rfl, hb1⟩
      have b1 := Lib.hid (((Blk.new w 24 #[.slice A W.length c, .int .i64 q, .slice A' D.length c', .int .i64 t]).alloc (.cells #[.slice none 0 0, .int .i64 0, .slice none 0 0, .int .i64 0] 24)).below hb1)
      have r1 := Lib.hid ((Blk.new1 w (.cells #[.slice A W.length c, .int .i64 q, .slice A' D.length c', .int .i64 t] 24) 24 #[.slice none 0 0, .int .i64 0, .slice none 0 0, .int .i64 0]).below hb1)
      have hB1 : Below w.heap.size w w1 := bnext (bal (bal (Below.refl w.heap.size w) _) _) hb1
      have hlx1 := b1.out.lt
      have hlr1 := r1.out.lt
      clear hb1
      obtain ⟨x0, x1, x2, x3⟩ := b1.out.c4
      obtain ⟨f0, f1, f2, f3⟩ := b1.out.f4
      obtain ⟨y0, y1, y2, y3⟩ := r1.out.c4
      obtain ⟨g0, g1, g2, g3⟩ := r1.out.f4
      go_wp2_with fail
      refine bodyPost_ret (v := .tuple #[.agg #[.slice none 0 0, .int .i64 0, .slice none 0 0, .int .i64 0], .int .i64 2]) (by simp [results, Try.results23, go_sem, y0, y1, y2, y3]) rfl ?_
      rw [HE.out]
      exact ⟨_, rfl, zDr_v _, (by repeat (first | with_reducible exact Below.refl _ _ | with_reducible refine Below.drew ?_ | with_reducible refine below_drewN ?_ _ | with_reducible refine bal ?_ _ | with_reducible refine bset ?_ (by first | (simp; done) | (simp; omega)) _ | with_reducible refine bnext ?_ (by assumption) | with_reducible assumption))⟩
    obtain ⟨k, rfl⟩ : ∃ k : Nat, p = k := ⟨p.toNat, by omega⟩
    have hk3 : k < 3 := by omega
    have hkD : (k : Int) < D.length := by rw [HLD.out]; omega
    have hkDn : k < D.length := by rw [HLD.out]; omega
    obtain ⟨A2, c2', e2, _, _, hR⟩ := HDD.out
    cases e2
    obtain ⟨b, o, rfl, hb, d0⟩ := reads_at hR (ints_get (at0_get hkDn))
    have bD : 0 ≤ at0 D k ∧ at0 D k ≤ 1099511627776 := HO.out.dd _ (at0_mem hkDn)
    have WA : IntKind.i64.wrap (at0 D k + s) = at0 D k + s := IntWalk.i64_in _ (by omega)
    clear hR
    by_cases h5 : 1099511627776 < at0 D k + s
    · have HE : Hid (bck ⟨W, q, D, t⟩ k s = (zDr, 2)) := Lib.hid (bck_bad HK.out (.inr (.inr (.inr (.inr (by simpa [at0] using h5))))))
      go_enter Try.func23, Try.ntmps23
      go_wp2_with fail
      refine (rCheck_any ⟨W, q, D, t⟩ _ _ ((HD.out.alloc _).alloc _)).mono ?_
      rintro e w1 ⟨rfl, hb1⟩
      have b1 := Lib.hid (((Blk.new w 24 #[.slice A W.length c, .int .i64 q, .slice (some ⟨b, o, none⟩) D.length c', .int .i64 t]).alloc (.cells #[.slice none 0 0, .int .i64 0, .slice none 0 0, .int .i64 0] 24)).below hb1)
      have r1 := Lib.hid ((Blk.new1 w (.cells #[.slice A W.length c, .int .i64 q, .slice (some ⟨b, o, none⟩) D.length c', .int .i64 t] 24) 24 #[.slice none 0 0, .int .i64 0, .slice none 0 0, .int .i64 0]).below hb1)
      have hB1 : Below w.heap.size w w1 := bnext (bal (bal (Below.refl w.heap.size w) _) _) hb1
      have hlx1 := b1.out.lt
      have hlr1 := r1.out.lt
      clear hb1
      obtain ⟨x0, x1, x2, x3⟩ := b1.out.c4
      obtain ⟨f0, f1, f2, f3⟩ := b1.out.f4
      obtain ⟨y0, y1, y2, y3⟩ := r1.out.c4
      obtain ⟨g0, g1, g2, g3⟩ := r1.out.f4
      have d1 := (hB1.cell (p := ⟨b, o + k, none⟩) hb).trans d0
      go_wp2_with fail
      refine bodyPost_ret (v := .tuple #[.agg #[.slice none 0 0, .int .i64 0, .slice none 0 0, .int .i64 0], .int .i64 2]) (by simp [results, Try.results23, go_sem, y0, y1, y2, y3]) rfl ?_
      rw [HE.out]
      exact ⟨_, rfl, zDr_v _, (by repeat (first | with_reducible exact Below.refl _ _ | with_reducible refine Below.drew ?_ | with_reducible refine below_drewN ?_ _ | with_reducible refine bal ?_ _ | with_reducible refine bset ?_ (by first | (simp; done) | (simp; omega)) _ | with_reducible refine bnext ?_ (by assumption) | with_reducible assumption))⟩
    · have HE : Hid (bck ⟨W, q, D, t⟩ k s = (⟨W, q, D.set k (at0 D k + s), t⟩, 0)) := Lib.hid (bck_ok HK.out hk3 h3 h4 h5)
      go_enter Try.func23, Try.ntmps23
      go_wp2_with fail
      refine (rCheck_any ⟨W, q, D, t⟩ _ _ ((HD.out.alloc _).alloc _)).mono ?_
      rintro e w1 ⟨rfl, hb1⟩
      have b1 := Lib.hid (((Blk.new w 24 #[.slice A W.length c, .int .i64 q, .slice (some ⟨b, o, none⟩) D.length c', .int .i64 t]).alloc (.cells #[.slice none 0 0, .int .i64 0, .slice none 0 0, .int .i64 0] 24)).below hb1)
      have r1 := Lib.hid ((Blk.new1 w (.cells #[.slice A W.length c, .int .i64 q, .slice (some ⟨b, o, none⟩) D.length c', .int .i64 t] 24) 24 #[.slice none 0 0, .int .i64 0, .slice none 0 0, .int .i64 0]).below hb1)
      have hB1 : Below w.heap.size w w1 := bnext (bal (bal (Below.refl w.heap.size w) _) _) hb1
      have hlx1 := b1.out.lt
      have hlr1 := r1.out.lt
      clear hb1
      obtain ⟨x0, x1, x2, x3⟩ := b1.out.c4
      obtain ⟨f0, f1, f2, f3⟩ := b1.out.f4
      obtain ⟨y0, y1, y2, y3⟩ := r1.out.c4
      obtain ⟨g0, g1, g2, g3⟩ := r1.out.f4
      have d1 := (hB1.cell (p := ⟨b, o + k, none⟩) hb).trans d0
      go_wp2_with fail
      refine (rcopied_any ⟨W, q, D, t⟩ _ _ (HD.out.below hB1) HL.out).mono ?_
      rintro e w2 ⟨B1, k1, B2, k2, rfl, oW, oD, ap, hb2⟩
      dsimp only at oW oD ap ⊢
      obtain ⟨gw, rfl, rW⟩ := row3_of oW HLW.out
      obtain ⟨gd, rfl, rD⟩ := row3_of oD HLD.out
      have hn1 : gw ≠ gd := fun e => ap gw rfl (by rw [e]; rfl)
      have b2 := Lib.hid (b1.out.below hb2)
      have r2 := Lib.hid (r1.out.below hb2)
      have hB2 := bnext hB1 hb2
      have hz2 := hb2.size
      have hgw := rW.lt
      have hgd := rD.lt
      have hlx2 := b2.out.lt
      have hlr2 := r2.out.lt
      clear oW oD ap hb2 x0 x1 x2 x3 f0 f1 f2 f3 y0 y1 y2 y3 g0 g1 g2 g3 d0 d1
      rw [show W.length = 3 from HLW.out, show D.length = 3 from HLD.out]
      have eD := rD.cell k hk3
      have fD := rD.frozen k
      have RW := Lib.hid rW
      have RD := Lib.hid rD
      clear rW rD
      have hi3 : (k : Int) < 3 := by omega
      obtain ⟨x0, x1, x2, x3⟩ := b2.out.c4
      obtain ⟨f0, f1, f2, f3⟩ := b2.out.f4
      obtain ⟨y0, y1, y2, y3⟩ := r2.out.c4
      obtain ⟨g0, g1, g2, g3⟩ := r2.out.f4
      go_upto_region 7 with fail
      have b5 : Blk ((((w2.setCell ⟨w.heap.size, 0, none⟩ (.slice (some ⟨gw, 0, none⟩) 3 k1)).setCell ⟨w.heap.size, 1, none⟩ (.int .i64 q)).setCell ⟨w.heap.size, 2, none⟩ (.slice (some ⟨gd, 0, none⟩) 3 k2)).setCell ⟨w.heap.size, 3, none⟩ (.int .i64 t)) w.heap.size 24 #[.slice (some ⟨gw, 0, none⟩) 3 k1, .int .i64 q, .slice (some ⟨gd, 0, none⟩) 3 k2, .int .i64 t] := (((b2.out.set 0 _).set 1 _).set 2 _).set 3 _
      have r5 : Blk ((((w2.setCell ⟨w.heap.size, 0, none⟩ (.slice (some ⟨gw, 0, none⟩) 3 k1)).setCell ⟨w.heap.size, 1, none⟩ (.int .i64 q)).setCell ⟨w.heap.size, 2, none⟩ (.slice (some ⟨gd, 0, none⟩) 3 k2)).setCell ⟨w.heap.size, 3, none⟩ (.int .i64 t)) (w.heap.size + 1) 24 #[.slice none 0 0, .int .i64 0, .slice none 0 0, .int .i64 0] := by
        repeat (first | exact r2.out | with_reducible refine Blk.far ?_ (by show w.heap.size + 1 ≠ w.heap.size; omega) _)
      have rW5 : Row3 ((((w2.setCell ⟨w.heap.size, 0, none⟩ (.slice (some ⟨gw, 0, none⟩) 3 k1)).setCell ⟨w.heap.size, 1, none⟩ (.int .i64 q)).setCell ⟨w.heap.size, 2, none⟩ (.slice (some ⟨gd, 0, none⟩) 3 k2)).setCell ⟨w.heap.size, 3, none⟩ (.int .i64 t)) w1.heap.size gw k1 W := by
        repeat (first | exact RW.out | with_reducible refine Row3.far ?_ (by show gw ≠ w.heap.size; omega) _)
      have rD5 : Row3 ((((w2.setCell ⟨w.heap.size, 0, none⟩ (.slice (some ⟨gw, 0, none⟩) 3 k1)).setCell ⟨w.heap.size, 1, none⟩ (.int .i64 q)).setCell ⟨w.heap.size, 2, none⟩ (.slice (some ⟨gd, 0, none⟩) 3 k2)).setCell ⟨w.heap.size, 3, none⟩ (.int .i64 t)) w1.heap.size gd k2 D := by
        repeat (first | exact RD.out | with_reducible refine Row3.far ?_ (by show gd ≠ w.heap.size; omega) _)
      have hB5 : Below w.heap.size w ((((w2.setCell ⟨w.heap.size, 0, none⟩ (.slice (some ⟨gw, 0, none⟩) 3 k1)).setCell ⟨w.heap.size, 1, none⟩ (.int .i64 q)).setCell ⟨w.heap.size, 2, none⟩ (.slice (some ⟨gd, 0, none⟩) 3 k2)).setCell ⟨w.heap.size, 3, none⟩ (.int .i64 t)) := (by repeat (first | with_reducible exact Below.refl _ _ | with_reducible refine Below.drew ?_ | with_reducible refine below_drewN ?_ _ | with_reducible refine bal ?_ _ | with_reducible refine bset ?_ (by first | (simp; done) | (simp; omega)) _ | with_reducible refine bnext ?_ (by assumption) | with_reducible assumption))
      generalize ((((w2.setCell ⟨w.heap.size, 0, none⟩ (.slice (some ⟨gw, 0, none⟩) 3 k1)).setCell ⟨w.heap.size, 1, none⟩ (.int .i64 q)).setCell ⟨w.heap.size, 2, none⟩ (.slice (some ⟨gd, 0, none⟩) 3 k2)).setCell ⟨w.heap.size, 3, none⟩ (.int .i64 t)) = w5 at b5 r5 rW5 rD5 hB5 ⊢
      clear x0 x1 x2 x3 f0 f1 f2 f3 y0 y1 y2 y3 g0 g1 g2 g3 eD fD
      obtain ⟨x0, x1, x2, x3⟩ := b5.c4
      have eD := rD5.cell k hk3
      have fD := rD5.frozen k
      have RW5 := Lib.hid rW5
      have RD5 := Lib.hid rD5
      have B5 := Lib.hid b5
      have R5 := Lib.hid r5
      clear b5 r5 rW5 rD5
      go_still_tail 11, (by kernel_rfl)
      change wpList _ _ _ _ _ w5.drew
      clear x0 x1 x2 x3 eD fD
      have b6 := B5.out.drew
      have r6 := R5.out.drew
      have rW6 := RW5.out.drew
      have rD6 := RD5.out.drew
      have hB6 : Below w.heap.size w w5.drew := hB5.drew
      generalize w5.drew = w6 at b6 r6 rW6 rD6 hB6 ⊢
      obtain ⟨x0, x1, x2, x3⟩ := b6.c4
      obtain ⟨y0, y1, y2, y3⟩ := r6.c4
      obtain ⟨g0, g1, g2, g3⟩ := r6.f4
      have eD := rD6.cell k hk3
      have fD := rD6.frozen k
      have hne1 : ¬ gd = w.heap.size := by omega
      have hne2 : ¬ gd = w.heap.size + 1 := by omega
      have RW6 := Lib.hid rW6
      have RD6 := Lib.hid rD6
      clear b6 r6 rW6 rD6
      go_wp2_with fail
      refine bodyPost_ret (v := .tuple #[.agg #[.slice (some ⟨gw, 0, none⟩) 3 k1, .int .i64 q, .slice (some ⟨gd, 0, none⟩) 3 k2, .int .i64 t], .int .i64 0]) (by simp [results, Try.results23, go_sem, y0, y1, y2, y3]) rfl ?_
      rw [HE.out]
      refine ⟨_, rfl, ⟨_, _, rfl, ?_, ?_⟩, (by repeat (first | with_reducible exact Below.refl _ _ | with_reducible refine Below.drew ?_ | with_reducible refine below_drewN ?_ _ | with_reducible refine bal ?_ _ | with_reducible refine bset ?_ (by first | (simp; done) | (simp; omega)) _ | with_reducible refine bnext ?_ (by assumption) | with_reducible assumption))⟩
      · refine Row3.at (B := w1.heap.size) (c := k1) ?_
        dsimp only
        repeat (first | with_reducible exact RW6.out | with_reducible refine Row3.far ?_ (by first | exact hn1 | (show gw ≠ w.heap.size + 1; omega)) _)
      · refine Row3.at (B := w1.heap.size) (c := k2) ?_
        dsimp only
        repeat (first | with_reducible exact RD6.out.set k hk3 _ | with_reducible refine Row3.far ?_ (by show gd ≠ w.heap.size + 1; omega) _)
  · have t1 : (chk ⟨W, q, D, t⟩ != 0) = true := by simpa using hk
    have HE : Hid (bck ⟨W, q, D, t⟩ p s = (zDr, chk ⟨W, q, D, t⟩)) := Lib.hid (if_pos hk)
    clear hk
    go_enter Try.func23, Try.ntmps23
    go_wp2_with fail
    refine (rCheck_any ⟨W, q, D, t⟩ _ _ ((HD.out.alloc _).alloc _)).mono ?_
    rintro e w1 ⟨rfl, hb1⟩
    have b1 := Lib.hid (((Blk.new w 24 #[.slice A W.length c, .int .i64 q, .slice A' D.length c', .int .i64 t]).alloc (.cells #[.slice none 0 0, .int .i64 0, .slice none 0 0, .int .i64 0] 24)).below hb1)
    have r1 := Lib.hid ((Blk.new1 w (.cells #[.slice A W.length c, .int .i64 q, .slice A' D.length c', .int .i64 t] 24) 24 #[.slice none 0 0, .int .i64 0, .slice none 0 0, .int .i64 0]).below hb1)
    have hB1 : Below w.heap.size w w1 := bnext (bal (bal (Below.refl w.heap.size w) _) _) hb1
    have hlx1 := b1.out.lt
    have hlr1 := r1.out.lt
    clear hb1
    obtain ⟨x0, x1, x2, x3⟩ := b1.out.c4
    obtain ⟨f0, f1, f2, f3⟩ := b1.out.f4
    obtain ⟨y0, y1, y2, y3⟩ := r1.out.c4
    obtain ⟨g0, g1, g2, g3⟩ := r1.out.f4
    go_wp2_with fail
    refine bodyPost_ret (v := .tuple #[.agg #[.slice none 0 0, .int .i64 0, .slice none 0 0, .int .i64 0], .int .i64 (chk ⟨W, q, D, t⟩)]) (by simp [results, Try.results23, go_sem, y0, y1, y2, y3]) rfl ?_
    rw [HE.out]
    exact ⟨_, rfl, zDr_v _, (by repeat (first | with_reducible exact Below.refl _ _ | with_reducible refine Below.drew ?_ | with_reducible refine below_drewN ?_ _ | with_reducible refine bal ?_ _ | with_reducible refine bset ?_ (by first | (simp; done) | (simp; omega)) _ | with_reducible refine bnext ?_ (by assumption) | with_reducible assumption))⟩
end Go.Proofs.Ythkfdfkjenhjmaa
