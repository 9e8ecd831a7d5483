/- Contract: an offer. -/
import Derived.Test.YtdfppaafoecgmaaG
namespace Go.Proofs.Ytdfppaafoecgmaa
open Go.RowKit
set_option linter.unusedVariables false
set_option linter.unusedSimpArgs false

theorem newadd (w : World) (cs : List Value) (t : TypeId) (j : Nat) : (w.alloc (.cells cs.toArray t)).cell? ((⟨w.heap.size, 0, none⟩ : Addr).add j) = cs[j]? := by
  by_cases h : j = 0
  · subst h; rw [show ((⟨w.heap.size, 0, none⟩ : Addr).add 0) = ⟨w.heap.size, 0, none⟩ from rfl, newcell]; simp
  · rw [show ((⟨w.heap.size, 0, none⟩ : Addr).add j) = ⟨w.heap.size, j, none⟩ from by simp [Addr.add, h], newcell]; simp
/-- a block of another type is not the row's own -/
theorem blk_ne_own {w : World} {base : Nat} {e t : TypeId} {size n g : Nat} {v : Value} {xs : List Value} {cs : Array Value} (h : w.ownsRow base e size v n xs) (hk : Blk w g t cs) (hne : e ≠ t) : some g ≠ v.ownBlock := by
  rcases h.2 with ⟨rfl, _⟩ | ⟨g', cap, cur, rfl, _, hh, _⟩
  · simp [Value.ownBlock]
  · intro e'
    have : g' = g := by simpa [Value.ownBlock] using e'.symm
    subst this
    unfold Blk at hk
    rw [hk] at hh
    injection hh with hh
    injection hh with _ ht
    exact hne ht.symm
theorem flat_snoc (l : List Sl) (x : Sl) : flat (l ++ [x]) = flat l ++ [.int .u64 x.off, .int .u64 x.size, .int .i64 x.node, .int .u64 x.seq, .int .i64 x.io] := by simp [flat, Sl.cells]

set_option maxRecDepth 100000 in
set_option maxHeartbeats 4000000 in
theorem Offer_any (s : Led) (hw : Wf s) (size node seq io : Int) (hz0 : 0 ≤ size) (hz1 : size ≤ 18446744073709551615) (v : Value) (w : World) (hS : SlAt w 5 v s.sl.length (flat s.sl)) :
    Calls Try.prog 23 #[.agg #[.int .u64 s.g, .int .u64 s.n, .int .u64 s.r, v], .int .u64 size, .agg #[.int .i64 node, .int .u64 seq, .int .i64 io]] w (LedPost (offer s size node seq io) w) := by
  obtain ⟨g, n, r, l⟩ := s
  obtain ⟨A, c, rfl, hc1, hc2, _⟩ := id hS
  have HS := Lib.hid hS
  have HW := Lib.hid hw
  clear hS hw
  by_cases hk : okL ⟨g, n, r, l⟩
  · have hn : g ≤ 1125899906842624 ∧ r ≤ g ∧ n ≤ g - r := okL_nums hk
    have hlen : l.length ≤ 100 := okL_len hk
    have hg0 : 0 ≤ g := HW.out.1.1
    have hg1 : g ≤ 18446744073709551615 := HW.out.1.2
    have hn0 : 0 ≤ n := HW.out.2.1.1
    have hr0 : 0 ≤ r := HW.out.2.2.1.1
    have hsum : n + r ≤ g := by omega
    obtain ⟨u, hu⟩ : ∃ u, g - n - r = u := ⟨_, rfl⟩
    have hu0 : 0 ≤ u := by omega
    have hu2 : n + u ≤ 18446744073709551615 := by omega
    have HU := Lib.hid hu
    have HK := Lib.hid hk
    clear hk hu
    go_enter Try.func23, Try.ntmps23
    go_wp2_with fail
    refine (opened_ok ⟨g, n, r, l⟩ HW.out _ _ (((HS.out.alloc _).alloc _).alloc _) HK.out).mono ?_
    rintro e w1 ⟨A', c', rfl, hown, hb1⟩
    have hB1 : Below w.heap.size w w1 := bnext (bal (bal (bal (Below.refl _ _) _) _) _) hb1
    have kr := (Blk.new2 w (.cells #[.int .u64 g, .int .u64 n, .int .u64 r, .slice A l.length c] 26) (.cells #[.int .i64 node, .int .u64 seq, .int .i64 io] 41) 26 #[.int .u64 0, .int .u64 0, .int .u64 0, .slice none 0 0]).below hb1
    have ki := ((Blk.new1 w (.cells #[.int .u64 g, .int .u64 n, .int .u64 r, .slice A l.length c] 26) 41 #[.int .i64 node, .int .u64 seq, .int .i64 io]).alloc _).below hb1
    obtain ⟨d0, d1, d2, d3⟩ := kr.c4
    obtain ⟨f0, f1, f2, f3⟩ := kr.f4
    obtain ⟨i0, i1, i2⟩ := ki.c3
    have hlt := kr.lt
    have hlt1 := ki.lt
    have hne := Nat.ne_of_lt hlt
    have hne1 := Nat.ne_of_lt hlt1
    have HO := Lib.hid ((own_mono hown (by simp : w.heap.size + 3 ≤ _)).alloc (.cells #[.int .u64 g, .int .u64 n, .int .u64 r, .slice A' l.length c'] 58))
    have KR := Lib.hid (kr.alloc (.cells #[.int .u64 g, .int .u64 n, .int .u64 r, .slice A' l.length c'] 58))
    have KI := Lib.hid (ki.alloc (.cells #[.int .u64 g, .int .u64 n, .int .u64 r, .slice A' l.length c'] 58))
    have KL := Lib.hid (Blk.new w1 58 #[.int .u64 g, .int .u64 n, .int .u64 r, .slice A' l.length c'])
    clear hb1 kr ki hown
    by_cases c1 : size = 0
    · have t1 : (size == 0) = true := by rw [beq_iff_eq]; exact c1
      have C1 := Lib.hid c1
      clear c1
      have G : Hid (offer ⟨g, n, r, l⟩ size node seq io = (⟨0, 0, 0, []⟩, 0, 2)) := by
        show (if _ then _ else _) = _
        rw [if_neg (fun h => h HK.out), if_pos (.inl C1.out)]
      have hne1 : ¬ w.heap.size + 1 + 1 = w1.heap.size := by omega
      have hne2 : w.heap.size + 1 + 1 < w1.heap.size := by omega
      go_wp2_with fail
      refine bodyPost_ret (v := .tuple #[.agg #[.int .u64 0, .int .u64 0, .int .u64 0, .slice none 0 0], .int .u64 0, .int .i64 2]) (by simp [results, Try.results23, go_sem, d0, d1, d2, d3, hne1, hne2]) rfl ⟨.slice none 0 0, ?_, ?_, ?_⟩
      · rw [G.out]
      · rw [G.out]; exact World.ownsRow_nil _ _ _ _
      · exact (by repeat (first | with_reducible exact Below.refl _ _ | with_reducible refine Below.drew ?_ | with_reducible refine below_drewN ?_ _ | with_reducible refine bal ?_ _ | with_reducible refine bset ?_ (by first | (simp; done) | (simp; omega)) _ | with_reducible refine bnext ?_ (by assumption) | with_reducible assumption))
    · have t1 : (size == 0) = false := by rw [beq_eq_false_iff_ne]; exact c1
      by_cases c2 : IdOk node seq io
      · have ID : Hid (idE node seq io = 0) := if_pos c2
        have N1 : Hid (¬ (size = 0 ∨ ¬ IdOk node seq io)) := fun h => h.elim c1 (fun h => h c2)
        clear c1 c2
        go_wp2_with fail
        refine (CheckID_any _ _ _ _).mono ?_
        rintro e w2 ⟨rfl, hb2⟩
        rw [ID.out]
        have hB2 : Below w.heap.size w w2 := bnext (bal hB1 _) hb2
        clear d0 d1 d2 d3 f0 f1 f2 f3 i0 i1 i2
        have kr := KR.out.below hb2
        have ki := KI.out.below hb2
        have kl := KL.out.below hb2
        have HO' := own_below hb2 HO.out
        obtain ⟨d0, d1, d2, d3⟩ := kr.c4
        obtain ⟨f0, f1, f2, f3⟩ := kr.f4
        obtain ⟨i0, i1, i2⟩ := ki.c3
        obtain ⟨l0, l1, l2, l3⟩ := kl.c4
        obtain ⟨m0, m1, m2, m3⟩ := kl.f4
        have hlr := kr.lt
        have hll := kl.lt
        clear KR KI KL HO
        have KR := Lib.hid kr
        have KI := Lib.hid ki
        have KL := Lib.hid kl
        have HO := Lib.hid HO'
        clear kr ki kl HO'
        by_cases c3 : anyHas node seq io l = true
        · have hid := idx_pos c3
          have G : Hid (offer ⟨g, n, r, l⟩ size node seq io = (⟨0, 0, 0, []⟩, 0, 9)) := by
            show (if _ then _ else _) = _
            rw [if_neg (fun h => h HK.out), if_neg N1.out, if_pos c3]
          clear c3
          go_wp2_with fail
          refine (slot_any g n r _ node seq io l _ (SlAt.own HO.out)).mono ?_
          rintro e w3 ⟨rfl, hb3⟩
          have hB3 : Below w.heap.size w w3 := bnext hB2 hb3
          clear d0 d1 d2 d3 f0 f1 f2 f3 i0 i1 i2 l0 l1 l2 l3 m0 m1 m2 m3 hlr hll
          have kr := KR.out.below hb3
          have ki := KI.out.below hb3
          have kl := KL.out.below hb3
          have HO' := own_below hb3 HO.out
          obtain ⟨d0, d1, d2, d3⟩ := kr.c4
          obtain ⟨f0, f1, f2, f3⟩ := kr.f4
          obtain ⟨i0, i1, i2⟩ := ki.c3
          obtain ⟨l0, l1, l2, l3⟩ := kl.c4
          obtain ⟨m0, m1, m2, m3⟩ := kl.f4
          have hlr := kr.lt
          have hll := kl.lt
          clear KR KI KL HO
          have KR := Lib.hid kr
          have KI := Lib.hid ki
          have KL := Lib.hid kl
          have HO := Lib.hid HO'
          clear kr ki kl HO'
          have hne1 : ¬ w.heap.size + 1 + 1 = w1.heap.size := by omega
          have hne2 : w.heap.size + 1 + 1 < w1.heap.size := by omega
          go_wp2_with fail
          refine bodyPost_ret (v := .tuple #[.agg #[.int .u64 0, .int .u64 0, .int .u64 0, .slice none 0 0], .int .u64 0, .int .i64 9]) (by simp [results, Try.results23, go_sem, d0, d1, d2, d3, hne1, hne2]) rfl ⟨.slice none 0 0, ?_, ?_, ?_⟩
          · rw [G.out]
          · rw [G.out]; exact World.ownsRow_nil _ _ _ _
          · exact (by repeat (first | with_reducible exact Below.refl _ _ | with_reducible refine Below.drew ?_ | with_reducible refine below_drewN ?_ _ | with_reducible refine bal ?_ _ | with_reducible refine bset ?_ (by first | (simp; done) | (simp; omega)) _ | with_reducible refine bnext ?_ (by assumption) | with_reducible assumption))
        · have hid : idx node seq io l < 0 := idx_neg (by simpa using c3)
          have hid' : ¬ 0 ≤ idx node seq io l := by omega
          have C3 : Hid (¬ anyHas node seq io l = true) := c3
          clear c3
          go_wp2_with fail
          refine (slot_any g n r _ node seq io l _ (SlAt.own HO.out)).mono ?_
          rintro e w3 ⟨rfl, hb3⟩
          have hB3 : Below w.heap.size w w3 := bnext hB2 hb3
          clear d0 d1 d2 d3 f0 f1 f2 f3 i0 i1 i2 l0 l1 l2 l3 m0 m1 m2 m3 hlr hll
          have kr := KR.out.below hb3
          have ki := KI.out.below hb3
          have kl := KL.out.below hb3
          have HO' := own_below hb3 HO.out
          obtain ⟨d0, d1, d2, d3⟩ := kr.c4
          obtain ⟨f0, f1, f2, f3⟩ := kr.f4
          obtain ⟨i0, i1, i2⟩ := ki.c3
          obtain ⟨l0, l1, l2, l3⟩ := kl.c4
          obtain ⟨m0, m1, m2, m3⟩ := kl.f4
          have hlr := kr.lt
          have hll := kl.lt
          clear KR KI KL HO
          have KR := Lib.hid kr
          have KI := Lib.hid ki
          have KL := Lib.hid kl
          have HO := Lib.hid HO'
          clear kr ki kl HO'
          by_cases c4 : l.length = 100
          · have G : Hid (offer ⟨g, n, r, l⟩ size node seq io = (⟨0, 0, 0, []⟩, 0, 5)) := by
              show (if _ then _ else _) = _
              rw [if_neg (fun h => h HK.out), if_neg N1.out, if_neg C3.out, if_pos c4]
            have t2 : ((l.length : Int) == 100) = true := by rw [beq_iff_eq]; omega
            have C4 := Lib.hid c4
            clear c4
            have hne1 : ¬ w.heap.size + 1 + 1 = w1.heap.size := by omega
            have hne2 : w.heap.size + 1 + 1 < w1.heap.size := by omega
            go_wp2_with fail
            refine bodyPost_ret (v := .tuple #[.agg #[.int .u64 0, .int .u64 0, .int .u64 0, .slice none 0 0], .int .u64 0, .int .i64 5]) (by simp [results, Try.results23, go_sem, d0, d1, d2, d3, hne1, hne2]) rfl ⟨.slice none 0 0, ?_, ?_, ?_⟩
            · rw [G.out]
            · rw [G.out]; exact World.ownsRow_nil _ _ _ _
            · exact (by repeat (first | with_reducible exact Below.refl _ _ | with_reducible refine Below.drew ?_ | with_reducible refine below_drewN ?_ _ | with_reducible refine bal ?_ _ | with_reducible refine bset ?_ (by first | (simp; done) | (simp; omega)) _ | with_reducible refine bnext ?_ (by assumption) | with_reducible assumption))
          · have t2 : ((l.length : Int) == 100) = false := by rw [beq_eq_false_iff_ne]; omega
            have C4 : Hid (¬ l.length = 100) := c4
            clear c4
            go_wp2_with fail
            refine (lusable_u g n r u HU _ _ (by omega) (by omega) (by omega) (by omega) ⟨_, _, _, rfl⟩).mono ?_
            rintro e w4 ⟨rfl, hb4⟩
            have hB4 : Below w.heap.size w w4 := bnext hB3 hb4
            clear d0 d1 d2 d3 f0 f1 f2 f3 i0 i1 i2 l0 l1 l2 l3 m0 m1 m2 m3 hlr hll
            have kr := KR.out.below hb4
            have ki := KI.out.below hb4
            have kl := KL.out.below hb4
            have HO' := own_below hb4 HO.out
            obtain ⟨d0, d1, d2, d3⟩ := kr.c4
            obtain ⟨f0, f1, f2, f3⟩ := kr.f4
            obtain ⟨i0, i1, i2⟩ := ki.c3
            obtain ⟨l0, l1, l2, l3⟩ := kl.c4
            obtain ⟨m0, m1, m2, m3⟩ := kl.f4
            have hlr := kr.lt
            have hll := kl.lt
            clear KR KI KL HO
            have KR := Lib.hid kr
            have KI := Lib.hid ki
            have KL := Lib.hid kl
            have HO := Lib.hid HO'
            clear kr ki kl HO'
            by_cases c5 : u < size
            · have G : Hid (offer ⟨g, n, r, l⟩ size node seq io = (⟨0, 0, 0, []⟩, 0, 14)) := by
                show (if _ then _ else _) = _
                rw [if_neg (fun h => h HK.out), if_neg N1.out, if_neg C3.out, if_neg C4.out]
                have e : usab ⟨g, n, r, l⟩ = u := HU.out
                rw [e, if_pos c5]
              have hne1 : ¬ w.heap.size + 1 + 1 = w1.heap.size := by omega
              have hne2 : w.heap.size + 1 + 1 < w1.heap.size := by omega
              go_wp2_with fail
              refine bodyPost_ret (v := .tuple #[.agg #[.int .u64 0, .int .u64 0, .int .u64 0, .slice none 0 0], .int .u64 0, .int .i64 14]) (by simp [results, Try.results23, go_sem, d0, d1, d2, d3, hne1, hne2]) rfl ⟨.slice none 0 0, ?_, ?_, ?_⟩
              · rw [G.out]
              · rw [G.out]; exact World.ownsRow_nil _ _ _ _
              · exact (by repeat (first | with_reducible exact Below.refl _ _ | with_reducible refine Below.drew ?_ | with_reducible refine below_drewN ?_ _ | with_reducible refine bal ?_ _ | with_reducible refine bset ?_ (by first | (simp; done) | (simp; omega)) _ | with_reducible refine bnext ?_ (by assumption) | with_reducible assumption))
            · have G : Hid (offer ⟨g, n, r, l⟩ size node seq io = (⟨g, n + size, r, l ++ [⟨n, size, node, seq, io⟩]⟩, n, 0)) := by
                show (if _ then _ else _) = _
                rw [if_neg (fun h => h HK.out), if_neg N1.out, if_neg C3.out, if_neg C4.out]
                have e : usab ⟨g, n, r, l⟩ = u := HU.out
                rw [e, if_neg c5]
              have c5' : size ≤ u := by omega
              have hns : n + size ≤ 18446744073709551615 := by omega
              clear c5
              obtain ⟨ii, hi, hq0, hq1, hq2⟩ := info_parts infoSlot
              have HOA := Lib.hid (HO.out.alloc (.cells #[.int .u64 n, .int .u64 size, .int .i64 node, .int .u64 seq, .int .i64 io] 44))
              have hsz4 : w.heap.size + 3 ≤ w4.heap.size := by omega
              go_wp2_with (first
                | (at_builtin; refine wpList_append_own _ rfl _ _ 24 rfl (w.heap.size + 3) 44 ii zslot 5 40 Try.underlying24 hi hq0 hq1 hq2 rfl (by decide) _ _ _ rfl HOA.out ⟨w4.heap.size, 0, none⟩ 1 1 [.int .u64 n, .int .u64 size, .int .i64 node, .int .u64 seq, .int .i64 io] rfl rfl (fun j x hj => by rw [← hj]; exact newadd _ _ _ _) (by intro x hx; simp at hx; rcases hx with rfl | rfl | rfl | rfl | rfl <;> rfl) (by unfold maxLen; omega) (by omega) (by simp; omega) ?_; intro v' w5 hown' hgrow _; obtain ⟨g', cap', rfl⟩ := ownsRow_succ hown'; have kr5 := (KR.out.alloc (.cells #[.int .u64 n, .int .u64 size, .int .i64 node, .int .u64 seq, .int .i64 io] 44)).grown hgrow (blk_ne_own HOA.out (KR.out.alloc _) (by decide)); have kl5 := (KL.out.alloc (.cells #[.int .u64 n, .int .u64 size, .int .i64 node, .int .u64 seq, .int .i64 io] 44)).grown hgrow (blk_ne_own HOA.out (KL.out.alloc _) (by decide)); obtain ⟨d0, d1, d2, d3⟩ := kr5.c4; obtain ⟨f0, f1, f2, f3⟩ := kr5.f4; obtain ⟨l0, l1, l2, l3⟩ := kl5.c4; obtain ⟨m0, m1, m2, m3⟩ := kl5.f4; have hlr5 := kr5.lt; have hll5 := kl5.lt; have hB5 : Below w.heap.size w w5 := (bal hB4 _).grown hgrow (by simp; omega) (fun k e => by have := (HOA.out.lt k e).1; omega); have HO5 := Lib.hid hown'; have KL5 := Lib.hid kl5; clear kr5 kl5 hown' hgrow))
              have p0 := ho_far (a := ⟨w1.heap.size, 3, none⟩) HO5.out KL5.out (by decide) (.slice (some ⟨g', 0, none⟩) (l.length + 1) cap')
              have p1 := ho_far (a := ⟨w1.heap.size, 1, none⟩) p0 (KL5.out.set 3 _) (by decide) (.int .u64 (n + size))
              have P1 := Lib.hid p1
              have hne1 : ¬ w.heap.size + 1 + 1 = w1.heap.size := by omega
              clear p0 p1
              refine bodyPost_ret (v := .tuple #[.agg #[.int .u64 g, .int .u64 (n + size), .int .u64 r, .slice (some ⟨g', 0, none⟩) (l.length + 1) cap'], .int .u64 n, .int .i64 0]) (by simp [results, Try.results23, go_sem, d0, d1, d2, d3, l0, l1, l2, l3, hne1]) rfl ⟨.slice (some ⟨g', 0, none⟩) (l.length + 1) cap', ?_, ?_, ?_⟩
              · rw [G.out]
              · rw [G.out]
                refine own_mono (base := w.heap.size + 3) ?_ (by omega)
                have q := P1.out
                have el : (l ++ [(⟨n, size, node, seq, io⟩ : Sl)]).length = l.length + 1 := by simp
                have ef := flat_snoc l ⟨n, size, node, seq, io⟩
                dsimp only at ef ⊢
                rw [el, ef]
                repeat (first | with_reducible exact q | with_reducible refine ownsRow_setCell_below ?_ (by simp; done) _)
              · exact (by repeat (first | with_reducible exact Below.refl _ _ | with_reducible refine Below.drew ?_ | with_reducible refine below_drewN ?_ _ | with_reducible refine bal ?_ _ | with_reducible refine bset ?_ (by first | (simp; done) | (simp; omega)) _ | with_reducible refine bnext ?_ (by assumption) | with_reducible assumption))
      · have ID : Hid (idE node seq io = 2) := if_neg c2
        have G : Hid (offer ⟨g, n, r, l⟩ size node seq io = (⟨0, 0, 0, []⟩, 0, 2)) := by
          show (if _ then _ else _) = _
          rw [if_neg (fun h => h HK.out), if_pos (.inr c2)]
        clear c1 c2
        go_wp2_with fail
        refine (CheckID_any _ _ _ _).mono ?_
        rintro e w2 ⟨rfl, hb2⟩
        rw [ID.out]
        have hB2 : Below w.heap.size w w2 := bnext (bal hB1 _) hb2
        clear d0 d1 d2 d3 f0 f1 f2 f3 i0 i1 i2
        have kr := KR.out.below hb2
        have ki := KI.out.below hb2
        have kl := KL.out.below hb2
        have HO' := own_below hb2 HO.out
        obtain ⟨d0, d1, d2, d3⟩ := kr.c4
        obtain ⟨f0, f1, f2, f3⟩ := kr.f4
        obtain ⟨i0, i1, i2⟩ := ki.c3
        obtain ⟨l0, l1, l2, l3⟩ := kl.c4
        obtain ⟨m0, m1, m2, m3⟩ := kl.f4
        have hlr := kr.lt
        have hll := kl.lt
        clear KR KI KL HO
        have KR := Lib.hid kr
        have KI := Lib.hid ki
        have KL := Lib.hid kl
        have HO := Lib.hid HO'
        clear kr ki kl HO'
        have hne1 : ¬ w.heap.size + 1 + 1 = w1.heap.size := by omega
        have hne2 : w.heap.size + 1 + 1 < w1.heap.size := by omega
        go_wp2_with fail
        refine bodyPost_ret (v := .tuple #[.agg #[.int .u64 0, .int .u64 0, .int .u64 0, .slice none 0 0], .int .u64 0, .int .i64 2]) (by simp [results, Try.results23, go_sem, d0, d1, d2, d3, hne1, hne2]) rfl ⟨.slice none 0 0, ?_, ?_, ?_⟩
        · rw [G.out]
        · rw [G.out]; exact World.ownsRow_nil _ _ _ _
        · exact (by repeat (first | with_reducible exact Below.refl _ _ | with_reducible refine Below.drew ?_ | with_reducible refine below_drewN ?_ _ | with_reducible refine bal ?_ _ | with_reducible refine bset ?_ (by first | (simp; done) | (simp; omega)) _ | with_reducible refine bnext ?_ (by assumption) | with_reducible assumption))
  · have HK := Lib.hid hk
    have hne : ((chk ⟨g, n, r, l⟩).1 != 0) = true := by rw [bne_iff_ne]; exact hk
    have G : Hid (offer ⟨g, n, r, l⟩ size node seq io = (⟨0, 0, 0, []⟩, 0, (chk ⟨g, n, r, l⟩).1)) := if_pos hk
    clear hk
    go_enter Try.func23, Try.ntmps23
    go_wp2_with fail
    refine (opened_no ⟨g, n, r, l⟩ HW.out _ _ (((HS.out.alloc _).alloc _).alloc _) HK.out).mono ?_
    rintro e w1 ⟨A', c', rfl, hb1⟩
    have hB1 : Below w.heap.size w w1 := bnext (bal (bal (bal (Below.refl _ _) _) _) _) hb1
    have kr := (Blk.new2 w (.cells #[.int .u64 g, .int .u64 n, .int .u64 r, .slice A l.length c] 26) (.cells #[.int .i64 node, .int .u64 seq, .int .i64 io] 41) 26 #[.int .u64 0, .int .u64 0, .int .u64 0, .slice none 0 0]).below hb1
    obtain ⟨d0, d1, d2, d3⟩ := kr.c4
    obtain ⟨f0, f1, f2, f3⟩ := kr.f4
    have hlt := kr.lt
    have hne' := Nat.ne_of_lt hlt
    clear hb1 kr
    generalize (chk ⟨g, n, r, l⟩).1 = er at *
    go_wp2_with fail
    refine bodyPost_ret (v := .tuple #[.agg #[.int .u64 0, .int .u64 0, .int .u64 0, .slice none 0 0], .int .u64 0, .int .i64 er]) (by simp [results, Try.results23, go_sem, d0, d1, d2, d3, hlt, hne']) rfl ⟨.slice none 0 0, ?_, ?_, ?_⟩
    · rw [G.out]
    · rw [G.out]; exact World.ownsRow_nil _ _ _ _
    · exact (by repeat (first | with_reducible exact Below.refl _ _ | with_reducible refine Below.drew ?_ | with_reducible refine below_drewN ?_ _ | with_reducible refine bal ?_ _ | with_reducible refine bset ?_ (by first | (simp; done) | (simp; omega)) _ | with_reducible refine bnext ?_ (by assumption) | with_reducible assumption))
end Go.Proofs.Ytdfppaafoecgmaa
