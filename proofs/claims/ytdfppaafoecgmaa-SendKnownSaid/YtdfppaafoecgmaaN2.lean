/- Contracts: the reference's check, copy, usable bytes and floor. -/
import Derived.Test.YtdfppaafoecgmaaN
import Derived.Test.YtdfppaafoecgmaaI
namespace Go.Proofs.Ytdfppaafoecgmaa
open Go.RowKit
set_option linter.unusedVariables false
set_option linter.unusedSimpArgs false

set_option maxRecDepth 100000 in
set_option maxHeartbeats 2000000 in
theorem rown_any (g n r : Int) (l : List Sl) (v : Value) (w : World) (hS : SlAt w 5 v l.length (flat l)) (hl : l.length ≤ 100000) :
    Calls Try.prog 45 #[.agg #[.int .u64 g, .int .u64 n, .int .u64 r, v]] w (OwnPost g n r l w) := by
  obtain ⟨A, c, rfl, hc1, hc2, hR⟩ := hS
  obtain ⟨i0, hi, hz0, hz1, hz2⟩ := info_parts infoSlot
  cases A with
  | none =>
    have h0 : l.length = 0 := by
      rcases Nat.eq_zero_or_pos l.length with h | h
      · exact h
      · obtain ⟨b, o, e, _⟩ := hR.2 h
        cases e
    have hn : l = [] := List.eq_nil_of_length_eq_zero h0
    subst hn
    clear h0 hR
    have HO := Lib.hid (World.ownsRow_made (base := w.heap.size + 2) (e := 44) (size := 5) ((w.alloc (.cells #[.int .u64 g, .int .u64 n, .int .u64 r, .slice none 0 c] 26)).alloc (.cells #[.int .u64 0, .int .u64 0, .int .u64 0, .slice none 0 0] 26)) #[] 0 (by simp) (by unfold maxLen; omega) rfl)
    rw [show ((w.alloc (.cells #[.int .u64 g, .int .u64 n, .int .u64 r, .slice none 0 c] 26)).alloc (.cells #[.int .u64 0, .int .u64 0, .int .u64 0, .slice none 0 0] 26)).heap.size = w.heap.size + 1 + 1 from by simp] at HO
    go_enter Try.func45, Try.ntmps45
    go_wp2_with (first
      | (at_builtin; refine wpList_append_src_nil rfl _ _ 24 rfl (w.heap.size + 2) 44 i0 5 Try.underlying24 hi _ _ _ rfl HO.out c rfl ?_))
    refine bodyPost_ret (v := .agg #[.int .u64 g, .int .u64 n, .int .u64 r, .slice (some ⟨w.heap.size + 1 + 1, 0, none⟩) 0 0]) (by simp [results, Try.results45, go_sem]) rfl ⟨some ⟨w.heap.size + 1 + 1, 0, none⟩, 0, rfl, ?_, ?_⟩
    · have q := World.ownsRow_made (base := w.heap.size) (e := 44) (size := 5) ((w.alloc (.cells #[.int .u64 g, .int .u64 n, .int .u64 r, .slice (some ⟨w.heap.size + 1 + 1, 0, none⟩) 0 0] 26)).alloc (.cells #[.int .u64 g, .int .u64 n, .int .u64 r, .slice (some ⟨w.heap.size + 1 + 1, 0, none⟩) 0 0] 26)) #[] 0 (by simp; omega) (by unfold maxLen; omega) rfl
      rw [World.size_alloc, World.size_alloc] at q
      exact q
    · exact (by repeat (first | with_reducible exact Below.refl _ _ | with_reducible refine Below.drew ?_ | with_reducible refine below_drewN ?_ _ | with_reducible refine bal ?_ _ | with_reducible refine bset ?_ (by first | (simp; done) | (simp; omega)) _ | with_reducible refine bnext ?_ (by assumption) | with_reducible assumption))
  | some ad =>
    have HC : Hid (∀ j u, (flat l)[j]? = some u → (((w.alloc (.cells #[.int .u64 g, .int .u64 n, .int .u64 r, .slice (some ad) l.length c] 26)).alloc (.cells #[.int .u64 0, .int .u64 0, .int .u64 0, .slice none 0 0] 26)).alloc (.cells #[] 44)).cell? (ad.add j) = some u) := by
      by_cases h0 : l.length = 0
      · have hn : l = [] := List.eq_nil_of_length_eq_zero h0
        subst hn
        intro j u h
        simp [flat] at h
      · obtain ⟨b, o, e, hb, _⟩ := hR.2 (by omega)
        cases e
        exact reads_add (((hR.keep (by simp) fun b o h => oldcell _ h o).keep (by simp) fun b o h => oldcell _ h o).keep (by simp) fun b o h => oldcell _ h o)
    clear hR
    have HO := Lib.hid (World.ownsRow_made (base := w.heap.size + 2) (e := 44) (size := 5) ((w.alloc (.cells #[.int .u64 g, .int .u64 n, .int .u64 r, .slice (some ad) l.length c] 26)).alloc (.cells #[.int .u64 0, .int .u64 0, .int .u64 0, .slice none 0 0] 26)) #[] 0 (by simp) (by unfold maxLen; omega) rfl)
    rw [show ((w.alloc (.cells #[.int .u64 g, .int .u64 n, .int .u64 r, .slice (some ad) l.length c] 26)).alloc (.cells #[.int .u64 0, .int .u64 0, .int .u64 0, .slice none 0 0] 26)).heap.size = w.heap.size + 1 + 1 from by simp] at HO
    have K0 := Lib.hid (((Blk.new w 26 #[.int .u64 g, .int .u64 n, .int .u64 r, .slice (some ad) l.length c]).alloc (.cells #[.int .u64 0, .int .u64 0, .int .u64 0, .slice none 0 0] 26)).alloc (.cells #[] 44))
    have K1 := Lib.hid ((Blk.new1 w (.cells #[.int .u64 g, .int .u64 n, .int .u64 r, .slice (some ad) l.length c] 26) 26 #[.int .u64 0, .int .u64 0, .int .u64 0, .slice none 0 0]).alloc (.cells #[] 44))
    go_enter Try.func45, Try.ntmps45
    go_wp2_with (first
      | (at_builtin; refine wpList_append_own _ rfl _ _ 24 rfl (w.heap.size + 2) 44 i0 zslot 5 40 Try.underlying24 hi hz0 hz1 hz2 rfl (by decide) _ _ _ rfl HO.out ad l.length c (flat l) rfl (flat_len l) HC.out (flat_one l) (by unfold maxLen; omega) (by omega) (by simp) ?_; intro v' w1 hown' hgrow _; obtain ⟨A', c', hv', _⟩ := SlAt.own hown'; subst hv'; have k0 := K0.out.grown hgrow (blk_ne_own HO.out K0.out (by decide)); have k1 := K1.out.grown hgrow (blk_ne_own HO.out K1.out (by decide)); obtain ⟨c0, c1, c2, c3⟩ := k0.c4; obtain ⟨f0, f1, f2, f3⟩ := k0.f4; obtain ⟨d0, d1, d2, d3⟩ := k1.c4; obtain ⟨g0, g1, g2, g3⟩ := k1.f4; have hB : Below w.heap.size w w1 := (bal (bal (bal (Below.refl _ _) _) _) _).grown hgrow (by simp; omega) (fun k e => by have := (HO.out.lt k e).1; omega); have H5 := Lib.hid hown'; clear hown' hgrow k0 k1))
    refine bodyPost_ret (v := .agg #[.int .u64 g, .int .u64 n, .int .u64 r, .slice A' l.length c']) (by simp [results, Try.results45, go_sem, c0, c1, c2, c3, d0, d1, d2, d3]) rfl ⟨A', c', ?_, ?_, ?_⟩
    · simp
    · refine own_mono (base := w.heap.size + 2) ?_ (by omega)
      have q : w1.ownsRow (w.heap.size + 2) 44 5 (.slice A' l.length c') l.length (flat l) := by have := H5.out; simpa using this
      repeat (first | with_reducible exact q | with_reducible refine ownsRow_setCell_below ?_ (by simp; done) _)
    · exact (by repeat (first | with_reducible exact Below.refl _ _ | with_reducible refine Below.drew ?_ | with_reducible refine below_drewN ?_ _ | with_reducible refine bal ?_ _ | with_reducible refine bset ?_ (by first | (simp; done) | (simp; omega)) _ | with_reducible refine bnext ?_ (by assumption) | with_reducible assumption))

set_option maxRecDepth 100000 in
set_option maxHeartbeats 4000000 in
theorem rCheck_any (s : Led) (hw : Wf s) (v : Value) (w : World) (hS : SlAt w 5 v s.sl.length (flat s.sl)) :
    Calls Try.prog 15 #[.agg #[.int .u64 s.g, .int .u64 s.n, .int .u64 s.r, v]] w (Ret2 .i64 .i64 (chk s).1 (chk s).2 w) := by
  obtain ⟨g, n, r, l⟩ := s
  obtain ⟨⟨hg0, hg1⟩, ⟨hn0, hn1⟩, ⟨hr0, hr1⟩, hl⟩ := hw
  have HL := Lib.hid hl
  clear hl
  obtain ⟨A, c, rfl, hc1, hc2, _⟩ := id hS
  have HS := Lib.hid hS
  clear hS
  unfold maxLen at hc2
  dsimp only at *
  by_cases h1 : 1125899906842624 < g
  · have R : Hid (chk ⟨g, n, r, l⟩ = (2, 0)) := if_pos h1
    go_enter Try.func15, Try.ntmps15
    go_wp2_with fail
    go_ret2
    exact ⟨by rw [R.out]; rfl, (by repeat (first | with_reducible exact Below.refl _ _ | with_reducible refine Below.drew ?_ | with_reducible refine below_drewN ?_ _ | with_reducible refine bal ?_ _ | with_reducible refine bset ?_ (by first | (simp; done) | (simp; omega)) _ | with_reducible refine bnext ?_ (by assumption) | with_reducible assumption))⟩
  · by_cases h2 : g < r
    · have R : Hid (chk ⟨g, n, r, l⟩ = (14, 0)) := by
        show (if _ then _ else if g < r ∨ g - r < n then _ else _) = _
        rw [if_neg h1, if_pos (.inl h2)]
      go_enter Try.func15, Try.ntmps15
      go_wp2_with fail
      go_ret2
      exact ⟨by rw [R.out]; rfl, (by repeat (first | with_reducible exact Below.refl _ _ | with_reducible refine Below.drew ?_ | with_reducible refine below_drewN ?_ _ | with_reducible refine bal ?_ _ | with_reducible refine bset ?_ (by first | (simp; done) | (simp; omega)) _ | with_reducible refine bnext ?_ (by assumption) | with_reducible assumption))⟩
    · by_cases h3 : g - r < n
      · have R : Hid (chk ⟨g, n, r, l⟩ = (14, 0)) := by
          show (if _ then _ else if g < r ∨ g - r < n then _ else _) = _
          rw [if_neg h1, if_pos (.inr h3)]
        go_enter Try.func15, Try.ntmps15
        go_wp2_with fail
        go_ret2
        exact ⟨by rw [R.out]; rfl, (by repeat (first | with_reducible exact Below.refl _ _ | with_reducible refine Below.drew ?_ | with_reducible refine below_drewN ?_ _ | with_reducible refine bal ?_ _ | with_reducible refine bset ?_ (by first | (simp; done) | (simp; omega)) _ | with_reducible refine bnext ?_ (by assumption) | with_reducible assumption))⟩
      · by_cases h4 : 100 < l.length
        · have R : Hid (chk ⟨g, n, r, l⟩ = (5, 0)) := by
            show (if _ then _ else if g < r ∨ g - r < n then _ else if 100 < l.length then _ else _) = _
            rw [if_neg h1, if_neg (by omega), if_pos h4]
          have h4' : (100 : Int) < l.length := by omega
          go_enter Try.func15, Try.ntmps15
          go_wp2_with fail
          go_ret2
          exact ⟨by rw [R.out]; rfl, (by repeat (first | with_reducible exact Below.refl _ _ | with_reducible refine Below.drew ?_ | with_reducible refine below_drewN ?_ _ | with_reducible refine bal ?_ _ | with_reducible refine bset ?_ (by first | (simp; done) | (simp; omega)) _ | with_reducible refine bnext ?_ (by assumption) | with_reducible assumption))⟩
        · have R : Hid (chk ⟨g, n, r, l⟩ = scan n [] 0 l) := by
            show (if _ then _ else if g < r ∨ g - r < n then _ else if 100 < l.length then _ else _) = _
            rw [if_neg h1, if_neg (by omega), if_neg h4]
          have h4' : (l.length : Int) ≤ 100 := by omega
          go_enter Try.func15, Try.ntmps15
          go_wp2_with fail
          obtain ⟨W0, hW⟩ : ∃ W0, w.alloc (.cells #[.int .u64 g, .int .u64 n, .int .u64 r, .slice A l.length c] 26) = W0 := ⟨_, rfl⟩
          have hB0 : Below w.heap.size w W0 := by rw [← hW]; exact bal (Below.refl _ _) _
          have k0 : Blk W0 w.heap.size 26 #[.int .u64 g, .int .u64 n, .int .u64 r, .slice A l.length c] := by rw [← hW]; exact Blk.new _ _ _
          have HS0 : Hid (SlAt W0 5 (.slice A l.length c) l.length (flat l)) := Lib.hid (HS.out.below hB0)
          rw [hW]
          have K0 := Lib.hid k0
          clear hW k0 HS
          go_loopw [4] (fun a wr => ∃ (k : Nat) (E : Int), k ≤ l.length ∧ a = .int .i64 k ∧ (0 ≤ E ∧ E ≤ 18446744073709551615 ∧ (k = 0 → E = 0) ∧ ∀ p, 0 < k → l[k - 1]? = some p → p.off + p.size = E) ∧ scan n (l.take k) E (l.drop k) = scan n [] 0 l ∧ Below W0.heap.size W0 wr) (fun a _ => l.length - (intOf a).toNat)
          case atStart => exact ⟨0, 0, by omega, rfl, ⟨by omega, by omega, fun _ => rfl, fun p h => by omega⟩, rfl, Below.refl _ _⟩
          case round =>
            obtain ⟨k, E, hk, rfl, hE, hsc, hB⟩ := hrel
            have HE := Lib.hid hE
            have HSC := Lib.hid hsc
            have kr := K0.out.below hB
            obtain ⟨c0, c1, c2, c3⟩ := kr.c4
            have HSr : Hid (SlAt wr 5 (.slice A l.length c) l.length (flat l)) := Lib.hid (HS0.out.below hB)
            clear hE hsc kr
            by_cases hlt : k < l.length
            · obtain ⟨x, hx⟩ : ∃ x, l[k]? = some x := ⟨_, List.getElem?_eq_getElem hlt⟩
              have hxw := HL.out x (List.mem_of_getElem? hx)
              have HC := Lib.hid (scan_cons (n := n) (E := E) hx)
              have hi : (k : Int) < l.length := by omega
              have HX := Lib.hid hx
              clear hx
              go_wp2_with fail
              refine (rslot_any g n r l k x E HX.out hn0 hn1 ⟨hxw.1.1, hxw.1.2, hxw.2.1.1⟩ HE.out.2.2.1 HE.out.2.2.2 HE.out.1 HE.out.2.1 _ wr HSr.out).mono ?_
              rintro e w1 ⟨rfl, hb1⟩
              have hB1 := bnext hB hb1
              by_cases hz : slotE n (l.take k) E x = 0
              · have hz' := slotE_zero.1 hz
                have HZ := Lib.hid hz
                rw [HZ.out]
                have hxo := hxw.1.1
                have hxs := hxw.2.1.1
                have HS2 : Hid (scan n (l.take (k + 1)) (x.off + x.size) (l.drop (k + 1)) = scan n [] 0 l) := hidI' (by rw [← HSC.out, HC.out, if_pos HZ.out])
                have hb0 : 0 ≤ x.off + x.size := by omega
                have hb2 : x.off + x.size ≤ 18446744073709551615 := by omega
                clear hz hz' hxw
                go_wp2_with fail
                go_roundw
                case rel => exact ⟨k + 1, x.off + x.size, by omega, by go_num, ⟨hb0, hb2, fun h => by omega, fun p _ hp => by
                    rw [Nat.add_sub_cancel, HX.out] at hp
                    cases hp
                    rfl⟩, HS2.out, hB1⟩
                case measure => simp [intOf]; omega
              · have F : Hid (chk ⟨g, n, r, l⟩ = (slotE n (l.take k) E x, (k : Int))) := by rw [R.out, ← HSC.out, HC.out, if_neg hz]; rfl
                have hne : (slotE n (l.take k) E x != 0) = true := by rw [bne_iff_ne]; exact hz
                clear hz hxw
                generalize slotE n (l.take k) E x = se at *
                go_wp2_with fail
                go_ret2
                exact ⟨by rw [F.out]; rfl, bnext hB0 hB1⟩
            · obtain rfl : k = l.length := by omega
              have F : Hid (chk ⟨g, n, r, l⟩ = (0, 0)) := by
                rw [R.out, ← HSC.out, List.drop_of_length_le (Nat.le_refl _)]
                rfl
              go_wp2_with fail
              go_ret2
              exact ⟨by rw [F.out]; rfl, bnext hB0 hB⟩

set_option maxHeartbeats 1000000 in
theorem rusable_any (g n r : Int) (v : Value) (w : World) (hg : g ≤ 18446744073709551615) (hn : 0 ≤ n) (hr : 0 ≤ r) (h : n + r ≤ g) (hv : ∃ A l c, v = .slice A l c) :
    Calls Try.prog 43 #[.agg #[.int .u64 g, .int .u64 n, .int .u64 r, v]] w (RetI .u64 (g - n - r) w) := by
  obtain ⟨A, l, c, rfl⟩ := hv
  go_enter Try.func43, Try.ntmps43
  go_wp2_with fail
  go_ret
  exact ⟨rfl, (by repeat (first | with_reducible exact Below.refl _ _ | with_reducible refine Below.drew ?_ | with_reducible refine below_drewN ?_ _ | with_reducible refine bal ?_ _ | with_reducible refine bset ?_ (by first | (simp; done) | (simp; omega)) _ | with_reducible refine bnext ?_ (by assumption) | with_reducible assumption))⟩
theorem okL_sum {s : Led} (hk : okL s) (hw : Wf s) : (0 ≤ s.g ∧ s.g ≤ 1125899906842624) ∧ 0 ≤ s.n ∧ 0 ≤ s.r ∧ s.n + s.r ≤ s.g := by
  have := okL_nums hk
  have a := hw.1
  have b := hw.2.1
  have c := hw.2.2.1
  omega
set_option maxHeartbeats 1000000 in
theorem rUsable_any (s : Led) (hw : Wf s) (v : Value) (w : World) (hS : SlAt w 5 v s.sl.length (flat s.sl)) :
    Calls Try.prog 17 #[.agg #[.int .u64 s.g, .int .u64 s.n, .int .u64 s.r, v]] w (Ret2 .u64 .i64 (usE s) (chk s).1 w) := by
  obtain ⟨A, c, rfl, hc1, hc2, _⟩ := id hS
  have HS := Lib.hid hS
  have HW := Lib.hid hw
  clear hS hw
  by_cases hk : okL s
  · have N := Lib.hid (okL_sum hk HW.out)
    have U : Hid (usE s = s.g - s.n - s.r) := hidI' (by unfold usE usab; rw [if_pos hk])
    have K : Hid ((chk s).1 = 0) := hk
    clear hk
    go_enter Try.func17, Try.ntmps17
    go_wp2_with fail
    refine (rCheck_any s HW.out _ _ (HS.out.alloc _)).mono ?_
    rintro e w1 ⟨rfl, hb1⟩
    rw [K.out]
    have hB1 : Below w.heap.size w w1 := bnext (bal (Below.refl _ _) _) hb1
    have k0 := (Blk.new w 26 #[.int .u64 s.g, .int .u64 s.n, .int .u64 s.r, .slice A s.sl.length c]).below hb1
    obtain ⟨c0, c1, c2, c3⟩ := k0.c4
    clear k0 hb1
    go_wp2_with fail
    refine (rusable_any s.g s.n s.r _ _ (by have := N.out; omega) (by have := N.out; omega) (by have := N.out; omega) (by have := N.out; omega) ⟨_, _, _, rfl⟩).mono ?_
    rintro e w2 ⟨rfl, hb2⟩
    rw [← U.out]
    generalize usE s = u at *
    go_wp2_with fail
    go_ret2
    exact ⟨by rw [K.out]; rfl, bnext hB1 hb2⟩
  · have U : Hid (usE s = 0) := hidI' (by unfold usE; rw [if_neg hk])
    have hne : ((chk s).1 != 0) = true := by rw [bne_iff_ne]; exact hk
    clear hk
    go_enter Try.func17, Try.ntmps17
    go_wp2_with fail
    refine (rCheck_any s HW.out _ _ (HS.out.alloc _)).mono ?_
    rintro e w1 ⟨rfl, hb1⟩
    go_wp2_with fail
    go_ret2
    exact ⟨by rw [U.out]; rfl, bnext (bal (Below.refl _ _) _) hb1⟩
set_option maxHeartbeats 1000000 in
theorem rFloor_any (s : Led) (hw : Wf s) (v : Value) (w : World) (hS : SlAt w 5 v s.sl.length (flat s.sl)) :
    Calls Try.prog 19 #[.agg #[.int .u64 s.g, .int .u64 s.n, .int .u64 s.r, v]] w (Ret2 .u64 .i64 (flE s) (chk s).1 w) := by
  obtain ⟨A, c, rfl, hc1, hc2, _⟩ := id hS
  have HS := Lib.hid hS
  have HW := Lib.hid hw
  clear hS hw
  by_cases hk : okL s
  · have U : Hid (flE s = flr s) := hidI' (by unfold flE; rw [if_pos hk])
    have K : Hid ((chk s).1 = 0) := hk
    have hl100 := okL_len hk
    clear hk
    go_enter Try.func19, Try.ntmps19
    go_wp2_with fail
    refine (rCheck_any s HW.out _ _ (HS.out.alloc _)).mono ?_
    rintro e w1 ⟨rfl, hb1⟩
    rw [K.out]
    have hB1 : Below w.heap.size w w1 := bnext (bal (Below.refl _ _) _) hb1
    have k0 := (Blk.new w 26 #[.int .u64 s.g, .int .u64 s.n, .int .u64 s.r, .slice A s.sl.length c]).below hb1
    obtain ⟨c0, c1, c2, c3⟩ := k0.c4
    have hS1 := HS.out.below hB1
    clear k0 hb1
    obtain ⟨g, n, r, l⟩ := s
    dsimp only at *
    cases l with
    | nil =>
      clear hS1
      go_wp2_with fail
      go_ret2
      exact ⟨by rw [U.out, K.out]; rfl, hB1⟩
    | cons x l =>
      obtain ⟨A', c', e, _, _, hR⟩ := hS1
      cases e
      obtain ⟨b, o, rfl, hb, d0, _⟩ := slot_cells hR rfl (k := 0) (x := x) rfl
      rw [Nat.zero_mul, Nat.add_zero] at d0
      have hl : (0 : Int) < ((x :: l).length : Int) := by simp only [List.length_cons]; omega
      generalize (x :: l).length = ln at *
      clear hR
      go_wp2_with fail
      go_ret2
      exact ⟨by rw [U.out, K.out]; rfl, hB1⟩
  · have U : Hid (flE s = 0) := hidI' (by unfold flE; rw [if_neg hk])
    have hne : ((chk s).1 != 0) = true := by rw [bne_iff_ne]; exact hk
    clear hk
    go_enter Try.func19, Try.ntmps19
    go_wp2_with fail
    refine (rCheck_any s HW.out _ _ (HS.out.alloc _)).mono ?_
    rintro e w1 ⟨rfl, hb1⟩
    go_wp2_with fail
    go_ret2
    exact ⟨by rw [U.out]; rfl, bnext (bal (Below.refl _ _) _) hb1⟩
end Go.Proofs.Ytdfppaafoecgmaa
