/- Contracts: the reference's grant, search and offer (sender's ledger). -/
import Derived.Test.YtfgkkflbpfocjaaZc17
import Derived.Test.YtfgkkflbpfocjaaZc27
import Derived.Test.YtfgkkflbpfocjaaZc5
import Derived.Test.YtfgkkflbpfocjaaZc6
namespace Go.Proofs.Ytfgkkflbpfocjaa
open Go.RowKit
set_option linter.unusedVariables false
set_option linter.unusedSimpArgs false

def LedPost (res : Led × Int × Int) (w : World) (e : Ending) (w' : World) : Prop :=
  ∃ v', e = .returned (.tuple #[.agg #[.int .u64 res.1.g, .int .u64 res.1.n, .int .u64 res.1.r, v'], .int .u64 res.2.1, .int .i64 res.2.2]) ∧ OwnL w w' v' res.1.sl ∧ Below w.heap.size w w'

def OwnPost (g n r : Int) (l : List Sl) (w : World) (e : Ending) (w' : World) : Prop := ∃ A c, e = .returned (.agg #[.int .u64 g, .int .u64 n, .int .u64 r, .slice A l.length c]) ∧ OwnL w w' (.slice A l.length c) l ∧ Below w.heap.size w w'

set_option maxRecDepth 100000 in
set_option maxHeartbeats 2000000 in
theorem rown_any (g n r : Int) (l : List Sl) (v : Value) (w : World) (hS : SlAt w 5 v l.length (flat l)) (hl : l.length ≤ 100000) :
    Calls Try.prog 84 #[.agg #[.int .u64 g, .int .u64 n, .int .u64 r, v]] w (OwnPost g n r l w) := by
  obtain ⟨A, c, rfl, hc1, hc2, hR⟩ := hS
  obtain ⟨i0, hi, hz0, hz1, hz2⟩ := info_parts infoSlot
  cases A with
  | none =>
    have h0 : l.length = 0 := by
      rcases Nat.eq_zero_or_pos l.length with h | h
      · exact h
      · obtain ⟨b, o, e, _⟩ := hR.2 h
        cases e
    have hn : l = [] := List.eq_nil_of_length_eq_zero h0
    subst hn
    clear h0 hR
    have HO := Lib.hid (World.ownsRow_made (base := w.heap.size + 2) (e := 81) (size := 5) ((w.alloc (.cells #[.int .u64 g, .int .u64 n, .int .u64 r, .slice none 0 c] 25)).alloc (.cells #[.int .u64 0, .int .u64 0, .int .u64 0, .slice none 0 0] 25)) #[] 0 (by simp) (by unfold maxLen; omega) rfl)
    rw [show ((w.alloc (.cells #[.int .u64 g, .int .u64 n, .int .u64 r, .slice none 0 c] 25)).alloc (.cells #[.int .u64 0, .int .u64 0, .int .u64 0, .slice none 0 0] 25)).heap.size = w.heap.size + 1 + 1 from by simp] at HO
    go_enter Try.func84, Try.ntmps84
    go_wp2_with (first
      | (at_builtin; refine wpList_append_src_nil rfl _ _ 23 rfl (w.heap.size + 2) 81 i0 5 Try.underlying23 hi _ _ _ rfl HO.out c rfl ?_))
    refine bodyPost_ret (v := .agg #[.int .u64 g, .int .u64 n, .int .u64 r, .slice (some ⟨w.heap.size + 1 + 1, 0, none⟩) 0 0]) (by simp [results, Try.results84, go_sem]) rfl ⟨some ⟨w.heap.size + 1 + 1, 0, none⟩, 0, rfl, ?_, ?_⟩
    · have q := World.ownsRow_made (base := w.heap.size) (e := 81) (size := 5) ((w.alloc (.cells #[.int .u64 g, .int .u64 n, .int .u64 r, .slice (some ⟨w.heap.size + 1 + 1, 0, none⟩) 0 0] 25)).alloc (.cells #[.int .u64 g, .int .u64 n, .int .u64 r, .slice (some ⟨w.heap.size + 1 + 1, 0, none⟩) 0 0] 25)) #[] 0 (by simp; omega) (by unfold maxLen; omega) rfl
      rw [World.size_alloc, World.size_alloc] at q
      exact q
    · exact (by repeat (first | with_reducible exact Below.refl _ _ | with_reducible refine Below.drew ?_ | with_reducible refine below_drewN ?_ _ | with_reducible refine bal ?_ _ | with_reducible refine bset ?_ (by first | (simp; done) | (simp; omega)) _ | with_reducible refine bnext ?_ (by assumption) | with_reducible assumption))
  | some ad =>
    have HC : Hid (∀ j u, (flat l)[j]? = some u → (((w.alloc (.cells #[.int .u64 g, .int .u64 n, .int .u64 r, .slice (some ad) l.length c] 25)).alloc (.cells #[.int .u64 0, .int .u64 0, .int .u64 0, .slice none 0 0] 25)).alloc (.cells #[] 81)).cell? (ad.add j) = some u) := by
      by_cases h0 : l.length = 0
      · have hn : l = [] := List.eq_nil_of_length_eq_zero h0
        subst hn
        intro j u h
        simp [flat] at h
      · obtain ⟨b, o, e, hb, _⟩ := hR.2 (by omega)
        cases e
        exact reads_add (((hR.keep (by simp) fun b o h => oldcell _ h o).keep (by simp) fun b o h => oldcell _ h o).keep (by simp) fun b o h => oldcell _ h o)
    clear hR
    have HO := Lib.hid (World.ownsRow_made (base := w.heap.size + 2) (e := 81) (size := 5) ((w.alloc (.cells #[.int .u64 g, .int .u64 n, .int .u64 r, .slice (some ad) l.length c] 25)).alloc (.cells #[.int .u64 0, .int .u64 0, .int .u64 0, .slice none 0 0] 25)) #[] 0 (by simp) (by unfold maxLen; omega) rfl)
    rw [show ((w.alloc (.cells #[.int .u64 g, .int .u64 n, .int .u64 r, .slice (some ad) l.length c] 25)).alloc (.cells #[.int .u64 0, .int .u64 0, .int .u64 0, .slice none 0 0] 25)).heap.size = w.heap.size + 1 + 1 from by simp] at HO
    have K0 := Lib.hid (((Blk.new w 25 #[.int .u64 g, .int .u64 n, .int .u64 r, .slice (some ad) l.length c]).alloc (.cells #[.int .u64 0, .int .u64 0, .int .u64 0, .slice none 0 0] 25)).alloc (.cells #[] 81))
    have K1 := Lib.hid ((Blk.new1 w (.cells #[.int .u64 g, .int .u64 n, .int .u64 r, .slice (some ad) l.length c] 25) 25 #[.int .u64 0, .int .u64 0, .int .u64 0, .slice none 0 0]).alloc (.cells #[] 81))
    go_enter Try.func84, Try.ntmps84
    go_wp2_with (first
      | (at_builtin; refine wpList_append_own _ rfl _ _ 23 rfl (w.heap.size + 2) 81 i0 zslot 5 40 Try.underlying23 hi hz0 hz1 hz2 rfl (by decide) _ _ _ rfl HO.out ad l.length c (flat l) rfl (flat_len l) HC.out (flat_one l) (by unfold maxLen; omega) (by omega) (by simp) ?_; intro v' w1 hown' hgrow _; obtain ⟨A', c', hv', _⟩ := SlAt.own hown'; subst hv'; have k0 := K0.out.grown hgrow (blk_ne_own HO.out K0.out (by decide)); have k1 := K1.out.grown hgrow (blk_ne_own HO.out K1.out (by decide)); obtain ⟨c0, c1, c2, c3⟩ := k0.c4; obtain ⟨f0, f1, f2, f3⟩ := k0.f4; obtain ⟨d0, d1, d2, d3⟩ := k1.c4; obtain ⟨g0, g1, g2, g3⟩ := k1.f4; have hB : Below w.heap.size w w1 := (bal (bal (bal (Below.refl _ _) _) _) _).grown hgrow (by simp; omega) (fun k e => by have := (HO.out.lt k e).1; omega); have H5 := Lib.hid hown'; clear hown' hgrow k0 k1))
    refine bodyPost_ret (v := .agg #[.int .u64 g, .int .u64 n, .int .u64 r, .slice A' l.length c']) (by simp [results, Try.results84, go_sem, c0, c1, c2, c3, d0, d1, d2, d3]) rfl ⟨A', c', ?_, ?_, ?_⟩
    · simp
    · refine own_mono (base := w.heap.size + 2) ?_ (by omega)
      have q : w1.ownsRow (w.heap.size + 2) 81 5 (.slice A' l.length c') l.length (flat l) := by have := H5.out; simpa using this
      repeat (first | with_reducible exact q | with_reducible refine ownsRow_setCell_below ?_ (by simp; done) _)
    · exact (by repeat (first | with_reducible exact Below.refl _ _ | with_reducible refine Below.drew ?_ | with_reducible refine below_drewN ?_ _ | with_reducible refine bal ?_ _ | with_reducible refine bset ?_ (by first | (simp; done) | (simp; omega)) _ | with_reducible refine bnext ?_ (by assumption) | with_reducible assumption))

set_option maxRecDepth 100000 in
set_option maxHeartbeats 2000000 in
theorem lGrant_any (s : Led) (hw : Wf s) (t : Int) (v : Value) (w : World) (hS : SlAt w 5 v s.sl.length (flat s.sl)) :
    Calls Try.prog 86 #[.agg #[.int .u64 s.g, .int .u64 s.n, .int .u64 s.r, v], .int .u64 t] w (LedPost (grant s t) w) := by
  obtain ⟨A, c, rfl, hc1, hc2, _⟩ := id hS
  have HS := Lib.hid hS
  have HW := Lib.hid hw
  have K0 := Lib.hid ((Blk.new w 25 #[.int .u64 s.g, .int .u64 s.n, .int .u64 s.r, .slice A s.sl.length c]).alloc (.cells #[.int .u64 0, .int .u64 0, .int .u64 0, .slice none 0 0] 25))
  have K1 := Lib.hid (Blk.new1 w (.cells #[.int .u64 s.g, .int .u64 s.n, .int .u64 s.r, .slice A s.sl.length c] 25) 25 #[.int .u64 0, .int .u64 0, .int .u64 0, .slice none 0 0])
  clear hS hw
  by_cases hk : okL s
  · have hn := okL_nums hk
    have hl := okL_len hk
    have hg0 := HW.out.1.1
    have HK := Lib.hid hk
    have K : Hid ((chk s).1 = 0) := hk
    clear hk
    go_enter Try.func86, Try.ntmps86
    go_wp2_with fail
    refine (rCheck_any s HW.out _ _ ((HS.out.alloc _).alloc _)).mono ?_
    rintro e w1 ⟨rfl, hb1⟩
    rw [K.out]
    have hB1 : Below w.heap.size w w1 := bnext (bal (bal (Below.refl _ _) _) _) hb1
    have HS1 := Lib.hid (HS.out.below hB1)
    have k0 := K0.out.below hb1
    have k1 := K1.out.below hb1
    clear K0 K1
    have K0 := Lib.hid k0
    have K1 := Lib.hid k1
    obtain ⟨c0, c1, c2, c3⟩ := k0.c4
    obtain ⟨d0, d1, d2, d3⟩ := k1.c4
    obtain ⟨f0, f1, f2, f3⟩ := k1.f4
    have hlt := k1.lt
    clear hb1 k1 k0
    by_cases ht : 1125899906842624 < t
    · have G : Hid (grant s t = (⟨0, 0, 0, []⟩, 0, 2)) := by show (if _ then _ else _) = _; rw [if_neg (fun h => h HK.out), if_pos ht]
      go_wp2_with fail
      refine bodyPost_ret (v := .tuple #[.agg #[.int .u64 0, .int .u64 0, .int .u64 0, .slice none 0 0], .int .u64 0, .int .i64 2]) (by simp [results, Try.results86, go_sem, d0, d1, d2, d3]) rfl ⟨.slice none 0 0, ?_, ?_, ?_⟩
      · rw [G.out]
      · rw [G.out]; exact World.ownsRow_nil _ _ _ _
      · exact (by repeat (first | with_reducible exact Below.refl _ _ | with_reducible refine Below.drew ?_ | with_reducible refine below_drewN ?_ _ | with_reducible refine bal ?_ _ | with_reducible refine bset ?_ (by first | (simp; done) | (simp; omega)) _ | with_reducible refine bnext ?_ (by assumption) | with_reducible assumption))
    · have HT := Lib.hid ht
      go_wp2_with fail
      refine (rown_any s.g s.n s.r s.sl _ w1 HS1.out (by omega)).mono ?_
      rintro e w2 ⟨A', c', rfl, hown, hb2⟩
      have hB2 : Below w.heap.size w w2 := bnext hB1 hb2
      clear c0 c1 c2 c3 d0 d1 d2 d3 f0 f1 f2 f3
      have k0 := K0.out.below hb2
      have k1 := K1.out.below hb2
      obtain ⟨c0, c1, c2, c3⟩ := k0.c4
      obtain ⟨d0, d1, d2, d3⟩ := k1.c4
      obtain ⟨f0, f1, f2, f3⟩ := k1.f4
      have hlt2 := k1.lt
      have hlt3 : w.heap.size < w2.heap.size := by omega
      have hne : ¬ w.heap.size + 1 = w2.heap.size := by omega
      have hne0 : ¬ w.heap.size = w2.heap.size := by omega
      have HO := Lib.hid (own_mono hown (show w.heap.size + 2 ≤ _ by omega))
      clear hown hb2 k0 k1
      by_cases hg : t ≤ s.g
      · have G : Hid (grant s t = (s, 0, 0)) := by show (if _ then _ else _) = _; rw [if_neg (fun h => h HK.out), if_neg (by have := HT.out; omega), if_pos hg]
        go_wp2_with fail
        refine bodyPost_ret (v := .tuple #[.agg #[.int .u64 s.g, .int .u64 s.n, .int .u64 s.r, .slice A' s.sl.length c'], .int .u64 0, .int .i64 0]) (by simp [results, Try.results86, go_sem, d0, d1, d2, d3, hne, hlt2]) rfl ⟨.slice A' s.sl.length c', ?_, ?_, ?_⟩
        · rw [G.out]
        · rw [G.out]
          refine own_mono (base := w.heap.size + 2) ?_ (by omega)
          repeat (first | with_reducible exact HO.out | with_reducible refine World.ownsRow.drew ?_ | with_reducible refine World.ownsRow.alloc ?_ _ | with_reducible refine ownsRow_setCell_below ?_ (by simp) _)
        · exact (by repeat (first | with_reducible exact Below.refl _ _ | with_reducible refine Below.drew ?_ | with_reducible refine below_drewN ?_ _ | with_reducible refine bal ?_ _ | with_reducible refine bset ?_ (by first | (simp; done) | (simp; omega)) _ | with_reducible refine bnext ?_ (by assumption) | with_reducible assumption))
      · have hg' : s.g < t := by omega
        have G : Hid (grant s t = ({ s with g := t }, t - s.g, 0)) := by show (if _ then _ else _) = _; rw [if_neg (fun h => h HK.out), if_neg (by have := HT.out; omega), if_neg hg]
        have WR : IntKind.u64.wrap (t - s.g) = t - s.g := IntWalk.u64_in _ (by omega)
        clear hg
        go_upto_region 10 with fail
        go_region
        all_goals
          clear WR
          go_wp2_with fail
          refine bodyPost_ret (v := .tuple #[.agg #[.int .u64 t, .int .u64 s.n, .int .u64 s.r, .slice A' s.sl.length c'], .int .u64 (t - s.g), .int .i64 0]) (by simp [results, Try.results86, go_sem, d0, d1, d2, d3, hne, hlt2]) rfl ⟨.slice A' s.sl.length c', ?_, ?_, ?_⟩
          · rw [G.out]
          · rw [G.out]
            refine own_mono (base := w.heap.size + 2) ?_ (by omega)
            repeat (first | with_reducible exact HO.out | with_reducible refine World.ownsRow.drew ?_ | with_reducible refine World.ownsRow.alloc ?_ _ | with_reducible refine ownsRow_setCell_below ?_ (by simp) _)
          · exact (by repeat (first | with_reducible exact Below.refl _ _ | with_reducible refine Below.drew ?_ | with_reducible refine below_drewN ?_ _ | with_reducible refine bal ?_ _ | with_reducible refine bset ?_ (by first | (simp; done) | (simp; omega)) _ | with_reducible refine bnext ?_ (by assumption) | with_reducible assumption))
  · have K : Hid ((chk s).1 ≠ 0) := hk
    have hne : ((chk s).1 != 0) = true := by rw [bne_iff_ne]; exact hk
    have heq : ((chk s).1 == 0) = false := by rw [beq_eq_false_iff_ne]; exact hk
    have G : Hid (grant s t = (⟨0, 0, 0, []⟩, 0, (chk s).1)) := if_pos hk
    clear hk
    go_enter Try.func86, Try.ntmps86
    go_wp2_with fail
    refine (rCheck_any s HW.out _ _ ((HS.out.alloc _).alloc _)).mono ?_
    rintro e w1 ⟨rfl, hb1⟩
    have hB1 : Below w.heap.size w w1 := bnext (bal (bal (Below.refl _ _) _) _) hb1
    have k1 := K1.out.below hb1
    obtain ⟨d0, d1, d2, d3⟩ := k1.c4
    obtain ⟨f0, f1, f2, f3⟩ := k1.f4
    have hlt := k1.lt
    clear hb1 k1
    go_wp2_with fail
    refine bodyPost_ret (v := .tuple #[.agg #[.int .u64 0, .int .u64 0, .int .u64 0, .slice none 0 0], .int .u64 0, .int .i64 (chk s).1]) (by simp [results, Try.results86, go_sem, d0, d1, d2, d3]) rfl ⟨.slice none 0 0, ?_, ?_, ?_⟩
    · rw [G.out]
    · rw [G.out]; exact World.ownsRow_nil _ _ _ _
    · exact (by repeat (first | with_reducible exact Below.refl _ _ | with_reducible refine Below.drew ?_ | with_reducible refine below_drewN ?_ _ | with_reducible refine bal ?_ _ | with_reducible refine bset ?_ (by first | (simp; done) | (simp; omega)) _ | with_reducible refine bnext ?_ (by assumption) | with_reducible assumption))
set_option maxRecDepth 100000 in
set_option maxHeartbeats 2000000 in
theorem rfind_any (g n r : Int) (node seq io : Int) (l : List Sl) (v : Value) (w : World) (hS : SlAt w 5 v l.length (flat l)) :
    Calls Try.prog 83 #[.agg #[.int .u64 g, .int .u64 n, .int .u64 r, v], .agg #[.int .i64 node, .int .u64 seq, .int .i64 io]] w (RetI .i64 (idx node seq io l) w) := by
  obtain ⟨A, c, rfl, hc1, hc2, hR⟩ := id hS
  have HS := Lib.hid hS
  clear hS hR
  unfold maxLen at hc2
  go_enter Try.func83, Try.ntmps83
  go_wp2_with fail
  obtain ⟨W, hW⟩ : ∃ W, (w.alloc (.cells #[.int .u64 g, .int .u64 n, .int .u64 r, .slice A l.length c] 25)).alloc (.cells #[.int .i64 node, .int .u64 seq, .int .i64 io] 47) = W := ⟨_, rfl⟩
  have hBW : Below w.heap.size w W := by rw [← hW]; exact bal (bal (Below.refl _ _) _) _
  have K0 : Hid (Blk W w.heap.size 25 #[.int .u64 g, .int .u64 n, .int .u64 r, .slice A l.length c]) := by rw [← hW]; exact Lib.hid ((Blk.new _ _ _).alloc _)
  have K1 : Hid (Blk W (w.heap.size + 1) 47 #[.int .i64 node, .int .u64 seq, .int .i64 io]) := by rw [← hW]; exact Lib.hid (Blk.new1 _ _ _ _)
  have HSW : Hid (SlAt W 5 (.slice A l.length c) l.length (flat l)) := Lib.hid (HS.out.below hBW)
  clear HS
  rw [hW]
  clear hW
  go_loopw [5] (fun a wr => ∃ k : Nat, k ≤ l.length ∧ a = .int .i64 k ∧ (∀ q y, q < k → l[q]? = some y → y.has node seq io = false) ∧ Below W.heap.size W wr) (fun a _ => l.length - (intOf a).toNat)
  case atStart => exact ⟨0, by omega, rfl, fun q y h => by omega, Below.refl _ _⟩
  case round =>
    obtain ⟨k, hk, rfl, hno, hB⟩ := hrel
    have HNO := Lib.hid hno
    have k0 := K0.out.below hB
    have k1 := K1.out.below hB
    obtain ⟨c0, c1, c2, c3⟩ := k0.c4
    obtain ⟨d0, d1, d2⟩ := k1.c3
    clear hno k0 k1
    by_cases hkl : k < l.length
    · obtain ⟨y, hy⟩ : ∃ y, l[k]? = some y := ⟨_, List.getElem?_eq_getElem hkl⟩
      obtain ⟨_, _, e1, _, _, hR1⟩ := HSW.out.below hB
      cases e1
      obtain ⟨b, o, rfl, _, y0, y1, y2, y3, y4⟩ := slot_cells hR1 rfl hy
      have hkl' : (k : Int) < l.length := by omega
      have hk0 : (0 : Int) ≤ (k : Int) := by omega
      clear hR1
      by_cases hh : y.has node seq io = true
      · have E : Hid (idx node seq io l = k) := by
          have hf : fnd node seq io l = k := fnd_is _ _ _ _ _ hk HNO.out fun _ => ⟨y, hy, hh⟩
          show (if _ then _ else _) = _
          rw [hf, if_pos hkl]
        have he : ∀ w, (binOp .eql 47 (.agg #[.int .i64 y.node, .int .u64 y.seq, .int .i64 y.io]) (.agg #[.int .i64 node, .int .u64 seq, .int .i64 io])).run Try.prog w = .ok (.bool true) w := fun w => by rw [run_eql_id]; unfold Sl.has at hh; rw [hh]
        clear hy hh
        go_wp2_with fail
        go_quiet (fail)
        go_wp2_with fail
        go_ret
        exact ⟨by rw [E.out]; rfl, below_drewN (bnext hBW hB) _⟩
      · have hh' : y.has node seq io = false := by simpa using hh
        have he : ∀ w, (binOp .eql 47 (.agg #[.int .i64 y.node, .int .u64 y.seq, .int .i64 y.io]) (.agg #[.int .i64 node, .int .u64 seq, .int .i64 io])).run Try.prog w = .ok (.bool false) w := fun w => by rw [run_eql_id]; unfold Sl.has at hh'; rw [hh']
        have HNO2 : Hid (∀ q z, q < k + 1 → l[q]? = some z → z.has node seq io = false) := hidI' (fun q z hq hz => by
          by_cases hqk : q = k
          · subst hqk; rw [hy] at hz; cases hz; exact hh'
          · exact HNO.out q z (by omega) hz)
        clear hy hh hh'
        go_wp2_with fail
        go_quiet (fail)
        go_wp2_with fail
        go_roundw
        case rel => exact ⟨k + 1, by omega, by go_num, HNO2.out, below_drewN hB _⟩
        case measure => simp [intOf]; omega
    · obtain rfl : k = l.length := by omega
      have E : Hid (idx node seq io l = -1) := by
        have hf : fnd node seq io l = l.length := fnd_is _ _ _ _ _ hk HNO.out fun h => absurd h (by omega)
        show (if _ then _ else _) = _
        rw [hf, if_neg (by omega)]
      go_wp2_with fail
      go_ret
      exact ⟨by rw [E.out]; rfl, bnext hBW hB⟩

theorem newadd1 (w : World) (o : Obj) (cs : List Value) (t : TypeId) (j : Nat) : ((w.alloc o).alloc (.cells cs.toArray t)).cell? ((⟨w.heap.size + 1, 0, none⟩ : Addr).add j) = cs[j]? := by
  have := newadd (w.alloc o) cs t j
  rwa [World.size_alloc] at this
theorem rusable_u (g n r u : Int) (hu : Hid (g - n - r = u)) (v : Value) (w : World) (hg : g ≤ 18446744073709551615) (hn : 0 ≤ n) (hr : 0 ≤ r) (h : n + r ≤ g) (hv : ∃ A l c, v = .slice A l c) :
    Calls Try.prog 80 #[.agg #[.int .u64 g, .int .u64 n, .int .u64 r, v]] w (RetI .u64 u w) := by
  rw [← hu.out]; exact rusable_any g n r v w hg hn hr h hv
set_option maxRecDepth 100000 in
set_option maxHeartbeats 4000000 in
theorem lOffer_any (s : Led) (hw : Wf s) (size node seq io : Int) (hz0 : 0 ≤ size) (hz1 : size ≤ 18446744073709551615) (v : Value) (w : World) (hS : SlAt w 5 v s.sl.length (flat s.sl)) :
    Calls Try.prog 47 #[.agg #[.int .u64 s.g, .int .u64 s.n, .int .u64 s.r, v], .int .u64 size, .agg #[.int .i64 node, .int .u64 seq, .int .i64 io]] w (LedPost (offer s size node seq io) w) := by
  obtain ⟨g, n, r, l⟩ := s
  obtain ⟨A, c, rfl, hc1, hc2, _⟩ := id hS
  have HS := Lib.hid (((hS.alloc (.cells #[.int .u64 g, .int .u64 n, .int .u64 r, .slice A l.length c] 25)).alloc (.cells #[.int .i64 node, .int .u64 seq, .int .i64 io] 47)).alloc (.cells #[.int .u64 0, .int .u64 0, .int .u64 0, .slice none 0 0] 25))
  have HW := Lib.hid hw
  have K0 := Lib.hid (((Blk.new w 25 #[.int .u64 g, .int .u64 n, .int .u64 r, .slice A l.length c]).alloc (.cells #[.int .i64 node, .int .u64 seq, .int .i64 io] 47)).alloc (.cells #[.int .u64 0, .int .u64 0, .int .u64 0, .slice none 0 0] 25))
  have KI := Lib.hid ((Blk.new1 w (.cells #[.int .u64 g, .int .u64 n, .int .u64 r, .slice A l.length c] 25) 47 #[.int .i64 node, .int .u64 seq, .int .i64 io]).alloc (.cells #[.int .u64 0, .int .u64 0, .int .u64 0, .slice none 0 0] 25))
  have KR := Lib.hid (Blk.new2 w (.cells #[.int .u64 g, .int .u64 n, .int .u64 r, .slice A l.length c] 25) (.cells #[.int .i64 node, .int .u64 seq, .int .i64 io] 47) 25 #[.int .u64 0, .int .u64 0, .int .u64 0, .slice none 0 0])
  have hB0 : Below w.heap.size w (((w.alloc (.cells #[.int .u64 g, .int .u64 n, .int .u64 r, .slice A l.length c] 25)).alloc (.cells #[.int .i64 node, .int .u64 seq, .int .i64 io] 47)).alloc (.cells #[.int .u64 0, .int .u64 0, .int .u64 0, .slice none 0 0] 25)) := bal (bal (bal (Below.refl _ _) _) _) _
  clear hS hw
  dsimp only at *
  by_cases hk : okL ⟨g, n, r, l⟩
  · have hn : g ≤ 1125899906842624 ∧ r ≤ g ∧ n ≤ g - r := okL_nums hk
    have hlen : l.length ≤ 100 := okL_len hk
    have hg0 : 0 ≤ g := HW.out.1.1
    have hg1 : g ≤ 18446744073709551615 := HW.out.1.2
    have hn0 : 0 ≤ n := HW.out.2.1.1
    have hr0 : 0 ≤ r := HW.out.2.2.1.1
    have hsum : n + r ≤ g := by omega
    obtain ⟨u, hu⟩ : ∃ u, g - n - r = u := ⟨_, rfl⟩
    have hu0 : 0 ≤ u := by omega
    have hu2 : n + u ≤ 18446744073709551615 := by omega
    have HU := Lib.hid hu
    have HK := Lib.hid hk
    have K : Hid ((chk ⟨g, n, r, l⟩).1 = 0) := hk
    clear hk hu
    go_enter Try.func47, Try.ntmps47
    go_wp2_with fail
    refine (rCheck_any ⟨g, n, r, l⟩ HW.out _ _ HS.out).mono ?_
    rintro e w1 ⟨rfl, hb1⟩
    rw [K.out]
    have hB1 : Below w.heap.size w w1 := bnext hB0 hb1
    have k0 := K0.out.below hb1
    have ki := KI.out.below hb1
    have kr := KR.out.below hb1
    have hs := HS.out.below hb1
    obtain ⟨c0, c1, c2, c3⟩ := k0.c4
    obtain ⟨i0, i1, i2⟩ := ki.c3
    obtain ⟨d0, d1, d2, d3⟩ := kr.c4
    obtain ⟨f0, f1, f2, f3⟩ := kr.f4
    have hlt0 := k0.lt
    have hlt1 := ki.lt
    have hlt2 := kr.lt
    clear K0 KI KR HS
    have K0 := Lib.hid k0
    have KI := Lib.hid ki
    have KR := Lib.hid kr
    have HS := Lib.hid hs
    clear k0 ki kr hs
    by_cases c1' : size = 0
    · have t1 : (size == 0) = true := by rw [beq_iff_eq]; exact c1'
      have C1 := Lib.hid c1'
      clear c1'
      have G : Hid (offer ⟨g, n, r, l⟩ size node seq io = (⟨0, 0, 0, []⟩, 0, 2)) := by
        show (if _ then _ else _) = _
        rw [if_neg (fun h => h HK.out), if_pos (.inl C1.out)]
      go_wp2_with fail
      refine bodyPost_ret (v := .tuple #[.agg #[.int .u64 0, .int .u64 0, .int .u64 0, .slice none 0 0], .int .u64 0, .int .i64 2]) (by simp [results, Try.results47, go_sem, d0, d1, d2, d3]) rfl ⟨.slice none 0 0, ?_, ?_, ?_⟩
      · rw [G.out]
      · rw [G.out]; exact World.ownsRow_nil _ _ _ _
      · exact (by repeat (first | with_reducible exact Below.refl _ _ | with_reducible refine Below.drew ?_ | with_reducible refine below_drewN ?_ _ | with_reducible refine bal ?_ _ | with_reducible refine bset ?_ (by first | (simp; done) | (simp; omega)) _ | with_reducible refine bnext ?_ (by assumption) | with_reducible assumption))
    · have t1 : (size == 0) = false := by rw [beq_eq_false_iff_ne]; exact c1'
      by_cases c2' : IdOk node seq io
      · have ID : Hid (idE node seq io = 0) := if_pos c2'
        have N1 : Hid (¬ (size = 0 ∨ ¬ IdOk node seq io)) := fun h => h.elim c1' (fun h => h c2')
        clear c1' c2'
        go_wp2_with fail
        refine (rCheckID_any _ _ _ _).mono ?_
        rintro e w2 ⟨rfl, hb2⟩
        rw [ID.out]
        have hB2 : Below w.heap.size w w2 := bnext hB1 hb2
        clear c0 c1 c2 c3 i0 i1 i2 d0 d1 d2 d3 f0 f1 f2 f3 hlt0 hlt1 hlt2
        have k0 := K0.out.below hb2
        have ki := KI.out.below hb2
        have kr := KR.out.below hb2
        have hs := HS.out.below hb2
        obtain ⟨c0, c1, c2, c3⟩ := k0.c4
        obtain ⟨i0, i1, i2⟩ := ki.c3
        obtain ⟨d0, d1, d2, d3⟩ := kr.c4
        obtain ⟨f0, f1, f2, f3⟩ := kr.f4
        have hlt0 := k0.lt
        have hlt1 := ki.lt
        have hlt2 := kr.lt
        clear K0 KI KR HS
        have K0 := Lib.hid k0
        have KI := Lib.hid ki
        have KR := Lib.hid kr
        have HS := Lib.hid hs
        clear k0 ki kr hs
        by_cases c3' : anyHas node seq io l = true
        · have hid := idx_pos c3'
          have C3 := Lib.hid c3'
          clear c3'
          have G : Hid (offer ⟨g, n, r, l⟩ size node seq io = (⟨0, 0, 0, []⟩, 0, 9)) := by
            show (if _ then _ else _) = _
            rw [if_neg (fun h => h HK.out), if_neg N1.out, if_pos C3.out]
          go_wp2_with fail
          refine (rfind_any g n r node seq io l _ _ HS.out).mono ?_
          rintro e w3 ⟨rfl, hb3⟩
          have hB3 : Below w.heap.size w w3 := bnext hB2 hb3
          clear c0 c1 c2 c3 i0 i1 i2 d0 d1 d2 d3 f0 f1 f2 f3 hlt0 hlt1 hlt2
          have k0 := K0.out.below hb3
          have ki := KI.out.below hb3
          have kr := KR.out.below hb3
          have hs := HS.out.below hb3
          obtain ⟨c0, c1, c2, c3⟩ := k0.c4
          obtain ⟨i0, i1, i2⟩ := ki.c3
          obtain ⟨d0, d1, d2, d3⟩ := kr.c4
          obtain ⟨f0, f1, f2, f3⟩ := kr.f4
          have hlt0 := k0.lt
          have hlt1 := ki.lt
          have hlt2 := kr.lt
          clear K0 KI KR HS
          have K0 := Lib.hid k0
          have KI := Lib.hid ki
          have KR := Lib.hid kr
          have HS := Lib.hid hs
          clear k0 ki kr hs
          go_wp2_with fail
          refine bodyPost_ret (v := .tuple #[.agg #[.int .u64 0, .int .u64 0, .int .u64 0, .slice none 0 0], .int .u64 0, .int .i64 9]) (by simp [results, Try.results47, go_sem, d0, d1, d2, d3]) rfl ⟨.slice none 0 0, ?_, ?_, ?_⟩
          · rw [G.out]
          · rw [G.out]; exact World.ownsRow_nil _ _ _ _
          · exact (by repeat (first | with_reducible exact Below.refl _ _ | with_reducible refine Below.drew ?_ | with_reducible refine below_drewN ?_ _ | with_reducible refine bal ?_ _ | with_reducible refine bset ?_ (by first | (simp; done) | (simp; omega)) _ | with_reducible refine bnext ?_ (by assumption) | with_reducible assumption))
        · have hid : idx node seq io l < 0 := idx_neg (by simpa using c3')
          have hid' : ¬ 0 ≤ idx node seq io l := by omega
          have C3 : Hid (¬ anyHas node seq io l = true) := c3'
          clear c3'
          go_wp2_with fail
          refine (rfind_any g n r node seq io l _ _ HS.out).mono ?_
          rintro e w3 ⟨rfl, hb3⟩
          have hB3 : Below w.heap.size w w3 := bnext hB2 hb3
          clear c0 c1 c2 c3 i0 i1 i2 d0 d1 d2 d3 f0 f1 f2 f3 hlt0 hlt1 hlt2
          have k0 := K0.out.below hb3
          have ki := KI.out.below hb3
          have kr := KR.out.below hb3
          have hs := HS.out.below hb3
          obtain ⟨c0, c1, c2, c3⟩ := k0.c4
          obtain ⟨i0, i1, i2⟩ := ki.c3
          obtain ⟨d0, d1, d2, d3⟩ := kr.c4
          obtain ⟨f0, f1, f2, f3⟩ := kr.f4
          have hlt0 := k0.lt
          have hlt1 := ki.lt
          have hlt2 := kr.lt
          clear K0 KI KR HS
          have K0 := Lib.hid k0
          have KI := Lib.hid ki
          have KR := Lib.hid kr
          have HS := Lib.hid hs
          clear k0 ki kr hs
          by_cases c4' : l.length = 100
          · have t2 : ((l.length : Int) == 100) = true := by rw [beq_iff_eq]; omega
            have C4 := Lib.hid c4'
            clear c4'
            have G : Hid (offer ⟨g, n, r, l⟩ size node seq io = (⟨0, 0, 0, []⟩, 0, 5)) := by
              show (if _ then _ else _) = _
              rw [if_neg (fun h => h HK.out), if_neg N1.out, if_neg C3.out, if_pos C4.out]
            go_wp2_with fail
            refine bodyPost_ret (v := .tuple #[.agg #[.int .u64 0, .int .u64 0, .int .u64 0, .slice none 0 0], .int .u64 0, .int .i64 5]) (by simp [results, Try.results47, go_sem, d0, d1, d2, d3]) rfl ⟨.slice none 0 0, ?_, ?_, ?_⟩
            · rw [G.out]
            · rw [G.out]; exact World.ownsRow_nil _ _ _ _
            · exact (by repeat (first | with_reducible exact Below.refl _ _ | with_reducible refine Below.drew ?_ | with_reducible refine below_drewN ?_ _ | with_reducible refine bal ?_ _ | with_reducible refine bset ?_ (by first | (simp; done) | (simp; omega)) _ | with_reducible refine bnext ?_ (by assumption) | with_reducible assumption))
          · have t2 : ((l.length : Int) == 100) = false := by rw [beq_eq_false_iff_ne]; omega
            have C4 : Hid (¬ l.length = 100) := c4'
            clear c4'
            go_wp2_with fail
            refine (rusable_u g n r u HU _ _ (by omega) (by omega) (by omega) (by omega) ⟨_, _, _, rfl⟩).mono ?_
            rintro e w4 ⟨rfl, hb4⟩
            have hB4 : Below w.heap.size w w4 := bnext hB3 hb4
            clear c0 c1 c2 c3 i0 i1 i2 d0 d1 d2 d3 f0 f1 f2 f3 hlt0 hlt1 hlt2
            have k0 := K0.out.below hb4
            have ki := KI.out.below hb4
            have kr := KR.out.below hb4
            have hs := HS.out.below hb4
            obtain ⟨c0, c1, c2, c3⟩ := k0.c4
            obtain ⟨i0, i1, i2⟩ := ki.c3
            obtain ⟨d0, d1, d2, d3⟩ := kr.c4
            obtain ⟨f0, f1, f2, f3⟩ := kr.f4
            have hlt0 := k0.lt
            have hlt1 := ki.lt
            have hlt2 := kr.lt
            clear K0 KI KR HS
            have K0 := Lib.hid k0
            have KI := Lib.hid ki
            have KR := Lib.hid kr
            have HS := Lib.hid hs
            clear k0 ki kr hs
            by_cases c5 : u < size
            · have G : Hid (offer ⟨g, n, r, l⟩ size node seq io = (⟨0, 0, 0, []⟩, 0, 14)) := by
                show (if _ then _ else _) = _
                rw [if_neg (fun h => h HK.out), if_neg N1.out, if_neg C3.out, if_neg C4.out]
                have e : usab ⟨g, n, r, l⟩ = u := HU.out
                rw [e, if_pos c5]
              go_wp2_with fail
              refine bodyPost_ret (v := .tuple #[.agg #[.int .u64 0, .int .u64 0, .int .u64 0, .slice none 0 0], .int .u64 0, .int .i64 14]) (by simp [results, Try.results47, go_sem, d0, d1, d2, d3]) rfl ⟨.slice none 0 0, ?_, ?_, ?_⟩
              · rw [G.out]
              · rw [G.out]; exact World.ownsRow_nil _ _ _ _
              · exact (by repeat (first | with_reducible exact Below.refl _ _ | with_reducible refine Below.drew ?_ | with_reducible refine below_drewN ?_ _ | with_reducible refine bal ?_ _ | with_reducible refine bset ?_ (by first | (simp; done) | (simp; omega)) _ | with_reducible refine bnext ?_ (by assumption) | with_reducible assumption))
            · have G : Hid (offer ⟨g, n, r, l⟩ size node seq io = (⟨g, n + size, r, l ++ [⟨n, size, node, seq, io⟩]⟩, n, 0)) := by
                show (if _ then _ else _) = _
                rw [if_neg (fun h => h HK.out), if_neg N1.out, if_neg C3.out, if_neg C4.out]
                have e : usab ⟨g, n, r, l⟩ = u := HU.out
                rw [e, if_neg c5]
              have c5' : size ≤ u := by omega
              have hns : n + size ≤ 18446744073709551615 := by omega
              clear c5
              obtain ⟨ii, hi, hq0, hq1, hq2⟩ := info_parts infoSlot
              go_wp2_with fail
              refine (rown_any g n r l _ w4 HS.out (by omega)).mono ?_
              rintro e w5 ⟨A', c', rfl, hown, hb5⟩
              have HO := Lib.hid (own_mono hown (show w.heap.size + 3 ≤ _ by omega))
              clear hown
              have hB5 : Below w.heap.size w w5 := bnext hB4 hb5
              clear c0 c1 c2 c3 i0 i1 i2 d0 d1 d2 d3 f0 f1 f2 f3 hlt0 hlt1 hlt2
              have k0 := K0.out.below hb5
              have ki := KI.out.below hb5
              have kr := KR.out.below hb5
              have hs := HS.out.below hb5
              obtain ⟨c0, c1, c2, c3⟩ := k0.c4
              obtain ⟨i0, i1, i2⟩ := ki.c3
              obtain ⟨d0, d1, d2, d3⟩ := kr.c4
              obtain ⟨f0, f1, f2, f3⟩ := kr.f4
              have hlt0 := k0.lt
              have hlt1 := ki.lt
              have hlt2 := kr.lt
              clear K0 KI KR HS
              have K0 := Lib.hid k0
              have KI := Lib.hid ki
              have KR := Lib.hid kr
              have HS := Lib.hid hs
              clear k0 ki kr hs
              have KO := Lib.hid (Blk.new w5 25 #[.int .u64 g, .int .u64 n, .int .u64 r, .slice A' l.length c'])
              have HOA := Lib.hid ((HO.out.alloc (.cells #[.int .u64 g, .int .u64 n, .int .u64 r, .slice A' l.length c'] 25)).alloc (.cells #[.int .u64 n, .int .u64 size, .int .i64 node, .int .u64 seq, .int .i64 io] 81))
              have K0A := Lib.hid ((K0.out.alloc (.cells #[.int .u64 g, .int .u64 n, .int .u64 r, .slice A' l.length c'] 25)).alloc (.cells #[.int .u64 n, .int .u64 size, .int .i64 node, .int .u64 seq, .int .i64 io] 81))
              have KRA := Lib.hid ((KR.out.alloc (.cells #[.int .u64 g, .int .u64 n, .int .u64 r, .slice A' l.length c'] 25)).alloc (.cells #[.int .u64 n, .int .u64 size, .int .i64 node, .int .u64 seq, .int .i64 io] 81))
              have KOA := Lib.hid (KO.out.alloc (.cells #[.int .u64 n, .int .u64 size, .int .i64 node, .int .u64 seq, .int .i64 io] 81))
              have hBA : Below w.heap.size w ((w5.alloc (.cells #[.int .u64 g, .int .u64 n, .int .u64 r, .slice A' l.length c'] 25)).alloc (.cells #[.int .u64 n, .int .u64 size, .int .i64 node, .int .u64 seq, .int .i64 io] 81)) := bal (bal hB5 _) _
              have hlt3 : w.heap.size + 3 ≤ w5.heap.size := by omega
              have hlt4 : w.heap.size < w5.heap.size := by omega
              have hlt5 : w.heap.size + 1 < w5.heap.size := by omega
              have hneA : ¬ w.heap.size + 1 + 1 = w5.heap.size := by omega
              have hneB : ¬ w.heap.size = w5.heap.size := by omega
              go_wp2_with (first
                | (at_builtin; refine wpList_append_own _ rfl _ _ 23 rfl (w.heap.size + 3) 81 ii zslot 5 40 Try.underlying23 hi hq0 hq1 hq2 rfl (by decide) _ _ _ rfl HOA.out ⟨w5.heap.size + 1, 0, none⟩ 1 1 [.int .u64 n, .int .u64 size, .int .i64 node, .int .u64 seq, .int .i64 io] rfl rfl (fun j x hj => by rw [← hj]; exact newadd1 _ _ _ _ _) (by intro x hx; simp at hx; rcases hx with rfl | rfl | rfl | rfl | rfl <;> rfl) (by unfold maxLen; omega) (by omega) (by simp; omega) ?_; intro v' w6 hown' hgrow _; obtain ⟨g', cap', rfl⟩ := ownsRow_succ hown'; have k06 := K0A.out.grown hgrow (blk_ne_own HOA.out K0A.out (by decide)); have kr6 := KRA.out.grown hgrow (blk_ne_own HOA.out KRA.out (by decide)); have ko6 := KOA.out.grown hgrow (blk_ne_own HOA.out KOA.out (by decide)); clear c0 c1 c2 c3 i0 i1 i2 d0 d1 d2 d3 f0 f1 f2 f3 hlt0 hlt1 hlt2; obtain ⟨c0, c1, c2, c3⟩ := k06.c4; obtain ⟨d0, d1, d2, d3⟩ := kr6.c4; obtain ⟨f0, f1, f2, f3⟩ := kr6.f4; obtain ⟨l0, l1, l2, l3⟩ := ko6.c4; obtain ⟨m0, m1, m2, m3⟩ := ko6.f4; have hlr6 := kr6.lt; have hlo6 := ko6.lt; have hB6 : Below w.heap.size w w6 := hBA.grown hgrow (by simp; omega) (fun k e => by have := (HOA.out.lt k e).1; omega); have HO6 := Lib.hid hown'; have KO6 := Lib.hid ko6; clear k06 kr6 ko6 hown' hgrow))
              have p0 := ho_far (a := ⟨w5.heap.size, 3, none⟩) HO6.out KO6.out (by decide) (.slice (some ⟨g', 0, none⟩) (l.length + 1) cap')
              have p1 := ho_far (a := ⟨w5.heap.size, 1, none⟩) p0 (KO6.out.set 3 _) (by decide) (.int .u64 (n + size))
              have P1 := Lib.hid p1
              clear p0 p1
              go_region
              all_goals
                go_wp2_with fail
                refine bodyPost_ret (v := .tuple #[.agg #[.int .u64 g, .int .u64 (n + size), .int .u64 r, .slice (some ⟨g', 0, none⟩) (l.length + 1) cap'], .int .u64 n, .int .i64 0]) (by simp [results, Try.results47, go_sem, d0, d1, d2, d3, l0, l1, l2, l3, hneA]) rfl ⟨.slice (some ⟨g', 0, none⟩) (l.length + 1) cap', ?_, ?_, ?_⟩
                · rw [G.out]
                · rw [G.out]
                  refine own_mono (base := w.heap.size + 3) ?_ (by omega)
                  have q := P1.out
                  have el : (l ++ [(⟨n, size, node, seq, io⟩ : Sl)]).length = l.length + 1 := by simp
                  have ef := flat_snoc l ⟨n, size, node, seq, io⟩
                  dsimp only at ef ⊢
                  rw [el, ef]
                  repeat (first | with_reducible exact q | with_reducible refine World.ownsRow.drew ?_ | with_reducible refine World.ownsRow.alloc ?_ _ | with_reducible refine ownsRow_setCell_below ?_ (by simp; done) _)
                · exact (by repeat (first | with_reducible exact Below.refl _ _ | with_reducible refine Below.drew ?_ | with_reducible refine below_drewN ?_ _ | with_reducible refine bal ?_ _ | with_reducible refine bset ?_ (by first | (simp; done) | (simp; omega)) _ | with_reducible refine bnext ?_ (by assumption) | with_reducible assumption))
      · have ID : Hid (idE node seq io = 2) := if_neg c2'
        have C2 := Lib.hid c2'
        clear c1' c2'
        have G : Hid (offer ⟨g, n, r, l⟩ size node seq io = (⟨0, 0, 0, []⟩, 0, 2)) := by
          show (if _ then _ else _) = _
          rw [if_neg (fun h => h HK.out), if_pos (.inr C2.out)]
        go_wp2_with fail
        refine (rCheckID_any _ _ _ _).mono ?_
        rintro e w2 ⟨rfl, hb2⟩
        rw [ID.out]
        have hB2 : Below w.heap.size w w2 := bnext hB1 hb2
        clear c0 c1 c2 c3 i0 i1 i2 d0 d1 d2 d3 f0 f1 f2 f3 hlt0 hlt1 hlt2
        have k0 := K0.out.below hb2
        have ki := KI.out.below hb2
        have kr := KR.out.below hb2
        have hs := HS.out.below hb2
        obtain ⟨c0, c1, c2, c3⟩ := k0.c4
        obtain ⟨i0, i1, i2⟩ := ki.c3
        obtain ⟨d0, d1, d2, d3⟩ := kr.c4
        obtain ⟨f0, f1, f2, f3⟩ := kr.f4
        have hlt0 := k0.lt
        have hlt1 := ki.lt
        have hlt2 := kr.lt
        clear K0 KI KR HS
        have K0 := Lib.hid k0
        have KI := Lib.hid ki
        have KR := Lib.hid kr
        have HS := Lib.hid hs
        clear k0 ki kr hs
        go_wp2_with fail
        refine bodyPost_ret (v := .tuple #[.agg #[.int .u64 0, .int .u64 0, .int .u64 0, .slice none 0 0], .int .u64 0, .int .i64 2]) (by simp [results, Try.results47, go_sem, d0, d1, d2, d3]) rfl ⟨.slice none 0 0, ?_, ?_, ?_⟩
        · rw [G.out]
        · rw [G.out]; exact World.ownsRow_nil _ _ _ _
        · exact (by repeat (first | with_reducible exact Below.refl _ _ | with_reducible refine Below.drew ?_ | with_reducible refine below_drewN ?_ _ | with_reducible refine bal ?_ _ | with_reducible refine bset ?_ (by first | (simp; done) | (simp; omega)) _ | with_reducible refine bnext ?_ (by assumption) | with_reducible assumption))
  · have HK := Lib.hid hk
    have hne : ((chk ⟨g, n, r, l⟩).1 != 0) = true := by rw [bne_iff_ne]; exact hk
    have G : Hid (offer ⟨g, n, r, l⟩ size node seq io = (⟨0, 0, 0, []⟩, 0, (chk ⟨g, n, r, l⟩).1)) := if_pos hk
    clear hk
    go_enter Try.func47, Try.ntmps47
    go_wp2_with fail
    refine (rCheck_any ⟨g, n, r, l⟩ HW.out _ _ HS.out).mono ?_
    rintro e w1 ⟨rfl, hb1⟩
    have hB1 : Below w.heap.size w w1 := bnext hB0 hb1
    have k0 := K0.out.below hb1
    have ki := KI.out.below hb1
    have kr := KR.out.below hb1
    have hs := HS.out.below hb1
    obtain ⟨c0, c1, c2, c3⟩ := k0.c4
    obtain ⟨i0, i1, i2⟩ := ki.c3
    obtain ⟨d0, d1, d2, d3⟩ := kr.c4
    obtain ⟨f0, f1, f2, f3⟩ := kr.f4
    have hlt0 := k0.lt
    have hlt1 := ki.lt
    have hlt2 := kr.lt
    clear K0 KI KR HS
    have K0 := Lib.hid k0
    have KI := Lib.hid ki
    have KR := Lib.hid kr
    have HS := Lib.hid hs
    clear k0 ki kr hs
    generalize (chk ⟨g, n, r, l⟩).1 = er at *
    go_wp2_with fail
    refine bodyPost_ret (v := .tuple #[.agg #[.int .u64 0, .int .u64 0, .int .u64 0, .slice none 0 0], .int .u64 0, .int .i64 er]) (by simp [results, Try.results47, go_sem, d0, d1, d2, d3]) rfl ⟨.slice none 0 0, ?_, ?_, ?_⟩
    · rw [G.out]
    · rw [G.out]; exact World.ownsRow_nil _ _ _ _
    · exact (by repeat (first | with_reducible exact Below.refl _ _ | with_reducible refine Below.drew ?_ | with_reducible refine below_drewN ?_ _ | with_reducible refine bal ?_ _ | with_reducible refine bset ?_ (by first | (simp; done) | (simp; omega)) _ | with_reducible refine bnext ?_ (by assumption) | with_reducible assumption))
end Go.Proofs.Ytfgkkflbpfocjaa

