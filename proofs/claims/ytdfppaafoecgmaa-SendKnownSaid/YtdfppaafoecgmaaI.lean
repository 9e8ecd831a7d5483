/- Contract: equal ledgers are found equal. -/
import Derived.Test.YtdfppaafoecgmaaH
namespace Go.Proofs.Ytdfppaafoecgmaa
open Go.RowKit
set_option linter.unusedVariables false
set_option linter.unusedSimpArgs false

set_option maxRecDepth 100000 in
set_option maxHeartbeats 2000000 in
theorem same_t (s : Led) (va vb : Value) (w : World) (ha : SlAt w 5 va s.sl.length (flat s.sl)) (hb : SlAt w 5 vb s.sl.length (flat s.sl)) :
    Calls Try.prog 11 #[.agg #[.int .u64 s.g, .int .u64 s.n, .int .u64 s.r, va], .agg #[.int .u64 s.g, .int .u64 s.n, .int .u64 s.r, vb]] w (RetB true w) := by
  obtain ⟨g, n, r, l⟩ := s
  obtain ⟨A, c, rfl, hc1, hc2, _⟩ := id ha
  obtain ⟨B, d, rfl, hd1, hd2, _⟩ := id hb
  have HA := Lib.hid ha
  have HB := Lib.hid hb
  clear ha hb
  unfold maxLen at hc2
  go_enter Try.func11, Try.ntmps11
  go_wp2_with fail
  obtain ⟨W, hW⟩ : ∃ W, (w.alloc (.cells #[.int .u64 g, .int .u64 n, .int .u64 r, .slice A l.length c] 26)).alloc (.cells #[.int .u64 g, .int .u64 n, .int .u64 r, .slice B l.length d] 26) = W := ⟨_, rfl⟩
  have hBW : Below w.heap.size w W := by rw [← hW]; exact bal (bal (Below.refl _ _) _) _
  have k0 : Blk W w.heap.size 26 #[.int .u64 g, .int .u64 n, .int .u64 r, .slice A l.length c] := by rw [← hW]; exact (Blk.new _ _ _).alloc _
  have k1 : Blk W (w.heap.size + 1) 26 #[.int .u64 g, .int .u64 n, .int .u64 r, .slice B l.length d] := by rw [← hW]; exact Blk.new1 _ _ _ _
  have HA1 : Hid (SlAt W 5 (.slice A l.length c) l.length (flat l)) := by rw [← hW]; exact Lib.hid ((HA.out.alloc _).alloc _)
  have HB1 : Hid (SlAt W 5 (.slice B l.length d) l.length (flat l)) := by rw [← hW]; exact Lib.hid ((HB.out.alloc _).alloc _)
  rw [hW]
  clear hW HA HB
  obtain ⟨c0, c1, c2, c3⟩ := k0.c4
  obtain ⟨d0, d1, d2, d3⟩ := k1.c4
  clear k0 k1
  go_loopw [5] (fun a wr => ∃ k : Nat, k ≤ l.length ∧ a = .int .i64 k ∧ ∃ m, wr = W.drewN m) (fun a _ => l.length - (intOf a).toNat)
  case atStart => exact ⟨0, by omega, rfl, 0, rfl⟩
  case round =>
    obtain ⟨k, hk, rfl, m, rfl⟩ := hrel
    by_cases hlt : k < l.length
    · obtain ⟨x, hx⟩ : ∃ x, l[k]? = some x := ⟨_, List.getElem?_eq_getElem hlt⟩
      obtain ⟨_, _, e1, _, _, hR1⟩ := HA1.out
      cases e1
      obtain ⟨_, _, e2, _, _, hR2⟩ := HB1.out
      cases e2
      obtain ⟨ba, oa, rfl, _, x0, x1, x2, x3, x4⟩ := slot_cells hR1 rfl hx
      obtain ⟨bb, ob, rfl, _, y0, y1, y2, y3, y4⟩ := slot_cells hR2 rfl hx
      have hi : (k : Int) < l.length := by omega
      clear hx hR1 hR2
      go_wp2_with fail
      go_quiet (fail)
      go_wp2_with fail
      go_roundw
      case rel => exact ⟨k + 1, by omega, by go_num, _, rfl⟩
      case measure => simp [intOf]; omega
    · have hi : ¬ (k : Int) < l.length := by omega
      go_wp2_with fail
      go_ret
      exact ⟨rfl, (by repeat (first | with_reducible exact Below.refl _ _ | with_reducible refine Below.drew ?_ | with_reducible refine below_drewN ?_ _ | with_reducible refine bal ?_ _ | with_reducible refine bset ?_ (by first | (simp; done) | (simp; omega)) _ | with_reducible refine bnext ?_ (by assumption) | with_reducible assumption))⟩

/-- nothing is appended: a source that is nil, whatever its capacity is called -/
theorem run_append_src_nil {P : Program} {w : World} {base : Nat} {t ty e : TypeId} {i : TypeInfo} {size : Nat} (ht : P.underlying t = some (.slice e)) (hi : P.info? e = some i) {v : Value} {n : Nat} {xs : List Value} (h : w.ownsRow base e size v n xs) (c : Nat) :
    (Builtin.append_ #[t, t] ty #[v, .slice none 0 c]).run P w = .ok v w := by
  rcases h.2 with ⟨rfl, rfl⟩ | ⟨g, cap, cur, rfl, _, _, hnc, _⟩
  · simp [Builtin.append_, run_underlying ht, sizeOf, typeInfo, hi, Builtin.lenOf, Builtin.firstCells]
  · simp [Builtin.append_, run_underlying ht, sizeOf, typeInfo, hi, Builtin.lenOf, Builtin.firstCells, hnc, storeCells]
theorem wpList_append_src_nil {P : Program} {w : World} {ops : Array Oper} {rest : List Oper} {o : Oper} {a : Act} {Q : Exit → Act → World → Prop} (hgd : o.guard = none) (s x : Operand) (t : TypeId)
    (ho : o.op = .call { callee := .builtin .append, args := #[s, x], argTypes := #[t, t] }) (base : Nat) (e : TypeId) (i : TypeInfo) (size : Nat) (ht : P.underlying t = some (.slice e)) (hi : P.info? e = some i)
    (v : Value) (n : Nat) (xs : List Value) (hs : a.eval s = v) (hown : w.ownsRow base e size v n xs) (c : Nat) (hx : a.eval x = .slice none 0 c)
    (h : wpList P ops Q rest (a.put o.dst v) w) : wpList P ops Q (o :: rest) a w := by
  refine wpList_plain hgd fun K hK => ?_
  have hrun := run_append_src_nil (P := P) (w := w) (ty := o.type) ht hi hown c
  unfold Oper.wp
  simp [execOp, ho, resolve, invoke, builtin, hs, hx, hrun, Result.andThen]
  exact hK _ _ h

def OwnPost (g n r : Int) (l : List Sl) (w : World) (e : Ending) (w' : World) : Prop := ∃ A c, e = .returned (.agg #[.int .u64 g, .int .u64 n, .int .u64 r, .slice A l.length c]) ∧ OwnL w w' (.slice A l.length c) l ∧ Below w.heap.size w w'

set_option maxRecDepth 100000 in
set_option maxHeartbeats 2000000 in
theorem OwnSend_any (g n r : Int) (l : List Sl) (v : Value) (w : World) (hS : SlAt w 5 v l.length (flat l)) (hl : l.length ≤ 100000) :
    Calls Try.prog 13 #[.agg #[.int .u64 g, .int .u64 n, .int .u64 r, v]] w (OwnPost g n r l w) := by
  obtain ⟨A, c, rfl, hc1, hc2, hR⟩ := hS
  obtain ⟨i0, hi, hz0, hz1, hz2⟩ := info_parts infoSlot
  cases A with
  | none =>
    have h0 : l.length = 0 := by
      rcases Nat.eq_zero_or_pos l.length with h | h
      · exact h
      · obtain ⟨b, o, e, _⟩ := hR.2 h
        cases e
    have hn : l = [] := List.eq_nil_of_length_eq_zero h0
    subst hn
    clear h0 hR
    have HO := Lib.hid (World.ownsRow_made (base := w.heap.size + 2) (e := 44) (size := 5) ((w.alloc (.cells #[.int .u64 g, .int .u64 n, .int .u64 r, .slice none 0 c] 26)).alloc (.cells #[.int .u64 0, .int .u64 0, .int .u64 0, .slice none 0 0] 26)) #[] 0 (by simp) (by unfold maxLen; omega) rfl)
    rw [show ((w.alloc (.cells #[.int .u64 g, .int .u64 n, .int .u64 r, .slice none 0 c] 26)).alloc (.cells #[.int .u64 0, .int .u64 0, .int .u64 0, .slice none 0 0] 26)).heap.size = w.heap.size + 1 + 1 from by simp] at HO
    go_enter Try.func13, Try.ntmps13
    go_wp2_with (first
      | (at_builtin; refine wpList_append_src_nil rfl _ _ 24 rfl (w.heap.size + 2) 44 i0 5 Try.underlying24 hi _ _ _ rfl HO.out c rfl ?_))
    refine bodyPost_ret (v := .agg #[.int .u64 g, .int .u64 n, .int .u64 r, .slice (some ⟨w.heap.size + 1 + 1, 0, none⟩) 0 0]) (by simp [results, Try.results13, go_sem]) rfl ⟨some ⟨w.heap.size + 1 + 1, 0, none⟩, 0, rfl, ?_, ?_⟩
    · have q := World.ownsRow_made (base := w.heap.size) (e := 44) (size := 5) ((w.alloc (.cells #[.int .u64 g, .int .u64 n, .int .u64 r, .slice (some ⟨w.heap.size + 1 + 1, 0, none⟩) 0 0] 26)).alloc (.cells #[.int .u64 g, .int .u64 n, .int .u64 r, .slice (some ⟨w.heap.size + 1 + 1, 0, none⟩) 0 0] 26)) #[] 0 (by simp; omega) (by unfold maxLen; omega) rfl
      rw [World.size_alloc, World.size_alloc] at q
      exact q
    · exact (by repeat (first | with_reducible exact Below.refl _ _ | with_reducible refine Below.drew ?_ | with_reducible refine below_drewN ?_ _ | with_reducible refine bal ?_ _ | with_reducible refine bset ?_ (by first | (simp; done) | (simp; omega)) _ | with_reducible refine bnext ?_ (by assumption) | with_reducible assumption))
  | some ad =>
    have HC : Hid (∀ j u, (flat l)[j]? = some u → (((w.alloc (.cells #[.int .u64 g, .int .u64 n, .int .u64 r, .slice (some ad) l.length c] 26)).alloc (.cells #[.int .u64 0, .int .u64 0, .int .u64 0, .slice none 0 0] 26)).alloc (.cells #[] 44)).cell? (ad.add j) = some u) := by
      by_cases h0 : l.length = 0
      · have hn : l = [] := List.eq_nil_of_length_eq_zero h0
        subst hn
        intro j u h
        simp [flat] at h
      · obtain ⟨b, o, e, hb, _⟩ := hR.2 (by omega)
        cases e
        exact reads_add (((hR.keep (by simp) fun b o h => oldcell _ h o).keep (by simp) fun b o h => oldcell _ h o).keep (by simp) fun b o h => oldcell _ h o)
    clear hR
    have HO := Lib.hid (World.ownsRow_made (base := w.heap.size + 2) (e := 44) (size := 5) ((w.alloc (.cells #[.int .u64 g, .int .u64 n, .int .u64 r, .slice (some ad) l.length c] 26)).alloc (.cells #[.int .u64 0, .int .u64 0, .int .u64 0, .slice none 0 0] 26)) #[] 0 (by simp) (by unfold maxLen; omega) rfl)
    rw [show ((w.alloc (.cells #[.int .u64 g, .int .u64 n, .int .u64 r, .slice (some ad) l.length c] 26)).alloc (.cells #[.int .u64 0, .int .u64 0, .int .u64 0, .slice none 0 0] 26)).heap.size = w.heap.size + 1 + 1 from by simp] at HO
    have K0 := Lib.hid (((Blk.new w 26 #[.int .u64 g, .int .u64 n, .int .u64 r, .slice (some ad) l.length c]).alloc (.cells #[.int .u64 0, .int .u64 0, .int .u64 0, .slice none 0 0] 26)).alloc (.cells #[] 44))
    have K1 := Lib.hid ((Blk.new1 w (.cells #[.int .u64 g, .int .u64 n, .int .u64 r, .slice (some ad) l.length c] 26) 26 #[.int .u64 0, .int .u64 0, .int .u64 0, .slice none 0 0]).alloc (.cells #[] 44))
    go_enter Try.func13, Try.ntmps13
    go_wp2_with (first
      | (at_builtin; refine wpList_append_own _ rfl _ _ 24 rfl (w.heap.size + 2) 44 i0 zslot 5 40 Try.underlying24 hi hz0 hz1 hz2 rfl (by decide) _ _ _ rfl HO.out ad l.length c (flat l) rfl (flat_len l) HC.out (flat_one l) (by unfold maxLen; omega) (by omega) (by simp) ?_; intro v' w1 hown' hgrow _; obtain ⟨A', c', hv', _⟩ := SlAt.own hown'; subst hv'; have k0 := K0.out.grown hgrow (blk_ne_own HO.out K0.out (by decide)); have k1 := K1.out.grown hgrow (blk_ne_own HO.out K1.out (by decide)); obtain ⟨c0, c1, c2, c3⟩ := k0.c4; obtain ⟨f0, f1, f2, f3⟩ := k0.f4; obtain ⟨d0, d1, d2, d3⟩ := k1.c4; obtain ⟨g0, g1, g2, g3⟩ := k1.f4; have hB : Below w.heap.size w w1 := (bal (bal (bal (Below.refl _ _) _) _) _).grown hgrow (by simp; omega) (fun k e => by have := (HO.out.lt k e).1; omega); have H5 := Lib.hid hown'; clear hown' hgrow k0 k1))
    refine bodyPost_ret (v := .agg #[.int .u64 g, .int .u64 n, .int .u64 r, .slice A' l.length c']) (by simp [results, Try.results13, go_sem, c0, c1, c2, c3, d0, d1, d2, d3]) rfl ⟨A', c', ?_, ?_, ?_⟩
    · simp
    · refine own_mono (base := w.heap.size + 2) ?_ (by omega)
      have q : w1.ownsRow (w.heap.size + 2) 44 5 (.slice A' l.length c') l.length (flat l) := by have := H5.out; simpa using this
      repeat (first | with_reducible exact q | with_reducible refine ownsRow_setCell_below ?_ (by simp; done) _)
    · exact (by repeat (first | with_reducible exact Below.refl _ _ | with_reducible refine Below.drew ?_ | with_reducible refine below_drewN ?_ _ | with_reducible refine bal ?_ _ | with_reducible refine bset ?_ (by first | (simp; done) | (simp; omega)) _ | with_reducible refine bnext ?_ (by assumption) | with_reducible assumption))
end Go.Proofs.Ytdfppaafoecgmaa
