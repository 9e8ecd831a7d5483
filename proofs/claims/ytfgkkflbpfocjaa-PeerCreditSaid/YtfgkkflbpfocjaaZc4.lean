/- Contracts: copies of slots, an opened ledger, what is usable, the floor. Blocks that are known whole. Contracts: an opened ledger, what is usable, the floor. Rows of structs, laid flat; reading one of them. -/
import Derived.Test.YtfgkkflbpfocjaaZc2
import Derived.Laws.AppendOwnNone
import Derived.Lib.SliceRun
import Derived.Test.YtfgkkflbpfocjaaZc1
import Derived.Test.YtfgkkflbpfocjaaZc3
namespace Go.Proofs.Ytfgkkflbpfocjaa
open Go.RowKit
set_option linter.unusedVariables false
set_option linter.unusedSimpArgs false

def zslot : Value := .agg #[.int .u64 0, .int .u64 0, .int .i64 0, .int .u64 0, .int .i64 0]
theorem infoSlot : (Try.prog.info? 81).map (fun i => (i.zero, i.size, i.bytes)) = some (some (.agg #[.int .u64 0, .int .u64 0, .int .i64 0, .int .u64 0, .int .i64 0]), 5, 40) := by kernel_rfl

theorem reads_add {w : World} {size n : Nat} {b o : Nat} {xs : List Value} (h : Reads w size (some ⟨b, o, none⟩) n xs) : ∀ j u, xs[j]? = some u → w.cell? ((⟨b, o, none⟩ : Addr).add j) = some u := by
  intro j u hj
  have hn : 0 < n := by
    have := (List.getElem?_eq_some_iff.1 hj).1
    have := h.1
    rcases Nat.eq_zero_or_pos n with h0 | h0
    · subst h0; omega
    · exact h0
  obtain ⟨b', o', e, hb, hc⟩ := h.2 hn
  cases e
  have := hc j u hj
  by_cases h0 : j = 0
  · subst h0; simpa [Addr.add] using this
  · simpa [Addr.add, h0] using this
theorem flat_one (l : List Sl) : ∀ u ∈ flat l, u.oneCell' = true := by
  intro u hu
  obtain ⟨x, _, hx⟩ := List.mem_flatMap.1 hu
  simp [Sl.cells] at hx
  rcases hx with rfl | rfl | rfl | rfl | rfl <;> rfl

/-- a slice in memory of the call's own, with the slots l -/
def OwnL (w w' : World) (v : Value) (l : List Sl) : Prop := w'.ownsRow w.heap.size 81 5 v l.length (flat l)
def ClonePost (l : List Sl) (w : World) (e : Ending) (w' : World) : Prop := ∃ v', e = .returned v' ∧ OwnL w w' v' l ∧ Below w.heap.size w w'

set_option maxHeartbeats 1000000 in
theorem Clone_any (v : Value) (l : List Sl) (w : World) (hS : SlAt w 5 v l.length (flat l)) (hl : l.length ≤ 100000) :
    Calls Try.prog 92 #[v] w (ClonePost l w) := by
  obtain ⟨A, c, rfl, hc1, hc2, hR⟩ := hS
  obtain ⟨i0, hi, hz0, hz1, hz2⟩ := info_parts infoSlot
  have he := fun (w : World) (a : Option Addr) (n c : Nat) => Lib.run_eql_slice_nil w 23 81 a n c 0 0 Try.underlying23
  cases A with
  | none =>
    have h0 : l.length = 0 := by
      rcases Nat.eq_zero_or_pos l.length with h | h
      · exact h
      · obtain ⟨b, o, e, _⟩ := hR.2 h
        cases e
    have hn : l = [] := List.eq_nil_of_length_eq_zero h0
    subst hn
    clear h0 hR
    go_enter Try.func92, Try.ntmps92
    go_wp2_with fail
    go_ret
    exact ⟨_, rfl, World.ownsRow_nil _ _ _ _, Below.refl _ _⟩
  | some ad =>
    by_cases h0 : l.length = 0
    · have hn : l = [] := List.eq_nil_of_length_eq_zero h0
      subst hn
      clear h0 hR
      have hown := World.ownsRow_made (base := w.heap.size) (e := 81) (size := 5) w #[] 0 (Nat.le_refl _) (by unfold maxLen; omega) rfl
      have HO := Lib.hid hown
      clear hown
      go_enter Try.func92, Try.ntmps92
      go_wp2_with (first
        | (at_builtin; refine wpList_append_own _ rfl _ _ 23 rfl w.heap.size 81 i0 zslot 5 40 Try.underlying23 hi hz0 hz1 hz2 rfl (by decide) _ _ _ rfl HO.out ad 0 c [] rfl rfl (fun j u h => by simp at h) (fun u h => by simp at h) (by unfold maxLen; omega) (by omega) (by simp) ?_; intro v' w1 hown' hgrow _))
      go_ret
      exact ⟨_, rfl, hown', (bal (Below.refl _ _) _).grown hgrow (by simp) (fun k e => (HO.out.lt k e).1)⟩
    · obtain ⟨b, o, e, hb, _⟩ := hR.2 (by omega)
      cases e
      have hown := World.ownsRow_made (base := w.heap.size) (e := 81) (size := 5) w #[] 0 (Nat.le_refl _) (by unfold maxLen; omega) rfl
      have HO := Lib.hid hown
      have HR : Hid (Reads (w.alloc (.cells #[] 81)) 5 (some ⟨b, o, none⟩) l.length (flat l)) := Lib.hid (hR.keep (by simp) fun b o h => oldcell _ h o)
      clear hown h0 hR
      go_enter Try.func92, Try.ntmps92
      go_wp2_with (first
        | (at_builtin; refine wpList_append_own _ rfl _ _ 23 rfl w.heap.size 81 i0 zslot 5 40 Try.underlying23 hi hz0 hz1 hz2 rfl (by decide) _ _ _ rfl HO.out ⟨b, o, none⟩ l.length c (flat l) rfl (flat_len l) (reads_add HR.out) (flat_one l) (by unfold maxLen; omega) (by omega) (by simp) ?_; intro v' w1 hown' hgrow _))
      go_ret
      exact ⟨_, rfl, by simpa [OwnL] using hown', (bal (Below.refl _ _) _).grown hgrow (by simp) (fun k e => (HO.out.lt k e).1)⟩

/-- what an opened ledger is -/
def opn (s : Led) : Led := if okL s then s else ⟨0, 0, 0, []⟩
def OpenPost (s : Led) (w : World) (e : Ending) (w' : World) : Prop :=
  ∃ v', e = .returned (.tuple #[.agg #[.int .u64 (opn s).g, .int .u64 (opn s).n, .int .u64 (opn s).r, v'], .int .i64 (chk s).1]) ∧ OwnL w w' v' (opn s).sl ∧ Below w.heap.size w w'
end Go.Proofs.Ytfgkkflbpfocjaa

namespace Go.Proofs.Ytfgkkflbpfocjaa
open Go.RowKit
set_option linter.unusedVariables false
set_option linter.unusedSimpArgs false

/-- block g is known whole: just these cells -/
def Blk (w : World) (g : Nat) (t : TypeId) (cs : Array Value) : Prop := w.heap[g]? = some (.cells cs t (0, 0))
section
variable {w w' : World} {g : Nat} {t : TypeId} {cs : Array Value}
theorem Blk.lt (h : Blk w g t cs) : g < w.heap.size := (Array.getElem?_eq_some_iff.1 h).1
theorem Blk.cell (h : Blk w g t cs) (i : Nat) : w.cell? ⟨g, i, none⟩ = cs[i]? := cell_of_row w g i cs t (0, 0) h
theorem Blk.frozen (h : Blk w g t cs) (i : Nat) : w.frozen? ⟨g, i, none⟩ = false := by
  unfold Blk at h
  simp [World.frozen?, h]
theorem Blk.new (w : World) (t : TypeId) (cs : Array Value) : Blk (w.alloc (.cells cs t)) w.heap.size t cs := World.alloc_heap_new w _
theorem Blk.new1 (w : World) (o : Obj) (t : TypeId) (cs : Array Value) : Blk ((w.alloc o).alloc (.cells cs t)) (w.heap.size + 1) t cs := by
  have := Blk.new (w.alloc o) t cs
  rwa [World.size_alloc] at this
theorem Blk.new2 (w : World) (o p : Obj) (t : TypeId) (cs : Array Value) : Blk (((w.alloc o).alloc p).alloc (.cells cs t)) (w.heap.size + 1 + 1) t cs := by
  have := Blk.new ((w.alloc o).alloc p) t cs
  rwa [World.size_alloc, World.size_alloc] at this
theorem Blk.alloc (h : Blk w g t cs) (o : Obj) : Blk (w.alloc o) g t cs := (Below.heap_alloc w o g h.lt).trans h
theorem Blk.drew (h : Blk w g t cs) : Blk w.drew g t cs := h
theorem Blk.drewN (h : Blk w g t cs) (n : Nat) : Blk (w.drewN n) g t cs := h
theorem Blk.below (h : Blk w g t cs) (hb : Below w.heap.size w w') : Blk w' g t cs := (hb.block g h.lt).trans h
theorem Blk.set (h : Blk w g t cs) (i : Nat) (u : Value) : Blk (w.setCell ⟨g, i, none⟩ u) g t (cs.setIfInBounds i u) := by
  unfold Blk at h ⊢
  simp [World.setCell, Array.getElem?_modify, h]
theorem Blk.far (h : Blk w g t cs) {p : Addr} (hp : g ≠ p.block) (u : Value) : Blk (w.setCell p u) g t cs := (Below.heap_setCell w p u g hp).trans h
theorem Blk.grown {row : Option Nat} (h : Blk w g t cs) (hb : w.grownBy w' row) (hg : some g ≠ row) : Blk w' g t cs := (hb.block g h.lt hg).trans h
theorem Blk.c3 {a b c : Value} (h : Blk w g t #[a, b, c]) : w.cell? ⟨g, 0, none⟩ = some a ∧ w.cell? ⟨g, 1, none⟩ = some b ∧ w.cell? ⟨g, 2, none⟩ = some c := ⟨h.cell 0, h.cell 1, h.cell 2⟩
theorem Blk.c4 {a b c d : Value} (h : Blk w g t #[a, b, c, d]) : w.cell? ⟨g, 0, none⟩ = some a ∧ w.cell? ⟨g, 1, none⟩ = some b ∧ w.cell? ⟨g, 2, none⟩ = some c ∧ w.cell? ⟨g, 3, none⟩ = some d := ⟨h.cell 0, h.cell 1, h.cell 2, h.cell 3⟩
theorem Blk.c5 {a b c d e : Value} (h : Blk w g t #[a, b, c, d, e]) : w.cell? ⟨g, 0, none⟩ = some a ∧ w.cell? ⟨g, 1, none⟩ = some b ∧ w.cell? ⟨g, 2, none⟩ = some c ∧ w.cell? ⟨g, 3, none⟩ = some d ∧ w.cell? ⟨g, 4, none⟩ = some e := ⟨h.cell 0, h.cell 1, h.cell 2, h.cell 3, h.cell 4⟩
theorem Blk.f3 {a b c : Value} (h : Blk w g t #[a, b, c]) : w.frozen? ⟨g, 0, none⟩ = false ∧ w.frozen? ⟨g, 1, none⟩ = false ∧ w.frozen? ⟨g, 2, none⟩ = false := ⟨h.frozen 0, h.frozen 1, h.frozen 2⟩
theorem Blk.f4 {a b c d : Value} (h : Blk w g t #[a, b, c, d]) : w.frozen? ⟨g, 0, none⟩ = false ∧ w.frozen? ⟨g, 1, none⟩ = false ∧ w.frozen? ⟨g, 2, none⟩ = false ∧ w.frozen? ⟨g, 3, none⟩ = false := ⟨h.frozen 0, h.frozen 1, h.frozen 2, h.frozen 3⟩
theorem Blk.f5 {a b c d e : Value} (h : Blk w g t #[a, b, c, d, e]) : w.frozen? ⟨g, 0, none⟩ = false ∧ w.frozen? ⟨g, 1, none⟩ = false ∧ w.frozen? ⟨g, 2, none⟩ = false ∧ w.frozen? ⟨g, 3, none⟩ = false ∧ w.frozen? ⟨g, 4, none⟩ = false := ⟨h.frozen 0, h.frozen 1, h.frozen 2, h.frozen 3, h.frozen 4⟩
end

end Go.Proofs.Ytfgkkflbpfocjaa

namespace Go.Proofs.Ytfgkkflbpfocjaa
open Go.RowKit
set_option linter.unusedVariables false
set_option linter.unusedSimpArgs false

theorem okL_len {s : Led} (h : okL s) : s.sl.length ≤ 100 := by
  unfold okL chk at h
  split at h
  · exact absurd h (by decide)
  · split at h
    · exact absurd h (by decide)
    · split at h
      · exact absurd h (by decide)
      · omega
theorem okL_nums {s : Led} (h : okL s) : s.g ≤ 1125899906842624 ∧ s.r ≤ s.g ∧ s.n ≤ s.g - s.r := by
  unfold okL chk at h
  split at h
  · exact absurd h (by decide)
  · split at h
    · exact absurd h (by decide)
    · omega

set_option maxHeartbeats 1000000 in
theorem opened_any (s : Led) (hw : Wf s) (v : Value) (w : World) (hS : SlAt w 5 v s.sl.length (flat s.sl)) :
    Calls Try.prog 74 #[.agg #[.int .u64 s.g, .int .u64 s.n, .int .u64 s.r, v]] w (OpenPost s w) := by
  obtain ⟨A, c, rfl, hc1, hc2, _⟩ := id hS
  have HS := Lib.hid hS
  have HW := Lib.hid hw
  clear hS hw
  by_cases hk : okL s
  · have K : Hid ((chk s).1 = 0) := hk
    have O : Hid (opn s = s) := if_pos hk
    have hlen := okL_len hk
    clear hk
    go_enter Try.func74, Try.ntmps74
    go_wp2_with fail
    refine (Check_any s HW.out _ _ ((HS.out.alloc _).alloc _)).mono ?_
    rintro e w1 ⟨rfl, hb1⟩
    rw [K.out]
    have hB1 : Below w.heap.size w w1 := bnext (bal (bal (Below.refl _ _) _) _) hb1
    have k0 := ((Blk.new w 25 _).alloc _).below hb1
    have k1 := (Blk.new1 w _ 115 _).below hb1
    have HS1 := Lib.hid (((HS.out.alloc _).alloc _).below hb1)
    obtain ⟨c0, c1, c2, c3⟩ := k0.c4
    have K0 := Lib.hid k0
    have K1 := Lib.hid k1
    have hz := hb1.size
    simp at hz
    clear k0 k1 hb1
    go_wp2_with fail
    refine (Clone_any _ s.sl _ HS1.out (by omega)).mono ?_
    rintro e w2 ⟨v', rfl, hown, hb2⟩
    obtain ⟨A', c', ev, _⟩ := SlAt.own hown
    subst ev
    have k0 := K0.out.below hb2
    have k1 := K1.out.below hb2
    obtain ⟨c0, c1, c2, c3⟩ := k0.c4
    obtain ⟨g0, g1, g2, g3⟩ := k0.f4
    obtain ⟨d0, d1, d2, d3⟩ := k1.c4
    obtain ⟨f0, f1, f2, f3⟩ := k1.f4
    have hz2 := hb2.size
    have HO := Lib.hid hown
    clear k0 k1 hown
    go_wp2_with fail
    refine bodyPost_ret (v := .tuple #[.agg #[.int .u64 s.g, .int .u64 s.n, .int .u64 s.r, .slice A' s.sl.length c'], .int .i64 0]) (by simp [results, Try.results74, go_sem, c0, d0, d1, d2, d3]) rfl ⟨.slice A' s.sl.length c', ?_, ?_, ?_⟩
    · rw [O.out, K.out]
    · rw [O.out]
      have h1 := ownsRow_setCell_below HO.out (a := ⟨w.heap.size, 3, none⟩) (by show w.heap.size < w1.heap.size; omega) (.slice A' s.sl.length c')
      have h2 := ownsRow_setCell_below h1 (a := ⟨w.heap.size + 1, 0, none⟩) (by show w.heap.size + 1 < w1.heap.size; omega) (.int .u64 s.g)
      have h3 := ownsRow_setCell_below h2 (a := ⟨w.heap.size + 1, 1, none⟩) (by show w.heap.size + 1 < w1.heap.size; omega) (.int .u64 s.n)
      have h4 := ownsRow_setCell_below h3 (a := ⟨w.heap.size + 1, 2, none⟩) (by show w.heap.size + 1 < w1.heap.size; omega) (.int .u64 s.r)
      have h5 := ownsRow_setCell_below h4 (a := ⟨w.heap.size + 1, 3, none⟩) (by show w.heap.size + 1 < w1.heap.size; omega) (.slice A' s.sl.length c')
      exact own_mono h5 hB1.size
    · exact (by repeat (first | with_reducible exact Below.refl _ _ | with_reducible refine Below.drew ?_ | with_reducible refine below_drewN ?_ _ | with_reducible refine bal ?_ _ | with_reducible refine bset ?_ (by first | (simp; done) | (simp; omega)) _ | with_reducible refine bnext ?_ (by assumption) | with_reducible assumption))
  · have K := Lib.hid hk
    have O : Hid (opn s = ⟨0, 0, 0, []⟩) := if_neg hk
    have hne : ((chk s).1 != 0) = true := by rw [bne_iff_ne]; exact hk
    clear hk
    go_enter Try.func74, Try.ntmps74
    go_wp2_with fail
    refine (Check_any s HW.out _ _ ((HS.out.alloc _).alloc _)).mono ?_
    rintro e w1 ⟨rfl, hb1⟩
    have hB1 : Below w.heap.size w w1 := bnext (bal (bal (Below.refl _ _) _) _) hb1
    have k1 := (Blk.new1 w _ 115 _).below hb1
    obtain ⟨d0, d1, d2, d3⟩ := k1.c4
    obtain ⟨f0, f1, f2, f3⟩ := k1.f4
    clear hb1 k1
    go_wp2_with fail
    refine bodyPost_ret (v := .tuple #[.agg #[.int .u64 0, .int .u64 0, .int .u64 0, .slice none 0 0], .int .i64 (chk s).1]) (by simp [results, Try.results74, go_sem, d0, d1, d2, d3]) rfl ⟨.slice none 0 0, ?_, ?_, ?_⟩
    · rw [O.out]
    · rw [O.out]; exact World.ownsRow_nil _ _ _ _
    · exact (by repeat (first | with_reducible exact Below.refl _ _ | with_reducible refine Below.drew ?_ | with_reducible refine below_drewN ?_ _ | with_reducible refine bal ?_ _ | with_reducible refine bset ?_ (by first | (simp; done) | (simp; omega)) _ | with_reducible refine bnext ?_ (by assumption) | with_reducible assumption))

set_option maxHeartbeats 1000000 in
theorem lusable_any (g n r : Int) (v : Value) (w : World) (hg : g ≤ 18446744073709551615) (hn : 0 ≤ n) (hr : 0 ≤ r) (h : n + r ≤ g) (hv : ∃ A l c, v = .slice A l c) :
    Calls Try.prog 75 #[.agg #[.int .u64 g, .int .u64 n, .int .u64 r, v]] w (RetI .u64 (g - n - r) w) := by
  obtain ⟨A, l, c, rfl⟩ := hv
  go_enter Try.func75, Try.ntmps75
  go_wp2
  go_ret
  exact ⟨rfl, (by repeat (first | with_reducible exact Below.refl _ _ | with_reducible refine Below.drew ?_ | with_reducible refine below_drewN ?_ _ | with_reducible refine bal ?_ _ | with_reducible refine bset ?_ (by first | (simp; done) | (simp; omega)) _ | with_reducible refine bnext ?_ (by assumption) | with_reducible assumption))⟩

set_option maxHeartbeats 1000000 in
theorem lfloor_any (s : Led) (v : Value) (w : World) (hS : SlAt w 5 v s.sl.length (flat s.sl)) :
    Calls Try.prog 107 #[.agg #[.int .u64 s.g, .int .u64 s.n, .int .u64 s.r, v]] w (RetI .u64 (flr s) w) := by
  obtain ⟨g, n, r, l⟩ := s
  have hS1 := hS.alloc (.cells #[.int .u64 g, .int .u64 n, .int .u64 r, v] 115)
  obtain ⟨A, c, rfl, _⟩ := hS
  cases l with
  | nil =>
    clear hS1
    go_enter Try.func107, Try.ntmps107
    go_wp2
    go_ret
    exact ⟨rfl, (by repeat (first | with_reducible exact Below.refl _ _ | with_reducible refine Below.drew ?_ | with_reducible refine below_drewN ?_ _ | with_reducible refine bal ?_ _ | with_reducible refine bset ?_ (by first | (simp; done) | (simp; omega)) _ | with_reducible refine bnext ?_ (by assumption) | with_reducible assumption))⟩
  | cons x l =>
    obtain ⟨A', c', e, _, _, hR⟩ := hS1
    cases e
    obtain ⟨b, o, rfl, hb, d0, _⟩ := slot_cells hR rfl (k := 0) (x := x) rfl
    rw [Nat.zero_mul, Nat.add_zero] at d0
    have hl : (0 : Int) < ((x :: l).length : Int) := by simp only [List.length_cons]; omega
    simp only [List.length_cons] at d0
    clear hR
    go_enter Try.func107, Try.ntmps107
    go_wp2
    go_ret
    exact ⟨rfl, (by repeat (first | with_reducible exact Below.refl _ _ | with_reducible refine Below.drew ?_ | with_reducible refine below_drewN ?_ _ | with_reducible refine bal ?_ _ | with_reducible refine bset ?_ (by first | (simp; done) | (simp; omega)) _ | with_reducible refine bnext ?_ (by assumption) | with_reducible assumption))⟩

def usE (s : Led) : Int := if okL s then usab s else 0
def flE (s : Led) : Int := if okL s then flr s else 0
theorem usab_opn (s : Led) : (opn s).g - (opn s).n - (opn s).r = usE s := by
  unfold opn usE; split <;> rfl
theorem flr_opn (s : Led) : flr (opn s) = flE s := by
  unfold opn flE; split <;> rfl
theorem opn_nums (s : Led) (hw : Wf s) : (0 ≤ (opn s).g ∧ (opn s).g ≤ 1125899906842624) ∧ 0 ≤ (opn s).n ∧ 0 ≤ (opn s).r ∧ (opn s).n + (opn s).r ≤ (opn s).g := by
  unfold opn
  split
  · rename_i h
    have := okL_nums h
    have a := hw.1
    have b := hw.2.1
    have c := hw.2.2.1
    omega
  · simp

set_option maxHeartbeats 1000000 in
theorem Usable_any (s : Led) (hw : Wf s) (v : Value) (w : World) (hS : SlAt w 5 v s.sl.length (flat s.sl)) :
    Calls Try.prog 39 #[.agg #[.int .u64 s.g, .int .u64 s.n, .int .u64 s.r, v]] w (Ret2 .u64 .i64 (usE s) (chk s).1 w) := by
  have N := Lib.hid (opn_nums s hw)
  have U := Lib.hid (usab_opn s)
  obtain ⟨A, c, rfl, hc1, hc2, _⟩ := id hS
  have HS := Lib.hid hS
  have HW := Lib.hid hw
  clear hS hw
  go_enter Try.func39, Try.ntmps39
  go_wp2_with fail
  refine (opened_any s HW.out _ _ (HS.out.alloc _)).mono ?_
  rintro e w1 ⟨v', rfl, hown, hb1⟩
  obtain ⟨A', c', ev, _⟩ := SlAt.own hown
  subst ev
  clear hown
  generalize (opn s).g = og at *
  generalize (opn s).n = on at *
  generalize (opn s).r = or' at *
  generalize (opn s).sl.length = ol at *
  go_wp2_with fail
  refine (lusable_any og on or' _ _ (by have := N.out; omega) (by have := N.out; omega) (by have := N.out; omega) (by have := N.out; omega) ⟨_, _, _, rfl⟩).mono ?_
  rintro e w2 ⟨rfl, hb2⟩
  rw [U.out]
  go_wp2_with fail
  go_ret2
  exact ⟨rfl, (by repeat (first | with_reducible exact Below.refl _ _ | with_reducible refine Below.drew ?_ | with_reducible refine below_drewN ?_ _ | with_reducible refine bal ?_ _ | with_reducible refine bset ?_ (by first | (simp; done) | (simp; omega)) _ | with_reducible refine bnext ?_ (by assumption) | with_reducible assumption))⟩

set_option maxHeartbeats 1000000 in
theorem Floor_any (s : Led) (hw : Wf s) (v : Value) (w : World) (hS : SlAt w 5 v s.sl.length (flat s.sl)) :
    Calls Try.prog 73 #[.agg #[.int .u64 s.g, .int .u64 s.n, .int .u64 s.r, v]] w (Ret2 .u64 .i64 (flE s) (chk s).1 w) := by
  have U := Lib.hid (flr_opn s)
  obtain ⟨A, c, rfl, hc1, hc2, _⟩ := id hS
  have HS := Lib.hid hS
  have HW := Lib.hid hw
  clear hS hw
  go_enter Try.func73, Try.ntmps73
  go_wp2_with fail
  refine (opened_any s HW.out _ _ (HS.out.alloc _)).mono ?_
  rintro e w1 ⟨v', rfl, hown, hb1⟩
  have hs1 := SlAt.own hown
  obtain ⟨A', c', ev, _⟩ := id hs1
  subst ev
  have HS1 := Lib.hid (hs1.alloc (.cells #[.int .u64 (opn s).g, .int .u64 (opn s).n, .int .u64 (opn s).r, .slice A' (opn s).sl.length c'] 115))
  clear hown hs1
  go_wp2_with fail
  refine (lfloor_any (opn s) _ _ HS1.out).mono ?_
  rintro e w2 ⟨rfl, hb2⟩
  rw [U.out]
  go_wp2_with fail
  go_ret2
  exact ⟨rfl, (by repeat (first | with_reducible exact Below.refl _ _ | with_reducible refine Below.drew ?_ | with_reducible refine below_drewN ?_ _ | with_reducible refine bal ?_ _ | with_reducible refine bset ?_ (by first | (simp; done) | (simp; omega)) _ | with_reducible refine bnext ?_ (by assumption) | with_reducible assumption))⟩
end Go.Proofs.Ytfgkkflbpfocjaa

namespace Go.Proofs.Ytfgkkflbpfocjaa
open Go.RowKit
set_option linter.unusedVariables false
set_option linter.unusedSimpArgs false

/-- a list laid flat, element by element -/
def fl {α : Type} (f : α → List Value) (l : List α) : List Value := l.flatMap f
section
variable {α : Type} {f : α → List Value} {k : Nat}
theorem fl_nil : fl f [] = [] := rfl
theorem fl_cons (x : α) (l : List α) : fl f (x :: l) = f x ++ fl f l := by simp [fl]
theorem fl_app (a b : List α) : fl f (a ++ b) = fl f a ++ fl f b := by simp [fl]
theorem fl_one (x : α) : fl f [x] = f x := by simp [fl]
theorem fl_len (hf : ∀ x, (f x).length = k) (l : List α) : (fl f l).length = l.length * k := by
  induction l with
  | nil => simp [fl]
  | cons x l ih => rw [fl_cons, List.length_append, ih, hf, List.length_cons, Nat.succ_mul, Nat.add_comm]
theorem fl_get (hf : ∀ x, (f x).length = k) (l : List α) (i : Nat) {x : α} (h : l[i]? = some x) (j : Nat) (hj : j < k) : (fl f l)[i * k + j]? = (f x)[j]? := by
  induction l generalizing i with
  | nil => simp at h
  | cons y l ih =>
    rw [fl_cons]
    cases i with
    | zero =>
      simp at h; subst h
      rw [List.getElem?_append_left (by rw [hf]; omega), Nat.zero_mul, Nat.zero_add]
    | succ i =>
      simp at h
      rw [List.getElem?_append_right (by rw [hf, Nat.succ_mul]; omega), hf, Nat.succ_mul, show i * k + k + j - k = i * k + j by omega]
      exact ih i h
theorem fl_one_cell (h1 : ∀ x, ∀ u ∈ f x, u.oneCell' = true) (l : List α) : ∀ u ∈ fl f l, u.oneCell' = true := by
  intro u hu
  obtain ⟨x, _, hx⟩ := List.mem_flatMap.1 hu
  exact h1 x u hx
/-- the cells of one element -/
theorem reads_fl (hf : ∀ x, (f x).length = k) {w : World} {A : Option Addr} {n : Nat} {l : List α} (h : Reads w k A n (fl f l)) (hn : n = l.length) {i : Nat} {x : α} (hx : l[i]? = some x) :
    ∃ b o, A = some ⟨b, o, none⟩ ∧ b < w.heap.size ∧ ∀ j u, (f x)[j]? = some u → w.cell? ⟨b, o + i * k + j, none⟩ = some u := by
  have hi : i < l.length := (List.getElem?_eq_some_iff.1 hx).1
  obtain ⟨b, o, rfl, hb, hc⟩ := h.2 (by omega)
  refine ⟨b, o, rfl, hb, fun j u hu => ?_⟩
  have hj : j < k := by have := (List.getElem?_eq_some_iff.1 hu).1; rwa [hf] at this
  have := hc (i * k + j) u (by rw [fl_get hf l i hx j hj]; exact hu)
  rwa [← Nat.add_assoc] at this
theorem reads_fl2 (hf : ∀ x, (f x).length = 2) {w : World} {A : Option Addr} {n : Nat} {l : List α} (h : Reads w 2 A n (fl f l)) (hn : n = l.length) {i : Nat} {x : α} {p q : Value} (hx : l[i]? = some x) (hp : f x = [p, q]) :
    ∃ b o, A = some ⟨b, o, none⟩ ∧ b < w.heap.size ∧ w.cell? ⟨b, o + i * 2, none⟩ = some p ∧ w.cell? ⟨b, o + i * 2 + 1, none⟩ = some q := by
  obtain ⟨b, o, e, hb, hc⟩ := reads_fl hf h hn hx
  rw [hp] at hc
  exact ⟨b, o, e, hb, hc 0 p rfl, hc 1 q rfl⟩
theorem reads_fl3 (hf : ∀ x, (f x).length = 3) {w : World} {A : Option Addr} {n : Nat} {l : List α} (h : Reads w 3 A n (fl f l)) (hn : n = l.length) {i : Nat} {x : α} {p q r : Value} (hx : l[i]? = some x) (hp : f x = [p, q, r]) :
    ∃ b o, A = some ⟨b, o, none⟩ ∧ b < w.heap.size ∧ w.cell? ⟨b, o + i * 3, none⟩ = some p ∧ w.cell? ⟨b, o + i * 3 + 1, none⟩ = some q ∧ w.cell? ⟨b, o + i * 3 + 2, none⟩ = some r := by
  obtain ⟨b, o, e, hb, hc⟩ := reads_fl hf h hn hx
  rw [hp] at hc
  exact ⟨b, o, e, hb, hc 0 p rfl, hc 1 q rfl, hc 2 r rfl⟩
end
/-- what append reads of its second slice -/
theorem reads_add' {w : World} {size n : Nat} {b o : Nat} {xs : List Value} (h : Reads w size (some ⟨b, o, none⟩) n xs) : ∀ j u, xs[j]? = some u → w.cell? ((⟨b, o, none⟩ : Addr).add j) = some u := by
  intro j u hj
  have hn : 0 < n := by
    have := (List.getElem?_eq_some_iff.1 hj).1
    have := h.1
    rcases Nat.eq_zero_or_pos n with h0 | h0
    · subst h0; omega
    · exact h0
  obtain ⟨b', o', e, hb, hc⟩ := h.2 hn
  cases e
  have := hc j u hj
  by_cases h0 : j = 0
  · subst h0; simpa [Addr.add] using this
  · simpa [Addr.add, h0] using this
end Go.Proofs.Ytfgkkflbpfocjaa

