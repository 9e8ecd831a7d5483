/- Plain words: fragments in another order, some of them twice. -/
import Derived.Test.YtcifngefclgefaaW
namespace Go.Proofs.Ytcifngefclgefaa
open Go.RowKit
set_option linter.unusedVariables false
set_option linter.unusedSimpArgs false

/-- the same fragments, in whatever order and number -/
def Mix (l0 l : List Bn) : Prop := ∀ x, x ∈ l ↔ x ∈ l0
def swp (l : List Bn) (a b : Nat) : List Bn := (l.set a (bnAt l b)).set b (bnAt l a)
theorem swp_len (l : List Bn) (a b : Nat) : (swp l a b).length = l.length := by simp [swp]
theorem bnAt_lt {l : List Bn} {a : Nat} (h : a < l.length) : l[a]? = some (bnAt l a) := by
  unfold bnAt
  rw [List.getD_eq_getElem?_getD, List.getElem?_eq_getElem h]; rfl
theorem mem_bnAt {l : List Bn} {a : Nat} (h : a < l.length) : bnAt l a ∈ l := List.mem_of_getElem? (bnAt_lt h)
theorem swp_mem {l : List Bn} {a b : Nat} (ha : a < l.length) (hb : b < l.length) (x : Bn) : x ∈ swp l a b ↔ x ∈ l := by
  unfold swp
  constructor
  · intro h
    rcases List.mem_or_eq_of_mem_set h with h | h
    · rcases List.mem_or_eq_of_mem_set h with h | h
      · exact h
      · rw [h]; exact mem_bnAt hb
    · rw [h]; exact mem_bnAt ha
  · intro h
    obtain ⟨i, hi, e⟩ := List.mem_iff_getElem.1 h
    have hx : l[i]? = some x := by rw [List.getElem?_eq_getElem hi, e]
    by_cases c : i = a
    · subst c
      refine List.mem_of_getElem? (i := b) ?_
      rw [List.getElem?_set_self (by rw [List.length_set]; exact hb), bnAt_of hx]
    · by_cases d : i = b
      · subst d
        refine List.mem_of_getElem? (i := a) ?_
        rw [List.getElem?_set_ne c, List.getElem?_set_self ha, bnAt_of hx]
      · refine List.mem_of_getElem? (i := i) ?_
        rw [List.getElem?_set_ne (Ne.symm d), List.getElem?_set_ne (Ne.symm c), hx]
theorem Mix.refl (l : List Bn) : Mix l l := fun _ => Iff.rfl
theorem Mix.swap {l0 l : List Bn} (h : Mix l0 l) {a b : Nat} (ha : a < l.length) (hb : b < l.length) : Mix l0 (swp l a b) := fun x => (swp_mem ha hb x).trans (h x)
theorem Mix.dup {l0 l : List Bn} (h : Mix l0 l) {a : Nat} (ha : a < l.length) : Mix l0 (l ++ [bnAt l a]) := fun x => by
  rw [List.mem_append, List.mem_singleton]
  constructor
  · rintro (c | c)
    · exact (h x).1 c
    · rw [c]; exact (h _).1 (mem_bnAt ha)
  · exact fun c => .inl ((h x).2 c)
theorem mix_join {h : Bn} {m : ByteArray} {s : Nat} {l : List Bn} (hs : 1 ≤ s ∧ s ≤ 1000) (hM : m.size ≤ 20000) (h0 : bE (frOf h m s 0 0) = 0) (hp : 0 < m.size) (hm : Mix (fragsOf h m s) l) : joinOf l = (m, 0) := by
  have hfr : ∀ x, x ∈ fragsOf h m s → ∃ j, j * s < m.size ∧ x = frOf h m s j j := fun x hx => by
    obtain ⟨j, hj, e⟩ := List.mem_iff_getElem.1 hx
    rw [frags_len] at hj
    exact ⟨j, (fr_lt hs.1).1 hj, by
      have := frags_at (h := h) (m := m) (s := s) hj
      rw [List.getElem?_eq_getElem (by rw [frags_len]; exact hj), e] at this
      exact Option.some.inj this⟩
  have hne : ¬ l.length = 0 := fun c => by
    have h1 : frOf h m s 0 0 ∈ fragsOf h m s := List.mem_of_getElem? (frags_get0 hp hs.1)
    have := (hm _).2 h1
    rw [List.eq_nil_of_length_eq_zero c] at this
    cases this
  have hP : Pcs m l := pcs_of hs hM h0 hne fun i hi => by
    obtain ⟨j, h1, h2⟩ := hfr _ ((hm _).1 (mem_bnAt hi))
    exact ⟨j, h1, h2⟩
  refine hP.join fun p hpm => ?_
  obtain ⟨i, hi, hc⟩ := frags_all (h := h) hs.1 hpm
  have hmem := (hm _).2 (mem_bnAt hi)
  obtain ⟨k, hk, e⟩ := List.mem_iff_getElem.1 hmem
  exact ⟨k, hk, by rw [bnAt_of (show l[k]? = some (bnAt (fragsOf h m s) i) by rw [List.getElem?_eq_getElem hk, e])]; exact hc⟩
/-- an element of a row of the call's own is stored -/
theorem own_put9 {w : World} {base g n cap i : Nat} {e : TypeId} {L : List Bn} (h : w.ownsRow base e 9 (.slice (some ⟨g, 0, none⟩) n cap) n (fl Bn.cells L)) {x : Bn} (hx : L[i]? = some x) (y : Bn) :
    ((((((((((w.setCell ⟨g, i * 9, none⟩ (.int .i64 y.node)).setCell ⟨g, i * 9 + 1, none⟩ (.int .u64 y.seq)).setCell ⟨g, i * 9 + 2, none⟩ (.int .i64 y.off)).setCell ⟨g, i * 9 + 3, none⟩ (.int .i64 y.dest)).setCell ⟨g, i * 9 + 4, none⟩ (.int .i64 y.prio)).setCell ⟨g, i * 9 + 5, none⟩ (.int .i64 y.born)).setCell ⟨g, i * 9 + 6, none⟩ (.int .i64 y.life)).setCell ⟨g, i * 9 + 7, none⟩ (.int .i64 y.total)).setCell ⟨g, i * 9 + 8, none⟩ (.string y.data))).ownsRow base e 9 (.slice (some ⟨g, 0, none⟩) n cap) n (fl Bn.cells (L.set i y)) := by
  have hi := (List.getElem?_eq_some_iff.1 hx).1
  have h0 := own_store bn9 h i 0 (y := ⟨y.node, x.seq, x.off, x.dest, x.prio, x.born, x.life, x.total, x.data⟩) (u := .int .i64 y.node) hx (by decide) rfl
  have x0 : (L.set i (⟨y.node, x.seq, x.off, x.dest, x.prio, x.born, x.life, x.total, x.data⟩ : Bn))[i]? = some ⟨y.node, x.seq, x.off, x.dest, x.prio, x.born, x.life, x.total, x.data⟩ := List.getElem?_set_self hi
  have h1 := own_store bn9 h0 i 1 (y := ⟨y.node, y.seq, x.off, x.dest, x.prio, x.born, x.life, x.total, x.data⟩) (u := .int .u64 y.seq) x0 (by decide) rfl
  rw [List.set_set] at h1
  have x1 : (L.set i (⟨y.node, y.seq, x.off, x.dest, x.prio, x.born, x.life, x.total, x.data⟩ : Bn))[i]? = some ⟨y.node, y.seq, x.off, x.dest, x.prio, x.born, x.life, x.total, x.data⟩ := List.getElem?_set_self hi
  have h2 := own_store bn9 h1 i 2 (y := ⟨y.node, y.seq, y.off, x.dest, x.prio, x.born, x.life, x.total, x.data⟩) (u := .int .i64 y.off) x1 (by decide) rfl
  rw [List.set_set] at h2
  have x2 : (L.set i (⟨y.node, y.seq, y.off, x.dest, x.prio, x.born, x.life, x.total, x.data⟩ : Bn))[i]? = some ⟨y.node, y.seq, y.off, x.dest, x.prio, x.born, x.life, x.total, x.data⟩ := List.getElem?_set_self hi
  have h3 := own_store bn9 h2 i 3 (y := ⟨y.node, y.seq, y.off, y.dest, x.prio, x.born, x.life, x.total, x.data⟩) (u := .int .i64 y.dest) x2 (by decide) rfl
  rw [List.set_set] at h3
  have x3 : (L.set i (⟨y.node, y.seq, y.off, y.dest, x.prio, x.born, x.life, x.total, x.data⟩ : Bn))[i]? = some ⟨y.node, y.seq, y.off, y.dest, x.prio, x.born, x.life, x.total, x.data⟩ := List.getElem?_set_self hi
  have h4 := own_store bn9 h3 i 4 (y := ⟨y.node, y.seq, y.off, y.dest, y.prio, x.born, x.life, x.total, x.data⟩) (u := .int .i64 y.prio) x3 (by decide) rfl
  rw [List.set_set] at h4
  have x4 : (L.set i (⟨y.node, y.seq, y.off, y.dest, y.prio, x.born, x.life, x.total, x.data⟩ : Bn))[i]? = some ⟨y.node, y.seq, y.off, y.dest, y.prio, x.born, x.life, x.total, x.data⟩ := List.getElem?_set_self hi
  have h5 := own_store bn9 h4 i 5 (y := ⟨y.node, y.seq, y.off, y.dest, y.prio, y.born, x.life, x.total, x.data⟩) (u := .int .i64 y.born) x4 (by decide) rfl
  rw [List.set_set] at h5
  have x5 : (L.set i (⟨y.node, y.seq, y.off, y.dest, y.prio, y.born, x.life, x.total, x.data⟩ : Bn))[i]? = some ⟨y.node, y.seq, y.off, y.dest, y.prio, y.born, x.life, x.total, x.data⟩ := List.getElem?_set_self hi
  have h6 := own_store bn9 h5 i 6 (y := ⟨y.node, y.seq, y.off, y.dest, y.prio, y.born, y.life, x.total, x.data⟩) (u := .int .i64 y.life) x5 (by decide) rfl
  rw [List.set_set] at h6
  have x6 : (L.set i (⟨y.node, y.seq, y.off, y.dest, y.prio, y.born, y.life, x.total, x.data⟩ : Bn))[i]? = some ⟨y.node, y.seq, y.off, y.dest, y.prio, y.born, y.life, x.total, x.data⟩ := List.getElem?_set_self hi
  have h7 := own_store bn9 h6 i 7 (y := ⟨y.node, y.seq, y.off, y.dest, y.prio, y.born, y.life, y.total, x.data⟩) (u := .int .i64 y.total) x6 (by decide) rfl
  rw [List.set_set] at h7
  have x7 : (L.set i (⟨y.node, y.seq, y.off, y.dest, y.prio, y.born, y.life, y.total, x.data⟩ : Bn))[i]? = some ⟨y.node, y.seq, y.off, y.dest, y.prio, y.born, y.life, y.total, x.data⟩ := List.getElem?_set_self hi
  have h8 := own_store bn9 h7 i 8 (y := ⟨y.node, y.seq, y.off, y.dest, y.prio, y.born, y.life, y.total, y.data⟩) (u := .string y.data) x7 (by decide) rfl
  rw [List.set_set] at h8
  have x8 : (L.set i (⟨y.node, y.seq, y.off, y.dest, y.prio, y.born, y.life, y.total, y.data⟩ : Bn))[i]? = some ⟨y.node, y.seq, y.off, y.dest, y.prio, y.born, y.life, y.total, y.data⟩ := List.getElem?_set_self hi
  exact h8
end Go.Proofs.Ytcifngefclgefaa
