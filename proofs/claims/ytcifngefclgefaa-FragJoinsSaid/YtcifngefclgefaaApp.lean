/- Appending one element to a row of the call's own. -/
import Derived.Test.YtcifngefclgefaaFlat
import Derived.Test.YtcifngefclgefaaBlk
namespace Go.Proofs.Ytcifngefclgefaa
open Go.RowKit
set_option linter.unusedVariables false
set_option linter.unusedSimpArgs false

theorem newadd (w : World) (cs : List Value) (t : TypeId) (j : Nat) : (w.alloc (.cells cs.toArray t)).cell? ((⟨w.heap.size, 0, none⟩ : Addr).add j) = cs[j]? := by
  by_cases h : j = 0
  · subst h; rw [show ((⟨w.heap.size, 0, none⟩ : Addr).add 0) = ⟨w.heap.size, 0, none⟩ from rfl, newcell]; simp
  · rw [show ((⟨w.heap.size, 0, none⟩ : Addr).add j) = ⟨w.heap.size, j, none⟩ from by simp [Addr.add, h], newcell]; simp

theorem hidI {p : Prop} (h : p) : Hid p := h

/-- out = append(out, y), the element laid in a block of its own first -/
theorem wpList_app1 {P : Program} {α : Type} {f : α → List Value} {ops : Array Oper} {rest : List Oper} {o : Oper} {a : Act} {Q : Exit → Act → World → Prop} (hgd : o.guard = none) (s x : Operand) (t : TypeId)
    (ho : o.op = .call { callee := .builtin .append, args := #[s, x], argTypes := #[t, t] }) (base : Nat) (e : TypeId) {z : Value} (k bytes : Nat) (hi : (P.info? e).map (fun i => (i.zero, i.size, i.bytes)) = some (some z, k, bytes))
    (hzk : z.cells.size = k) (hk : 0 < k) (ht : P.underlying t = some (.slice e)) (hf : ∀ x, (f x).length = k) (h1 : ∀ x, ∀ u ∈ f x, u.oneCell' = true) (w w0 : World) (B : Nat) (y : α) (L : List α) (v : Value) (hs : a.eval s = v)
    (hx : a.eval x = .slice (some ⟨w.heap.size, 0, none⟩) 1 1) (hown : w.ownsRow base e k v L.length (fl f L)) (hB : Below B w0 w) (hb : B ≤ base) (hbw : base ≤ w.heap.size) (hL : (L.length + 1) * bytes ≤ 140737488355328) (hL2 : L.length + 1 ≤ maxLen)
    (hK : ∀ A c w', w'.ownsRow base e k (.slice A (L.length + 1) c) (L ++ [y]).length (fl f (L ++ [y])) → Below B w0 w' → (w.alloc (.cells (f y).toArray e)).grownBy w' v.ownBlock → wpList P ops Q rest (a.put o.dst (.slice A (L.length + 1) c)) w') :
    wpList P ops Q (o :: rest) a (w.alloc (.cells (f y).toArray e)) := by
  obtain ⟨i0, hi0, hz0, hz1, hz2⟩ := info_parts hi
  refine wpList_append_own _ hgd s x t ho base e i0 z k bytes ht hi0 hz0 hz1 hz2 hzk hk v L.length (fl f L) hs (hown.alloc _) ⟨w.heap.size, 0, none⟩ 1 1 (f y) hx (by rw [hf, Nat.one_mul]) (fun j u hj => by rw [newadd]; exact hj) (h1 y) hL2 hL (by simp; omega) ?_
  intro v' w' hown' hg _
  have e1 : fl f (L ++ [y]) = fl f L ++ f y := by rw [fl_app, fl_one]
  have hown2 : w'.ownsRow base e k v' (L ++ [y]).length (fl f (L ++ [y])) := by rw [e1, List.length_append, List.length_singleton]; exact hown'
  obtain ⟨A, c, rfl, _⟩ := SlAt.own hown'
  refine hK A c w' hown2 ((hB.alloc (by omega) _).grown hg (by simp; omega) fun q hq => ?_) hg
  have := (hown.lt q hq).1
  omega

section
variable {α : Type} {f : α → List Value} {k : Nat}
/-- a made row is a row of zero elements -/
theorem made_fl (hf : ∀ x, (f x).length = k) (hk : 0 < k) (d : α) (n : Nat) : (madeCells (f d).toArray (n * k)).toList = fl f (List.replicate n d) := by
  apply List.ext_getElem?
  intro j
  by_cases hj : j < n * k
  · have hm := Nat.mod_lt j hk
    have hd : j / k < n := (Nat.div_lt_iff_lt_mul hk).2 hj
    have e : j / k * k + j % k = j := by rw [Nat.mul_comm]; exact Nat.div_add_mod j k
    have r := fl_get hf (List.replicate n d) (j / k) (x := d) (by simp [hd]) (j % k) hm
    rw [e] at r
    rw [r]
    have hs : (f d).toArray.size = k := by simp [hf]
    simp [madeCells, hj, hf, hm]
  · have h1 : (madeCells (f d).toArray (n * k)).toList.length = n * k := by rw [Array.length_toList, size_madeCells]
    rw [List.getElem?_eq_none (by omega), List.getElem?_eq_none (by rw [fl_len hf]; simp; omega)]
theorem fl_set (hf : ∀ x, (f x).length = k) (l : List α) (i : Nat) (y : α) (hi : i < l.length) : fl f (l.set i y) = fl f (l.take i) ++ (f y ++ fl f (l.drop (i + 1))) := by
  rw [List.set_eq_take_append_cons_drop, if_pos hi, fl_app, fl_cons]
theorem fl_split (hf : ∀ x, (f x).length = k) (l : List α) (i : Nat) {x : α} (hx : l[i]? = some x) : fl f l = fl f (l.take i) ++ (f x ++ fl f (l.drop (i + 1))) := by
  obtain ⟨hi, rfl⟩ := List.getElem?_eq_some_iff.1 hx
  rw [← fl_cons, ← fl_app, ← List.drop_eq_getElem_cons hi, List.take_append_drop]
/-- storing one cell of an element -/
theorem fl_set_at (hf : ∀ x, (f x).length = k) (l : List α) (i j : Nat) {x y : α} {u : Value} (hx : l[i]? = some x) (hj : j < k) (hy : (f x).set j u = f y) : (fl f l).set (i * k + j) u = fl f (l.set i y) := by
  have hi := (List.getElem?_eq_some_iff.1 hx).1
  have hl : (fl f (l.take i)).length = i * k := by rw [fl_len hf, List.length_take, Nat.min_eq_left (by omega)]
  rw [fl_set hf l i y hi, fl_split hf l i hx, List.set_append_right _ _ (by omega), hl, show i * k + j - i * k = j by omega, List.set_append_left _ _ (by rw [hf]; exact hj), hy]
end
/-- a slot of a row that is known: it may be stored into -/
theorem own_store {α : Type} {f : α → List Value} {k : Nat} (hf : ∀ x, (f x).length = k) {w : World} {base g n cap : Nat} {e : TypeId} {L : List α} (h : w.ownsRow base e k (.slice (some ⟨g, 0, none⟩) n cap) n (fl f L)) (i j : Nat) {x y : α} {u : Value} (hx : L[i]? = some x) (hj : j < k) (hy : (f x).set j u = f y) :
    (w.setCell ⟨g, i * k + j, none⟩ u).ownsRow base e k (.slice (some ⟨g, 0, none⟩) n cap) n (fl f (L.set i y)) := by
  have := (h.stored (i * k + j) u).1
  rwa [fl_set_at hf L i j hx hj hy] at this
theorem own_cell {α : Type} {f : α → List Value} {k : Nat} (hf : ∀ x, (f x).length = k) {w : World} {base g n cap : Nat} {e : TypeId} {L : List α} (h : w.ownsRow base e k (.slice (some ⟨g, 0, none⟩) n cap) n (fl f L)) (i j : Nat) {x : α} (hx : L[i]? = some x) (hj : j < k) :
    w.cell? ⟨g, i * k + j, none⟩ = (f x)[j]? := by
  have hi := (List.getElem?_eq_some_iff.1 hx).1
  have hn := h.1
  rw [fl_len hf] at hn
  rw [h.cellAt (i * k + j) (by rw [← hn]; calc i * k + j < i * k + k := by omega
                                        _ = (i + 1) * k := by rw [Nat.add_mul, Nat.one_mul]
                                        _ ≤ L.length * k := Nat.mul_le_mul_right k (by omega)), fl_get hf L i hx j hj]

/-- the same as one step of a region that draws; the element's block is known in the world at hand -/
theorem step_app {P : Program} {α : Type} {f : α → List Value} {ops : Array Oper} {o : Oper} {a : Act} {K : Act → World → Prop} {Q : Exit → Act → World → Prop} {E : Prop} (hgd : o.guard = none) (s x : Operand) (t : TypeId)
    (ho : o.op = .call { callee := .builtin .append, args := #[s, x], argTypes := #[t, t] }) (base : Nat) (e : TypeId) {z : Value} (k bytes : Nat) (hi : (P.info? e).map (fun i => (i.zero, i.size, i.bytes)) = some (some z, k, bytes))
    (hzk : z.cells.size = k) (hk : 0 < k) (ht : P.underlying t = some (.slice e)) (hf : ∀ x, (f x).length = k) (h1 : ∀ x, ∀ u ∈ f x, u.oneCell' = true) (w w0 : World) (B : Nat) (y : α) (L : List α) (v : Value) (g : Nat) (hs : a.eval s = v)
    (hx : a.eval x = .slice (some ⟨g, 0, none⟩) 1 1) (hg : Blk w g e (f y).toArray) (hown : w.ownsRow base e k v L.length (fl f L)) (hB : Below B w0 w) (hb : B ≤ base) (hbw : base ≤ w.heap.size) (hL : (L.length + 1) * bytes ≤ 140737488355328) (hL2 : L.length + 1 ≤ maxLen)
    (hK : ∀ A c w', w'.ownsRow base e k (.slice A (L.length + 1) c) (L ++ [y]).length (fl f (L ++ [y])) → Below B w0 w' → w.grownBy w' v.ownBlock → K (a.put o.dst (.slice A (L.length + 1) c)) w') :
    if Region.wanted o (yielded ops a.tmps) = true then Oper.wp P o a w K Q else E := by
  have hw : Region.wanted o (yielded ops a.tmps) = true := by simp [Region.wanted, hgd]
  rw [if_pos hw]
  obtain ⟨i0, hi0, hz0, hz1, hz2⟩ := info_parts hi
  refine wp_append_own w s x t ho base e i0 z k bytes ht hi0 hz0 hz1 hz2 hzk hk v L.length (fl f L) hs hown ⟨g, 0, none⟩ 1 1 (f y) hx (by rw [hf, Nat.one_mul]) (fun j u hj => ?_) (h1 y) hL2 hL hbw ?_
  · have := hg.cell j
    rw [List.getElem?_toArray, hj] at this
    by_cases h : j = 0
    · subst h; exact this
    · rw [show ((⟨g, 0, none⟩ : Addr).add j) = ⟨g, j, none⟩ from by simp [Addr.add, h]]; exact this
  intro v' w' hown' hg' _
  have e1 : fl f (L ++ [y]) = fl f L ++ f y := by rw [fl_app, fl_one]
  have hown2 : w'.ownsRow base e k v' (L ++ [y]).length (fl f (L ++ [y])) := by rw [e1, List.length_append, List.length_singleton]; exact hown'
  obtain ⟨A, c, rfl, _⟩ := SlAt.own hown'
  refine hK A c w' hown2 (hB.grown hg' (by omega) fun q hq => ?_) hg'
  have := (hown.lt q hq).1
  omega
end Go.Proofs.Ytcifngefclgefaa
