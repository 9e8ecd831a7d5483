/- Appending a whole slice to a row of the call's own. -/
import Derived.Test.YtcifngefclgefaaApp
namespace Go.Proofs.Ytcifngefclgefaa
open Go.RowKit
set_option linter.unusedVariables false
set_option linter.unusedSimpArgs false

/-- nothing is appended: a source that is nil, whatever its capacity is called -/
theorem run_append_src_nil' {P : Program} {w : World} {base : Nat} {t ty e : TypeId} {i : TypeInfo} {size : Nat} (ht : P.underlying t = some (.slice e)) (hi : P.info? e = some i) {v : Value} {n : Nat} {xs : List Value} (h : w.ownsRow base e size v n xs) (c : Nat) :
    (Builtin.append_ #[t, t] ty #[v, .slice none 0 c]).run P w = .ok v w := by
  rcases h.2 with ⟨rfl, rfl⟩ | ⟨g, cap, cur, rfl, _, _, hnc, _⟩
  · simp [Builtin.append_, run_underlying ht, sizeOf, typeInfo, hi, Builtin.lenOf, Builtin.firstCells]
  · simp [Builtin.append_, run_underlying ht, sizeOf, typeInfo, hi, Builtin.lenOf, Builtin.firstCells, hnc, storeCells]
theorem wp_append_src_nil {P : Program} {w : World} {o : Oper} {a : Act} {K : Act → World → Prop} {Q : Exit → Act → World → Prop} (s x : Operand) (t : TypeId)
    (ho : o.op = .call { callee := .builtin .append, args := #[s, x], argTypes := #[t, t] }) (base : Nat) (e : TypeId) (i : TypeInfo) (size : Nat) (ht : P.underlying t = some (.slice e)) (hi : P.info? e = some i)
    (v : Value) (n : Nat) (xs : List Value) (hs : a.eval s = v) (hown : w.ownsRow base e size v n xs) (c : Nat) (hx : a.eval x = .slice none 0 c)
    (h : K (a.put o.dst v) w) : Oper.wp P o a w K Q := by
  have hrun := run_append_src_nil' (P := P) (w := w) (ty := o.type) ht hi hown c
  unfold Oper.wp
  simp [execOp, ho, resolve, invoke, builtin, hs, hx, hrun, Result.andThen]
  exact h
theorem wp_app_all {P : Program} {α : Type} {f : α → List Value} {o : Oper} {a : Act} {K : Act → World → Prop} {Q : Exit → Act → World → Prop} (s x : Operand) (t : TypeId)
    (ho : o.op = .call { callee := .builtin .append, args := #[s, x], argTypes := #[t, t] }) (base : Nat) (e : TypeId) {z : Value} (k bytes : Nat) (hi : (P.info? e).map (fun i => (i.zero, i.size, i.bytes)) = some (some z, k, bytes))
    (hzk : z.cells.size = k) (hk : 0 < k) (ht : P.underlying t = some (.slice e)) (hf : ∀ x, (f x).length = k) (h1 : ∀ x, ∀ u ∈ f x, u.oneCell' = true) (w w0 : World) (B : Nat) (L M : List α) (v u : Value) (hs : a.eval s = v)
    (hx : a.eval x = u) (hM : SlAt w k u M.length (fl f M)) (hown : w.ownsRow base e k v L.length (fl f L)) (hB : Below B w0 w) (hb : B ≤ base) (hbw : base ≤ w.heap.size) (hL : (L.length + M.length) * bytes ≤ 140737488355328) (hL2 : L.length + M.length ≤ maxLen)
    (hK : ∀ A c w', w'.ownsRow base e k (.slice A (L.length + M.length) c) (L ++ M).length (fl f (L ++ M)) → Below B w0 w' → w.grownBy w' v.ownBlock → K (a.put o.dst (.slice A (L.length + M.length) c)) w') :
    Oper.wp P o a w K Q := by
  obtain ⟨i0, hi0, hz0, hz1, hz2⟩ := info_parts hi
  obtain ⟨A, c, rfl, hc1, hc2, hR⟩ := hM
  have key : ∀ v' w', w'.ownsRow base e k v' (L.length + M.length) (fl f L ++ fl f M) → w.grownBy w' v.ownBlock → K (a.put o.dst v') w' := by
    intro v' w' hown' hg
    have hown2 : w'.ownsRow base e k v' (L ++ M).length (fl f (L ++ M)) := by rw [fl_app, List.length_append]; exact hown'
    obtain ⟨A', c', rfl, _⟩ := SlAt.own hown'
    refine hK A' c' w' hown2 (hB.grown hg (by omega) fun q hq => ?_) hg
    have := (hown.lt q hq).1
    omega
  cases A with
  | none =>
    have h0 : M.length = 0 := by
      rcases Nat.eq_zero_or_pos M.length with h | h
      · exact h
      · obtain ⟨b, o, e, _⟩ := hR.2 h
        cases e
    have hn : M = [] := List.eq_nil_of_length_eq_zero h0
    subst hn
    refine wp_append_src_nil s x t ho base e i0 k ht hi0 v L.length (fl f L) hs hown c hx (key v w ?_ (World.grownBy.refl _ _))
    rw [List.length_nil, Nat.add_zero, fl_nil, List.append_nil]
    exact hown
  | some ad =>
    refine wp_append_own w s x t ho base e i0 z k bytes ht hi0 hz0 hz1 hz2 hzk hk v L.length (fl f L) hs hown ad M.length c (fl f M) hx (fl_len hf M) (fun j q hj => ?_) (fl_one_cell h1 M) hL2 hL hbw (fun v' w' h2 h3 _ => key v' w' h2 h3)
    have hjl := (List.getElem?_eq_some_iff.1 hj).1
    have hn : 0 < M.length := by
      rcases Nat.eq_zero_or_pos M.length with h0 | h0
      · rw [fl_len hf, h0] at hjl; omega
      · exact h0
    obtain ⟨b, o', e', _⟩ := hR.2 hn
    cases e'
    exact reads_add' hR j q hj
theorem wpList_app_all {P : Program} {α : Type} {f : α → List Value} {ops : Array Oper} {rest : List Oper} {o : Oper} {a : Act} {Q : Exit → Act → World → Prop} (hgd : o.guard = none) (s x : Operand) (t : TypeId)
    (ho : o.op = .call { callee := .builtin .append, args := #[s, x], argTypes := #[t, t] }) (base : Nat) (e : TypeId) {z : Value} (k bytes : Nat) (hi : (P.info? e).map (fun i => (i.zero, i.size, i.bytes)) = some (some z, k, bytes))
    (hzk : z.cells.size = k) (hk : 0 < k) (ht : P.underlying t = some (.slice e)) (hf : ∀ x, (f x).length = k) (h1 : ∀ x, ∀ u ∈ f x, u.oneCell' = true) (w w0 : World) (B : Nat) (L M : List α) (v u : Value) (hs : a.eval s = v)
    (hx : a.eval x = u) (hM : SlAt w k u M.length (fl f M)) (hown : w.ownsRow base e k v L.length (fl f L)) (hB : Below B w0 w) (hb : B ≤ base) (hbw : base ≤ w.heap.size) (hL : (L.length + M.length) * bytes ≤ 140737488355328) (hL2 : L.length + M.length ≤ maxLen)
    (hK : ∀ A c w', w'.ownsRow base e k (.slice A (L.length + M.length) c) (L ++ M).length (fl f (L ++ M)) → Below B w0 w' → w.grownBy w' v.ownBlock → wpList P ops Q rest (a.put o.dst (.slice A (L.length + M.length) c)) w') :
    wpList P ops Q (o :: rest) a w :=
  wpList_plain hgd fun K hK' => wp_app_all s x t ho base e k bytes hi hzk hk ht hf h1 w w0 B L M v u hs hx hM hown hB hb hbw hL hL2 fun A c w' h2 h3 h4 => hK' _ _ (hK A c w' h2 h3 h4)
theorem step_app_all {P : Program} {α : Type} {f : α → List Value} {ops : Array Oper} {o : Oper} {a : Act} {K : Act → World → Prop} {Q : Exit → Act → World → Prop} {E : Prop} (hgd : o.guard = none) (s x : Operand) (t : TypeId)
    (ho : o.op = .call { callee := .builtin .append, args := #[s, x], argTypes := #[t, t] }) (base : Nat) (e : TypeId) {z : Value} (k bytes : Nat) (hi : (P.info? e).map (fun i => (i.zero, i.size, i.bytes)) = some (some z, k, bytes))
    (hzk : z.cells.size = k) (hk : 0 < k) (ht : P.underlying t = some (.slice e)) (hf : ∀ x, (f x).length = k) (h1 : ∀ x, ∀ u ∈ f x, u.oneCell' = true) (w w0 : World) (B : Nat) (L M : List α) (v u : Value) (hs : a.eval s = v)
    (hx : a.eval x = u) (hM : SlAt w k u M.length (fl f M)) (hown : w.ownsRow base e k v L.length (fl f L)) (hB : Below B w0 w) (hb : B ≤ base) (hbw : base ≤ w.heap.size) (hL : (L.length + M.length) * bytes ≤ 140737488355328) (hL2 : L.length + M.length ≤ maxLen)
    (hK : ∀ A c w', w'.ownsRow base e k (.slice A (L.length + M.length) c) (L ++ M).length (fl f (L ++ M)) → Below B w0 w' → w.grownBy w' v.ownBlock → K (a.put o.dst (.slice A (L.length + M.length) c)) w') :
    if Region.wanted o (yielded ops a.tmps) = true then Oper.wp P o a w K Q else E := by
  have hw : Region.wanted o (yielded ops a.tmps) = true := by simp [Region.wanted, hgd]
  rw [if_pos hw]
  exact wp_app_all s x t ho base e k bytes hi hzk hk ht hf h1 w w0 B L M v u hs hx hM hown hB hb hbw hL hL2 hK
end Go.Proofs.Ytcifngefclgefaa
