/- Appending one element: where the new row lies. -/
import Derived.Test.YtcifngefclgefaaApp
namespace Go.Proofs.Ytcifngefclgefaa
open Go.RowKit
set_option linter.unusedVariables false
set_option linter.unusedSimpArgs false

/-- what append hands back lies where the row lay, or in a new block -/
theorem append_lies {P : Program} {w w' : World} {base m c : Nat} {t ty e : TypeId} {i : TypeInfo} {z : Value} {size bytes : Nat} {v v' : Value} {n : Nat} {xs news : List Value} {a : Addr}
    (ht : P.underlying t = some (.slice e)) (hi : P.info? e = some i) (hz : i.zero = some z) (hsize : i.size = size) (hby : i.bytes = bytes) (hzs : z.cells.size = size) (hsz : 0 < size) (hown : w.ownsRow base e size v n xs)
    (hl : news.length = m * size) (hnews : ∀ j u, news[j]? = some u → w.cell? (a.add j) = some u) (h1 : ∀ u ∈ news, u.oneCell' = true) (h63 : n + m ≤ maxLen) (hbytes : (n + m) * bytes ≤ 140737488355328)
    (hr : (Builtin.append_ #[t, t] ty #[v, .slice (some a) m c]).run P w = .ok v' w') : ∀ k, v'.ownBlock = some k → v.ownBlock = some k ∨ w.heap.size ≤ k := by
  intro k hk
  rcases hown.2 with ⟨rfl, rfl⟩ | ⟨g, cap, cur, rfl, hbg, hg, hnc, hcm, hcs, htake⟩
  · have hx : xs = [] := List.eq_nil_of_length_eq_zero (by simpa using hown.1)
    subst hx
    obtain ⟨v2, w2, hr2, h4, _⟩ := run_append_own (P := P) w w.heap.size t ty e i z size bytes ht hi hz hsize hby hzs hsz _ 0 [] (World.ownsRow_nil w w.heap.size e size) a m c news hl hnews h1 h63 hbytes (Nat.le_refl _)
    rw [hr] at hr2
    cases hr2
    exact .inr (World.ownsRow.lt h4 k hk).1
  · subst hsize
    subst hby
    have hsmall : n + m ≤ 9223372036854775807 := by simp only [maxLen] at h63; omega
    by_cases hroom : n + m ≤ cap
    · have hr2 := run_append_room (P := P) w t ty e i ht hi g n cap cur hg a m c news hl hnews h1 hroom (by rw [hl, hcs, ← Nat.add_mul]; exact Nat.mul_le_mul_right _ hroom)
      rw [hr] at hr2
      cases hr2
      exact .inl hk
    · have hr2 := run_append_grow (P := P) w t ty e i z ht hi hz ⟨g, 0, none⟩ n cap xs hown.1 (hown.cells (g := g) rfl) a m c news hl hnews (by omega) (by omega) (growslice_fits (by omega) hbytes)
      rw [hr] at hr2
      cases hr2
      simp [Value.ownBlock] at hk
      exact .inr (by omega)

/-- out = append(out, y), the element laid in a block of its own first -/
theorem wpList_app1n {P : Program} {α : Type} {f : α → List Value} {ops : Array Oper} {rest : List Oper} {o : Oper} {a : Act} {Q : Exit → Act → World → Prop} (hgd : o.guard = none) (s x : Operand) (t : TypeId)
    (ho : o.op = .call { callee := .builtin .append, args := #[s, x], argTypes := #[t, t] }) (base : Nat) (e : TypeId) {z : Value} (k bytes : Nat) (hi : (P.info? e).map (fun i => (i.zero, i.size, i.bytes)) = some (some z, k, bytes))
    (hzk : z.cells.size = k) (hk : 0 < k) (ht : P.underlying t = some (.slice e)) (hf : ∀ x, (f x).length = k) (h1 : ∀ x, ∀ u ∈ f x, u.oneCell' = true) (w w0 : World) (B : Nat) (y : α) (L : List α) (v : Value) (hs : a.eval s = v)
    (hx : a.eval x = .slice (some ⟨w.heap.size, 0, none⟩) 1 1) (hown : w.ownsRow base e k v L.length (fl f L)) (hB : Below B w0 w) (hb : B ≤ base) (hbw : base ≤ w.heap.size) (hL : (L.length + 1) * bytes ≤ 140737488355328) (hL2 : L.length + 1 ≤ maxLen)
    (hK : ∀ A c w', w'.ownsRow base e k (.slice A (L.length + 1) c) (L ++ [y]).length (fl f (L ++ [y])) → Below B w0 w' → (w.alloc (.cells (f y).toArray e)).grownBy w' v.ownBlock → (∀ k, (Value.slice A (L.length + 1) c).ownBlock = some k → v.ownBlock = some k ∨ w.heap.size ≤ k) → wpList P ops Q rest (a.put o.dst (.slice A (L.length + 1) c)) w') :
    wpList P ops Q (o :: rest) a (w.alloc (.cells (f y).toArray e)) := by
  obtain ⟨i0, hi0, hz0, hz1, hz2⟩ := info_parts hi
  have hnl : (f y).length = 1 * k := by rw [hf, Nat.one_mul]
  have hnc : ∀ j u, (f y)[j]? = some u → (w.alloc (.cells (f y).toArray e)).cell? ((⟨w.heap.size, 0, none⟩ : Addr).add j) = some u := fun j u hj => by rw [newadd]; exact hj
  obtain ⟨v', w', hr, hown', hg, _⟩ := run_append_own (P := P) (w.alloc (.cells (f y).toArray e)) base t o.type e i0 z k bytes ht hi0 hz0 hz1 hz2 hzk hk v L.length (fl f L) (hown.alloc _) ⟨w.heap.size, 0, none⟩ 1 1 (f y) hnl hnc (h1 y) hL2 hL (by simp; omega)
  have hnew := append_lies ht hi0 hz0 hz1 hz2 hzk hk (hown.alloc (.cells (f y).toArray e)) hnl hnc (h1 y) hL2 hL hr
  refine wpList_plain hgd fun K hK' => ?_
  have e1 : fl f (L ++ [y]) = fl f L ++ f y := by rw [fl_app, fl_one]
  have hown2 : w'.ownsRow base e k v' (L ++ [y]).length (fl f (L ++ [y])) := by rw [e1, List.length_append, List.length_singleton]; exact hown'
  obtain ⟨A, c, rfl, _⟩ := SlAt.own hown'
  simp [Oper.wp, execOp, ho, resolve, invoke, builtin, hs, hx, hr, Result.andThen]
  refine hK' _ _ (hK A c w' hown2 ((hB.alloc (by omega) _).grown hg (by simp; omega) fun q hq => ?_) hg fun q hq => ?_)
  · have := (hown.lt q hq).1
    omega
  · rcases hnew q hq with a | a
    · exact .inl a
    · rw [World.size_alloc] at a; exact .inr (by omega)

end Go.Proofs.Ytcifngefclgefaa
