/- Appending one element to a row of the call's own. Appending a whole slice to a row of the call's own. The plain model of a receiver's ledger: which ledgers are valid, what is reserved, the state of a range; no program in sight. -/
import Derived.Test.YtfgkkflbpfocjaaZc4
namespace Go.Proofs.Ytfgkkflbpfocjaa
open Go.RowKit
set_option linter.unusedVariables false
set_option linter.unusedSimpArgs false

theorem newadd (w : World) (cs : List Value) (t : TypeId) (j : Nat) : (w.alloc (.cells cs.toArray t)).cell? ((⟨w.heap.size, 0, none⟩ : Addr).add j) = cs[j]? := by
  by_cases h : j = 0
  · subst h; rw [show ((⟨w.heap.size, 0, none⟩ : Addr).add 0) = ⟨w.heap.size, 0, none⟩ from rfl, newcell]; simp
  · rw [show ((⟨w.heap.size, 0, none⟩ : Addr).add j) = ⟨w.heap.size, j, none⟩ from by simp [Addr.add, h], newcell]; simp

section
variable {α : Type} {f : α → List Value} {k : Nat}
theorem fl_set (hf : ∀ x, (f x).length = k) (l : List α) (i : Nat) (y : α) (hi : i < l.length) : fl f (l.set i y) = fl f (l.take i) ++ (f y ++ fl f (l.drop (i + 1))) := by
  rw [List.set_eq_take_append_cons_drop, if_pos hi, fl_app, fl_cons]
theorem fl_split (hf : ∀ x, (f x).length = k) (l : List α) (i : Nat) {x : α} (hx : l[i]? = some x) : fl f l = fl f (l.take i) ++ (f x ++ fl f (l.drop (i + 1))) := by
  obtain ⟨hi, rfl⟩ := List.getElem?_eq_some_iff.1 hx
  rw [← fl_cons, ← fl_app, ← List.drop_eq_getElem_cons hi, List.take_append_drop]
/-- storing one cell of an element -/
theorem fl_set_at (hf : ∀ x, (f x).length = k) (l : List α) (i j : Nat) {x y : α} {u : Value} (hx : l[i]? = some x) (hj : j < k) (hy : (f x).set j u = f y) : (fl f l).set (i * k + j) u = fl f (l.set i y) := by
  have hi := (List.getElem?_eq_some_iff.1 hx).1
  have hl : (fl f (l.take i)).length = i * k := by rw [fl_len hf, List.length_take, Nat.min_eq_left (by omega)]
  rw [fl_set hf l i y hi, fl_split hf l i hx, List.set_append_right _ _ (by omega), hl, show i * k + j - i * k = j by omega, List.set_append_left _ _ (by rw [hf]; exact hj), hy]
end
/-- a slot of a row that is known: it may be stored into -/
theorem own_store {α : Type} {f : α → List Value} {k : Nat} (hf : ∀ x, (f x).length = k) {w : World} {base g n cap : Nat} {e : TypeId} {L : List α} (h : w.ownsRow base e k (.slice (some ⟨g, 0, none⟩) n cap) n (fl f L)) (i j : Nat) {x y : α} {u : Value} (hx : L[i]? = some x) (hj : j < k) (hy : (f x).set j u = f y) :
    (w.setCell ⟨g, i * k + j, none⟩ u).ownsRow base e k (.slice (some ⟨g, 0, none⟩) n cap) n (fl f (L.set i y)) := by
  have := (h.stored (i * k + j) u).1
  rwa [fl_set_at hf L i j hx hj hy] at this
theorem own_cell {α : Type} {f : α → List Value} {k : Nat} (hf : ∀ x, (f x).length = k) {w : World} {base g n cap : Nat} {e : TypeId} {L : List α} (h : w.ownsRow base e k (.slice (some ⟨g, 0, none⟩) n cap) n (fl f L)) (i j : Nat) {x : α} (hx : L[i]? = some x) (hj : j < k) :
    w.cell? ⟨g, i * k + j, none⟩ = (f x)[j]? := by
  have hi := (List.getElem?_eq_some_iff.1 hx).1
  have hn := h.1
  rw [fl_len hf] at hn
  rw [h.cellAt (i * k + j) (by rw [← hn]; calc i * k + j < i * k + k := by omega
                                        _ = (i + 1) * k := by rw [Nat.add_mul, Nat.one_mul]
                                        _ ≤ L.length * k := Nat.mul_le_mul_right k (by omega)), fl_get hf L i hx j hj]

end Go.Proofs.Ytfgkkflbpfocjaa

namespace Go.Proofs.Ytfgkkflbpfocjaa
open Go.RowKit
set_option linter.unusedVariables false
set_option linter.unusedSimpArgs false

/-- nothing is appended: a source that is nil, whatever its capacity is called -/
theorem run_append_src_nil' {P : Program} {w : World} {base : Nat} {t ty e : TypeId} {i : TypeInfo} {size : Nat} (ht : P.underlying t = some (.slice e)) (hi : P.info? e = some i) {v : Value} {n : Nat} {xs : List Value} (h : w.ownsRow base e size v n xs) (c : Nat) :
    (Builtin.append_ #[t, t] ty #[v, .slice none 0 c]).run P w = .ok v w := by
  rcases h.2 with ⟨rfl, rfl⟩ | ⟨g, cap, cur, rfl, _, _, hnc, _⟩
  · simp [Builtin.append_, run_underlying ht, sizeOf, typeInfo, hi, Builtin.lenOf, Builtin.firstCells]
  · simp [Builtin.append_, run_underlying ht, sizeOf, typeInfo, hi, Builtin.lenOf, Builtin.firstCells, hnc, storeCells]
theorem wp_append_src_nil {P : Program} {w : World} {o : Oper} {a : Act} {K : Act → World → Prop} {Q : Exit → Act → World → Prop} (s x : Operand) (t : TypeId)
    (ho : o.op = .call { callee := .builtin .append, args := #[s, x], argTypes := #[t, t] }) (base : Nat) (e : TypeId) (i : TypeInfo) (size : Nat) (ht : P.underlying t = some (.slice e)) (hi : P.info? e = some i)
    (v : Value) (n : Nat) (xs : List Value) (hs : a.eval s = v) (hown : w.ownsRow base e size v n xs) (c : Nat) (hx : a.eval x = .slice none 0 c)
    (h : K (a.put o.dst v) w) : Oper.wp P o a w K Q := by
  have hrun := run_append_src_nil' (P := P) (w := w) (ty := o.type) ht hi hown c
  unfold Oper.wp
  simp [execOp, ho, resolve, invoke, builtin, hs, hx, hrun, Result.andThen]
  exact h
theorem wp_app_all {P : Program} {α : Type} {f : α → List Value} {o : Oper} {a : Act} {K : Act → World → Prop} {Q : Exit → Act → World → Prop} (s x : Operand) (t : TypeId)
    (ho : o.op = .call { callee := .builtin .append, args := #[s, x], argTypes := #[t, t] }) (base : Nat) (e : TypeId) {z : Value} (k bytes : Nat) (hi : (P.info? e).map (fun i => (i.zero, i.size, i.bytes)) = some (some z, k, bytes))
    (hzk : z.cells.size = k) (hk : 0 < k) (ht : P.underlying t = some (.slice e)) (hf : ∀ x, (f x).length = k) (h1 : ∀ x, ∀ u ∈ f x, u.oneCell' = true) (w w0 : World) (B : Nat) (L M : List α) (v u : Value) (hs : a.eval s = v)
    (hx : a.eval x = u) (hM : SlAt w k u M.length (fl f M)) (hown : w.ownsRow base e k v L.length (fl f L)) (hB : Below B w0 w) (hb : B ≤ base) (hbw : base ≤ w.heap.size) (hL : (L.length + M.length) * bytes ≤ 140737488355328) (hL2 : L.length + M.length ≤ maxLen)
    (hK : ∀ A c w', w'.ownsRow base e k (.slice A (L.length + M.length) c) (L ++ M).length (fl f (L ++ M)) → Below B w0 w' → w.grownBy w' v.ownBlock → K (a.put o.dst (.slice A (L.length + M.length) c)) w') :
    Oper.wp P o a w K Q := by
  obtain ⟨i0, hi0, hz0, hz1, hz2⟩ := info_parts hi
  obtain ⟨A, c, rfl, hc1, hc2, hR⟩ := hM
  have key : ∀ v' w', w'.ownsRow base e k v' (L.length + M.length) (fl f L ++ fl f M) → w.grownBy w' v.ownBlock → K (a.put o.dst v') w' := by
    intro v' w' hown' hg
    have hown2 : w'.ownsRow base e k v' (L ++ M).length (fl f (L ++ M)) := by rw [fl_app, List.length_append]; exact hown'
    obtain ⟨A', c', rfl, _⟩ := SlAt.own hown'
    refine hK A' c' w' hown2 (hB.grown hg (by omega) fun q hq => ?_) hg
    have := (hown.lt q hq).1
    omega
  cases A with
  | none =>
    have h0 : M.length = 0 := by
      rcases Nat.eq_zero_or_pos M.length with h | h
      · exact h
      · obtain ⟨b, o, e, _⟩ := hR.2 h
        cases e
    have hn : M = [] := List.eq_nil_of_length_eq_zero h0
    subst hn
    refine wp_append_src_nil s x t ho base e i0 k ht hi0 v L.length (fl f L) hs hown c hx (key v w ?_ (World.grownBy.refl _ _))
    rw [List.length_nil, Nat.add_zero, fl_nil, List.append_nil]
    exact hown
  | some ad =>
    refine wp_append_own w s x t ho base e i0 z k bytes ht hi0 hz0 hz1 hz2 hzk hk v L.length (fl f L) hs hown ad M.length c (fl f M) hx (fl_len hf M) (fun j q hj => ?_) (fl_one_cell h1 M) hL2 hL hbw (fun v' w' h2 h3 _ => key v' w' h2 h3)
    have hjl := (List.getElem?_eq_some_iff.1 hj).1
    have hn : 0 < M.length := by
      rcases Nat.eq_zero_or_pos M.length with h0 | h0
      · rw [fl_len hf, h0] at hjl; omega
      · exact h0
    obtain ⟨b, o', e', _⟩ := hR.2 hn
    cases e'
    exact reads_add' hR j q hj
theorem wpList_app_all {P : Program} {α : Type} {f : α → List Value} {ops : Array Oper} {rest : List Oper} {o : Oper} {a : Act} {Q : Exit → Act → World → Prop} (hgd : o.guard = none) (s x : Operand) (t : TypeId)
    (ho : o.op = .call { callee := .builtin .append, args := #[s, x], argTypes := #[t, t] }) (base : Nat) (e : TypeId) {z : Value} (k bytes : Nat) (hi : (P.info? e).map (fun i => (i.zero, i.size, i.bytes)) = some (some z, k, bytes))
    (hzk : z.cells.size = k) (hk : 0 < k) (ht : P.underlying t = some (.slice e)) (hf : ∀ x, (f x).length = k) (h1 : ∀ x, ∀ u ∈ f x, u.oneCell' = true) (w w0 : World) (B : Nat) (L M : List α) (v u : Value) (hs : a.eval s = v)
    (hx : a.eval x = u) (hM : SlAt w k u M.length (fl f M)) (hown : w.ownsRow base e k v L.length (fl f L)) (hB : Below B w0 w) (hb : B ≤ base) (hbw : base ≤ w.heap.size) (hL : (L.length + M.length) * bytes ≤ 140737488355328) (hL2 : L.length + M.length ≤ maxLen)
    (hK : ∀ A c w', w'.ownsRow base e k (.slice A (L.length + M.length) c) (L ++ M).length (fl f (L ++ M)) → Below B w0 w' → w.grownBy w' v.ownBlock → wpList P ops Q rest (a.put o.dst (.slice A (L.length + M.length) c)) w') :
    wpList P ops Q (o :: rest) a w :=
  wpList_plain hgd fun K hK' => wp_app_all s x t ho base e k bytes hi hzk hk ht hf h1 w w0 B L M v u hs hx hM hown hB hb hbw hL hL2 fun A c w' h2 h3 h4 => hK' _ _ (hK A c w' h2 h3 h4)
theorem step_app_all {P : Program} {α : Type} {f : α → List Value} {ops : Array Oper} {o : Oper} {a : Act} {K : Act → World → Prop} {Q : Exit → Act → World → Prop} {E : Prop} (hgd : o.guard = none) (s x : Operand) (t : TypeId)
    (ho : o.op = .call { callee := .builtin .append, args := #[s, x], argTypes := #[t, t] }) (base : Nat) (e : TypeId) {z : Value} (k bytes : Nat) (hi : (P.info? e).map (fun i => (i.zero, i.size, i.bytes)) = some (some z, k, bytes))
    (hzk : z.cells.size = k) (hk : 0 < k) (ht : P.underlying t = some (.slice e)) (hf : ∀ x, (f x).length = k) (h1 : ∀ x, ∀ u ∈ f x, u.oneCell' = true) (w w0 : World) (B : Nat) (L M : List α) (v u : Value) (hs : a.eval s = v)
    (hx : a.eval x = u) (hM : SlAt w k u M.length (fl f M)) (hown : w.ownsRow base e k v L.length (fl f L)) (hB : Below B w0 w) (hb : B ≤ base) (hbw : base ≤ w.heap.size) (hL : (L.length + M.length) * bytes ≤ 140737488355328) (hL2 : L.length + M.length ≤ maxLen)
    (hK : ∀ A c w', w'.ownsRow base e k (.slice A (L.length + M.length) c) (L ++ M).length (fl f (L ++ M)) → Below B w0 w' → w.grownBy w' v.ownBlock → K (a.put o.dst (.slice A (L.length + M.length) c)) w') :
    if Region.wanted o (yielded ops a.tmps) = true then Oper.wp P o a w K Q else E := by
  have hw : Region.wanted o (yielded ops a.tmps) = true := by simp [Region.wanted, hgd]
  rw [if_pos hw]
  exact wp_app_all s x t ho base e k bytes hi hzk hk ht hf h1 w w0 B L M v u hs hx hM hown hB hb hbw hL hL2 hK
end Go.Proofs.Ytfgkkflbpfocjaa

namespace Go.Proofs.Ytfgkkflbpfocjaa
set_option linter.unusedVariables false

/-- a range -/
structure Rg where
  f : Int
  t : Int
/-- a receiver's ledger -/
structure Rec where
  g : Int
  r : Int
  fl : Int
  tk : List Rg
  kp : List Int
/-- the first error and where it is -/
def fstE (f : Nat → Int) : Nat → Nat → Int × Nat
  | 0, _ => (0, 0)
  | n + 1, k => if f k ≠ 0 then (f k, k) else fstE f n (k + 1)
theorem fstE_hit {f : Nat → Int} {N k : Nat} (hk : k < N) (h : f k ≠ 0) : fstE f (N - k) k = (f k, k) := by
  obtain ⟨n, hn⟩ : ∃ n, N - k = n + 1 := ⟨N - k - 1, by omega⟩
  rw [hn]; exact if_pos h
theorem fstE_miss {f : Nat → Int} {N k : Nat} (hk : k < N) (h : f k = 0) : fstE f (N - k) k = fstE f (N - (k + 1)) (k + 1) := by
  obtain ⟨n, hn⟩ : ∃ n, N - k = n + 1 := ⟨N - k - 1, by omega⟩
  have e : N - (k + 1) = n := by omega
  rw [hn, e]; exact if_neg (by rw [h]; exact fun c => c rfl)
theorem fstE_end {f : Nat → Int} {N : Nat} : fstE f (N - N) N = (0, 0) := by rw [Nat.sub_self]; rfl
theorem fstE_zero {f : Nat → Int} {N : Nat} (h : (fstE f N 0).1 = 0) : ∀ k, k < N → f k = 0 := by
  have : ∀ n k, k + n = N → (fstE f n k).1 = 0 → ∀ j, k ≤ j → j < N → f j = 0 := by
    intro n
    induction n with
    | zero => intro k hk _ j h1 h2; omega
    | succ n ih =>
      intro k hk h0 j h1 h2
      rw [fstE] at h0
      by_cases c : f k ≠ 0
      · rw [if_pos c] at h0; exact absurd h0 c
      · rw [if_neg c] at h0
        rcases Nat.lt_or_eq_of_le h1 with d | d
        · exact ih (k + 1) (by omega) h0 j (by omega) h2
        · rw [← d]; exact Decidable.not_not.1 c
  intro k hk
  exact this N 0 (by omega) h k (by omega) hk
theorem fstE_all {f : Nat → Int} {N : Nat} (h : ∀ k, k < N → f k = 0) : fstE f N 0 = (0, 0) := by
  have : ∀ n k, k + n = N → fstE f n k = (0, 0) := by
    intro n
    induction n with
    | zero => intro k _; rfl
    | succ n ih =>
      intro k hk
      rw [fstE, if_neg (fun c => c (h k (by omega)))]
      exact ih (k + 1) (by omega)
  exact this N 0 (by omega)
def rgAt (l : List Rg) (i : Nat) : Rg := l.getD i ⟨0, 0⟩
theorem rgAt_of {l : List Rg} {i : Nat} {x : Rg} (h : l[i]? = some x) : rgAt l i = x := by
  unfold rgAt; rw [List.getD_eq_getElem?_getD, h]; rfl
def kpAt (l : List Int) (i : Nat) : Int := l.getD i 0
/-- a number lies in a range -/
def Rg.inB (x : Rg) (n : Int) : Bool := decide (x.f ≤ n) && decide (n < x.t)
def inR (l : List Rg) (n : Int) : Bool := l.any fun x => x.inB n
theorem inR_hit {l : List Rg} {n : Int} {k : Nat} {x : Rg} (h : l[k]? = some x) (hb : x.inB n = true) : inR l n = true := List.any_eq_true.2 ⟨x, List.mem_of_getElem? h, hb⟩
theorem inR_miss {l : List Rg} {n : Int} (h : ∀ k x, k < l.length → l[k]? = some x → x.inB n = false) : inR l n = false := by
  rw [Bool.eq_false_iff]
  intro c
  obtain ⟨x, hx, hb⟩ := List.any_eq_true.1 c
  obtain ⟨k, hk, e⟩ := List.mem_iff_getElem.1 hx
  have := h k x hk (by rw [List.getElem?_eq_getElem hk, e])
  rw [this] at hb; cases hb
/-- the error of a range that was taken -/
def tErr (r : Rec) (i : Nat) : Int :=
  if (rgAt r.tk i).t ≤ (rgAt r.tk i).f ∨ (rgAt r.tk i).f < r.fl ∨ (0 < i ∧ (rgAt r.tk i).f ≤ (rgAt r.tk (i - 1)).t) then 19 else if r.g - r.r < (rgAt r.tk i).t then 14 else 0
/-- the error of an offset that is kept -/
def kErr (r : Rec) (i : Nat) : Int := if 0 < i ∧ kpAt r.kp i ≤ kpAt r.kp (i - 1) then 19 else if inR r.tk (kpAt r.kp i) = false then 12 else 0
/-- the first error of a ledger -/
def chkR (r : Rec) : Int × Nat :=
  if 1125899906842624 < r.g then (2, 0) else if r.g < r.r ∨ r.g - r.r < r.fl then (14, 0) else if 1000 < r.tk.length ∨ 1000 < r.kp.length then (5, 0)
  else if (fstE (tErr r) r.tk.length 0).1 ≠ 0 then fstE (tErr r) r.tk.length 0 else fstE (kErr r) r.kp.length 0
def okR (r : Rec) : Prop := (chkR r).1 = 0
instance (r : Rec) : Decidable (okR r) := by unfold okR; exact inferInstance
/-- the numbers are machine numbers -/
structure WfR (z : Rec) : Prop where
  g : 0 ≤ z.g ∧ z.g ≤ 18446744073709551615
  r : 0 ≤ z.r ∧ z.r ≤ 18446744073709551615
  fl : 0 ≤ z.fl ∧ z.fl ≤ 18446744073709551615
  tk : ∀ x ∈ z.tk, (0 ≤ x.f ∧ x.f ≤ 18446744073709551615) ∧ (0 ≤ x.t ∧ x.t ≤ 18446744073709551615)
  kp : ∀ x ∈ z.kp, 0 ≤ x ∧ x ≤ 18446744073709551615
/-- a valid ledger, in words -/
structure OkR (z : Rec) : Prop where
  g : z.g ≤ 1125899906842624
  r : z.r ≤ z.g
  fl : z.fl ≤ z.g - z.r
  nt : z.tk.length ≤ 1000
  nk : z.kp.length ≤ 1000
  t : ∀ i, i < z.tk.length → (rgAt z.tk i).f < (rgAt z.tk i).t ∧ z.fl ≤ (rgAt z.tk i).f ∧ (rgAt z.tk i).t ≤ z.g - z.r ∧ (0 < i → (rgAt z.tk (i - 1)).t < (rgAt z.tk i).f)
theorem tErr_zero {r : Rec} {i : Nat} (h : tErr r i = 0) : (rgAt r.tk i).f < (rgAt r.tk i).t ∧ r.fl ≤ (rgAt r.tk i).f ∧ (rgAt r.tk i).t ≤ r.g - r.r ∧ (0 < i → (rgAt r.tk (i - 1)).t < (rgAt r.tk i).f) := by
  unfold tErr at h
  by_cases c : (rgAt r.tk i).t ≤ (rgAt r.tk i).f ∨ (rgAt r.tk i).f < r.fl ∨ (0 < i ∧ (rgAt r.tk i).f ≤ (rgAt r.tk (i - 1)).t)
  · rw [if_pos c] at h; cases h
  · rw [if_neg c] at h
    by_cases d : r.g - r.r < (rgAt r.tk i).t
    · rw [if_pos d] at h; cases h
    · refine ⟨?_, ?_, by omega, fun h0 => ?_⟩
      · exact Int.not_le.1 fun e => c (.inl e)
      · exact Int.not_lt.1 fun e => c (.inr (.inl e))
      · exact Int.not_le.1 fun e => c (.inr (.inr ⟨h0, e⟩))
theorem okR_of {r : Rec} (h : okR r) : OkR r := by
  unfold okR chkR at h
  by_cases c1 : 1125899906842624 < r.g
  · rw [if_pos c1] at h; cases h
  rw [if_neg c1] at h
  by_cases c2 : r.g < r.r ∨ r.g - r.r < r.fl
  · rw [if_pos c2] at h; cases h
  rw [if_neg c2] at h
  by_cases c3 : 1000 < r.tk.length ∨ 1000 < r.kp.length
  · rw [if_pos c3] at h; cases h
  rw [if_neg c3] at h
  by_cases c4 : (fstE (tErr r) r.tk.length 0).1 = 0
  · exact ⟨by omega, by omega, by omega, by omega, by omega, fun i hi => tErr_zero (fstE_zero c4 i hi)⟩
  · rw [if_pos c4] at h; exact absurd h c4
/-- the bytes of the first k ranges -/
def szs (l : List Rg) : Nat → Int
  | 0 => 0
  | k + 1 => szs l k + ((rgAt l k).t - (rgAt l k).f)
/-- where the first k ranges end -/
def endK (r : Rec) : Nat → Int
  | 0 => r.fl
  | k + 1 => (rgAt r.tk k).t
theorem endK_le {r : Rec} (h : OkR r) {k : Nat} (hk : k ≤ r.tk.length) : r.fl ≤ endK r k ∧ endK r k ≤ r.g - r.r := by
  cases k with
  | zero => exact ⟨Int.le_refl _, h.fl⟩
  | succ k =>
    have := h.t k (by omega)
    show r.fl ≤ (rgAt r.tk k).t ∧ (rgAt r.tk k).t ≤ _
    omega
theorem endK_next {r : Rec} (h : OkR r) {k : Nat} (hk : k < r.tk.length) : endK r k ≤ (rgAt r.tk k).f := by
  cases k with
  | zero => exact (h.t 0 hk).2.1
  | succ k =>
    have := (h.t (k + 1) hk).2.2.2 (by omega)
    rw [Nat.add_sub_cancel] at this
    show (rgAt r.tk k).t ≤ _
    omega
theorem szs_le {r : Rec} (h : OkR r) : ∀ k, k ≤ r.tk.length → 0 ≤ szs r.tk k ∧ r.fl + szs r.tk k ≤ endK r k := by
  intro k
  induction k with
  | zero => intro _; exact ⟨Int.le_refl _, by show r.fl + 0 ≤ r.fl; omega⟩
  | succ k ih =>
    intro hk
    have ih := ih (by omega)
    have h1 := endK_next h (k := k) (by omega)
    have h2 := (h.t k (by omega)).1
    show 0 ≤ szs r.tk k + _ ∧ r.fl + (szs r.tk k + _) ≤ (rgAt r.tk k).t
    omega
/-- what is reserved -/
def resv (r : Rec) : Int := r.g - r.r - r.fl - szs r.tk r.tk.length
theorem resv_b {r : Rec} (h : OkR r) (h0 : 0 ≤ r.fl) (h1 : 0 ≤ r.r) : 0 ≤ resv r ∧ resv r ≤ r.g := by
  have := szs_le h r.tk.length (Nat.le_refl _)
  have := endK_le h (k := r.tk.length) (Nat.le_refl _)
  unfold resv
  omega
/-! sets -/
def seE (l : List Rg) (i : Nat) : Int := if (rgAt l i).t ≤ (rgAt l i).f then 2 else if 0 < i ∧ (rgAt l i).f ≤ (rgAt l (i - 1)).t then 19 else 0
def setE (l : List Rg) : Int × Nat := if 1000 < l.length then (5, 0) else fstE (seE l) l.length 0
theorem setE_ok {r : Rec} (h : OkR r) : setE r.tk = (0, 0) := by
  unfold setE
  rw [if_neg (by have := h.nt; omega)]
  refine fstE_all fun k hk => ?_
  have := h.t k hk
  unfold seE
  rw [if_neg (by omega), if_neg (fun c => by have := this.2.2.2 c.1; omega)]
/-! the state of a range -/
def ov (off hi : Int) (x : Rg) : Int := if max x.f off < min x.t hi then min x.t hi - max x.f off else 0
theorem ov_b (off hi : Int) (x : Rg) : 0 ≤ ov off hi x := by
  unfold ov; split <;> omega
def flv (r : Rec) (off size : Int) : Int := if off < r.fl then min (r.fl - off) size else 0
def cons (r : Rec) (off size : Int) : Nat → Int
  | 0 => flv r off size
  | k + 1 => cons r off size k + ov off (off + size) (rgAt r.tk k)
def stOf (c size : Int) : Int := if c = size then 1 else if c = 0 then 2 else 3
def stE (r : Rec) (off size : Int) : Int × Int :=
  if (chkR r).1 ≠ 0 then (0, (chkR r).1) else if size = 0 then (0, 2) else if r.g - r.r < size ∨ r.g - r.r - size < off then (0, 14) else (stOf (cons r off size r.tk.length) size, 0)
def clampE (off size e : Int) : Int := if e ≤ off then 0 else if off + size ≤ e then size else e - off
theorem cons_b {r : Rec} (h : OkR r) {off size : Int} (hs : 0 < size) : ∀ k, k ≤ r.tk.length → 0 ≤ cons r off size k ∧ cons r off size k ≤ clampE off size (endK r k) := by
  intro k
  induction k with
  | zero =>
    intro _
    show 0 ≤ flv r off size ∧ flv r off size ≤ clampE off size r.fl
    unfold flv clampE
    split <;> split <;> (try split) <;> omega
  | succ k ih =>
    intro hk
    have ih := ih (by omega)
    have h1 := endK_next h (k := k) (by omega)
    have h2 := (h.t k (by omega)).1
    have h3 : clampE off size (endK r k) + ov off (off + size) (rgAt r.tk k) ≤ clampE off size (rgAt r.tk k).t := by
      unfold clampE ov
      split <;> split <;> (try split) <;> (try split) <;> omega
    have h4 := ov_b off (off + size) (rgAt r.tk k)
    show 0 ≤ cons r off size k + _ ∧ cons r off size k + _ ≤ clampE off size (rgAt r.tk k).t
    omega
theorem cons_le {r : Rec} (h : OkR r) {off size : Int} (hs : 0 < size) {k : Nat} (hk : k ≤ r.tk.length) : 0 ≤ cons r off size k ∧ cons r off size k ≤ size := by
  have := cons_b h (off := off) hs k hk
  have h2 : clampE off size (endK r k) ≤ size := by unfold clampE; split <;> (try split) <;> omega
  omega
theorem cons_mono {r : Rec} {off size : Int} {j k : Nat} (hjk : j ≤ k) : cons r off size j ≤ cons r off size k := by
  induction k with
  | zero => obtain rfl : j = 0 := by omega
            exact Int.le_refl _
  | succ k ih =>
    rcases Nat.lt_or_eq_of_le hjk with d | d
    · have := ih (by omega)
      have := ov_b off (off + size) (rgAt r.tk k)
      show _ ≤ cons r off size k + _
      omega
    · rw [d]; exact Int.le_refl _
/-- a range that covers all -/
theorem cons_whole {r : Rec} (h : OkR r) {off size : Int} (hs : 0 < size) {k : Nat} (hk : k < r.tk.length) (h1 : (rgAt r.tk k).f ≤ off) (h2 : off + size ≤ (rgAt r.tk k).t) : cons r off size r.tk.length = size := by
  have a := cons_le h (off := off) hs (k := r.tk.length) (Nat.le_refl _)
  have b := cons_mono (r := r) (off := off) (size := size) (j := k + 1) (k := r.tk.length) (by omega)
  have c := (cons_le h (off := off) hs (k := k) (by omega)).1
  have d : ov off (off + size) (rgAt r.tk k) = size := by unfold ov; rw [if_pos (by omega)]; omega
  have e : cons r off size (k + 1) = cons r off size k + ov off (off + size) (rgAt r.tk k) := rfl
  omega
end Go.Proofs.Ytfgkkflbpfocjaa

