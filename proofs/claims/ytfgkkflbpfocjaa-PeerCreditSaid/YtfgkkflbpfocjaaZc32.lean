/- The plain law of taking: what a receiver makes of a frame keeps the invariant; no program in sight. Peers whose rows lie in none of some blocks. Appending one element: where the new row lies. -/
import Derived.Test.YtfgkkflbpfocjaaZc27
import Derived.Test.YtfgkkflbpfocjaaZc30
import Derived.Test.YtfgkkflbpfocjaaZc31
import Derived.Test.YtfgkkflbpfocjaaZc26
import Derived.Test.YtfgkkflbpfocjaaZc22
import Derived.Test.YtfgkkflbpfocjaaZc5
namespace Go.Proofs.Ytfgkkflbpfocjaa
set_option linter.unusedVariables false
set_option linter.unusedSimpArgs false

/-- a receiver's ledger on its way -/
structure TI (sync : Prop) (ss : Led) (g : Int) (z : Rec) : Prop where
  g : z.g = g
  kp : z.kp = []
  ok : okR z
  wf : WfR z
  i : sync → z.r ≤ ss.r ∧ z.fl ≤ ss.n ∧ ∀ j, j < z.tk.length → (rgAt z.tk j).t ≤ ss.n
theorem end_all {z : Rec} (h : OkR z) : ∀ k, k ≤ z.tk.length → ∀ i, i < k → (rgAt z.tk i).t ≤ endK z k := by
  intro k
  induction k with
  | zero => intro _ i hi; omega
  | succ k ih =>
    intro hk i hi
    show (rgAt z.tk i).t ≤ (rgAt z.tk k).t
    by_cases c : i = k
    · rw [c]; exact Int.le_refl _
    · have h1 := ih (by omega) i (by omega)
      have h2 := endK_next h (k := k) (by omega)
      have h3 := (h.t k (by omega)).1
      omega
theorem retR_ok {z : Rec} (h : OkR z) (hw : WfR z) (hk : z.kp = []) {t : Int} (h0 : 0 ≤ t) {z' : Rec} {n : Int} (e : retR z t = (z', n, 0)) : z' = { z with r := max z.r t } ∧ okR { z with r := max z.r t } ∧ WfR { z with r := max z.r t } := by
  unfold retR at e
  by_cases c : z.g - endK z z.tk.length < t
  · rw [if_pos c] at e; injection e with _ e; injection e with _ e; cases e
  · rw [if_neg c] at e
    injection e with e1 _
    have he := endK_le h (k := z.tk.length) (Nat.le_refl _)
    have hg := h.g; have hr := h.r; have hfl := h.fl; have hwr := hw.r; have hwf := hw.fl; have hwg := hw.g
    refine ⟨e1.symm, okR_mk ⟨hg, by show max z.r t ≤ z.g; omega, by show z.fl ≤ z.g - max z.r t; omega, h.nt, h.nk, fun i hi => ?_⟩ hk, ⟨hwg, by show 0 ≤ max z.r t ∧ max z.r t ≤ _; omega, hwf, hw.tk, hw.kp⟩⟩
    obtain ⟨p1, p2, p3, p4⟩ := h.t i hi
    refine ⟨p1, p2, ?_, p4⟩
    show (rgAt z.tk i).t ≤ z.g - max z.r t
    have := end_all h z.tk.length (Nat.le_refl _) i hi
    omega
section
variable {sync : Prop} {ss : Led} {g : Int} {z : Rec}
theorem TI.hi (h : TI sync ss g z) (hs : okL ss) (hw : Wf ss) (hg : sync → ss.g ≤ g) : ∃ hi, hi ≤ z.g - z.r ∧ (∀ j, j < z.tk.length → (rgAt z.tk j).t ≤ hi) ∧ (∀ x ∈ ss.sl, x.off + x.size ≤ hi ∨ hi = z.g - z.r) ∧ (sync → hi = ss.n) := by
  have hn := okL_n hs hw
  by_cases c : sync
  · obtain ⟨a1, a2, a3⟩ := h.i c
    have := hg c
    have := h.g
    refine ⟨ss.n, by omega, a3, fun x hx => .inl ?_, fun _ => rfl⟩
    obtain ⟨_, _, _, _, gd⟩ := (okL_iff ss).1 hs
    exact (good_off gd (fun x hx => (hw.2.2.2 x hx).2.1.1) hx).2
  · exact ⟨z.g - z.r, Int.le_refl _, fun j hj => ((okR_of h.ok).t j hj).2.2.1, fun _ _ => .inr rfl, fun s => absurd s c⟩
theorem TI.taken (h : TI sync ss g z) {hi : Int} (h1 : sync → hi = ss.n) {z' : Rec} (e1 : z'.g = z.g) (e2 : z'.r = z.r) (e3 : z'.fl = z.fl) (e4 : z'.kp = []) (hok : okR z') (hwf : WfR z') (ht : ∀ j, j < z'.tk.length → (rgAt z'.tk j).t ≤ hi) : TI sync ss g z' := by
  refine ⟨e1.trans h.g, e4, hok, hwf, fun s => ?_⟩
  obtain ⟨a1, a2, _⟩ := h.i s
  exact ⟨by omega, by omega, fun j hj => by have := ht j hj; have := h1 s; omega⟩
theorem TI.floored (h : TI sync ss g z) {t : Int} (h0 : 0 ≤ t) (h1 : t ≤ z.g - z.r) (h2 : sync → t ≤ ss.n) : TI sync ss g (flR z t) := by
  obtain ⟨a, b, c⟩ := flR_ok (okR_of h.ok) h.wf h0 h1
  refine ⟨h.g, rfl, a, b, fun s => ?_⟩
  obtain ⟨a1, a2, a3⟩ := h.i s
  have := h2 s
  refine ⟨a1, by show max z.fl t ≤ ss.n; omega, fun j hj => ?_⟩
  have e1 := c j hj
  have e2 : endK z z.tk.length ≤ ss.n := by
    cases hl : z.tk.length with
    | zero => exact a2
    | succ k => exact a3 k (by omega)
  omega
theorem TI.returned (h : TI sync ss g z) {t : Int} (h0 : 0 ≤ t) (h2 : sync → t ≤ ss.r) {z' : Rec} {n : Int} (e : retR z t = (z', n, 0)) : TI sync ss g z' := by
  obtain ⟨rfl, a, b⟩ := retR_ok (okR_of h.ok) h.wf h.kp h0 e
  refine ⟨h.g, h.kp, a, b, fun s => ?_⟩
  obtain ⟨a1, a2, a3⟩ := h.i s
  have := h2 s
  exact ⟨by show max z.r t ≤ ss.r; omega, a2, a3⟩
end
section
variable {i st : Int} {su : Bool} {ss : Led} {rt : Int} {ru : Bool} {ro : Int} {rr : Rec} {bs br : Int} {way : List Fr}
theorem Inv.ti (h : Inv i st su ss rt ru ro rr bs br way) : TI (rt = bs ∧ st = br) ss rr.g rr := by
  refine ⟨rfl, h.rk, h.or, h.wr, fun s => ?_⟩
  obtain ⟨_, a, b, c⟩ := h.i1 s.1 s.2
  exact ⟨a, b, c⟩
theorem Inv.tg (h : Inv i st su ss rt ru ro rr bs br way) : (rt = bs ∧ st = br) → ss.g ≤ rr.g := fun s => (h.i1 s.1 s.2).1
theorem Inv.tfin (h : Inv i st su ss rt ru ro rr bs br way) (hru : ru = true) (hrt : 0 < rt) {z : Rec} (t : TI (rt = bs ∧ st = br) ss rr.g z) : Inv i st su ss rt ru ro z bs br way :=
  h.used hru hrt t.g t.kp t.ok t.wf fun e1 e2 => t.i ⟨e1, e2⟩
/-- what a frame to the receiver says -/
theorem Inv.db (h : Inv i st su ss rt ru ro rr bs br way) {f : Fr} (hf : f ∈ way) (hto : f.to = 2) (hm : f.mine = rt) (hy : f.yours = br) : frE f = 0 ∧ 0 ≤ f.a ∧ 0 ≤ f.b ∧ ((rt = bs ∧ st = br) → DB ss f) := by
  obtain ⟨f1, f2, f3, f4⟩ := h.fr f hf
  refine ⟨f1, f2, f3, fun s => ?_⟩
  rcases f4 with ⟨g1, _⟩ | ⟨_, _, _, _, g5⟩
  · rw [hto] at g1; exact absurd g1 (by decide)
  · exact g5 (hm.trans s.1) hy
/-- the boots that frames name are numbers -/
def WY (way : List Fr) : Prop := ∀ f ∈ way, 0 ≤ f.yours
theorem wf_fr {f : Fr} (h : frE f = 0) (ha : 0 ≤ f.a) (hb : 0 ≤ f.b) (hy : 0 ≤ f.yours) : WfF f := by
  unfold frE at h
  by_cases c1 : f.kind < 1 ∨ 7 < f.kind
  · rw [if_pos c1] at h; cases h
  rw [if_neg c1] at h
  by_cases c2 : f.out
  · rw [if_pos c2] at h; cases h
  rw [if_neg c2] at h
  by_cases c3 : f.aBig ∨ f.bBad
  · rw [if_pos c3] at h; cases h
  rw [if_neg c3] at h
  by_cases c4 : f.inE = 0
  · rw [if_neg (fun c => c c4)] at h
    by_cases c5 : f.bare
    · unfold Fr.out at c2
      unfold Fr.aBig Fr.bBad at c3
      unfold Fr.bare at c5
      obtain ⟨b1, b2, _, _⟩ := c5
      have ha2 : f.a ≤ 1125899906842624 := by
        by_cases k : f.kind = 1
        · have := b1 k; omega
        · omega
      have hb2 : f.b ≤ 1125899906842624 := by
        by_cases k3 : f.kind = 3
        · omega
        · by_cases k4 : f.kind = 4
          · omega
          · by_cases k6 : f.kind = 6
            · omega
            · have := b2 ⟨k3, k4, k6⟩; omega
      exact ⟨by omega, by omega, by omega, by omega⟩
    · rw [if_pos c5] at h; cases h
  · rw [if_pos c4] at h; exact absurd h c4
theorem Inv.wfF (h : Inv i st su ss rt ru ro rr bs br way) (hy : WY way) {f : Fr} (hf : f ∈ way) : WfF f ∧ frE f = 0 ∧ (f.to = 1 ∨ f.to = 2) := by
  obtain ⟨f1, f2, f3, f4⟩ := h.fr f hf
  refine ⟨wf_fr f1 f2 f3 (hy f hf), f1, ?_⟩
  rcases f4 with ⟨g, _⟩ | ⟨g, _⟩
  · exact .inl g
  · exact .inr g
theorem Inv.from1 (h : Inv i st su ss rt ru ro rr bs br way) {f : Fr} (hf : f ∈ way) (hto : f.to = 1) : f.frm = 2 := by
  obtain ⟨_, _, _, f4⟩ := h.fr f hf
  rcases f4 with ⟨_, g, _⟩ | ⟨g, _⟩
  · exact g
  · rw [hto] at g; exact absurd g (by decide)
theorem Inv.from2 (h : Inv i st su ss rt ru ro rr bs br way) {f : Fr} (hf : f ∈ way) (hto : f.to = 2) : f.frm = 1 := by
  obtain ⟨_, _, _, f4⟩ := h.fr f hf
  rcases f4 with ⟨g, _⟩ | ⟨_, g, _⟩
  · rw [hto] at g; exact absurd g (by decide)
  · exact g
end
end Go.Proofs.Ytfgkkflbpfocjaa

namespace Go.Proofs.Ytfgkkflbpfocjaa
open Go.RowKit
set_option linter.unusedVariables false
set_option linter.unusedSimpArgs false

/-- a slice whose block, if it reads of one, is none of X -/
def RowN (X : Nat → Prop) (w : World) (k : Nat) (v : Value) (n : Nat) (xs : List Value) : Prop := ∃ A c, v = .slice A n c ∧ n ≤ c ∧ c ≤ maxLen ∧ xs.length = n * k ∧ (0 < n → ∃ b o, A = some ⟨b, o, none⟩ ∧ ¬ X b ∧ b < w.heap.size ∧ ∀ j u, xs[j]? = some u → w.cell? ⟨b, o + j, none⟩ = some u)
section
variable {X : Nat → Prop} {w w' : World} {k : Nat} {v : Value} {n : Nat} {xs : List Value}
theorem RowN.at (h : RowN X w k v n xs) : SlAt w k v n xs := by
  obtain ⟨A, c, e, h1, h2, h3, h4⟩ := h
  exact ⟨A, c, e, h1, h2, h3, fun hn => by obtain ⟨b, o, e, _, h5, h6⟩ := h4 hn; exact ⟨b, o, e, h5, h6⟩⟩
theorem RowN.below (h : RowN X w k v n xs) {w0 : World} (hb : Below w.heap.size w w0) : RowN X w0 k v n xs := by
  obtain ⟨A, c, e, h1, h2, h3, h4⟩ := h
  refine ⟨A, c, e, h1, h2, h3, fun hn => ?_⟩
  obtain ⟨b, o, e, h, h5, h6⟩ := h4 hn
  exact ⟨b, o, e, h, Nat.lt_of_lt_of_le h5 hb.size, fun j x hj => ((bcell hb).1 b _ h5).trans (h6 j x hj)⟩
theorem RowN.set (h : RowN X w k v n xs) {p : Addr} (hp : X p.block) (u : Value) : RowN X (w.setCell p u) k v n xs := by
  obtain ⟨A, c, e, h1, h2, h3, h4⟩ := h
  refine ⟨A, c, e, h1, h2, h3, fun hn => ?_⟩
  obtain ⟨b, o, e, h, h5, h6⟩ := h4 hn
  refine ⟨b, o, e, h, by rw [World.size_setCell]; exact h5, fun j x hj => ?_⟩
  rw [World.cell?_setCell_other _ _ _ _ (fun e => h (by rw [e] at hp; exact hp))]
  exact h6 j x hj
theorem RowN.setCells {g : Nat} (hg : X g) : ∀ (l : List Value) {w : World} (o : Nat), RowN X w k v n xs → RowN X (w.setCells g o l) k v n xs
  | [], _, _, h => h
  | u :: r, _, o, h => RowN.setCells hg r (o + 1) (h.set (p := ⟨g, o, none⟩) hg u)
theorem RowN.ofB {B : Nat} (h : RowB B w k v n xs) (hX : ∀ b, B ≤ b → ¬ X b) : RowN X w k v n xs := by
  obtain ⟨A, c, e, h1, h2, h3, h4⟩ := h
  exact ⟨A, c, e, h1, h2, h3, fun hn => by obtain ⟨b, o, e, h, h5, h6⟩ := h4 hn; exact ⟨b, o, e, hX b h, h5, h6⟩⟩
theorem RowN.more {Y : Nat → Prop} (h : RowN X w k v n xs) (hX : ∀ b, b < w.heap.size → Y b → X b) : RowN Y w k v n xs := by
  obtain ⟨A, c, e, h1, h2, h3, h4⟩ := h
  exact ⟨A, c, e, h1, h2, h3, fun hn => by obtain ⟨b, o, e, h, h5, h6⟩ := h4 hn; exact ⟨b, o, e, fun y => h (hX b h5 y), h5, h6⟩⟩
end
def PrN (X : Nat → Prop) (w : World) (V : Value) (p : Pr) : Prop := ∃ As cs At ct Ak ck, V = .agg #[.int .i64 p.node, .int .u64 p.theirs, .bool p.sure, .int .u64 p.old, .int .u64 p.s.g, .int .u64 p.s.n, .int .u64 p.s.r, .slice As p.s.sl.length cs, .int .u64 p.r.g, .int .u64 p.r.r, .int .u64 p.r.fl, .slice At p.r.tk.length ct, .slice Ak p.r.kp.length ck] ∧ RowN X w 5 (.slice As p.s.sl.length cs) p.s.sl.length (fl Sl.cells p.s.sl) ∧ RowN X w 2 (.slice At p.r.tk.length ct) p.r.tk.length (fl Rg.cells p.r.tk) ∧ RowN X w 1 (.slice Ak p.r.kp.length ck) p.r.kp.length (fl kc p.r.kp)
section
variable {X : Nat → Prop} {w : World} {V : Value} {p : Pr}
theorem PrN.at (h : PrN X w V p) : PrAt w V p := by
  obtain ⟨As, cs, At, ct, Ak, ck, rfl, h1, h2, h3⟩ := h
  exact ⟨_, _, _, rfl, h1.at, h2.at, h3.at⟩
theorem PrN.below (h : PrN X w V p) {w' : World} (hb : Below w.heap.size w w') : PrN X w' V p := by
  obtain ⟨As, cs, At, ct, Ak, ck, rfl, h1, h2, h3⟩ := h
  exact ⟨_, _, _, _, _, _, rfl, h1.below hb, h2.below hb, h3.below hb⟩
theorem PrN.set (h : PrN X w V p) {g : Nat} (hg : X g) (o : Nat) (u : Value) : PrN X (w.setCell ⟨g, o, none⟩ u) V p := by
  obtain ⟨As, cs, At, ct, Ak, ck, rfl, h1, h2, h3⟩ := h
  exact ⟨_, _, _, _, _, _, rfl, h1.set (p := ⟨g, o, none⟩) hg u, h2.set (p := ⟨g, o, none⟩) hg u, h3.set (p := ⟨g, o, none⟩) hg u⟩
theorem PrN.setCells (h : PrN X w V p) {g : Nat} (hg : X g) (l : List Value) (o : Nat) : PrN X (w.setCells g o l) V p := by
  obtain ⟨As, cs, At, ct, Ak, ck, rfl, h1, h2, h3⟩ := h
  exact ⟨_, _, _, _, _, _, rfl, h1.setCells hg l o, h2.setCells hg l o, h3.setCells hg l o⟩
theorem PrN.ofB {B : Nat} (h : PrB B w V p) (hX : ∀ b, B ≤ b → ¬ X b) : PrN X w V p := by
  obtain ⟨As, cs, At, ct, Ak, ck, rfl, h1, h2, h3⟩ := h
  exact ⟨_, _, _, _, _, _, rfl, .ofB h1 hX, .ofB h2 hX, .ofB h3 hX⟩
theorem PrN.more {Y : Nat → Prop} (h : PrN X w V p) (hX : ∀ b, b < w.heap.size → Y b → X b) : PrN Y w V p := by
  obtain ⟨As, cs, At, ct, Ak, ck, rfl, h1, h2, h3⟩ := h
  exact ⟨_, _, _, _, _, _, rfl, h1.more hX, h2.more hX, h3.more hX⟩
theorem PrN.frm (h : PrN X w V p) : ∃ As cs At ct Ak ck, V = .agg #[.int .i64 p.node, .int .u64 p.theirs, .bool p.sure, .int .u64 p.old, .int .u64 p.s.g, .int .u64 p.s.n, .int .u64 p.s.r, .slice As p.s.sl.length cs, .int .u64 p.r.g, .int .u64 p.r.r, .int .u64 p.r.fl, .slice At p.r.tk.length ct, .slice Ak p.r.kp.length ck] := by
  obtain ⟨As, cs, At, ct, Ak, ck, rfl, _⟩ := h
  exact ⟨_, _, _, _, _, _, rfl⟩
/-- other numbers, the same rows -/
theorem PrN.as {node th old node' th' old' g n r a b f : Int} {su su' : Bool} {S : List Sl} {T : List Rg} {K : List Int} {As At Ak : Option Addr} {cs ct ck : Nat}
    (h : PrN X w (.agg #[.int .i64 node, .int .u64 th, .bool su, .int .u64 old, .int .u64 g, .int .u64 n, .int .u64 r, .slice As S.length cs, .int .u64 a, .int .u64 b, .int .u64 f, .slice At T.length ct, .slice Ak K.length ck]) ⟨node, th, su, old, ⟨g, n, r, S⟩, ⟨a, b, f, T, K⟩⟩) :
    PrN X w (.agg #[.int .i64 node', .int .u64 th', .bool su', .int .u64 old', .int .u64 g, .int .u64 n, .int .u64 r, .slice As S.length cs, .int .u64 a, .int .u64 b, .int .u64 f, .slice At T.length ct, .slice Ak K.length ck]) ⟨node', th', su', old', ⟨g, n, r, S⟩, ⟨a, b, f, T, K⟩⟩ := by
  obtain ⟨_, _, _, _, _, _, e, h1, h2, h3⟩ := h
  cases e
  exact ⟨_, _, _, _, _, _, rfl, h1, h2, h3⟩
end
/-- a store of a struct; the world behind it is a variable -/
theorem wpList_store_gen {P : Program} {ops : Array Oper} {rest : List Oper} {op : Oper} {a : Act} {w : World} {Q : Exit → Act → World → Prop} (hgd : op.guard = none) (ty : TypeId) (x y : Operand) (ho : op.op = .store ty x y)
    (g o : Nat) (cs : Array Value) (hx : a.eval x = .pointer (some ⟨g, o, none⟩)) (hy : a.eval y = .agg cs) (ht : w.there g o cs.size) (hi : (P.info? ty).map (·.size) = some cs.size) (h1 : cs.all (·.oneCell') = true)
    (h : ∀ W, Hid (W = w.setCells g o cs.toList) → wpList P ops Q rest (a.put op.dst undef) W) : wpList P ops Q (op :: rest) a w :=
  wpList_store_mid hgd ty x y ho g o cs hx hy ht hi h1 (h _ (Lib.hid rfl))
end Go.Proofs.Ytfgkkflbpfocjaa

namespace Go.Proofs.Ytfgkkflbpfocjaa
open Go.RowKit
set_option linter.unusedVariables false
set_option linter.unusedSimpArgs false

/-- what append hands back lies where the row lay, or in a new block -/
theorem append_lies {P : Program} {w w' : World} {base m c : Nat} {t ty e : TypeId} {i : TypeInfo} {z : Value} {size bytes : Nat} {v v' : Value} {n : Nat} {xs news : List Value} {a : Addr}
    (ht : P.underlying t = some (.slice e)) (hi : P.info? e = some i) (hz : i.zero = some z) (hsize : i.size = size) (hby : i.bytes = bytes) (hzs : z.cells.size = size) (hsz : 0 < size) (hown : w.ownsRow base e size v n xs)
    (hl : news.length = m * size) (hnews : ∀ j u, news[j]? = some u → w.cell? (a.add j) = some u) (h1 : ∀ u ∈ news, u.oneCell' = true) (h63 : n + m ≤ maxLen) (hbytes : (n + m) * bytes ≤ 140737488355328)
    (hr : (Builtin.append_ #[t, t] ty #[v, .slice (some a) m c]).run P w = .ok v' w') : ∀ k, v'.ownBlock = some k → v.ownBlock = some k ∨ w.heap.size ≤ k := by
  intro k hk
  rcases hown.2 with ⟨rfl, rfl⟩ | ⟨g, cap, cur, rfl, hbg, hg, hnc, hcm, hcs, htake⟩
  · have hx : xs = [] := List.eq_nil_of_length_eq_zero (by simpa using hown.1)
    subst hx
    obtain ⟨v2, w2, hr2, h4, _⟩ := run_append_own (P := P) w w.heap.size t ty e i z size bytes ht hi hz hsize hby hzs hsz _ 0 [] (World.ownsRow_nil w w.heap.size e size) a m c news hl hnews h1 h63 hbytes (Nat.le_refl _)
    rw [hr] at hr2
    cases hr2
    exact .inr (World.ownsRow.lt h4 k hk).1
  · subst hsize
    subst hby
    have hsmall : n + m ≤ 9223372036854775807 := by simp only [maxLen] at h63; omega
    by_cases hroom : n + m ≤ cap
    · have hr2 := run_append_room (P := P) w t ty e i ht hi g n cap cur hg a m c news hl hnews h1 hroom (by rw [hl, hcs, ← Nat.add_mul]; exact Nat.mul_le_mul_right _ hroom)
      rw [hr] at hr2
      cases hr2
      exact .inl hk
    · have hr2 := run_append_grow (P := P) w t ty e i z ht hi hz ⟨g, 0, none⟩ n cap xs hown.1 (hown.cells (g := g) rfl) a m c news hl hnews (by omega) (by omega) (growslice_fits (by omega) hbytes)
      rw [hr] at hr2
      cases hr2
      simp [Value.ownBlock] at hk
      exact .inr (by omega)

end Go.Proofs.Ytfgkkflbpfocjaa

