/- What take does to the receiver's ledger, as contracts; the pair in memory, a peer with another ledger. -/
import Derived.Test.YtfgkkflbpfocjaaZc32
import Derived.Test.YtfgkkflbpfocjaaZc34
import Derived.Test.YtfgkkflbpfocjaaZc35
namespace Go.Proofs.Ytfgkkflbpfocjaa
open Go.RowKit
set_option linter.unusedVariables false
set_option linter.unusedSimpArgs false

/-- a ledger that has a property, if there is no error -/
def Post1 (Q : Rec → Prop) (w : World) (e : Ending) (w' : World) : Prop := ∃ z er, RetRE z er w e w' ∧ (er = 0 → Q z)
def PostN (Q : Rec → Prop) (w : World) (e : Ending) (w' : World) : Prop := ∃ z n er, RetRNE z n er w e w' ∧ (er = 0 → Q z)
section
variable {sync : Prop} {ss : Led} {g : Int} {z : Rec}
theorem take_ti (h : TI sync ss g z) (hs : okL ss) (hw : Wf ss) (hg : sync → ss.g ≤ g) {x : Sl} (hx : x ∈ ss.sl) (vt vk : Value) (w : World) (ht : RgsAt w vt z.tk) (hk : KpsAt w vk z.kp) :
    Calls Try.prog 111 #[.agg #[.int .u64 z.g, .int .u64 z.r, .int .u64 z.fl, vt, vk], .int .u64 x.off, .int .u64 x.size] w (Post1 (TI sync ss g) w) := by
  obtain ⟨hi, h1, h2, h3, h4⟩ := h.hi hs hw hg
  have hx1 := hw.2.2.2 x hx
  obtain ⟨a, b, f, T, K⟩ := z
  obtain rfl : K = [] := h.kp
  refine (rvTake_any a b f T h.wf h.ok x.off x.size hi hx1.1 hx1.2.1 h1 h2 (h3 x hx) vt vk w ht hk).mono ?_
  rintro e w' ⟨z, er, hr, hz⟩
  refine ⟨z, er, hr, fun he => ?_⟩
  obtain ⟨e1, e2, e3, e4, e5, e6, e7⟩ := hz he
  exact h.taken h4 e1 e2 e3 e4 e5 e6 e7
theorem floor_ti (h : TI sync ss g z) {t : Int} (h0 : 0 ≤ t) (h2 : sync → t ≤ ss.n) (vt vk : Value) (w : World) (ht : RgsAt w vt z.tk) (hk : KpsAt w vk z.kp) :
    Calls Try.prog 112 #[.agg #[.int .u64 z.g, .int .u64 z.r, .int .u64 z.fl, vt, vk], .int .u64 t] w (PostN (TI sync ss g) w) := by
  obtain ⟨a, b, f, T, K⟩ := z
  obtain rfl : K = [] := h.kp
  by_cases c : t ≤ a - b
  · refine (rvFloor_ok a b f T h.wf h.ok t h0 c vt vk w ht hk).mono ?_
    rintro e w' ⟨n, hr⟩
    exact ⟨_, n, 0, hr, fun _ => h.floored h0 c h2⟩
  · refine (rvFloor_no a b f T h.wf h.ok t (by omega) vt vk w ht hk).mono ?_
    intro e w' hr
    exact ⟨_, 0, 14, hr, fun he => absurd he (by decide)⟩
theorem return_ti (h : TI sync ss g z) {t : Int} (h0 : 0 ≤ t) (h1 : t ≤ 18446744073709551615) (h2 : sync → t ≤ ss.r) (vt vk : Value) (w : World) (ht : RgsAt w vt z.tk) (hk : KpsAt w vk z.kp) :
    Calls Try.prog 113 #[.agg #[.int .u64 z.g, .int .u64 z.r, .int .u64 z.fl, vt, vk], .int .u64 t] w (PostN (TI sync ss g) w) := by
  have hr := fun (z' : Rec) (n : Int) (e : retR z t = (z', n, 0)) => h.returned h0 h2 e
  obtain ⟨a, b, f, T, K⟩ := z
  refine (rvReturn_ok a b f T K h.wf h.ok t h0 h1 vt vk w ht hk).mono ?_
  intro e w' hq
  refine ⟨_, _, _, hq, fun he => hr _ (retR ⟨a, b, f, T, K⟩ t).2.1 ?_⟩
  rw [← he]
end
section
variable {X : Nat → Prop} {w w' : World}
theorem PrN.rcv {c0 c1 c2 c3 c4 c5 c6 c8 c9 c10 c11 c12 : Value} {As : Option Addr} {m cs : Nat} {node th old : Int} {su : Bool} {s : Led} {z0 z : Rec} {A B : Option Addr} {c d : Nat}
    (h : PrN X w (.agg #[c0, c1, c2, c3, c4, c5, c6, .slice As m cs, c8, c9, c10, c11, c12]) ⟨node, th, su, old, s, z0⟩) (hb : Below w.heap.size w w') (hr : RowN X w' 2 (.slice A z.tk.length c) z.tk.length (fl Rg.cells z.tk)) (hk : RowN X w' 1 (.slice B z.kp.length d) z.kp.length (fl kc z.kp)) :
    PrN X w' (.agg #[c0, c1, c2, c3, c4, c5, c6, .slice As m cs, .int .u64 z.g, .int .u64 z.r, .int .u64 z.fl, .slice A z.tk.length c, .slice B z.kp.length d]) ⟨node, th, su, old, s, z⟩ := by
  obtain ⟨_, _, _, _, _, _, e, h1, h2, h3⟩ := h
  cases e
  exact ⟨_, _, _, _, _, _, rfl, h1.below hb, hr, hk⟩
theorem PrN.snd {c0 c1 c2 c3 c4 c5 c6 c8 c9 c10 : Value} {As At Ak : Option Addr} {m cs nt ct nk ck : Nat} {node th old : Int} {su : Bool} {s0 s : Led} {z : Rec} {A : Option Addr} {c : Nat}
    (h : PrN X w (.agg #[c0, c1, c2, c3, c4, c5, c6, .slice As m cs, c8, c9, c10, .slice At nt ct, .slice Ak nk ck]) ⟨node, th, su, old, s0, z⟩) (hb : Below w.heap.size w w') (hr : RowN X w' 5 (.slice A s.sl.length c) s.sl.length (fl Sl.cells s.sl)) :
    PrN X w' (.agg #[c0, c1, c2, c3, .int .u64 s.g, .int .u64 s.n, .int .u64 s.r, .slice A s.sl.length c, c8, c9, c10, .slice At nt ct, .slice Ak nk ck]) ⟨node, th, su, old, s, z⟩ := by
  obtain ⟨_, _, _, _, _, _, e, h1, h2, h3⟩ := h
  cases e
  exact ⟨_, _, _, _, _, _, rfl, hr, h2.below hb, h3.below hb⟩
theorem PrN.rows {c0 c1 c2 c3 c4 c5 c6 v7 c8 c9 c10 v11 v12 : Value} {node th old : Int} {su : Bool} {s : Led} {z : Rec} (h : PrN X w (.agg #[c0, c1, c2, c3, c4, c5, c6, v7, c8, c9, c10, v11, v12]) ⟨node, th, su, old, s, z⟩) : SlsAt w v7 s.sl ∧ RgsAt w v11 z.tk ∧ KpsAt w v12 z.kp := by
  obtain ⟨_, _, _, _, _, _, e, h1, h2, h3⟩ := h
  cases e
  exact ⟨h1.at, h2.at, h3.at⟩
theorem PrN.sl7 {C : Array Value} {p : Pr} (h : PrN X w (.agg C) p) : ∃ As cs, C[7]? = some (.slice As p.s.sl.length cs) := by
  obtain ⟨_, _, _, _, _, _, e, _⟩ := h
  cases e
  exact ⟨_, _, rfl⟩
theorem PrN.slat {C : Array Value} {p : Pr} (h : PrN X w (.agg C) p) {v : Value} (e7 : C[7]? = some v) : SlsAt w v p.s.sl := by
  obtain ⟨_, _, _, _, _, _, e, h1, _⟩ := h
  cases e
  cases e7
  exact h1.at
end
section
variable {E : Nat → Prop} {w w' : World} {xb : Nat} {S R : Array Value} {bs br : Int} {Vw : Value} {p q : Pr} {way : List Fr}
/-- what is new is none of the pair's -/
theorem PX.newX (h : PX E w xb S R bs br Vw p q way) (hE : ∀ b, E b → b < w.heap.size) : ∀ b, w.heap.size ≤ b → ¬ Xp xb Vw E b := fun b hb c => by
  rcases c with a | a | a
  · have := h.lt; omega
  · have := (h.o.lt b a).2; omega
  · have := hE b a; omega
theorem PX.rngRp (h : PX E w xb S R bs br Vw p q way) (o n : Nat) (l : List Value) (hl : (R.toList.drop o).take n = l) (hn : o + n ≤ 13) : w.rangeAt xb (13 + o) l := fun j v hv => by
  rw [← hl] at hv
  have hj : j < n := by have := (List.getElem?_eq_some_iff.1 hv).1; rw [List.length_take] at this; omega
  rw [List.getElem?_take_of_lt hj, List.getElem?_drop] at hv
  have := h.rngR (o + j) v hv
  rw [Nat.add_assoc]; exact this
theorem PX.rngSp (h : PX E w xb S R bs br Vw p q way) (o n : Nat) (l : List Value) (hl : (S.toList.drop o).take n = l) (hn : o + n ≤ 13) : w.rangeAt xb o l := fun j v hv => by
  rw [← hl] at hv
  have hj : j < n := by have := (List.getElem?_eq_some_iff.1 hv).1; rw [List.length_take] at this; omega
  rw [List.getElem?_take_of_lt hj, List.getElem?_drop] at hv
  have := h.rngS (o + j) v hv
  rw [Nat.zero_add] at this; exact this
theorem PrN.noE {V : Value} (h : PrN (Xp xb Vw E) w V p) : PrN (Xp xb Vw NoE) w V p := h.more fun b _ hb => by
  rcases hb with a | a | a
  · exact .inl a
  · exact .inr (.inl a)
  · exact absurd a id
theorem PrN.allocE {V : Value} (h : PrN (Xp xb Vw NoE) w V p) (o : Obj) : PrN (Xp xb Vw (fun g => g = w.heap.size)) (w.alloc o) V p := by
  refine (h.more (Y := Xp xb Vw (fun g => g = w.heap.size)) fun b hb c => ?_).below ((Below.refl w.heap.size w).alloc (Nat.le_refl _) o)
  rcases c with a | a | a
  · exact .inl a
  · exact .inr (.inl a)
  · exact absurd a (by omega)
theorem noE_lt (n : Nat) : ∀ b, NoE b → b < n := fun b c => absurd c id
theorem PrB.agg {B : Nat} {V : Value} (h : PrB B w V p) : ∃ C : Array Value, V = .agg C := by
  obtain ⟨_, _, _, _, _, _, e, _⟩ := h
  exact ⟨_, e⟩
end
def zF19 : Array Value := #[.int .i64 0, .int .i64 0, .int .i64 0, .int .u64 0, .int .u64 0, .int .u64 0, .int .u64 0, .int .i64 0, .int .u64 0, .int .i64 0, .int .i64 0, .int .u64 0, .int .i64 0, .int .i64 0, .int .i64 0, .int .i64 0, .int .i64 0, .int .i64 0, .string ⟨#[]⟩]
/-- a new variable, as one step of a region that draws -/
theorem wp_alloc_z {P : Program} {op : Oper} {a : Act} {w : World} {K : Act → World → Prop} {Q : Exit → Act → World → Prop} (ty : TypeId) (ho : op.op = .alloc ty)
    (d : Option Tmp) (hd : op.dst = d) (z : Array Value) (hz : ∀ w, (zeroValue ty).run P w = .ok (.agg z) w)
    (h : K (a.put d (.pointer (some ⟨w.heap.size, 0, none⟩))) (w.alloc (.cells z ty))) : op.wp P a w K Q := by
  subst hd
  have hr : (Instr.alloc ty true (.tuple #[])).run P w = .ok (.pointer (some ⟨w.heap.size, 0, none⟩)) (w.alloc (.cells z ty)) := by
    simp [Instr.alloc, Sem.run_bind, hz, newVar, newRow, newObj, Value.cells, Result.andThen]
    rfl
  unfold Oper.wp execOp
  simp only [ho, Sem.run_bind, Sem.run_pure, Result.andThen_ok, hr]
  exact h
end Go.Proofs.Ytfgkkflbpfocjaa

