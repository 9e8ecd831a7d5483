/- The laws of a meeting of two nodes; no program in sight. Peers whose rows lie in none of some blocks. The law PeerMeeting. -/
import Derived.Test.YtfgkkflbpfocjaaZ19
import Derived.Test.YtfgkkflbpfocjaaZ14
import Derived.Test.YtfgkkflbpfocjaaZ6
import Derived.Test.YtfgkkflbpfocjaaZ5
import Derived.Test.YtfgkkflbpfocjaaZ7
import Derived.Test.YtfgkkflbpfocjaaZ12
namespace Go.Proofs.Ytfgkkflbpfocjaa
set_option linter.unusedVariables false
set_option linter.unusedSimpArgs false

/-- a valid peer of this node, which knows at most this boot -/
structure MtOk (n b : Int) (p : Pr) : Prop where
  wf : WfP p
  ok : chkP p = 0
  node : p.node = n
  th : 0 ≤ p.theirs ∧ p.theirs ≤ b
/-- the state of a meeting: the rounds done, whether a frame is owed, the peers, the frame; u, t: the boots -/
structure MtI (u t k : Int) (left : Bool) (p q : Pr) (f : Fr) : Prop where
  hp : MtOk 2 t p
  hq : MtOk 1 u q
  hk : 0 ≤ k ∧ k ≤ 3
  no : left = false → q.theirs = u ∧ p.theirs = t ∧ q.sure = true
  lt : left = true → k < 3
  fe : left = true → frE f = 0 ∧ WfF f
  f0 : left = true → k = 0 → f.frm = 1 ∧ f.mine = u ∧ f.yours = p.theirs
  f1 : left = true → k = 1 → f.frm = 2 ∧ f.mine = t ∧ f.yours = u ∧ q.theirs = u ∧ (p.theirs = t → q.sure = true)
  f2 : left = true → k = 2 → f.frm = 1 ∧ f.mine = u ∧ f.yours = t ∧ q.theirs = u ∧ p.theirs = t
theorem mt_boot {u : Int} (h : 1 ≤ u ∧ u ≤ 7) : bootOk u := ⟨by omega, by omega⟩
/-- a Hello -/
theorem mt_hello {n m b u : Int} {p : Pr} (h : MtOk n b p) (hn : (n = 1 ∧ m = 2) ∨ (n = 2 ∧ m = 1)) (hu : 1 ≤ u ∧ u ≤ 7) (hb : b ≤ 7) : begE p m u 1 = 0 ∧ (gfr p m u 1 0 0).frm = m ∧ (gfr p m u 1 0 0).mine = u ∧ (gfr p m u 1 0 0).yours = p.theirs ∧ frE (gfr p m u 1 0 0) = 0 ∧ WfF (gfr p m u 1 0 0) := by
  have ht := h.th
  have hnode := h.node
  have e : begE p m u 1 = 0 := by
    unfold begE
    rw [if_neg (by rw [h.ok]; exact fun c => c rfl), if_neg (fun c => ?_), if_neg (fun c => c.1 rfl)]
    rcases c with c | c | c | c
    · omega
    · omega
    · rw [hnode] at c; omega
    · exact c (mt_boot hu)
  have g : gfr p m u 1 0 0 = frB p m u 1 0 0 := if_pos e
  rw [g]
  refine ⟨e, rfl, rfl, rfl, ?_, ⟨?_, ?_, ?_, ?_⟩⟩
  · exact frB_ok (by omega) (by rw [hnode]; omega) (by rw [hnode]; omega) (by omega) (by omega) (.inl ⟨rfl, rfl, rfl⟩) (by decide) (by decide)
  · show 0 ≤ u ∧ u ≤ _; omega
  · show 0 ≤ p.theirs ∧ p.theirs ≤ _; omega
  · show (0 : Int) ≤ 0 ∧ (0 : Int) ≤ _; decide
  · show (0 : Int) ≤ 0 ∧ (0 : Int) ≤ _; decide
/-- what a frame that is not stale makes of a peer -/
theorem mt_met {n b c : Int} {p : Pr} {f : Fr} (h : MtOk n b p) (hc : 1 ≤ c ∧ c ≤ 7) (hb : 1 ≤ b ∧ b ≤ 7) (hf : frE f = 0) (hn : f.frm = n) (hm : f.mine = b) :
    metE p c f = 0 ∧ ∃ q v ow, mtV p c f = (q, v, ow) ∧ MtOk n b q ∧ q.theirs = b ∧ (f.yours ≠ c → ow = true) ∧ (f.yours = c → q.sure = true ∧ ow = decide (p.theirs < b)) := by
  have ht := h.th
  have e : metE p c f = 0 := metE_zero h.ok (mt_boot hc) hf (by rw [hn, h.node])
  obtain ⟨k1, k2, k3, k4⟩ := met_ok (b := c) (f := f) h.ok h.wf (by rw [hm]; omega)
  refine ⟨e, (met p c f).1, (met p c f).2.1, (met p c f).2.2, by rw [mtV, if_pos e], ?_⟩
  have n1 : ¬ f.mine < p.theirs := by rw [hm]; omega
  have l : (lrn p f).theirs = b := by
    unfold lrn
    by_cases d : p.theirs < f.mine
    · rw [if_pos d]; exact hm
    · rw [if_neg d]; omega
  have th : (met p c f).1.theirs = b ∧ (f.yours ≠ c → (met p c f).2.2 = true) ∧ (f.yours = c → (met p c f).1.sure = true ∧ (met p c f).2.2 = decide (p.theirs < b)) := by
    unfold met
    rw [if_neg n1]
    by_cases d : f.yours ≠ c
    · rw [if_pos d]
      exact ⟨l, fun _ => rfl, fun x => absurd x d⟩
    · rw [if_neg d]
      exact ⟨l, fun x => absurd x d, fun _ => ⟨rfl, by rw [hm]⟩⟩
  exact ⟨⟨k2, k1, by rw [k3, h.node], by rw [th.1]; omega⟩, th.1, th.2.1, th.2.2⟩
theorem mt_even {u t k : Int} {p q : Pr} {f : Fr} (hu : 1 ≤ u ∧ u ≤ 7) (ht : 1 ≤ t ∧ t ≤ 7) (h : MtI u t k true p q f) (hk : k = 0 ∨ k = 2) :
    metE q t f = 0 ∧ WfF f ∧ ∃ q' v ow f', mtV q t f = (q', v, ow) ∧ WfP q' ∧ begE q' 2 t 1 = 0 ∧ gfr q' 2 t 1 0 0 = f' ∧ (ow = false → MtI u t (k + 1) false p q' f) ∧ (ow = true → MtI u t (k + 1) true p q' f') := by
  obtain ⟨fe, ff⟩ := h.fe rfl
  have hf : f.frm = 1 ∧ f.mine = u := by
    rcases hk with e | e
    · exact ⟨(h.f0 rfl e).1, (h.f0 rfl e).2.1⟩
    · exact ⟨(h.f2 rfl e).1, (h.f2 rfl e).2.1⟩
  obtain ⟨e, q', v, ow, m1, m2, m3, m4, m5⟩ := mt_met h.hq ht hu fe hf.1 hf.2
  obtain ⟨b1, b2, b3, b4, b5, b6⟩ := mt_hello (m := 2) m2 (.inl ⟨rfl, rfl⟩) ht (by omega)
  refine ⟨e, ff, q', v, ow, _, m1, m2.wf, b1, rfl, fun ho => ?_, fun ho => ?_⟩
  · have hy : f.yours = t := Decidable.not_not.1 fun c => by have := m4 c; rw [ho] at this; cases this
    have hs := m5 hy
    have hp : p.theirs = t := by
      rcases hk with e | e
      · have := (h.f0 rfl e).2.2; omega
      · exact (h.f2 rfl e).2.2.2.2
    exact ⟨h.hp, m2, by omega, fun _ => ⟨m3, hp, hs.1⟩, (fun x => by cases x), (fun x => by cases x), (fun x => by cases x), (fun x => by cases x), (fun x => by cases x)⟩
  · rcases hk with e | e
    · refine ⟨h.hp, m2, by omega, (fun x => by cases x), fun _ => by omega, fun _ => ⟨b5, b6⟩, fun _ c => by omega, fun _ _ => ⟨b2, b3, by rw [b4, m3], m3, fun c => ?_⟩, fun _ c => by omega⟩
      have := (h.f0 rfl e).2.2
      exact (m5 (by omega)).1
    · exfalso
      obtain ⟨_, _, y, g, _⟩ := h.f2 rfl e
      have := (m5 y).2
      rw [ho, g, decide_eq_false (Int.lt_irrefl _)] at this
      cases this
theorem mt_odd {u t : Int} {p q : Pr} {f : Fr} (hu : 1 ≤ u ∧ u ≤ 7) (ht : 1 ≤ t ∧ t ≤ 7) (h : MtI u t 1 true p q f) :
    metE p u f = 0 ∧ WfF f ∧ ∃ p' v ow f', mtV p u f = (p', v, ow) ∧ WfP p' ∧ begE p' 1 u 1 = 0 ∧ gfr p' 1 u 1 0 0 = f' ∧ (ow = false → MtI u t 2 false p' q f) ∧ (ow = true → MtI u t 2 true p' q f') := by
  obtain ⟨fe, ff⟩ := h.fe rfl
  obtain ⟨g1, g2, g3, g4, g5⟩ := h.f1 rfl rfl
  obtain ⟨e, p', v, ow, m1, m2, m3, m4, m5⟩ := mt_met h.hp hu ht fe g1 g2
  obtain ⟨b1, b2, b3, b4, b5, b6⟩ := mt_hello (m := 1) m2 (.inr ⟨rfl, rfl⟩) hu (by omega)
  have hs := m5 g3
  refine ⟨e, ff, p', v, ow, _, m1, m2.wf, b1, rfl, fun ho => ?_, fun ho => ?_⟩
  · have hpt : p.theirs = t := by
      have := h.hp.th
      have d := hs.2
      rw [ho] at d
      have := of_decide_eq_false d.symm
      omega
    exact ⟨m2, h.hq, by omega, fun _ => ⟨g4, m3, g5 hpt⟩, (fun x => by cases x), (fun x => by cases x), (fun x => by cases x), (fun x => by cases x), (fun x => by cases x)⟩
  · exact ⟨m2, h.hq, by omega, (fun x => by cases x), fun _ => by omega, fun _ => ⟨b5, b6⟩, fun _ c => by omega, fun _ c => by omega, fun _ _ => ⟨b2, b3, by rw [b4, m3], g4, m3⟩⟩
/-- the start -/
theorem mtOk_made {p : Pr} (h : MadeP p) {n m b : Int} {su : Bool} (hn : (n = 1 ∨ n = 2)) (hm : m = n) (hb : p.theirs ≤ b) (hs : su = p.sure ∨ (0 < p.theirs ∧ su = false)) : MtOk n b { p with node := m, sure := su } := by
  obtain ⟨h1, h2, h3, h4⟩ := chkP_ok h.ok
  have hw := h.wf
  have ho := h.old
  have ht := h.th
  refine ⟨⟨hw.th, hw.old, hw.s, hw.r⟩, chkP_intro ?_ h2 h3 (fun e => ?_), hm, by show 0 ≤ p.theirs ∧ p.theirs ≤ b; omega⟩
  · show ¬ (m < 1 ∨ 16 < m ∨ 1099511627776 < p.theirs ∨ 1125899906842624 < p.old)
    omega
  · have e : p.theirs = 0 := e
    have q := h4 e
    rcases hs with hs | hs
    · exact ⟨by rw [← q.1]; exact hs, q.2⟩
    · omega
theorem mt_start {p q : Pr} {u t : Int} (hp : MtOk 2 t p) (hq : MtOk 1 u q) (hu : 1 ≤ u ∧ u ≤ 7) (ht : 1 ≤ t ∧ t ≤ 7) : WfP p ∧ begE p 1 u 1 = 0 ∧ MtI u t 0 true p q (gfr p 1 u 1 0 0) := by
  obtain ⟨b1, b2, b3, b4, b5, b6⟩ := mt_hello (m := 1) hp (.inr ⟨rfl, rfl⟩) hu (by omega)
  exact ⟨hp.wf, b1, hp, hq, by decide, (fun x => by cases x), fun _ => by decide, fun _ => ⟨b5, b6⟩, fun _ _ => ⟨b2, b3, b4⟩, (fun _ x => by cases x), (fun _ x => by cases x)⟩
end Go.Proofs.Ytfgkkflbpfocjaa

namespace Go.Proofs.Ytfgkkflbpfocjaa
open Go.RowKit
set_option linter.unusedVariables false
set_option linter.unusedSimpArgs false

/-- a slice whose block, if it reads of one, is none of X -/
def RowN (X : Nat → Prop) (w : World) (k : Nat) (v : Value) (n : Nat) (xs : List Value) : Prop := ∃ A c, v = .slice A n c ∧ n ≤ c ∧ c ≤ maxLen ∧ xs.length = n * k ∧ (0 < n → ∃ b o, A = some ⟨b, o, none⟩ ∧ ¬ X b ∧ b < w.heap.size ∧ ∀ j u, xs[j]? = some u → w.cell? ⟨b, o + j, none⟩ = some u)
section
variable {X : Nat → Prop} {w w' : World} {k : Nat} {v : Value} {n : Nat} {xs : List Value}
theorem RowN.at (h : RowN X w k v n xs) : SlAt w k v n xs := by
  obtain ⟨A, c, e, h1, h2, h3, h4⟩ := h
  exact ⟨A, c, e, h1, h2, h3, fun hn => by obtain ⟨b, o, e, _, h5, h6⟩ := h4 hn; exact ⟨b, o, e, h5, h6⟩⟩
theorem RowN.below (h : RowN X w k v n xs) {w0 : World} (hb : Below w.heap.size w w0) : RowN X w0 k v n xs := by
  obtain ⟨A, c, e, h1, h2, h3, h4⟩ := h
  refine ⟨A, c, e, h1, h2, h3, fun hn => ?_⟩
  obtain ⟨b, o, e, h, h5, h6⟩ := h4 hn
  exact ⟨b, o, e, h, Nat.lt_of_lt_of_le h5 hb.size, fun j x hj => ((bcell hb).1 b _ h5).trans (h6 j x hj)⟩
theorem RowN.set (h : RowN X w k v n xs) {p : Addr} (hp : X p.block) (u : Value) : RowN X (w.setCell p u) k v n xs := by
  obtain ⟨A, c, e, h1, h2, h3, h4⟩ := h
  refine ⟨A, c, e, h1, h2, h3, fun hn => ?_⟩
  obtain ⟨b, o, e, h, h5, h6⟩ := h4 hn
  refine ⟨b, o, e, h, by rw [World.size_setCell]; exact h5, fun j x hj => ?_⟩
  rw [World.cell?_setCell_other _ _ _ _ (fun e => h (by rw [e] at hp; exact hp))]
  exact h6 j x hj
theorem RowN.setCells {g : Nat} (hg : X g) : ∀ (l : List Value) {w : World} (o : Nat), RowN X w k v n xs → RowN X (w.setCells g o l) k v n xs
  | [], _, _, h => h
  | u :: r, _, o, h => RowN.setCells hg r (o + 1) (h.set (p := ⟨g, o, none⟩) hg u)
theorem RowN.ofB {B : Nat} (h : RowB B w k v n xs) (hX : ∀ b, B ≤ b → ¬ X b) : RowN X w k v n xs := by
  obtain ⟨A, c, e, h1, h2, h3, h4⟩ := h
  exact ⟨A, c, e, h1, h2, h3, fun hn => by obtain ⟨b, o, e, h, h5, h6⟩ := h4 hn; exact ⟨b, o, e, hX b h, h5, h6⟩⟩
theorem RowN.ofAt (h : SlAt w k v n xs) (hX : ∀ b, b < w.heap.size → ¬ X b) : RowN X w k v n xs := by
  obtain ⟨A, c, e, h1, h2, h3, h4⟩ := h
  exact ⟨A, c, e, h1, h2, h3, fun hn => by obtain ⟨b, o, e, h5, h6⟩ := h4 hn; exact ⟨b, o, e, hX b h5, h5, h6⟩⟩
theorem RowN.more {Y : Nat → Prop} (h : RowN X w k v n xs) (hX : ∀ b, b < w.heap.size → Y b → X b) : RowN Y w k v n xs := by
  obtain ⟨A, c, e, h1, h2, h3, h4⟩ := h
  exact ⟨A, c, e, h1, h2, h3, fun hn => by obtain ⟨b, o, e, h, h5, h6⟩ := h4 hn; exact ⟨b, o, e, fun y => h (hX b h5 y), h5, h6⟩⟩
end
def PrN (X : Nat → Prop) (w : World) (V : Value) (p : Pr) : Prop := ∃ As cs At ct Ak ck, V = .agg #[.int .i64 p.node, .int .u64 p.theirs, .bool p.sure, .int .u64 p.old, .int .u64 p.s.g, .int .u64 p.s.n, .int .u64 p.s.r, .slice As p.s.sl.length cs, .int .u64 p.r.g, .int .u64 p.r.r, .int .u64 p.r.fl, .slice At p.r.tk.length ct, .slice Ak p.r.kp.length ck] ∧ RowN X w 5 (.slice As p.s.sl.length cs) p.s.sl.length (fl Sl.cells p.s.sl) ∧ RowN X w 2 (.slice At p.r.tk.length ct) p.r.tk.length (fl Rg.cells p.r.tk) ∧ RowN X w 1 (.slice Ak p.r.kp.length ck) p.r.kp.length (fl kc p.r.kp)
section
variable {X : Nat → Prop} {w : World} {V : Value} {p : Pr}
theorem PrN.at (h : PrN X w V p) : PrAt w V p := by
  obtain ⟨As, cs, At, ct, Ak, ck, rfl, h1, h2, h3⟩ := h
  exact ⟨_, _, _, rfl, h1.at, h2.at, h3.at⟩
theorem PrN.below (h : PrN X w V p) {w' : World} (hb : Below w.heap.size w w') : PrN X w' V p := by
  obtain ⟨As, cs, At, ct, Ak, ck, rfl, h1, h2, h3⟩ := h
  exact ⟨_, _, _, _, _, _, rfl, h1.below hb, h2.below hb, h3.below hb⟩
theorem PrN.set (h : PrN X w V p) {g : Nat} (hg : X g) (o : Nat) (u : Value) : PrN X (w.setCell ⟨g, o, none⟩ u) V p := by
  obtain ⟨As, cs, At, ct, Ak, ck, rfl, h1, h2, h3⟩ := h
  exact ⟨_, _, _, _, _, _, rfl, h1.set (p := ⟨g, o, none⟩) hg u, h2.set (p := ⟨g, o, none⟩) hg u, h3.set (p := ⟨g, o, none⟩) hg u⟩
theorem PrN.setCells (h : PrN X w V p) {g : Nat} (hg : X g) (l : List Value) (o : Nat) : PrN X (w.setCells g o l) V p := by
  obtain ⟨As, cs, At, ct, Ak, ck, rfl, h1, h2, h3⟩ := h
  exact ⟨_, _, _, _, _, _, rfl, h1.setCells hg l o, h2.setCells hg l o, h3.setCells hg l o⟩
theorem PrN.ofB {B : Nat} (h : PrB B w V p) (hX : ∀ b, B ≤ b → ¬ X b) : PrN X w V p := by
  obtain ⟨As, cs, At, ct, Ak, ck, rfl, h1, h2, h3⟩ := h
  exact ⟨_, _, _, _, _, _, rfl, .ofB h1 hX, .ofB h2 hX, .ofB h3 hX⟩
theorem PrN.ofAt (h : PrAt w V p) (hX : ∀ b, b < w.heap.size → ¬ X b) : PrN X w V p := by
  obtain ⟨vs, vt, vk, rfl, h1, h2, h3⟩ := h
  obtain ⟨As, cs, rfl⟩ := h1.form
  obtain ⟨At, ct, rfl⟩ := h2.form
  obtain ⟨Ak, ck, rfl⟩ := h3.form
  exact ⟨_, _, _, _, _, _, rfl, .ofAt h1 hX, .ofAt h2 hX, .ofAt h3 hX⟩
theorem PrN.more {Y : Nat → Prop} (h : PrN X w V p) (hX : ∀ b, b < w.heap.size → Y b → X b) : PrN Y w V p := by
  obtain ⟨As, cs, At, ct, Ak, ck, rfl, h1, h2, h3⟩ := h
  exact ⟨_, _, _, _, _, _, rfl, h1.more hX, h2.more hX, h3.more hX⟩
theorem PrN.frm (h : PrN X w V p) : ∃ As cs At ct Ak ck, V = .agg #[.int .i64 p.node, .int .u64 p.theirs, .bool p.sure, .int .u64 p.old, .int .u64 p.s.g, .int .u64 p.s.n, .int .u64 p.s.r, .slice As p.s.sl.length cs, .int .u64 p.r.g, .int .u64 p.r.r, .int .u64 p.r.fl, .slice At p.r.tk.length ct, .slice Ak p.r.kp.length ck] := by
  obtain ⟨As, cs, At, ct, Ak, ck, rfl, _⟩ := h
  exact ⟨_, _, _, _, _, _, rfl⟩
/-- other numbers, the same rows -/
theorem PrN.as {node th old node' th' old' g n r a b f : Int} {su su' : Bool} {S : List Sl} {T : List Rg} {K : List Int} {As At Ak : Option Addr} {cs ct ck : Nat}
    (h : PrN X w (.agg #[.int .i64 node, .int .u64 th, .bool su, .int .u64 old, .int .u64 g, .int .u64 n, .int .u64 r, .slice As S.length cs, .int .u64 a, .int .u64 b, .int .u64 f, .slice At T.length ct, .slice Ak K.length ck]) ⟨node, th, su, old, ⟨g, n, r, S⟩, ⟨a, b, f, T, K⟩⟩) :
    PrN X w (.agg #[.int .i64 node', .int .u64 th', .bool su', .int .u64 old', .int .u64 g, .int .u64 n, .int .u64 r, .slice As S.length cs, .int .u64 a, .int .u64 b, .int .u64 f, .slice At T.length ct, .slice Ak K.length ck]) ⟨node', th', su', old', ⟨g, n, r, S⟩, ⟨a, b, f, T, K⟩⟩ := by
  obtain ⟨_, _, _, _, _, _, e, h1, h2, h3⟩ := h
  cases e
  exact ⟨_, _, _, _, _, _, rfl, h1, h2, h3⟩
end
/-- a store of a struct; the world behind it is a variable -/
theorem wpList_store_gen {P : Program} {ops : Array Oper} {rest : List Oper} {op : Oper} {a : Act} {w : World} {Q : Exit → Act → World → Prop} (hgd : op.guard = none) (ty : TypeId) (x y : Operand) (ho : op.op = .store ty x y)
    (g o : Nat) (cs : Array Value) (hx : a.eval x = .pointer (some ⟨g, o, none⟩)) (hy : a.eval y = .agg cs) (ht : w.there g o cs.size) (hi : (P.info? ty).map (·.size) = some cs.size) (h1 : cs.all (·.oneCell') = true)
    (h : ∀ W, Hid (W = w.setCells g o cs.toList) → wpList P ops Q rest (a.put op.dst undef) W) : wpList P ops Q (op :: rest) a w :=
  wpList_store_mid hgd ty x y ho g o cs hx hy ht hi h1 (h _ (Lib.hid rfl))
/-- three blocks -/
def Bx (a b c : Nat) : Nat → Prop := fun n => n = a ∨ n = b ∨ n = c
end Go.Proofs.Ytfgkkflbpfocjaa

namespace Go.Proofs.Ytfgkkflbpfocjaa
open Go.RowKit
set_option linter.unusedVariables false
set_option linter.unusedSimpArgs false

theorem maxu {a b : Int} (h : max 1 a = b) : (if 1 < a then a else 1) = b := by
  rw [← h]; split <;> omega
/-- the loop's state -/
def MtMid (w : World) (u t : Int) (g11 g16 : Nat) (s15 s17 s18 : Value) (wr : World) : Prop := ∃ (k : Int) (left : Bool) (p q : Pr) (f : Fr) (A5 : Option Addr) (a5 : Nat) (B5 : Option Addr) (b5 : Nat) (C5 : Option Addr) (c5 : Nat) (A6 : Option Addr) (a6 : Nat) (B6 : Option Addr) (b6 : Nat) (C6 : Option Addr) (c6 : Nat), s15 = .bool left ∧ s17 = .int .i64 0 ∧ s18 = .int .i64 k ∧ MtI u t k left p q f ∧
  Blk wr g11 31 #[.int .i64 p.node, .int .u64 p.theirs, .bool p.sure, .int .u64 p.old, .int .u64 p.s.g, .int .u64 p.s.n, .int .u64 p.s.r, .slice A5 p.s.sl.length a5, .int .u64 p.r.g, .int .u64 p.r.r, .int .u64 p.r.fl, .slice B5 p.r.tk.length b5, .slice C5 p.r.kp.length c5] ∧ PrN (Bx g11 (g11 + 1) g16) wr (.agg #[.int .i64 p.node, .int .u64 p.theirs, .bool p.sure, .int .u64 p.old, .int .u64 p.s.g, .int .u64 p.s.n, .int .u64 p.s.r, .slice A5 p.s.sl.length a5, .int .u64 p.r.g, .int .u64 p.r.r, .int .u64 p.r.fl, .slice B5 p.r.tk.length b5, .slice C5 p.r.kp.length c5]) p ∧ Blk wr (g11 + 1) 31 #[.int .i64 q.node, .int .u64 q.theirs, .bool q.sure, .int .u64 q.old, .int .u64 q.s.g, .int .u64 q.s.n, .int .u64 q.s.r, .slice A6 q.s.sl.length a6, .int .u64 q.r.g, .int .u64 q.r.r, .int .u64 q.r.fl, .slice B6 q.r.tk.length b6, .slice C6 q.r.kp.length c6] ∧ PrN (Bx g11 (g11 + 1) g16) wr (.agg #[.int .i64 q.node, .int .u64 q.theirs, .bool q.sure, .int .u64 q.old, .int .u64 q.s.g, .int .u64 q.s.n, .int .u64 q.s.r, .slice A6 q.s.sl.length a6, .int .u64 q.r.g, .int .u64 q.r.r, .int .u64 q.r.fl, .slice B6 q.r.tk.length b6, .slice C6 q.r.kp.length c6]) q ∧ Blk wr g16 51 #[.int .i64 f.kind, .int .i64 f.frm, .int .i64 f.to, .int .u64 f.mine, .int .u64 f.yours, .int .u64 f.a, .int .u64 f.b, .int .i64 f.inode, .int .u64 f.iseq, .int .i64 f.ioff, .int .i64 f.bn.node, .int .u64 f.bn.seq, .int .i64 f.bn.off, .int .i64 f.bn.dest, .int .i64 f.bn.prio, .int .i64 f.bn.born, .int .i64 f.bn.life, .int .i64 f.bn.total, .string f.bn.data] ∧ Below w.heap.size w wr
theorem fr_one (f : Fr) : (#[.int .i64 f.kind, .int .i64 f.frm, .int .i64 f.to, .int .u64 f.mine, .int .u64 f.yours, .int .u64 f.a, .int .u64 f.b, .int .i64 f.inode, .int .u64 f.iseq, .int .i64 f.ioff, .int .i64 f.bn.node, .int .u64 f.bn.seq, .int .i64 f.bn.off, .int .i64 f.bn.dest, .int .i64 f.bn.prio, .int .i64 f.bn.born, .int .i64 f.bn.life, .int .i64 f.bn.total, .string f.bn.data] : Array Value).all (·.oneCell') = true := by kernel_rfl

set_option maxRecDepth 100000 in
set_option maxHeartbeats 8000000 in
theorem PeerMeeting_t (xs : List Int) (V0 : Value) (na nb more other : Int) (w : World) (hS : SlAt w 1 V0 xs.length (ints xs)) (h1 : 0 ≤ more) (h2 : 0 ≤ other) :
    Calls Try.prog 7 #[V0, .int .i64 na, .int .i64 nb, .int .u64 more, .int .u64 other] w (RetB true w) := by
  have HS' := Lib.hid hS
  clear hS
  obtain ⟨mo, hmo⟩ : ∃ m, more.tmod 3 = m := ⟨_, rfl⟩
  obtain ⟨ot, hot⟩ : ∃ m, other.tmod 3 = m := ⟨_, rfl⟩
  have hmo0 : 0 ≤ mo ∧ mo ≤ 2 := by rw [← hmo, Int.tmod_eq_emod_of_nonneg h1]; omega
  have hot0 : 0 ≤ ot ∧ ot ≤ 2 := by rw [← hot, Int.tmod_eq_emod_of_nonneg h2]; omega

  go_enter Try.func7, Try.ntmps7
  go_wp2_with fail
  refine (made_any xs V0 na w HS'.out).mono ?_
  rintro e v0 ⟨p, V1, hp, rfl, hV1, hb⟩
  have hB := hb
  have HS2 := Lib.hid (HS'.out.below hb)
  clear hb
  have hp' := Lib.hid hp
  clear hp
  obtain ⟨A1, a1, B1, b1, C1, c1, rfl⟩ := hV1.frm
  have RP := hV1.at
  clear hV1
  go_wp2_with fail
  refine (made_any xs V0 nb v0 HS2.out).mono ?_
  rintro e v1 ⟨q, V2, hq, rfl, hV2, hb⟩
  replace hB := bnext hB hb
  replace RP := RP.below hb
  clear hb
  have hq' := Lib.hid hq
  clear hq
  obtain ⟨A2, a2, B2, b2, C2, c2, rfl⟩ := hV2.frm
  have RQ := hV2.at
  clear hV2
  go_upto_region 3 with (go_big_may; (refine wpList_alloc_z (by rfl) 31 (by rfl) _ rfl #[.int .i64 0, .int .u64 0, .bool false, .int .u64 0, .int .u64 0, .int .u64 0, .int .u64 0, .slice none 0 0, .int .u64 0, .int .u64 0, .int .u64 0, .slice none 0 0, .slice none 0 0] (fun w => by kernel_rfl) ?_))
  have hv : w.heap.size ≤ v1.heap.size := hB.size
  have kp : Blk ((v1.alloc (.cells #[.int .i64 p.node, .int .u64 p.theirs, .bool p.sure, .int .u64 p.old, .int .u64 p.s.g, .int .u64 p.s.n, .int .u64 p.s.r, .slice A1 p.s.sl.length a1, .int .u64 p.r.g, .int .u64 p.r.r, .int .u64 p.r.fl, .slice B1 p.r.tk.length b1, .slice C1 p.r.kp.length c1] 31)).alloc (.cells #[.int .i64 1, .int .u64 q.theirs, .bool q.sure, .int .u64 q.old, .int .u64 q.s.g, .int .u64 q.s.n, .int .u64 q.s.r, .slice A2 q.s.sl.length a2, .int .u64 q.r.g, .int .u64 q.r.r, .int .u64 q.r.fl, .slice B2 q.r.tk.length b2, .slice C2 q.r.kp.length c2] 31)) v1.heap.size 31 #[.int .i64 p.node, .int .u64 p.theirs, .bool p.sure, .int .u64 p.old, .int .u64 p.s.g, .int .u64 p.s.n, .int .u64 p.s.r, .slice A1 p.s.sl.length a1, .int .u64 p.r.g, .int .u64 p.r.r, .int .u64 p.r.fl, .slice B1 p.r.tk.length b1, .slice C1 p.r.kp.length c1] := (Blk.new v1 31 #[.int .i64 p.node, .int .u64 p.theirs, .bool p.sure, .int .u64 p.old, .int .u64 p.s.g, .int .u64 p.s.n, .int .u64 p.s.r, .slice A1 p.s.sl.length a1, .int .u64 p.r.g, .int .u64 p.r.r, .int .u64 p.r.fl, .slice B1 p.r.tk.length b1, .slice C1 p.r.kp.length c1]).alloc (.cells #[.int .i64 1, .int .u64 q.theirs, .bool q.sure, .int .u64 q.old, .int .u64 q.s.g, .int .u64 q.s.n, .int .u64 q.s.r, .slice A2 q.s.sl.length a2, .int .u64 q.r.g, .int .u64 q.r.r, .int .u64 q.r.fl, .slice B2 q.r.tk.length b2, .slice C2 q.r.kp.length c2] 31)
  have kq : Blk ((v1.alloc (.cells #[.int .i64 p.node, .int .u64 p.theirs, .bool p.sure, .int .u64 p.old, .int .u64 p.s.g, .int .u64 p.s.n, .int .u64 p.s.r, .slice A1 p.s.sl.length a1, .int .u64 p.r.g, .int .u64 p.r.r, .int .u64 p.r.fl, .slice B1 p.r.tk.length b1, .slice C1 p.r.kp.length c1] 31)).alloc (.cells #[.int .i64 1, .int .u64 q.theirs, .bool q.sure, .int .u64 q.old, .int .u64 q.s.g, .int .u64 q.s.n, .int .u64 q.s.r, .slice A2 q.s.sl.length a2, .int .u64 q.r.g, .int .u64 q.r.r, .int .u64 q.r.fl, .slice B2 q.r.tk.length b2, .slice C2 q.r.kp.length c2] 31)) (v1.heap.size + 1) 31 #[.int .i64 1, .int .u64 q.theirs, .bool q.sure, .int .u64 q.old, .int .u64 q.s.g, .int .u64 q.s.n, .int .u64 q.s.r, .slice A2 q.s.sl.length a2, .int .u64 q.r.g, .int .u64 q.r.r, .int .u64 q.r.fl, .slice B2 q.r.tk.length b2, .slice C2 q.r.kp.length c2] := Blk.new1 v1 (.cells #[.int .i64 p.node, .int .u64 p.theirs, .bool p.sure, .int .u64 p.old, .int .u64 p.s.g, .int .u64 p.s.n, .int .u64 p.s.r, .slice A1 p.s.sl.length a1, .int .u64 p.r.g, .int .u64 p.r.r, .int .u64 p.r.fl, .slice B1 p.r.tk.length b1, .slice C1 p.r.kp.length c1] 31) 31 #[.int .i64 1, .int .u64 q.theirs, .bool q.sure, .int .u64 q.old, .int .u64 q.s.g, .int .u64 q.s.n, .int .u64 q.s.r, .slice A2 q.s.sl.length a2, .int .u64 q.r.g, .int .u64 q.r.r, .int .u64 q.r.fl, .slice B2 q.r.tk.length b2, .slice C2 q.r.kp.length c2]
  have RP2 : PrN (Bx v1.heap.size (v1.heap.size + 1) (v1.heap.size + 1)) ((v1.alloc (.cells #[.int .i64 p.node, .int .u64 p.theirs, .bool p.sure, .int .u64 p.old, .int .u64 p.s.g, .int .u64 p.s.n, .int .u64 p.s.r, .slice A1 p.s.sl.length a1, .int .u64 p.r.g, .int .u64 p.r.r, .int .u64 p.r.fl, .slice B1 p.r.tk.length b1, .slice C1 p.r.kp.length c1] 31)).alloc (.cells #[.int .i64 1, .int .u64 q.theirs, .bool q.sure, .int .u64 q.old, .int .u64 q.s.g, .int .u64 q.s.n, .int .u64 q.s.r, .slice A2 q.s.sl.length a2, .int .u64 q.r.g, .int .u64 q.r.r, .int .u64 q.r.fl, .slice B2 q.r.tk.length b2, .slice C2 q.r.kp.length c2] 31)) (.agg #[.int .i64 p.node, .int .u64 p.theirs, .bool p.sure, .int .u64 p.old, .int .u64 p.s.g, .int .u64 p.s.n, .int .u64 p.s.r, .slice A1 p.s.sl.length a1, .int .u64 p.r.g, .int .u64 p.r.r, .int .u64 p.r.fl, .slice B1 p.r.tk.length b1, .slice C1 p.r.kp.length c1]) p := (PrN.ofAt RP (fun n h h' => by unfold Bx at h'; omega)).below (bal (bal (Below.refl _ _) (.cells #[.int .i64 p.node, .int .u64 p.theirs, .bool p.sure, .int .u64 p.old, .int .u64 p.s.g, .int .u64 p.s.n, .int .u64 p.s.r, .slice A1 p.s.sl.length a1, .int .u64 p.r.g, .int .u64 p.r.r, .int .u64 p.r.fl, .slice B1 p.r.tk.length b1, .slice C1 p.r.kp.length c1] 31)) (.cells #[.int .i64 1, .int .u64 q.theirs, .bool q.sure, .int .u64 q.old, .int .u64 q.s.g, .int .u64 q.s.n, .int .u64 q.s.r, .slice A2 q.s.sl.length a2, .int .u64 q.r.g, .int .u64 q.r.r, .int .u64 q.r.fl, .slice B2 q.r.tk.length b2, .slice C2 q.r.kp.length c2] 31))
  have RQ2 : PrN (Bx v1.heap.size (v1.heap.size + 1) (v1.heap.size + 1)) ((v1.alloc (.cells #[.int .i64 p.node, .int .u64 p.theirs, .bool p.sure, .int .u64 p.old, .int .u64 p.s.g, .int .u64 p.s.n, .int .u64 p.s.r, .slice A1 p.s.sl.length a1, .int .u64 p.r.g, .int .u64 p.r.r, .int .u64 p.r.fl, .slice B1 p.r.tk.length b1, .slice C1 p.r.kp.length c1] 31)).alloc (.cells #[.int .i64 1, .int .u64 q.theirs, .bool q.sure, .int .u64 q.old, .int .u64 q.s.g, .int .u64 q.s.n, .int .u64 q.s.r, .slice A2 q.s.sl.length a2, .int .u64 q.r.g, .int .u64 q.r.r, .int .u64 q.r.fl, .slice B2 q.r.tk.length b2, .slice C2 q.r.kp.length c2] 31)) (.agg #[.int .i64 1, .int .u64 q.theirs, .bool q.sure, .int .u64 q.old, .int .u64 q.s.g, .int .u64 q.s.n, .int .u64 q.s.r, .slice A2 q.s.sl.length a2, .int .u64 q.r.g, .int .u64 q.r.r, .int .u64 q.r.fl, .slice B2 q.r.tk.length b2, .slice C2 q.r.kp.length c2]) { q with node := 1 } := ((PrN.ofAt RQ (fun n h h' => by unfold Bx at h'; omega)).below (bal (bal (Below.refl _ _) (.cells #[.int .i64 p.node, .int .u64 p.theirs, .bool p.sure, .int .u64 p.old, .int .u64 p.s.g, .int .u64 p.s.n, .int .u64 p.s.r, .slice A1 p.s.sl.length a1, .int .u64 p.r.g, .int .u64 p.r.r, .int .u64 p.r.fl, .slice B1 p.r.tk.length b1, .slice C1 p.r.kp.length c1] 31)) (.cells #[.int .i64 1, .int .u64 q.theirs, .bool q.sure, .int .u64 q.old, .int .u64 q.s.g, .int .u64 q.s.n, .int .u64 q.s.r, .slice A2 q.s.sl.length a2, .int .u64 q.r.g, .int .u64 q.r.r, .int .u64 q.r.fl, .slice B2 q.r.tk.length b2, .slice C2 q.r.kp.length c2] 31))).as (node' := 1) (th' := q.theirs) (su' := q.sure) (old' := q.old)
  replace hB : Below w.heap.size w ((v1.alloc (.cells #[.int .i64 p.node, .int .u64 p.theirs, .bool p.sure, .int .u64 p.old, .int .u64 p.s.g, .int .u64 p.s.n, .int .u64 p.s.r, .slice A1 p.s.sl.length a1, .int .u64 p.r.g, .int .u64 p.r.r, .int .u64 p.r.fl, .slice B1 p.r.tk.length b1, .slice C1 p.r.kp.length c1] 31)).alloc (.cells #[.int .i64 1, .int .u64 q.theirs, .bool q.sure, .int .u64 q.old, .int .u64 q.s.g, .int .u64 q.s.n, .int .u64 q.s.r, .slice A2 q.s.sl.length a2, .int .u64 q.r.g, .int .u64 q.r.r, .int .u64 q.r.fl, .slice B2 q.r.tk.length b2, .slice C2 q.r.kp.length c2] 31)) := bal (bal hB (.cells #[.int .i64 p.node, .int .u64 p.theirs, .bool p.sure, .int .u64 p.old, .int .u64 p.s.g, .int .u64 p.s.n, .int .u64 p.s.r, .slice A1 p.s.sl.length a1, .int .u64 p.r.g, .int .u64 p.r.r, .int .u64 p.r.fl, .slice B1 p.r.tk.length b1, .slice C1 p.r.kp.length c1] 31)) (.cells #[.int .i64 1, .int .u64 q.theirs, .bool q.sure, .int .u64 q.old, .int .u64 q.s.g, .int .u64 q.s.n, .int .u64 q.s.r, .slice A2 q.s.sl.length a2, .int .u64 q.r.g, .int .u64 q.r.r, .int .u64 q.r.fl, .slice B2 q.r.tk.length b2, .slice C2 q.r.kp.length c2] 31)
  clear RP RQ HS2
  obtain ⟨g11, hg⟩ : ∃ g, v1.heap.size = g := ⟨_, rfl⟩
  rw [hg] at kp kq RP2 RQ2 hv ⊢
  clear hg
  generalize ((v1.alloc (.cells #[.int .i64 p.node, .int .u64 p.theirs, .bool p.sure, .int .u64 p.old, .int .u64 p.s.g, .int .u64 p.s.n, .int .u64 p.s.r, .slice A1 p.s.sl.length a1, .int .u64 p.r.g, .int .u64 p.r.r, .int .u64 p.r.fl, .slice B1 p.r.tk.length b1, .slice C1 p.r.kp.length c1] 31)).alloc (.cells #[.int .i64 1, .int .u64 q.theirs, .bool q.sure, .int .u64 q.old, .int .u64 q.s.g, .int .u64 q.s.n, .int .u64 q.s.r, .slice A2 q.s.sl.length a2, .int .u64 q.r.g, .int .u64 q.r.r, .int .u64 q.r.fl, .slice B2 q.r.tk.length b2, .slice C2 q.r.kp.length c2] 31)) = v3 at kp kq RP2 RQ2 hB ⊢
  have hw3 : g11 + 2 ≤ v3.heap.size := kq.lt
  have hpt := hp'.out.th
  have hqt := hq'.out.th
  obtain ⟨mb, hb1⟩ : ∃ b, max 1 q.theirs = b := ⟨_, rfl⟩
  have hb10 : 1 ≤ mb ∧ mb ≤ 5 ∧ q.theirs ≤ mb := by omega
  obtain ⟨ma, ha1⟩ : ∃ b, max 1 p.theirs = b := ⟨_, rfl⟩
  have ha10 : 1 ≤ ma ∧ ma ≤ 5 ∧ p.theirs ≤ ma := by omega
  have hu : 1 ≤ mb + mo ∧ mb + mo ≤ 7 := by omega
  have ht : 1 ≤ ma + ot ∧ ma + ot ≤ 7 := by omega
  go_cut [13, 14] (fun s13 s14 wx => s13 = .int .u64 (mb + mo) ∧ s14 = .int .u64 (ma + ot) ∧ Blk wx g11 31 #[.int .i64 p.node, .int .u64 p.theirs, .bool p.sure, .int .u64 p.old, .int .u64 p.s.g, .int .u64 p.s.n, .int .u64 p.s.r, .slice A1 p.s.sl.length a1, .int .u64 p.r.g, .int .u64 p.r.r, .int .u64 p.r.fl, .slice B1 p.r.tk.length b1, .slice C1 p.r.kp.length c1] ∧ Blk wx (g11 + 1) 31 #[.int .i64 1, .int .u64 q.theirs, .bool q.sure, .int .u64 q.old, .int .u64 q.s.g, .int .u64 q.s.n, .int .u64 q.s.r, .slice A2 q.s.sl.length a2, .int .u64 q.r.g, .int .u64 q.r.r, .int .u64 q.r.fl, .slice B2 q.r.tk.length b2, .slice C2 q.r.kp.length c2] ∧ PrN (Bx g11 (g11 + 1) (g11 + 1)) wx (.agg #[.int .i64 p.node, .int .u64 p.theirs, .bool p.sure, .int .u64 p.old, .int .u64 p.s.g, .int .u64 p.s.n, .int .u64 p.s.r, .slice A1 p.s.sl.length a1, .int .u64 p.r.g, .int .u64 p.r.r, .int .u64 p.r.fl, .slice B1 p.r.tk.length b1, .slice C1 p.r.kp.length c1]) p ∧ PrN (Bx g11 (g11 + 1) (g11 + 1)) wx (.agg #[.int .i64 1, .int .u64 q.theirs, .bool q.sure, .int .u64 q.old, .int .u64 q.s.g, .int .u64 q.s.n, .int .u64 q.s.r, .slice A2 q.s.sl.length a2, .int .u64 q.r.g, .int .u64 q.r.r, .int .u64 q.r.fl, .slice B2 q.r.tk.length b2, .slice C2 q.r.kp.length c2]) { q with node := 1 } ∧ Below w.heap.size w wx)
  case first =>
    refine wp_region_held_drew (S := fun wx => Below w.heap.size w wx ∧ Blk wx g11 31 #[.int .i64 p.node, .int .u64 p.theirs, .bool p.sure, .int .u64 p.old, .int .u64 p.s.g, .int .u64 p.s.n, .int .u64 p.s.r, .slice A1 p.s.sl.length a1, .int .u64 p.r.g, .int .u64 p.r.r, .int .u64 p.r.fl, .slice B1 p.r.tk.length b1, .slice C1 p.r.kp.length c1] ∧ Blk wx (g11 + 1) 31 #[.int .i64 1, .int .u64 q.theirs, .bool q.sure, .int .u64 q.old, .int .u64 q.s.g, .int .u64 q.s.n, .int .u64 q.s.r, .slice A2 q.s.sl.length a2, .int .u64 q.r.g, .int .u64 q.r.r, .int .u64 q.r.fl, .slice B2 q.r.tk.length b2, .slice C2 q.r.kp.length c2] ∧ PrN (Bx g11 (g11 + 1) (g11 + 1)) wx (.agg #[.int .i64 p.node, .int .u64 p.theirs, .bool p.sure, .int .u64 p.old, .int .u64 p.s.g, .int .u64 p.s.n, .int .u64 p.s.r, .slice A1 p.s.sl.length a1, .int .u64 p.r.g, .int .u64 p.r.r, .int .u64 p.r.fl, .slice B1 p.r.tk.length b1, .slice C1 p.r.kp.length c1]) p ∧ PrN (Bx g11 (g11 + 1) (g11 + 1)) wx (.agg #[.int .i64 1, .int .u64 q.theirs, .bool q.sure, .int .u64 q.old, .int .u64 q.s.g, .int .u64 q.s.n, .int .u64 q.s.r, .slice A2 q.s.sl.length a2, .int .u64 q.r.g, .int .u64 q.r.r, .int .u64 q.r.fl, .slice B2 q.r.tk.length b2, .slice C2 q.r.kp.length c2]) { q with node := 1 }) (by kernel_rfl) ⟨hB.drew, kp, kq, RP2, RQ2⟩ (fun hH => ?_)
    generalize v3.drew = x0 at hH ⊢
    clear kp kq RP2 RQ2 hB hw3
    refine wpAnyH_take (i := 0) rfl (by kernel_rfl) (by kernel_rfl) (by kernel_rfl) (fun _ _ _ h => h) (yieldsIf_cell (.pointer (some ⟨g11 + 1, 1, none⟩)) rfl (fun w h => by go_simp)) hH ?_
    try simp only [List.getElem_toArray, List.getElem_cons_succ, List.getElem_cons_zero, Act.put, List.setIfInBounds_toArray, List.set_cons_zero, List.set_cons_succ]
    refine wpAnyH_take (i := 1) rfl (by kernel_rfl) (by kernel_rfl) (by kernel_rfl) (fun _ _ _ h => h) (yieldsIf_cell (.int .u64 q.theirs) rfl (fun w h => by have j0 : w.cell? ⟨g11 + 1, 1, none⟩ = some (.int .u64 q.theirs) := (h.2.2.1).cell 1; go_simp)) hH ?_
    try simp only [List.getElem_toArray, List.getElem_cons_succ, List.getElem_cons_zero, Act.put, List.setIfInBounds_toArray, List.set_cons_zero, List.set_cons_succ]
    refine wpAnyH_take (i := 2) rfl (by kernel_rfl) (by kernel_rfl) (by kernel_rfl) (fun _ _ _ h => h) (yieldsIf_cell (.int .u64 mb) rfl (fun w h => by go_simp; exact maxu hb1)) hH ?_
    try simp only [List.getElem_toArray, List.getElem_cons_succ, List.getElem_cons_zero, Act.put, List.setIfInBounds_toArray, List.set_cons_zero, List.set_cons_succ]
    refine wpAnyH_take (i := 3) rfl (by kernel_rfl) (by kernel_rfl) (by kernel_rfl) (fun _ _ _ h => h) (yieldsIf_pure _ (.int .u64 more) rfl (.inl rfl) rfl) hH ?_
    try simp only [List.getElem_toArray, List.getElem_cons_succ, List.getElem_cons_zero, Act.put, List.setIfInBounds_toArray, List.set_cons_zero, List.set_cons_succ]
    refine wpAnyH_take (i := 4) rfl (by kernel_rfl) (by kernel_rfl) (by kernel_rfl) (fun _ _ _ h => h) (yieldsIf_cell (.int .u64 mo) rfl (fun w h => by go_simp)) hH ?_
    try simp only [List.getElem_toArray, List.getElem_cons_succ, List.getElem_cons_zero, Act.put, List.setIfInBounds_toArray, List.set_cons_zero, List.set_cons_succ]
    refine wpAnyH_take (i := 5) rfl (by kernel_rfl) (by kernel_rfl) (by kernel_rfl) (fun _ _ _ h => h) (yieldsIf_cell (.int .u64 (mb + mo)) rfl (fun w h => by go_simp; exact IntWalk.u64_in _ (by omega))) hH ?_
    try simp only [List.getElem_toArray, List.getElem_cons_succ, List.getElem_cons_zero, Act.put, List.setIfInBounds_toArray, List.set_cons_zero, List.set_cons_succ]
    refine wpAnyH_take (i := 6) rfl (by kernel_rfl) (by kernel_rfl) (by kernel_rfl) (fun _ _ _ h => h) (yieldsIf_cell (.pointer (some ⟨g11, 1, none⟩)) rfl (fun w h => by go_simp)) hH ?_
    try simp only [List.getElem_toArray, List.getElem_cons_succ, List.getElem_cons_zero, Act.put, List.setIfInBounds_toArray, List.set_cons_zero, List.set_cons_succ]
    refine wpAnyH_take (i := 7) rfl (by kernel_rfl) (by kernel_rfl) (by kernel_rfl) (fun _ _ _ h => h) (yieldsIf_cell (.int .u64 p.theirs) rfl (fun w h => by have j0 : w.cell? ⟨g11, 1, none⟩ = some (.int .u64 p.theirs) := (h.2.1).cell 1; go_simp)) hH ?_
    try simp only [List.getElem_toArray, List.getElem_cons_succ, List.getElem_cons_zero, Act.put, List.setIfInBounds_toArray, List.set_cons_zero, List.set_cons_succ]
    refine wpAnyH_take (i := 8) rfl (by kernel_rfl) (by kernel_rfl) (by kernel_rfl) (fun _ _ _ h => h) (yieldsIf_cell (.int .u64 ma) rfl (fun w h => by go_simp; exact maxu ha1)) hH ?_
    try simp only [List.getElem_toArray, List.getElem_cons_succ, List.getElem_cons_zero, Act.put, List.setIfInBounds_toArray, List.set_cons_zero, List.set_cons_succ]
    refine wpAnyH_take (i := 9) rfl (by kernel_rfl) (by kernel_rfl) (by kernel_rfl) (fun _ _ _ h => h) (yieldsIf_pure _ (.int .u64 other) rfl (.inl rfl) rfl) hH ?_
    try simp only [List.getElem_toArray, List.getElem_cons_succ, List.getElem_cons_zero, Act.put, List.setIfInBounds_toArray, List.set_cons_zero, List.set_cons_succ]
    refine wpAnyH_take (i := 10) rfl (by kernel_rfl) (by kernel_rfl) (by kernel_rfl) (fun _ _ _ h => h) (yieldsIf_cell (.int .u64 ot) rfl (fun w h => by go_simp)) hH ?_
    try simp only [List.getElem_toArray, List.getElem_cons_succ, List.getElem_cons_zero, Act.put, List.setIfInBounds_toArray, List.set_cons_zero, List.set_cons_succ]
    refine wpAnyH_take (i := 11) rfl (by kernel_rfl) (by kernel_rfl) (by kernel_rfl) (fun _ _ _ h => h) (yieldsIf_cell (.int .u64 (ma + ot)) rfl (fun w h => by go_simp; exact IntWalk.u64_in _ (by omega))) hH ?_
    try simp only [List.getElem_toArray, List.getElem_cons_succ, List.getElem_cons_zero, Act.put, List.setIfInBounds_toArray, List.set_cons_zero, List.set_cons_succ]
    refine wpAnyH_take (i := 12) rfl (by kernel_rfl) (by kernel_rfl) (by kernel_rfl) (fun _ _ _ h => h) (yieldsIf_pure _ (.int .u64 (mb + mo)) rfl (.inr rfl) rfl) hH ?_
    try simp only [List.getElem_toArray, List.getElem_cons_succ, List.getElem_cons_zero, Act.put, List.setIfInBounds_toArray, List.set_cons_zero, List.set_cons_succ]
    refine wpAnyH_take (i := 13) rfl (by kernel_rfl) (by kernel_rfl) (by kernel_rfl) (fun _ _ _ h => h) (yieldsIf_pure _ (.int .u64 (ma + ot)) rfl (.inr rfl) rfl) hH ?_
    try simp only [List.getElem_toArray, List.getElem_cons_succ, List.getElem_cons_zero, Act.put, List.setIfInBounds_toArray, List.set_cons_zero, List.set_cons_succ]
    refine wpAnyH_done (by kernel_rfl) ?_ _
    go_wp2_with fail
    go_meet
    exact ⟨rfl, rfl, hH.2.1, hH.2.2.1, hH.2.2.2.1, hH.2.2.2.2, hH.1⟩
  case rest =>
  clear kp kq RP2 RQ2 hB
  obtain ⟨rfl, rfl, kp, kq, RP2, RQ2, hB⟩ := hcut
  clear hw3
  generalize wc = v4 at kp kq RP2 RQ2 hB ⊢
  obtain ⟨u, hu0⟩ : ∃ u, mb + mo = u := ⟨_, rfl⟩
  obtain ⟨t, ht0⟩ : ∃ t, ma + ot = t := ⟨_, rfl⟩
  rw [hu0] at hu ⊢
  rw [ht0] at ht ⊢
  have hqu : q.theirs ≤ u := by omega
  have hpt2 : p.theirs ≤ t := by omega
  clear hu0 ht0 hb1 ha1 hb10 ha10 hmo hot hmo0 hot0
  go_upto_region 4 with fail
  obtain ⟨c, hc⟩ : ∃ c, decide (0 < p.theirs ∧ q.theirs < u) = c := ⟨_, rfl⟩
  have HC := Lib.hid hc
  clear hc
  go_cut [46] (fun s wx => s = .bool c ∧ wx = v4)
  case first =>
    have hlp := kp.lt
    have hlq := kq.lt
    obtain ⟨x0, x1, x2, x3, x4, x5, x6, x7, x8, x9, x10, x11, x12⟩ := kp.c13
    obtain ⟨y0, y1, y2, y3, y4, y5, y6, y7, y8, y9, y10, y11, y12⟩ := kq.c13
    by_cases h1 : 0 < p.theirs
    · have h1d : decide (0 < p.theirs) = true := decide_eq_true h1
      by_cases h2 : q.theirs < u
      · have h2d : decide (q.theirs < u) = true := decide_eq_true h2
        go_wp2_with fail
        go_meet
        exact ⟨by rw [← HC.out, decide_eq_true ⟨h1, h2⟩], rfl⟩
      · have h2d : decide (q.theirs < u) = false := decide_eq_false h2
        go_wp2_with fail
        go_meet
        exact ⟨by rw [← HC.out, decide_eq_false (by omega)], rfl⟩
    · have h1d : decide (0 < p.theirs) = false := decide_eq_false h1
      go_wp2_with fail
      go_meet
      exact ⟨by rw [← HC.out, decide_eq_false (by omega)], rfl⟩
  case rest =>
  obtain ⟨rfl, rfl⟩ := hcut
  go_upto_if 46 with fail
  go_cut [] (fun wx => ∃ s1 : Bool, MtOk 2 t { p with sure := s1 } ∧ Blk wx g11 31 #[.int .i64 p.node, .int .u64 p.theirs, .bool s1, .int .u64 p.old, .int .u64 p.s.g, .int .u64 p.s.n, .int .u64 p.s.r, .slice A1 p.s.sl.length a1, .int .u64 p.r.g, .int .u64 p.r.r, .int .u64 p.r.fl, .slice B1 p.r.tk.length b1, .slice C1 p.r.kp.length c1] ∧ Blk wx (g11 + 1) 31 #[.int .i64 1, .int .u64 q.theirs, .bool q.sure, .int .u64 q.old, .int .u64 q.s.g, .int .u64 q.s.n, .int .u64 q.s.r, .slice A2 q.s.sl.length a2, .int .u64 q.r.g, .int .u64 q.r.r, .int .u64 q.r.fl, .slice B2 q.r.tk.length b2, .slice C2 q.r.kp.length c2] ∧ PrN (Bx g11 (g11 + 1) (g11 + 1)) wx (.agg #[.int .i64 p.node, .int .u64 p.theirs, .bool s1, .int .u64 p.old, .int .u64 p.s.g, .int .u64 p.s.n, .int .u64 p.s.r, .slice A1 p.s.sl.length a1, .int .u64 p.r.g, .int .u64 p.r.r, .int .u64 p.r.fl, .slice B1 p.r.tk.length b1, .slice C1 p.r.kp.length c1]) { p with sure := s1 } ∧ PrN (Bx g11 (g11 + 1) (g11 + 1)) wx (.agg #[.int .i64 1, .int .u64 q.theirs, .bool q.sure, .int .u64 q.old, .int .u64 q.s.g, .int .u64 q.s.n, .int .u64 q.s.r, .slice A2 q.s.sl.length a2, .int .u64 q.r.g, .int .u64 q.r.r, .int .u64 q.r.fl, .slice B2 q.r.tk.length b2, .slice C2 q.r.kp.length c2]) { q with node := 1 } ∧ Below w.heap.size w wx)
  case first =>
    cases c with
    | true =>
      obtain ⟨h1, h2⟩ := of_decide_eq_true HC.out
      have hlp := kp.lt
      have hlq := kq.lt
      obtain ⟨f0, f1, f2, f3, f4, f5, f6, f7, f8, f9, f10, f11, f12⟩ := kp.f13
      obtain ⟨x0, x1, x2, x3, x4, x5, x6, x7, x8, x9, x10, x11, x12⟩ := kp.c13
      go_wp2_with fail
      go_meet
      exact ⟨false, mtOk_made hp'.out (.inr rfl) hp'.out.node hpt2 (.inr ⟨h1, rfl⟩), kp.set 2 (.bool false), kq.far (p := ⟨g11, 2, none⟩) (by show ¬ g11 + 1 = g11; omega) _, (RP2.set (g := g11) (.inl rfl) 2 _).as, RQ2.set (g := g11) (.inl rfl) 2 _, hB.setCell (p := ⟨g11, 2, none⟩) (by show w.heap.size ≤ g11; omega) _⟩
    | false =>
      go_wp2_with fail
      go_meet
      exact ⟨p.sure, mtOk_made hp'.out (.inr rfl) hp'.out.node hpt2 (.inl rfl), kp, kq, RP2, RQ2, hB⟩
  case rest =>
  clear kp kq RP2 RQ2 hB HC
  obtain ⟨s1, okp, kp, kq, RP2, RQ2, hB⟩ := hcut
  generalize wc = v5 at kp kq RP2 RQ2 hB ⊢
  go_upto_region 6 with fail
  obtain ⟨c, hc⟩ : ∃ c, decide (0 < q.theirs ∧ p.theirs < t) = c := ⟨_, rfl⟩
  have HC := Lib.hid hc
  clear hc
  go_cut [56] (fun s wx => s = .bool c ∧ wx = v5)
  case first =>
    have hlp := kp.lt
    have hlq := kq.lt
    obtain ⟨x0, x1, x2, x3, x4, x5, x6, x7, x8, x9, x10, x11, x12⟩ := kp.c13
    obtain ⟨y0, y1, y2, y3, y4, y5, y6, y7, y8, y9, y10, y11, y12⟩ := kq.c13
    by_cases h1 : 0 < q.theirs
    · have h1d : decide (0 < q.theirs) = true := decide_eq_true h1
      by_cases h2 : p.theirs < t
      · have h2d : decide (p.theirs < t) = true := decide_eq_true h2
        go_wp2_with fail
        go_meet
        exact ⟨by rw [← HC.out, decide_eq_true ⟨h1, h2⟩], rfl⟩
      · have h2d : decide (p.theirs < t) = false := decide_eq_false h2
        go_wp2_with fail
        go_meet
        exact ⟨by rw [← HC.out, decide_eq_false (by omega)], rfl⟩
    · have h1d : decide (0 < q.theirs) = false := decide_eq_false h1
      go_wp2_with fail
      go_meet
      exact ⟨by rw [← HC.out, decide_eq_false (by omega)], rfl⟩
  case rest =>
  obtain ⟨rfl, rfl⟩ := hcut
  go_upto_if 56 with fail
  go_cut [] (fun wx => ∃ s2 : Bool, MtOk 1 u { q with node := 1, sure := s2 } ∧ Blk wx g11 31 #[.int .i64 p.node, .int .u64 p.theirs, .bool s1, .int .u64 p.old, .int .u64 p.s.g, .int .u64 p.s.n, .int .u64 p.s.r, .slice A1 p.s.sl.length a1, .int .u64 p.r.g, .int .u64 p.r.r, .int .u64 p.r.fl, .slice B1 p.r.tk.length b1, .slice C1 p.r.kp.length c1] ∧ Blk wx (g11 + 1) 31 #[.int .i64 1, .int .u64 q.theirs, .bool s2, .int .u64 q.old, .int .u64 q.s.g, .int .u64 q.s.n, .int .u64 q.s.r, .slice A2 q.s.sl.length a2, .int .u64 q.r.g, .int .u64 q.r.r, .int .u64 q.r.fl, .slice B2 q.r.tk.length b2, .slice C2 q.r.kp.length c2] ∧ PrN (Bx g11 (g11 + 1) (g11 + 1)) wx (.agg #[.int .i64 p.node, .int .u64 p.theirs, .bool s1, .int .u64 p.old, .int .u64 p.s.g, .int .u64 p.s.n, .int .u64 p.s.r, .slice A1 p.s.sl.length a1, .int .u64 p.r.g, .int .u64 p.r.r, .int .u64 p.r.fl, .slice B1 p.r.tk.length b1, .slice C1 p.r.kp.length c1]) { p with sure := s1 } ∧ PrN (Bx g11 (g11 + 1) (g11 + 1)) wx (.agg #[.int .i64 1, .int .u64 q.theirs, .bool s2, .int .u64 q.old, .int .u64 q.s.g, .int .u64 q.s.n, .int .u64 q.s.r, .slice A2 q.s.sl.length a2, .int .u64 q.r.g, .int .u64 q.r.r, .int .u64 q.r.fl, .slice B2 q.r.tk.length b2, .slice C2 q.r.kp.length c2]) { q with node := 1, sure := s2 } ∧ Below w.heap.size w wx)
  case first =>
    cases c with
    | true =>
      obtain ⟨h1, h2⟩ := of_decide_eq_true HC.out
      have hlp := kp.lt
      have hlq := kq.lt
      obtain ⟨f0, f1, f2, f3, f4, f5, f6, f7, f8, f9, f10, f11, f12⟩ := kq.f13
      obtain ⟨x0, x1, x2, x3, x4, x5, x6, x7, x8, x9, x10, x11, x12⟩ := kq.c13
      go_wp2_with fail
      go_meet
      exact ⟨false, mtOk_made hq'.out (.inl rfl) rfl hqu (.inr ⟨h1, rfl⟩), kp.far (p := ⟨g11 + 1, 2, none⟩) (by show ¬ g11 = g11 + 1; omega) _, kq.set 2 (.bool false), RP2.set (g := g11 + 1) (.inr (.inl rfl)) 2 _, (RQ2.set (g := g11 + 1) (.inr (.inl rfl)) 2 _).as, hB.setCell (p := ⟨g11 + 1, 2, none⟩) (by show w.heap.size ≤ g11 + 1; omega) _⟩
    | false =>
      go_wp2_with fail
      go_meet
      exact ⟨q.sure, mtOk_made hq'.out (.inl rfl) rfl hqu (.inl rfl), kp, kq, RP2, RQ2, hB⟩
  case rest =>
  clear kp kq RP2 RQ2 hB HC
  obtain ⟨s2, okq, kp, kq, RP2, RQ2, hB⟩ := hcut
  generalize wc = v6 at kp kq RP2 RQ2 hB ⊢
  obtain ⟨p2, hp2⟩ : ∃ x, ({ p with sure := s1 } : Pr) = x := ⟨_, rfl⟩
  obtain ⟨q2, hq2⟩ : ∃ x, ({ q with node := 1, sure := s2 } : Pr) = x := ⟨_, rfl⟩
  rw [hp2] at okp RP2
  rw [hq2] at okq RQ2
  replace kp : Blk v6 g11 31 #[.int .i64 p2.node, .int .u64 p2.theirs, .bool p2.sure, .int .u64 p2.old, .int .u64 p2.s.g, .int .u64 p2.s.n, .int .u64 p2.s.r, .slice A1 p2.s.sl.length a1, .int .u64 p2.r.g, .int .u64 p2.r.r, .int .u64 p2.r.fl, .slice B1 p2.r.tk.length b1, .slice C1 p2.r.kp.length c1] := by rw [← hp2]; exact kp
  replace kq : Blk v6 (g11 + 1) 31 #[.int .i64 q2.node, .int .u64 q2.theirs, .bool q2.sure, .int .u64 q2.old, .int .u64 q2.s.g, .int .u64 q2.s.n, .int .u64 q2.s.r, .slice A2 q2.s.sl.length a2, .int .u64 q2.r.g, .int .u64 q2.r.r, .int .u64 q2.r.fl, .slice B2 q2.r.tk.length b2, .slice C2 q2.r.kp.length c2] := by rw [← hq2]; exact kq
  replace RP2 : PrN (Bx g11 (g11 + 1) (g11 + 1)) v6 (.agg #[.int .i64 p2.node, .int .u64 p2.theirs, .bool p2.sure, .int .u64 p2.old, .int .u64 p2.s.g, .int .u64 p2.s.n, .int .u64 p2.s.r, .slice A1 p2.s.sl.length a1, .int .u64 p2.r.g, .int .u64 p2.r.r, .int .u64 p2.r.fl, .slice B1 p2.r.tk.length b1, .slice C1 p2.r.kp.length c1]) p2 := by rw [← hp2] at RP2 ⊢; exact RP2
  replace RQ2 : PrN (Bx g11 (g11 + 1) (g11 + 1)) v6 (.agg #[.int .i64 q2.node, .int .u64 q2.theirs, .bool q2.sure, .int .u64 q2.old, .int .u64 q2.s.g, .int .u64 q2.s.n, .int .u64 q2.s.r, .slice A2 q2.s.sl.length a2, .int .u64 q2.r.g, .int .u64 q2.r.r, .int .u64 q2.r.fl, .slice B2 q2.r.tk.length b2, .slice C2 q2.r.kp.length c2]) q2 := by rw [← hq2] at RQ2 ⊢; exact RQ2
  clear hp2 hq2
  obtain ⟨wf2, be2, hI⟩ := mt_start okp okq hu ht
  obtain ⟨f, hf⟩ : ∃ f, gfr p2 1 u 1 0 0 = f := ⟨_, rfl⟩
  have HC : Hid (∀ V w', PrAt w' V p2 → Calls Try.prog 25 #[V, .int .i64 1, .int .u64 u] w' (RetFE f 0 w')) := Lib.hid (fun V w' h => by
    have := Hello_any p2 wf2 1 u V w' h
    rwa [be2, hf] at this)
  rw [hf] at hI
  have hI' := Lib.hid hI
  clear hf hI be2 wf2 okp okq hpt hqt hqu hpt2 hp' hq'
  have hu' := Lib.hid hu
  have ht' := Lib.hid ht
  have hlp := kp.lt
  have hlq := kq.lt
  go_wp2_with (refine wpList_ldrow (by rfl) 31 _ (by rfl) g11 (by rfl) 31 #[.int .i64 p2.node, .int .u64 p2.theirs, .bool p2.sure, .int .u64 p2.old, .int .u64 p2.s.g, .int .u64 p2.s.n, .int .u64 p2.s.r, .slice A1 p2.s.sl.length a1, .int .u64 p2.r.g, .int .u64 p2.r.r, .int .u64 p2.r.fl, .slice B1 p2.r.tk.length b1, .slice C1 p2.r.kp.length c1] (0, 0) _ kp Try.underlying31 (by rfl) (by kernel_rfl) ?_)
  refine (HC.out _ _ RP2.at).mono ?_
  rintro e v7 ⟨rfl, hb⟩
  replace kp := kp.below hb
  replace kq := kq.below hb
  replace RP2 := RP2.below hb
  replace RQ2 := RQ2.below hb
  replace hB := bnext hB hb
  clear hb hlp hlq HC
  have hlp := kp.lt
  have hlq := kq.lt
  dsimp only [Fr.val]
  go_upto_region 10 with (go_big_may; first | (refine wpList_alloc_z (by rfl) 51 (by rfl) _ rfl #[.int .i64 0, .int .i64 0, .int .i64 0, .int .u64 0, .int .u64 0, .int .u64 0, .int .u64 0, .int .i64 0, .int .u64 0, .int .i64 0, .int .i64 0, .int .u64 0, .int .i64 0, .int .i64 0, .int .i64 0, .int .i64 0, .int .i64 0, .int .i64 0, .string ⟨#[]⟩] zeroFr ?_) | (refine wpList_store_new (by rfl) 51 _ _ (by rfl) v7 #[.int .i64 0, .int .i64 0, .int .i64 0, .int .u64 0, .int .u64 0, .int .u64 0, .int .u64 0, .int .i64 0, .int .u64 0, .int .i64 0, .int .i64 0, .int .u64 0, .int .i64 0, .int .i64 0, .int .i64 0, .int .i64 0, .int .i64 0, .int .i64 0, .string ⟨#[]⟩] #[.int .i64 f.kind, .int .i64 f.frm, .int .i64 f.to, .int .u64 f.mine, .int .u64 f.yours, .int .u64 f.a, .int .u64 f.b, .int .i64 f.inode, .int .u64 f.iseq, .int .i64 f.ioff, .int .i64 f.bn.node, .int .u64 f.bn.seq, .int .i64 f.bn.off, .int .i64 f.bn.dest, .int .i64 f.bn.prio, .int .i64 f.bn.born, .int .i64 f.bn.life, .int .i64 f.bn.total, .string f.bn.data] rfl (by rfl) (by rfl) (by kernel_rfl) rfl (one19 ..) ?_))
  have kf := Blk.new v7 51 #[.int .i64 f.kind, .int .i64 f.frm, .int .i64 f.to, .int .u64 f.mine, .int .u64 f.yours, .int .u64 f.a, .int .u64 f.b, .int .i64 f.inode, .int .u64 f.iseq, .int .i64 f.ioff, .int .i64 f.bn.node, .int .u64 f.bn.seq, .int .i64 f.bn.off, .int .i64 f.bn.dest, .int .i64 f.bn.prio, .int .i64 f.bn.born, .int .i64 f.bn.life, .int .i64 f.bn.total, .string f.bn.data]
  have h16 : g11 + 1 < v7.heap.size := hlq
  have RP3 : PrN (Bx g11 (g11 + 1) v7.heap.size) (v7.alloc (.cells #[.int .i64 f.kind, .int .i64 f.frm, .int .i64 f.to, .int .u64 f.mine, .int .u64 f.yours, .int .u64 f.a, .int .u64 f.b, .int .i64 f.inode, .int .u64 f.iseq, .int .i64 f.ioff, .int .i64 f.bn.node, .int .u64 f.bn.seq, .int .i64 f.bn.off, .int .i64 f.bn.dest, .int .i64 f.bn.prio, .int .i64 f.bn.born, .int .i64 f.bn.life, .int .i64 f.bn.total, .string f.bn.data] 51)) (.agg #[.int .i64 p2.node, .int .u64 p2.theirs, .bool p2.sure, .int .u64 p2.old, .int .u64 p2.s.g, .int .u64 p2.s.n, .int .u64 p2.s.r, .slice A1 p2.s.sl.length a1, .int .u64 p2.r.g, .int .u64 p2.r.r, .int .u64 p2.r.fl, .slice B1 p2.r.tk.length b1, .slice C1 p2.r.kp.length c1]) p2 := (RP2.more (fun n h h' => by unfold Bx at h' ⊢; omega)).below (bal (Below.refl _ _) _)
  have RQ3 : PrN (Bx g11 (g11 + 1) v7.heap.size) (v7.alloc (.cells #[.int .i64 f.kind, .int .i64 f.frm, .int .i64 f.to, .int .u64 f.mine, .int .u64 f.yours, .int .u64 f.a, .int .u64 f.b, .int .i64 f.inode, .int .u64 f.iseq, .int .i64 f.ioff, .int .i64 f.bn.node, .int .u64 f.bn.seq, .int .i64 f.bn.off, .int .i64 f.bn.dest, .int .i64 f.bn.prio, .int .i64 f.bn.born, .int .i64 f.bn.life, .int .i64 f.bn.total, .string f.bn.data] 51)) (.agg #[.int .i64 q2.node, .int .u64 q2.theirs, .bool q2.sure, .int .u64 q2.old, .int .u64 q2.s.g, .int .u64 q2.s.n, .int .u64 q2.s.r, .slice A2 q2.s.sl.length a2, .int .u64 q2.r.g, .int .u64 q2.r.r, .int .u64 q2.r.fl, .slice B2 q2.r.tk.length b2, .slice C2 q2.r.kp.length c2]) q2 := (RQ2.more (fun n h h' => by unfold Bx at h' ⊢; omega)).below (bal (Below.refl _ _) _)
  replace kp := kp.alloc (.cells #[.int .i64 f.kind, .int .i64 f.frm, .int .i64 f.to, .int .u64 f.mine, .int .u64 f.yours, .int .u64 f.a, .int .u64 f.b, .int .i64 f.inode, .int .u64 f.iseq, .int .i64 f.ioff, .int .i64 f.bn.node, .int .u64 f.bn.seq, .int .i64 f.bn.off, .int .i64 f.bn.dest, .int .i64 f.bn.prio, .int .i64 f.bn.born, .int .i64 f.bn.life, .int .i64 f.bn.total, .string f.bn.data] 51)
  replace kq := kq.alloc (.cells #[.int .i64 f.kind, .int .i64 f.frm, .int .i64 f.to, .int .u64 f.mine, .int .u64 f.yours, .int .u64 f.a, .int .u64 f.b, .int .i64 f.inode, .int .u64 f.iseq, .int .i64 f.ioff, .int .i64 f.bn.node, .int .u64 f.bn.seq, .int .i64 f.bn.off, .int .i64 f.bn.dest, .int .i64 f.bn.prio, .int .i64 f.bn.born, .int .i64 f.bn.life, .int .i64 f.bn.total, .string f.bn.data] 51)
  replace hB := bal hB (.cells #[.int .i64 f.kind, .int .i64 f.frm, .int .i64 f.to, .int .u64 f.mine, .int .u64 f.yours, .int .u64 f.a, .int .u64 f.b, .int .i64 f.inode, .int .u64 f.iseq, .int .i64 f.ioff, .int .i64 f.bn.node, .int .u64 f.bn.seq, .int .i64 f.bn.off, .int .i64 f.bn.dest, .int .i64 f.bn.prio, .int .i64 f.bn.born, .int .i64 f.bn.life, .int .i64 f.bn.total, .string f.bn.data] 51)
  clear RP2 RQ2 hlp hlq
  obtain ⟨g16, hg⟩ : ∃ g, v7.heap.size = g := ⟨_, rfl⟩
  rw [hg] at kf h16 RP3 RQ3 ⊢
  clear hg
  generalize v7.alloc (.cells #[.int .i64 f.kind, .int .i64 f.frm, .int .i64 f.to, .int .u64 f.mine, .int .u64 f.yours, .int .u64 f.a, .int .u64 f.b, .int .i64 f.inode, .int .u64 f.iseq, .int .i64 f.ioff, .int .i64 f.bn.node, .int .u64 f.bn.seq, .int .i64 f.bn.off, .int .i64 f.bn.dest, .int .i64 f.bn.prio, .int .i64 f.bn.born, .int .i64 f.bn.life, .int .i64 f.bn.total, .string f.bn.data] 51) = v8 at kp kq kf RP3 RQ3 hB ⊢
  go_wp2_with fail
  go_loopw [15, 17, 18] (fun s15 s17 s18 wr => MtMid w u t g11 g16 s15 s17 s18 wr) (fun _ _ s18 _ => (3 - intOf s18).toNat)
  case atStart => exact ⟨0, true, p2, q2, f, A1, a1, B1, b1, C1, c1, A2, a2, B2, b2, C2, c2, rfl, rfl, rfl, hI'.out, kp, RP3, kq, RQ3, kf, hB⟩
  case round =>
  clear kp kq kf RP3 RQ3 hB hI'
  obtain ⟨k, left, p, q, f, A5, a5, B5, b5, C5, c5, A6, a6, B6, b6, C6, c6, rfl, rfl, rfl, hI, kp, Rp, kq, Rq, kf, hB⟩ := hrel
  cases left with
  | true =>
    have hk3 := hI.lt rfl
    have hk0 := hI.hk.1
    obtain rfl | rfl | rfl : k = 0 ∨ k = 1 ∨ k = 2 := by omega
    · skip
      obtain ⟨e1, e2, z, vd, ow, f', e3, e4, e5, e6, e7, e8⟩ := mt_even hu'.out ht'.out hI (.inl rfl)
      have MC : Hid (∀ V w', PrAt w' V q → Calls Try.prog 18 #[V, .int .u64 t, .agg #[.int .i64 f.kind, .int .i64 f.frm, .int .i64 f.to, .int .u64 f.mine, .int .u64 f.yours, .int .u64 f.a, .int .u64 f.b, .int .i64 f.inode, .int .u64 f.iseq, .int .i64 f.ioff, .int .i64 f.bn.node, .int .u64 f.bn.seq, .int .i64 f.bn.off, .int .i64 f.bn.dest, .int .i64 f.bn.prio, .int .i64 f.bn.born, .int .i64 f.bn.life, .int .i64 f.bn.total, .string f.bn.data]] w' (RetMet (z, vd, ow) 0 w')) := Lib.hid (fun V w' h => by
        have := Meet_any q hI.hq.wf t f e2 V w' h
        rwa [e3, e1] at this)
      have HC : Hid (∀ V w', PrAt w' V z → Calls Try.prog 25 #[V, .int .i64 2, .int .u64 t] w' (RetFE f' 0 w')) := Lib.hid (fun V w' h => by
        have := Hello_any z e4 2 t V w' h
        rwa [e6, e5] at this)
      clear e1 e2 e3 e4 e5 e6 hI
      cases ow with
      | false =>
        have HI := Lib.hid (e7 rfl)
        clear e7 e8 HC
        have hl0 := kp.lt; have hl1 := kq.lt; have hl2 := kf.lt
        go_wp2_with (first | (refine wpList_ldrow (by rfl) 31 _ (by rfl) (g11 + 1) (by rfl) 31 #[.int .i64 q.node, .int .u64 q.theirs, .bool q.sure, .int .u64 q.old, .int .u64 q.s.g, .int .u64 q.s.n, .int .u64 q.s.r, .slice A6 q.s.sl.length a6, .int .u64 q.r.g, .int .u64 q.r.r, .int .u64 q.r.fl, .slice B6 q.r.tk.length b6, .slice C6 q.r.kp.length c6] (0, 0) _ kq Try.underlying31 (by rfl) (by kernel_rfl) ?_) | (refine wpList_ldrow (by rfl) 51 _ (by rfl) g16 (by rfl) 51 #[.int .i64 f.kind, .int .i64 f.frm, .int .i64 f.to, .int .u64 f.mine, .int .u64 f.yours, .int .u64 f.a, .int .u64 f.b, .int .i64 f.inode, .int .u64 f.iseq, .int .i64 f.ioff, .int .i64 f.bn.node, .int .u64 f.bn.seq, .int .i64 f.bn.off, .int .i64 f.bn.dest, .int .i64 f.bn.prio, .int .i64 f.bn.born, .int .i64 f.bn.life, .int .i64 f.bn.total, .string f.bn.data] (0, 0) _ kf Try.underlying51 (by rfl) (by kernel_rfl) ?_))
        refine (MC.out _ _ Rq.at).mono ?_
        rintro e v1 ⟨V7, rfl, hV7, hb⟩
        obtain ⟨A7, a7, B7, b7, C7, c7, rfl⟩ := hV7.frm
        replace kp := kp.below hb
        replace kq := kq.below hb
        replace kf := kf.below hb
        replace Rp := Rp.below hb
        replace hB := bnext hB hb
        have RZ : PrN (Bx g11 (g11 + 1) g16) v1 (.agg #[.int .i64 z.node, .int .u64 z.theirs, .bool z.sure, .int .u64 z.old, .int .u64 z.s.g, .int .u64 z.s.n, .int .u64 z.s.r, .slice A7 z.s.sl.length a7, .int .u64 z.r.g, .int .u64 z.r.r, .int .u64 z.r.fl, .slice B7 z.r.tk.length b7, .slice C7 z.r.kp.length c7]) z := PrN.ofB hV7 (fun n h h' => by unfold Bx at h'; omega)
        clear hb hV7 Rq
        clear hl0 hl1 hl2
        have kz : Blk (v1.setCells (g11 + 1) 0 (Array.toList #[.int .i64 z.node, .int .u64 z.theirs, .bool z.sure, .int .u64 z.old, .int .u64 z.s.g, .int .u64 z.s.n, .int .u64 z.s.r, .slice A7 z.s.sl.length a7, .int .u64 z.r.g, .int .u64 z.r.r, .int .u64 z.r.fl, .slice B7 z.r.tk.length b7, .slice C7 z.r.kp.length c7])) (g11 + 1) 31 #[.int .i64 z.node, .int .u64 z.theirs, .bool z.sure, .int .u64 z.old, .int .u64 z.s.g, .int .u64 z.s.n, .int .u64 z.s.r, .slice A7 z.s.sl.length a7, .int .u64 z.r.g, .int .u64 z.r.r, .int .u64 z.r.fl, .slice B7 z.r.tk.length b7, .slice C7 z.r.kp.length c7] := kq.setAll rfl
        have RZ2 : PrN (Bx g11 (g11 + 1) g16) (v1.setCells (g11 + 1) 0 (Array.toList #[.int .i64 z.node, .int .u64 z.theirs, .bool z.sure, .int .u64 z.old, .int .u64 z.s.g, .int .u64 z.s.n, .int .u64 z.s.r, .slice A7 z.s.sl.length a7, .int .u64 z.r.g, .int .u64 z.r.r, .int .u64 z.r.fl, .slice B7 z.r.tk.length b7, .slice C7 z.r.kp.length c7])) (.agg #[.int .i64 z.node, .int .u64 z.theirs, .bool z.sure, .int .u64 z.old, .int .u64 z.s.g, .int .u64 z.s.n, .int .u64 z.s.r, .slice A7 z.s.sl.length a7, .int .u64 z.r.g, .int .u64 z.r.r, .int .u64 z.r.fl, .slice B7 z.r.tk.length b7, .slice C7 z.r.kp.length c7]) z := RZ.setCells (.inr (.inl rfl)) _ 0
        have RO2 : PrN (Bx g11 (g11 + 1) g16) (v1.setCells (g11 + 1) 0 (Array.toList #[.int .i64 z.node, .int .u64 z.theirs, .bool z.sure, .int .u64 z.old, .int .u64 z.s.g, .int .u64 z.s.n, .int .u64 z.s.r, .slice A7 z.s.sl.length a7, .int .u64 z.r.g, .int .u64 z.r.r, .int .u64 z.r.fl, .slice B7 z.r.tk.length b7, .slice C7 z.r.kp.length c7])) (.agg #[.int .i64 p.node, .int .u64 p.theirs, .bool p.sure, .int .u64 p.old, .int .u64 p.s.g, .int .u64 p.s.n, .int .u64 p.s.r, .slice A5 p.s.sl.length a5, .int .u64 p.r.g, .int .u64 p.r.r, .int .u64 p.r.fl, .slice B5 p.r.tk.length b5, .slice C5 p.r.kp.length c5]) p := Rp.setCells (.inr (.inl rfl)) _ 0
        have KO2 : Blk (v1.setCells (g11 + 1) 0 (Array.toList #[.int .i64 z.node, .int .u64 z.theirs, .bool z.sure, .int .u64 z.old, .int .u64 z.s.g, .int .u64 z.s.n, .int .u64 z.s.r, .slice A7 z.s.sl.length a7, .int .u64 z.r.g, .int .u64 z.r.r, .int .u64 z.r.fl, .slice B7 z.r.tk.length b7, .slice C7 z.r.kp.length c7])) g11 31 #[.int .i64 p.node, .int .u64 p.theirs, .bool p.sure, .int .u64 p.old, .int .u64 p.s.g, .int .u64 p.s.n, .int .u64 p.s.r, .slice A5 p.s.sl.length a5, .int .u64 p.r.g, .int .u64 p.r.r, .int .u64 p.r.fl, .slice B5 p.r.tk.length b5, .slice C5 p.r.kp.length c5] := kp.farAll (by omega) _ 0
        have KF2 : Blk (v1.setCells (g11 + 1) 0 (Array.toList #[.int .i64 z.node, .int .u64 z.theirs, .bool z.sure, .int .u64 z.old, .int .u64 z.s.g, .int .u64 z.s.n, .int .u64 z.s.r, .slice A7 z.s.sl.length a7, .int .u64 z.r.g, .int .u64 z.r.r, .int .u64 z.r.fl, .slice B7 z.r.tk.length b7, .slice C7 z.r.kp.length c7])) g16 51 #[.int .i64 f.kind, .int .i64 f.frm, .int .i64 f.to, .int .u64 f.mine, .int .u64 f.yours, .int .u64 f.a, .int .u64 f.b, .int .i64 f.inode, .int .u64 f.iseq, .int .i64 f.ioff, .int .i64 f.bn.node, .int .u64 f.bn.seq, .int .i64 f.bn.off, .int .i64 f.bn.dest, .int .i64 f.bn.prio, .int .i64 f.bn.born, .int .i64 f.bn.life, .int .i64 f.bn.total, .string f.bn.data] := kf.farAll (by omega) _ 0
        have HB2 : Below w.heap.size w (v1.setCells (g11 + 1) 0 (Array.toList #[.int .i64 z.node, .int .u64 z.theirs, .bool z.sure, .int .u64 z.old, .int .u64 z.s.g, .int .u64 z.s.n, .int .u64 z.s.r, .slice A7 z.s.sl.length a7, .int .u64 z.r.g, .int .u64 z.r.r, .int .u64 z.r.fl, .slice B7 z.r.tk.length b7, .slice C7 z.r.kp.length c7])) := below_setCells (by omega) _ 0 hB
        have kz' := Lib.hid kz
        have RZ2' := Lib.hid RZ2
        have RO2' := Lib.hid RO2
        have KO2' := Lib.hid KO2
        have KF2' := Lib.hid KF2
        have HB2' := Lib.hid HB2
        clear kz RZ2 RO2 KO2 KF2 HB2
        have hl0 := kp.lt; have hl1 := kq.lt; have hl2 := kf.lt
        go_wp2_with ((refine wpList_store_gen (by rfl) 31 _ _ (by rfl) (g11 + 1) 0 #[.int .i64 z.node, .int .u64 z.theirs, .bool z.sure, .int .u64 z.old, .int .u64 z.s.g, .int .u64 z.s.n, .int .u64 z.s.r, .slice A7 z.s.sl.length a7, .int .u64 z.r.g, .int .u64 z.r.r, .int .u64 z.r.fl, .slice B7 z.r.tk.length b7, .slice C7 z.r.kp.length c7] (by rfl) (by rfl) (by exact Blk.there kq 0 _ (Nat.le_refl 13)) (by kernel_rfl) (by kernel_rfl) ?_); intro W hW)
        go_roundw
        case rel =>
          have kz := kz'.out
          have RZ2 := RZ2'.out
          have RO2 := RO2'.out
          have KO2 := KO2'.out
          have KF2 := KF2'.out
          have HB2 := HB2'.out
          rw [← hW.out] at kz RZ2 RO2 KO2 KF2 HB2
          exact ⟨1, false, p, z, f, A5, a5, B5, b5, C5, c5, A7, a7, B7, b7, C7, c7, rfl, rfl, by go_num, HI.out, KO2, RO2, kz, RZ2, KF2, HB2⟩
        case measure => simp [intOf]
      | true =>
        have HI := Lib.hid (e8 rfl)
        clear e7 e8
        have hl0 := kp.lt; have hl1 := kq.lt; have hl2 := kf.lt
        go_wp2_with (first | (refine wpList_ldrow (by rfl) 31 _ (by rfl) (g11 + 1) (by rfl) 31 #[.int .i64 q.node, .int .u64 q.theirs, .bool q.sure, .int .u64 q.old, .int .u64 q.s.g, .int .u64 q.s.n, .int .u64 q.s.r, .slice A6 q.s.sl.length a6, .int .u64 q.r.g, .int .u64 q.r.r, .int .u64 q.r.fl, .slice B6 q.r.tk.length b6, .slice C6 q.r.kp.length c6] (0, 0) _ kq Try.underlying31 (by rfl) (by kernel_rfl) ?_) | (refine wpList_ldrow (by rfl) 51 _ (by rfl) g16 (by rfl) 51 #[.int .i64 f.kind, .int .i64 f.frm, .int .i64 f.to, .int .u64 f.mine, .int .u64 f.yours, .int .u64 f.a, .int .u64 f.b, .int .i64 f.inode, .int .u64 f.iseq, .int .i64 f.ioff, .int .i64 f.bn.node, .int .u64 f.bn.seq, .int .i64 f.bn.off, .int .i64 f.bn.dest, .int .i64 f.bn.prio, .int .i64 f.bn.born, .int .i64 f.bn.life, .int .i64 f.bn.total, .string f.bn.data] (0, 0) _ kf Try.underlying51 (by rfl) (by kernel_rfl) ?_))
        refine (MC.out _ _ Rq.at).mono ?_
        rintro e v1 ⟨V7, rfl, hV7, hb⟩
        obtain ⟨A7, a7, B7, b7, C7, c7, rfl⟩ := hV7.frm
        replace kp := kp.below hb
        replace kq := kq.below hb
        replace kf := kf.below hb
        replace Rp := Rp.below hb
        replace hB := bnext hB hb
        have RZ : PrN (Bx g11 (g11 + 1) g16) v1 (.agg #[.int .i64 z.node, .int .u64 z.theirs, .bool z.sure, .int .u64 z.old, .int .u64 z.s.g, .int .u64 z.s.n, .int .u64 z.s.r, .slice A7 z.s.sl.length a7, .int .u64 z.r.g, .int .u64 z.r.r, .int .u64 z.r.fl, .slice B7 z.r.tk.length b7, .slice C7 z.r.kp.length c7]) z := PrN.ofB hV7 (fun n h h' => by unfold Bx at h'; omega)
        clear hb hV7 Rq
        clear hl0 hl1 hl2
        have kz : Blk (v1.setCells (g11 + 1) 0 (Array.toList #[.int .i64 z.node, .int .u64 z.theirs, .bool z.sure, .int .u64 z.old, .int .u64 z.s.g, .int .u64 z.s.n, .int .u64 z.s.r, .slice A7 z.s.sl.length a7, .int .u64 z.r.g, .int .u64 z.r.r, .int .u64 z.r.fl, .slice B7 z.r.tk.length b7, .slice C7 z.r.kp.length c7])) (g11 + 1) 31 #[.int .i64 z.node, .int .u64 z.theirs, .bool z.sure, .int .u64 z.old, .int .u64 z.s.g, .int .u64 z.s.n, .int .u64 z.s.r, .slice A7 z.s.sl.length a7, .int .u64 z.r.g, .int .u64 z.r.r, .int .u64 z.r.fl, .slice B7 z.r.tk.length b7, .slice C7 z.r.kp.length c7] := kq.setAll rfl
        have RZ2 : PrN (Bx g11 (g11 + 1) g16) (v1.setCells (g11 + 1) 0 (Array.toList #[.int .i64 z.node, .int .u64 z.theirs, .bool z.sure, .int .u64 z.old, .int .u64 z.s.g, .int .u64 z.s.n, .int .u64 z.s.r, .slice A7 z.s.sl.length a7, .int .u64 z.r.g, .int .u64 z.r.r, .int .u64 z.r.fl, .slice B7 z.r.tk.length b7, .slice C7 z.r.kp.length c7])) (.agg #[.int .i64 z.node, .int .u64 z.theirs, .bool z.sure, .int .u64 z.old, .int .u64 z.s.g, .int .u64 z.s.n, .int .u64 z.s.r, .slice A7 z.s.sl.length a7, .int .u64 z.r.g, .int .u64 z.r.r, .int .u64 z.r.fl, .slice B7 z.r.tk.length b7, .slice C7 z.r.kp.length c7]) z := RZ.setCells (.inr (.inl rfl)) _ 0
        have RO2 : PrN (Bx g11 (g11 + 1) g16) (v1.setCells (g11 + 1) 0 (Array.toList #[.int .i64 z.node, .int .u64 z.theirs, .bool z.sure, .int .u64 z.old, .int .u64 z.s.g, .int .u64 z.s.n, .int .u64 z.s.r, .slice A7 z.s.sl.length a7, .int .u64 z.r.g, .int .u64 z.r.r, .int .u64 z.r.fl, .slice B7 z.r.tk.length b7, .slice C7 z.r.kp.length c7])) (.agg #[.int .i64 p.node, .int .u64 p.theirs, .bool p.sure, .int .u64 p.old, .int .u64 p.s.g, .int .u64 p.s.n, .int .u64 p.s.r, .slice A5 p.s.sl.length a5, .int .u64 p.r.g, .int .u64 p.r.r, .int .u64 p.r.fl, .slice B5 p.r.tk.length b5, .slice C5 p.r.kp.length c5]) p := Rp.setCells (.inr (.inl rfl)) _ 0
        have KO2 : Blk (v1.setCells (g11 + 1) 0 (Array.toList #[.int .i64 z.node, .int .u64 z.theirs, .bool z.sure, .int .u64 z.old, .int .u64 z.s.g, .int .u64 z.s.n, .int .u64 z.s.r, .slice A7 z.s.sl.length a7, .int .u64 z.r.g, .int .u64 z.r.r, .int .u64 z.r.fl, .slice B7 z.r.tk.length b7, .slice C7 z.r.kp.length c7])) g11 31 #[.int .i64 p.node, .int .u64 p.theirs, .bool p.sure, .int .u64 p.old, .int .u64 p.s.g, .int .u64 p.s.n, .int .u64 p.s.r, .slice A5 p.s.sl.length a5, .int .u64 p.r.g, .int .u64 p.r.r, .int .u64 p.r.fl, .slice B5 p.r.tk.length b5, .slice C5 p.r.kp.length c5] := kp.farAll (by omega) _ 0
        have KF2 : Blk (v1.setCells (g11 + 1) 0 (Array.toList #[.int .i64 z.node, .int .u64 z.theirs, .bool z.sure, .int .u64 z.old, .int .u64 z.s.g, .int .u64 z.s.n, .int .u64 z.s.r, .slice A7 z.s.sl.length a7, .int .u64 z.r.g, .int .u64 z.r.r, .int .u64 z.r.fl, .slice B7 z.r.tk.length b7, .slice C7 z.r.kp.length c7])) g16 51 #[.int .i64 f.kind, .int .i64 f.frm, .int .i64 f.to, .int .u64 f.mine, .int .u64 f.yours, .int .u64 f.a, .int .u64 f.b, .int .i64 f.inode, .int .u64 f.iseq, .int .i64 f.ioff, .int .i64 f.bn.node, .int .u64 f.bn.seq, .int .i64 f.bn.off, .int .i64 f.bn.dest, .int .i64 f.bn.prio, .int .i64 f.bn.born, .int .i64 f.bn.life, .int .i64 f.bn.total, .string f.bn.data] := kf.farAll (by omega) _ 0
        have HB2 : Below w.heap.size w (v1.setCells (g11 + 1) 0 (Array.toList #[.int .i64 z.node, .int .u64 z.theirs, .bool z.sure, .int .u64 z.old, .int .u64 z.s.g, .int .u64 z.s.n, .int .u64 z.s.r, .slice A7 z.s.sl.length a7, .int .u64 z.r.g, .int .u64 z.r.r, .int .u64 z.r.fl, .slice B7 z.r.tk.length b7, .slice C7 z.r.kp.length c7])) := below_setCells (by omega) _ 0 hB
        have kz' := Lib.hid kz
        have RZ2' := Lib.hid RZ2
        have RO2' := Lib.hid RO2
        have KO2' := Lib.hid KO2
        have KF2' := Lib.hid KF2
        have HB2' := Lib.hid HB2
        clear kz RZ2 RO2 KO2 KF2 HB2
        have hl0 := kp.lt; have hl1 := kq.lt; have hl2 := kf.lt
        go_upto_region 17 with (go_big_may; ((refine wpList_store_gen (by rfl) 31 _ _ (by rfl) (g11 + 1) 0 #[.int .i64 z.node, .int .u64 z.theirs, .bool z.sure, .int .u64 z.old, .int .u64 z.s.g, .int .u64 z.s.n, .int .u64 z.s.r, .slice A7 z.s.sl.length a7, .int .u64 z.r.g, .int .u64 z.r.r, .int .u64 z.r.fl, .slice B7 z.r.tk.length b7, .slice C7 z.r.kp.length c7] (by rfl) (by rfl) (by exact Blk.there kq 0 _ (Nat.le_refl 13)) (by kernel_rfl) (by kernel_rfl) ?_); intro W hW))
        have kz := kz'.out
        have RZ2 := RZ2'.out
        have RO2 := RO2'.out
        have KO2 := KO2'.out
        have KF2 := KF2'.out
        have HB2 := HB2'.out
        rw [← hW.out] at kz RZ2 RO2 KO2 KF2 HB2
        clear hW RZ Rp kp kq kf hB kz' RZ2' RO2' KO2' KF2' HB2'
        clear hl0 hl1 hl2
        have hl0 := kz.lt; have hl1 := KO2.lt; have hl2 := KF2.lt
        go_wp2_with (refine wpList_ldrow (by rfl) 31 _ (by rfl) (g11 + 1) (by rfl) 31 #[.int .i64 z.node, .int .u64 z.theirs, .bool z.sure, .int .u64 z.old, .int .u64 z.s.g, .int .u64 z.s.n, .int .u64 z.s.r, .slice A7 z.s.sl.length a7, .int .u64 z.r.g, .int .u64 z.r.r, .int .u64 z.r.fl, .slice B7 z.r.tk.length b7, .slice C7 z.r.kp.length c7] (0, 0) _ kz Try.underlying31 (by rfl) (by kernel_rfl) ?_)
        clear hl0 hl1 hl2
        refine (HC.out _ _ RZ2.at).mono ?_
        rintro e v2 ⟨rfl, hb⟩
        replace kz := kz.below hb
        replace RZ2 := RZ2.below hb
        replace RO2 := RO2.below hb
        replace KO2 := KO2.below hb
        replace KF2 := KF2.below hb
        replace HB2 := bnext HB2 hb
        clear hb
        have kz3 : Hid (Blk (v2.setCells g16 0 (Array.toList #[.int .i64 f'.kind, .int .i64 f'.frm, .int .i64 f'.to, .int .u64 f'.mine, .int .u64 f'.yours, .int .u64 f'.a, .int .u64 f'.b, .int .i64 f'.inode, .int .u64 f'.iseq, .int .i64 f'.ioff, .int .i64 f'.bn.node, .int .u64 f'.bn.seq, .int .i64 f'.bn.off, .int .i64 f'.bn.dest, .int .i64 f'.bn.prio, .int .i64 f'.bn.born, .int .i64 f'.bn.life, .int .i64 f'.bn.total, .string f'.bn.data])) (g11 + 1) 31 #[.int .i64 z.node, .int .u64 z.theirs, .bool z.sure, .int .u64 z.old, .int .u64 z.s.g, .int .u64 z.s.n, .int .u64 z.s.r, .slice A7 z.s.sl.length a7, .int .u64 z.r.g, .int .u64 z.r.r, .int .u64 z.r.fl, .slice B7 z.r.tk.length b7, .slice C7 z.r.kp.length c7]) := Lib.hid (kz.farAll (by omega) _ 0)
        have RZ3 : Hid (PrN (Bx g11 (g11 + 1) g16) (v2.setCells g16 0 (Array.toList #[.int .i64 f'.kind, .int .i64 f'.frm, .int .i64 f'.to, .int .u64 f'.mine, .int .u64 f'.yours, .int .u64 f'.a, .int .u64 f'.b, .int .i64 f'.inode, .int .u64 f'.iseq, .int .i64 f'.ioff, .int .i64 f'.bn.node, .int .u64 f'.bn.seq, .int .i64 f'.bn.off, .int .i64 f'.bn.dest, .int .i64 f'.bn.prio, .int .i64 f'.bn.born, .int .i64 f'.bn.life, .int .i64 f'.bn.total, .string f'.bn.data])) (.agg #[.int .i64 z.node, .int .u64 z.theirs, .bool z.sure, .int .u64 z.old, .int .u64 z.s.g, .int .u64 z.s.n, .int .u64 z.s.r, .slice A7 z.s.sl.length a7, .int .u64 z.r.g, .int .u64 z.r.r, .int .u64 z.r.fl, .slice B7 z.r.tk.length b7, .slice C7 z.r.kp.length c7]) z) := Lib.hid (RZ2.setCells (.inr (.inr rfl)) _ 0)
        have RO3 : Hid (PrN (Bx g11 (g11 + 1) g16) (v2.setCells g16 0 (Array.toList #[.int .i64 f'.kind, .int .i64 f'.frm, .int .i64 f'.to, .int .u64 f'.mine, .int .u64 f'.yours, .int .u64 f'.a, .int .u64 f'.b, .int .i64 f'.inode, .int .u64 f'.iseq, .int .i64 f'.ioff, .int .i64 f'.bn.node, .int .u64 f'.bn.seq, .int .i64 f'.bn.off, .int .i64 f'.bn.dest, .int .i64 f'.bn.prio, .int .i64 f'.bn.born, .int .i64 f'.bn.life, .int .i64 f'.bn.total, .string f'.bn.data])) (.agg #[.int .i64 p.node, .int .u64 p.theirs, .bool p.sure, .int .u64 p.old, .int .u64 p.s.g, .int .u64 p.s.n, .int .u64 p.s.r, .slice A5 p.s.sl.length a5, .int .u64 p.r.g, .int .u64 p.r.r, .int .u64 p.r.fl, .slice B5 p.r.tk.length b5, .slice C5 p.r.kp.length c5]) p) := Lib.hid (RO2.setCells (.inr (.inr rfl)) _ 0)
        have KO3 : Hid (Blk (v2.setCells g16 0 (Array.toList #[.int .i64 f'.kind, .int .i64 f'.frm, .int .i64 f'.to, .int .u64 f'.mine, .int .u64 f'.yours, .int .u64 f'.a, .int .u64 f'.b, .int .i64 f'.inode, .int .u64 f'.iseq, .int .i64 f'.ioff, .int .i64 f'.bn.node, .int .u64 f'.bn.seq, .int .i64 f'.bn.off, .int .i64 f'.bn.dest, .int .i64 f'.bn.prio, .int .i64 f'.bn.born, .int .i64 f'.bn.life, .int .i64 f'.bn.total, .string f'.bn.data])) g11 31 #[.int .i64 p.node, .int .u64 p.theirs, .bool p.sure, .int .u64 p.old, .int .u64 p.s.g, .int .u64 p.s.n, .int .u64 p.s.r, .slice A5 p.s.sl.length a5, .int .u64 p.r.g, .int .u64 p.r.r, .int .u64 p.r.fl, .slice B5 p.r.tk.length b5, .slice C5 p.r.kp.length c5]) := Lib.hid (KO2.farAll (by omega) _ 0)
        have KF3 : Hid (Blk (v2.setCells g16 0 (Array.toList #[.int .i64 f'.kind, .int .i64 f'.frm, .int .i64 f'.to, .int .u64 f'.mine, .int .u64 f'.yours, .int .u64 f'.a, .int .u64 f'.b, .int .i64 f'.inode, .int .u64 f'.iseq, .int .i64 f'.ioff, .int .i64 f'.bn.node, .int .u64 f'.bn.seq, .int .i64 f'.bn.off, .int .i64 f'.bn.dest, .int .i64 f'.bn.prio, .int .i64 f'.bn.born, .int .i64 f'.bn.life, .int .i64 f'.bn.total, .string f'.bn.data])) g16 51 #[.int .i64 f'.kind, .int .i64 f'.frm, .int .i64 f'.to, .int .u64 f'.mine, .int .u64 f'.yours, .int .u64 f'.a, .int .u64 f'.b, .int .i64 f'.inode, .int .u64 f'.iseq, .int .i64 f'.ioff, .int .i64 f'.bn.node, .int .u64 f'.bn.seq, .int .i64 f'.bn.off, .int .i64 f'.bn.dest, .int .i64 f'.bn.prio, .int .i64 f'.bn.born, .int .i64 f'.bn.life, .int .i64 f'.bn.total, .string f'.bn.data]) := Lib.hid (KF2.setAll rfl)
        have HB3 : Hid (Below w.heap.size w (v2.setCells g16 0 (Array.toList #[.int .i64 f'.kind, .int .i64 f'.frm, .int .i64 f'.to, .int .u64 f'.mine, .int .u64 f'.yours, .int .u64 f'.a, .int .u64 f'.b, .int .i64 f'.inode, .int .u64 f'.iseq, .int .i64 f'.ioff, .int .i64 f'.bn.node, .int .u64 f'.bn.seq, .int .i64 f'.bn.off, .int .i64 f'.bn.dest, .int .i64 f'.bn.prio, .int .i64 f'.bn.born, .int .i64 f'.bn.life, .int .i64 f'.bn.total, .string f'.bn.data]))) := Lib.hid (below_setCells (by omega) _ 0 HB2)
        have hl0 := kz.lt; have hl1 := KO2.lt; have hl2 := KF2.lt
        dsimp only [Fr.val]
        go_wp2_with ((refine wpList_store_gen (by rfl) 51 _ _ (by rfl) g16 0 #[.int .i64 f'.kind, .int .i64 f'.frm, .int .i64 f'.to, .int .u64 f'.mine, .int .u64 f'.yours, .int .u64 f'.a, .int .u64 f'.b, .int .i64 f'.inode, .int .u64 f'.iseq, .int .i64 f'.ioff, .int .i64 f'.bn.node, .int .u64 f'.bn.seq, .int .i64 f'.bn.off, .int .i64 f'.bn.dest, .int .i64 f'.bn.prio, .int .i64 f'.bn.born, .int .i64 f'.bn.life, .int .i64 f'.bn.total, .string f'.bn.data] (by rfl) (by rfl) (by exact Blk.there KF2 0 _ (Nat.le_refl 19)) (by kernel_rfl) (fr_one _) ?_); intro W2 hW2)
        go_roundw
        case rel =>
          have kz4 := kz3.out
          have RZ4 := RZ3.out
          have RO4 := RO3.out
          have KO4 := KO3.out
          have KF4 := KF3.out
          have HB4 := HB3.out
          rw [← hW2.out] at kz4 RZ4 RO4 KO4 KF4 HB4
          exact ⟨1, true, p, z, f', A5, a5, B5, b5, C5, c5, A7, a7, B7, b7, C7, c7, rfl, rfl, by go_num, HI.out, KO4, RO4, kz4, RZ4, KF4, HB4⟩
        case measure => simp [intOf]
    · skip
      obtain ⟨e1, e2, z, vd, ow, f', e3, e4, e5, e6, e7, e8⟩ := mt_odd hu'.out ht'.out hI
      have MC : Hid (∀ V w', PrAt w' V p → Calls Try.prog 18 #[V, .int .u64 u, .agg #[.int .i64 f.kind, .int .i64 f.frm, .int .i64 f.to, .int .u64 f.mine, .int .u64 f.yours, .int .u64 f.a, .int .u64 f.b, .int .i64 f.inode, .int .u64 f.iseq, .int .i64 f.ioff, .int .i64 f.bn.node, .int .u64 f.bn.seq, .int .i64 f.bn.off, .int .i64 f.bn.dest, .int .i64 f.bn.prio, .int .i64 f.bn.born, .int .i64 f.bn.life, .int .i64 f.bn.total, .string f.bn.data]] w' (RetMet (z, vd, ow) 0 w')) := Lib.hid (fun V w' h => by
        have := Meet_any p hI.hp.wf u f e2 V w' h
        rwa [e3, e1] at this)
      have HC : Hid (∀ V w', PrAt w' V z → Calls Try.prog 25 #[V, .int .i64 1, .int .u64 u] w' (RetFE f' 0 w')) := Lib.hid (fun V w' h => by
        have := Hello_any z e4 1 u V w' h
        rwa [e6, e5] at this)
      clear e1 e2 e3 e4 e5 e6 hI
      cases ow with
      | false =>
        have HI := Lib.hid (e7 rfl)
        clear e7 e8 HC
        have hl0 := kp.lt; have hl1 := kq.lt; have hl2 := kf.lt
        go_wp2_with (first | (refine wpList_ldrow (by rfl) 31 _ (by rfl) g11 (by rfl) 31 #[.int .i64 p.node, .int .u64 p.theirs, .bool p.sure, .int .u64 p.old, .int .u64 p.s.g, .int .u64 p.s.n, .int .u64 p.s.r, .slice A5 p.s.sl.length a5, .int .u64 p.r.g, .int .u64 p.r.r, .int .u64 p.r.fl, .slice B5 p.r.tk.length b5, .slice C5 p.r.kp.length c5] (0, 0) _ kp Try.underlying31 (by rfl) (by kernel_rfl) ?_) | (refine wpList_ldrow (by rfl) 51 _ (by rfl) g16 (by rfl) 51 #[.int .i64 f.kind, .int .i64 f.frm, .int .i64 f.to, .int .u64 f.mine, .int .u64 f.yours, .int .u64 f.a, .int .u64 f.b, .int .i64 f.inode, .int .u64 f.iseq, .int .i64 f.ioff, .int .i64 f.bn.node, .int .u64 f.bn.seq, .int .i64 f.bn.off, .int .i64 f.bn.dest, .int .i64 f.bn.prio, .int .i64 f.bn.born, .int .i64 f.bn.life, .int .i64 f.bn.total, .string f.bn.data] (0, 0) _ kf Try.underlying51 (by rfl) (by kernel_rfl) ?_))
        refine (MC.out _ _ Rp.at).mono ?_
        rintro e v1 ⟨V7, rfl, hV7, hb⟩
        obtain ⟨A7, a7, B7, b7, C7, c7, rfl⟩ := hV7.frm
        replace kp := kp.below hb
        replace kq := kq.below hb
        replace kf := kf.below hb
        replace Rq := Rq.below hb
        replace hB := bnext hB hb
        have RZ : PrN (Bx g11 (g11 + 1) g16) v1 (.agg #[.int .i64 z.node, .int .u64 z.theirs, .bool z.sure, .int .u64 z.old, .int .u64 z.s.g, .int .u64 z.s.n, .int .u64 z.s.r, .slice A7 z.s.sl.length a7, .int .u64 z.r.g, .int .u64 z.r.r, .int .u64 z.r.fl, .slice B7 z.r.tk.length b7, .slice C7 z.r.kp.length c7]) z := PrN.ofB hV7 (fun n h h' => by unfold Bx at h'; omega)
        clear hb hV7 Rp
        clear hl0 hl1 hl2
        have kz : Blk (v1.setCells g11 0 (Array.toList #[.int .i64 z.node, .int .u64 z.theirs, .bool z.sure, .int .u64 z.old, .int .u64 z.s.g, .int .u64 z.s.n, .int .u64 z.s.r, .slice A7 z.s.sl.length a7, .int .u64 z.r.g, .int .u64 z.r.r, .int .u64 z.r.fl, .slice B7 z.r.tk.length b7, .slice C7 z.r.kp.length c7])) g11 31 #[.int .i64 z.node, .int .u64 z.theirs, .bool z.sure, .int .u64 z.old, .int .u64 z.s.g, .int .u64 z.s.n, .int .u64 z.s.r, .slice A7 z.s.sl.length a7, .int .u64 z.r.g, .int .u64 z.r.r, .int .u64 z.r.fl, .slice B7 z.r.tk.length b7, .slice C7 z.r.kp.length c7] := kp.setAll rfl
        have RZ2 : PrN (Bx g11 (g11 + 1) g16) (v1.setCells g11 0 (Array.toList #[.int .i64 z.node, .int .u64 z.theirs, .bool z.sure, .int .u64 z.old, .int .u64 z.s.g, .int .u64 z.s.n, .int .u64 z.s.r, .slice A7 z.s.sl.length a7, .int .u64 z.r.g, .int .u64 z.r.r, .int .u64 z.r.fl, .slice B7 z.r.tk.length b7, .slice C7 z.r.kp.length c7])) (.agg #[.int .i64 z.node, .int .u64 z.theirs, .bool z.sure, .int .u64 z.old, .int .u64 z.s.g, .int .u64 z.s.n, .int .u64 z.s.r, .slice A7 z.s.sl.length a7, .int .u64 z.r.g, .int .u64 z.r.r, .int .u64 z.r.fl, .slice B7 z.r.tk.length b7, .slice C7 z.r.kp.length c7]) z := RZ.setCells (.inl rfl) _ 0
        have RO2 : PrN (Bx g11 (g11 + 1) g16) (v1.setCells g11 0 (Array.toList #[.int .i64 z.node, .int .u64 z.theirs, .bool z.sure, .int .u64 z.old, .int .u64 z.s.g, .int .u64 z.s.n, .int .u64 z.s.r, .slice A7 z.s.sl.length a7, .int .u64 z.r.g, .int .u64 z.r.r, .int .u64 z.r.fl, .slice B7 z.r.tk.length b7, .slice C7 z.r.kp.length c7])) (.agg #[.int .i64 q.node, .int .u64 q.theirs, .bool q.sure, .int .u64 q.old, .int .u64 q.s.g, .int .u64 q.s.n, .int .u64 q.s.r, .slice A6 q.s.sl.length a6, .int .u64 q.r.g, .int .u64 q.r.r, .int .u64 q.r.fl, .slice B6 q.r.tk.length b6, .slice C6 q.r.kp.length c6]) q := Rq.setCells (.inl rfl) _ 0
        have KO2 : Blk (v1.setCells g11 0 (Array.toList #[.int .i64 z.node, .int .u64 z.theirs, .bool z.sure, .int .u64 z.old, .int .u64 z.s.g, .int .u64 z.s.n, .int .u64 z.s.r, .slice A7 z.s.sl.length a7, .int .u64 z.r.g, .int .u64 z.r.r, .int .u64 z.r.fl, .slice B7 z.r.tk.length b7, .slice C7 z.r.kp.length c7])) (g11 + 1) 31 #[.int .i64 q.node, .int .u64 q.theirs, .bool q.sure, .int .u64 q.old, .int .u64 q.s.g, .int .u64 q.s.n, .int .u64 q.s.r, .slice A6 q.s.sl.length a6, .int .u64 q.r.g, .int .u64 q.r.r, .int .u64 q.r.fl, .slice B6 q.r.tk.length b6, .slice C6 q.r.kp.length c6] := kq.farAll (by omega) _ 0
        have KF2 : Blk (v1.setCells g11 0 (Array.toList #[.int .i64 z.node, .int .u64 z.theirs, .bool z.sure, .int .u64 z.old, .int .u64 z.s.g, .int .u64 z.s.n, .int .u64 z.s.r, .slice A7 z.s.sl.length a7, .int .u64 z.r.g, .int .u64 z.r.r, .int .u64 z.r.fl, .slice B7 z.r.tk.length b7, .slice C7 z.r.kp.length c7])) g16 51 #[.int .i64 f.kind, .int .i64 f.frm, .int .i64 f.to, .int .u64 f.mine, .int .u64 f.yours, .int .u64 f.a, .int .u64 f.b, .int .i64 f.inode, .int .u64 f.iseq, .int .i64 f.ioff, .int .i64 f.bn.node, .int .u64 f.bn.seq, .int .i64 f.bn.off, .int .i64 f.bn.dest, .int .i64 f.bn.prio, .int .i64 f.bn.born, .int .i64 f.bn.life, .int .i64 f.bn.total, .string f.bn.data] := kf.farAll (by omega) _ 0
        have HB2 : Below w.heap.size w (v1.setCells g11 0 (Array.toList #[.int .i64 z.node, .int .u64 z.theirs, .bool z.sure, .int .u64 z.old, .int .u64 z.s.g, .int .u64 z.s.n, .int .u64 z.s.r, .slice A7 z.s.sl.length a7, .int .u64 z.r.g, .int .u64 z.r.r, .int .u64 z.r.fl, .slice B7 z.r.tk.length b7, .slice C7 z.r.kp.length c7])) := below_setCells (by omega) _ 0 hB
        have kz' := Lib.hid kz
        have RZ2' := Lib.hid RZ2
        have RO2' := Lib.hid RO2
        have KO2' := Lib.hid KO2
        have KF2' := Lib.hid KF2
        have HB2' := Lib.hid HB2
        clear kz RZ2 RO2 KO2 KF2 HB2
        have hl0 := kp.lt; have hl1 := kq.lt; have hl2 := kf.lt
        go_wp2_with ((refine wpList_store_gen (by rfl) 31 _ _ (by rfl) g11 0 #[.int .i64 z.node, .int .u64 z.theirs, .bool z.sure, .int .u64 z.old, .int .u64 z.s.g, .int .u64 z.s.n, .int .u64 z.s.r, .slice A7 z.s.sl.length a7, .int .u64 z.r.g, .int .u64 z.r.r, .int .u64 z.r.fl, .slice B7 z.r.tk.length b7, .slice C7 z.r.kp.length c7] (by rfl) (by rfl) (by exact Blk.there kp 0 _ (Nat.le_refl 13)) (by kernel_rfl) (by kernel_rfl) ?_); intro W hW)
        go_roundw
        case rel =>
          have kz := kz'.out
          have RZ2 := RZ2'.out
          have RO2 := RO2'.out
          have KO2 := KO2'.out
          have KF2 := KF2'.out
          have HB2 := HB2'.out
          rw [← hW.out] at kz RZ2 RO2 KO2 KF2 HB2
          exact ⟨2, false, z, q, f, A7, a7, B7, b7, C7, c7, A6, a6, B6, b6, C6, c6, rfl, rfl, by go_num, HI.out, kz, RZ2, KO2, RO2, KF2, HB2⟩
        case measure => simp [intOf]
      | true =>
        have HI := Lib.hid (e8 rfl)
        clear e7 e8
        have hl0 := kp.lt; have hl1 := kq.lt; have hl2 := kf.lt
        go_wp2_with (first | (refine wpList_ldrow (by rfl) 31 _ (by rfl) g11 (by rfl) 31 #[.int .i64 p.node, .int .u64 p.theirs, .bool p.sure, .int .u64 p.old, .int .u64 p.s.g, .int .u64 p.s.n, .int .u64 p.s.r, .slice A5 p.s.sl.length a5, .int .u64 p.r.g, .int .u64 p.r.r, .int .u64 p.r.fl, .slice B5 p.r.tk.length b5, .slice C5 p.r.kp.length c5] (0, 0) _ kp Try.underlying31 (by rfl) (by kernel_rfl) ?_) | (refine wpList_ldrow (by rfl) 51 _ (by rfl) g16 (by rfl) 51 #[.int .i64 f.kind, .int .i64 f.frm, .int .i64 f.to, .int .u64 f.mine, .int .u64 f.yours, .int .u64 f.a, .int .u64 f.b, .int .i64 f.inode, .int .u64 f.iseq, .int .i64 f.ioff, .int .i64 f.bn.node, .int .u64 f.bn.seq, .int .i64 f.bn.off, .int .i64 f.bn.dest, .int .i64 f.bn.prio, .int .i64 f.bn.born, .int .i64 f.bn.life, .int .i64 f.bn.total, .string f.bn.data] (0, 0) _ kf Try.underlying51 (by rfl) (by kernel_rfl) ?_))
        refine (MC.out _ _ Rp.at).mono ?_
        rintro e v1 ⟨V7, rfl, hV7, hb⟩
        obtain ⟨A7, a7, B7, b7, C7, c7, rfl⟩ := hV7.frm
        replace kp := kp.below hb
        replace kq := kq.below hb
        replace kf := kf.below hb
        replace Rq := Rq.below hb
        replace hB := bnext hB hb
        have RZ : PrN (Bx g11 (g11 + 1) g16) v1 (.agg #[.int .i64 z.node, .int .u64 z.theirs, .bool z.sure, .int .u64 z.old, .int .u64 z.s.g, .int .u64 z.s.n, .int .u64 z.s.r, .slice A7 z.s.sl.length a7, .int .u64 z.r.g, .int .u64 z.r.r, .int .u64 z.r.fl, .slice B7 z.r.tk.length b7, .slice C7 z.r.kp.length c7]) z := PrN.ofB hV7 (fun n h h' => by unfold Bx at h'; omega)
        clear hb hV7 Rp
        clear hl0 hl1 hl2
        have kz : Blk (v1.setCells g11 0 (Array.toList #[.int .i64 z.node, .int .u64 z.theirs, .bool z.sure, .int .u64 z.old, .int .u64 z.s.g, .int .u64 z.s.n, .int .u64 z.s.r, .slice A7 z.s.sl.length a7, .int .u64 z.r.g, .int .u64 z.r.r, .int .u64 z.r.fl, .slice B7 z.r.tk.length b7, .slice C7 z.r.kp.length c7])) g11 31 #[.int .i64 z.node, .int .u64 z.theirs, .bool z.sure, .int .u64 z.old, .int .u64 z.s.g, .int .u64 z.s.n, .int .u64 z.s.r, .slice A7 z.s.sl.length a7, .int .u64 z.r.g, .int .u64 z.r.r, .int .u64 z.r.fl, .slice B7 z.r.tk.length b7, .slice C7 z.r.kp.length c7] := kp.setAll rfl
        have RZ2 : PrN (Bx g11 (g11 + 1) g16) (v1.setCells g11 0 (Array.toList #[.int .i64 z.node, .int .u64 z.theirs, .bool z.sure, .int .u64 z.old, .int .u64 z.s.g, .int .u64 z.s.n, .int .u64 z.s.r, .slice A7 z.s.sl.length a7, .int .u64 z.r.g, .int .u64 z.r.r, .int .u64 z.r.fl, .slice B7 z.r.tk.length b7, .slice C7 z.r.kp.length c7])) (.agg #[.int .i64 z.node, .int .u64 z.theirs, .bool z.sure, .int .u64 z.old, .int .u64 z.s.g, .int .u64 z.s.n, .int .u64 z.s.r, .slice A7 z.s.sl.length a7, .int .u64 z.r.g, .int .u64 z.r.r, .int .u64 z.r.fl, .slice B7 z.r.tk.length b7, .slice C7 z.r.kp.length c7]) z := RZ.setCells (.inl rfl) _ 0
        have RO2 : PrN (Bx g11 (g11 + 1) g16) (v1.setCells g11 0 (Array.toList #[.int .i64 z.node, .int .u64 z.theirs, .bool z.sure, .int .u64 z.old, .int .u64 z.s.g, .int .u64 z.s.n, .int .u64 z.s.r, .slice A7 z.s.sl.length a7, .int .u64 z.r.g, .int .u64 z.r.r, .int .u64 z.r.fl, .slice B7 z.r.tk.length b7, .slice C7 z.r.kp.length c7])) (.agg #[.int .i64 q.node, .int .u64 q.theirs, .bool q.sure, .int .u64 q.old, .int .u64 q.s.g, .int .u64 q.s.n, .int .u64 q.s.r, .slice A6 q.s.sl.length a6, .int .u64 q.r.g, .int .u64 q.r.r, .int .u64 q.r.fl, .slice B6 q.r.tk.length b6, .slice C6 q.r.kp.length c6]) q := Rq.setCells (.inl rfl) _ 0
        have KO2 : Blk (v1.setCells g11 0 (Array.toList #[.int .i64 z.node, .int .u64 z.theirs, .bool z.sure, .int .u64 z.old, .int .u64 z.s.g, .int .u64 z.s.n, .int .u64 z.s.r, .slice A7 z.s.sl.length a7, .int .u64 z.r.g, .int .u64 z.r.r, .int .u64 z.r.fl, .slice B7 z.r.tk.length b7, .slice C7 z.r.kp.length c7])) (g11 + 1) 31 #[.int .i64 q.node, .int .u64 q.theirs, .bool q.sure, .int .u64 q.old, .int .u64 q.s.g, .int .u64 q.s.n, .int .u64 q.s.r, .slice A6 q.s.sl.length a6, .int .u64 q.r.g, .int .u64 q.r.r, .int .u64 q.r.fl, .slice B6 q.r.tk.length b6, .slice C6 q.r.kp.length c6] := kq.farAll (by omega) _ 0
        have KF2 : Blk (v1.setCells g11 0 (Array.toList #[.int .i64 z.node, .int .u64 z.theirs, .bool z.sure, .int .u64 z.old, .int .u64 z.s.g, .int .u64 z.s.n, .int .u64 z.s.r, .slice A7 z.s.sl.length a7, .int .u64 z.r.g, .int .u64 z.r.r, .int .u64 z.r.fl, .slice B7 z.r.tk.length b7, .slice C7 z.r.kp.length c7])) g16 51 #[.int .i64 f.kind, .int .i64 f.frm, .int .i64 f.to, .int .u64 f.mine, .int .u64 f.yours, .int .u64 f.a, .int .u64 f.b, .int .i64 f.inode, .int .u64 f.iseq, .int .i64 f.ioff, .int .i64 f.bn.node, .int .u64 f.bn.seq, .int .i64 f.bn.off, .int .i64 f.bn.dest, .int .i64 f.bn.prio, .int .i64 f.bn.born, .int .i64 f.bn.life, .int .i64 f.bn.total, .string f.bn.data] := kf.farAll (by omega) _ 0
        have HB2 : Below w.heap.size w (v1.setCells g11 0 (Array.toList #[.int .i64 z.node, .int .u64 z.theirs, .bool z.sure, .int .u64 z.old, .int .u64 z.s.g, .int .u64 z.s.n, .int .u64 z.s.r, .slice A7 z.s.sl.length a7, .int .u64 z.r.g, .int .u64 z.r.r, .int .u64 z.r.fl, .slice B7 z.r.tk.length b7, .slice C7 z.r.kp.length c7])) := below_setCells (by omega) _ 0 hB
        have kz' := Lib.hid kz
        have RZ2' := Lib.hid RZ2
        have RO2' := Lib.hid RO2
        have KO2' := Lib.hid KO2
        have KF2' := Lib.hid KF2
        have HB2' := Lib.hid HB2
        clear kz RZ2 RO2 KO2 KF2 HB2
        have hl0 := kp.lt; have hl1 := kq.lt; have hl2 := kf.lt
        go_upto_region 20 with (go_big_may; ((refine wpList_store_gen (by rfl) 31 _ _ (by rfl) g11 0 #[.int .i64 z.node, .int .u64 z.theirs, .bool z.sure, .int .u64 z.old, .int .u64 z.s.g, .int .u64 z.s.n, .int .u64 z.s.r, .slice A7 z.s.sl.length a7, .int .u64 z.r.g, .int .u64 z.r.r, .int .u64 z.r.fl, .slice B7 z.r.tk.length b7, .slice C7 z.r.kp.length c7] (by rfl) (by rfl) (by exact Blk.there kp 0 _ (Nat.le_refl 13)) (by kernel_rfl) (by kernel_rfl) ?_); intro W hW))
        have kz := kz'.out
        have RZ2 := RZ2'.out
        have RO2 := RO2'.out
        have KO2 := KO2'.out
        have KF2 := KF2'.out
        have HB2 := HB2'.out
        rw [← hW.out] at kz RZ2 RO2 KO2 KF2 HB2
        clear hW RZ Rq kp kq kf hB kz' RZ2' RO2' KO2' KF2' HB2'
        clear hl0 hl1 hl2
        have hl0 := kz.lt; have hl1 := KO2.lt; have hl2 := KF2.lt
        go_wp2_with (refine wpList_ldrow (by rfl) 31 _ (by rfl) g11 (by rfl) 31 #[.int .i64 z.node, .int .u64 z.theirs, .bool z.sure, .int .u64 z.old, .int .u64 z.s.g, .int .u64 z.s.n, .int .u64 z.s.r, .slice A7 z.s.sl.length a7, .int .u64 z.r.g, .int .u64 z.r.r, .int .u64 z.r.fl, .slice B7 z.r.tk.length b7, .slice C7 z.r.kp.length c7] (0, 0) _ kz Try.underlying31 (by rfl) (by kernel_rfl) ?_)
        clear hl0 hl1 hl2
        refine (HC.out _ _ RZ2.at).mono ?_
        rintro e v2 ⟨rfl, hb⟩
        replace kz := kz.below hb
        replace RZ2 := RZ2.below hb
        replace RO2 := RO2.below hb
        replace KO2 := KO2.below hb
        replace KF2 := KF2.below hb
        replace HB2 := bnext HB2 hb
        clear hb
        have kz3 : Hid (Blk (v2.setCells g16 0 (Array.toList #[.int .i64 f'.kind, .int .i64 f'.frm, .int .i64 f'.to, .int .u64 f'.mine, .int .u64 f'.yours, .int .u64 f'.a, .int .u64 f'.b, .int .i64 f'.inode, .int .u64 f'.iseq, .int .i64 f'.ioff, .int .i64 f'.bn.node, .int .u64 f'.bn.seq, .int .i64 f'.bn.off, .int .i64 f'.bn.dest, .int .i64 f'.bn.prio, .int .i64 f'.bn.born, .int .i64 f'.bn.life, .int .i64 f'.bn.total, .string f'.bn.data])) g11 31 #[.int .i64 z.node, .int .u64 z.theirs, .bool z.sure, .int .u64 z.old, .int .u64 z.s.g, .int .u64 z.s.n, .int .u64 z.s.r, .slice A7 z.s.sl.length a7, .int .u64 z.r.g, .int .u64 z.r.r, .int .u64 z.r.fl, .slice B7 z.r.tk.length b7, .slice C7 z.r.kp.length c7]) := Lib.hid (kz.farAll (by omega) _ 0)
        have RZ3 : Hid (PrN (Bx g11 (g11 + 1) g16) (v2.setCells g16 0 (Array.toList #[.int .i64 f'.kind, .int .i64 f'.frm, .int .i64 f'.to, .int .u64 f'.mine, .int .u64 f'.yours, .int .u64 f'.a, .int .u64 f'.b, .int .i64 f'.inode, .int .u64 f'.iseq, .int .i64 f'.ioff, .int .i64 f'.bn.node, .int .u64 f'.bn.seq, .int .i64 f'.bn.off, .int .i64 f'.bn.dest, .int .i64 f'.bn.prio, .int .i64 f'.bn.born, .int .i64 f'.bn.life, .int .i64 f'.bn.total, .string f'.bn.data])) (.agg #[.int .i64 z.node, .int .u64 z.theirs, .bool z.sure, .int .u64 z.old, .int .u64 z.s.g, .int .u64 z.s.n, .int .u64 z.s.r, .slice A7 z.s.sl.length a7, .int .u64 z.r.g, .int .u64 z.r.r, .int .u64 z.r.fl, .slice B7 z.r.tk.length b7, .slice C7 z.r.kp.length c7]) z) := Lib.hid (RZ2.setCells (.inr (.inr rfl)) _ 0)
        have RO3 : Hid (PrN (Bx g11 (g11 + 1) g16) (v2.setCells g16 0 (Array.toList #[.int .i64 f'.kind, .int .i64 f'.frm, .int .i64 f'.to, .int .u64 f'.mine, .int .u64 f'.yours, .int .u64 f'.a, .int .u64 f'.b, .int .i64 f'.inode, .int .u64 f'.iseq, .int .i64 f'.ioff, .int .i64 f'.bn.node, .int .u64 f'.bn.seq, .int .i64 f'.bn.off, .int .i64 f'.bn.dest, .int .i64 f'.bn.prio, .int .i64 f'.bn.born, .int .i64 f'.bn.life, .int .i64 f'.bn.total, .string f'.bn.data])) (.agg #[.int .i64 q.node, .int .u64 q.theirs, .bool q.sure, .int .u64 q.old, .int .u64 q.s.g, .int .u64 q.s.n, .int .u64 q.s.r, .slice A6 q.s.sl.length a6, .int .u64 q.r.g, .int .u64 q.r.r, .int .u64 q.r.fl, .slice B6 q.r.tk.length b6, .slice C6 q.r.kp.length c6]) q) := Lib.hid (RO2.setCells (.inr (.inr rfl)) _ 0)
        have KO3 : Hid (Blk (v2.setCells g16 0 (Array.toList #[.int .i64 f'.kind, .int .i64 f'.frm, .int .i64 f'.to, .int .u64 f'.mine, .int .u64 f'.yours, .int .u64 f'.a, .int .u64 f'.b, .int .i64 f'.inode, .int .u64 f'.iseq, .int .i64 f'.ioff, .int .i64 f'.bn.node, .int .u64 f'.bn.seq, .int .i64 f'.bn.off, .int .i64 f'.bn.dest, .int .i64 f'.bn.prio, .int .i64 f'.bn.born, .int .i64 f'.bn.life, .int .i64 f'.bn.total, .string f'.bn.data])) (g11 + 1) 31 #[.int .i64 q.node, .int .u64 q.theirs, .bool q.sure, .int .u64 q.old, .int .u64 q.s.g, .int .u64 q.s.n, .int .u64 q.s.r, .slice A6 q.s.sl.length a6, .int .u64 q.r.g, .int .u64 q.r.r, .int .u64 q.r.fl, .slice B6 q.r.tk.length b6, .slice C6 q.r.kp.length c6]) := Lib.hid (KO2.farAll (by omega) _ 0)
        have KF3 : Hid (Blk (v2.setCells g16 0 (Array.toList #[.int .i64 f'.kind, .int .i64 f'.frm, .int .i64 f'.to, .int .u64 f'.mine, .int .u64 f'.yours, .int .u64 f'.a, .int .u64 f'.b, .int .i64 f'.inode, .int .u64 f'.iseq, .int .i64 f'.ioff, .int .i64 f'.bn.node, .int .u64 f'.bn.seq, .int .i64 f'.bn.off, .int .i64 f'.bn.dest, .int .i64 f'.bn.prio, .int .i64 f'.bn.born, .int .i64 f'.bn.life, .int .i64 f'.bn.total, .string f'.bn.data])) g16 51 #[.int .i64 f'.kind, .int .i64 f'.frm, .int .i64 f'.to, .int .u64 f'.mine, .int .u64 f'.yours, .int .u64 f'.a, .int .u64 f'.b, .int .i64 f'.inode, .int .u64 f'.iseq, .int .i64 f'.ioff, .int .i64 f'.bn.node, .int .u64 f'.bn.seq, .int .i64 f'.bn.off, .int .i64 f'.bn.dest, .int .i64 f'.bn.prio, .int .i64 f'.bn.born, .int .i64 f'.bn.life, .int .i64 f'.bn.total, .string f'.bn.data]) := Lib.hid (KF2.setAll rfl)
        have HB3 : Hid (Below w.heap.size w (v2.setCells g16 0 (Array.toList #[.int .i64 f'.kind, .int .i64 f'.frm, .int .i64 f'.to, .int .u64 f'.mine, .int .u64 f'.yours, .int .u64 f'.a, .int .u64 f'.b, .int .i64 f'.inode, .int .u64 f'.iseq, .int .i64 f'.ioff, .int .i64 f'.bn.node, .int .u64 f'.bn.seq, .int .i64 f'.bn.off, .int .i64 f'.bn.dest, .int .i64 f'.bn.prio, .int .i64 f'.bn.born, .int .i64 f'.bn.life, .int .i64 f'.bn.total, .string f'.bn.data]))) := Lib.hid (below_setCells (by omega) _ 0 HB2)
        have hl0 := kz.lt; have hl1 := KO2.lt; have hl2 := KF2.lt
        dsimp only [Fr.val]
        go_wp2_with ((refine wpList_store_gen (by rfl) 51 _ _ (by rfl) g16 0 #[.int .i64 f'.kind, .int .i64 f'.frm, .int .i64 f'.to, .int .u64 f'.mine, .int .u64 f'.yours, .int .u64 f'.a, .int .u64 f'.b, .int .i64 f'.inode, .int .u64 f'.iseq, .int .i64 f'.ioff, .int .i64 f'.bn.node, .int .u64 f'.bn.seq, .int .i64 f'.bn.off, .int .i64 f'.bn.dest, .int .i64 f'.bn.prio, .int .i64 f'.bn.born, .int .i64 f'.bn.life, .int .i64 f'.bn.total, .string f'.bn.data] (by rfl) (by rfl) (by exact Blk.there KF2 0 _ (Nat.le_refl 19)) (by kernel_rfl) (fr_one _) ?_); intro W2 hW2)
        go_roundw
        case rel =>
          have kz4 := kz3.out
          have RZ4 := RZ3.out
          have RO4 := RO3.out
          have KO4 := KO3.out
          have KF4 := KF3.out
          have HB4 := HB3.out
          rw [← hW2.out] at kz4 RZ4 RO4 KO4 KF4 HB4
          exact ⟨2, true, z, q, f', A7, a7, B7, b7, C7, c7, A6, a6, B6, b6, C6, c6, rfl, rfl, by go_num, HI.out, kz4, RZ4, KO4, RO4, KF4, HB4⟩
        case measure => simp [intOf]
    · skip
      obtain ⟨e1, e2, z, vd, ow, f', e3, e4, e5, e6, e7, e8⟩ := mt_even hu'.out ht'.out hI (.inr rfl)
      have MC : Hid (∀ V w', PrAt w' V q → Calls Try.prog 18 #[V, .int .u64 t, .agg #[.int .i64 f.kind, .int .i64 f.frm, .int .i64 f.to, .int .u64 f.mine, .int .u64 f.yours, .int .u64 f.a, .int .u64 f.b, .int .i64 f.inode, .int .u64 f.iseq, .int .i64 f.ioff, .int .i64 f.bn.node, .int .u64 f.bn.seq, .int .i64 f.bn.off, .int .i64 f.bn.dest, .int .i64 f.bn.prio, .int .i64 f.bn.born, .int .i64 f.bn.life, .int .i64 f.bn.total, .string f.bn.data]] w' (RetMet (z, vd, ow) 0 w')) := Lib.hid (fun V w' h => by
        have := Meet_any q hI.hq.wf t f e2 V w' h
        rwa [e3, e1] at this)
      have HC : Hid (∀ V w', PrAt w' V z → Calls Try.prog 25 #[V, .int .i64 2, .int .u64 t] w' (RetFE f' 0 w')) := Lib.hid (fun V w' h => by
        have := Hello_any z e4 2 t V w' h
        rwa [e6, e5] at this)
      clear e1 e2 e3 e4 e5 e6 hI
      cases ow with
      | false =>
        have HI := Lib.hid (e7 rfl)
        clear e7 e8 HC
        have hl0 := kp.lt; have hl1 := kq.lt; have hl2 := kf.lt
        go_wp2_with (first | (refine wpList_ldrow (by rfl) 31 _ (by rfl) (g11 + 1) (by rfl) 31 #[.int .i64 q.node, .int .u64 q.theirs, .bool q.sure, .int .u64 q.old, .int .u64 q.s.g, .int .u64 q.s.n, .int .u64 q.s.r, .slice A6 q.s.sl.length a6, .int .u64 q.r.g, .int .u64 q.r.r, .int .u64 q.r.fl, .slice B6 q.r.tk.length b6, .slice C6 q.r.kp.length c6] (0, 0) _ kq Try.underlying31 (by rfl) (by kernel_rfl) ?_) | (refine wpList_ldrow (by rfl) 51 _ (by rfl) g16 (by rfl) 51 #[.int .i64 f.kind, .int .i64 f.frm, .int .i64 f.to, .int .u64 f.mine, .int .u64 f.yours, .int .u64 f.a, .int .u64 f.b, .int .i64 f.inode, .int .u64 f.iseq, .int .i64 f.ioff, .int .i64 f.bn.node, .int .u64 f.bn.seq, .int .i64 f.bn.off, .int .i64 f.bn.dest, .int .i64 f.bn.prio, .int .i64 f.bn.born, .int .i64 f.bn.life, .int .i64 f.bn.total, .string f.bn.data] (0, 0) _ kf Try.underlying51 (by rfl) (by kernel_rfl) ?_))
        refine (MC.out _ _ Rq.at).mono ?_
        rintro e v1 ⟨V7, rfl, hV7, hb⟩
        obtain ⟨A7, a7, B7, b7, C7, c7, rfl⟩ := hV7.frm
        replace kp := kp.below hb
        replace kq := kq.below hb
        replace kf := kf.below hb
        replace Rp := Rp.below hb
        replace hB := bnext hB hb
        have RZ : PrN (Bx g11 (g11 + 1) g16) v1 (.agg #[.int .i64 z.node, .int .u64 z.theirs, .bool z.sure, .int .u64 z.old, .int .u64 z.s.g, .int .u64 z.s.n, .int .u64 z.s.r, .slice A7 z.s.sl.length a7, .int .u64 z.r.g, .int .u64 z.r.r, .int .u64 z.r.fl, .slice B7 z.r.tk.length b7, .slice C7 z.r.kp.length c7]) z := PrN.ofB hV7 (fun n h h' => by unfold Bx at h'; omega)
        clear hb hV7 Rq
        clear hl0 hl1 hl2
        have kz : Blk (v1.setCells (g11 + 1) 0 (Array.toList #[.int .i64 z.node, .int .u64 z.theirs, .bool z.sure, .int .u64 z.old, .int .u64 z.s.g, .int .u64 z.s.n, .int .u64 z.s.r, .slice A7 z.s.sl.length a7, .int .u64 z.r.g, .int .u64 z.r.r, .int .u64 z.r.fl, .slice B7 z.r.tk.length b7, .slice C7 z.r.kp.length c7])) (g11 + 1) 31 #[.int .i64 z.node, .int .u64 z.theirs, .bool z.sure, .int .u64 z.old, .int .u64 z.s.g, .int .u64 z.s.n, .int .u64 z.s.r, .slice A7 z.s.sl.length a7, .int .u64 z.r.g, .int .u64 z.r.r, .int .u64 z.r.fl, .slice B7 z.r.tk.length b7, .slice C7 z.r.kp.length c7] := kq.setAll rfl
        have RZ2 : PrN (Bx g11 (g11 + 1) g16) (v1.setCells (g11 + 1) 0 (Array.toList #[.int .i64 z.node, .int .u64 z.theirs, .bool z.sure, .int .u64 z.old, .int .u64 z.s.g, .int .u64 z.s.n, .int .u64 z.s.r, .slice A7 z.s.sl.length a7, .int .u64 z.r.g, .int .u64 z.r.r, .int .u64 z.r.fl, .slice B7 z.r.tk.length b7, .slice C7 z.r.kp.length c7])) (.agg #[.int .i64 z.node, .int .u64 z.theirs, .bool z.sure, .int .u64 z.old, .int .u64 z.s.g, .int .u64 z.s.n, .int .u64 z.s.r, .slice A7 z.s.sl.length a7, .int .u64 z.r.g, .int .u64 z.r.r, .int .u64 z.r.fl, .slice B7 z.r.tk.length b7, .slice C7 z.r.kp.length c7]) z := RZ.setCells (.inr (.inl rfl)) _ 0
        have RO2 : PrN (Bx g11 (g11 + 1) g16) (v1.setCells (g11 + 1) 0 (Array.toList #[.int .i64 z.node, .int .u64 z.theirs, .bool z.sure, .int .u64 z.old, .int .u64 z.s.g, .int .u64 z.s.n, .int .u64 z.s.r, .slice A7 z.s.sl.length a7, .int .u64 z.r.g, .int .u64 z.r.r, .int .u64 z.r.fl, .slice B7 z.r.tk.length b7, .slice C7 z.r.kp.length c7])) (.agg #[.int .i64 p.node, .int .u64 p.theirs, .bool p.sure, .int .u64 p.old, .int .u64 p.s.g, .int .u64 p.s.n, .int .u64 p.s.r, .slice A5 p.s.sl.length a5, .int .u64 p.r.g, .int .u64 p.r.r, .int .u64 p.r.fl, .slice B5 p.r.tk.length b5, .slice C5 p.r.kp.length c5]) p := Rp.setCells (.inr (.inl rfl)) _ 0
        have KO2 : Blk (v1.setCells (g11 + 1) 0 (Array.toList #[.int .i64 z.node, .int .u64 z.theirs, .bool z.sure, .int .u64 z.old, .int .u64 z.s.g, .int .u64 z.s.n, .int .u64 z.s.r, .slice A7 z.s.sl.length a7, .int .u64 z.r.g, .int .u64 z.r.r, .int .u64 z.r.fl, .slice B7 z.r.tk.length b7, .slice C7 z.r.kp.length c7])) g11 31 #[.int .i64 p.node, .int .u64 p.theirs, .bool p.sure, .int .u64 p.old, .int .u64 p.s.g, .int .u64 p.s.n, .int .u64 p.s.r, .slice A5 p.s.sl.length a5, .int .u64 p.r.g, .int .u64 p.r.r, .int .u64 p.r.fl, .slice B5 p.r.tk.length b5, .slice C5 p.r.kp.length c5] := kp.farAll (by omega) _ 0
        have KF2 : Blk (v1.setCells (g11 + 1) 0 (Array.toList #[.int .i64 z.node, .int .u64 z.theirs, .bool z.sure, .int .u64 z.old, .int .u64 z.s.g, .int .u64 z.s.n, .int .u64 z.s.r, .slice A7 z.s.sl.length a7, .int .u64 z.r.g, .int .u64 z.r.r, .int .u64 z.r.fl, .slice B7 z.r.tk.length b7, .slice C7 z.r.kp.length c7])) g16 51 #[.int .i64 f.kind, .int .i64 f.frm, .int .i64 f.to, .int .u64 f.mine, .int .u64 f.yours, .int .u64 f.a, .int .u64 f.b, .int .i64 f.inode, .int .u64 f.iseq, .int .i64 f.ioff, .int .i64 f.bn.node, .int .u64 f.bn.seq, .int .i64 f.bn.off, .int .i64 f.bn.dest, .int .i64 f.bn.prio, .int .i64 f.bn.born, .int .i64 f.bn.life, .int .i64 f.bn.total, .string f.bn.data] := kf.farAll (by omega) _ 0
        have HB2 : Below w.heap.size w (v1.setCells (g11 + 1) 0 (Array.toList #[.int .i64 z.node, .int .u64 z.theirs, .bool z.sure, .int .u64 z.old, .int .u64 z.s.g, .int .u64 z.s.n, .int .u64 z.s.r, .slice A7 z.s.sl.length a7, .int .u64 z.r.g, .int .u64 z.r.r, .int .u64 z.r.fl, .slice B7 z.r.tk.length b7, .slice C7 z.r.kp.length c7])) := below_setCells (by omega) _ 0 hB
        have kz' := Lib.hid kz
        have RZ2' := Lib.hid RZ2
        have RO2' := Lib.hid RO2
        have KO2' := Lib.hid KO2
        have KF2' := Lib.hid KF2
        have HB2' := Lib.hid HB2
        clear kz RZ2 RO2 KO2 KF2 HB2
        have hl0 := kp.lt; have hl1 := kq.lt; have hl2 := kf.lt
        go_wp2_with ((refine wpList_store_gen (by rfl) 31 _ _ (by rfl) (g11 + 1) 0 #[.int .i64 z.node, .int .u64 z.theirs, .bool z.sure, .int .u64 z.old, .int .u64 z.s.g, .int .u64 z.s.n, .int .u64 z.s.r, .slice A7 z.s.sl.length a7, .int .u64 z.r.g, .int .u64 z.r.r, .int .u64 z.r.fl, .slice B7 z.r.tk.length b7, .slice C7 z.r.kp.length c7] (by rfl) (by rfl) (by exact Blk.there kq 0 _ (Nat.le_refl 13)) (by kernel_rfl) (by kernel_rfl) ?_); intro W hW)
        go_roundw
        case rel =>
          have kz := kz'.out
          have RZ2 := RZ2'.out
          have RO2 := RO2'.out
          have KO2 := KO2'.out
          have KF2 := KF2'.out
          have HB2 := HB2'.out
          rw [← hW.out] at kz RZ2 RO2 KO2 KF2 HB2
          exact ⟨3, false, p, z, f, A5, a5, B5, b5, C5, c5, A7, a7, B7, b7, C7, c7, rfl, rfl, by go_num, HI.out, KO2, RO2, kz, RZ2, KF2, HB2⟩
        case measure => simp [intOf]
      | true =>
        have HI := Lib.hid (e8 rfl)
        clear e7 e8
        have hl0 := kp.lt; have hl1 := kq.lt; have hl2 := kf.lt
        go_wp2_with (first | (refine wpList_ldrow (by rfl) 31 _ (by rfl) (g11 + 1) (by rfl) 31 #[.int .i64 q.node, .int .u64 q.theirs, .bool q.sure, .int .u64 q.old, .int .u64 q.s.g, .int .u64 q.s.n, .int .u64 q.s.r, .slice A6 q.s.sl.length a6, .int .u64 q.r.g, .int .u64 q.r.r, .int .u64 q.r.fl, .slice B6 q.r.tk.length b6, .slice C6 q.r.kp.length c6] (0, 0) _ kq Try.underlying31 (by rfl) (by kernel_rfl) ?_) | (refine wpList_ldrow (by rfl) 51 _ (by rfl) g16 (by rfl) 51 #[.int .i64 f.kind, .int .i64 f.frm, .int .i64 f.to, .int .u64 f.mine, .int .u64 f.yours, .int .u64 f.a, .int .u64 f.b, .int .i64 f.inode, .int .u64 f.iseq, .int .i64 f.ioff, .int .i64 f.bn.node, .int .u64 f.bn.seq, .int .i64 f.bn.off, .int .i64 f.bn.dest, .int .i64 f.bn.prio, .int .i64 f.bn.born, .int .i64 f.bn.life, .int .i64 f.bn.total, .string f.bn.data] (0, 0) _ kf Try.underlying51 (by rfl) (by kernel_rfl) ?_))
        refine (MC.out _ _ Rq.at).mono ?_
        rintro e v1 ⟨V7, rfl, hV7, hb⟩
        obtain ⟨A7, a7, B7, b7, C7, c7, rfl⟩ := hV7.frm
        replace kp := kp.below hb
        replace kq := kq.below hb
        replace kf := kf.below hb
        replace Rp := Rp.below hb
        replace hB := bnext hB hb
        have RZ : PrN (Bx g11 (g11 + 1) g16) v1 (.agg #[.int .i64 z.node, .int .u64 z.theirs, .bool z.sure, .int .u64 z.old, .int .u64 z.s.g, .int .u64 z.s.n, .int .u64 z.s.r, .slice A7 z.s.sl.length a7, .int .u64 z.r.g, .int .u64 z.r.r, .int .u64 z.r.fl, .slice B7 z.r.tk.length b7, .slice C7 z.r.kp.length c7]) z := PrN.ofB hV7 (fun n h h' => by unfold Bx at h'; omega)
        clear hb hV7 Rq
        clear hl0 hl1 hl2
        have kz : Blk (v1.setCells (g11 + 1) 0 (Array.toList #[.int .i64 z.node, .int .u64 z.theirs, .bool z.sure, .int .u64 z.old, .int .u64 z.s.g, .int .u64 z.s.n, .int .u64 z.s.r, .slice A7 z.s.sl.length a7, .int .u64 z.r.g, .int .u64 z.r.r, .int .u64 z.r.fl, .slice B7 z.r.tk.length b7, .slice C7 z.r.kp.length c7])) (g11 + 1) 31 #[.int .i64 z.node, .int .u64 z.theirs, .bool z.sure, .int .u64 z.old, .int .u64 z.s.g, .int .u64 z.s.n, .int .u64 z.s.r, .slice A7 z.s.sl.length a7, .int .u64 z.r.g, .int .u64 z.r.r, .int .u64 z.r.fl, .slice B7 z.r.tk.length b7, .slice C7 z.r.kp.length c7] := kq.setAll rfl
        have RZ2 : PrN (Bx g11 (g11 + 1) g16) (v1.setCells (g11 + 1) 0 (Array.toList #[.int .i64 z.node, .int .u64 z.theirs, .bool z.sure, .int .u64 z.old, .int .u64 z.s.g, .int .u64 z.s.n, .int .u64 z.s.r, .slice A7 z.s.sl.length a7, .int .u64 z.r.g, .int .u64 z.r.r, .int .u64 z.r.fl, .slice B7 z.r.tk.length b7, .slice C7 z.r.kp.length c7])) (.agg #[.int .i64 z.node, .int .u64 z.theirs, .bool z.sure, .int .u64 z.old, .int .u64 z.s.g, .int .u64 z.s.n, .int .u64 z.s.r, .slice A7 z.s.sl.length a7, .int .u64 z.r.g, .int .u64 z.r.r, .int .u64 z.r.fl, .slice B7 z.r.tk.length b7, .slice C7 z.r.kp.length c7]) z := RZ.setCells (.inr (.inl rfl)) _ 0
        have RO2 : PrN (Bx g11 (g11 + 1) g16) (v1.setCells (g11 + 1) 0 (Array.toList #[.int .i64 z.node, .int .u64 z.theirs, .bool z.sure, .int .u64 z.old, .int .u64 z.s.g, .int .u64 z.s.n, .int .u64 z.s.r, .slice A7 z.s.sl.length a7, .int .u64 z.r.g, .int .u64 z.r.r, .int .u64 z.r.fl, .slice B7 z.r.tk.length b7, .slice C7 z.r.kp.length c7])) (.agg #[.int .i64 p.node, .int .u64 p.theirs, .bool p.sure, .int .u64 p.old, .int .u64 p.s.g, .int .u64 p.s.n, .int .u64 p.s.r, .slice A5 p.s.sl.length a5, .int .u64 p.r.g, .int .u64 p.r.r, .int .u64 p.r.fl, .slice B5 p.r.tk.length b5, .slice C5 p.r.kp.length c5]) p := Rp.setCells (.inr (.inl rfl)) _ 0
        have KO2 : Blk (v1.setCells (g11 + 1) 0 (Array.toList #[.int .i64 z.node, .int .u64 z.theirs, .bool z.sure, .int .u64 z.old, .int .u64 z.s.g, .int .u64 z.s.n, .int .u64 z.s.r, .slice A7 z.s.sl.length a7, .int .u64 z.r.g, .int .u64 z.r.r, .int .u64 z.r.fl, .slice B7 z.r.tk.length b7, .slice C7 z.r.kp.length c7])) g11 31 #[.int .i64 p.node, .int .u64 p.theirs, .bool p.sure, .int .u64 p.old, .int .u64 p.s.g, .int .u64 p.s.n, .int .u64 p.s.r, .slice A5 p.s.sl.length a5, .int .u64 p.r.g, .int .u64 p.r.r, .int .u64 p.r.fl, .slice B5 p.r.tk.length b5, .slice C5 p.r.kp.length c5] := kp.farAll (by omega) _ 0
        have KF2 : Blk (v1.setCells (g11 + 1) 0 (Array.toList #[.int .i64 z.node, .int .u64 z.theirs, .bool z.sure, .int .u64 z.old, .int .u64 z.s.g, .int .u64 z.s.n, .int .u64 z.s.r, .slice A7 z.s.sl.length a7, .int .u64 z.r.g, .int .u64 z.r.r, .int .u64 z.r.fl, .slice B7 z.r.tk.length b7, .slice C7 z.r.kp.length c7])) g16 51 #[.int .i64 f.kind, .int .i64 f.frm, .int .i64 f.to, .int .u64 f.mine, .int .u64 f.yours, .int .u64 f.a, .int .u64 f.b, .int .i64 f.inode, .int .u64 f.iseq, .int .i64 f.ioff, .int .i64 f.bn.node, .int .u64 f.bn.seq, .int .i64 f.bn.off, .int .i64 f.bn.dest, .int .i64 f.bn.prio, .int .i64 f.bn.born, .int .i64 f.bn.life, .int .i64 f.bn.total, .string f.bn.data] := kf.farAll (by omega) _ 0
        have HB2 : Below w.heap.size w (v1.setCells (g11 + 1) 0 (Array.toList #[.int .i64 z.node, .int .u64 z.theirs, .bool z.sure, .int .u64 z.old, .int .u64 z.s.g, .int .u64 z.s.n, .int .u64 z.s.r, .slice A7 z.s.sl.length a7, .int .u64 z.r.g, .int .u64 z.r.r, .int .u64 z.r.fl, .slice B7 z.r.tk.length b7, .slice C7 z.r.kp.length c7])) := below_setCells (by omega) _ 0 hB
        have kz' := Lib.hid kz
        have RZ2' := Lib.hid RZ2
        have RO2' := Lib.hid RO2
        have KO2' := Lib.hid KO2
        have KF2' := Lib.hid KF2
        have HB2' := Lib.hid HB2
        clear kz RZ2 RO2 KO2 KF2 HB2
        have hl0 := kp.lt; have hl1 := kq.lt; have hl2 := kf.lt
        go_upto_region 17 with (go_big_may; ((refine wpList_store_gen (by rfl) 31 _ _ (by rfl) (g11 + 1) 0 #[.int .i64 z.node, .int .u64 z.theirs, .bool z.sure, .int .u64 z.old, .int .u64 z.s.g, .int .u64 z.s.n, .int .u64 z.s.r, .slice A7 z.s.sl.length a7, .int .u64 z.r.g, .int .u64 z.r.r, .int .u64 z.r.fl, .slice B7 z.r.tk.length b7, .slice C7 z.r.kp.length c7] (by rfl) (by rfl) (by exact Blk.there kq 0 _ (Nat.le_refl 13)) (by kernel_rfl) (by kernel_rfl) ?_); intro W hW))
        have kz := kz'.out
        have RZ2 := RZ2'.out
        have RO2 := RO2'.out
        have KO2 := KO2'.out
        have KF2 := KF2'.out
        have HB2 := HB2'.out
        rw [← hW.out] at kz RZ2 RO2 KO2 KF2 HB2
        clear hW RZ Rp kp kq kf hB kz' RZ2' RO2' KO2' KF2' HB2'
        clear hl0 hl1 hl2
        have hl0 := kz.lt; have hl1 := KO2.lt; have hl2 := KF2.lt
        go_wp2_with (refine wpList_ldrow (by rfl) 31 _ (by rfl) (g11 + 1) (by rfl) 31 #[.int .i64 z.node, .int .u64 z.theirs, .bool z.sure, .int .u64 z.old, .int .u64 z.s.g, .int .u64 z.s.n, .int .u64 z.s.r, .slice A7 z.s.sl.length a7, .int .u64 z.r.g, .int .u64 z.r.r, .int .u64 z.r.fl, .slice B7 z.r.tk.length b7, .slice C7 z.r.kp.length c7] (0, 0) _ kz Try.underlying31 (by rfl) (by kernel_rfl) ?_)
        clear hl0 hl1 hl2
        refine (HC.out _ _ RZ2.at).mono ?_
        rintro e v2 ⟨rfl, hb⟩
        replace kz := kz.below hb
        replace RZ2 := RZ2.below hb
        replace RO2 := RO2.below hb
        replace KO2 := KO2.below hb
        replace KF2 := KF2.below hb
        replace HB2 := bnext HB2 hb
        clear hb
        have kz3 : Hid (Blk (v2.setCells g16 0 (Array.toList #[.int .i64 f'.kind, .int .i64 f'.frm, .int .i64 f'.to, .int .u64 f'.mine, .int .u64 f'.yours, .int .u64 f'.a, .int .u64 f'.b, .int .i64 f'.inode, .int .u64 f'.iseq, .int .i64 f'.ioff, .int .i64 f'.bn.node, .int .u64 f'.bn.seq, .int .i64 f'.bn.off, .int .i64 f'.bn.dest, .int .i64 f'.bn.prio, .int .i64 f'.bn.born, .int .i64 f'.bn.life, .int .i64 f'.bn.total, .string f'.bn.data])) (g11 + 1) 31 #[.int .i64 z.node, .int .u64 z.theirs, .bool z.sure, .int .u64 z.old, .int .u64 z.s.g, .int .u64 z.s.n, .int .u64 z.s.r, .slice A7 z.s.sl.length a7, .int .u64 z.r.g, .int .u64 z.r.r, .int .u64 z.r.fl, .slice B7 z.r.tk.length b7, .slice C7 z.r.kp.length c7]) := Lib.hid (kz.farAll (by omega) _ 0)
        have RZ3 : Hid (PrN (Bx g11 (g11 + 1) g16) (v2.setCells g16 0 (Array.toList #[.int .i64 f'.kind, .int .i64 f'.frm, .int .i64 f'.to, .int .u64 f'.mine, .int .u64 f'.yours, .int .u64 f'.a, .int .u64 f'.b, .int .i64 f'.inode, .int .u64 f'.iseq, .int .i64 f'.ioff, .int .i64 f'.bn.node, .int .u64 f'.bn.seq, .int .i64 f'.bn.off, .int .i64 f'.bn.dest, .int .i64 f'.bn.prio, .int .i64 f'.bn.born, .int .i64 f'.bn.life, .int .i64 f'.bn.total, .string f'.bn.data])) (.agg #[.int .i64 z.node, .int .u64 z.theirs, .bool z.sure, .int .u64 z.old, .int .u64 z.s.g, .int .u64 z.s.n, .int .u64 z.s.r, .slice A7 z.s.sl.length a7, .int .u64 z.r.g, .int .u64 z.r.r, .int .u64 z.r.fl, .slice B7 z.r.tk.length b7, .slice C7 z.r.kp.length c7]) z) := Lib.hid (RZ2.setCells (.inr (.inr rfl)) _ 0)
        have RO3 : Hid (PrN (Bx g11 (g11 + 1) g16) (v2.setCells g16 0 (Array.toList #[.int .i64 f'.kind, .int .i64 f'.frm, .int .i64 f'.to, .int .u64 f'.mine, .int .u64 f'.yours, .int .u64 f'.a, .int .u64 f'.b, .int .i64 f'.inode, .int .u64 f'.iseq, .int .i64 f'.ioff, .int .i64 f'.bn.node, .int .u64 f'.bn.seq, .int .i64 f'.bn.off, .int .i64 f'.bn.dest, .int .i64 f'.bn.prio, .int .i64 f'.bn.born, .int .i64 f'.bn.life, .int .i64 f'.bn.total, .string f'.bn.data])) (.agg #[.int .i64 p.node, .int .u64 p.theirs, .bool p.sure, .int .u64 p.old, .int .u64 p.s.g, .int .u64 p.s.n, .int .u64 p.s.r, .slice A5 p.s.sl.length a5, .int .u64 p.r.g, .int .u64 p.r.r, .int .u64 p.r.fl, .slice B5 p.r.tk.length b5, .slice C5 p.r.kp.length c5]) p) := Lib.hid (RO2.setCells (.inr (.inr rfl)) _ 0)
        have KO3 : Hid (Blk (v2.setCells g16 0 (Array.toList #[.int .i64 f'.kind, .int .i64 f'.frm, .int .i64 f'.to, .int .u64 f'.mine, .int .u64 f'.yours, .int .u64 f'.a, .int .u64 f'.b, .int .i64 f'.inode, .int .u64 f'.iseq, .int .i64 f'.ioff, .int .i64 f'.bn.node, .int .u64 f'.bn.seq, .int .i64 f'.bn.off, .int .i64 f'.bn.dest, .int .i64 f'.bn.prio, .int .i64 f'.bn.born, .int .i64 f'.bn.life, .int .i64 f'.bn.total, .string f'.bn.data])) g11 31 #[.int .i64 p.node, .int .u64 p.theirs, .bool p.sure, .int .u64 p.old, .int .u64 p.s.g, .int .u64 p.s.n, .int .u64 p.s.r, .slice A5 p.s.sl.length a5, .int .u64 p.r.g, .int .u64 p.r.r, .int .u64 p.r.fl, .slice B5 p.r.tk.length b5, .slice C5 p.r.kp.length c5]) := Lib.hid (KO2.farAll (by omega) _ 0)
        have KF3 : Hid (Blk (v2.setCells g16 0 (Array.toList #[.int .i64 f'.kind, .int .i64 f'.frm, .int .i64 f'.to, .int .u64 f'.mine, .int .u64 f'.yours, .int .u64 f'.a, .int .u64 f'.b, .int .i64 f'.inode, .int .u64 f'.iseq, .int .i64 f'.ioff, .int .i64 f'.bn.node, .int .u64 f'.bn.seq, .int .i64 f'.bn.off, .int .i64 f'.bn.dest, .int .i64 f'.bn.prio, .int .i64 f'.bn.born, .int .i64 f'.bn.life, .int .i64 f'.bn.total, .string f'.bn.data])) g16 51 #[.int .i64 f'.kind, .int .i64 f'.frm, .int .i64 f'.to, .int .u64 f'.mine, .int .u64 f'.yours, .int .u64 f'.a, .int .u64 f'.b, .int .i64 f'.inode, .int .u64 f'.iseq, .int .i64 f'.ioff, .int .i64 f'.bn.node, .int .u64 f'.bn.seq, .int .i64 f'.bn.off, .int .i64 f'.bn.dest, .int .i64 f'.bn.prio, .int .i64 f'.bn.born, .int .i64 f'.bn.life, .int .i64 f'.bn.total, .string f'.bn.data]) := Lib.hid (KF2.setAll rfl)
        have HB3 : Hid (Below w.heap.size w (v2.setCells g16 0 (Array.toList #[.int .i64 f'.kind, .int .i64 f'.frm, .int .i64 f'.to, .int .u64 f'.mine, .int .u64 f'.yours, .int .u64 f'.a, .int .u64 f'.b, .int .i64 f'.inode, .int .u64 f'.iseq, .int .i64 f'.ioff, .int .i64 f'.bn.node, .int .u64 f'.bn.seq, .int .i64 f'.bn.off, .int .i64 f'.bn.dest, .int .i64 f'.bn.prio, .int .i64 f'.bn.born, .int .i64 f'.bn.life, .int .i64 f'.bn.total, .string f'.bn.data]))) := Lib.hid (below_setCells (by omega) _ 0 HB2)
        have hl0 := kz.lt; have hl1 := KO2.lt; have hl2 := KF2.lt
        dsimp only [Fr.val]
        go_wp2_with ((refine wpList_store_gen (by rfl) 51 _ _ (by rfl) g16 0 #[.int .i64 f'.kind, .int .i64 f'.frm, .int .i64 f'.to, .int .u64 f'.mine, .int .u64 f'.yours, .int .u64 f'.a, .int .u64 f'.b, .int .i64 f'.inode, .int .u64 f'.iseq, .int .i64 f'.ioff, .int .i64 f'.bn.node, .int .u64 f'.bn.seq, .int .i64 f'.bn.off, .int .i64 f'.bn.dest, .int .i64 f'.bn.prio, .int .i64 f'.bn.born, .int .i64 f'.bn.life, .int .i64 f'.bn.total, .string f'.bn.data] (by rfl) (by rfl) (by exact Blk.there KF2 0 _ (Nat.le_refl 19)) (by kernel_rfl) (fr_one _) ?_); intro W2 hW2)
        go_roundw
        case rel =>
          have kz4 := kz3.out
          have RZ4 := RZ3.out
          have RO4 := RO3.out
          have KO4 := KO3.out
          have KF4 := KF3.out
          have HB4 := HB3.out
          rw [← hW2.out] at kz4 RZ4 RO4 KO4 KF4 HB4
          exact ⟨3, true, p, z, f', A5, a5, B5, b5, C5, c5, A7, a7, B7, b7, C7, c7, rfl, rfl, by go_num, HI.out, KO4, RO4, kz4, RZ4, KF4, HB4⟩
        case measure => simp [intOf]
  | false =>
    obtain ⟨n1, n2, n3⟩ := hI.no rfl
    have n1b : (q.theirs == u) = true := by simpa using n1
    have n2b : (p.theirs == t) = true := by simpa using n2
    have hlp := kp.lt
    have hlq := kq.lt
    obtain ⟨x0, x1, x2, x3, x4, x5, x6, x7, x8, x9, x10, x11, x12⟩ := kp.c13
    obtain ⟨y0, y1, y2, y3, y4, y5, y6, y7, y8, y9, y10, y11, y12⟩ := kq.c13
    rw [n3] at y2
    have hkk := hI.hk
    clear n1 n2 n3 hI
    by_cases hk3 : k < 3
    all_goals
      go_wp2_with fail
      refine (awake_any _).mono ?_
      rintro e w9 ⟨rfl, hb⟩
      go_wp2_with fail
      go_ret
      exact ⟨rfl, bnext hB hb⟩
end Go.Proofs.Ytfgkkflbpfocjaa

