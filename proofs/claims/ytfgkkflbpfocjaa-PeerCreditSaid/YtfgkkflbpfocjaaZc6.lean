/- Plain words: bundles, their errors. The plain model of frames and peers; no program in sight. Contracts: ledgers and peers copied. -/
import Derived.Test.YtfgkkflbpfocjaaZc5
import Derived.Test.YtfgkkflbpfocjaaZc1
import Derived.Test.YtfgkkflbpfocjaaZc4
import Derived.Deep.DeepCutAuto
import Derived.Deep.RegionHeld3
namespace Go.Proofs.Ytfgkkflbpfocjaa.Bu
set_option linter.unusedVariables false
set_option linter.unusedSimpArgs false

/-- a bundle -/
structure Bn where
  node : Int
  seq : Int
  off : Int
  dest : Int
  prio : Int
  born : Int
  life : Int
  total : Int
  data : ByteArray
def IdOk (node seq io : Int) : Prop := 1 ≤ node ∧ node ≤ 16 ∧ 0 ≤ io ∧ io ≤ 19999 ∧ seq ≤ 1099511627776
instance (a b c : Int) : Decidable (IdOk a b c) := by unfold IdOk; exact inferInstance
def idE (node seq io : Int) : Int := if IdOk node seq io then 0 else 2
/-- the fields are within their limits -/
def Fok (x : Bn) : Prop := (1 ≤ x.dest ∧ x.dest ≤ 16) ∧ (0 ≤ x.prio ∧ x.prio ≤ 2) ∧ (0 ≤ x.born ∧ x.born ≤ 1099511627776) ∧ (1 ≤ x.life ∧ x.life ≤ 1048576) ∧ (1 ≤ x.total ∧ x.total ≤ 20000)
instance (x : Bn) : Decidable (Fok x) := by unfold Fok; exact inferInstance
/-- the error of a bundle -/
def bE (x : Bn) : Int := if ¬ IdOk x.node x.seq x.off then 2 else if ¬ Fok x then 2 else if x.data.size = 0 then 11 else if 1000 < x.data.size then 4 else if x.total < x.off + x.data.size then 12 else 0
theorem idE_ne {a b c : Int} (h : ¬ IdOk a b c) : idE a b c = 2 := if_neg h
theorem idE_ok {a b c : Int} (h : IdOk a b c) : idE a b c = 0 := if_pos h
section
variable {x : Bn}
theorem bE_id (h : ¬ IdOk x.node x.seq x.off) : bE x = 2 := if_pos h
theorem bE_f (h : IdOk x.node x.seq x.off) (h2 : ¬ Fok x) : bE x = 2 := by unfold bE; rw [if_neg (fun c => c h), if_pos h2]
theorem bE_s (h : IdOk x.node x.seq x.off) (h2 : Fok x) (h3 : x.data.size = 0) : bE x = 11 := by unfold bE; rw [if_neg (fun c => c h), if_neg (fun c => c h2), if_pos h3]
theorem bE_l (h : IdOk x.node x.seq x.off) (h2 : Fok x) (h3 : ¬ x.data.size = 0) (h4 : 1000 < x.data.size) : bE x = 4 := by unfold bE; rw [if_neg (fun c => c h), if_neg (fun c => c h2), if_neg h3, if_pos h4]
theorem bE_t (h : IdOk x.node x.seq x.off) (h2 : Fok x) (h3 : ¬ x.data.size = 0) (h4 : ¬ 1000 < x.data.size) (h5 : x.total < x.off + x.data.size) : bE x = 12 := by unfold bE; rw [if_neg (fun c => c h), if_neg (fun c => c h2), if_neg h3, if_neg h4, if_pos h5]
theorem bE_0 (h : IdOk x.node x.seq x.off) (h2 : Fok x) (h3 : ¬ x.data.size = 0) (h4 : ¬ 1000 < x.data.size) (h5 : ¬ x.total < x.off + x.data.size) : bE x = 0 := by unfold bE; rw [if_neg (fun c => c h), if_neg (fun c => c h2), if_neg h3, if_neg h4, if_neg h5]
end
/-- a bundle is as Check wants it -/
structure Bok (x : Bn) : Prop where
  id : IdOk x.node x.seq x.off
  f : Fok x
  s : 1 ≤ x.data.size ∧ x.data.size ≤ 1000
  t : x.off + x.data.size ≤ x.total
theorem bE_ok {x : Bn} (h : Bok x) : bE x = 0 := bE_0 h.id h.f (by have := h.s; omega) (by have := h.s; omega) (by have := h.t; omega)
/-- a limit -/
structure Lm where
  n : Int
  l : Int
  g : Int
def Lm.bad (x : Lm) : Bool := decide (x.n < x.l) || decide (x.g < x.n)
/-- no limit is broken from k on -/
def LmMid (L : List Lm) (k : Nat) : Prop := (L.drop k).any Lm.bad = L.any Lm.bad
theorem lm_drop {L : List Lm} {k : Nat} {x : Lm} (h : L[k]? = some x) : (L.drop k).any Lm.bad = (x.bad || (L.drop (k + 1)).any Lm.bad) := by
  obtain ⟨hk, rfl⟩ := List.getElem?_eq_some_iff.1 h
  rw [List.drop_eq_getElem_cons hk, List.any_cons]
theorem LmMid.next {L : List Lm} {k : Nat} {x : Lm} (h : LmMid L k) (hx : L[k]? = some x) (hp : x.bad = false) : LmMid L (k + 1) := by
  unfold LmMid at h ⊢
  rw [lm_drop hx, hp, Bool.false_or] at h
  exact h
theorem LmMid.hit {L : List Lm} {k : Nat} {x : Lm} (h : LmMid L k) (hx : L[k]? = some x) (hp : x.bad = true) : L.any Lm.bad = true := by
  unfold LmMid at h
  rw [lm_drop hx, hp, Bool.true_or] at h
  exact h.symm
theorem LmMid.done {L : List Lm} {k : Nat} (h : LmMid L k) (hk : L.length ≤ k) : L.any Lm.bad = false := by
  unfold LmMid at h
  rw [List.drop_of_length_le hk] at h
  exact h.symm
end Go.Proofs.Ytfgkkflbpfocjaa.Bu

namespace Go.Proofs.Ytfgkkflbpfocjaa
set_option linter.unusedVariables false

/-- a frame -/
structure Fr where
  kind : Int
  frm : Int
  «to» : Int
  mine : Int
  yours : Int
  a : Int
  b : Int
  inode : Int
  iseq : Int
  ioff : Int
  bn : Bu.Bn
def zBn : Bu.Bn := ⟨0, 0, 0, 0, 0, 0, 0, 0, ⟨#[]⟩⟩
/-- a number is out of its range -/
def Fr.out (f : Fr) : Prop := f.frm < 1 ∨ 16 < f.frm ∨ f.to < 1 ∨ 16 < f.to ∨ f.to = f.frm ∨ f.mine < 1 ∨ 1099511627776 < f.mine ∨ 1099511627776 < f.yours
instance (f : Fr) : Decidable f.out := by unfold Fr.out; exact inferInstance
def Fr.aBig (f : Fr) : Prop := f.kind ≠ 1 ∧ 1125899906842624 < f.a
instance (f : Fr) : Decidable f.aBig := by unfold Fr.aBig; exact inferInstance
def Fr.bBad (f : Fr) : Prop := (f.kind = 3 ∧ f.a < f.b) ∨ (f.kind = 4 ∧ 1125899906842624 < f.b) ∨ (f.kind = 6 ∧ (f.b < 1 ∨ 3 < f.b))
instance (f : Fr) : Decidable f.bBad := by unfold Fr.bBad; exact inferInstance
/-- the error of what a frame is about -/
def Fr.inE (f : Fr) : Int := if f.kind = 3 then Bu.bE f.bn else if f.kind = 5 ∨ f.kind = 6 then Bu.idE f.inode f.iseq f.ioff else 0
/-- what a kind does not use is 0 -/
def Fr.bare (f : Fr) : Prop := (f.kind = 1 → f.a = 0) ∧ (f.kind ≠ 3 ∧ f.kind ≠ 4 ∧ f.kind ≠ 6 → f.b = 0) ∧ (f.kind ≠ 5 ∧ f.kind ≠ 6 → f.inode = 0 ∧ f.iseq = 0 ∧ f.ioff = 0) ∧ (f.kind ≠ 3 → f.bn = zBn)
instance : DecidableEq Bu.Bn := fun x y => decidable_of_iff (x.node = y.node ∧ x.seq = y.seq ∧ x.off = y.off ∧ x.dest = y.dest ∧ x.prio = y.prio ∧ x.born = y.born ∧ x.life = y.life ∧ x.total = y.total ∧ x.data = y.data) (by
  cases x; cases y; simp)
instance (f : Fr) : Decidable f.bare := by unfold Fr.bare; exact inferInstance
/-- the error of a frame -/
def frE (f : Fr) : Int :=
  if f.kind < 1 ∨ 7 < f.kind then 7 else if f.out then 2 else if f.aBig ∨ f.bBad then 2 else if f.inE ≠ 0 then f.inE else if ¬ f.bare then 3 else 0
/-! peers -/
structure Pr where
  node : Int
  theirs : Int
  sure : Bool
  old : Int
  s : Led
  r : Rec
def zRec : Rec := ⟨0, 0, 0, [], []⟩
def zSend : Led := ⟨0, 0, 0, []⟩
def zPr : Pr := ⟨0, 0, false, 0, zSend, zRec⟩
/-- nothing is known -/
def Pr.empty (p : Pr) : Prop := p.sure = false ∧ p.old = 0 ∧ p.s.g = 0 ∧ p.s.n = 0 ∧ p.s.r = 0 ∧ p.s.sl.length = 0 ∧ p.r.g = 0 ∧ p.r.r = 0 ∧ p.r.fl = 0 ∧ p.r.tk.length = 0 ∧ p.r.kp.length = 0
instance (p : Pr) : Decidable p.empty := by unfold Pr.empty; exact inferInstance
structure WfP (p : Pr) : Prop where
  th : 0 ≤ p.theirs ∧ p.theirs ≤ 18446744073709551615
  old : 0 ≤ p.old ∧ p.old ≤ 18446744073709551615
  s : Wf p.s
  r : WfR p.r
def Pr.out (p : Pr) : Prop := p.node < 1 ∨ 16 < p.node ∨ 1099511627776 < p.theirs ∨ 1125899906842624 < p.old
instance (p : Pr) : Decidable p.out := by unfold Pr.out; exact inferInstance
/-- the error of a peer -/
def chkP (p : Pr) : Int :=
  if p.out then 2 else if (chk p.s).1 ≠ 0 then (chk p.s).1 else if (chkR p.r).1 ≠ 0 then (chkR p.r).1 else if p.theirs = 0 ∧ ¬ p.empty then 12 else 0
theorem chkP_ok {p : Pr} (h : chkP p = 0) : ¬ p.out ∧ okL p.s ∧ okR p.r ∧ (p.theirs = 0 → p.empty) := by
  unfold chkP at h
  by_cases c1 : p.out
  · rw [if_pos c1] at h; cases h
  rw [if_neg c1] at h
  by_cases c2 : (chk p.s).1 = 0
  · rw [if_neg (fun c => c c2)] at h
    by_cases c3 : (chkR p.r).1 = 0
    · rw [if_neg (fun c => c c3)] at h
      by_cases c4 : p.theirs = 0 ∧ ¬ p.empty
      · rw [if_pos c4] at h; cases h
      · exact ⟨c1, c2, c3, fun e => Decidable.not_not.1 fun c => c4 ⟨e, c⟩⟩
    · rw [if_pos c3] at h; exact absurd h c3
  · rw [if_pos c2] at h; exact absurd h c2
/-- what a peer holds back -/
def heldP (p : Pr) : Int := p.old + resv p.r
theorem heldP_b {p : Pr} (hw : WfP p) (h : chkP p = 0) : 0 ≤ heldP p ∧ heldP p ≤ 2251799813685248 := by
  obtain ⟨h1, _, h3, _⟩ := chkP_ok h
  have ho := okR_of h3
  have := resv_b ho hw.r.fl.1 hw.r.r.1
  have := ho.g
  have := hw.old
  have : ¬ 1125899906842624 < p.old := fun c => h1 (.inr (.inr (.inr c)))
  unfold heldP
  omega
def rstE (p : Pr) : Pr × Int := if chkP p ≠ 0 then (zPr, chkP p) else if 1125899906842624 < heldP p then (zPr, 2) else (⟨p.node, p.theirs, false, heldP p, zSend, zRec⟩, 0)
def bootOk (b : Int) : Prop := 1 ≤ b ∧ b ≤ 1099511627776
instance (b : Int) : Decidable (bootOk b) := by unfold bootOk; exact inferInstance
/-- the error of meeting a frame -/
def metE (p : Pr) (boot : Int) (f : Fr) : Int := if chkP p ≠ 0 then chkP p else if ¬ bootOk boot then 2 else if frE f ≠ 0 then frE f else if f.frm ≠ p.node then 7 else 0
/-- what a frame makes of a peer -/
def lrn (p : Pr) (f : Fr) : Pr := if p.theirs < f.mine then ⟨p.node, f.mine, false, 0, zSend, zRec⟩ else p
def met (p : Pr) (boot : Int) (f : Fr) : Pr × Int × Bool :=
  if f.mine < p.theirs then (p, 1, false) else if f.yours ≠ boot then (lrn p f, 2, true) else ({ lrn p f with sure := true, old := 0 }, 3, decide (p.theirs < f.mine))
def frB (p : Pr) (node boot kind a b : Int) : Fr := ⟨kind, node, p.node, boot, p.theirs, a, b, 0, 0, 0, zBn⟩
def zFr : Fr := ⟨0, 0, 0, 0, 0, 0, 0, 0, 0, 0, zBn⟩
def begE (p : Pr) (node boot kind : Int) : Int := if chkP p ≠ 0 then chkP p else if node < 1 ∨ 16 < node ∨ node = p.node ∨ ¬ bootOk boot then 2 else if kind ≠ 1 ∧ p.theirs = 0 then 13 else 0
end Go.Proofs.Ytfgkkflbpfocjaa

namespace Go.Proofs.Ytfgkkflbpfocjaa
open Go.RowKit
set_option linter.unusedVariables false
set_option linter.unusedSimpArgs false
theorem sl5 (x : Sl) : x.cells.length = 5 := rfl
def Rg.cells (x : Rg) : List Value := [.int .u64 x.f, .int .u64 x.t]
theorem rg2 (x : Rg) : x.cells.length = 2 := rfl
theorem rg_one : ∀ x : Rg, ∀ u ∈ x.cells, u.oneCell' = true := by intro x u hu; simp [Rg.cells] at hu; rcases hu with rfl | rfl <;> rfl
theorem infoRg : (Try.prog.info? 74).map (fun i => (i.zero, i.size, i.bytes)) = some (some (.agg #[.int .u64 0, .int .u64 0]), 2, 16) := by kernel_rfl
def kc (x : Int) : List Value := [.int .u64 x]
theorem kc1 (x : Int) : (kc x).length = 1 := rfl
theorem kc_one : ∀ x : Int, ∀ u ∈ kc x, u.oneCell' = true := by intro x u hu; simp [kc] at hu; subst hu; rfl
theorem infoU : (Try.prog.info? 22).map (fun i => (i.zero, i.size, i.bytes)) = some (some (.int .u64 0), 1, 8) := by kernel_rfl
/-- slots, ranges, offsets in slices -/
def SlsAt (w : World) (v : Value) (l : List Sl) : Prop := SlAt w 5 v l.length (fl Sl.cells l)
def RgsAt (w : World) (v : Value) (l : List Rg) : Prop := SlAt w 2 v l.length (fl Rg.cells l)
def KpsAt (w : World) (v : Value) (l : List Int) : Prop := SlAt w 1 v l.length (fl kc l)
section
variable {w w' : World} {v : Value}
theorem SlsAt.below {l : List Sl} (h : SlsAt w v l) {w0 : World} (hb : Below w.heap.size w w0) : SlsAt w0 v l := SlAt.below h hb
theorem RgsAt.below {l : List Rg} (h : RgsAt w v l) {w0 : World} (hb : Below w.heap.size w w0) : RgsAt w0 v l := SlAt.below h hb
theorem KpsAt.below {l : List Int} (h : KpsAt w v l) {w0 : World} (hb : Below w.heap.size w w0) : KpsAt w0 v l := SlAt.below h hb
theorem SlsAt.form {l : List Sl} (h : SlsAt w v l) : ∃ A c, v = .slice A l.length c := by obtain ⟨A, c, e, _⟩ := h; exact ⟨A, c, e⟩
theorem RgsAt.form {l : List Rg} (h : RgsAt w v l) : ∃ A c, v = .slice A l.length c := by obtain ⟨A, c, e, _⟩ := h; exact ⟨A, c, e⟩
theorem KpsAt.form {l : List Int} (h : KpsAt w v l) : ∃ A c, v = .slice A l.length c := by obtain ⟨A, c, e, _⟩ := h; exact ⟨A, c, e⟩
end
/-- a slice whose block, if it reads of one, is none below B -/
def RowB (B : Nat) (w : World) (k : Nat) (v : Value) (n : Nat) (xs : List Value) : Prop := ∃ A c, v = .slice A n c ∧ n ≤ c ∧ c ≤ maxLen ∧ xs.length = n * k ∧ (0 < n → ∃ b o, A = some ⟨b, o, none⟩ ∧ B ≤ b ∧ b < w.heap.size ∧ ∀ j u, xs[j]? = some u → w.cell? ⟨b, o + j, none⟩ = some u)
section
variable {B : Nat} {w w' : World} {k : Nat} {v : Value} {n : Nat} {xs : List Value}
theorem RowB.at (h : RowB B w k v n xs) : SlAt w k v n xs := by
  obtain ⟨A, c, e, h1, h2, h3, h4⟩ := h
  exact ⟨A, c, e, h1, h2, h3, fun hn => by obtain ⟨b, o, e, _, h5, h6⟩ := h4 hn; exact ⟨b, o, e, h5, h6⟩⟩
theorem RowB.own {base : Nat} {e : TypeId} (h : w.ownsRow base e k v n xs) (hb : B ≤ base) : RowB B w k v n xs := by
  obtain ⟨A, c, e', h1, h2, h3⟩ := SlAt.own h
  refine ⟨A, c, e', h1, h2, h3.1, fun hn => ?_⟩
  obtain ⟨b, o, e2, h5, h6⟩ := h3.2 hn
  subst e' e2
  rcases h.2 with ⟨e3, e4⟩ | ⟨g, cap, cur, e3, hg, _⟩
  · omega
  · cases e3
    exact ⟨_, _, rfl, by omega, h5, h6⟩
theorem RowB.low (h : RowB B w k v n xs) {B' : Nat} (hb : B' ≤ B) : RowB B' w k v n xs := by
  obtain ⟨A, c, e, h1, h2, h3, h4⟩ := h
  exact ⟨A, c, e, h1, h2, h3, fun hn => by obtain ⟨b, o, e, h, h5, h6⟩ := h4 hn; exact ⟨b, o, e, by omega, h5, h6⟩⟩
theorem RowB.set (h : RowB B w k v n xs) {p : Addr} (hp : p.block < B) (u : Value) : RowB B (w.setCell p u) k v n xs := by
  obtain ⟨A, c, e, h1, h2, h3, h4⟩ := h
  refine ⟨A, c, e, h1, h2, h3, fun hn => ?_⟩
  obtain ⟨b, o, e, h, h5, h6⟩ := h4 hn
  refine ⟨b, o, e, h, by rw [World.size_setCell]; exact h5, fun j x hj => ?_⟩
  rw [World.cell?_setCell_other _ _ _ _ (fun e => by rw [e] at hp; exact absurd hp (by show ¬ b < B; omega))]
  exact h6 j x hj
theorem RowB.below (h : RowB B w k v n xs) {w0 : World} (hb : Below w.heap.size w w0) : RowB B w0 k v n xs := by
  obtain ⟨A, c, e, h1, h2, h3, h4⟩ := h
  refine ⟨A, c, e, h1, h2, h3, fun hn => ?_⟩
  obtain ⟨b, o, e, h, h5, h6⟩ := h4 hn
  exact ⟨b, o, e, h, Nat.lt_of_lt_of_le h5 hb.size, fun j x hj => ((bcell hb).1 b _ h5).trans (h6 j x hj)⟩
theorem RowB.alloc (h : RowB B w k v n xs) (o : Obj) : RowB B (w.alloc o) k v n xs := h.below ((Below.refl _ _).alloc (Nat.le_refl _) o)
theorem grow1_cell {o : Obj} {w0 : World} (hg : (w.alloc o).grownBy w0 (some w.heap.size)) {b : Nat} (h : b < w.heap.size) : w0.heap[b]? = w.heap[b]? := by
  rw [hg.block b (by rw [World.size_alloc]; omega) (fun e => by injection e; omega)]
  exact Below.heap_alloc w o b h
theorem RowB.grow1 (h : RowB B w k v n xs) {o : Obj} {w0 : World} (hg : (w.alloc o).grownBy w0 (some w.heap.size)) : RowB B w0 k v n xs := by
  obtain ⟨A, c, e, h1, h2, h3, h4⟩ := h
  refine ⟨A, c, e, h1, h2, h3, fun hn => ?_⟩
  obtain ⟨b, o', e, h, h5, h6⟩ := h4 hn
  refine ⟨b, o', e, h, by have := hg.size; rw [World.size_alloc] at this; omega, fun j x hj => ?_⟩
  have := h6 j x hj
  unfold World.cell? at this ⊢
  rw [grow1_cell hg h5]
  exact this
end
theorem Blk.grow1 {w w0 : World} {g : Nat} {t : TypeId} {cs : Array Value} (h : Blk w g t cs) {o : Obj} (hg : (w.alloc o).grownBy w0 (some w.heap.size)) : Blk w0 g t cs := (grow1_cell hg h.lt).trans h
abbrev SlsB (B : Nat) (w : World) (v : Value) (l : List Sl) : Prop := RowB B w 5 v l.length (fl Sl.cells l)
abbrev RgsB (B : Nat) (w : World) (v : Value) (l : List Rg) : Prop := RowB B w 2 v l.length (fl Rg.cells l)
abbrev KpsB (B : Nat) (w : World) (v : Value) (l : List Int) : Prop := RowB B w 1 v l.length (fl kc l)
/-- a ledger of a receiver, a peer -/
def RecAt (w : World) (V : Value) (z : Rec) : Prop := ∃ vt vk, V = .agg #[.int .u64 z.g, .int .u64 z.r, .int .u64 z.fl, vt, vk] ∧ RgsAt w vt z.tk ∧ KpsAt w vk z.kp
def PrAt (w : World) (V : Value) (p : Pr) : Prop := ∃ vs vt vk, V = .agg #[.int .i64 p.node, .int .u64 p.theirs, .bool p.sure, .int .u64 p.old, .int .u64 p.s.g, .int .u64 p.s.n, .int .u64 p.s.r, vs, .int .u64 p.r.g, .int .u64 p.r.r, .int .u64 p.r.fl, vt, vk] ∧ SlsAt w vs p.s.sl ∧ RgsAt w vt p.r.tk ∧ KpsAt w vk p.r.kp
theorem RecAt.below {w w' : World} {V : Value} {z : Rec} (h : RecAt w V z) (hb : Below w.heap.size w w') : RecAt w' V z := by
  obtain ⟨vt, vk, e, h1, h2⟩ := h
  exact ⟨vt, vk, e, h1.below hb, h2.below hb⟩
theorem PrAt.below {w w' : World} {V : Value} {p : Pr} (h : PrAt w V p) (hb : Below w.heap.size w w') : PrAt w' V p := by
  obtain ⟨vs, vt, vk, e, h0, h1, h2⟩ := h
  exact ⟨vs, vt, vk, e, h0.below hb, h1.below hb, h2.below hb⟩
theorem LedAt.below {w w' : World} {V : Value} {s : Led} (h : LedAt w V s) (hb : Below w.heap.size w w') : LedAt w' V s := by
  obtain ⟨v, e, h1⟩ := h
  exact ⟨v, e, SlAt.below h1 hb⟩
def RetOwnR (a b f : Int) (T : List Rg) (K : List Int) (w : World) (e : Ending) (w' : World) : Prop := ∃ vt vk, e = .returned (.agg #[.int .u64 a, .int .u64 b, .int .u64 f, vt, vk]) ∧ RgsB (w.heap.size + 2) w' vt T ∧ KpsB (w.heap.size + 2) w' vk K ∧ Below w.heap.size w w'
/-- empty ones of one's own -/
theorem own0 (w : World) (e : TypeId) (size : Nat) : (w.alloc (.cells #[] e)).ownsRow w.heap.size e size (.slice (some ⟨w.heap.size, 0, none⟩) 0 0) 0 [] := World.ownsRow_made (base := w.heap.size) (e := e) (size := size) w #[] 0 (Nat.le_refl _) (by unfold maxLen; omega) (by simp)
section
variable {w : World} {g : Nat} {t : TypeId} {c0 c1 c2 c3 c4 c5 c6 c7 c8 c9 c10 c11 c12 : Value}
theorem Blk.c13 (h : Blk w g t #[c0, c1, c2, c3, c4, c5, c6, c7, c8, c9, c10, c11, c12]) : w.cell? ⟨g, 0, none⟩ = some c0 ∧ w.cell? ⟨g, 1, none⟩ = some c1 ∧ w.cell? ⟨g, 2, none⟩ = some c2 ∧ w.cell? ⟨g, 3, none⟩ = some c3 ∧ w.cell? ⟨g, 4, none⟩ = some c4 ∧ w.cell? ⟨g, 5, none⟩ = some c5 ∧ w.cell? ⟨g, 6, none⟩ = some c6 ∧ w.cell? ⟨g, 7, none⟩ = some c7 ∧ w.cell? ⟨g, 8, none⟩ = some c8 ∧ w.cell? ⟨g, 9, none⟩ = some c9 ∧ w.cell? ⟨g, 10, none⟩ = some c10 ∧ w.cell? ⟨g, 11, none⟩ = some c11 ∧ w.cell? ⟨g, 12, none⟩ = some c12 := ⟨h.cell 0, h.cell 1, h.cell 2, h.cell 3, h.cell 4, h.cell 5, h.cell 6, h.cell 7, h.cell 8, h.cell 9, h.cell 10, h.cell 11, h.cell 12⟩
theorem Blk.f13 (h : Blk w g t #[c0, c1, c2, c3, c4, c5, c6, c7, c8, c9, c10, c11, c12]) : w.frozen? ⟨g, 0, none⟩ = false ∧ w.frozen? ⟨g, 1, none⟩ = false ∧ w.frozen? ⟨g, 2, none⟩ = false ∧ w.frozen? ⟨g, 3, none⟩ = false ∧ w.frozen? ⟨g, 4, none⟩ = false ∧ w.frozen? ⟨g, 5, none⟩ = false ∧ w.frozen? ⟨g, 6, none⟩ = false ∧ w.frozen? ⟨g, 7, none⟩ = false ∧ w.frozen? ⟨g, 8, none⟩ = false ∧ w.frozen? ⟨g, 9, none⟩ = false ∧ w.frozen? ⟨g, 10, none⟩ = false ∧ w.frozen? ⟨g, 11, none⟩ = false ∧ w.frozen? ⟨g, 12, none⟩ = false := ⟨h.frozen 0, h.frozen 1, h.frozen 2, h.frozen 3, h.frozen 4, h.frozen 5, h.frozen 6, h.frozen 7, h.frozen 8, h.frozen 9, h.frozen 10, h.frozen 11, h.frozen 12⟩
end

set_option maxRecDepth 100000 in
set_option maxHeartbeats 4000000 in
theorem rown19_any (a b f : Int) (T : List Rg) (K : List Int) (vt vk : Value) (w : World) (ht : RgsAt w vt T) (hk : KpsAt w vk K) (htl : T.length ≤ 100000) (hkl : K.length ≤ 100000) : Calls Try.prog 81 #[.agg #[.int .u64 a, .int .u64 b, .int .u64 f, vt, vk]] w (RetOwnR a b f T K w) := by
  obtain ⟨At, ct, rfl⟩ := ht.form
  have Ht := Lib.hid ht
  clear ht
  obtain ⟨Ak, ck, rfl⟩ := hk.form
  have Hk := Lib.hid hk
  clear hk
  go_enter Try.func81, Try.ntmps81
  go_upto_region 1 with fail
  have k0 : Blk ((w.alloc (.cells #[.int .u64 a, .int .u64 b, .int .u64 f, .slice At T.length ct, .slice Ak K.length ck] 29)).alloc (.cells #[.int .u64 0, .int .u64 0, .int .u64 0, .slice none 0 0, .slice none 0 0] 29)) w.heap.size 29 #[.int .u64 a, .int .u64 b, .int .u64 f, .slice At T.length ct, .slice Ak K.length ck] := (Blk.new _ _ _).alloc _
  have k1 : Blk ((w.alloc (.cells #[.int .u64 a, .int .u64 b, .int .u64 f, .slice At T.length ct, .slice Ak K.length ck] 29)).alloc (.cells #[.int .u64 0, .int .u64 0, .int .u64 0, .slice none 0 0, .slice none 0 0] 29)) (w.heap.size + 1) 29 #[.int .u64 0, .int .u64 0, .int .u64 0, .slice none 0 0, .slice none 0 0] := Blk.new1 _ _ _ _
  have hB : Below w.heap.size w ((w.alloc (.cells #[.int .u64 a, .int .u64 b, .int .u64 f, .slice At T.length ct, .slice Ak K.length ck] 29)).alloc (.cells #[.int .u64 0, .int .u64 0, .int .u64 0, .slice none 0 0, .slice none 0 0] 29)) := bal (bal (Below.refl _ _) _) _
  generalize (w.alloc (.cells #[.int .u64 a, .int .u64 b, .int .u64 f, .slice At T.length ct, .slice Ak K.length ck] 29)).alloc (.cells #[.int .u64 0, .int .u64 0, .int .u64 0, .slice none 0 0, .slice none 0 0] 29) = W0 at k0 k1 hB ⊢
  obtain ⟨x0, x1, x2, x3, x4⟩ := k0.c5
  obtain ⟨f0, f1, f2, f3, f4⟩ := k0.f5
  have hl0 := k0.lt
  have hl1 := k1.lt
  have Jt := Lib.hid (Ht.out.below hB)
  have HO := Lib.hid (own0 W0 74 2)
  go_wp2_with (at_builtin; refine wpList_app_all (f := Rg.cells) rfl _ _ 26 rfl W0.heap.size 74 2 16 infoRg rfl (by decide) Try.underlying26 rg2 rg_one _ w w.heap.size [] T _ _ (by rfl) (by rfl) (SlAt.alloc Jt.out _) HO.out (bal hB _) hB.size (by simp) (by simp; omega) (by unfold maxLen; simp; omega) ?_)
  intro Bt dt U hown hBu hg
  try simp only [List.length_nil, Nat.zero_add, List.nil_append] at hown
  try simp only [List.length_nil, Nat.zero_add]
  replace hg : (W0.alloc (.cells #[] 74)).grownBy U (some W0.heap.size) := hg
  have Rt : RgsB (w.heap.size + 2) U (.slice Bt T.length dt) T := RowB.own hown (by omega)
  replace k0 := k0.grow1 hg
  replace k1 := k1.grow1 hg
  have hlu := k0.lt
  clear hown hg HO hB x0 x1 x2 x3 x4 f0 f1 f2 f3 f4 hl0 hl1 Jt
  obtain ⟨x0, x1, x2, x3, x4⟩ := k0.c5
  obtain ⟨f0, f1, f2, f3, f4⟩ := k0.f5
  replace k0 := k0.set 3 (.slice Bt T.length dt)
  replace k1 := k1.far (p := ⟨w.heap.size, 3, none⟩) (by show w.heap.size + 1 ≠ w.heap.size; omega) (.slice Bt T.length dt)
  have hB := bset hBu (p := ⟨w.heap.size, 3, none⟩) (Nat.le_refl _) (.slice Bt T.length dt)
  replace Rt := RowB.set Rt (p := ⟨w.heap.size, 3, none⟩) (by show w.heap.size < _; omega) (.slice Bt T.length dt)
  replace k0 : Blk (U.setCell ⟨w.heap.size, 3, none⟩ (.slice Bt T.length dt)) w.heap.size 29 #[.int .u64 a, .int .u64 b, .int .u64 f, .slice Bt T.length dt, .slice Ak K.length ck] := k0
  go_upto_region 2 with fail
  generalize U.setCell ⟨w.heap.size, 3, none⟩ (.slice Bt T.length dt) = W1 at k0 k1 hB Rt ⊢
  clear hBu hlu x0 x1 x2 x3 x4 f0 f1 f2 f3 f4
  obtain ⟨x0, x1, x2, x3, x4⟩ := k0.c5
  obtain ⟨f0, f1, f2, f3, f4⟩ := k0.f5
  have hl0 := k0.lt
  have hl1 := k1.lt
  have Jk := Lib.hid (Hk.out.below hB)
  have HO := Lib.hid (own0 W1 22 1)
  go_wp2_with (at_builtin; refine wpList_app_all (f := kc) rfl _ _ 27 rfl W1.heap.size 22 1 8 infoU rfl (by decide) Try.underlying27 kc1 kc_one _ w w.heap.size [] K _ _ (by rfl) (by rfl) (SlAt.alloc Jk.out _) HO.out (bal hB _) hB.size (by simp) (by simp; omega) (by unfold maxLen; simp; omega) ?_)
  intro Bk dk U hown hBu hg
  try simp only [List.length_nil, Nat.zero_add, List.nil_append] at hown
  try simp only [List.length_nil, Nat.zero_add]
  replace hg : (W1.alloc (.cells #[] 22)).grownBy U (some W1.heap.size) := hg
  have Rk : KpsB (w.heap.size + 2) U (.slice Bk K.length dk) K := RowB.own hown (by omega)
  replace k0 := k0.grow1 hg
  replace k1 := k1.grow1 hg
  replace Rt := RowB.grow1 Rt hg
  have hlu := k0.lt
  clear hown hg HO hB x0 x1 x2 x3 x4 f0 f1 f2 f3 f4 hl0 hl1 Jk
  obtain ⟨x0, x1, x2, x3, x4⟩ := k0.c5
  obtain ⟨f0, f1, f2, f3, f4⟩ := k0.f5
  replace k0 := k0.set 4 (.slice Bk K.length dk)
  replace k1 := k1.far (p := ⟨w.heap.size, 4, none⟩) (by show w.heap.size + 1 ≠ w.heap.size; omega) (.slice Bk K.length dk)
  have hB := bset hBu (p := ⟨w.heap.size, 4, none⟩) (Nat.le_refl _) (.slice Bk K.length dk)
  replace Rt := RowB.set Rt (p := ⟨w.heap.size, 4, none⟩) (by show w.heap.size < _; omega) (.slice Bk K.length dk)
  replace Rk := RowB.set Rk (p := ⟨w.heap.size, 4, none⟩) (by show w.heap.size < _; omega) (.slice Bk K.length dk)
  replace k0 : Blk (U.setCell ⟨w.heap.size, 4, none⟩ (.slice Bk K.length dk)) w.heap.size 29 #[.int .u64 a, .int .u64 b, .int .u64 f, .slice Bt T.length dt, .slice Bk K.length dk] := k0
  go_upto_region 3 with fail
  generalize U.setCell ⟨w.heap.size, 4, none⟩ (.slice Bk K.length dk) = W2 at k0 k1 hB Rt Rk ⊢
  clear hBu hlu x0 x1 x2 x3 x4 f0 f1 f2 f3 f4
  obtain ⟨x0, x1, x2, x3, x4⟩ := k0.c5
  obtain ⟨f0, f1, f2, f3, f4⟩ := k0.f5
  obtain ⟨y0, y1, y2, y3, y4⟩ := k1.c5
  obtain ⟨g0, g1, g2, g3, g4⟩ := k1.f5
  have hl0 := k0.lt
  have hl1 := k1.lt
  go_wp2_with fail
  refine bodyPost_ret (v := .agg #[.int .u64 a, .int .u64 b, .int .u64 f, .slice Bt T.length dt, .slice Bk K.length dk]) (by simp [results, Try.results81, go_sem, hl1, y0, y1, y2, y3, y4]) rfl ?_
  have hB2 := hB
  refine ⟨_, _, rfl, ?_, ?_, ?_⟩
  · repeat (first | with_reducible exact Rt | with_reducible refine RowB.set ?_ (by show w.heap.size + 1 < _; omega) _)
  · repeat (first | with_reducible exact Rk | with_reducible refine RowB.set ?_ (by show w.heap.size + 1 < _; omega) _)
  · repeat (first | with_reducible exact hB2 | with_reducible refine bset ?_ (by show w.heap.size ≤ w.heap.size + 1; omega) _)

end Go.Proofs.Ytfgkkflbpfocjaa

