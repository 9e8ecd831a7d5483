/- Frames checked (the program): joined. A frame met (the program), whole. Small helpers of the laws: frames, sizes, what is held. Laws that the texts of this package share. Contracts: the reference's grant and return of a receiver's valid ledger. -/
import Derived.Test.YtfgkkflbpfocjaaZc24
import Derived.Test.YtfgkkflbpfocjaaZc25
import Derived.Test.YtfgkkflbpfocjaaZc19
import Derived.Test.YtfgkkflbpfocjaaZc23
import Derived.Test.YtfgkkflbpfocjaaZc13
import Derived.BigFrame
import Derived.Test.YtfgkkflbpfocjaaZc16
namespace Go.Proofs.Ytfgkkflbpfocjaa
open Go.RowKit
set_option linter.unusedVariables false

theorem frCheck_any (f : Fr) (hw : WfF f) (w : World) : Calls Try.prog 53 #[f.val] w (RetI .i64 (frE f) w) := by
  have G := frE_gen f hw
  have U2 : ∀ w, Calls Try.prog 88 #[.int .i64 f.kind] w (fun e w' => e = .returned (.tuple #[.agg #[.bool (uA f.kind), .bool (uB f.kind), .bool (uN f.kind), .bool (uI f.kind)], .bool (uOk f.kind)]) ∧ Below w.heap.size w w') := fun w => uses_any f.kind w
  have LL := limits_any f.kind f.frm f.to f.mine f.yours f.a f.b f.inode f.iseq f.ioff f.bn.node f.bn.seq f.bn.off f.bn.dest f.bn.prio f.bn.born f.bn.life f.bn.total f.bn.data
  have CB : ∀ w, Calls Try.prog 90 #[.agg #[.int .i64 f.bn.node, .int .u64 f.bn.seq, .int .i64 f.bn.off, .int .i64 f.bn.dest, .int .i64 f.bn.prio, .int .i64 f.bn.born, .int .i64 f.bn.life, .int .i64 f.bn.total, .string f.bn.data]] w (RetI .i64 (Bu.bE f.bn) w) := fun w => (Bu.Check_any f.bn w).mono (fun e w' h => h)
  have CI : ∀ w, Calls Try.prog 91 #[.agg #[.int .i64 f.inode, .int .u64 f.iseq, .int .i64 f.ioff]] w (RetI .i64 (Bu.idE f.inode f.iseq f.ioff) w) := fun w => (Bu.CheckID_any f.inode f.iseq f.ioff w).mono (fun e w' h => h)
  unfold Fr.val
  by_cases hok : uOk f.kind = false
  · rw [G, if_pos hok]
    exact fc_no f.kind f.frm f.to f.mine f.yours f.a f.b f.inode f.iseq f.ioff f.bn.node f.bn.seq f.bn.off f.bn.dest f.bn.prio f.bn.born f.bn.life f.bn.total f.bn.data (uA f.kind) (uB f.kind) (uN f.kind) (uI f.kind) (uOk f.kind) w U2 hok
  rw [if_neg hok] at G
  have hok' : uOk f.kind = true := by simpa using hok
  by_cases ho : f.out
  · rw [G, if_pos ho]
    exact fc_out f.kind f.frm f.to f.mine f.yours f.a f.b f.inode f.iseq f.ioff f.bn.node f.bn.seq f.bn.off f.bn.dest f.bn.prio f.bn.born f.bn.life f.bn.total f.bn.data (uA f.kind) (uB f.kind) (uN f.kind) (uI f.kind) (uOk f.kind) (loF f.kind) (hiF f.kind f.a) w U2 LL hok' ho
  rw [if_neg ho] at G
  have hin : 1 ≤ f.frm ∧ f.frm ≤ 16 ∧ 1 ≤ f.to ∧ f.to ≤ 16 ∧ f.to ≠ f.frm ∧ 1 ≤ f.mine ∧ f.mine ≤ 1099511627776 ∧ f.yours ≤ 1099511627776 := by
    unfold Fr.out at ho
    refine ⟨?_, ?_, ?_, ?_, ?_, ?_, ?_, ?_⟩ <;> omega
  by_cases hb : (uA f.kind = true ∧ 1125899906842624 < f.a) ∨ (uB f.kind = true ∧ (f.b < loF f.kind ∨ hiF f.kind f.a < f.b))
  · rw [G, if_pos hb]
    exact fc_big f.kind f.frm f.to f.mine f.yours f.a f.b f.inode f.iseq f.ioff f.bn.node f.bn.seq f.bn.off f.bn.dest f.bn.prio f.bn.born f.bn.life f.bn.total f.bn.data (uA f.kind) (uB f.kind) (uN f.kind) (uI f.kind) (uOk f.kind) (loF f.kind) (hiF f.kind f.a) w U2 LL hok' hin hb
  rw [if_neg hb] at G
  have three : ∀ (c : Bool) (x y z : Int), ((if c = true then x else 0), (if c = true then y else 0), (if c = true then z else 0)) = if c = true then (x, y, z) else ((0 : Int), (0 : Int), (0 : Int)) := by
    intro c x y z
    cases c <;> rfl
  have nine : ∀ (c : Bool) (x0 x1 x2 x3 x4 x5 x6 x7 : Int) (s : ByteArray), ((if c = true then x0 else 0), (if c = true then x1 else 0), (if c = true then x2 else 0), (if c = true then x3 else 0), (if c = true then x4 else 0), (if c = true then x5 else 0), (if c = true then x6 else 0), (if c = true then x7 else 0), (if c = true then s else ⟨#[]⟩)) = if c = true then (x0, x1, x2, x3, x4, x5, x6, x7, s) else ((0 : Int), (0 : Int), (0 : Int), (0 : Int), (0 : Int), (0 : Int), (0 : Int), (0 : Int), (⟨#[]⟩ : ByteArray)) := by
    intro c x0 x1 x2 x3 x4 x5 x6 x7 s
    cases c <;> rfl
  refine fc_rest f.kind f.frm f.to f.mine f.yours f.a f.b f.inode f.iseq f.ioff f.bn.node f.bn.seq f.bn.off f.bn.dest f.bn.prio f.bn.born f.bn.life f.bn.total f.bn.data (uA f.kind) (uB f.kind) (uN f.kind) (uI f.kind) (uOk f.kind) (loF f.kind) (hiF f.kind f.a) (Bu.bE f.bn) (Bu.idE f.inode f.iseq f.ioff) w U2 LL CB CI hok' hin hb _ _ _ _ _ _ _ _ _ _ _ _ _ _ rfl rfl (three _ _ _ _) (nine _ _ _ _ _ _ _ _ _ _) (frE f) ?_
  rw [G]
  have Q : f.bareG ↔ frEqB f.kind f.frm f.to f.mine f.yours (if uA f.kind = true then f.a else 0) (if uB f.kind = true then f.b else 0) (if uI f.kind = true then f.inode else 0) (if uI f.kind = true then f.iseq else 0) (if uI f.kind = true then f.ioff else 0) (if uN f.kind = true then f.bn.node else 0) (if uN f.kind = true then f.bn.seq else 0) (if uN f.kind = true then f.bn.off else 0) (if uN f.kind = true then f.bn.dest else 0) (if uN f.kind = true then f.bn.prio else 0) (if uN f.kind = true then f.bn.born else 0) (if uN f.kind = true then f.bn.life else 0) (if uN f.kind = true then f.bn.total else 0) (if uN f.kind = true then f.bn.data else ⟨#[]⟩) f.kind f.frm f.to f.mine f.yours f.a f.b f.inode f.iseq f.ioff f.bn.node f.bn.seq f.bn.off f.bn.dest f.bn.prio f.bn.born f.bn.life f.bn.total f.bn.data = true := by
    rw [frEqB_iff]
    unfold Fr.bareG
    generalize uA f.kind = ka
    generalize uB f.kind = kb
    generalize uI f.kind = ki
    generalize uN f.kind = kn
    obtain ⟨kind, frm, tto, mine, yours, a, b, inode, iseq, ioff, bn⟩ := f
    obtain ⟨node, seq, off, dest, prio, born, life, total, data⟩ := bn
    cases ka <;> cases kb <;> cases ki <;> cases kn <;> simp [zBn, eq_comm, and_assoc]
  by_cases c1 : uN f.kind = true ∧ Bu.bE f.bn ≠ 0
  · rw [if_pos c1, if_pos c1]
  rw [if_neg c1, if_neg c1]
  by_cases c2 : uI f.kind = true ∧ Bu.idE f.inode f.iseq f.ioff ≠ 0
  · rw [if_pos c2, if_pos c2]
  rw [if_neg c2, if_neg c2]
  by_cases c3 : f.bareG
  · rw [if_pos c3, if_pos (Q.1 c3)]
  · rw [if_neg c3, if_neg (fun h => c3 (Q.2 h))]

end Go.Proofs.Ytfgkkflbpfocjaa

namespace Go.Proofs.Ytfgkkflbpfocjaa
open Go.RowKit
set_option linter.unusedVariables false
set_option linter.unusedSimpArgs false

/-- a peer whose rows lie in blocks from B on -/
def PrB (B : Nat) (w : World) (V : Value) (p : Pr) : Prop := ∃ As cs At ct Ak ck, V = .agg #[.int .i64 p.node, .int .u64 p.theirs, .bool p.sure, .int .u64 p.old, .int .u64 p.s.g, .int .u64 p.s.n, .int .u64 p.s.r, .slice As p.s.sl.length cs, .int .u64 p.r.g, .int .u64 p.r.r, .int .u64 p.r.fl, .slice At p.r.tk.length ct, .slice Ak p.r.kp.length ck] ∧ SlsB B w (.slice As p.s.sl.length cs) p.s.sl ∧ RgsB B w (.slice At p.r.tk.length ct) p.r.tk ∧ KpsB B w (.slice Ak p.r.kp.length ck) p.r.kp
theorem PrB.at {B : Nat} {w : World} {V : Value} {p : Pr} (h : PrB B w V p) : PrAt w V p := by
  obtain ⟨As, cs, At, ct, Ak, ck, rfl, h1, h2, h3⟩ := h
  exact ⟨_, _, _, rfl, h1.at, h2.at, h3.at⟩
theorem PrB.low {B B' : Nat} {w : World} {V : Value} {p : Pr} (h : PrB B w V p) (hb : B' ≤ B) : PrB B' w V p := by
  obtain ⟨As, cs, At, ct, Ak, ck, rfl, h1, h2, h3⟩ := h
  exact ⟨_, _, _, _, _, _, rfl, h1.low hb, h2.low hb, h3.low hb⟩
theorem PrB.below {B : Nat} {w w' : World} {V : Value} {p : Pr} (h : PrB B w V p) (hb : Below w.heap.size w w') : PrB B w' V p := by
  obtain ⟨As, cs, At, ct, Ak, ck, rfl, h1, h2, h3⟩ := h
  exact ⟨_, _, _, _, _, _, rfl, h1.below hb, h2.below hb, h3.below hb⟩
theorem PrB.setCells {B g : Nat} {w : World} {V : Value} {p : Pr} (h : PrB B w V p) (hg : g < B) (l : List Value) (o : Nat) : PrB B (w.setCells g o l) V p := by
  obtain ⟨As, cs, At, ct, Ak, ck, rfl, h1, h2, h3⟩ := h
  exact ⟨_, _, _, _, _, _, rfl, h1.setCells hg _ _, h2.setCells hg _ _, h3.setCells hg _ _⟩
theorem PrB.set {B g : Nat} {w : World} {V : Value} {p : Pr} (h : PrB B w V p) (hg : g < B) (o : Nat) (u : Value) : PrB B (w.setCell ⟨g, o, none⟩ u) V p := by
  obtain ⟨As, cs, At, ct, Ak, ck, rfl, h1, h2, h3⟩ := h
  exact ⟨_, _, _, _, _, _, rfl, h1.set (p := ⟨g, o, none⟩) hg u, h2.set (p := ⟨g, o, none⟩) hg u, h3.set (p := ⟨g, o, none⟩) hg u⟩
/-- a peer, a number, a truth and an error -/
def RetMet (x : Pr × Int × Bool) (er : Int) (w : World) (e : Ending) (w' : World) : Prop := ∃ V, e = .returned (.tuple #[V, .int .i64 x.2.1, .bool x.2.2, .int .i64 er]) ∧ PrB w.heap.size w' V x.1 ∧ Below w.heap.size w w'
theorem zPr_at' (B : Nat) (w : World) (node th : Int) (su : Bool) (old : Int) : PrB B w (.agg #[.int .i64 node, .int .u64 th, .bool su, .int .u64 old, .int .u64 0, .int .u64 0, .int .u64 0, .slice none 0 0, .int .u64 0, .int .u64 0, .int .u64 0, .slice none 0 0, .slice none 0 0]) ⟨node, th, su, old, zSend, zRec⟩ :=
  ⟨_, _, _, _, _, _, rfl, RowB.nil B w 5, RowB.nil B w 2, RowB.nil B w 1⟩
/-- what a meeting gives -/
def mtV (p : Pr) (boot : Int) (f : Fr) : Pr × Int × Bool := if metE p boot f = 0 then met p boot f else (zPr, 0, false)

theorem chkP_len {p : Pr} (h : chkP p = 0) : p.s.sl.length ≤ 100000 ∧ p.r.tk.length ≤ 100000 ∧ p.r.kp.length ≤ 100000 := by
  obtain ⟨_, h1, h2, _⟩ := chkP_ok h
  have h3 := ((okL_iff p.s).1 h1).2.2.2.1
  have h4 := (okR_of h2).nt
  have h5 := (okR_of h2).nk
  omega

theorem Meet_any (p : Pr) (hw : WfP p) (boot : Int) (f : Fr) (hf : WfF f) (V : Value) (w : World) (hV : PrAt w V p) (hM : metE p boot f = 0) :
    Calls Try.prog 18 #[V, .int .u64 boot, f.val] w (RetMet (mtV p boot f) (metE p boot f) w) := by
  have CK := fun w' (hb : Below w.heap.size w w') => pCheck_any p hw V w' (hV.below hb)
  have FC := fun w => frCheck_any f hf w
  have HV := hV
  obtain ⟨vs, vt, vk, rfl, hs, ht, hk⟩ := hV
  obtain ⟨As, cs, rfl⟩ := hs.form
  obtain ⟨At, ct, rfl⟩ := ht.form
  obtain ⟨Ak, ck, rfl⟩ := hk.form
  have hm : metE p boot f = if chkP p ≠ 0 then chkP p else if ¬ bootOk boot then 2 else if frE f ≠ 0 then frE f else if f.frm ≠ p.node then 7 else 0 := rfl
  unfold Fr.val at FC ⊢
  have c1 : chkP p = 0 := Decidable.of_not_not fun c => by rw [if_pos c, hM] at hm; exact c hm.symm
  rw [c1] at CK
  rw [if_neg (by omega)] at hm
  have hbo : bootOk boot := Decidable.of_not_not fun c => by rw [if_pos c, hM] at hm; cases hm
  have b1 : ¬ boot < 1 := by unfold bootOk at hbo; omega
  have b2 : ¬ boot > 1099511627776 := by unfold bootOk at hbo; omega
  rw [if_neg (fun c => c hbo)] at hm
  have c2 : frE f = 0 := Decidable.of_not_not fun c => by rw [if_pos c, hM] at hm; exact c hm.symm
  rw [c2] at FC
  rw [if_neg (by omega)] at hm
  have c3 : f.frm = p.node := Decidable.of_not_not fun c => by rw [if_pos c, hM] at hm; cases hm
  rw [if_neg (by omega)] at hm
  have hv : mtV p boot f = met p boot f := if_pos hm
  rw [hv, hm]
  obtain ⟨l1, l2, l3⟩ := chkP_len c1
  have CO : ∀ w', Below w.heap.size w w' → Calls Try.prog 54 #[.agg #[.int .i64 p.node, .int .u64 p.theirs, .bool p.sure, .int .u64 p.old, .int .u64 p.s.g, .int .u64 p.s.n, .int .u64 p.s.r, .slice As p.s.sl.length cs, .int .u64 p.r.g, .int .u64 p.r.r, .int .u64 p.r.fl, .slice At p.r.tk.length ct, .slice Ak p.r.kp.length ck]] w' (RetCop p.node p.theirs p.old p.sure p.s.g p.s.n p.s.r p.s.sl p.r.g p.r.r p.r.fl p.r.tk p.r.kp w') := fun w' hb => copied_any _ _ _ _ _ _ _ _ _ _ _ _ _ _ _ _ w' (hs.below hb) (ht.below hb) (hk.below hb) l1 l2 l3
  by_cases m1 : f.mine < p.theirs
  · refine (meet_stale p.node p.theirs p.old p.sure p.s.g p.s.n p.s.r p.s.sl p.s.sl.length cs As p.r.g p.r.r p.r.fl p.r.tk p.r.tk.length ct At p.r.kp p.r.kp.length ck Ak f.kind f.frm f.to f.mine f.yours f.a f.b f.inode f.iseq f.ioff f.bn.node f.bn.seq f.bn.off f.bn.dest f.bn.prio f.bn.born f.bn.life f.bn.total f.bn.data boot w CK FC CO b1 b2 c3 m1).mono ?_
    rintro e w' ⟨As', cs', At', ct', Ak', ck', rfl, h1, h2, h3, hb⟩
    unfold met
    rw [if_pos m1]
    exact ⟨_, rfl, ⟨_, _, _, _, _, _, rfl, h1, h2, h3⟩, hb⟩
  · by_cases m2 : f.mine > p.theirs
    · by_cases y : f.yours = boot
      · refine (meet_lf p.node p.theirs p.old p.sure p.s.g p.s.n p.s.r p.s.sl p.s.sl.length cs As p.r.g p.r.r p.r.fl p.r.tk p.r.tk.length ct At p.r.kp p.r.kp.length ck Ak f.kind f.frm f.to f.mine f.yours f.a f.b f.inode f.iseq f.ioff f.bn.node f.bn.seq f.bn.off f.bn.dest f.bn.prio f.bn.born f.bn.life f.bn.total f.bn.data boot w CK FC CO b1 b2 c3 m2 y).mono ?_
        rintro e w' ⟨rfl, hb⟩
        unfold met lrn
        rw [if_neg m1, if_neg (by omega), if_pos m2]
        refine ⟨_, ?_, zPr_at' _ w' p.node f.mine true 0, hb⟩
        show _ = Ending.returned (.tuple #[_, _, .bool (decide (p.theirs < f.mine)), _])
        rw [decide_eq_true m2]
      · refine (meet_lu p.node p.theirs p.old p.sure p.s.g p.s.n p.s.r p.s.sl p.s.sl.length cs As p.r.g p.r.r p.r.fl p.r.tk p.r.tk.length ct At p.r.kp p.r.kp.length ck Ak f.kind f.frm f.to f.mine f.yours f.a f.b f.inode f.iseq f.ioff f.bn.node f.bn.seq f.bn.off f.bn.dest f.bn.prio f.bn.born f.bn.life f.bn.total f.bn.data boot w CK FC CO b1 b2 c3 m2 y).mono ?_
        rintro e w' ⟨rfl, hb⟩
        unfold met lrn
        rw [if_neg m1, if_pos y, if_pos m2]
        exact ⟨_, rfl, zPr_at' _ w' p.node f.mine false 0, hb⟩
    · by_cases y : f.yours = boot
      · refine (meet_nf p.node p.theirs p.old p.sure p.s.g p.s.n p.s.r p.s.sl p.s.sl.length cs As p.r.g p.r.r p.r.fl p.r.tk p.r.tk.length ct At p.r.kp p.r.kp.length ck Ak f.kind f.frm f.to f.mine f.yours f.a f.b f.inode f.iseq f.ioff f.bn.node f.bn.seq f.bn.off f.bn.dest f.bn.prio f.bn.born f.bn.life f.bn.total f.bn.data boot w CK FC CO b1 b2 c3 m2 m1 y).mono ?_
        rintro e w' ⟨As', cs', At', ct', Ak', ck', rfl, h1, h2, h3, hb⟩
        unfold met lrn
        rw [if_neg m1, if_neg (by omega), if_neg m2]
        refine ⟨_, ?_, ⟨_, _, _, _, _, _, rfl, h1, h2, h3⟩, hb⟩
        show _ = Ending.returned (.tuple #[_, _, .bool (decide (p.theirs < f.mine)), _])
        rw [decide_eq_false m2]
      · refine (meet_nu p.node p.theirs p.old p.sure p.s.g p.s.n p.s.r p.s.sl p.s.sl.length cs As p.r.g p.r.r p.r.fl p.r.tk p.r.tk.length ct At p.r.kp p.r.kp.length ck Ak f.kind f.frm f.to f.mine f.yours f.a f.b f.inode f.iseq f.ioff f.bn.node f.bn.seq f.bn.off f.bn.dest f.bn.prio f.bn.born f.bn.life f.bn.total f.bn.data boot w CK FC CO b1 b2 c3 m2 m1 y).mono ?_
        rintro e w' ⟨As', cs', At', ct', Ak', ck', rfl, h1, h2, h3, hb⟩
        unfold met lrn
        rw [if_neg m1, if_pos y, if_neg m2]
        exact ⟨_, rfl, ⟨_, _, _, _, _, _, rfl, h1, h2, h3⟩, hb⟩
end Go.Proofs.Ytfgkkflbpfocjaa

namespace Go.Proofs.Ytfgkkflbpfocjaa
open Go.RowKit
set_option linter.unusedVariables false
set_option linter.unusedSimpArgs false

/-- a Hello and a Grant from the node 2 to the node 1 -/
def hlo (mine yours : Int) : Fr := ⟨1, 2, 1, mine, yours, 0, 0, 0, 0, 0, zBn⟩
theorem one19 : ∀ (k f t m y a b n0 n1 n2 n3 n4 n5 n6 n7 n8 n9 n10 : Int) (s : ByteArray), (#[.int .i64 k, .int .i64 f, .int .i64 t, .int .u64 m, .int .u64 y, .int .u64 a, .int .u64 b, .int .i64 n0, .int .u64 n1, .int .i64 n2, .int .i64 n3, .int .u64 n4, .int .i64 n5, .int .i64 n6, .int .i64 n7, .int .i64 n8, .int .i64 n9, .int .i64 n10, .string s] : Array Value).all (·.oneCell') = true := fun _ _ _ _ _ _ _ _ _ _ _ _ _ _ _ _ _ _ _ => by kernel_rfl

set_option maxRecDepth 100000 in
set_option maxHeartbeats 1000000 in
theorem hello_any (mine yours : Int) (w : World) : Calls Try.prog 31 #[.int .u64 mine, .int .u64 yours] w (fun e w' => e = .returned (Fr.val (hlo mine yours)) ∧ Below w.heap.size w w') := by
  go_enter Try.func31, Try.ntmps31
  go_wp2_with (first | (refine wpList_alloc_z (by rfl) 51 (by rfl) _ rfl _ zeroFr ?_) | (refine wpList_buildTo (by rfl) 51 _ (by rfl) _ rfl #[.int .i64 1, .int .i64 2, .int .i64 1, .int .u64 mine, .int .u64 yours, .int .u64 0, .int .u64 0, .int .i64 0, .int .u64 0, .int .i64 0, .int .i64 0, .int .u64 0, .int .i64 0, .int .i64 0, .int .i64 0, .int .i64 0, .int .i64 0, .int .i64 0, .string ⟨#[]⟩] (by kernel_rfl) ?_) | (refine wpList_store_new (by rfl) 51 _ _ (by rfl) w #[.int .i64 0, .int .i64 0, .int .i64 0, .int .u64 0, .int .u64 0, .int .u64 0, .int .u64 0, .int .i64 0, .int .u64 0, .int .i64 0, .int .i64 0, .int .u64 0, .int .i64 0, .int .i64 0, .int .i64 0, .int .i64 0, .int .i64 0, .int .i64 0, .string ⟨#[]⟩] #[.int .i64 1, .int .i64 2, .int .i64 1, .int .u64 mine, .int .u64 yours, .int .u64 0, .int .u64 0, .int .i64 0, .int .u64 0, .int .i64 0, .int .i64 0, .int .u64 0, .int .i64 0, .int .i64 0, .int .i64 0, .int .i64 0, .int .i64 0, .int .i64 0, .string ⟨#[]⟩] rfl (by rfl) (by rfl) (by kernel_rfl) rfl (one19 ..) ?_))
  refine bodyPost_ret (results_cell_row rfl _ _ w.heap.size 51 #[.int .i64 1, .int .i64 2, .int .i64 1, .int .u64 mine, .int .u64 yours, .int .u64 0, .int .u64 0, .int .i64 0, .int .u64 0, .int .i64 0, .int .i64 0, .int .u64 0, .int .i64 0, .int .i64 0, .int .i64 0, .int .i64 0, .int .i64 0, .int .i64 0, .string ⟨#[]⟩] (0, 0) _ rfl (World.alloc_heap_new w _) Try.underlying51 (by rfl) (by kernel_rfl)) rfl ?_
  exact ⟨rfl, bal (Below.refl _ _) _⟩

end Go.Proofs.Ytfgkkflbpfocjaa

namespace Go.Proofs.Ytfgkkflbpfocjaa
open Go.RowKit
set_option linter.unusedVariables false
set_option linter.unusedSimpArgs false

theorem wpList_ldrow {P : Program} {ops : Array Oper} {rest : List Oper} {o : Oper} {a : Act} {w : World} {Q : Exit → Act → World → Prop} (hw : Region.wanted o (yielded ops a.tmps) = true) (ty : TypeId) (x : Operand) (ho : o.op = .load ty x)
    (g : Nat) (hx : a.eval x = .pointer (some ⟨g, 0, none⟩)) (t : TypeId) (cs : Array Value) (fr : Nat × Nat) (d : TypeDesc) (hg : w.heap[g]? = some (.cells cs t fr))
    (hu : P.underlying ty = some d) (hd : (match d with | .struct _ | .array _ _ => true | _ => false) = true) (hi : (P.info? ty).map (·.size) = some cs.size)
    (h : wpList P ops Q rest (a.put o.dst (.agg cs)) w) : wpList P ops Q (o :: rest) a w :=
  BigFrame.wpList_want hw fun _ hK => wp_load_row ty x ho g hx t cs fr d hg hu hd hi (hK _ _ h)
theorem PrB.frm {B : Nat} {w : World} {V : Value} {p : Pr} (h : PrB B w V p) : ∃ As cs At ct Ak ck, V = .agg #[.int .i64 p.node, .int .u64 p.theirs, .bool p.sure, .int .u64 p.old, .int .u64 p.s.g, .int .u64 p.s.n, .int .u64 p.s.r, .slice As p.s.sl.length cs, .int .u64 p.r.g, .int .u64 p.r.r, .int .u64 p.r.fl, .slice At p.r.tk.length ct, .slice Ak p.r.kp.length ck] := by
  obtain ⟨As, cs, At, ct, Ak, ck, rfl, _⟩ := h
  exact ⟨_, _, _, _, _, _, rfl⟩
end Go.Proofs.Ytfgkkflbpfocjaa

namespace Go.Proofs.Ytfgkkflbpfocjaa
open Go.RowKit
set_option linter.unusedVariables false
set_option linter.unusedSimpArgs false

/-- a ledger in new memory and an error -/
def RetRE (z : Rec) (er : Int) (w : World) (e : Ending) (w' : World) : Prop := ∃ A c B d, e = .returned (.tuple #[.agg #[.int .u64 z.g, .int .u64 z.r, .int .u64 z.fl, .slice A z.tk.length c, .slice B z.kp.length d], .int .i64 er]) ∧ RgsB w.heap.size w' (.slice A z.tk.length c) z.tk ∧ KpsB w.heap.size w' (.slice B z.kp.length d) z.kp ∧ Below w.heap.size w w'
/-- .. and a number -/
def RetRNE (z : Rec) (n er : Int) (w : World) (e : Ending) (w' : World) : Prop := ∃ A c B d, e = .returned (.tuple #[.agg #[.int .u64 z.g, .int .u64 z.r, .int .u64 z.fl, .slice A z.tk.length c, .slice B z.kp.length d], .int .u64 n, .int .i64 er]) ∧ RgsB w.heap.size w' (.slice A z.tk.length c) z.tk ∧ KpsB w.heap.size w' (.slice B z.kp.length d) z.kp ∧ Below w.heap.size w w'
theorem rvCheck_ok (z : Rec) (hw : WfR z) (hk : okR z) : ∃ n : Int, ∀ (vt vk : Value) (w : World), RgsAt w vt z.tk → KpsAt w vk z.kp → Calls Try.prog 64 #[.agg #[.int .u64 z.g, .int .u64 z.r, .int .u64 z.fl, vt, vk]] w (Ret2 .i64 .i64 0 n w) := by
  refine ⟨((chkR z).2 : Int), fun vt vk w h1 h2 => ?_⟩
  have := rvCheck_any z hw vt vk w h1 h2
  rwa [show (chkR z).1 = 0 from hk] at this

set_option maxRecDepth 100000 in
set_option maxHeartbeats 4000000 in
theorem rvGrant_ok (a b f : Int) (T : List Rg) (K : List Int) (hw : WfR ⟨a, b, f, T, K⟩) (hk : okR ⟨a, b, f, T, K⟩) (m : Int) (hm0 : 0 ≤ m) (hm1 : a + m ≤ 1125899906842624) (vt vk : Value) (w : World) (ht : RgsAt w vt T) (hkp : KpsAt w vk K) :
    Calls Try.prog 46 #[.agg #[.int .u64 a, .int .u64 b, .int .u64 f, vt, vk], .int .u64 m] w (RetRE ⟨a + m, b, f, T, K⟩ 0 w) := by
  have hln := (okR_of hk).nt
  have hlk := (okR_of hk).nk
  obtain ⟨n, HC⟩ := rvCheck_ok _ hw hk
  have HC' := Lib.hid HC
  have ha : 0 ≤ a := hw.g.1
  obtain ⟨A, c, rfl⟩ := ht.form
  obtain ⟨C, d, rfl⟩ := hkp.form
  have HT := Lib.hid ht
  have HK := Lib.hid hkp
  clear HC hw hk ht hkp
  dsimp only at HC' hln hlk
  go_enter Try.func46, Try.ntmps46
  go_wp2_with fail
  have k0 := (Blk.new w 29 #[.int .u64 a, .int .u64 b, .int .u64 f, .slice A T.length c, .slice C K.length d]).alloc (.cells #[.int .u64 0, .int .u64 0, .int .u64 0, .slice none 0 0, .slice none 0 0] 29)
  have k1 := Blk.new1 w (.cells #[.int .u64 a, .int .u64 b, .int .u64 f, .slice A T.length c, .slice C K.length d] 29) 29 #[.int .u64 0, .int .u64 0, .int .u64 0, .slice none 0 0, .slice none 0 0]
  have hB := bal (bal (Below.refl w.heap.size w) (.cells #[.int .u64 a, .int .u64 b, .int .u64 f, .slice A T.length c, .slice C K.length d] 29)) (.cells #[.int .u64 0, .int .u64 0, .int .u64 0, .slice none 0 0, .slice none 0 0] 29)
  refine (HC'.out _ _ _ (HT.out.below hB) (HK.out.below hB)).mono ?_
  rintro e w1 ⟨rfl, hb⟩
  replace k0 := k0.below hb
  replace k1 := k1.below hb
  replace hB := bnext hB hb
  clear hb HC'
  obtain ⟨x0, x1, x2, x3, x4⟩ := k0.c5
  obtain ⟨y0, y1, y2, y3, y4⟩ := k1.c5
  have hl1 := k1.lt
  have hgt : decide (1125899906842624 - a < m) = false := decide_eq_false (by omega)
  go_wp2_with fail
  refine (rown19_any a b f T K _ _ w1 (HT.out.below hB) (HK.out.below hB) (by omega) (by omega)).mono ?_
  rintro e w2 ⟨vt, vk, rfl, hr, hq, hb⟩
  obtain ⟨A', c', rfl, _⟩ := id hr
  obtain ⟨C', d', rfl, _⟩ := id hq
  have hwl : w.heap.size + 2 ≤ w1.heap.size := hl1
  have HR := Lib.hid hr
  have HQ := Lib.hid hq
  replace k0 := k0.below hb
  replace k1 := k1.below hb
  replace hB := bnext hB hb
  clear hb hr hq x0 x1 x2 x3 x4 y0 y1 y2 y3 y4 hl1
  obtain ⟨x0, x1, x2, x3, x4⟩ := k0.c5
  obtain ⟨y0, y1, y2, y3, y4⟩ := k1.c5
  obtain ⟨f0, f1, f2, f3, f4⟩ := k1.f5
  have hl1 := k1.lt
  have hwr : a + m ≤ 18446744073709551615 := by omega
  have hne : ¬ w.heap.size + 1 = w2.heap.size := by omega
  have hne0 : ¬ w.heap.size = w2.heap.size := by omega
  have hl0 : w.heap.size < w2.heap.size := by omega
  go_wp2_with fail
  refine bodyPost_ret (v := .tuple #[.agg #[.int .u64 (a + m), .int .u64 b, .int .u64 f, .slice A' T.length c', .slice C' K.length d'], .int .i64 0]) (by simp [results, Try.results46, go_sem, y0, y1, y2, y3, y4, hne, hl1]) rfl ⟨A', c', C', d', rfl, ?_, ?_, ?_⟩
  · refine RowB.low (B := w1.heap.size + 2) ?_ (by omega)
    repeat (first | with_reducible exact HR.out | with_reducible refine RowB.set ?_ (by simp; omega) _ | with_reducible refine RowB.alloc ?_ _)
  · refine RowB.low (B := w1.heap.size + 2) ?_ (by omega)
    repeat (first | with_reducible exact HQ.out | with_reducible refine RowB.set ?_ (by simp; omega) _ | with_reducible refine RowB.alloc ?_ _)
  · exact (by repeat (first | with_reducible exact Below.refl _ _ | with_reducible refine Below.drew ?_ | with_reducible refine below_drewN ?_ _ | with_reducible refine bal ?_ _ | with_reducible refine bset ?_ (by first | (simp; done) | (simp; omega)) _ | with_reducible refine bnext ?_ (by assumption) | with_reducible assumption))
end Go.Proofs.Ytfgkkflbpfocjaa

