/- Laws that the texts of this package share. -/
import Derived.Test.YtfgkkflbpfocjaaZ7
import Derived.BigFrame
namespace Go.Proofs.Ytfgkkflbpfocjaa
open Go.RowKit
set_option linter.unusedVariables false
set_option linter.unusedSimpArgs false

theorem wpList_ldrow {P : Program} {ops : Array Oper} {rest : List Oper} {o : Oper} {a : Act} {w : World} {Q : Exit → Act → World → Prop} (hw : Region.wanted o (yielded ops a.tmps) = true) (ty : TypeId) (x : Operand) (ho : o.op = .load ty x)
    (g : Nat) (hx : a.eval x = .pointer (some ⟨g, 0, none⟩)) (t : TypeId) (cs : Array Value) (fr : Nat × Nat) (d : TypeDesc) (hg : w.heap[g]? = some (.cells cs t fr))
    (hu : P.underlying ty = some d) (hd : (match d with | .struct _ | .array _ _ => true | _ => false) = true) (hi : (P.info? ty).map (·.size) = some cs.size)
    (h : wpList P ops Q rest (a.put o.dst (.agg cs)) w) : wpList P ops Q (o :: rest) a w :=
  BigFrame.wpList_want hw fun _ hK => wp_load_row ty x ho g hx t cs fr d hg hu hd hi (hK _ _ h)
theorem yIf_bin {P : Program} {ops : Array Oper} {S : World → Prop} {op : Oper} {a : Act} (o : BinOp) (xT : TypeId) (x y : Operand) (r : TypeId) (vx vy v : Value) (hw : Region.wanted op (yielded ops a.tmps) = true) (ho : op.op = .binOp o xT x y r) (hx : a.eval x = vx) (hy : a.eval y = vy)
    (hg : ∀ w, (eqGuard o xT x y vx vy).run P w = .ok () w) (h : ∀ w, (binOp o xT vx vy).run P w = .ok v w) : YieldsIf P ops S op v a :=
  .inl ⟨hw, fun w _ => by
    unfold execOp
    simp only [ho, hx, hy, Sem.run_bind, Result.andThen_ok, hg, h, Sem.run_pure]⟩
theorem grdFrN (x y : Operand) (a b : Array Value) (w : World) : (eqGuard .neq 51 x y (.agg a) (.agg b)).run Try.prog w = .ok () w := by kernel_rfl
theorem grdFrE (x y : Operand) (a b : Array Value) (w : World) : (eqGuard .eql 51 x y (.agg a) (.agg b)).run Try.prog w = .ok () w := by kernel_rfl
theorem PrB.frm {B : Nat} {w : World} {V : Value} {p : Pr} (h : PrB B w V p) : ∃ As cs At ct Ak ck, V = .agg #[.int .i64 p.node, .int .u64 p.theirs, .bool p.sure, .int .u64 p.old, .int .u64 p.s.g, .int .u64 p.s.n, .int .u64 p.s.r, .slice As p.s.sl.length cs, .int .u64 p.r.g, .int .u64 p.r.r, .int .u64 p.r.fl, .slice At p.r.tk.length ct, .slice Ak p.r.kp.length ck] := by
  obtain ⟨As, cs, At, ct, Ak, ck, rfl, _⟩ := h
  exact ⟨_, _, _, _, _, _, rfl⟩
theorem wpList_binX {P : Program} {ops : Array Oper} {rest : List Oper} {op : Oper} {a : Act} {w : World} {Q : Exit → Act → World → Prop} (hw : Region.wanted op (yielded ops a.tmps) = true) (o : BinOp) (xT : TypeId) (x y : Operand) (r : TypeId) (vx vy v : Value) (ho : op.op = .binOp o xT x y r) (hx : a.eval x = vx) (hy : a.eval y = vy)
    (hg : ∀ w, (eqGuard o xT x y vx vy).run P w = .ok () w) (h : ∀ w, (binOp o xT vx vy).run P w = .ok v w) (h2 : wpList P ops Q rest (a.put op.dst v) w) : wpList P ops Q (op :: rest) a w :=
  BigFrame.wpList_want hw fun K hK => by
    unfold Oper.wp execOp
    simp only [ho, hx, hy, Sem.run_bind, Result.andThen_ok, hg, h, Sem.run_pure]
    exact hK _ _ h2
end Go.Proofs.Ytfgkkflbpfocjaa

