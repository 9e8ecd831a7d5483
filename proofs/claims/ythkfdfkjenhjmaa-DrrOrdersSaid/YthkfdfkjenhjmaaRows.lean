/-
  No cell of these rows narrows 'for every input' (looked for: loops, veiled, ifaces, maps, wideKeys, modest, calm, conditions, laid).
  DERIVED. THE GIVEN ROWS OF THIS SEAT. 8 by the template 'for every input the law returns true; each argument reads behind the call as it read before'; 0 by the template 'total and deterministic' (their statements: YthkfdfkjenhjmaaTotals.lean).
  GIVEN WITH THE SEED: the statements are not yours to turn. If you find one false, say at which input.
  Laid BY PROGRAM, IN A SANDBOX (cutbox-rows.mjs): the forced cells as the released guide's own fill.sh prints them over the translation 4dcec985dfd1c13f… (all of the seat's roots in one cut). By AI agents, Wed Nov 11 2026. No macro, syntax, notation, axiom, sorry.
-/
import Derived.Test.YthkfdfkjenhjmaaChecked
import GoSem.Claim
import GoSem.ClaimJoined
import GoSem.ClaimMapViews
import Derived.JoinedTies
import Derived.KernelRfl
namespace Go.Proofs.Ythkfdfkjenhjmaa
/- THE CELL 'sum', in the pinned program and in every row, IS THE sha256 OF THE DUMP (.gsa) THAT YthkfdfkjenhjmaaProg.lean LOADS. Nothing in Lean hashes anything: it is a label: what it is worth is what the hold of that sum in a sandbox is worth. -/
noncomputable def Try.pinned : Pinned := { name := "ythkfdfkjenhjmaa", sum := "4dcec985dfd1c13f0a486f58ba16fc8e39b13a205e121158ac969d9ae2b48965", checked := Try.checked }
namespace Rows
def none {H : Type} : Left H := { results := [], args := [] }

/-- 'packhorselaw28.DrrNext': WHATEVER THE INPUT: true; the input reads as it did. -/
def drrNextSpec : ChangeSpec := { name := "drrNext", fn := fun _ => fun
  | [d1, d2, d3, d4] => { results := [.lit (.bool true)], args := [d1, d2, d3, d4] }
  | _ => none }
def drrNextRow : OpenClaim := { program := "ythkfdfkjenhjmaa", sum := "4dcec985dfd1c13f0a486f58ba16fc8e39b13a205e121158ac969d9ae2b48965", func := "packhorse/packhorselaw28.DrrNext", spec := "drrNext", unfollowed := true, recurses := true, apart := false }
def DrrNextSaid : Prop := drrNextRow.holds Try.pinned (OpenSpec.ofChange drrNextSpec)

/-- ITS FALSE NEIGHBOUR: 'it returns false'. Refute it at one input. -/
def drrNextWrong : ChangeSpec := { name := "drrNext", fn := fun _ => fun
  | [d1, d2, d3, d4] => { results := [.lit (.bool false)], args := [d1, d2, d3, d4] }
  | _ => none }
def DrrNextWrongFalsely : Prop := drrNextRow.holds Try.pinned (OpenSpec.ofChange drrNextWrong)

/-- 'packhorselaw28.DrrNew': WHATEVER THE INPUT: true; the input reads as it did. -/
def drrNewSpec : ChangeSpec := { name := "drrNew", fn := fun _ => fun
  | [d1, d2] => { results := [.lit (.bool true)], args := [d1, d2] }
  | _ => none }
def drrNewRow : OpenClaim := { program := "ythkfdfkjenhjmaa", sum := "4dcec985dfd1c13f0a486f58ba16fc8e39b13a205e121158ac969d9ae2b48965", func := "packhorse/packhorselaw28.DrrNew", spec := "drrNew", unfollowed := true, recurses := true, apart := false }
def DrrNewSaid : Prop := drrNewRow.holds Try.pinned (OpenSpec.ofChange drrNewSpec)

/-- ITS FALSE NEIGHBOUR: 'it returns false'. Refute it at one input. -/
def drrNewWrong : ChangeSpec := { name := "drrNew", fn := fun _ => fun
  | [d1, d2] => { results := [.lit (.bool false)], args := [d1, d2] }
  | _ => none }
def DrrNewWrongFalsely : Prop := drrNewRow.holds Try.pinned (OpenSpec.ofChange drrNewWrong)

/-- 'packhorselaw28.DrrOrder': WHATEVER THE INPUT: true; the input reads as it did. -/
def drrOrderSpec : ChangeSpec := { name := "drrOrder", fn := fun _ => fun
  | [d1, d2, d3] => { results := [.lit (.bool true)], args := [d1, d2, d3] }
  | _ => none }
def drrOrderRow : OpenClaim := { program := "ythkfdfkjenhjmaa", sum := "4dcec985dfd1c13f0a486f58ba16fc8e39b13a205e121158ac969d9ae2b48965", func := "packhorse/packhorselaw28.DrrOrder", spec := "drrOrder", unfollowed := true, recurses := true, apart := false }
def DrrOrderSaid : Prop := drrOrderRow.holds Try.pinned (OpenSpec.ofChange drrOrderSpec)

/-- ITS FALSE NEIGHBOUR: 'it returns false'. Refute it at one input. -/
def drrOrderWrong : ChangeSpec := { name := "drrOrder", fn := fun _ => fun
  | [d1, d2, d3] => { results := [.lit (.bool false)], args := [d1, d2, d3] }
  | _ => none }
def DrrOrderWrongFalsely : Prop := drrOrderRow.holds Try.pinned (OpenSpec.ofChange drrOrderWrong)

/-- 'packhorselaw28.DrrKnown': WHATEVER THE INPUT: true; the input reads as it did. -/
def drrKnownSpec : ChangeSpec := { name := "drrKnown", fn := fun _ => fun
  | [] => { results := [.lit (.bool true)], args := [] }
  | _ => none }
def drrKnownRow : OpenClaim := { program := "ythkfdfkjenhjmaa", sum := "4dcec985dfd1c13f0a486f58ba16fc8e39b13a205e121158ac969d9ae2b48965", func := "packhorse/packhorselaw28.DrrKnown", spec := "drrKnown", unfollowed := true, recurses := true, apart := false }
def DrrKnownSaid : Prop := drrKnownRow.holds Try.pinned (OpenSpec.ofChange drrKnownSpec)

/-- ITS FALSE NEIGHBOUR: 'it returns false'. Refute it at one input. -/
def drrKnownWrong : ChangeSpec := { name := "drrKnown", fn := fun _ => fun
  | [] => { results := [.lit (.bool false)], args := [] }
  | _ => none }
def DrrKnownWrongFalsely : Prop := drrKnownRow.holds Try.pinned (OpenSpec.ofChange drrKnownWrong)

/-- 'packhorselaw28.DrrGives': WHATEVER THE INPUT: true; the input reads as it did. -/
def drrGivesSpec : ChangeSpec := { name := "drrGives", fn := fun _ => fun
  | [d1, d2, d3, d4, d5] => { results := [.lit (.bool true)], args := [d1, d2, d3, d4, d5] }
  | _ => none }
def drrGivesRow : OpenClaim := { program := "ythkfdfkjenhjmaa", sum := "4dcec985dfd1c13f0a486f58ba16fc8e39b13a205e121158ac969d9ae2b48965", func := "packhorse/packhorselaw28.DrrGives", spec := "drrGives", unfollowed := true, recurses := true, apart := false }
def DrrGivesSaid : Prop := drrGivesRow.holds Try.pinned (OpenSpec.ofChange drrGivesSpec)

/-- ITS FALSE NEIGHBOUR: 'it returns false'. Refute it at one input. -/
def drrGivesWrong : ChangeSpec := { name := "drrGives", fn := fun _ => fun
  | [d1, d2, d3, d4, d5] => { results := [.lit (.bool false)], args := [d1, d2, d3, d4, d5] }
  | _ => none }
def DrrGivesWrongFalsely : Prop := drrGivesRow.holds Try.pinned (OpenSpec.ofChange drrGivesWrong)

/-- 'packhorselaw28.DrrFair': WHATEVER THE INPUT: true; the input reads as it did. -/
def drrFairSpec : ChangeSpec := { name := "drrFair", fn := fun _ => fun
  | [d1, d2, d3, d4, d5] => { results := [.lit (.bool true)], args := [d1, d2, d3, d4, d5] }
  | _ => none }
def drrFairRow : OpenClaim := { program := "ythkfdfkjenhjmaa", sum := "4dcec985dfd1c13f0a486f58ba16fc8e39b13a205e121158ac969d9ae2b48965", func := "packhorse/packhorselaw28.DrrFair", spec := "drrFair", unfollowed := true, recurses := true, apart := false }
def DrrFairSaid : Prop := drrFairRow.holds Try.pinned (OpenSpec.ofChange drrFairSpec)

/-- ITS FALSE NEIGHBOUR: 'it returns false'. Refute it at one input. -/
def drrFairWrong : ChangeSpec := { name := "drrFair", fn := fun _ => fun
  | [d1, d2, d3, d4, d5] => { results := [.lit (.bool false)], args := [d1, d2, d3, d4, d5] }
  | _ => none }
def DrrFairWrongFalsely : Prop := drrFairRow.holds Try.pinned (OpenSpec.ofChange drrFairWrong)

/-- 'packhorselaw28.DrrOrders': WHATEVER THE INPUT: true; the input reads as it did. -/
def drrOrdersSpec : ChangeSpec := { name := "drrOrders", fn := fun _ => fun
  | [d1, d2, d3, d4, d5, d6] => { results := [.lit (.bool true)], args := [d1, d2, d3, d4, d5, d6] }
  | _ => none }
def drrOrdersRow : OpenClaim := { program := "ythkfdfkjenhjmaa", sum := "4dcec985dfd1c13f0a486f58ba16fc8e39b13a205e121158ac969d9ae2b48965", func := "packhorse/packhorselaw28.DrrOrders", spec := "drrOrders", unfollowed := true, recurses := true, apart := false }
def DrrOrdersSaid : Prop := drrOrdersRow.holds Try.pinned (OpenSpec.ofChange drrOrdersSpec)

/-- ITS FALSE NEIGHBOUR: 'it returns false'. Refute it at one input. -/
def drrOrdersWrong : ChangeSpec := { name := "drrOrders", fn := fun _ => fun
  | [d1, d2, d3, d4, d5, d6] => { results := [.lit (.bool false)], args := [d1, d2, d3, d4, d5, d6] }
  | _ => none }
def DrrOrdersWrongFalsely : Prop := drrOrdersRow.holds Try.pinned (OpenSpec.ofChange drrOrdersWrong)

/-- 'packhorselaw28.DrrAbsent': WHATEVER THE INPUT: true; the input reads as it did. -/
def drrAbsentSpec : ChangeSpec := { name := "drrAbsent", fn := fun _ => fun
  | [d1, d2, d3, d4, d5, d6, d7] => { results := [.lit (.bool true)], args := [d1, d2, d3, d4, d5, d6, d7] }
  | _ => none }
def drrAbsentRow : OpenClaim := { program := "ythkfdfkjenhjmaa", sum := "4dcec985dfd1c13f0a486f58ba16fc8e39b13a205e121158ac969d9ae2b48965", func := "packhorse/packhorselaw28.DrrAbsent", spec := "drrAbsent", unfollowed := true, recurses := true, apart := false }
def DrrAbsentSaid : Prop := drrAbsentRow.holds Try.pinned (OpenSpec.ofChange drrAbsentSpec)

/-- ITS FALSE NEIGHBOUR: 'it returns false'. Refute it at one input. -/
def drrAbsentWrong : ChangeSpec := { name := "drrAbsent", fn := fun _ => fun
  | [d1, d2, d3, d4, d5, d6, d7] => { results := [.lit (.bool false)], args := [d1, d2, d3, d4, d5, d6, d7] }
  | _ => none }
def DrrAbsentWrongFalsely : Prop := drrAbsentRow.holds Try.pinned (OpenSpec.ofChange drrAbsentWrong)

/- THE SECOND FORM. 'bulk': how many values and letters a reading holds, each counted each time it is reached (what is shared counts as often as it is met; a slice's spare places count too). A statement '..UptoSaid' is the law's where the arguments, and the package variables that the reading takes, are together of bulk at most 1048576: NARROWER than '..Said'. Prove '..Said' where nothing that the law and all that it calls make is longer than what came in: it says more and counts as full. Else prove '..UptoSaid'. A law counts once. -/
mutual
def uptoBulk {H : Type} : DataW H → Nat
  | .lit (.string bytes) => bytes.length + 1
  | .lit _ => 1
  | .nil => 1
  | .ptr d => uptoBulk d + 1
  | .slice elems spare => uptoBulkAll elems + uptoBulkAll spare + 1
  | .agg parts => uptoBulkAll parts + 1
  | .iface _ d => uptoBulk d + 1
  | .map entries => uptoBulkEntries entries + 1
  | .held _ => 1
def uptoBulkAll {H : Type} : List (DataW H) → Nat
  | [] => 0
  | d :: r => uptoBulk d + uptoBulkAll r
def uptoBulkEntries {H : Type} : List (Lit × DataW H) → Nat
  | [] => 0
  | x :: r => uptoBulkEntry x + uptoBulkEntries r
def uptoBulkEntry {H : Type} : Lit × DataW H → Nat
  | (.string bytes, d) => bytes.length + uptoBulk d + 1
  | (_, d) => uptoBulk d + 1
 end
def uptoSmall : (H : Type) → List (DataW H) → Bool := fun _ ds => decide (uptoBulkAll ds ≤ 1048576)
def OpenSpec.upto (s : _root_.Go.ChangeSpec) : _root_.Go.OpenSpec := { _root_.Go.OpenSpec.ofChange s with cond := some uptoSmall }

/-- 'packhorselaw28.DrrNext', WHERE WHAT IT READS IS OF BULK AT MOST 1048576: true; the input reads as it did. -/
def drrNextUptoRow : OpenClaim := { program := "ythkfdfkjenhjmaa", sum := "4dcec985dfd1c13f0a486f58ba16fc8e39b13a205e121158ac969d9ae2b48965", func := "packhorse/packhorselaw28.DrrNext", spec := "drrNext", unfollowed := true, recurses := true, apart := false, narrowed := true }
def DrrNextUptoSaid : Prop := drrNextUptoRow.holds Try.pinned (OpenSpec.upto drrNextSpec)

/-- 'packhorselaw28.DrrNew', WHERE WHAT IT READS IS OF BULK AT MOST 1048576: true; the input reads as it did. -/
def drrNewUptoRow : OpenClaim := { program := "ythkfdfkjenhjmaa", sum := "4dcec985dfd1c13f0a486f58ba16fc8e39b13a205e121158ac969d9ae2b48965", func := "packhorse/packhorselaw28.DrrNew", spec := "drrNew", unfollowed := true, recurses := true, apart := false, narrowed := true }
def DrrNewUptoSaid : Prop := drrNewUptoRow.holds Try.pinned (OpenSpec.upto drrNewSpec)

/-- 'packhorselaw28.DrrOrder', WHERE WHAT IT READS IS OF BULK AT MOST 1048576: true; the input reads as it did. -/
def drrOrderUptoRow : OpenClaim := { program := "ythkfdfkjenhjmaa", sum := "4dcec985dfd1c13f0a486f58ba16fc8e39b13a205e121158ac969d9ae2b48965", func := "packhorse/packhorselaw28.DrrOrder", spec := "drrOrder", unfollowed := true, recurses := true, apart := false, narrowed := true }
def DrrOrderUptoSaid : Prop := drrOrderUptoRow.holds Try.pinned (OpenSpec.upto drrOrderSpec)

/-- 'packhorselaw28.DrrKnown', WHERE WHAT IT READS IS OF BULK AT MOST 1048576: true; the input reads as it did. -/
def drrKnownUptoRow : OpenClaim := { program := "ythkfdfkjenhjmaa", sum := "4dcec985dfd1c13f0a486f58ba16fc8e39b13a205e121158ac969d9ae2b48965", func := "packhorse/packhorselaw28.DrrKnown", spec := "drrKnown", unfollowed := true, recurses := true, apart := false, narrowed := true }
def DrrKnownUptoSaid : Prop := drrKnownUptoRow.holds Try.pinned (OpenSpec.upto drrKnownSpec)

/-- 'packhorselaw28.DrrGives', WHERE WHAT IT READS IS OF BULK AT MOST 1048576: true; the input reads as it did. -/
def drrGivesUptoRow : OpenClaim := { program := "ythkfdfkjenhjmaa", sum := "4dcec985dfd1c13f0a486f58ba16fc8e39b13a205e121158ac969d9ae2b48965", func := "packhorse/packhorselaw28.DrrGives", spec := "drrGives", unfollowed := true, recurses := true, apart := false, narrowed := true }
def DrrGivesUptoSaid : Prop := drrGivesUptoRow.holds Try.pinned (OpenSpec.upto drrGivesSpec)

/-- 'packhorselaw28.DrrFair', WHERE WHAT IT READS IS OF BULK AT MOST 1048576: true; the input reads as it did. -/
def drrFairUptoRow : OpenClaim := { program := "ythkfdfkjenhjmaa", sum := "4dcec985dfd1c13f0a486f58ba16fc8e39b13a205e121158ac969d9ae2b48965", func := "packhorse/packhorselaw28.DrrFair", spec := "drrFair", unfollowed := true, recurses := true, apart := false, narrowed := true }
def DrrFairUptoSaid : Prop := drrFairUptoRow.holds Try.pinned (OpenSpec.upto drrFairSpec)

/-- 'packhorselaw28.DrrOrders', WHERE WHAT IT READS IS OF BULK AT MOST 1048576: true; the input reads as it did. -/
def drrOrdersUptoRow : OpenClaim := { program := "ythkfdfkjenhjmaa", sum := "4dcec985dfd1c13f0a486f58ba16fc8e39b13a205e121158ac969d9ae2b48965", func := "packhorse/packhorselaw28.DrrOrders", spec := "drrOrders", unfollowed := true, recurses := true, apart := false, narrowed := true }
def DrrOrdersUptoSaid : Prop := drrOrdersUptoRow.holds Try.pinned (OpenSpec.upto drrOrdersSpec)

/-- 'packhorselaw28.DrrAbsent', WHERE WHAT IT READS IS OF BULK AT MOST 1048576: true; the input reads as it did. -/
def drrAbsentUptoRow : OpenClaim := { program := "ythkfdfkjenhjmaa", sum := "4dcec985dfd1c13f0a486f58ba16fc8e39b13a205e121158ac969d9ae2b48965", func := "packhorse/packhorselaw28.DrrAbsent", spec := "drrAbsent", unfollowed := true, recurses := true, apart := false, narrowed := true }
def DrrAbsentUptoSaid : Prop := drrAbsentUptoRow.holds Try.pinned (OpenSpec.upto drrAbsentSpec)

end Rows
end Go.Proofs.Ythkfdfkjenhjmaa
