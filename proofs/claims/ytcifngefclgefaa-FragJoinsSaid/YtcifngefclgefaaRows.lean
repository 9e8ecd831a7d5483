/-
  No cell of these rows narrows 'for every input' (looked for: loops, veiled, ifaces, maps, wideKeys, modest, calm, conditions, laid).
  DERIVED. THE GIVEN ROWS OF THIS SEAT. 7 by the template 'for every input the law returns true; each argument reads behind the call as it read before'; 0 by the template 'total and deterministic' (their statements: YtcifngefclgefaaTotals.lean).
  GIVEN WITH THE SEED: the statements are not yours to turn. If you find one false, say at which input.
  Laid BY PROGRAM, IN A SANDBOX (cutbox-rows.mjs): the forced cells as the released guide's own fill.sh prints them over the translation bfa0b5136b5e70ca… (all of the seat's roots in one cut). By AI agents, Wed Nov 11 2026. No macro, syntax, notation, axiom, sorry.
-/
import Derived.Test.YtcifngefclgefaaChecked
import GoSem.Claim
import GoSem.ClaimJoined
import GoSem.ClaimMapViews
import Derived.JoinedTies
import Derived.KernelRfl
namespace Go.Proofs.Ytcifngefclgefaa
/- THE CELL 'sum', in the pinned program and in every row, IS THE sha256 OF THE DUMP (.gsa) THAT YtcifngefclgefaaProg.lean LOADS. Nothing in Lean hashes anything: it is a label: what it is worth is what the hold of that sum in a sandbox is worth. -/
noncomputable def Try.pinned : Pinned := { name := "ytcifngefclgefaa", sum := "bfa0b5136b5e70ca6bf730eefaa4233ef1f7391a2de8e8a4fb6881b22e2845c9", checked := Try.checked }
namespace Rows
def none {H : Type} : Left H := { results := [], args := [] }

/-- 'packhorselaw08.FragCuts': WHATEVER THE INPUT: true; the input reads as it did. -/
def fragCutsSpec : ChangeSpec := { name := "fragCuts", fn := fun _ => fun
  | [d1, d2, d3, d4, d5] => { results := [.lit (.bool true)], args := [d1, d2, d3, d4, d5] }
  | _ => none }
def fragCutsRow : OpenClaim := { program := "ytcifngefclgefaa", sum := "bfa0b5136b5e70ca6bf730eefaa4233ef1f7391a2de8e8a4fb6881b22e2845c9", func := "packhorse/packhorselaw08.FragCuts", spec := "fragCuts", unfollowed := true, recurses := true, apart := false }
def FragCutsSaid : Prop := fragCutsRow.holds Try.pinned (OpenSpec.ofChange fragCutsSpec)

/-- ITS FALSE NEIGHBOUR: 'it returns false'. Refute it at one input. -/
def fragCutsWrong : ChangeSpec := { name := "fragCuts", fn := fun _ => fun
  | [d1, d2, d3, d4, d5] => { results := [.lit (.bool false)], args := [d1, d2, d3, d4, d5] }
  | _ => none }
def FragCutsWrongFalsely : Prop := fragCutsRow.holds Try.pinned (OpenSpec.ofChange fragCutsWrong)

/-- 'packhorselaw08.FragJoins': WHATEVER THE INPUT: true; the input reads as it did. -/
def fragJoinsSpec : ChangeSpec := { name := "fragJoins", fn := fun _ => fun
  | [d1, d2] => { results := [.lit (.bool true)], args := [d1, d2] }
  | _ => none }
def fragJoinsRow : OpenClaim := { program := "ytcifngefclgefaa", sum := "bfa0b5136b5e70ca6bf730eefaa4233ef1f7391a2de8e8a4fb6881b22e2845c9", func := "packhorse/packhorselaw08.FragJoins", spec := "fragJoins", unfollowed := true, recurses := true, apart := false }
def FragJoinsSaid : Prop := fragJoinsRow.holds Try.pinned (OpenSpec.ofChange fragJoinsSpec)

/-- ITS FALSE NEIGHBOUR: 'it returns false'. Refute it at one input. -/
def fragJoinsWrong : ChangeSpec := { name := "fragJoins", fn := fun _ => fun
  | [d1, d2] => { results := [.lit (.bool false)], args := [d1, d2] }
  | _ => none }
def FragJoinsWrongFalsely : Prop := fragJoinsRow.holds Try.pinned (OpenSpec.ofChange fragJoinsWrong)

/-- 'packhorselaw08.FragKnown': WHATEVER THE INPUT: true; the input reads as it did. -/
def fragKnownSpec : ChangeSpec := { name := "fragKnown", fn := fun _ => fun
  | [] => { results := [.lit (.bool true)], args := [] }
  | _ => none }
def fragKnownRow : OpenClaim := { program := "ytcifngefclgefaa", sum := "bfa0b5136b5e70ca6bf730eefaa4233ef1f7391a2de8e8a4fb6881b22e2845c9", func := "packhorse/packhorselaw08.FragKnown", spec := "fragKnown", unfollowed := true, recurses := true, apart := false }
def FragKnownSaid : Prop := fragKnownRow.holds Try.pinned (OpenSpec.ofChange fragKnownSpec)

/-- ITS FALSE NEIGHBOUR: 'it returns false'. Refute it at one input. -/
def fragKnownWrong : ChangeSpec := { name := "fragKnown", fn := fun _ => fun
  | [] => { results := [.lit (.bool false)], args := [] }
  | _ => none }
def FragKnownWrongFalsely : Prop := fragKnownRow.holds Try.pinned (OpenSpec.ofChange fragKnownWrong)

/-- 'packhorselaw08.FragBack': WHATEVER THE INPUT: true; the input reads as it did. -/
def fragBackSpec : ChangeSpec := { name := "fragBack", fn := fun _ => fun
  | [d1, d2, d3] => { results := [.lit (.bool true)], args := [d1, d2, d3] }
  | _ => none }
def fragBackRow : OpenClaim := { program := "ytcifngefclgefaa", sum := "bfa0b5136b5e70ca6bf730eefaa4233ef1f7391a2de8e8a4fb6881b22e2845c9", func := "packhorse/packhorselaw08.FragBack", spec := "fragBack", unfollowed := true, recurses := true, apart := false }
def FragBackSaid : Prop := fragBackRow.holds Try.pinned (OpenSpec.ofChange fragBackSpec)

/-- ITS FALSE NEIGHBOUR: 'it returns false'. Refute it at one input. -/
def fragBackWrong : ChangeSpec := { name := "fragBack", fn := fun _ => fun
  | [d1, d2, d3] => { results := [.lit (.bool false)], args := [d1, d2, d3] }
  | _ => none }
def FragBackWrongFalsely : Prop := fragBackRow.holds Try.pinned (OpenSpec.ofChange fragBackWrong)

/-- 'packhorselaw08.FragWithout': WHATEVER THE INPUT: true; the input reads as it did. -/
def fragWithoutSpec : ChangeSpec := { name := "fragWithout", fn := fun _ => fun
  | [d1, d2, d3] => { results := [.lit (.bool true)], args := [d1, d2, d3] }
  | _ => none }
def fragWithoutRow : OpenClaim := { program := "ytcifngefclgefaa", sum := "bfa0b5136b5e70ca6bf730eefaa4233ef1f7391a2de8e8a4fb6881b22e2845c9", func := "packhorse/packhorselaw08.FragWithout", spec := "fragWithout", unfollowed := true, recurses := true, apart := false }
def FragWithoutSaid : Prop := fragWithoutRow.holds Try.pinned (OpenSpec.ofChange fragWithoutSpec)

/-- ITS FALSE NEIGHBOUR: 'it returns false'. Refute it at one input. -/
def fragWithoutWrong : ChangeSpec := { name := "fragWithout", fn := fun _ => fun
  | [d1, d2, d3] => { results := [.lit (.bool false)], args := [d1, d2, d3] }
  | _ => none }
def FragWithoutWrongFalsely : Prop := fragWithoutRow.holds Try.pinned (OpenSpec.ofChange fragWithoutWrong)

/-- 'packhorselaw08.FragSizes': WHATEVER THE INPUT: true; the input reads as it did. -/
def fragSizesSpec : ChangeSpec := { name := "fragSizes", fn := fun _ => fun
  | [d1, d2, d3] => { results := [.lit (.bool true)], args := [d1, d2, d3] }
  | _ => none }
def fragSizesRow : OpenClaim := { program := "ytcifngefclgefaa", sum := "bfa0b5136b5e70ca6bf730eefaa4233ef1f7391a2de8e8a4fb6881b22e2845c9", func := "packhorse/packhorselaw08.FragSizes", spec := "fragSizes", unfollowed := true, recurses := true, apart := false }
def FragSizesSaid : Prop := fragSizesRow.holds Try.pinned (OpenSpec.ofChange fragSizesSpec)

/-- ITS FALSE NEIGHBOUR: 'it returns false'. Refute it at one input. -/
def fragSizesWrong : ChangeSpec := { name := "fragSizes", fn := fun _ => fun
  | [d1, d2, d3] => { results := [.lit (.bool false)], args := [d1, d2, d3] }
  | _ => none }
def FragSizesWrongFalsely : Prop := fragSizesRow.holds Try.pinned (OpenSpec.ofChange fragSizesWrong)

/-- 'packhorselaw08.FragParts': WHATEVER THE INPUT: true; the input reads as it did. -/
def fragPartsSpec : ChangeSpec := { name := "fragParts", fn := fun _ => fun
  | [d1, d2, d3, d4] => { results := [.lit (.bool true)], args := [d1, d2, d3, d4] }
  | _ => none }
def fragPartsRow : OpenClaim := { program := "ytcifngefclgefaa", sum := "bfa0b5136b5e70ca6bf730eefaa4233ef1f7391a2de8e8a4fb6881b22e2845c9", func := "packhorse/packhorselaw08.FragParts", spec := "fragParts", unfollowed := true, recurses := true, apart := false }
def FragPartsSaid : Prop := fragPartsRow.holds Try.pinned (OpenSpec.ofChange fragPartsSpec)

/-- ITS FALSE NEIGHBOUR: 'it returns false'. Refute it at one input. -/
def fragPartsWrong : ChangeSpec := { name := "fragParts", fn := fun _ => fun
  | [d1, d2, d3, d4] => { results := [.lit (.bool false)], args := [d1, d2, d3, d4] }
  | _ => none }
def FragPartsWrongFalsely : Prop := fragPartsRow.holds Try.pinned (OpenSpec.ofChange fragPartsWrong)

/- THE SECOND FORM. 'bulk': how many values and letters a reading holds, each counted each time it is reached (what is shared counts as often as it is met; a slice's spare places count too). A statement '..UptoSaid' is the law's where the arguments, and the package variables that the reading takes, are together of bulk at most 1048576: NARROWER than '..Said'. Prove '..Said' where nothing that the law and all that it calls make is longer than what came in: it says more and counts as full. Else prove '..UptoSaid'. A law counts once. -/
mutual
def uptoBulk {H : Type} : DataW H → Nat
  | .lit (.string bytes) => bytes.length + 1
  | .lit _ => 1
  | .nil => 1
  | .ptr d => uptoBulk d + 1
  | .slice elems spare => uptoBulkAll elems + uptoBulkAll spare + 1
  | .agg parts => uptoBulkAll parts + 1
  | .iface _ d => uptoBulk d + 1
  | .map entries => uptoBulkEntries entries + 1
  | .held _ => 1
def uptoBulkAll {H : Type} : List (DataW H) → Nat
  | [] => 0
  | d :: r => uptoBulk d + uptoBulkAll r
def uptoBulkEntries {H : Type} : List (Lit × DataW H) → Nat
  | [] => 0
  | x :: r => uptoBulkEntry x + uptoBulkEntries r
def uptoBulkEntry {H : Type} : Lit × DataW H → Nat
  | (.string bytes, d) => bytes.length + uptoBulk d + 1
  | (_, d) => uptoBulk d + 1
 end
def uptoSmall : (H : Type) → List (DataW H) → Bool := fun _ ds => decide (uptoBulkAll ds ≤ 1048576)
def OpenSpec.upto (s : _root_.Go.ChangeSpec) : _root_.Go.OpenSpec := { _root_.Go.OpenSpec.ofChange s with cond := some uptoSmall }

/-- 'packhorselaw08.FragCuts', WHERE WHAT IT READS IS OF BULK AT MOST 1048576: true; the input reads as it did. -/
def fragCutsUptoRow : OpenClaim := { program := "ytcifngefclgefaa", sum := "bfa0b5136b5e70ca6bf730eefaa4233ef1f7391a2de8e8a4fb6881b22e2845c9", func := "packhorse/packhorselaw08.FragCuts", spec := "fragCuts", unfollowed := true, recurses := true, apart := false, narrowed := true }
def FragCutsUptoSaid : Prop := fragCutsUptoRow.holds Try.pinned (OpenSpec.upto fragCutsSpec)

/-- 'packhorselaw08.FragJoins', WHERE WHAT IT READS IS OF BULK AT MOST 1048576: true; the input reads as it did. -/
def fragJoinsUptoRow : OpenClaim := { program := "ytcifngefclgefaa", sum := "bfa0b5136b5e70ca6bf730eefaa4233ef1f7391a2de8e8a4fb6881b22e2845c9", func := "packhorse/packhorselaw08.FragJoins", spec := "fragJoins", unfollowed := true, recurses := true, apart := false, narrowed := true }
def FragJoinsUptoSaid : Prop := fragJoinsUptoRow.holds Try.pinned (OpenSpec.upto fragJoinsSpec)

/-- 'packhorselaw08.FragKnown', WHERE WHAT IT READS IS OF BULK AT MOST 1048576: true; the input reads as it did. -/
def fragKnownUptoRow : OpenClaim := { program := "ytcifngefclgefaa", sum := "bfa0b5136b5e70ca6bf730eefaa4233ef1f7391a2de8e8a4fb6881b22e2845c9", func := "packhorse/packhorselaw08.FragKnown", spec := "fragKnown", unfollowed := true, recurses := true, apart := false, narrowed := true }
def FragKnownUptoSaid : Prop := fragKnownUptoRow.holds Try.pinned (OpenSpec.upto fragKnownSpec)

/-- 'packhorselaw08.FragBack', WHERE WHAT IT READS IS OF BULK AT MOST 1048576: true; the input reads as it did. -/
def fragBackUptoRow : OpenClaim := { program := "ytcifngefclgefaa", sum := "bfa0b5136b5e70ca6bf730eefaa4233ef1f7391a2de8e8a4fb6881b22e2845c9", func := "packhorse/packhorselaw08.FragBack", spec := "fragBack", unfollowed := true, recurses := true, apart := false, narrowed := true }
def FragBackUptoSaid : Prop := fragBackUptoRow.holds Try.pinned (OpenSpec.upto fragBackSpec)

/-- 'packhorselaw08.FragWithout', WHERE WHAT IT READS IS OF BULK AT MOST 1048576: true; the input reads as it did. -/
def fragWithoutUptoRow : OpenClaim := { program := "ytcifngefclgefaa", sum := "bfa0b5136b5e70ca6bf730eefaa4233ef1f7391a2de8e8a4fb6881b22e2845c9", func := "packhorse/packhorselaw08.FragWithout", spec := "fragWithout", unfollowed := true, recurses := true, apart := false, narrowed := true }
def FragWithoutUptoSaid : Prop := fragWithoutUptoRow.holds Try.pinned (OpenSpec.upto fragWithoutSpec)

/-- 'packhorselaw08.FragSizes', WHERE WHAT IT READS IS OF BULK AT MOST 1048576: true; the input reads as it did. -/
def fragSizesUptoRow : OpenClaim := { program := "ytcifngefclgefaa", sum := "bfa0b5136b5e70ca6bf730eefaa4233ef1f7391a2de8e8a4fb6881b22e2845c9", func := "packhorse/packhorselaw08.FragSizes", spec := "fragSizes", unfollowed := true, recurses := true, apart := false, narrowed := true }
def FragSizesUptoSaid : Prop := fragSizesUptoRow.holds Try.pinned (OpenSpec.upto fragSizesSpec)

/-- 'packhorselaw08.FragParts', WHERE WHAT IT READS IS OF BULK AT MOST 1048576: true; the input reads as it did. -/
def fragPartsUptoRow : OpenClaim := { program := "ytcifngefclgefaa", sum := "bfa0b5136b5e70ca6bf730eefaa4233ef1f7391a2de8e8a4fb6881b22e2845c9", func := "packhorse/packhorselaw08.FragParts", spec := "fragParts", unfollowed := true, recurses := true, apart := false, narrowed := true }
def FragPartsUptoSaid : Prop := fragPartsUptoRow.holds Try.pinned (OpenSpec.upto fragPartsSpec)

end Rows
end Go.Proofs.Ytcifngefclgefaa
