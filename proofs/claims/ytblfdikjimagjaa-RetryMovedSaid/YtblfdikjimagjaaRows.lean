/-
  No cell of these rows narrows 'for every input' (looked for: loops, veiled, ifaces, maps, wideKeys, modest, calm, conditions, laid).
  DERIVED. THE GIVEN ROWS OF THIS SEAT. 7 by the template 'for every input the law returns true; each argument reads behind the call as it read before'; 0 by the template 'total and deterministic' (their statements: YtblfdikjimagjaaTotals.lean).
  GIVEN WITH THE SEED: the statements are not yours to turn. If you find one false, say at which input.
  Laid BY PROGRAM, IN A SANDBOX (cutbox-rows.mjs): the forced cells as the released guide's own fill.sh prints them over the translation e2d43767820d76ec… (all of the seat's roots in one cut). By AI agents, Wed Nov 11 2026. No macro, syntax, notation, axiom, sorry.
-/
import Derived.Test.YtblfdikjimagjaaChecked
import GoSem.Claim
import GoSem.ClaimJoined
import GoSem.ClaimMapViews
import Derived.JoinedTies
import Derived.KernelRfl
namespace Go.Proofs.Ytblfdikjimagjaa
/- THE CELL 'sum', in the pinned program and in every row, IS THE sha256 OF THE DUMP (.gsa) THAT YtblfdikjimagjaaProg.lean LOADS. Nothing in Lean hashes anything: it is a label: what it is worth is what the hold of that sum in a sandbox is worth. -/
noncomputable def Try.pinned : Pinned := { name := "ytblfdikjimagjaa", sum := "e2d43767820d76ec3e1eb1ef7a87ed14c444f1ae4a0e4f00f599f84115176885", checked := Try.checked }
namespace Rows
def none {H : Type} : Left H := { results := [], args := [] }

/-- 'packhorselaw31.RetryWaits': WHATEVER THE INPUT: true; the input reads as it did. -/
def retryWaitsSpec : ChangeSpec := { name := "retryWaits", fn := fun _ => fun
  | [d1, d2, d3, d4] => { results := [.lit (.bool true)], args := [d1, d2, d3, d4] }
  | _ => none }
def retryWaitsRow : OpenClaim := { program := "ytblfdikjimagjaa", sum := "e2d43767820d76ec3e1eb1ef7a87ed14c444f1ae4a0e4f00f599f84115176885", func := "packhorse/packhorselaw31.RetryWaits", spec := "retryWaits", unfollowed := true, recurses := true, apart := false }
def RetryWaitsSaid : Prop := retryWaitsRow.holds Try.pinned (OpenSpec.ofChange retryWaitsSpec)

/-- ITS FALSE NEIGHBOUR: 'it returns false'. Refute it at one input. -/
def retryWaitsWrong : ChangeSpec := { name := "retryWaits", fn := fun _ => fun
  | [d1, d2, d3, d4] => { results := [.lit (.bool false)], args := [d1, d2, d3, d4] }
  | _ => none }
def RetryWaitsWrongFalsely : Prop := retryWaitsRow.holds Try.pinned (OpenSpec.ofChange retryWaitsWrong)

/-- 'packhorselaw31.RetryTimes': WHATEVER THE INPUT: true; the input reads as it did. -/
def retryTimesSpec : ChangeSpec := { name := "retryTimes", fn := fun _ => fun
  | [d1, d2, d3, d4] => { results := [.lit (.bool true)], args := [d1, d2, d3, d4] }
  | _ => none }
def retryTimesRow : OpenClaim := { program := "ytblfdikjimagjaa", sum := "e2d43767820d76ec3e1eb1ef7a87ed14c444f1ae4a0e4f00f599f84115176885", func := "packhorse/packhorselaw31.RetryTimes", spec := "retryTimes", unfollowed := true, recurses := true, apart := false }
def RetryTimesSaid : Prop := retryTimesRow.holds Try.pinned (OpenSpec.ofChange retryTimesSpec)

/-- ITS FALSE NEIGHBOUR: 'it returns false'. Refute it at one input. -/
def retryTimesWrong : ChangeSpec := { name := "retryTimes", fn := fun _ => fun
  | [d1, d2, d3, d4] => { results := [.lit (.bool false)], args := [d1, d2, d3, d4] }
  | _ => none }
def RetryTimesWrongFalsely : Prop := retryTimesRow.holds Try.pinned (OpenSpec.ofChange retryTimesWrong)

/-- 'packhorselaw31.RetryCounts': WHATEVER THE INPUT: true; the input reads as it did. -/
def retryCountsSpec : ChangeSpec := { name := "retryCounts", fn := fun _ => fun
  | [d1, d2, d3, d4] => { results := [.lit (.bool true)], args := [d1, d2, d3, d4] }
  | _ => none }
def retryCountsRow : OpenClaim := { program := "ytblfdikjimagjaa", sum := "e2d43767820d76ec3e1eb1ef7a87ed14c444f1ae4a0e4f00f599f84115176885", func := "packhorse/packhorselaw31.RetryCounts", spec := "retryCounts", unfollowed := true, recurses := true, apart := false }
def RetryCountsSaid : Prop := retryCountsRow.holds Try.pinned (OpenSpec.ofChange retryCountsSpec)

/-- ITS FALSE NEIGHBOUR: 'it returns false'. Refute it at one input. -/
def retryCountsWrong : ChangeSpec := { name := "retryCounts", fn := fun _ => fun
  | [d1, d2, d3, d4] => { results := [.lit (.bool false)], args := [d1, d2, d3, d4] }
  | _ => none }
def RetryCountsWrongFalsely : Prop := retryCountsRow.holds Try.pinned (OpenSpec.ofChange retryCountsWrong)

/-- 'packhorselaw31.RetryKnown': WHATEVER THE INPUT: true; the input reads as it did. -/
def retryKnownSpec : ChangeSpec := { name := "retryKnown", fn := fun _ => fun
  | [] => { results := [.lit (.bool true)], args := [] }
  | _ => none }
def retryKnownRow : OpenClaim := { program := "ytblfdikjimagjaa", sum := "e2d43767820d76ec3e1eb1ef7a87ed14c444f1ae4a0e4f00f599f84115176885", func := "packhorse/packhorselaw31.RetryKnown", spec := "retryKnown", unfollowed := true, recurses := true, apart := false }
def RetryKnownSaid : Prop := retryKnownRow.holds Try.pinned (OpenSpec.ofChange retryKnownSpec)

/-- ITS FALSE NEIGHBOUR: 'it returns false'. Refute it at one input. -/
def retryKnownWrong : ChangeSpec := { name := "retryKnown", fn := fun _ => fun
  | [] => { results := [.lit (.bool false)], args := [] }
  | _ => none }
def RetryKnownWrongFalsely : Prop := retryKnownRow.holds Try.pinned (OpenSpec.ofChange retryKnownWrong)

/-- 'packhorselaw31.RetryGrows': WHATEVER THE INPUT: true; the input reads as it did. -/
def retryGrowsSpec : ChangeSpec := { name := "retryGrows", fn := fun _ => fun
  | [d1, d2, d3] => { results := [.lit (.bool true)], args := [d1, d2, d3] }
  | _ => none }
def retryGrowsRow : OpenClaim := { program := "ytblfdikjimagjaa", sum := "e2d43767820d76ec3e1eb1ef7a87ed14c444f1ae4a0e4f00f599f84115176885", func := "packhorse/packhorselaw31.RetryGrows", spec := "retryGrows", unfollowed := true, recurses := true, apart := false }
def RetryGrowsSaid : Prop := retryGrowsRow.holds Try.pinned (OpenSpec.ofChange retryGrowsSpec)

/-- ITS FALSE NEIGHBOUR: 'it returns false'. Refute it at one input. -/
def retryGrowsWrong : ChangeSpec := { name := "retryGrows", fn := fun _ => fun
  | [d1, d2, d3] => { results := [.lit (.bool false)], args := [d1, d2, d3] }
  | _ => none }
def RetryGrowsWrongFalsely : Prop := retryGrowsRow.holds Try.pinned (OpenSpec.ofChange retryGrowsWrong)

/-- 'packhorselaw31.RetryDue': WHATEVER THE INPUT: true; the input reads as it did. -/
def retryDueSpec : ChangeSpec := { name := "retryDue", fn := fun _ => fun
  | [d1, d2, d3] => { results := [.lit (.bool true)], args := [d1, d2, d3] }
  | _ => none }
def retryDueRow : OpenClaim := { program := "ytblfdikjimagjaa", sum := "e2d43767820d76ec3e1eb1ef7a87ed14c444f1ae4a0e4f00f599f84115176885", func := "packhorse/packhorselaw31.RetryDue", spec := "retryDue", unfollowed := true, recurses := true, apart := false }
def RetryDueSaid : Prop := retryDueRow.holds Try.pinned (OpenSpec.ofChange retryDueSpec)

/-- ITS FALSE NEIGHBOUR: 'it returns false'. Refute it at one input. -/
def retryDueWrong : ChangeSpec := { name := "retryDue", fn := fun _ => fun
  | [d1, d2, d3] => { results := [.lit (.bool false)], args := [d1, d2, d3] }
  | _ => none }
def RetryDueWrongFalsely : Prop := retryDueRow.holds Try.pinned (OpenSpec.ofChange retryDueWrong)

/-- 'packhorselaw31.RetryMoved': WHATEVER THE INPUT: true; the input reads as it did. -/
def retryMovedSpec : ChangeSpec := { name := "retryMoved", fn := fun _ => fun
  | [d1, d2, d3, d4] => { results := [.lit (.bool true)], args := [d1, d2, d3, d4] }
  | _ => none }
def retryMovedRow : OpenClaim := { program := "ytblfdikjimagjaa", sum := "e2d43767820d76ec3e1eb1ef7a87ed14c444f1ae4a0e4f00f599f84115176885", func := "packhorse/packhorselaw31.RetryMoved", spec := "retryMoved", unfollowed := true, recurses := true, apart := false }
def RetryMovedSaid : Prop := retryMovedRow.holds Try.pinned (OpenSpec.ofChange retryMovedSpec)

/-- ITS FALSE NEIGHBOUR: 'it returns false'. Refute it at one input. -/
def retryMovedWrong : ChangeSpec := { name := "retryMoved", fn := fun _ => fun
  | [d1, d2, d3, d4] => { results := [.lit (.bool false)], args := [d1, d2, d3, d4] }
  | _ => none }
def RetryMovedWrongFalsely : Prop := retryMovedRow.holds Try.pinned (OpenSpec.ofChange retryMovedWrong)

/- THE SECOND FORM. 'bulk': how many values and letters a reading holds, each counted each time it is reached (what is shared counts as often as it is met; a slice's spare places count too). A statement '..UptoSaid' is the law's where the arguments, and the package variables that the reading takes, are together of bulk at most 1048576: NARROWER than '..Said'. Prove '..Said' where nothing that the law and all that it calls make is longer than what came in: it says more and counts as full. Else prove '..UptoSaid'. A law counts once. -/
mutual
def uptoBulk {H : Type} : DataW H → Nat
  | .lit (.string bytes) => bytes.length + 1
  | .lit _ => 1
  | .nil => 1
  | .ptr d => uptoBulk d + 1
  | .slice elems spare => uptoBulkAll elems + uptoBulkAll spare + 1
  | .agg parts => uptoBulkAll parts + 1
  | .iface _ d => uptoBulk d + 1
  | .map entries => uptoBulkEntries entries + 1
  | .held _ => 1
def uptoBulkAll {H : Type} : List (DataW H) → Nat
  | [] => 0
  | d :: r => uptoBulk d + uptoBulkAll r
def uptoBulkEntries {H : Type} : List (Lit × DataW H) → Nat
  | [] => 0
  | x :: r => uptoBulkEntry x + uptoBulkEntries r
def uptoBulkEntry {H : Type} : Lit × DataW H → Nat
  | (.string bytes, d) => bytes.length + uptoBulk d + 1
  | (_, d) => uptoBulk d + 1
 end
def uptoSmall : (H : Type) → List (DataW H) → Bool := fun _ ds => decide (uptoBulkAll ds ≤ 1048576)
def OpenSpec.upto (s : _root_.Go.ChangeSpec) : _root_.Go.OpenSpec := { _root_.Go.OpenSpec.ofChange s with cond := some uptoSmall }

/-- 'packhorselaw31.RetryWaits', WHERE WHAT IT READS IS OF BULK AT MOST 1048576: true; the input reads as it did. -/
def retryWaitsUptoRow : OpenClaim := { program := "ytblfdikjimagjaa", sum := "e2d43767820d76ec3e1eb1ef7a87ed14c444f1ae4a0e4f00f599f84115176885", func := "packhorse/packhorselaw31.RetryWaits", spec := "retryWaits", unfollowed := true, recurses := true, apart := false, narrowed := true }
def RetryWaitsUptoSaid : Prop := retryWaitsUptoRow.holds Try.pinned (OpenSpec.upto retryWaitsSpec)

/-- 'packhorselaw31.RetryTimes', WHERE WHAT IT READS IS OF BULK AT MOST 1048576: true; the input reads as it did. -/
def retryTimesUptoRow : OpenClaim := { program := "ytblfdikjimagjaa", sum := "e2d43767820d76ec3e1eb1ef7a87ed14c444f1ae4a0e4f00f599f84115176885", func := "packhorse/packhorselaw31.RetryTimes", spec := "retryTimes", unfollowed := true, recurses := true, apart := false, narrowed := true }
def RetryTimesUptoSaid : Prop := retryTimesUptoRow.holds Try.pinned (OpenSpec.upto retryTimesSpec)

/-- 'packhorselaw31.RetryCounts', WHERE WHAT IT READS IS OF BULK AT MOST 1048576: true; the input reads as it did. -/
def retryCountsUptoRow : OpenClaim := { program := "ytblfdikjimagjaa", sum := "e2d43767820d76ec3e1eb1ef7a87ed14c444f1ae4a0e4f00f599f84115176885", func := "packhorse/packhorselaw31.RetryCounts", spec := "retryCounts", unfollowed := true, recurses := true, apart := false, narrowed := true }
def RetryCountsUptoSaid : Prop := retryCountsUptoRow.holds Try.pinned (OpenSpec.upto retryCountsSpec)

/-- 'packhorselaw31.RetryKnown', WHERE WHAT IT READS IS OF BULK AT MOST 1048576: true; the input reads as it did. -/
def retryKnownUptoRow : OpenClaim := { program := "ytblfdikjimagjaa", sum := "e2d43767820d76ec3e1eb1ef7a87ed14c444f1ae4a0e4f00f599f84115176885", func := "packhorse/packhorselaw31.RetryKnown", spec := "retryKnown", unfollowed := true, recurses := true, apart := false, narrowed := true }
def RetryKnownUptoSaid : Prop := retryKnownUptoRow.holds Try.pinned (OpenSpec.upto retryKnownSpec)

/-- 'packhorselaw31.RetryGrows', WHERE WHAT IT READS IS OF BULK AT MOST 1048576: true; the input reads as it did. -/
def retryGrowsUptoRow : OpenClaim := { program := "ytblfdikjimagjaa", sum := "e2d43767820d76ec3e1eb1ef7a87ed14c444f1ae4a0e4f00f599f84115176885", func := "packhorse/packhorselaw31.RetryGrows", spec := "retryGrows", unfollowed := true, recurses := true, apart := false, narrowed := true }
def RetryGrowsUptoSaid : Prop := retryGrowsUptoRow.holds Try.pinned (OpenSpec.upto retryGrowsSpec)

/-- 'packhorselaw31.RetryDue', WHERE WHAT IT READS IS OF BULK AT MOST 1048576: true; the input reads as it did. -/
def retryDueUptoRow : OpenClaim := { program := "ytblfdikjimagjaa", sum := "e2d43767820d76ec3e1eb1ef7a87ed14c444f1ae4a0e4f00f599f84115176885", func := "packhorse/packhorselaw31.RetryDue", spec := "retryDue", unfollowed := true, recurses := true, apart := false, narrowed := true }
def RetryDueUptoSaid : Prop := retryDueUptoRow.holds Try.pinned (OpenSpec.upto retryDueSpec)

/-- 'packhorselaw31.RetryMoved', WHERE WHAT IT READS IS OF BULK AT MOST 1048576: true; the input reads as it did. -/
def retryMovedUptoRow : OpenClaim := { program := "ytblfdikjimagjaa", sum := "e2d43767820d76ec3e1eb1ef7a87ed14c444f1ae4a0e4f00f599f84115176885", func := "packhorse/packhorselaw31.RetryMoved", spec := "retryMoved", unfollowed := true, recurses := true, apart := false, narrowed := true }
def RetryMovedUptoSaid : Prop := retryMovedUptoRow.holds Try.pinned (OpenSpec.upto retryMovedSpec)

end Rows
end Go.Proofs.Ytblfdikjimagjaa
