/-
  No cell of these rows narrows 'for every input' (looked for: loops, veiled, ifaces, maps, wideKeys, modest, calm, conditions, laid).
  DERIVED. THE GIVEN ROWS OF THIS SEAT. 8 by the template 'for every input the law returns true; each argument reads behind the call as it read before'; 0 by the template 'total and deterministic' (their statements: YtfgkkflbpfocjaaTotals.lean).
  GIVEN WITH THE SEED: the statements are not yours to turn. If you find one false, say at which input.
  Laid BY PROGRAM, IN A SANDBOX (cutbox-rows.mjs): the forced cells as the released guide's own fill.sh prints them over the translation 772ef01c49a43472… (all of the seat's roots in one cut). By AI agents, Wed Nov 11 2026. No macro, syntax, notation, axiom, sorry.
-/
import Derived.Test.YtfgkkflbpfocjaaChecked
import GoSem.Claim
import GoSem.ClaimJoined
import GoSem.ClaimMapViews
import Derived.JoinedTies
import Derived.KernelRfl
namespace Go.Proofs.Ytfgkkflbpfocjaa
/- THE CELL 'sum', in the pinned program and in every row, IS THE sha256 OF THE DUMP (.gsa) THAT YtfgkkflbpfocjaaProg.lean LOADS. Nothing in Lean hashes anything: it is a label: what it is worth is what the hold of that sum in a sandbox is worth. -/
noncomputable def Try.pinned : Pinned := { name := "ytfgkkflbpfocjaa", sum := "772ef01c49a434723b7248f6fc30426f71fa8b679a4fd547c66ac53acebccae2", checked := Try.checked }
namespace Rows
def none {H : Type} : Left H := { results := [], args := [] }

/-- 'packhorselaw20.PeerHolds': WHATEVER THE INPUT: true; the input reads as it did. -/
def peerHoldsSpec : ChangeSpec := { name := "peerHolds", fn := fun _ => fun
  | [d1, d2, d3, d4] => { results := [.lit (.bool true)], args := [d1, d2, d3, d4] }
  | _ => none }
def peerHoldsRow : OpenClaim := { program := "ytfgkkflbpfocjaa", sum := "772ef01c49a434723b7248f6fc30426f71fa8b679a4fd547c66ac53acebccae2", func := "packhorse/packhorselaw20.PeerHolds", spec := "peerHolds", inPlace := ["math/bits.Add64"], unfollowed := true, recurses := true, apart := false }
def PeerHoldsSaid : Prop := peerHoldsRow.holds Try.pinned (OpenSpec.ofChange peerHoldsSpec)

/-- ITS FALSE NEIGHBOUR: 'it returns false'. Refute it at one input. -/
def peerHoldsWrong : ChangeSpec := { name := "peerHolds", fn := fun _ => fun
  | [d1, d2, d3, d4] => { results := [.lit (.bool false)], args := [d1, d2, d3, d4] }
  | _ => none }
def PeerHoldsWrongFalsely : Prop := peerHoldsRow.holds Try.pinned (OpenSpec.ofChange peerHoldsWrong)

/-- 'packhorselaw20.PeerCredit': WHATEVER THE INPUT: true; the input reads as it did. -/
def peerCreditSpec : ChangeSpec := { name := "peerCredit", fn := fun _ => fun
  | [d] => { results := [.lit (.bool true)], args := [d] }
  | _ => none }
def peerCreditRow : OpenClaim := { program := "ytfgkkflbpfocjaa", sum := "772ef01c49a434723b7248f6fc30426f71fa8b679a4fd547c66ac53acebccae2", func := "packhorse/packhorselaw20.PeerCredit", spec := "peerCredit", inPlace := ["math/bits.Add64"], unfollowed := true, recurses := true, apart := false }
def PeerCreditSaid : Prop := peerCreditRow.holds Try.pinned (OpenSpec.ofChange peerCreditSpec)

/-- ITS FALSE NEIGHBOUR: 'it returns false'. Refute it at one input. -/
def peerCreditWrong : ChangeSpec := { name := "peerCredit", fn := fun _ => fun
  | [d] => { results := [.lit (.bool false)], args := [d] }
  | _ => none }
def PeerCreditWrongFalsely : Prop := peerCreditRow.holds Try.pinned (OpenSpec.ofChange peerCreditWrong)

/-- 'packhorselaw20.PeerMeets': WHATEVER THE INPUT: true; the input reads as it did. -/
def peerMeetsSpec : ChangeSpec := { name := "peerMeets", fn := fun _ => fun
  | [d1, d2, d3] => { results := [.lit (.bool true)], args := [d1, d2, d3] }
  | _ => none }
def peerMeetsRow : OpenClaim := { program := "ytfgkkflbpfocjaa", sum := "772ef01c49a434723b7248f6fc30426f71fa8b679a4fd547c66ac53acebccae2", func := "packhorse/packhorselaw20.PeerMeets", spec := "peerMeets", unfollowed := true, recurses := true, apart := false }
def PeerMeetsSaid : Prop := peerMeetsRow.holds Try.pinned (OpenSpec.ofChange peerMeetsSpec)

/-- ITS FALSE NEIGHBOUR: 'it returns false'. Refute it at one input. -/
def peerMeetsWrong : ChangeSpec := { name := "peerMeets", fn := fun _ => fun
  | [d1, d2, d3] => { results := [.lit (.bool false)], args := [d1, d2, d3] }
  | _ => none }
def PeerMeetsWrongFalsely : Prop := peerMeetsRow.holds Try.pinned (OpenSpec.ofChange peerMeetsWrong)

/-- 'packhorselaw20.PeerOnce': WHATEVER THE INPUT: true; the input reads as it did. -/
def peerOnceSpec : ChangeSpec := { name := "peerOnce", fn := fun _ => fun
  | [d1, d2, d3, d4] => { results := [.lit (.bool true)], args := [d1, d2, d3, d4] }
  | _ => none }
def peerOnceRow : OpenClaim := { program := "ytfgkkflbpfocjaa", sum := "772ef01c49a434723b7248f6fc30426f71fa8b679a4fd547c66ac53acebccae2", func := "packhorse/packhorselaw20.PeerOnce", spec := "peerOnce", unfollowed := true, recurses := true, apart := false }
def PeerOnceSaid : Prop := peerOnceRow.holds Try.pinned (OpenSpec.ofChange peerOnceSpec)

/-- ITS FALSE NEIGHBOUR: 'it returns false'. Refute it at one input. -/
def peerOnceWrong : ChangeSpec := { name := "peerOnce", fn := fun _ => fun
  | [d1, d2, d3, d4] => { results := [.lit (.bool false)], args := [d1, d2, d3, d4] }
  | _ => none }
def PeerOnceWrongFalsely : Prop := peerOnceRow.holds Try.pinned (OpenSpec.ofChange peerOnceWrong)

/-- 'packhorselaw20.PeerMeeting': WHATEVER THE INPUT: true; the input reads as it did. -/
def peerMeetingSpec : ChangeSpec := { name := "peerMeeting", fn := fun _ => fun
  | [d1, d2, d3, d4, d5] => { results := [.lit (.bool true)], args := [d1, d2, d3, d4, d5] }
  | _ => none }
def peerMeetingRow : OpenClaim := { program := "ytfgkkflbpfocjaa", sum := "772ef01c49a434723b7248f6fc30426f71fa8b679a4fd547c66ac53acebccae2", func := "packhorse/packhorselaw20.PeerMeeting", spec := "peerMeeting", unfollowed := true, recurses := true, apart := false }
def PeerMeetingSaid : Prop := peerMeetingRow.holds Try.pinned (OpenSpec.ofChange peerMeetingSpec)

/-- ITS FALSE NEIGHBOUR: 'it returns false'. Refute it at one input. -/
def peerMeetingWrong : ChangeSpec := { name := "peerMeeting", fn := fun _ => fun
  | [d1, d2, d3, d4, d5] => { results := [.lit (.bool false)], args := [d1, d2, d3, d4, d5] }
  | _ => none }
def PeerMeetingWrongFalsely : Prop := peerMeetingRow.holds Try.pinned (OpenSpec.ofChange peerMeetingWrong)

/-- 'packhorselaw20.PeerRestart': WHATEVER THE INPUT: true; the input reads as it did. -/
def peerRestartSpec : ChangeSpec := { name := "peerRestart", fn := fun _ => fun
  | [d1, d2, d3] => { results := [.lit (.bool true)], args := [d1, d2, d3] }
  | _ => none }
def peerRestartRow : OpenClaim := { program := "ytfgkkflbpfocjaa", sum := "772ef01c49a434723b7248f6fc30426f71fa8b679a4fd547c66ac53acebccae2", func := "packhorse/packhorselaw20.PeerRestart", spec := "peerRestart", inPlace := ["math/bits.Add64"], unfollowed := true, recurses := true, apart := false }
def PeerRestartSaid : Prop := peerRestartRow.holds Try.pinned (OpenSpec.ofChange peerRestartSpec)

/-- ITS FALSE NEIGHBOUR: 'it returns false'. Refute it at one input. -/
def peerRestartWrong : ChangeSpec := { name := "peerRestart", fn := fun _ => fun
  | [d1, d2, d3] => { results := [.lit (.bool false)], args := [d1, d2, d3] }
  | _ => none }
def PeerRestartWrongFalsely : Prop := peerRestartRow.holds Try.pinned (OpenSpec.ofChange peerRestartWrong)

/-- 'packhorselaw20.PeerKnown': WHATEVER THE INPUT: true; the input reads as it did. -/
def peerKnownSpec : ChangeSpec := { name := "peerKnown", fn := fun _ => fun
  | [] => { results := [.lit (.bool true)], args := [] }
  | _ => none }
def peerKnownRow : OpenClaim := { program := "ytfgkkflbpfocjaa", sum := "772ef01c49a434723b7248f6fc30426f71fa8b679a4fd547c66ac53acebccae2", func := "packhorse/packhorselaw20.PeerKnown", spec := "peerKnown", inPlace := ["math/bits.Add64"], unfollowed := true, recurses := true, apart := false }
def PeerKnownSaid : Prop := peerKnownRow.holds Try.pinned (OpenSpec.ofChange peerKnownSpec)

/-- ITS FALSE NEIGHBOUR: 'it returns false'. Refute it at one input. -/
def peerKnownWrong : ChangeSpec := { name := "peerKnown", fn := fun _ => fun
  | [] => { results := [.lit (.bool false)], args := [] }
  | _ => none }
def PeerKnownWrongFalsely : Prop := peerKnownRow.holds Try.pinned (OpenSpec.ofChange peerKnownWrong)

/-- 'packhorselaw20.PeerFrames': WHATEVER THE INPUT: true; the input reads as it did. -/
def peerFramesSpec : ChangeSpec := { name := "peerFrames", fn := fun _ => fun
  | [d1, d2, d3] => { results := [.lit (.bool true)], args := [d1, d2, d3] }
  | _ => none }
def peerFramesRow : OpenClaim := { program := "ytfgkkflbpfocjaa", sum := "772ef01c49a434723b7248f6fc30426f71fa8b679a4fd547c66ac53acebccae2", func := "packhorse/packhorselaw20.PeerFrames", spec := "peerFrames", inPlace := ["math/bits.Add64"], unfollowed := true, recurses := true, apart := false }
def PeerFramesSaid : Prop := peerFramesRow.holds Try.pinned (OpenSpec.ofChange peerFramesSpec)

/-- ITS FALSE NEIGHBOUR: 'it returns false'. Refute it at one input. -/
def peerFramesWrong : ChangeSpec := { name := "peerFrames", fn := fun _ => fun
  | [d1, d2, d3] => { results := [.lit (.bool false)], args := [d1, d2, d3] }
  | _ => none }
def PeerFramesWrongFalsely : Prop := peerFramesRow.holds Try.pinned (OpenSpec.ofChange peerFramesWrong)

/- THE SECOND FORM. 'bulk': how many values and letters a reading holds, each counted each time it is reached (what is shared counts as often as it is met; a slice's spare places count too). A statement '..UptoSaid' is the law's where the arguments, and the package variables that the reading takes, are together of bulk at most 1048576: NARROWER than '..Said'. Prove '..Said' where nothing that the law and all that it calls make is longer than what came in: it says more and counts as full. Else prove '..UptoSaid'. A law counts once. -/
mutual
def uptoBulk {H : Type} : DataW H → Nat
  | .lit (.string bytes) => bytes.length + 1
  | .lit _ => 1
  | .nil => 1
  | .ptr d => uptoBulk d + 1
  | .slice elems spare => uptoBulkAll elems + uptoBulkAll spare + 1
  | .agg parts => uptoBulkAll parts + 1
  | .iface _ d => uptoBulk d + 1
  | .map entries => uptoBulkEntries entries + 1
  | .held _ => 1
def uptoBulkAll {H : Type} : List (DataW H) → Nat
  | [] => 0
  | d :: r => uptoBulk d + uptoBulkAll r
def uptoBulkEntries {H : Type} : List (Lit × DataW H) → Nat
  | [] => 0
  | x :: r => uptoBulkEntry x + uptoBulkEntries r
def uptoBulkEntry {H : Type} : Lit × DataW H → Nat
  | (.string bytes, d) => bytes.length + uptoBulk d + 1
  | (_, d) => uptoBulk d + 1
 end
def uptoSmall : (H : Type) → List (DataW H) → Bool := fun _ ds => decide (uptoBulkAll ds ≤ 1048576)
def OpenSpec.upto (s : _root_.Go.ChangeSpec) : _root_.Go.OpenSpec := { _root_.Go.OpenSpec.ofChange s with cond := some uptoSmall }

/-- 'packhorselaw20.PeerHolds', WHERE WHAT IT READS IS OF BULK AT MOST 1048576: true; the input reads as it did. -/
def peerHoldsUptoRow : OpenClaim := { program := "ytfgkkflbpfocjaa", sum := "772ef01c49a434723b7248f6fc30426f71fa8b679a4fd547c66ac53acebccae2", func := "packhorse/packhorselaw20.PeerHolds", spec := "peerHolds", inPlace := ["math/bits.Add64"], unfollowed := true, recurses := true, apart := false, narrowed := true }
def PeerHoldsUptoSaid : Prop := peerHoldsUptoRow.holds Try.pinned (OpenSpec.upto peerHoldsSpec)

/-- 'packhorselaw20.PeerCredit', WHERE WHAT IT READS IS OF BULK AT MOST 1048576: true; the input reads as it did. -/
def peerCreditUptoRow : OpenClaim := { program := "ytfgkkflbpfocjaa", sum := "772ef01c49a434723b7248f6fc30426f71fa8b679a4fd547c66ac53acebccae2", func := "packhorse/packhorselaw20.PeerCredit", spec := "peerCredit", inPlace := ["math/bits.Add64"], unfollowed := true, recurses := true, apart := false, narrowed := true }
def PeerCreditUptoSaid : Prop := peerCreditUptoRow.holds Try.pinned (OpenSpec.upto peerCreditSpec)

/-- 'packhorselaw20.PeerMeets', WHERE WHAT IT READS IS OF BULK AT MOST 1048576: true; the input reads as it did. -/
def peerMeetsUptoRow : OpenClaim := { program := "ytfgkkflbpfocjaa", sum := "772ef01c49a434723b7248f6fc30426f71fa8b679a4fd547c66ac53acebccae2", func := "packhorse/packhorselaw20.PeerMeets", spec := "peerMeets", unfollowed := true, recurses := true, apart := false, narrowed := true }
def PeerMeetsUptoSaid : Prop := peerMeetsUptoRow.holds Try.pinned (OpenSpec.upto peerMeetsSpec)

/-- 'packhorselaw20.PeerOnce', WHERE WHAT IT READS IS OF BULK AT MOST 1048576: true; the input reads as it did. -/
def peerOnceUptoRow : OpenClaim := { program := "ytfgkkflbpfocjaa", sum := "772ef01c49a434723b7248f6fc30426f71fa8b679a4fd547c66ac53acebccae2", func := "packhorse/packhorselaw20.PeerOnce", spec := "peerOnce", unfollowed := true, recurses := true, apart := false, narrowed := true }
def PeerOnceUptoSaid : Prop := peerOnceUptoRow.holds Try.pinned (OpenSpec.upto peerOnceSpec)

/-- 'packhorselaw20.PeerMeeting', WHERE WHAT IT READS IS OF BULK AT MOST 1048576: true; the input reads as it did. -/
def peerMeetingUptoRow : OpenClaim := { program := "ytfgkkflbpfocjaa", sum := "772ef01c49a434723b7248f6fc30426f71fa8b679a4fd547c66ac53acebccae2", func := "packhorse/packhorselaw20.PeerMeeting", spec := "peerMeeting", unfollowed := true, recurses := true, apart := false, narrowed := true }
def PeerMeetingUptoSaid : Prop := peerMeetingUptoRow.holds Try.pinned (OpenSpec.upto peerMeetingSpec)

/-- 'packhorselaw20.PeerRestart', WHERE WHAT IT READS IS OF BULK AT MOST 1048576: true; the input reads as it did. -/
def peerRestartUptoRow : OpenClaim := { program := "ytfgkkflbpfocjaa", sum := "772ef01c49a434723b7248f6fc30426f71fa8b679a4fd547c66ac53acebccae2", func := "packhorse/packhorselaw20.PeerRestart", spec := "peerRestart", inPlace := ["math/bits.Add64"], unfollowed := true, recurses := true, apart := false, narrowed := true }
def PeerRestartUptoSaid : Prop := peerRestartUptoRow.holds Try.pinned (OpenSpec.upto peerRestartSpec)

/-- 'packhorselaw20.PeerKnown', WHERE WHAT IT READS IS OF BULK AT MOST 1048576: true; the input reads as it did. -/
def peerKnownUptoRow : OpenClaim := { program := "ytfgkkflbpfocjaa", sum := "772ef01c49a434723b7248f6fc30426f71fa8b679a4fd547c66ac53acebccae2", func := "packhorse/packhorselaw20.PeerKnown", spec := "peerKnown", inPlace := ["math/bits.Add64"], unfollowed := true, recurses := true, apart := false, narrowed := true }
def PeerKnownUptoSaid : Prop := peerKnownUptoRow.holds Try.pinned (OpenSpec.upto peerKnownSpec)

/-- 'packhorselaw20.PeerFrames', WHERE WHAT IT READS IS OF BULK AT MOST 1048576: true; the input reads as it did. -/
def peerFramesUptoRow : OpenClaim := { program := "ytfgkkflbpfocjaa", sum := "772ef01c49a434723b7248f6fc30426f71fa8b679a4fd547c66ac53acebccae2", func := "packhorse/packhorselaw20.PeerFrames", spec := "peerFrames", inPlace := ["math/bits.Add64"], unfollowed := true, recurses := true, apart := false, narrowed := true }
def PeerFramesUptoSaid : Prop := peerFramesUptoRow.holds Try.pinned (OpenSpec.upto peerFramesSpec)

end Rows
end Go.Proofs.Ytfgkkflbpfocjaa
