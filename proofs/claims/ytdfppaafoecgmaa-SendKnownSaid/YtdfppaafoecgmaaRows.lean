/-
  No cell of these rows narrows 'for every input' (looked for: loops, veiled, ifaces, maps, wideKeys, modest, calm, conditions, laid).
  DERIVED. THE GIVEN ROWS OF THIS SEAT. 6 by the template 'for every input the law returns true; each argument reads behind the call as it read before'; 0 by the template 'total and deterministic' (their statements: YtdfppaafoecgmaaTotals.lean).
  GIVEN WITH THE SEED: the statements are not yours to turn. If you find one false, say at which input.
  Laid BY PROGRAM, IN A SANDBOX (cutbox-rows.mjs): the forced cells as the released guide's own fill.sh prints them over the translation 9267012001889479… (all of the seat's roots in one cut). By AI agents, Wed Nov 11 2026. No macro, syntax, notation, axiom, sorry.
-/
import Derived.Test.YtdfppaafoecgmaaChecked
import GoSem.Claim
import GoSem.ClaimJoined
import GoSem.ClaimMapViews
import Derived.JoinedTies
import Derived.KernelRfl
namespace Go.Proofs.Ytdfppaafoecgmaa
/- THE CELL 'sum', in the pinned program and in every row, IS THE sha256 OF THE DUMP (.gsa) THAT YtdfppaafoecgmaaProg.lean LOADS. Nothing in Lean hashes anything: it is a label: what it is worth is what the hold of that sum in a sandbox is worth. -/
noncomputable def Try.pinned : Pinned := { name := "ytdfppaafoecgmaa", sum := "92670120018894796275a0080fcf95141a670efb2445761ecc2e31b6cacff41f", checked := Try.checked }
namespace Rows
def none {H : Type} : Left H := { results := [], args := [] }

/-- 'packhorselaw18.SendAgain': WHATEVER THE INPUT: true; the input reads as it did. -/
def sendAgainSpec : ChangeSpec := { name := "sendAgain", fn := fun _ => fun
  | [d1, d2, d3] => { results := [.lit (.bool true)], args := [d1, d2, d3] }
  | _ => none }
def sendAgainRow : OpenClaim := { program := "ytdfppaafoecgmaa", sum := "92670120018894796275a0080fcf95141a670efb2445761ecc2e31b6cacff41f", func := "packhorse/packhorselaw18.SendAgain", spec := "sendAgain", unfollowed := true, recurses := true, apart := false }
def SendAgainSaid : Prop := sendAgainRow.holds Try.pinned (OpenSpec.ofChange sendAgainSpec)

/-- ITS FALSE NEIGHBOUR: 'it returns false'. Refute it at one input. -/
def sendAgainWrong : ChangeSpec := { name := "sendAgain", fn := fun _ => fun
  | [d1, d2, d3] => { results := [.lit (.bool false)], args := [d1, d2, d3] }
  | _ => none }
def SendAgainWrongFalsely : Prop := sendAgainRow.holds Try.pinned (OpenSpec.ofChange sendAgainWrong)

/-- 'packhorselaw18.SendGrants': WHATEVER THE INPUT: true; the input reads as it did. -/
def sendGrantsSpec : ChangeSpec := { name := "sendGrants", fn := fun _ => fun
  | [d1, d2, d3] => { results := [.lit (.bool true)], args := [d1, d2, d3] }
  | _ => none }
def sendGrantsRow : OpenClaim := { program := "ytdfppaafoecgmaa", sum := "92670120018894796275a0080fcf95141a670efb2445761ecc2e31b6cacff41f", func := "packhorse/packhorselaw18.SendGrants", spec := "sendGrants", unfollowed := true, recurses := true, apart := false }
def SendGrantsSaid : Prop := sendGrantsRow.holds Try.pinned (OpenSpec.ofChange sendGrantsSpec)

/-- ITS FALSE NEIGHBOUR: 'it returns false'. Refute it at one input. -/
def sendGrantsWrong : ChangeSpec := { name := "sendGrants", fn := fun _ => fun
  | [d1, d2, d3] => { results := [.lit (.bool false)], args := [d1, d2, d3] }
  | _ => none }
def SendGrantsWrongFalsely : Prop := sendGrantsRow.holds Try.pinned (OpenSpec.ofChange sendGrantsWrong)

/-- 'packhorselaw18.SendOffers': WHATEVER THE INPUT: true; the input reads as it did. -/
def sendOffersSpec : ChangeSpec := { name := "sendOffers", fn := fun _ => fun
  | [d1, d2, d3, d4] => { results := [.lit (.bool true)], args := [d1, d2, d3, d4] }
  | _ => none }
def sendOffersRow : OpenClaim := { program := "ytdfppaafoecgmaa", sum := "92670120018894796275a0080fcf95141a670efb2445761ecc2e31b6cacff41f", func := "packhorse/packhorselaw18.SendOffers", spec := "sendOffers", unfollowed := true, recurses := true, apart := false }
def SendOffersSaid : Prop := sendOffersRow.holds Try.pinned (OpenSpec.ofChange sendOffersSpec)

/-- ITS FALSE NEIGHBOUR: 'it returns false'. Refute it at one input. -/
def sendOffersWrong : ChangeSpec := { name := "sendOffers", fn := fun _ => fun
  | [d1, d2, d3, d4] => { results := [.lit (.bool false)], args := [d1, d2, d3, d4] }
  | _ => none }
def SendOffersWrongFalsely : Prop := sendOffersRow.holds Try.pinned (OpenSpec.ofChange sendOffersWrong)

/-- 'packhorselaw18.SendKnown': WHATEVER THE INPUT: true; the input reads as it did. -/
def sendKnownSpec : ChangeSpec := { name := "sendKnown", fn := fun _ => fun
  | [] => { results := [.lit (.bool true)], args := [] }
  | _ => none }
def sendKnownRow : OpenClaim := { program := "ytdfppaafoecgmaa", sum := "92670120018894796275a0080fcf95141a670efb2445761ecc2e31b6cacff41f", func := "packhorse/packhorselaw18.SendKnown", spec := "sendKnown", unfollowed := true, recurses := true, apart := false }
def SendKnownSaid : Prop := sendKnownRow.holds Try.pinned (OpenSpec.ofChange sendKnownSpec)

/-- ITS FALSE NEIGHBOUR: 'it returns false'. Refute it at one input. -/
def sendKnownWrong : ChangeSpec := { name := "sendKnown", fn := fun _ => fun
  | [] => { results := [.lit (.bool false)], args := [] }
  | _ => none }
def SendKnownWrongFalsely : Prop := sendKnownRow.holds Try.pinned (OpenSpec.ofChange sendKnownWrong)

/-- 'packhorselaw18.SendTotals': WHATEVER THE INPUT: true; the input reads as it did. -/
def sendTotalsSpec : ChangeSpec := { name := "sendTotals", fn := fun _ => fun
  | [d1, d2] => { results := [.lit (.bool true)], args := [d1, d2] }
  | _ => none }
def sendTotalsRow : OpenClaim := { program := "ytdfppaafoecgmaa", sum := "92670120018894796275a0080fcf95141a670efb2445761ecc2e31b6cacff41f", func := "packhorse/packhorselaw18.SendTotals", spec := "sendTotals", unfollowed := true, recurses := true, apart := false }
def SendTotalsSaid : Prop := sendTotalsRow.holds Try.pinned (OpenSpec.ofChange sendTotalsSpec)

/-- ITS FALSE NEIGHBOUR: 'it returns false'. Refute it at one input. -/
def sendTotalsWrong : ChangeSpec := { name := "sendTotals", fn := fun _ => fun
  | [d1, d2] => { results := [.lit (.bool false)], args := [d1, d2] }
  | _ => none }
def SendTotalsWrongFalsely : Prop := sendTotalsRow.holds Try.pinned (OpenSpec.ofChange sendTotalsWrong)

/-- 'packhorselaw18.SendFloor': WHATEVER THE INPUT: true; the input reads as it did. -/
def sendFloorSpec : ChangeSpec := { name := "sendFloor", fn := fun _ => fun
  | [d1, d2] => { results := [.lit (.bool true)], args := [d1, d2] }
  | _ => none }
def sendFloorRow : OpenClaim := { program := "ytdfppaafoecgmaa", sum := "92670120018894796275a0080fcf95141a670efb2445761ecc2e31b6cacff41f", func := "packhorse/packhorselaw18.SendFloor", spec := "sendFloor", unfollowed := true, recurses := true, apart := false }
def SendFloorSaid : Prop := sendFloorRow.holds Try.pinned (OpenSpec.ofChange sendFloorSpec)

/-- ITS FALSE NEIGHBOUR: 'it returns false'. Refute it at one input. -/
def sendFloorWrong : ChangeSpec := { name := "sendFloor", fn := fun _ => fun
  | [d1, d2] => { results := [.lit (.bool false)], args := [d1, d2] }
  | _ => none }
def SendFloorWrongFalsely : Prop := sendFloorRow.holds Try.pinned (OpenSpec.ofChange sendFloorWrong)

/- THE SECOND FORM. 'bulk': how many values and letters a reading holds, each counted each time it is reached (what is shared counts as often as it is met; a slice's spare places count too). A statement '..UptoSaid' is the law's where the arguments, and the package variables that the reading takes, are together of bulk at most 1048576: NARROWER than '..Said'. Prove '..Said' where nothing that the law and all that it calls make is longer than what came in: it says more and counts as full. Else prove '..UptoSaid'. A law counts once. -/
mutual
def uptoBulk {H : Type} : DataW H → Nat
  | .lit (.string bytes) => bytes.length + 1
  | .lit _ => 1
  | .nil => 1
  | .ptr d => uptoBulk d + 1
  | .slice elems spare => uptoBulkAll elems + uptoBulkAll spare + 1
  | .agg parts => uptoBulkAll parts + 1
  | .iface _ d => uptoBulk d + 1
  | .map entries => uptoBulkEntries entries + 1
  | .held _ => 1
def uptoBulkAll {H : Type} : List (DataW H) → Nat
  | [] => 0
  | d :: r => uptoBulk d + uptoBulkAll r
def uptoBulkEntries {H : Type} : List (Lit × DataW H) → Nat
  | [] => 0
  | x :: r => uptoBulkEntry x + uptoBulkEntries r
def uptoBulkEntry {H : Type} : Lit × DataW H → Nat
  | (.string bytes, d) => bytes.length + uptoBulk d + 1
  | (_, d) => uptoBulk d + 1
 end
def uptoSmall : (H : Type) → List (DataW H) → Bool := fun _ ds => decide (uptoBulkAll ds ≤ 1048576)
def OpenSpec.upto (s : _root_.Go.ChangeSpec) : _root_.Go.OpenSpec := { _root_.Go.OpenSpec.ofChange s with cond := some uptoSmall }

/-- 'packhorselaw18.SendAgain', WHERE WHAT IT READS IS OF BULK AT MOST 1048576: true; the input reads as it did. -/
def sendAgainUptoRow : OpenClaim := { program := "ytdfppaafoecgmaa", sum := "92670120018894796275a0080fcf95141a670efb2445761ecc2e31b6cacff41f", func := "packhorse/packhorselaw18.SendAgain", spec := "sendAgain", unfollowed := true, recurses := true, apart := false, narrowed := true }
def SendAgainUptoSaid : Prop := sendAgainUptoRow.holds Try.pinned (OpenSpec.upto sendAgainSpec)

/-- 'packhorselaw18.SendGrants', WHERE WHAT IT READS IS OF BULK AT MOST 1048576: true; the input reads as it did. -/
def sendGrantsUptoRow : OpenClaim := { program := "ytdfppaafoecgmaa", sum := "92670120018894796275a0080fcf95141a670efb2445761ecc2e31b6cacff41f", func := "packhorse/packhorselaw18.SendGrants", spec := "sendGrants", unfollowed := true, recurses := true, apart := false, narrowed := true }
def SendGrantsUptoSaid : Prop := sendGrantsUptoRow.holds Try.pinned (OpenSpec.upto sendGrantsSpec)

/-- 'packhorselaw18.SendOffers', WHERE WHAT IT READS IS OF BULK AT MOST 1048576: true; the input reads as it did. -/
def sendOffersUptoRow : OpenClaim := { program := "ytdfppaafoecgmaa", sum := "92670120018894796275a0080fcf95141a670efb2445761ecc2e31b6cacff41f", func := "packhorse/packhorselaw18.SendOffers", spec := "sendOffers", unfollowed := true, recurses := true, apart := false, narrowed := true }
def SendOffersUptoSaid : Prop := sendOffersUptoRow.holds Try.pinned (OpenSpec.upto sendOffersSpec)

/-- 'packhorselaw18.SendKnown', WHERE WHAT IT READS IS OF BULK AT MOST 1048576: true; the input reads as it did. -/
def sendKnownUptoRow : OpenClaim := { program := "ytdfppaafoecgmaa", sum := "92670120018894796275a0080fcf95141a670efb2445761ecc2e31b6cacff41f", func := "packhorse/packhorselaw18.SendKnown", spec := "sendKnown", unfollowed := true, recurses := true, apart := false, narrowed := true }
def SendKnownUptoSaid : Prop := sendKnownUptoRow.holds Try.pinned (OpenSpec.upto sendKnownSpec)

/-- 'packhorselaw18.SendTotals', WHERE WHAT IT READS IS OF BULK AT MOST 1048576: true; the input reads as it did. -/
def sendTotalsUptoRow : OpenClaim := { program := "ytdfppaafoecgmaa", sum := "92670120018894796275a0080fcf95141a670efb2445761ecc2e31b6cacff41f", func := "packhorse/packhorselaw18.SendTotals", spec := "sendTotals", unfollowed := true, recurses := true, apart := false, narrowed := true }
def SendTotalsUptoSaid : Prop := sendTotalsUptoRow.holds Try.pinned (OpenSpec.upto sendTotalsSpec)

/-- 'packhorselaw18.SendFloor', WHERE WHAT IT READS IS OF BULK AT MOST 1048576: true; the input reads as it did. -/
def sendFloorUptoRow : OpenClaim := { program := "ytdfppaafoecgmaa", sum := "92670120018894796275a0080fcf95141a670efb2445761ecc2e31b6cacff41f", func := "packhorse/packhorselaw18.SendFloor", spec := "sendFloor", unfollowed := true, recurses := true, apart := false, narrowed := true }
def SendFloorUptoSaid : Prop := sendFloorUptoRow.holds Try.pinned (OpenSpec.upto sendFloorSpec)

end Rows
end Go.Proofs.Ytdfppaafoecgmaa
