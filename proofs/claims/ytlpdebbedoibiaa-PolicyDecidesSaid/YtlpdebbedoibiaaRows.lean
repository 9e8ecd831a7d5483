/-
  No cell of these rows narrows 'for every input' (looked for: loops, veiled, ifaces, maps, wideKeys, modest, calm, conditions, laid).
  DERIVED. THE GIVEN ROWS OF THIS SEAT. 6 by the template 'for every input the law returns true; each argument reads behind the call as it read before'; 0 by the template 'total and deterministic' (their statements: YtlpdebbedoibiaaTotals.lean).
  GIVEN WITH THE SEED: the statements are not yours to turn. If you find one false, say at which input.
  Laid BY PROGRAM, IN A SANDBOX (cutbox-rows.mjs): the forced cells as the released guide's own fill.sh prints them over the translation a740c0af178cd962… (all of the seat's roots in one cut). By AI agents, Wed Nov 11 2026. No macro, syntax, notation, axiom, sorry.
-/
import Derived.Test.YtlpdebbedoibiaaChecked
import GoSem.Claim
import GoSem.ClaimJoined
import GoSem.ClaimMapViews
import Derived.JoinedTies
import Derived.KernelRfl
namespace Go.Proofs.Ytlpdebbedoibiaa
/- THE CELL 'sum', in the pinned program and in every row, IS THE sha256 OF THE DUMP (.gsa) THAT YtlpdebbedoibiaaProg.lean LOADS. Nothing in Lean hashes anything: it is a label: what it is worth is what the hold of that sum in a sandbox is worth. -/
noncomputable def Try.pinned : Pinned := { name := "ytlpdebbedoibiaa", sum := "a740c0af178cd962028be9b2c703546d4ed82ea3f9767f48d2774fd747349fd5", checked := Try.checked }
namespace Rows
def none {H : Type} : Left H := { results := [], args := [] }

/-- 'packhorselaw33.PolicySums': WHATEVER THE INPUT: true; the input reads as it did. -/
def policySumsSpec : ChangeSpec := { name := "policySums", fn := fun _ => fun
  | [d1, d2, d3] => { results := [.lit (.bool true)], args := [d1, d2, d3] }
  | _ => none }
def policySumsRow : OpenClaim := { program := "ytlpdebbedoibiaa", sum := "a740c0af178cd962028be9b2c703546d4ed82ea3f9767f48d2774fd747349fd5", func := "packhorse/packhorselaw33.PolicySums", spec := "policySums", unfollowed := true, recurses := true, apart := false }
def PolicySumsSaid : Prop := policySumsRow.holds Try.pinned (OpenSpec.ofChange policySumsSpec)

/-- ITS FALSE NEIGHBOUR: 'it returns false'. Refute it at one input. -/
def policySumsWrong : ChangeSpec := { name := "policySums", fn := fun _ => fun
  | [d1, d2, d3] => { results := [.lit (.bool false)], args := [d1, d2, d3] }
  | _ => none }
def PolicySumsWrongFalsely : Prop := policySumsRow.holds Try.pinned (OpenSpec.ofChange policySumsWrong)

/-- 'packhorselaw33.PolicyTwice': WHATEVER THE INPUT: true; the input reads as it did. -/
def policyTwiceSpec : ChangeSpec := { name := "policyTwice", fn := fun _ => fun
  | [d1, d2, d3, d4] => { results := [.lit (.bool true)], args := [d1, d2, d3, d4] }
  | _ => none }
def policyTwiceRow : OpenClaim := { program := "ytlpdebbedoibiaa", sum := "a740c0af178cd962028be9b2c703546d4ed82ea3f9767f48d2774fd747349fd5", func := "packhorse/packhorselaw33.PolicyTwice", spec := "policyTwice", unfollowed := true, recurses := true, apart := false }
def PolicyTwiceSaid : Prop := policyTwiceRow.holds Try.pinned (OpenSpec.ofChange policyTwiceSpec)

/-- ITS FALSE NEIGHBOUR: 'it returns false'. Refute it at one input. -/
def policyTwiceWrong : ChangeSpec := { name := "policyTwice", fn := fun _ => fun
  | [d1, d2, d3, d4] => { results := [.lit (.bool false)], args := [d1, d2, d3, d4] }
  | _ => none }
def PolicyTwiceWrongFalsely : Prop := policyTwiceRow.holds Try.pinned (OpenSpec.ofChange policyTwiceWrong)

/-- 'packhorselaw33.PolicyDecides': WHATEVER THE INPUT: true; the input reads as it did. -/
def policyDecidesSpec : ChangeSpec := { name := "policyDecides", fn := fun _ => fun
  | [d1, d2, d3, d4] => { results := [.lit (.bool true)], args := [d1, d2, d3, d4] }
  | _ => none }
def policyDecidesRow : OpenClaim := { program := "ytlpdebbedoibiaa", sum := "a740c0af178cd962028be9b2c703546d4ed82ea3f9767f48d2774fd747349fd5", func := "packhorse/packhorselaw33.PolicyDecides", spec := "policyDecides", unfollowed := true, recurses := true, apart := false }
def PolicyDecidesSaid : Prop := policyDecidesRow.holds Try.pinned (OpenSpec.ofChange policyDecidesSpec)

/-- ITS FALSE NEIGHBOUR: 'it returns false'. Refute it at one input. -/
def policyDecidesWrong : ChangeSpec := { name := "policyDecides", fn := fun _ => fun
  | [d1, d2, d3, d4] => { results := [.lit (.bool false)], args := [d1, d2, d3, d4] }
  | _ => none }
def PolicyDecidesWrongFalsely : Prop := policyDecidesRow.holds Try.pinned (OpenSpec.ofChange policyDecidesWrong)

/-- 'packhorselaw33.PolicySafe': WHATEVER THE INPUT: true; the input reads as it did. -/
def policySafeSpec : ChangeSpec := { name := "policySafe", fn := fun _ => fun
  | [d1, d2, d3, d4] => { results := [.lit (.bool true)], args := [d1, d2, d3, d4] }
  | _ => none }
def policySafeRow : OpenClaim := { program := "ytlpdebbedoibiaa", sum := "a740c0af178cd962028be9b2c703546d4ed82ea3f9767f48d2774fd747349fd5", func := "packhorse/packhorselaw33.PolicySafe", spec := "policySafe", unfollowed := true, recurses := true, apart := false }
def PolicySafeSaid : Prop := policySafeRow.holds Try.pinned (OpenSpec.ofChange policySafeSpec)

/-- ITS FALSE NEIGHBOUR: 'it returns false'. Refute it at one input. -/
def policySafeWrong : ChangeSpec := { name := "policySafe", fn := fun _ => fun
  | [d1, d2, d3, d4] => { results := [.lit (.bool false)], args := [d1, d2, d3, d4] }
  | _ => none }
def PolicySafeWrongFalsely : Prop := policySafeRow.holds Try.pinned (OpenSpec.ofChange policySafeWrong)

/-- 'packhorselaw33.PolicyShares': WHATEVER THE INPUT: true; the input reads as it did. -/
def policySharesSpec : ChangeSpec := { name := "policyShares", fn := fun _ => fun
  | [d1, d2, d3] => { results := [.lit (.bool true)], args := [d1, d2, d3] }
  | _ => none }
def policySharesRow : OpenClaim := { program := "ytlpdebbedoibiaa", sum := "a740c0af178cd962028be9b2c703546d4ed82ea3f9767f48d2774fd747349fd5", func := "packhorse/packhorselaw33.PolicyShares", spec := "policyShares", unfollowed := true, recurses := true, apart := false }
def PolicySharesSaid : Prop := policySharesRow.holds Try.pinned (OpenSpec.ofChange policySharesSpec)

/-- ITS FALSE NEIGHBOUR: 'it returns false'. Refute it at one input. -/
def policySharesWrong : ChangeSpec := { name := "policyShares", fn := fun _ => fun
  | [d1, d2, d3] => { results := [.lit (.bool false)], args := [d1, d2, d3] }
  | _ => none }
def PolicySharesWrongFalsely : Prop := policySharesRow.holds Try.pinned (OpenSpec.ofChange policySharesWrong)

/-- 'packhorselaw33.PolicyKnown': WHATEVER THE INPUT: true; the input reads as it did. -/
def policyKnownSpec : ChangeSpec := { name := "policyKnown", fn := fun _ => fun
  | [] => { results := [.lit (.bool true)], args := [] }
  | _ => none }
def policyKnownRow : OpenClaim := { program := "ytlpdebbedoibiaa", sum := "a740c0af178cd962028be9b2c703546d4ed82ea3f9767f48d2774fd747349fd5", func := "packhorse/packhorselaw33.PolicyKnown", spec := "policyKnown", unfollowed := true, recurses := true, apart := false }
def PolicyKnownSaid : Prop := policyKnownRow.holds Try.pinned (OpenSpec.ofChange policyKnownSpec)

/-- ITS FALSE NEIGHBOUR: 'it returns false'. Refute it at one input. -/
def policyKnownWrong : ChangeSpec := { name := "policyKnown", fn := fun _ => fun
  | [] => { results := [.lit (.bool false)], args := [] }
  | _ => none }
def PolicyKnownWrongFalsely : Prop := policyKnownRow.holds Try.pinned (OpenSpec.ofChange policyKnownWrong)

/- THE SECOND FORM. 'bulk': how many values and letters a reading holds, each counted each time it is reached (what is shared counts as often as it is met; a slice's spare places count too). A statement '..UptoSaid' is the law's where the arguments, and the package variables that the reading takes, are together of bulk at most 1048576: NARROWER than '..Said'. Prove '..Said' where nothing that the law and all that it calls make is longer than what came in: it says more and counts as full. Else prove '..UptoSaid'. A law counts once. -/
mutual
def uptoBulk {H : Type} : DataW H → Nat
  | .lit (.string bytes) => bytes.length + 1
  | .lit _ => 1
  | .nil => 1
  | .ptr d => uptoBulk d + 1
  | .slice elems spare => uptoBulkAll elems + uptoBulkAll spare + 1
  | .agg parts => uptoBulkAll parts + 1
  | .iface _ d => uptoBulk d + 1
  | .map entries => uptoBulkEntries entries + 1
  | .held _ => 1
def uptoBulkAll {H : Type} : List (DataW H) → Nat
  | [] => 0
  | d :: r => uptoBulk d + uptoBulkAll r
def uptoBulkEntries {H : Type} : List (Lit × DataW H) → Nat
  | [] => 0
  | x :: r => uptoBulkEntry x + uptoBulkEntries r
def uptoBulkEntry {H : Type} : Lit × DataW H → Nat
  | (.string bytes, d) => bytes.length + uptoBulk d + 1
  | (_, d) => uptoBulk d + 1
 end
def uptoSmall : (H : Type) → List (DataW H) → Bool := fun _ ds => decide (uptoBulkAll ds ≤ 1048576)
def OpenSpec.upto (s : _root_.Go.ChangeSpec) : _root_.Go.OpenSpec := { _root_.Go.OpenSpec.ofChange s with cond := some uptoSmall }

/-- 'packhorselaw33.PolicySums', WHERE WHAT IT READS IS OF BULK AT MOST 1048576: true; the input reads as it did. -/
def policySumsUptoRow : OpenClaim := { program := "ytlpdebbedoibiaa", sum := "a740c0af178cd962028be9b2c703546d4ed82ea3f9767f48d2774fd747349fd5", func := "packhorse/packhorselaw33.PolicySums", spec := "policySums", unfollowed := true, recurses := true, apart := false, narrowed := true }
def PolicySumsUptoSaid : Prop := policySumsUptoRow.holds Try.pinned (OpenSpec.upto policySumsSpec)

/-- 'packhorselaw33.PolicyTwice', WHERE WHAT IT READS IS OF BULK AT MOST 1048576: true; the input reads as it did. -/
def policyTwiceUptoRow : OpenClaim := { program := "ytlpdebbedoibiaa", sum := "a740c0af178cd962028be9b2c703546d4ed82ea3f9767f48d2774fd747349fd5", func := "packhorse/packhorselaw33.PolicyTwice", spec := "policyTwice", unfollowed := true, recurses := true, apart := false, narrowed := true }
def PolicyTwiceUptoSaid : Prop := policyTwiceUptoRow.holds Try.pinned (OpenSpec.upto policyTwiceSpec)

/-- 'packhorselaw33.PolicyDecides', WHERE WHAT IT READS IS OF BULK AT MOST 1048576: true; the input reads as it did. -/
def policyDecidesUptoRow : OpenClaim := { program := "ytlpdebbedoibiaa", sum := "a740c0af178cd962028be9b2c703546d4ed82ea3f9767f48d2774fd747349fd5", func := "packhorse/packhorselaw33.PolicyDecides", spec := "policyDecides", unfollowed := true, recurses := true, apart := false, narrowed := true }
def PolicyDecidesUptoSaid : Prop := policyDecidesUptoRow.holds Try.pinned (OpenSpec.upto policyDecidesSpec)

/-- 'packhorselaw33.PolicySafe', WHERE WHAT IT READS IS OF BULK AT MOST 1048576: true; the input reads as it did. -/
def policySafeUptoRow : OpenClaim := { program := "ytlpdebbedoibiaa", sum := "a740c0af178cd962028be9b2c703546d4ed82ea3f9767f48d2774fd747349fd5", func := "packhorse/packhorselaw33.PolicySafe", spec := "policySafe", unfollowed := true, recurses := true, apart := false, narrowed := true }
def PolicySafeUptoSaid : Prop := policySafeUptoRow.holds Try.pinned (OpenSpec.upto policySafeSpec)

/-- 'packhorselaw33.PolicyShares', WHERE WHAT IT READS IS OF BULK AT MOST 1048576: true; the input reads as it did. -/
def policySharesUptoRow : OpenClaim := { program := "ytlpdebbedoibiaa", sum := "a740c0af178cd962028be9b2c703546d4ed82ea3f9767f48d2774fd747349fd5", func := "packhorse/packhorselaw33.PolicyShares", spec := "policyShares", unfollowed := true, recurses := true, apart := false, narrowed := true }
def PolicySharesUptoSaid : Prop := policySharesUptoRow.holds Try.pinned (OpenSpec.upto policySharesSpec)

/-- 'packhorselaw33.PolicyKnown', WHERE WHAT IT READS IS OF BULK AT MOST 1048576: true; the input reads as it did. -/
def policyKnownUptoRow : OpenClaim := { program := "ytlpdebbedoibiaa", sum := "a740c0af178cd962028be9b2c703546d4ed82ea3f9767f48d2774fd747349fd5", func := "packhorse/packhorselaw33.PolicyKnown", spec := "policyKnown", unfollowed := true, recurses := true, apart := false, narrowed := true }
def PolicyKnownUptoSaid : Prop := policyKnownUptoRow.holds Try.pinned (OpenSpec.upto policyKnownSpec)

end Rows
end Go.Proofs.Ytlpdebbedoibiaa
