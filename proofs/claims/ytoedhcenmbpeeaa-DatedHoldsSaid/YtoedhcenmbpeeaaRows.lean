/-
  No cell of these rows narrows 'for every input' (looked for: loops, veiled, ifaces, maps, wideKeys, modest, calm, conditions, laid).
  DERIVED. THE GIVEN ROWS OF THIS SEAT. 6 by the template 'for every input the law returns true; each argument reads behind the call as it read before'; 0 by the template 'total and deterministic' (their statements: YtoedhcenmbpeeaaTotals.lean).
  GIVEN WITH THE SEED: the statements are not yours to turn. If you find one false, say at which input.
  Laid BY PROGRAM, IN A SANDBOX (cutbox-rows.mjs): the forced cells as the released guide's own fill.sh prints them over the translation 3dd43689fb4e7aa7… (all of the seat's roots in one cut). By AI agents, Wed Nov 11 2026. No macro, syntax, notation, axiom, sorry.
-/
import Derived.Test.YtoedhcenmbpeeaaChecked
import GoSem.Claim
import GoSem.ClaimJoined
import GoSem.ClaimMapViews
import Derived.JoinedTies
import Derived.KernelRfl
namespace Go.Proofs.Ytoedhcenmbpeeaa
/- THE CELL 'sum', in the pinned program and in every row, IS THE sha256 OF THE DUMP (.gsa) THAT YtoedhcenmbpeeaaProg.lean LOADS. Nothing in Lean hashes anything: it is a label: what it is worth is what the hold of that sum in a sandbox is worth. -/
noncomputable def Try.pinned : Pinned := { name := "ytoedhcenmbpeeaa", sum := "3dd43689fb4e7aa7a707458dcbee9bd82a58800709c2e5745700799da7313682", checked := Try.checked }
namespace Rows
def none {H : Type} : Left H := { results := [], args := [] }

/-- 'apportionlaw19.DatedShort': WHATEVER THE INPUT: true; the input reads as it did. -/
def datedShortSpec : ChangeSpec := { name := "datedShort", fn := fun _ => fun
  | [d1, d2] => { results := [.lit (.bool true)], args := [d1, d2] }
  | _ => none }
def datedShortRow : OpenClaim := { program := "ytoedhcenmbpeeaa", sum := "3dd43689fb4e7aa7a707458dcbee9bd82a58800709c2e5745700799da7313682", func := "apportion/apportionlaw19.DatedShort", spec := "datedShort", unfollowed := true, recurses := true, apart := false }
def DatedShortSaid : Prop := datedShortRow.holds Try.pinned (OpenSpec.ofChange datedShortSpec)

/-- ITS FALSE NEIGHBOUR: 'it returns false'. Refute it at one input. -/
def datedShortWrong : ChangeSpec := { name := "datedShort", fn := fun _ => fun
  | [d1, d2] => { results := [.lit (.bool false)], args := [d1, d2] }
  | _ => none }
def DatedShortWrongFalsely : Prop := datedShortRow.holds Try.pinned (OpenSpec.ofChange datedShortWrong)

/-- 'apportionlaw19.DatedTells': WHATEVER THE INPUT: true; the input reads as it did. -/
def datedTellsSpec : ChangeSpec := { name := "datedTells", fn := fun _ => fun
  | [d1, d2, d3] => { results := [.lit (.bool true)], args := [d1, d2, d3] }
  | _ => none }
def datedTellsRow : OpenClaim := { program := "ytoedhcenmbpeeaa", sum := "3dd43689fb4e7aa7a707458dcbee9bd82a58800709c2e5745700799da7313682", func := "apportion/apportionlaw19.DatedTells", spec := "datedTells", unfollowed := true, recurses := true, apart := false }
def DatedTellsSaid : Prop := datedTellsRow.holds Try.pinned (OpenSpec.ofChange datedTellsSpec)

/-- ITS FALSE NEIGHBOUR: 'it returns false'. Refute it at one input. -/
def datedTellsWrong : ChangeSpec := { name := "datedTells", fn := fun _ => fun
  | [d1, d2, d3] => { results := [.lit (.bool false)], args := [d1, d2, d3] }
  | _ => none }
def DatedTellsWrongFalsely : Prop := datedTellsRow.holds Try.pinned (OpenSpec.ofChange datedTellsWrong)

/-- 'apportionlaw19.DatedSpans': WHATEVER THE INPUT: true; the input reads as it did. -/
def datedSpansSpec : ChangeSpec := { name := "datedSpans", fn := fun _ => fun
  | [d1, d2, d3, d4] => { results := [.lit (.bool true)], args := [d1, d2, d3, d4] }
  | _ => none }
def datedSpansRow : OpenClaim := { program := "ytoedhcenmbpeeaa", sum := "3dd43689fb4e7aa7a707458dcbee9bd82a58800709c2e5745700799da7313682", func := "apportion/apportionlaw19.DatedSpans", spec := "datedSpans", unfollowed := true, recurses := true, apart := false }
def DatedSpansSaid : Prop := datedSpansRow.holds Try.pinned (OpenSpec.ofChange datedSpansSpec)

/-- ITS FALSE NEIGHBOUR: 'it returns false'. Refute it at one input. -/
def datedSpansWrong : ChangeSpec := { name := "datedSpans", fn := fun _ => fun
  | [d1, d2, d3, d4] => { results := [.lit (.bool false)], args := [d1, d2, d3, d4] }
  | _ => none }
def DatedSpansWrongFalsely : Prop := datedSpansRow.holds Try.pinned (OpenSpec.ofChange datedSpansWrong)

/-- 'apportionlaw19.DatedPuts': WHATEVER THE INPUT: true; the input reads as it did. -/
def datedPutsSpec : ChangeSpec := { name := "datedPuts", fn := fun _ => fun
  | [d1, d2, d3] => { results := [.lit (.bool true)], args := [d1, d2, d3] }
  | _ => none }
def datedPutsRow : OpenClaim := { program := "ytoedhcenmbpeeaa", sum := "3dd43689fb4e7aa7a707458dcbee9bd82a58800709c2e5745700799da7313682", func := "apportion/apportionlaw19.DatedPuts", spec := "datedPuts", inPlace := ["slices.overlaps[apportion/api.Dated]"], unfollowed := true, recurses := true, apart := false }
def DatedPutsSaid : Prop := datedPutsRow.holds Try.pinned (OpenSpec.ofChange datedPutsSpec)

/-- ITS FALSE NEIGHBOUR: 'it returns false'. Refute it at one input. -/
def datedPutsWrong : ChangeSpec := { name := "datedPuts", fn := fun _ => fun
  | [d1, d2, d3] => { results := [.lit (.bool false)], args := [d1, d2, d3] }
  | _ => none }
def DatedPutsWrongFalsely : Prop := datedPutsRow.holds Try.pinned (OpenSpec.ofChange datedPutsWrong)

/-- 'apportionlaw19.DatedKnown': WHATEVER THE INPUT: true; the input reads as it did. -/
def datedKnownSpec : ChangeSpec := { name := "datedKnown", fn := fun _ => fun
  | [] => { results := [.lit (.bool true)], args := [] }
  | _ => none }
def datedKnownRow : OpenClaim := { program := "ytoedhcenmbpeeaa", sum := "3dd43689fb4e7aa7a707458dcbee9bd82a58800709c2e5745700799da7313682", func := "apportion/apportionlaw19.DatedKnown", spec := "datedKnown", inPlace := ["slices.overlaps[apportion/api.Dated]"], unfollowed := true, recurses := true, apart := false }
def DatedKnownSaid : Prop := datedKnownRow.holds Try.pinned (OpenSpec.ofChange datedKnownSpec)

/-- ITS FALSE NEIGHBOUR: 'it returns false'. Refute it at one input. -/
def datedKnownWrong : ChangeSpec := { name := "datedKnown", fn := fun _ => fun
  | [] => { results := [.lit (.bool false)], args := [] }
  | _ => none }
def DatedKnownWrongFalsely : Prop := datedKnownRow.holds Try.pinned (OpenSpec.ofChange datedKnownWrong)

/-- 'apportionlaw19.DatedHolds': WHATEVER THE INPUT: true; the input reads as it did. -/
def datedHoldsSpec : ChangeSpec := { name := "datedHolds", fn := fun _ => fun
  | [d1, d2, d3, d4] => { results := [.lit (.bool true)], args := [d1, d2, d3, d4] }
  | _ => none }
def datedHoldsRow : OpenClaim := { program := "ytoedhcenmbpeeaa", sum := "3dd43689fb4e7aa7a707458dcbee9bd82a58800709c2e5745700799da7313682", func := "apportion/apportionlaw19.DatedHolds", spec := "datedHolds", inPlace := ["slices.overlaps[apportion/api.Dated]"], unfollowed := true, recurses := true, apart := false }
def DatedHoldsSaid : Prop := datedHoldsRow.holds Try.pinned (OpenSpec.ofChange datedHoldsSpec)

/-- ITS FALSE NEIGHBOUR: 'it returns false'. Refute it at one input. -/
def datedHoldsWrong : ChangeSpec := { name := "datedHolds", fn := fun _ => fun
  | [d1, d2, d3, d4] => { results := [.lit (.bool false)], args := [d1, d2, d3, d4] }
  | _ => none }
def DatedHoldsWrongFalsely : Prop := datedHoldsRow.holds Try.pinned (OpenSpec.ofChange datedHoldsWrong)

/- THE SECOND FORM. 'bulk': how many values and letters a reading holds, each counted each time it is reached (what is shared counts as often as it is met; a slice's spare places count too). A statement '..UptoSaid' is the law's where the arguments, and the package variables that the reading takes, are together of bulk at most 1048576: NARROWER than '..Said'. Prove '..Said' where nothing that the law and all that it calls make is longer than what came in: it says more and counts as full. Else prove '..UptoSaid'. A law counts once. -/
mutual
def uptoBulk {H : Type} : DataW H → Nat
  | .lit (.string bytes) => bytes.length + 1
  | .lit _ => 1
  | .nil => 1
  | .ptr d => uptoBulk d + 1
  | .slice elems spare => uptoBulkAll elems + uptoBulkAll spare + 1
  | .agg parts => uptoBulkAll parts + 1
  | .iface _ d => uptoBulk d + 1
  | .map entries => uptoBulkEntries entries + 1
  | .held _ => 1
def uptoBulkAll {H : Type} : List (DataW H) → Nat
  | [] => 0
  | d :: r => uptoBulk d + uptoBulkAll r
def uptoBulkEntries {H : Type} : List (Lit × DataW H) → Nat
  | [] => 0
  | x :: r => uptoBulkEntry x + uptoBulkEntries r
def uptoBulkEntry {H : Type} : Lit × DataW H → Nat
  | (.string bytes, d) => bytes.length + uptoBulk d + 1
  | (_, d) => uptoBulk d + 1
 end
def uptoSmall : (H : Type) → List (DataW H) → Bool := fun _ ds => decide (uptoBulkAll ds ≤ 1048576)
def OpenSpec.upto (s : _root_.Go.ChangeSpec) : _root_.Go.OpenSpec := { _root_.Go.OpenSpec.ofChange s with cond := some uptoSmall }

/-- 'apportionlaw19.DatedShort', WHERE WHAT IT READS IS OF BULK AT MOST 1048576: true; the input reads as it did. -/
def datedShortUptoRow : OpenClaim := { program := "ytoedhcenmbpeeaa", sum := "3dd43689fb4e7aa7a707458dcbee9bd82a58800709c2e5745700799da7313682", func := "apportion/apportionlaw19.DatedShort", spec := "datedShort", unfollowed := true, recurses := true, apart := false, narrowed := true }
def DatedShortUptoSaid : Prop := datedShortUptoRow.holds Try.pinned (OpenSpec.upto datedShortSpec)

/-- 'apportionlaw19.DatedTells', WHERE WHAT IT READS IS OF BULK AT MOST 1048576: true; the input reads as it did. -/
def datedTellsUptoRow : OpenClaim := { program := "ytoedhcenmbpeeaa", sum := "3dd43689fb4e7aa7a707458dcbee9bd82a58800709c2e5745700799da7313682", func := "apportion/apportionlaw19.DatedTells", spec := "datedTells", unfollowed := true, recurses := true, apart := false, narrowed := true }
def DatedTellsUptoSaid : Prop := datedTellsUptoRow.holds Try.pinned (OpenSpec.upto datedTellsSpec)

/-- 'apportionlaw19.DatedSpans', WHERE WHAT IT READS IS OF BULK AT MOST 1048576: true; the input reads as it did. -/
def datedSpansUptoRow : OpenClaim := { program := "ytoedhcenmbpeeaa", sum := "3dd43689fb4e7aa7a707458dcbee9bd82a58800709c2e5745700799da7313682", func := "apportion/apportionlaw19.DatedSpans", spec := "datedSpans", unfollowed := true, recurses := true, apart := false, narrowed := true }
def DatedSpansUptoSaid : Prop := datedSpansUptoRow.holds Try.pinned (OpenSpec.upto datedSpansSpec)

/-- 'apportionlaw19.DatedPuts', WHERE WHAT IT READS IS OF BULK AT MOST 1048576: true; the input reads as it did. -/
def datedPutsUptoRow : OpenClaim := { program := "ytoedhcenmbpeeaa", sum := "3dd43689fb4e7aa7a707458dcbee9bd82a58800709c2e5745700799da7313682", func := "apportion/apportionlaw19.DatedPuts", spec := "datedPuts", inPlace := ["slices.overlaps[apportion/api.Dated]"], unfollowed := true, recurses := true, apart := false, narrowed := true }
def DatedPutsUptoSaid : Prop := datedPutsUptoRow.holds Try.pinned (OpenSpec.upto datedPutsSpec)

/-- 'apportionlaw19.DatedKnown', WHERE WHAT IT READS IS OF BULK AT MOST 1048576: true; the input reads as it did. -/
def datedKnownUptoRow : OpenClaim := { program := "ytoedhcenmbpeeaa", sum := "3dd43689fb4e7aa7a707458dcbee9bd82a58800709c2e5745700799da7313682", func := "apportion/apportionlaw19.DatedKnown", spec := "datedKnown", inPlace := ["slices.overlaps[apportion/api.Dated]"], unfollowed := true, recurses := true, apart := false, narrowed := true }
def DatedKnownUptoSaid : Prop := datedKnownUptoRow.holds Try.pinned (OpenSpec.upto datedKnownSpec)

/-- 'apportionlaw19.DatedHolds', WHERE WHAT IT READS IS OF BULK AT MOST 1048576: true; the input reads as it did. -/
def datedHoldsUptoRow : OpenClaim := { program := "ytoedhcenmbpeeaa", sum := "3dd43689fb4e7aa7a707458dcbee9bd82a58800709c2e5745700799da7313682", func := "apportion/apportionlaw19.DatedHolds", spec := "datedHolds", inPlace := ["slices.overlaps[apportion/api.Dated]"], unfollowed := true, recurses := true, apart := false, narrowed := true }
def DatedHoldsUptoSaid : Prop := datedHoldsUptoRow.holds Try.pinned (OpenSpec.upto datedHoldsSpec)

end Rows
end Go.Proofs.Ytoedhcenmbpeeaa
