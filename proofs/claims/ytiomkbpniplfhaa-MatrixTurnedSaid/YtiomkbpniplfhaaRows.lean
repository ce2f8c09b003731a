/-
  No cell of these rows narrows 'for every input' (looked for: loops, veiled, ifaces, maps, wideKeys, modest, calm, conditions, laid).
  DERIVED. THE GIVEN ROWS OF THIS SEAT. 7 by the template 'for every input the law returns true; each argument reads behind the call as it read before'; 0 by the template 'total and deterministic' (their statements: YtiomkbpniplfhaaTotals.lean).
  GIVEN WITH THE SEED: the statements are not yours to turn. If you find one false, say at which input.
  Laid BY PROGRAM, IN A SANDBOX (cutbox-rows.mjs): the forced cells as the released guide's own fill.sh prints them over the translation db440f2745b9d919… (all of the seat's roots in one cut). By AI agents, Wed Nov 11 2026. No macro, syntax, notation, axiom, sorry.
-/
import Derived.Test.YtiomkbpniplfhaaChecked
import GoSem.Claim
import GoSem.ClaimJoined
import GoSem.ClaimMapViews
import Derived.JoinedTies
import Derived.KernelRfl
namespace Go.Proofs.Ytiomkbpniplfhaa
/- THE CELL 'sum', in the pinned program and in every row, IS THE sha256 OF THE DUMP (.gsa) THAT YtiomkbpniplfhaaProg.lean LOADS. Nothing in Lean hashes anything: it is a label: what it is worth is what the hold of that sum in a sandbox is worth. -/
noncomputable def Try.pinned : Pinned := { name := "ytiomkbpniplfhaa", sum := "db440f2745b9d919eac4a410143865e2e07c25c67ba1d46d488ecc9c19507418", checked := Try.checked }
namespace Rows
def none {H : Type} : Left H := { results := [], args := [] }

/-- 'apportionlaw21.MatrixRules': WHATEVER THE INPUT: true; the input reads as it did. -/
def matrixRulesSpec : ChangeSpec := { name := "matrixRules", fn := fun _ => fun
  | [d1, d2, d3, d4] => { results := [.lit (.bool true)], args := [d1, d2, d3, d4] }
  | _ => none }
def matrixRulesRow : OpenClaim := { program := "ytiomkbpniplfhaa", sum := "db440f2745b9d919eac4a410143865e2e07c25c67ba1d46d488ecc9c19507418", func := "apportion/apportionlaw21.MatrixRules", spec := "matrixRules", unfollowed := true, recurses := true, apart := false }
def MatrixRulesSaid : Prop := matrixRulesRow.holds Try.pinned (OpenSpec.ofChange matrixRulesSpec)

/-- ITS FALSE NEIGHBOUR: 'it returns false'. Refute it at one input. -/
def matrixRulesWrong : ChangeSpec := { name := "matrixRules", fn := fun _ => fun
  | [d1, d2, d3, d4] => { results := [.lit (.bool false)], args := [d1, d2, d3, d4] }
  | _ => none }
def MatrixRulesWrongFalsely : Prop := matrixRulesRow.holds Try.pinned (OpenSpec.ofChange matrixRulesWrong)

/-- 'apportionlaw21.MatrixBases': WHATEVER THE INPUT: true; the input reads as it did. -/
def matrixBasesSpec : ChangeSpec := { name := "matrixBases", fn := fun _ => fun
  | [d1, d2, d3] => { results := [.lit (.bool true)], args := [d1, d2, d3] }
  | _ => none }
def matrixBasesRow : OpenClaim := { program := "ytiomkbpniplfhaa", sum := "db440f2745b9d919eac4a410143865e2e07c25c67ba1d46d488ecc9c19507418", func := "apportion/apportionlaw21.MatrixBases", spec := "matrixBases", unfollowed := true, recurses := true, apart := false }
def MatrixBasesSaid : Prop := matrixBasesRow.holds Try.pinned (OpenSpec.ofChange matrixBasesSpec)

/-- ITS FALSE NEIGHBOUR: 'it returns false'. Refute it at one input. -/
def matrixBasesWrong : ChangeSpec := { name := "matrixBases", fn := fun _ => fun
  | [d1, d2, d3] => { results := [.lit (.bool false)], args := [d1, d2, d3] }
  | _ => none }
def MatrixBasesWrongFalsely : Prop := matrixBasesRow.holds Try.pinned (OpenSpec.ofChange matrixBasesWrong)

/-- 'apportionlaw21.MatrixKnown': WHATEVER THE INPUT: true; the input reads as it did. -/
def matrixKnownSpec : ChangeSpec := { name := "matrixKnown", fn := fun _ => fun
  | [] => { results := [.lit (.bool true)], args := [] }
  | _ => none }
def matrixKnownRow : OpenClaim := { program := "ytiomkbpniplfhaa", sum := "db440f2745b9d919eac4a410143865e2e07c25c67ba1d46d488ecc9c19507418", func := "apportion/apportionlaw21.MatrixKnown", spec := "matrixKnown", unfollowed := true, recurses := true, apart := false }
def MatrixKnownSaid : Prop := matrixKnownRow.holds Try.pinned (OpenSpec.ofChange matrixKnownSpec)

/-- ITS FALSE NEIGHBOUR: 'it returns false'. Refute it at one input. -/
def matrixKnownWrong : ChangeSpec := { name := "matrixKnown", fn := fun _ => fun
  | [] => { results := [.lit (.bool false)], args := [] }
  | _ => none }
def MatrixKnownWrongFalsely : Prop := matrixKnownRow.holds Try.pinned (OpenSpec.ofChange matrixKnownWrong)

/-- 'apportionlaw21.MatrixBetween': WHATEVER THE INPUT: true; the input reads as it did. -/
def matrixBetweenSpec : ChangeSpec := { name := "matrixBetween", fn := fun _ => fun
  | [d1, d2, d3] => { results := [.lit (.bool true)], args := [d1, d2, d3] }
  | _ => none }
def matrixBetweenRow : OpenClaim := { program := "ytiomkbpniplfhaa", sum := "db440f2745b9d919eac4a410143865e2e07c25c67ba1d46d488ecc9c19507418", func := "apportion/apportionlaw21.MatrixBetween", spec := "matrixBetween", unfollowed := true, recurses := true, apart := false }
def MatrixBetweenSaid : Prop := matrixBetweenRow.holds Try.pinned (OpenSpec.ofChange matrixBetweenSpec)

/-- ITS FALSE NEIGHBOUR: 'it returns false'. Refute it at one input. -/
def matrixBetweenWrong : ChangeSpec := { name := "matrixBetween", fn := fun _ => fun
  | [d1, d2, d3] => { results := [.lit (.bool false)], args := [d1, d2, d3] }
  | _ => none }
def MatrixBetweenWrongFalsely : Prop := matrixBetweenRow.holds Try.pinned (OpenSpec.ofChange matrixBetweenWrong)

/-- 'apportionlaw21.MatrixSorts': WHATEVER THE INPUT: true; the input reads as it did. -/
def matrixSortsSpec : ChangeSpec := { name := "matrixSorts", fn := fun _ => fun
  | [d] => { results := [.lit (.bool true)], args := [d] }
  | _ => none }
def matrixSortsRow : OpenClaim := { program := "ytiomkbpniplfhaa", sum := "db440f2745b9d919eac4a410143865e2e07c25c67ba1d46d488ecc9c19507418", func := "apportion/apportionlaw21.MatrixSorts", spec := "matrixSorts", unfollowed := true, recurses := true, apart := false }
def MatrixSortsSaid : Prop := matrixSortsRow.holds Try.pinned (OpenSpec.ofChange matrixSortsSpec)

/-- ITS FALSE NEIGHBOUR: 'it returns false'. Refute it at one input. -/
def matrixSortsWrong : ChangeSpec := { name := "matrixSorts", fn := fun _ => fun
  | [d] => { results := [.lit (.bool false)], args := [d] }
  | _ => none }
def MatrixSortsWrongFalsely : Prop := matrixSortsRow.holds Try.pinned (OpenSpec.ofChange matrixSortsWrong)

/-- 'apportionlaw21.MatrixLater': WHATEVER THE INPUT: true; the input reads as it did. -/
def matrixLaterSpec : ChangeSpec := { name := "matrixLater", fn := fun _ => fun
  | [d1, d2, d3, d4, d5] => { results := [.lit (.bool true)], args := [d1, d2, d3, d4, d5] }
  | _ => none }
def matrixLaterRow : OpenClaim := { program := "ytiomkbpniplfhaa", sum := "db440f2745b9d919eac4a410143865e2e07c25c67ba1d46d488ecc9c19507418", func := "apportion/apportionlaw21.MatrixLater", spec := "matrixLater", unfollowed := true, recurses := true, apart := false }
def MatrixLaterSaid : Prop := matrixLaterRow.holds Try.pinned (OpenSpec.ofChange matrixLaterSpec)

/-- ITS FALSE NEIGHBOUR: 'it returns false'. Refute it at one input. -/
def matrixLaterWrong : ChangeSpec := { name := "matrixLater", fn := fun _ => fun
  | [d1, d2, d3, d4, d5] => { results := [.lit (.bool false)], args := [d1, d2, d3, d4, d5] }
  | _ => none }
def MatrixLaterWrongFalsely : Prop := matrixLaterRow.holds Try.pinned (OpenSpec.ofChange matrixLaterWrong)

/-- 'apportionlaw21.MatrixTurned': WHATEVER THE INPUT: true; the input reads as it did. -/
def matrixTurnedSpec : ChangeSpec := { name := "matrixTurned", fn := fun _ => fun
  | [d1, d2, d3, d4, d5] => { results := [.lit (.bool true)], args := [d1, d2, d3, d4, d5] }
  | _ => none }
def matrixTurnedRow : OpenClaim := { program := "ytiomkbpniplfhaa", sum := "db440f2745b9d919eac4a410143865e2e07c25c67ba1d46d488ecc9c19507418", func := "apportion/apportionlaw21.MatrixTurned", spec := "matrixTurned", unfollowed := true, recurses := true, apart := false }
def MatrixTurnedSaid : Prop := matrixTurnedRow.holds Try.pinned (OpenSpec.ofChange matrixTurnedSpec)

/-- ITS FALSE NEIGHBOUR: 'it returns false'. Refute it at one input. -/
def matrixTurnedWrong : ChangeSpec := { name := "matrixTurned", fn := fun _ => fun
  | [d1, d2, d3, d4, d5] => { results := [.lit (.bool false)], args := [d1, d2, d3, d4, d5] }
  | _ => none }
def MatrixTurnedWrongFalsely : Prop := matrixTurnedRow.holds Try.pinned (OpenSpec.ofChange matrixTurnedWrong)

/- THE SECOND FORM. 'bulk': how many values and letters a reading holds, each counted each time it is reached (what is shared counts as often as it is met; a slice's spare places count too). A statement '..UptoSaid' is the law's where the arguments, and the package variables that the reading takes, are together of bulk at most 1048576: NARROWER than '..Said'. Prove '..Said' where nothing that the law and all that it calls make is longer than what came in: it says more and counts as full. Else prove '..UptoSaid'. A law counts once. -/
mutual
def uptoBulk {H : Type} : DataW H → Nat
  | .lit (.string bytes) => bytes.length + 1
  | .lit _ => 1
  | .nil => 1
  | .ptr d => uptoBulk d + 1
  | .slice elems spare => uptoBulkAll elems + uptoBulkAll spare + 1
  | .agg parts => uptoBulkAll parts + 1
  | .iface _ d => uptoBulk d + 1
  | .map entries => uptoBulkEntries entries + 1
  | .held _ => 1
def uptoBulkAll {H : Type} : List (DataW H) → Nat
  | [] => 0
  | d :: r => uptoBulk d + uptoBulkAll r
def uptoBulkEntries {H : Type} : List (Lit × DataW H) → Nat
  | [] => 0
  | x :: r => uptoBulkEntry x + uptoBulkEntries r
def uptoBulkEntry {H : Type} : Lit × DataW H → Nat
  | (.string bytes, d) => bytes.length + uptoBulk d + 1
  | (_, d) => uptoBulk d + 1
 end
def uptoSmall : (H : Type) → List (DataW H) → Bool := fun _ ds => decide (uptoBulkAll ds ≤ 1048576)
def OpenSpec.upto (s : _root_.Go.ChangeSpec) : _root_.Go.OpenSpec := { _root_.Go.OpenSpec.ofChange s with cond := some uptoSmall }

/-- 'apportionlaw21.MatrixRules', WHERE WHAT IT READS IS OF BULK AT MOST 1048576: true; the input reads as it did. -/
def matrixRulesUptoRow : OpenClaim := { program := "ytiomkbpniplfhaa", sum := "db440f2745b9d919eac4a410143865e2e07c25c67ba1d46d488ecc9c19507418", func := "apportion/apportionlaw21.MatrixRules", spec := "matrixRules", unfollowed := true, recurses := true, apart := false, narrowed := true }
def MatrixRulesUptoSaid : Prop := matrixRulesUptoRow.holds Try.pinned (OpenSpec.upto matrixRulesSpec)

/-- 'apportionlaw21.MatrixBases', WHERE WHAT IT READS IS OF BULK AT MOST 1048576: true; the input reads as it did. -/
def matrixBasesUptoRow : OpenClaim := { program := "ytiomkbpniplfhaa", sum := "db440f2745b9d919eac4a410143865e2e07c25c67ba1d46d488ecc9c19507418", func := "apportion/apportionlaw21.MatrixBases", spec := "matrixBases", unfollowed := true, recurses := true, apart := false, narrowed := true }
def MatrixBasesUptoSaid : Prop := matrixBasesUptoRow.holds Try.pinned (OpenSpec.upto matrixBasesSpec)

/-- 'apportionlaw21.MatrixKnown', WHERE WHAT IT READS IS OF BULK AT MOST 1048576: true; the input reads as it did. -/
def matrixKnownUptoRow : OpenClaim := { program := "ytiomkbpniplfhaa", sum := "db440f2745b9d919eac4a410143865e2e07c25c67ba1d46d488ecc9c19507418", func := "apportion/apportionlaw21.MatrixKnown", spec := "matrixKnown", unfollowed := true, recurses := true, apart := false, narrowed := true }
def MatrixKnownUptoSaid : Prop := matrixKnownUptoRow.holds Try.pinned (OpenSpec.upto matrixKnownSpec)

/-- 'apportionlaw21.MatrixBetween', WHERE WHAT IT READS IS OF BULK AT MOST 1048576: true; the input reads as it did. -/
def matrixBetweenUptoRow : OpenClaim := { program := "ytiomkbpniplfhaa", sum := "db440f2745b9d919eac4a410143865e2e07c25c67ba1d46d488ecc9c19507418", func := "apportion/apportionlaw21.MatrixBetween", spec := "matrixBetween", unfollowed := true, recurses := true, apart := false, narrowed := true }
def MatrixBetweenUptoSaid : Prop := matrixBetweenUptoRow.holds Try.pinned (OpenSpec.upto matrixBetweenSpec)

/-- 'apportionlaw21.MatrixSorts', WHERE WHAT IT READS IS OF BULK AT MOST 1048576: true; the input reads as it did. -/
def matrixSortsUptoRow : OpenClaim := { program := "ytiomkbpniplfhaa", sum := "db440f2745b9d919eac4a410143865e2e07c25c67ba1d46d488ecc9c19507418", func := "apportion/apportionlaw21.MatrixSorts", spec := "matrixSorts", unfollowed := true, recurses := true, apart := false, narrowed := true }
def MatrixSortsUptoSaid : Prop := matrixSortsUptoRow.holds Try.pinned (OpenSpec.upto matrixSortsSpec)

/-- 'apportionlaw21.MatrixLater', WHERE WHAT IT READS IS OF BULK AT MOST 1048576: true; the input reads as it did. -/
def matrixLaterUptoRow : OpenClaim := { program := "ytiomkbpniplfhaa", sum := "db440f2745b9d919eac4a410143865e2e07c25c67ba1d46d488ecc9c19507418", func := "apportion/apportionlaw21.MatrixLater", spec := "matrixLater", unfollowed := true, recurses := true, apart := false, narrowed := true }
def MatrixLaterUptoSaid : Prop := matrixLaterUptoRow.holds Try.pinned (OpenSpec.upto matrixLaterSpec)

/-- 'apportionlaw21.MatrixTurned', WHERE WHAT IT READS IS OF BULK AT MOST 1048576: true; the input reads as it did. -/
def matrixTurnedUptoRow : OpenClaim := { program := "ytiomkbpniplfhaa", sum := "db440f2745b9d919eac4a410143865e2e07c25c67ba1d46d488ecc9c19507418", func := "apportion/apportionlaw21.MatrixTurned", spec := "matrixTurned", unfollowed := true, recurses := true, apart := false, narrowed := true }
def MatrixTurnedUptoSaid : Prop := matrixTurnedUptoRow.holds Try.pinned (OpenSpec.upto matrixTurnedSpec)

end Rows
end Go.Proofs.Ytiomkbpniplfhaa
