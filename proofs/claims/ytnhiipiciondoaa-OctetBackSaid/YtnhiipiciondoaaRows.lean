/-
  No cell of these rows narrows 'for every input' (looked for: loops, veiled, ifaces, maps, wideKeys, modest, calm, conditions, laid).
  DERIVED. THE GIVEN ROWS OF THIS SEAT. 8 by the template 'for every input the law returns true; each argument reads behind the call as it read before'; 0 by the template 'total and deterministic' (their statements: YtnhiipiciondoaaTotals.lean).
  GIVEN WITH THE SEED: the statements are not yours to turn. If you find one false, say at which input.
  Laid BY PROGRAM, IN A SANDBOX (cutbox-rows.mjs): the forced cells as the released guide's own fill.sh prints them over the translation 5b56257c2c3c7b67… (all of the seat's roots in one cut). By AI agents, Wed Nov 11 2026. No macro, syntax, notation, axiom, sorry.
-/
import Derived.Test.YtnhiipiciondoaaChecked
import GoSem.Claim
import GoSem.ClaimJoined
import GoSem.ClaimMapViews
import Derived.JoinedTies
import Derived.KernelRfl
namespace Go.Proofs.Ytnhiipiciondoaa
/- THE CELL 'sum', in the pinned program and in every row, IS THE sha256 OF THE DUMP (.gsa) THAT YtnhiipiciondoaaProg.lean LOADS. Nothing in Lean hashes anything: it is a label: what it is worth is what the hold of that sum in a sandbox is worth. -/
noncomputable def Try.pinned : Pinned := { name := "ytnhiipiciondoaa", sum := "5b56257c2c3c7b671eeb3b2671a1eb63da5f5fc98a745f52f5695fcb30b9cf54", checked := Try.checked }
namespace Rows
def none {H : Type} : Left H := { results := [], args := [] }

/-- 'apportionlaw05.OctetApart': WHATEVER THE INPUT: true; the input reads as it did. -/
def octetApartSpec : ChangeSpec := { name := "octetApart", fn := fun _ => fun
  | [d1, d2] => { results := [.lit (.bool true)], args := [d1, d2] }
  | _ => none }
def octetApartRow : OpenClaim := { program := "ytnhiipiciondoaa", sum := "5b56257c2c3c7b671eeb3b2671a1eb63da5f5fc98a745f52f5695fcb30b9cf54", func := "apportion/apportionlaw05.OctetApart", spec := "octetApart", apart := false }
def OctetApartSaid : Prop := octetApartRow.holds Try.pinned (OpenSpec.ofChange octetApartSpec)

/-- ITS FALSE NEIGHBOUR: 'it returns false'. Refute it at one input. -/
def octetApartWrong : ChangeSpec := { name := "octetApart", fn := fun _ => fun
  | [d1, d2] => { results := [.lit (.bool false)], args := [d1, d2] }
  | _ => none }
def OctetApartWrongFalsely : Prop := octetApartRow.holds Try.pinned (OpenSpec.ofChange octetApartWrong)

/-- 'apportionlaw05.OctetPuts': WHATEVER THE INPUT: true; the input reads as it did. -/
def octetPutsSpec : ChangeSpec := { name := "octetPuts", fn := fun _ => fun
  | [d1, d2, d3] => { results := [.lit (.bool true)], args := [d1, d2, d3] }
  | _ => none }
def octetPutsRow : OpenClaim := { program := "ytnhiipiciondoaa", sum := "5b56257c2c3c7b671eeb3b2671a1eb63da5f5fc98a745f52f5695fcb30b9cf54", func := "apportion/apportionlaw05.OctetPuts", spec := "octetPuts", apart := false }
def OctetPutsSaid : Prop := octetPutsRow.holds Try.pinned (OpenSpec.ofChange octetPutsSpec)

/-- ITS FALSE NEIGHBOUR: 'it returns false'. Refute it at one input. -/
def octetPutsWrong : ChangeSpec := { name := "octetPuts", fn := fun _ => fun
  | [d1, d2, d3] => { results := [.lit (.bool false)], args := [d1, d2, d3] }
  | _ => none }
def OctetPutsWrongFalsely : Prop := octetPutsRow.holds Try.pinned (OpenSpec.ofChange octetPutsWrong)

/-- 'apportionlaw05.OctetGets': WHATEVER THE INPUT: true; the input reads as it did. -/
def octetGetsSpec : ChangeSpec := { name := "octetGets", fn := fun _ => fun
  | [d1, d2, d3] => { results := [.lit (.bool true)], args := [d1, d2, d3] }
  | _ => none }
def octetGetsRow : OpenClaim := { program := "ytnhiipiciondoaa", sum := "5b56257c2c3c7b671eeb3b2671a1eb63da5f5fc98a745f52f5695fcb30b9cf54", func := "apportion/apportionlaw05.OctetGets", spec := "octetGets", unfollowed := true, recurses := true, apart := false }
def OctetGetsSaid : Prop := octetGetsRow.holds Try.pinned (OpenSpec.ofChange octetGetsSpec)

/-- ITS FALSE NEIGHBOUR: 'it returns false'. Refute it at one input. -/
def octetGetsWrong : ChangeSpec := { name := "octetGets", fn := fun _ => fun
  | [d1, d2, d3] => { results := [.lit (.bool false)], args := [d1, d2, d3] }
  | _ => none }
def OctetGetsWrongFalsely : Prop := octetGetsRow.holds Try.pinned (OpenSpec.ofChange octetGetsWrong)

/-- 'apportionlaw05.OctetBack': WHATEVER THE INPUT: true; the input reads as it did. -/
def octetBackSpec : ChangeSpec := { name := "octetBack", fn := fun _ => fun
  | [d1, d2, d3, d4, d5] => { results := [.lit (.bool true)], args := [d1, d2, d3, d4, d5] }
  | _ => none }
def octetBackRow : OpenClaim := { program := "ytnhiipiciondoaa", sum := "5b56257c2c3c7b671eeb3b2671a1eb63da5f5fc98a745f52f5695fcb30b9cf54", func := "apportion/apportionlaw05.OctetBack", spec := "octetBack", unfollowed := true, recurses := true, apart := false }
def OctetBackSaid : Prop := octetBackRow.holds Try.pinned (OpenSpec.ofChange octetBackSpec)

/-- ITS FALSE NEIGHBOUR: 'it returns false'. Refute it at one input. -/
def octetBackWrong : ChangeSpec := { name := "octetBack", fn := fun _ => fun
  | [d1, d2, d3, d4, d5] => { results := [.lit (.bool false)], args := [d1, d2, d3, d4, d5] }
  | _ => none }
def OctetBackWrongFalsely : Prop := octetBackRow.holds Try.pinned (OpenSpec.ofChange octetBackWrong)

/-- 'apportionlaw05.OctetCut': WHATEVER THE INPUT: true; the input reads as it did. -/
def octetCutSpec : ChangeSpec := { name := "octetCut", fn := fun _ => fun
  | [d1, d2, d3, d4] => { results := [.lit (.bool true)], args := [d1, d2, d3, d4] }
  | _ => none }
def octetCutRow : OpenClaim := { program := "ytnhiipiciondoaa", sum := "5b56257c2c3c7b671eeb3b2671a1eb63da5f5fc98a745f52f5695fcb30b9cf54", func := "apportion/apportionlaw05.OctetCut", spec := "octetCut", unfollowed := true, recurses := true, apart := false }
def OctetCutSaid : Prop := octetCutRow.holds Try.pinned (OpenSpec.ofChange octetCutSpec)

/-- ITS FALSE NEIGHBOUR: 'it returns false'. Refute it at one input. -/
def octetCutWrong : ChangeSpec := { name := "octetCut", fn := fun _ => fun
  | [d1, d2, d3, d4] => { results := [.lit (.bool false)], args := [d1, d2, d3, d4] }
  | _ => none }
def OctetCutWrongFalsely : Prop := octetCutRow.holds Try.pinned (OpenSpec.ofChange octetCutWrong)

/-- 'apportionlaw05.OctetKnown': WHATEVER THE INPUT: true; the input reads as it did. -/
def octetKnownSpec : ChangeSpec := { name := "octetKnown", fn := fun _ => fun
  | [] => { results := [.lit (.bool true)], args := [] }
  | _ => none }
def octetKnownRow : OpenClaim := { program := "ytnhiipiciondoaa", sum := "5b56257c2c3c7b671eeb3b2671a1eb63da5f5fc98a745f52f5695fcb30b9cf54", func := "apportion/apportionlaw05.OctetKnown", spec := "octetKnown", unfollowed := true, recurses := true, apart := false }
def OctetKnownSaid : Prop := octetKnownRow.holds Try.pinned (OpenSpec.ofChange octetKnownSpec)

/-- ITS FALSE NEIGHBOUR: 'it returns false'. Refute it at one input. -/
def octetKnownWrong : ChangeSpec := { name := "octetKnown", fn := fun _ => fun
  | [] => { results := [.lit (.bool false)], args := [] }
  | _ => none }
def OctetKnownWrongFalsely : Prop := octetKnownRow.holds Try.pinned (OpenSpec.ofChange octetKnownWrong)

/-- 'apportionlaw05.OctetNone': WHATEVER THE INPUT: true; the input reads as it did. -/
def octetNoneSpec : ChangeSpec := { name := "octetNone", fn := fun _ => fun
  | [d1, d2] => { results := [.lit (.bool true)], args := [d1, d2] }
  | _ => none }
def octetNoneRow : OpenClaim := { program := "ytnhiipiciondoaa", sum := "5b56257c2c3c7b671eeb3b2671a1eb63da5f5fc98a745f52f5695fcb30b9cf54", func := "apportion/apportionlaw05.OctetNone", spec := "octetNone", unfollowed := true, recurses := true, apart := false }
def OctetNoneSaid : Prop := octetNoneRow.holds Try.pinned (OpenSpec.ofChange octetNoneSpec)

/-- ITS FALSE NEIGHBOUR: 'it returns false'. Refute it at one input. -/
def octetNoneWrong : ChangeSpec := { name := "octetNone", fn := fun _ => fun
  | [d1, d2] => { results := [.lit (.bool false)], args := [d1, d2] }
  | _ => none }
def OctetNoneWrongFalsely : Prop := octetNoneRow.holds Try.pinned (OpenSpec.ofChange octetNoneWrong)

/-- 'apportionlaw05.OctetReader': WHATEVER THE INPUT: true; the input reads as it did. -/
def octetReaderSpec : ChangeSpec := { name := "octetReader", fn := fun _ => fun
  | [d1, d2] => { results := [.lit (.bool true)], args := [d1, d2] }
  | _ => none }
def octetReaderRow : OpenClaim := { program := "ytnhiipiciondoaa", sum := "5b56257c2c3c7b671eeb3b2671a1eb63da5f5fc98a745f52f5695fcb30b9cf54", func := "apportion/apportionlaw05.OctetReader", spec := "octetReader", unfollowed := true, recurses := true, apart := false }
def OctetReaderSaid : Prop := octetReaderRow.holds Try.pinned (OpenSpec.ofChange octetReaderSpec)

/-- ITS FALSE NEIGHBOUR: 'it returns false'. Refute it at one input. -/
def octetReaderWrong : ChangeSpec := { name := "octetReader", fn := fun _ => fun
  | [d1, d2] => { results := [.lit (.bool false)], args := [d1, d2] }
  | _ => none }
def OctetReaderWrongFalsely : Prop := octetReaderRow.holds Try.pinned (OpenSpec.ofChange octetReaderWrong)

/- THE SECOND FORM. 'bulk': how many values and letters a reading holds, each counted each time it is reached (what is shared counts as often as it is met; a slice's spare places count too). A statement '..UptoSaid' is the law's where the arguments, and the package variables that the reading takes, are together of bulk at most 1048576: NARROWER than '..Said'. Prove '..Said' where nothing that the law and all that it calls make is longer than what came in: it says more and counts as full. Else prove '..UptoSaid'. A law counts once. -/
mutual
def uptoBulk {H : Type} : DataW H → Nat
  | .lit (.string bytes) => bytes.length + 1
  | .lit _ => 1
  | .nil => 1
  | .ptr d => uptoBulk d + 1
  | .slice elems spare => uptoBulkAll elems + uptoBulkAll spare + 1
  | .agg parts => uptoBulkAll parts + 1
  | .iface _ d => uptoBulk d + 1
  | .map entries => uptoBulkEntries entries + 1
  | .held _ => 1
def uptoBulkAll {H : Type} : List (DataW H) → Nat
  | [] => 0
  | d :: r => uptoBulk d + uptoBulkAll r
def uptoBulkEntries {H : Type} : List (Lit × DataW H) → Nat
  | [] => 0
  | x :: r => uptoBulkEntry x + uptoBulkEntries r
def uptoBulkEntry {H : Type} : Lit × DataW H → Nat
  | (.string bytes, d) => bytes.length + uptoBulk d + 1
  | (_, d) => uptoBulk d + 1
 end
def uptoSmall : (H : Type) → List (DataW H) → Bool := fun _ ds => decide (uptoBulkAll ds ≤ 1048576)
def OpenSpec.upto (s : _root_.Go.ChangeSpec) : _root_.Go.OpenSpec := { _root_.Go.OpenSpec.ofChange s with cond := some uptoSmall }

/-- 'apportionlaw05.OctetApart', WHERE WHAT IT READS IS OF BULK AT MOST 1048576: true; the input reads as it did. -/
def octetApartUptoRow : OpenClaim := { program := "ytnhiipiciondoaa", sum := "5b56257c2c3c7b671eeb3b2671a1eb63da5f5fc98a745f52f5695fcb30b9cf54", func := "apportion/apportionlaw05.OctetApart", spec := "octetApart", apart := false, narrowed := true }
def OctetApartUptoSaid : Prop := octetApartUptoRow.holds Try.pinned (OpenSpec.upto octetApartSpec)

/-- 'apportionlaw05.OctetPuts', WHERE WHAT IT READS IS OF BULK AT MOST 1048576: true; the input reads as it did. -/
def octetPutsUptoRow : OpenClaim := { program := "ytnhiipiciondoaa", sum := "5b56257c2c3c7b671eeb3b2671a1eb63da5f5fc98a745f52f5695fcb30b9cf54", func := "apportion/apportionlaw05.OctetPuts", spec := "octetPuts", apart := false, narrowed := true }
def OctetPutsUptoSaid : Prop := octetPutsUptoRow.holds Try.pinned (OpenSpec.upto octetPutsSpec)

/-- 'apportionlaw05.OctetGets', WHERE WHAT IT READS IS OF BULK AT MOST 1048576: true; the input reads as it did. -/
def octetGetsUptoRow : OpenClaim := { program := "ytnhiipiciondoaa", sum := "5b56257c2c3c7b671eeb3b2671a1eb63da5f5fc98a745f52f5695fcb30b9cf54", func := "apportion/apportionlaw05.OctetGets", spec := "octetGets", unfollowed := true, recurses := true, apart := false, narrowed := true }
def OctetGetsUptoSaid : Prop := octetGetsUptoRow.holds Try.pinned (OpenSpec.upto octetGetsSpec)

/-- 'apportionlaw05.OctetBack', WHERE WHAT IT READS IS OF BULK AT MOST 1048576: true; the input reads as it did. -/
def octetBackUptoRow : OpenClaim := { program := "ytnhiipiciondoaa", sum := "5b56257c2c3c7b671eeb3b2671a1eb63da5f5fc98a745f52f5695fcb30b9cf54", func := "apportion/apportionlaw05.OctetBack", spec := "octetBack", unfollowed := true, recurses := true, apart := false, narrowed := true }
def OctetBackUptoSaid : Prop := octetBackUptoRow.holds Try.pinned (OpenSpec.upto octetBackSpec)

/-- 'apportionlaw05.OctetCut', WHERE WHAT IT READS IS OF BULK AT MOST 1048576: true; the input reads as it did. -/
def octetCutUptoRow : OpenClaim := { program := "ytnhiipiciondoaa", sum := "5b56257c2c3c7b671eeb3b2671a1eb63da5f5fc98a745f52f5695fcb30b9cf54", func := "apportion/apportionlaw05.OctetCut", spec := "octetCut", unfollowed := true, recurses := true, apart := false, narrowed := true }
def OctetCutUptoSaid : Prop := octetCutUptoRow.holds Try.pinned (OpenSpec.upto octetCutSpec)

/-- 'apportionlaw05.OctetKnown', WHERE WHAT IT READS IS OF BULK AT MOST 1048576: true; the input reads as it did. -/
def octetKnownUptoRow : OpenClaim := { program := "ytnhiipiciondoaa", sum := "5b56257c2c3c7b671eeb3b2671a1eb63da5f5fc98a745f52f5695fcb30b9cf54", func := "apportion/apportionlaw05.OctetKnown", spec := "octetKnown", unfollowed := true, recurses := true, apart := false, narrowed := true }
def OctetKnownUptoSaid : Prop := octetKnownUptoRow.holds Try.pinned (OpenSpec.upto octetKnownSpec)

/-- 'apportionlaw05.OctetNone', WHERE WHAT IT READS IS OF BULK AT MOST 1048576: true; the input reads as it did. -/
def octetNoneUptoRow : OpenClaim := { program := "ytnhiipiciondoaa", sum := "5b56257c2c3c7b671eeb3b2671a1eb63da5f5fc98a745f52f5695fcb30b9cf54", func := "apportion/apportionlaw05.OctetNone", spec := "octetNone", unfollowed := true, recurses := true, apart := false, narrowed := true }
def OctetNoneUptoSaid : Prop := octetNoneUptoRow.holds Try.pinned (OpenSpec.upto octetNoneSpec)

/-- 'apportionlaw05.OctetReader', WHERE WHAT IT READS IS OF BULK AT MOST 1048576: true; the input reads as it did. -/
def octetReaderUptoRow : OpenClaim := { program := "ytnhiipiciondoaa", sum := "5b56257c2c3c7b671eeb3b2671a1eb63da5f5fc98a745f52f5695fcb30b9cf54", func := "apportion/apportionlaw05.OctetReader", spec := "octetReader", unfollowed := true, recurses := true, apart := false, narrowed := true }
def OctetReaderUptoSaid : Prop := octetReaderUptoRow.holds Try.pinned (OpenSpec.upto octetReaderSpec)

end Rows
end Go.Proofs.Ytnhiipiciondoaa
