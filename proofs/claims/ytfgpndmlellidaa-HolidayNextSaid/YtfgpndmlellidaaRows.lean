/-
  No cell of these rows narrows 'for every input' (looked for: loops, veiled, ifaces, maps, wideKeys, modest, calm, conditions, laid).
  DERIVED. THE GIVEN ROWS OF THIS SEAT. 6 by the template 'for every input the law returns true; each argument reads behind the call as it read before'; 0 by the template 'total and deterministic' (their statements: YtfgpndmlellidaaTotals.lean).
  GIVEN WITH THE SEED: the statements are not yours to turn. If you find one false, say at which input.
  Laid BY PROGRAM, IN A SANDBOX (cutbox-rows.mjs): the forced cells as the released guide's own fill.sh prints them over the translation e686122c7b8a823c… (all of the seat's roots in one cut). By AI agents, Wed Nov 11 2026. No macro, syntax, notation, axiom, sorry.
-/
import Derived.Test.YtfgpndmlellidaaChecked
import GoSem.Claim
import GoSem.ClaimJoined
import GoSem.ClaimMapViews
import Derived.JoinedTies
import Derived.KernelRfl
namespace Go.Proofs.Ytfgpndmlellidaa
/- THE CELL 'sum', in the pinned program and in every row, IS THE sha256 OF THE DUMP (.gsa) THAT YtfgpndmlellidaaProg.lean LOADS. Nothing in Lean hashes anything: it is a label: what it is worth is what the hold of that sum in a sandbox is worth. -/
noncomputable def Try.pinned : Pinned := { name := "ytfgpndmlellidaa", sum := "e686122c7b8a823c25989ad4f4a3acc39fa796bd4f13993c8151bd4191d44b1a", checked := Try.checked }
namespace Rows
def none {H : Type} : Left H := { results := [], args := [] }

/-- 'apportionlaw23.HolidayBases': WHATEVER THE INPUT: true; the input reads as it did. -/
def holidayBasesSpec : ChangeSpec := { name := "holidayBases", fn := fun _ => fun
  | [d1, d2, d3, d4, d5] => { results := [.lit (.bool true)], args := [d1, d2, d3, d4, d5] }
  | _ => none }
def holidayBasesRow : OpenClaim := { program := "ytfgpndmlellidaa", sum := "e686122c7b8a823c25989ad4f4a3acc39fa796bd4f13993c8151bd4191d44b1a", func := "apportion/apportionlaw23.HolidayBases", spec := "holidayBases", unfollowed := true, recurses := true, apart := false }
def HolidayBasesSaid : Prop := holidayBasesRow.holds Try.pinned (OpenSpec.ofChange holidayBasesSpec)

/-- ITS FALSE NEIGHBOUR: 'it returns false'. Refute it at one input. -/
def holidayBasesWrong : ChangeSpec := { name := "holidayBases", fn := fun _ => fun
  | [d1, d2, d3, d4, d5] => { results := [.lit (.bool false)], args := [d1, d2, d3, d4, d5] }
  | _ => none }
def HolidayBasesWrongFalsely : Prop := holidayBasesRow.holds Try.pinned (OpenSpec.ofChange holidayBasesWrong)

/-- 'apportionlaw23.HolidayDays': WHATEVER THE INPUT: true; the input reads as it did. -/
def holidayDaysSpec : ChangeSpec := { name := "holidayDays", fn := fun _ => fun
  | [d1, d2, d3, d4, d5] => { results := [.lit (.bool true)], args := [d1, d2, d3, d4, d5] }
  | _ => none }
def holidayDaysRow : OpenClaim := { program := "ytfgpndmlellidaa", sum := "e686122c7b8a823c25989ad4f4a3acc39fa796bd4f13993c8151bd4191d44b1a", func := "apportion/apportionlaw23.HolidayDays", spec := "holidayDays", unfollowed := true, recurses := true, apart := false }
def HolidayDaysSaid : Prop := holidayDaysRow.holds Try.pinned (OpenSpec.ofChange holidayDaysSpec)

/-- ITS FALSE NEIGHBOUR: 'it returns false'. Refute it at one input. -/
def holidayDaysWrong : ChangeSpec := { name := "holidayDays", fn := fun _ => fun
  | [d1, d2, d3, d4, d5] => { results := [.lit (.bool false)], args := [d1, d2, d3, d4, d5] }
  | _ => none }
def HolidayDaysWrongFalsely : Prop := holidayDaysRow.holds Try.pinned (OpenSpec.ofChange holidayDaysWrong)

/-- 'apportionlaw23.HolidayKnown': WHATEVER THE INPUT: true; the input reads as it did. -/
def holidayKnownSpec : ChangeSpec := { name := "holidayKnown", fn := fun _ => fun
  | [] => { results := [.lit (.bool true)], args := [] }
  | _ => none }
def holidayKnownRow : OpenClaim := { program := "ytfgpndmlellidaa", sum := "e686122c7b8a823c25989ad4f4a3acc39fa796bd4f13993c8151bd4191d44b1a", func := "apportion/apportionlaw23.HolidayKnown", spec := "holidayKnown", unfollowed := true, recurses := true, apart := false }
def HolidayKnownSaid : Prop := holidayKnownRow.holds Try.pinned (OpenSpec.ofChange holidayKnownSpec)

/-- ITS FALSE NEIGHBOUR: 'it returns false'. Refute it at one input. -/
def holidayKnownWrong : ChangeSpec := { name := "holidayKnown", fn := fun _ => fun
  | [] => { results := [.lit (.bool false)], args := [] }
  | _ => none }
def HolidayKnownWrongFalsely : Prop := holidayKnownRow.holds Try.pinned (OpenSpec.ofChange holidayKnownWrong)

/-- 'apportionlaw23.HolidayLess': WHATEVER THE INPUT: true; the input reads as it did. -/
def holidayLessSpec : ChangeSpec := { name := "holidayLess", fn := fun _ => fun
  | [d1, d2, d3, d4, d5, d6] => { results := [.lit (.bool true)], args := [d1, d2, d3, d4, d5, d6] }
  | _ => none }
def holidayLessRow : OpenClaim := { program := "ytfgpndmlellidaa", sum := "e686122c7b8a823c25989ad4f4a3acc39fa796bd4f13993c8151bd4191d44b1a", func := "apportion/apportionlaw23.HolidayLess", spec := "holidayLess", unfollowed := true, recurses := true, apart := false }
def HolidayLessSaid : Prop := holidayLessRow.holds Try.pinned (OpenSpec.ofChange holidayLessSpec)

/-- ITS FALSE NEIGHBOUR: 'it returns false'. Refute it at one input. -/
def holidayLessWrong : ChangeSpec := { name := "holidayLess", fn := fun _ => fun
  | [d1, d2, d3, d4, d5, d6] => { results := [.lit (.bool false)], args := [d1, d2, d3, d4, d5, d6] }
  | _ => none }
def HolidayLessWrongFalsely : Prop := holidayLessRow.holds Try.pinned (OpenSpec.ofChange holidayLessWrong)

/-- 'apportionlaw23.HolidaySpans': WHATEVER THE INPUT: true; the input reads as it did. -/
def holidaySpansSpec : ChangeSpec := { name := "holidaySpans", fn := fun _ => fun
  | [d1, d2, d3, d4, d5, d6] => { results := [.lit (.bool true)], args := [d1, d2, d3, d4, d5, d6] }
  | _ => none }
def holidaySpansRow : OpenClaim := { program := "ytfgpndmlellidaa", sum := "e686122c7b8a823c25989ad4f4a3acc39fa796bd4f13993c8151bd4191d44b1a", func := "apportion/apportionlaw23.HolidaySpans", spec := "holidaySpans", unfollowed := true, recurses := true, apart := false }
def HolidaySpansSaid : Prop := holidaySpansRow.holds Try.pinned (OpenSpec.ofChange holidaySpansSpec)

/-- ITS FALSE NEIGHBOUR: 'it returns false'. Refute it at one input. -/
def holidaySpansWrong : ChangeSpec := { name := "holidaySpans", fn := fun _ => fun
  | [d1, d2, d3, d4, d5, d6] => { results := [.lit (.bool false)], args := [d1, d2, d3, d4, d5, d6] }
  | _ => none }
def HolidaySpansWrongFalsely : Prop := holidaySpansRow.holds Try.pinned (OpenSpec.ofChange holidaySpansWrong)

/-- 'apportionlaw23.HolidayNext': WHATEVER THE INPUT: true; the input reads as it did. -/
def holidayNextSpec : ChangeSpec := { name := "holidayNext", fn := fun _ => fun
  | [d1, d2, d3, d4] => { results := [.lit (.bool true)], args := [d1, d2, d3, d4] }
  | _ => none }
def holidayNextRow : OpenClaim := { program := "ytfgpndmlellidaa", sum := "e686122c7b8a823c25989ad4f4a3acc39fa796bd4f13993c8151bd4191d44b1a", func := "apportion/apportionlaw23.HolidayNext", spec := "holidayNext", unfollowed := true, recurses := true, apart := false }
def HolidayNextSaid : Prop := holidayNextRow.holds Try.pinned (OpenSpec.ofChange holidayNextSpec)

/-- ITS FALSE NEIGHBOUR: 'it returns false'. Refute it at one input. -/
def holidayNextWrong : ChangeSpec := { name := "holidayNext", fn := fun _ => fun
  | [d1, d2, d3, d4] => { results := [.lit (.bool false)], args := [d1, d2, d3, d4] }
  | _ => none }
def HolidayNextWrongFalsely : Prop := holidayNextRow.holds Try.pinned (OpenSpec.ofChange holidayNextWrong)

/- THE SECOND FORM. 'bulk': how many values and letters a reading holds, each counted each time it is reached (what is shared counts as often as it is met; a slice's spare places count too). A statement '..UptoSaid' is the law's where the arguments, and the package variables that the reading takes, are together of bulk at most 1048576: NARROWER than '..Said'. Prove '..Said' where nothing that the law and all that it calls make is longer than what came in: it says more and counts as full. Else prove '..UptoSaid'. A law counts once. -/
mutual
def uptoBulk {H : Type} : DataW H → Nat
  | .lit (.string bytes) => bytes.length + 1
  | .lit _ => 1
  | .nil => 1
  | .ptr d => uptoBulk d + 1
  | .slice elems spare => uptoBulkAll elems + uptoBulkAll spare + 1
  | .agg parts => uptoBulkAll parts + 1
  | .iface _ d => uptoBulk d + 1
  | .map entries => uptoBulkEntries entries + 1
  | .held _ => 1
def uptoBulkAll {H : Type} : List (DataW H) → Nat
  | [] => 0
  | d :: r => uptoBulk d + uptoBulkAll r
def uptoBulkEntries {H : Type} : List (Lit × DataW H) → Nat
  | [] => 0
  | x :: r => uptoBulkEntry x + uptoBulkEntries r
def uptoBulkEntry {H : Type} : Lit × DataW H → Nat
  | (.string bytes, d) => bytes.length + uptoBulk d + 1
  | (_, d) => uptoBulk d + 1
 end
def uptoSmall : (H : Type) → List (DataW H) → Bool := fun _ ds => decide (uptoBulkAll ds ≤ 1048576)
def OpenSpec.upto (s : _root_.Go.ChangeSpec) : _root_.Go.OpenSpec := { _root_.Go.OpenSpec.ofChange s with cond := some uptoSmall }

/-- 'apportionlaw23.HolidayBases', WHERE WHAT IT READS IS OF BULK AT MOST 1048576: true; the input reads as it did. -/
def holidayBasesUptoRow : OpenClaim := { program := "ytfgpndmlellidaa", sum := "e686122c7b8a823c25989ad4f4a3acc39fa796bd4f13993c8151bd4191d44b1a", func := "apportion/apportionlaw23.HolidayBases", spec := "holidayBases", unfollowed := true, recurses := true, apart := false, narrowed := true }
def HolidayBasesUptoSaid : Prop := holidayBasesUptoRow.holds Try.pinned (OpenSpec.upto holidayBasesSpec)

/-- 'apportionlaw23.HolidayDays', WHERE WHAT IT READS IS OF BULK AT MOST 1048576: true; the input reads as it did. -/
def holidayDaysUptoRow : OpenClaim := { program := "ytfgpndmlellidaa", sum := "e686122c7b8a823c25989ad4f4a3acc39fa796bd4f13993c8151bd4191d44b1a", func := "apportion/apportionlaw23.HolidayDays", spec := "holidayDays", unfollowed := true, recurses := true, apart := false, narrowed := true }
def HolidayDaysUptoSaid : Prop := holidayDaysUptoRow.holds Try.pinned (OpenSpec.upto holidayDaysSpec)

/-- 'apportionlaw23.HolidayKnown', WHERE WHAT IT READS IS OF BULK AT MOST 1048576: true; the input reads as it did. -/
def holidayKnownUptoRow : OpenClaim := { program := "ytfgpndmlellidaa", sum := "e686122c7b8a823c25989ad4f4a3acc39fa796bd4f13993c8151bd4191d44b1a", func := "apportion/apportionlaw23.HolidayKnown", spec := "holidayKnown", unfollowed := true, recurses := true, apart := false, narrowed := true }
def HolidayKnownUptoSaid : Prop := holidayKnownUptoRow.holds Try.pinned (OpenSpec.upto holidayKnownSpec)

/-- 'apportionlaw23.HolidayLess', WHERE WHAT IT READS IS OF BULK AT MOST 1048576: true; the input reads as it did. -/
def holidayLessUptoRow : OpenClaim := { program := "ytfgpndmlellidaa", sum := "e686122c7b8a823c25989ad4f4a3acc39fa796bd4f13993c8151bd4191d44b1a", func := "apportion/apportionlaw23.HolidayLess", spec := "holidayLess", unfollowed := true, recurses := true, apart := false, narrowed := true }
def HolidayLessUptoSaid : Prop := holidayLessUptoRow.holds Try.pinned (OpenSpec.upto holidayLessSpec)

/-- 'apportionlaw23.HolidaySpans', WHERE WHAT IT READS IS OF BULK AT MOST 1048576: true; the input reads as it did. -/
def holidaySpansUptoRow : OpenClaim := { program := "ytfgpndmlellidaa", sum := "e686122c7b8a823c25989ad4f4a3acc39fa796bd4f13993c8151bd4191d44b1a", func := "apportion/apportionlaw23.HolidaySpans", spec := "holidaySpans", unfollowed := true, recurses := true, apart := false, narrowed := true }
def HolidaySpansUptoSaid : Prop := holidaySpansUptoRow.holds Try.pinned (OpenSpec.upto holidaySpansSpec)

/-- 'apportionlaw23.HolidayNext', WHERE WHAT IT READS IS OF BULK AT MOST 1048576: true; the input reads as it did. -/
def holidayNextUptoRow : OpenClaim := { program := "ytfgpndmlellidaa", sum := "e686122c7b8a823c25989ad4f4a3acc39fa796bd4f13993c8151bd4191d44b1a", func := "apportion/apportionlaw23.HolidayNext", spec := "holidayNext", unfollowed := true, recurses := true, apart := false, narrowed := true }
def HolidayNextUptoSaid : Prop := holidayNextUptoRow.holds Try.pinned (OpenSpec.upto holidayNextSpec)

end Rows
end Go.Proofs.Ytfgpndmlellidaa
