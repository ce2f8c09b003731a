/-
  No cell of these rows narrows 'for every input' (looked for: loops, veiled, ifaces, maps, wideKeys, modest, calm, conditions, laid).
  DERIVED. THE GIVEN ROWS OF THIS SEAT. 13 by the template 'for every input the law returns true; each argument reads behind the call as it read before'; 0 by the template 'total and deterministic' (their statements: YtdjkdfgifajilaaTotals.lean).
  GIVEN WITH THE SEED: the statements are not yours to turn. If you find one false, say at which input.
  Laid BY PROGRAM, IN A SANDBOX (cutbox-rows.mjs): the forced cells as the released guide's own fill.sh prints them over the translation 132297a8d35d04df… (all of the seat's roots in one cut). By AI agents, Wed Nov 11 2026. No macro, syntax, notation, axiom, sorry.
-/
import Derived.Test.YtdjkdfgifajilaaChecked
import GoSem.Claim
import GoSem.ClaimJoined
import GoSem.ClaimMapViews
import Derived.JoinedTies
import Derived.KernelRfl
namespace Go.Proofs.Ytdjkdfgifajilaa
/- THE CELL 'sum', in the pinned program and in every row, IS THE sha256 OF THE DUMP (.gsa) THAT YtdjkdfgifajilaaProg.lean LOADS. Nothing in Lean hashes anything: it is a label: what it is worth is what the hold of that sum in a sandbox is worth. -/
noncomputable def Try.pinned : Pinned := { name := "ytdjkdfgifajilaa", sum := "132297a8d35d04df7c1f0cf4d49e5e1e00eafcf2a41f111874848cb90638fd9c", checked := Try.checked }
namespace Rows
def none {H : Type} : Left H := { results := [], args := [] }

/-- 'apportionlaw03.CivilDays': WHATEVER THE INPUT: true; the input reads as it did. -/
def civilDaysSpec : ChangeSpec := { name := "civilDays", fn := fun _ => fun
  | [d1, d2, d3, d4] => { results := [.lit (.bool true)], args := [d1, d2, d3, d4] }
  | _ => none }
def civilDaysRow : OpenClaim := { program := "ytdjkdfgifajilaa", sum := "132297a8d35d04df7c1f0cf4d49e5e1e00eafcf2a41f111874848cb90638fd9c", func := "apportion/apportionlaw03.CivilDays", spec := "civilDays", apart := false }
def CivilDaysSaid : Prop := civilDaysRow.holds Try.pinned (OpenSpec.ofChange civilDaysSpec)

/-- ITS FALSE NEIGHBOUR: 'it returns false'. Refute it at one input. -/
def civilDaysWrong : ChangeSpec := { name := "civilDays", fn := fun _ => fun
  | [d1, d2, d3, d4] => { results := [.lit (.bool false)], args := [d1, d2, d3, d4] }
  | _ => none }
def CivilDaysWrongFalsely : Prop := civilDaysRow.holds Try.pinned (OpenSpec.ofChange civilDaysWrong)

/-- 'apportionlaw03.CivilAdds': WHATEVER THE INPUT: true; the input reads as it did. -/
def civilAddsSpec : ChangeSpec := { name := "civilAdds", fn := fun _ => fun
  | [d1, d2] => { results := [.lit (.bool true)], args := [d1, d2] }
  | _ => none }
def civilAddsRow : OpenClaim := { program := "ytdjkdfgifajilaa", sum := "132297a8d35d04df7c1f0cf4d49e5e1e00eafcf2a41f111874848cb90638fd9c", func := "apportion/apportionlaw03.CivilAdds", spec := "civilAdds", apart := false }
def CivilAddsSaid : Prop := civilAddsRow.holds Try.pinned (OpenSpec.ofChange civilAddsSpec)

/-- ITS FALSE NEIGHBOUR: 'it returns false'. Refute it at one input. -/
def civilAddsWrong : ChangeSpec := { name := "civilAdds", fn := fun _ => fun
  | [d1, d2] => { results := [.lit (.bool false)], args := [d1, d2] }
  | _ => none }
def CivilAddsWrongFalsely : Prop := civilAddsRow.holds Try.pinned (OpenSpec.ofChange civilAddsWrong)

/-- 'apportionlaw03.CivilMonths': WHATEVER THE INPUT: true; the input reads as it did. -/
def civilMonthsSpec : ChangeSpec := { name := "civilMonths", fn := fun _ => fun
  | [d1, d2, d3] => { results := [.lit (.bool true)], args := [d1, d2, d3] }
  | _ => none }
def civilMonthsRow : OpenClaim := { program := "ytdjkdfgifajilaa", sum := "132297a8d35d04df7c1f0cf4d49e5e1e00eafcf2a41f111874848cb90638fd9c", func := "apportion/apportionlaw03.CivilMonths", spec := "civilMonths", apart := false }
def CivilMonthsSaid : Prop := civilMonthsRow.holds Try.pinned (OpenSpec.ofChange civilMonthsSpec)

/-- ITS FALSE NEIGHBOUR: 'it returns false'. Refute it at one input. -/
def civilMonthsWrong : ChangeSpec := { name := "civilMonths", fn := fun _ => fun
  | [d1, d2, d3] => { results := [.lit (.bool false)], args := [d1, d2, d3] }
  | _ => none }
def CivilMonthsWrongFalsely : Prop := civilMonthsRow.holds Try.pinned (OpenSpec.ofChange civilMonthsWrong)

/-- 'apportionlaw03.CivilTexts': WHATEVER THE INPUT: true; the input reads as it did. -/
def civilTextsSpec : ChangeSpec := { name := "civilTexts", fn := fun _ => fun
  | [d1, d2] => { results := [.lit (.bool true)], args := [d1, d2] }
  | _ => none }
def civilTextsRow : OpenClaim := { program := "ytdjkdfgifajilaa", sum := "132297a8d35d04df7c1f0cf4d49e5e1e00eafcf2a41f111874848cb90638fd9c", func := "apportion/apportionlaw03.CivilTexts", spec := "civilTexts", apart := false }
def CivilTextsSaid : Prop := civilTextsRow.holds Try.pinned (OpenSpec.ofChange civilTextsSpec)

/-- ITS FALSE NEIGHBOUR: 'it returns false'. Refute it at one input. -/
def civilTextsWrong : ChangeSpec := { name := "civilTexts", fn := fun _ => fun
  | [d1, d2] => { results := [.lit (.bool false)], args := [d1, d2] }
  | _ => none }
def CivilTextsWrongFalsely : Prop := civilTextsRow.holds Try.pinned (OpenSpec.ofChange civilTextsWrong)

/-- 'apportionlaw03.CivilBack': WHATEVER THE INPUT: true; the input reads as it did. -/
def civilBackSpec : ChangeSpec := { name := "civilBack", fn := fun _ => fun
  | [d1, d2, d3] => { results := [.lit (.bool true)], args := [d1, d2, d3] }
  | _ => none }
def civilBackRow : OpenClaim := { program := "ytdjkdfgifajilaa", sum := "132297a8d35d04df7c1f0cf4d49e5e1e00eafcf2a41f111874848cb90638fd9c", func := "apportion/apportionlaw03.CivilBack", spec := "civilBack", apart := false }
def CivilBackSaid : Prop := civilBackRow.holds Try.pinned (OpenSpec.ofChange civilBackSpec)

/-- ITS FALSE NEIGHBOUR: 'it returns false'. Refute it at one input. -/
def civilBackWrong : ChangeSpec := { name := "civilBack", fn := fun _ => fun
  | [d1, d2, d3] => { results := [.lit (.bool false)], args := [d1, d2, d3] }
  | _ => none }
def CivilBackWrongFalsely : Prop := civilBackRow.holds Try.pinned (OpenSpec.ofChange civilBackWrong)

/-- 'apportionlaw03.CivilKnown': WHATEVER THE INPUT: true; the input reads as it did. -/
def civilKnownSpec : ChangeSpec := { name := "civilKnown", fn := fun _ => fun
  | [] => { results := [.lit (.bool true)], args := [] }
  | _ => none }
def civilKnownRow : OpenClaim := { program := "ytdjkdfgifajilaa", sum := "132297a8d35d04df7c1f0cf4d49e5e1e00eafcf2a41f111874848cb90638fd9c", func := "apportion/apportionlaw03.CivilKnown", spec := "civilKnown", apart := false }
def CivilKnownSaid : Prop := civilKnownRow.holds Try.pinned (OpenSpec.ofChange civilKnownSpec)

/-- ITS FALSE NEIGHBOUR: 'it returns false'. Refute it at one input. -/
def civilKnownWrong : ChangeSpec := { name := "civilKnown", fn := fun _ => fun
  | [] => { results := [.lit (.bool false)], args := [] }
  | _ => none }
def CivilKnownWrongFalsely : Prop := civilKnownRow.holds Try.pinned (OpenSpec.ofChange civilKnownWrong)

/-- 'apportionlaw03.CivilOrder': WHATEVER THE INPUT: true; the input reads as it did. -/
def civilOrderSpec : ChangeSpec := { name := "civilOrder", fn := fun _ => fun
  | [d1, d2] => { results := [.lit (.bool true)], args := [d1, d2] }
  | _ => none }
def civilOrderRow : OpenClaim := { program := "ytdjkdfgifajilaa", sum := "132297a8d35d04df7c1f0cf4d49e5e1e00eafcf2a41f111874848cb90638fd9c", func := "apportion/apportionlaw03.CivilOrder", spec := "civilOrder", apart := false }
def CivilOrderSaid : Prop := civilOrderRow.holds Try.pinned (OpenSpec.ofChange civilOrderSpec)

/-- ITS FALSE NEIGHBOUR: 'it returns false'. Refute it at one input. -/
def civilOrderWrong : ChangeSpec := { name := "civilOrder", fn := fun _ => fun
  | [d1, d2] => { results := [.lit (.bool false)], args := [d1, d2] }
  | _ => none }
def CivilOrderWrongFalsely : Prop := civilOrderRow.holds Try.pinned (OpenSpec.ofChange civilOrderWrong)

/-- 'apportionlaw04.PeriodTexts': WHATEVER THE INPUT: true; the input reads as it did. -/
def periodTextsSpec : ChangeSpec := { name := "periodTexts", fn := fun _ => fun
  | [d1, d2, d3] => { results := [.lit (.bool true)], args := [d1, d2, d3] }
  | _ => none }
def periodTextsRow : OpenClaim := { program := "ytdjkdfgifajilaa", sum := "132297a8d35d04df7c1f0cf4d49e5e1e00eafcf2a41f111874848cb90638fd9c", func := "apportion/apportionlaw04.PeriodTexts", spec := "periodTexts", recurses := true, apart := false }
def PeriodTextsSaid : Prop := periodTextsRow.holds Try.pinned (OpenSpec.ofChange periodTextsSpec)

/-- ITS FALSE NEIGHBOUR: 'it returns false'. Refute it at one input. -/
def periodTextsWrong : ChangeSpec := { name := "periodTexts", fn := fun _ => fun
  | [d1, d2, d3] => { results := [.lit (.bool false)], args := [d1, d2, d3] }
  | _ => none }
def PeriodTextsWrongFalsely : Prop := periodTextsRow.holds Try.pinned (OpenSpec.ofChange periodTextsWrong)

/-- 'apportionlaw04.PeriodOrder': WHATEVER THE INPUT: true; the input reads as it did. -/
def periodOrderSpec : ChangeSpec := { name := "periodOrder", fn := fun _ => fun
  | [d1, d2, d3] => { results := [.lit (.bool true)], args := [d1, d2, d3] }
  | _ => none }
def periodOrderRow : OpenClaim := { program := "ytdjkdfgifajilaa", sum := "132297a8d35d04df7c1f0cf4d49e5e1e00eafcf2a41f111874848cb90638fd9c", func := "apportion/apportionlaw04.PeriodOrder", spec := "periodOrder", apart := false }
def PeriodOrderSaid : Prop := periodOrderRow.holds Try.pinned (OpenSpec.ofChange periodOrderSpec)

/-- ITS FALSE NEIGHBOUR: 'it returns false'. Refute it at one input. -/
def periodOrderWrong : ChangeSpec := { name := "periodOrder", fn := fun _ => fun
  | [d1, d2, d3] => { results := [.lit (.bool false)], args := [d1, d2, d3] }
  | _ => none }
def PeriodOrderWrongFalsely : Prop := periodOrderRow.holds Try.pinned (OpenSpec.ofChange periodOrderWrong)

/-- 'apportionlaw04.PeriodBack': WHATEVER THE INPUT: true; the input reads as it did. -/
def periodBackSpec : ChangeSpec := { name := "periodBack", fn := fun _ => fun
  | [d1, d2, d3] => { results := [.lit (.bool true)], args := [d1, d2, d3] }
  | _ => none }
def periodBackRow : OpenClaim := { program := "ytdjkdfgifajilaa", sum := "132297a8d35d04df7c1f0cf4d49e5e1e00eafcf2a41f111874848cb90638fd9c", func := "apportion/apportionlaw04.PeriodBack", spec := "periodBack", apart := false }
def PeriodBackSaid : Prop := periodBackRow.holds Try.pinned (OpenSpec.ofChange periodBackSpec)

/-- ITS FALSE NEIGHBOUR: 'it returns false'. Refute it at one input. -/
def periodBackWrong : ChangeSpec := { name := "periodBack", fn := fun _ => fun
  | [d1, d2, d3] => { results := [.lit (.bool false)], args := [d1, d2, d3] }
  | _ => none }
def PeriodBackWrongFalsely : Prop := periodBackRow.holds Try.pinned (OpenSpec.ofChange periodBackWrong)

/-- 'apportionlaw04.PeriodSpans': WHATEVER THE INPUT: true; the input reads as it did. -/
def periodSpansSpec : ChangeSpec := { name := "periodSpans", fn := fun _ => fun
  | [d1, d2, d3] => { results := [.lit (.bool true)], args := [d1, d2, d3] }
  | _ => none }
def periodSpansRow : OpenClaim := { program := "ytdjkdfgifajilaa", sum := "132297a8d35d04df7c1f0cf4d49e5e1e00eafcf2a41f111874848cb90638fd9c", func := "apportion/apportionlaw04.PeriodSpans", spec := "periodSpans", apart := false }
def PeriodSpansSaid : Prop := periodSpansRow.holds Try.pinned (OpenSpec.ofChange periodSpansSpec)

/-- ITS FALSE NEIGHBOUR: 'it returns false'. Refute it at one input. -/
def periodSpansWrong : ChangeSpec := { name := "periodSpans", fn := fun _ => fun
  | [d1, d2, d3] => { results := [.lit (.bool false)], args := [d1, d2, d3] }
  | _ => none }
def PeriodSpansWrongFalsely : Prop := periodSpansRow.holds Try.pinned (OpenSpec.ofChange periodSpansWrong)

/-- 'apportionlaw04.PeriodKnown': WHATEVER THE INPUT: true; the input reads as it did. -/
def periodKnownSpec : ChangeSpec := { name := "periodKnown", fn := fun _ => fun
  | [] => { results := [.lit (.bool true)], args := [] }
  | _ => none }
def periodKnownRow : OpenClaim := { program := "ytdjkdfgifajilaa", sum := "132297a8d35d04df7c1f0cf4d49e5e1e00eafcf2a41f111874848cb90638fd9c", func := "apportion/apportionlaw04.PeriodKnown", spec := "periodKnown", apart := false }
def PeriodKnownSaid : Prop := periodKnownRow.holds Try.pinned (OpenSpec.ofChange periodKnownSpec)

/-- ITS FALSE NEIGHBOUR: 'it returns false'. Refute it at one input. -/
def periodKnownWrong : ChangeSpec := { name := "periodKnown", fn := fun _ => fun
  | [] => { results := [.lit (.bool false)], args := [] }
  | _ => none }
def PeriodKnownWrongFalsely : Prop := periodKnownRow.holds Try.pinned (OpenSpec.ofChange periodKnownWrong)

/-- 'apportionlaw04.PeriodOne': WHATEVER THE INPUT: true; the input reads as it did. -/
def periodOneSpec : ChangeSpec := { name := "periodOne", fn := fun _ => fun
  | [d1, d2, d3] => { results := [.lit (.bool true)], args := [d1, d2, d3] }
  | _ => none }
def periodOneRow : OpenClaim := { program := "ytdjkdfgifajilaa", sum := "132297a8d35d04df7c1f0cf4d49e5e1e00eafcf2a41f111874848cb90638fd9c", func := "apportion/apportionlaw04.PeriodOne", spec := "periodOne", apart := false }
def PeriodOneSaid : Prop := periodOneRow.holds Try.pinned (OpenSpec.ofChange periodOneSpec)

/-- ITS FALSE NEIGHBOUR: 'it returns false'. Refute it at one input. -/
def periodOneWrong : ChangeSpec := { name := "periodOne", fn := fun _ => fun
  | [d1, d2, d3] => { results := [.lit (.bool false)], args := [d1, d2, d3] }
  | _ => none }
def PeriodOneWrongFalsely : Prop := periodOneRow.holds Try.pinned (OpenSpec.ofChange periodOneWrong)

/- THE SECOND FORM. 'bulk': how many values and letters a reading holds, each counted each time it is reached (what is shared counts as often as it is met; a slice's spare places count too). A statement '..UptoSaid' is the law's where the arguments, and the package variables that the reading takes, are together of bulk at most 1048576: NARROWER than '..Said'. Prove '..Said' where nothing that the law and all that it calls make is longer than what came in: it says more and counts as full. Else prove '..UptoSaid'. A law counts once. -/
mutual
def uptoBulk {H : Type} : DataW H → Nat
  | .lit (.string bytes) => bytes.length + 1
  | .lit _ => 1
  | .nil => 1
  | .ptr d => uptoBulk d + 1
  | .slice elems spare => uptoBulkAll elems + uptoBulkAll spare + 1
  | .agg parts => uptoBulkAll parts + 1
  | .iface _ d => uptoBulk d + 1
  | .map entries => uptoBulkEntries entries + 1
  | .held _ => 1
def uptoBulkAll {H : Type} : List (DataW H) → Nat
  | [] => 0
  | d :: r => uptoBulk d + uptoBulkAll r
def uptoBulkEntries {H : Type} : List (Lit × DataW H) → Nat
  | [] => 0
  | x :: r => uptoBulkEntry x + uptoBulkEntries r
def uptoBulkEntry {H : Type} : Lit × DataW H → Nat
  | (.string bytes, d) => bytes.length + uptoBulk d + 1
  | (_, d) => uptoBulk d + 1
 end
def uptoSmall : (H : Type) → List (DataW H) → Bool := fun _ ds => decide (uptoBulkAll ds ≤ 1048576)
def OpenSpec.upto (s : _root_.Go.ChangeSpec) : _root_.Go.OpenSpec := { _root_.Go.OpenSpec.ofChange s with cond := some uptoSmall }

/-- 'apportionlaw03.CivilDays', WHERE WHAT IT READS IS OF BULK AT MOST 1048576: true; the input reads as it did. -/
def civilDaysUptoRow : OpenClaim := { program := "ytdjkdfgifajilaa", sum := "132297a8d35d04df7c1f0cf4d49e5e1e00eafcf2a41f111874848cb90638fd9c", func := "apportion/apportionlaw03.CivilDays", spec := "civilDays", apart := false, narrowed := true }
def CivilDaysUptoSaid : Prop := civilDaysUptoRow.holds Try.pinned (OpenSpec.upto civilDaysSpec)

/-- 'apportionlaw03.CivilAdds', WHERE WHAT IT READS IS OF BULK AT MOST 1048576: true; the input reads as it did. -/
def civilAddsUptoRow : OpenClaim := { program := "ytdjkdfgifajilaa", sum := "132297a8d35d04df7c1f0cf4d49e5e1e00eafcf2a41f111874848cb90638fd9c", func := "apportion/apportionlaw03.CivilAdds", spec := "civilAdds", apart := false, narrowed := true }
def CivilAddsUptoSaid : Prop := civilAddsUptoRow.holds Try.pinned (OpenSpec.upto civilAddsSpec)

/-- 'apportionlaw03.CivilMonths', WHERE WHAT IT READS IS OF BULK AT MOST 1048576: true; the input reads as it did. -/
def civilMonthsUptoRow : OpenClaim := { program := "ytdjkdfgifajilaa", sum := "132297a8d35d04df7c1f0cf4d49e5e1e00eafcf2a41f111874848cb90638fd9c", func := "apportion/apportionlaw03.CivilMonths", spec := "civilMonths", apart := false, narrowed := true }
def CivilMonthsUptoSaid : Prop := civilMonthsUptoRow.holds Try.pinned (OpenSpec.upto civilMonthsSpec)

/-- 'apportionlaw03.CivilTexts', WHERE WHAT IT READS IS OF BULK AT MOST 1048576: true; the input reads as it did. -/
def civilTextsUptoRow : OpenClaim := { program := "ytdjkdfgifajilaa", sum := "132297a8d35d04df7c1f0cf4d49e5e1e00eafcf2a41f111874848cb90638fd9c", func := "apportion/apportionlaw03.CivilTexts", spec := "civilTexts", apart := false, narrowed := true }
def CivilTextsUptoSaid : Prop := civilTextsUptoRow.holds Try.pinned (OpenSpec.upto civilTextsSpec)

/-- 'apportionlaw03.CivilBack', WHERE WHAT IT READS IS OF BULK AT MOST 1048576: true; the input reads as it did. -/
def civilBackUptoRow : OpenClaim := { program := "ytdjkdfgifajilaa", sum := "132297a8d35d04df7c1f0cf4d49e5e1e00eafcf2a41f111874848cb90638fd9c", func := "apportion/apportionlaw03.CivilBack", spec := "civilBack", apart := false, narrowed := true }
def CivilBackUptoSaid : Prop := civilBackUptoRow.holds Try.pinned (OpenSpec.upto civilBackSpec)

/-- 'apportionlaw03.CivilKnown', WHERE WHAT IT READS IS OF BULK AT MOST 1048576: true; the input reads as it did. -/
def civilKnownUptoRow : OpenClaim := { program := "ytdjkdfgifajilaa", sum := "132297a8d35d04df7c1f0cf4d49e5e1e00eafcf2a41f111874848cb90638fd9c", func := "apportion/apportionlaw03.CivilKnown", spec := "civilKnown", apart := false, narrowed := true }
def CivilKnownUptoSaid : Prop := civilKnownUptoRow.holds Try.pinned (OpenSpec.upto civilKnownSpec)

/-- 'apportionlaw03.CivilOrder', WHERE WHAT IT READS IS OF BULK AT MOST 1048576: true; the input reads as it did. -/
def civilOrderUptoRow : OpenClaim := { program := "ytdjkdfgifajilaa", sum := "132297a8d35d04df7c1f0cf4d49e5e1e00eafcf2a41f111874848cb90638fd9c", func := "apportion/apportionlaw03.CivilOrder", spec := "civilOrder", apart := false, narrowed := true }
def CivilOrderUptoSaid : Prop := civilOrderUptoRow.holds Try.pinned (OpenSpec.upto civilOrderSpec)

/-- 'apportionlaw04.PeriodTexts', WHERE WHAT IT READS IS OF BULK AT MOST 1048576: true; the input reads as it did. -/
def periodTextsUptoRow : OpenClaim := { program := "ytdjkdfgifajilaa", sum := "132297a8d35d04df7c1f0cf4d49e5e1e00eafcf2a41f111874848cb90638fd9c", func := "apportion/apportionlaw04.PeriodTexts", spec := "periodTexts", recurses := true, apart := false, narrowed := true }
def PeriodTextsUptoSaid : Prop := periodTextsUptoRow.holds Try.pinned (OpenSpec.upto periodTextsSpec)

/-- 'apportionlaw04.PeriodOrder', WHERE WHAT IT READS IS OF BULK AT MOST 1048576: true; the input reads as it did. -/
def periodOrderUptoRow : OpenClaim := { program := "ytdjkdfgifajilaa", sum := "132297a8d35d04df7c1f0cf4d49e5e1e00eafcf2a41f111874848cb90638fd9c", func := "apportion/apportionlaw04.PeriodOrder", spec := "periodOrder", apart := false, narrowed := true }
def PeriodOrderUptoSaid : Prop := periodOrderUptoRow.holds Try.pinned (OpenSpec.upto periodOrderSpec)

/-- 'apportionlaw04.PeriodBack', WHERE WHAT IT READS IS OF BULK AT MOST 1048576: true; the input reads as it did. -/
def periodBackUptoRow : OpenClaim := { program := "ytdjkdfgifajilaa", sum := "132297a8d35d04df7c1f0cf4d49e5e1e00eafcf2a41f111874848cb90638fd9c", func := "apportion/apportionlaw04.PeriodBack", spec := "periodBack", apart := false, narrowed := true }
def PeriodBackUptoSaid : Prop := periodBackUptoRow.holds Try.pinned (OpenSpec.upto periodBackSpec)

/-- 'apportionlaw04.PeriodSpans', WHERE WHAT IT READS IS OF BULK AT MOST 1048576: true; the input reads as it did. -/
def periodSpansUptoRow : OpenClaim := { program := "ytdjkdfgifajilaa", sum := "132297a8d35d04df7c1f0cf4d49e5e1e00eafcf2a41f111874848cb90638fd9c", func := "apportion/apportionlaw04.PeriodSpans", spec := "periodSpans", apart := false, narrowed := true }
def PeriodSpansUptoSaid : Prop := periodSpansUptoRow.holds Try.pinned (OpenSpec.upto periodSpansSpec)

/-- 'apportionlaw04.PeriodKnown', WHERE WHAT IT READS IS OF BULK AT MOST 1048576: true; the input reads as it did. -/
def periodKnownUptoRow : OpenClaim := { program := "ytdjkdfgifajilaa", sum := "132297a8d35d04df7c1f0cf4d49e5e1e00eafcf2a41f111874848cb90638fd9c", func := "apportion/apportionlaw04.PeriodKnown", spec := "periodKnown", apart := false, narrowed := true }
def PeriodKnownUptoSaid : Prop := periodKnownUptoRow.holds Try.pinned (OpenSpec.upto periodKnownSpec)

/-- 'apportionlaw04.PeriodOne', WHERE WHAT IT READS IS OF BULK AT MOST 1048576: true; the input reads as it did. -/
def periodOneUptoRow : OpenClaim := { program := "ytdjkdfgifajilaa", sum := "132297a8d35d04df7c1f0cf4d49e5e1e00eafcf2a41f111874848cb90638fd9c", func := "apportion/apportionlaw04.PeriodOne", spec := "periodOne", apart := false, narrowed := true }
def PeriodOneUptoSaid : Prop := periodOneUptoRow.holds Try.pinned (OpenSpec.upto periodOneSpec)

end Rows
end Go.Proofs.Ytdjkdfgifajilaa
