/- Lemmas for it; no condition: TopOver. -/
import Derived.Test.YthmhdaefkhcenaaGreatDoorRows
import Derived.Test.YthmhdaefkhcenaaGreatDoorCards
import Derived.JoinedOf
import Derived.KernelRfl
import Derived.SevenTiedAt
set_option linter.unusedVariables false
set_option linter.unusedSimpArgs false
namespace Go.Proofs.YthmhdaefkhcenaaGreatDoor
open Go
set_option maxRecDepth 100000
theorem over_fn : Tryz.prog.funcNamed "apportion/apportiontop.TopParts" = some 3 := by kernel_rfl
theorem over_inst : Tryz.f3.isInstance Tryz.prog Rows.topPartsRow.origin Rows.topPartsRow.targs := of_decide_eq_true (by kernel_rfl)
theorem over_wrap : Tryz.f3.isWrapper Tryz.prog Rows.topPartsRow.wrapper Rows.topPartsRow.mainSum := by
  unfold Func.isWrapper
  first
  | (rw [if_pos (by decide +kernel)]; as_aux_lemma => kernel_rfl)
  | (rw [if_neg (by decide +kernel)]; exact ⟨rfl, rfl⟩)
theorem over_main : Tryz.prog.mainIs = some (true, "71ba4efa0a0331a77b650fd9363a1d800e2e747e3a9f9e3493d4b5128d39078f".toList) := by kernel_rfl
theorem over_wf : Rows.topPartsRow.wfByText (OpenSpec.ofChange Rows.topPartsSpec) = true := by kernel_rfl
theorem over_looks : true = Tryz.prog.looks [] := by kernel_rfl
theorem over_stand : ([3, 22].all fun u => !Tryz.prog.wantsStandIn u) = true := by kernel_rfl
theorem goes_none {P : Program} (h : P.funcs.any Func.goes = false) (f : FuncId) : P.goes f = false := by
  have k : ∀ g : Nat, (P.funcs[g]?).any Func.goes = false := fun g => by
    cases hg : P.funcs[g]? with
    | none => rfl
    | some fn =>
      obtain ⟨hi, rfl⟩ := Array.getElem?_eq_some_iff.1 hg
      have := Array.any_eq_false.1 h g hi
      simpa using this
  unfold Program.goes
  rw [h]
  simp [k]
theorem over_none : Tryz.prog.funcs.any Func.goes = false := by kernel_rfl
theorem over_goes : false = Rows.topPartsRow.goesBy Tryz.prog := by
  show false = ((Tryz.prog.funcNamed "apportion/apportiontop.TopParts").any Tryz.prog.goes || false)
  rw [over_fn, Option.any_some, goes_none over_none]
  rfl
end Go.Proofs.YthmhdaefkhcenaaGreatDoor
