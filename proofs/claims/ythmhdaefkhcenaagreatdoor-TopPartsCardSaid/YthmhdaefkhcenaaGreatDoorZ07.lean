/- Lemmas for it; no condition: TopOverB. -/
import Derived.Test.YthmhdaefkhcenaaGreatDoorRows
import Derived.Test.YthmhdaefkhcenaaGreatDoorCards
import Derived.JoinedOf
import Derived.KernelRfl
import Derived.SevenTiedAt
set_option linter.unusedVariables false
set_option linter.unusedSimpArgs false
namespace Go.Proofs.YthmhdaefkhcenaaGreatDoor
open Go
set_option maxRecDepth 100000
theorem and_two {a b : Bool} (h : a = true) (k : b = true) : (a && b) = true := by rw [h, k]; rfl
set_option maxHeartbeats 8000000
theorem over_closed : joinedFacts Tryz.prog 3 Tryz.f3 Rows.topPartsSpec Rows.topPartsRow = true := by
  unfold joinedFacts
  repeat' (with_reducible refine and_two ?_ ?_)
  all_goals (as_aux_lemma => kernel_rfl)
end Go.Proofs.YthmhdaefkhcenaaGreatDoor
