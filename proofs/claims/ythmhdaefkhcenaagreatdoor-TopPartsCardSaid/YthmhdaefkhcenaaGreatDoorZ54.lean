/- Lemmas for it; no condition: TPts3. -/
import Derived.Test.YthmhdaefkhcenaaGreatDoorZ53
set_option linter.unusedVariables false
set_option linter.unusedSimpArgs false
namespace Go.Proofs.YthmhdaefkhcenaaGreatDoor
open Go.RowKit Go.Lib Go.MapKept

set_option maxRecDepth 100000 in
set_option maxHeartbeats 8000000 in
theorem parts_out (a r : Int) (A : Option Addr) (n c : Nat) (h : a < 1 ∨ (¬ a < 1 ∧ 1073741824 < a) ∨ (¬ a < 1 ∧ ¬ 1073741824 < a ∧ r < 0) ∨ (¬ a < 1 ∧ ¬ 1073741824 < a ∧ ¬ r < 0 ∧ 1000000 < r) ∨ (¬ a < 1 ∧ ¬ 1073741824 < a ∧ ¬ r < 0 ∧ ¬ 1000000 < r ∧ (8 : Int) < n)) (w : World) :
    Calls Tryz.prog 3 #[.int .i64 a, .int .i64 r, .slice A n c] w fun e w' => e = .returned (.bool true) ∧ Below w.heap.size w w' := by
  go_enter Tryz.func3, Tryz.ntmps3
  go_wp2_with fail
  refine (awake_c w).mono ?_
  rintro e w0 ⟨rfl, hb0⟩
  rcases h with h | ⟨h1, h⟩ | ⟨h1, h2, h⟩ | ⟨h1, h2, h3, h⟩ | ⟨h1, h2, h3, h4, h⟩
  all_goals
    go_wp2_with fail
    go_returns
    exact ⟨by first | rfl | simp, hb0⟩
theorem parts_c (a r : Int) (A : Option Addr) (n c : Nat) (ps : List Int) (w : World) (_ : -9223372036854775808 ≤ a ∧ a ≤ 9223372036854775807) (_ : -9223372036854775808 ≤ r ∧ r ≤ 9223372036854775807) (hP : Shows w w.heap.size 1 A n (I64 ps)) (hpb : ∀ x ∈ ps, -9223372036854775808 ≤ x ∧ x ≤ 9223372036854775807) (_ : n ≤ c) (_ : c ≤ maxLen) :
    Calls Tryz.prog 3 #[.int .i64 a, .int .i64 r, .slice A n c] w fun e w' => e = .returned (.bool true) ∧ Below w.heap.size w w' := by
  by_cases h : 1 ≤ a ∧ a ≤ 1073741824 ∧ 0 ≤ r ∧ r ≤ 1000000 ∧ n ≤ 8
  · obtain ⟨h1, h2, h3, h4, h5⟩ := h
    obtain ⟨x, rfl⟩ := Int.eq_ofNat_of_zero_le (show 0 ≤ a by omega)
    obtain ⟨y, rfl⟩ := Int.eq_ofNat_of_zero_le h3
    exact parts_main x y (by omega) (by omega) (by omega) A n c ps h5 w hP hpb
  · exact parts_out a r A n c (by omega) w
end Go.Proofs.YthmhdaefkhcenaaGreatDoor
