/- Lemmas for it; no condition: TPer. -/
import Derived.Test.YthmhdaefkhcenaaGreatDoorZ08
import Derived.Test.YthmhdaefkhcenaaGreatDoorZ09
import Derived.Test.YthmhdaefkhcenaaGreatDoorZ10
set_option linter.unusedVariables false
set_option linter.unusedSimpArgs false
namespace Go.Proofs.YthmhdaefkhcenaaGreatDoor
set_option maxRecDepth 100000
set_option maxHeartbeats 8000000
open Go.RowKit Go.Lib

theorem tab_1p : ∀ w, (Instr.index 392 (.agg #[.int .i64 0, .int .i64 31, .int .i64 28, .int .i64 31, .int .i64 30, .int .i64 31, .int .i64 30, .int .i64 31, .int .i64 31, .int .i64 30, .int .i64 31, .int .i64 30, .int .i64 31]) (.int .i64 1)).run Tryz.prog w = .ok (.int .i64 31) w := fun _ => by kernel_rfl
theorem long_one (w : World) : Calls Tryz.prog 131 #[.int .i64 1] w fun e w' => e = .returned (.tuple #[.int .i64 1, .bool true]) ∧ Below w.heap.size w w' :=
  (long_any 1 w (by decide) (by decide)).mono fun _ _ h => ⟨h.1, h.2⟩
theorem first_zero (w : World) : Calls Tryz.prog 65 #[.int .i64 1, .int .i64 0] w fun e w' => e = .returned (.tuple #[.int .i64 0, .int .i64 0]) ∧ Below w.heap.size w w' := by
  go_enter Tryz.func65, Tryz.ntmps65
  have ht := tab_1p
  go_wp2_with (go_at_call 129; go_in)
  go_wp2_with (go_at_call 131; refine (long_one _).mono ?_; rintro e w1 ⟨rfl, hb1⟩)
  go_wp2
  (repeat (first | (rw [rounds_succ]; go_wp2) | (refine wp_loop_rounds 12 ?_; rw [rounds_succ]; go_wp2) | (go_quiet (fail); go_wp2)))
  go_returns
  exact ⟨by first | rfl | simp, by exact sBel⟩
theorem date_some (day : Int) (h0 : 10 ≤ day) (h1 : day ≤ 18) (w : World) : Calls Tryz.prog 132 #[.int .i64 day] w fun e w' => e = .returned (.tuple #[.agg #[.int .i64 1, .int .i64 1, .int .i64 (day + 1)], .int .i64 0]) ∧ Below w.heap.size w w' := by
  have hc : day = 10 ∨ day = 11 ∨ day = 12 ∨ day = 13 ∨ day = 14 ∨ day = 15 ∨ day = 16 ∨ day = 17 ∨ day = 18 := by omega
  rcases hc with rfl | rfl | rfl | rfl | rfl | rfl | rfl | rfl | rfl
  all_goals
    go_enter Tryz.func132, Tryz.ntmps132
    have ht := tab_1p
    go_wp2
    (repeat (first | (rw [rounds_succ]; go_wp2) | (refine wp_loop_rounds 3 ?_; rw [rounds_succ]; go_wp2) | (go_quiet (fail); go_wp2)))
    go_returns
    exact ⟨rfl, by exact sBel⟩
theorem of_some (day : Int) (h0 : 10 ≤ day) (h1 : day ≤ 18) (w : World) : Calls Tryz.prog 67 #[.int .i64 1, .int .i64 day] w fun e w' => e = .returned (.tuple #[.int .i64 0, .int .i64 0]) ∧ Below w.heap.size w w' := by
  go_enter Tryz.func67, Tryz.ntmps67
  go_wp2_with fail
  refine (long_one _).mono ?_
  rintro e w1 ⟨rfl, hb1⟩
  go_wp2_with fail
  refine (date_some day h0 h1 _).mono ?_
  rintro e w2 ⟨rfl, hb2⟩
  have bel := bel_call hb1 hb2
  clear hb1 hb2
  go_wp2
  go_returns
  exact ⟨by first | rfl | simp, by exact sBel⟩
end Go.Proofs.YthmhdaefkhcenaaGreatDoor
