/- The walks of period.span, Of, and of the document's months, begins, Of. -/
import Derived.Test.YtdjkdfgifajilaaSpLong
import Derived.Test.YtdjkdfgifajilaaCivLaw
import Derived.OwnWalk
namespace Go.Proofs.Ytdjkdfgifajilaa
open Go.RowKit Go.Lib

/-- A kind has so many months. -/
def InKind (k n : Int) : Prop := (k = 1 ∧ n = 1) ∨ (k = 2 ∧ n = 3) ∨ (k = 3 ∧ n = 6) ∨ (k = 4 ∧ n = 12)
theorem kind_or (k : Int) : (∃ n, InKind k n) ∨ (k < 1 ∨ 4 < k) := by
  unfold InKind
  rcases (by omega : k = 1 ∨ k = 2 ∨ k = 3 ∨ k = 4 ∨ (k < 1 ∨ 4 < k)) with rfl | rfl | rfl | rfl | h
  · exact .inl ⟨1, by simp⟩
  · exact .inl ⟨3, by simp⟩
  · exact .inl ⟨6, by simp⟩
  · exact .inl ⟨12, by simp⟩
  · exact .inr h
theorem long_is {k n : Int} (h : InKind k n) (w : World) : Calls Try.prog 58 #[.int .i64 k] w fun e w' => e = .returned (.tuple #[.int .i64 n, .bool true]) ∧ Below w.heap.size w w' := by
  rcases h with ⟨rfl, rfl⟩ | ⟨rfl, rfl⟩ | ⟨rfl, rfl⟩ | ⟨rfl, rfl⟩
  · exact long_any 1 w (by decide) (by decide)
  · exact long_any 2 w (by decide) (by decide)
  · exact long_any 3 w (by decide) (by decide)
  · exact long_any 4 w (by decide) (by decide)
theorem long_not {k : Int} (h : k < 1 ∨ 4 < k) (h0 : -9223372036854775808 ≤ k) (h1 : k ≤ 9223372036854775807) (w : World) : Calls Try.prog 58 #[.int .i64 k] w fun e w' => e = .returned (.tuple #[.int .i64 0, .bool false]) ∧ Below w.heap.size w w' := by
  have hl := long_any k w h0 h1
  have a1 : longN k = 0 := by unfold longN; rw [if_neg (by omega), if_neg (by omega), if_neg (by omega), if_neg (by omega)]
  have a2 : longB k = false := by unfold longB; exact decide_eq_false (by omega)
  rw [a1, a2] at hl
  exact hl
set_option maxRecDepth 100000 in
theorem months_is {k n : Int} (h : InKind k n) (w : World) : Calls Try.prog 60 #[.int .i64 k] w fun e w' => e = .returned (.int .i64 n) ∧ w = w' := by
  rcases h with ⟨rfl, rfl⟩ | ⟨rfl, rfl⟩ | ⟨rfl, rfl⟩ | ⟨rfl, rfl⟩
  all_goals
    go_enter Try.func60, Try.ntmps60
    go_wp2_with fail
    go_ret
    exact ⟨rfl, rfl⟩
set_option maxRecDepth 100000 in
theorem months_not {k : Int} (h : k < 1 ∨ 4 < k) (w : World) : Calls Try.prog 60 #[.int .i64 k] w fun e w' => e = .returned (.int .i64 0) ∧ w = w' := by
  have k1 : (k == 1) = false := by simp; omega
  have k2 : (k == 2) = false := by simp; omega
  have k3 : (k == 3) = false := by simp; omega
  have k4 : (k == 4) = false := by simp; omega
  clear h
  go_enter Try.func60, Try.ntmps60
  go_wp2_with fail
  go_ret
  exact ⟨rfl, rfl⟩
set_option maxRecDepth 100000 in
theorem span_not {k : Int} (h : k < 1 ∨ 4 < k) (h0 : -9223372036854775808 ≤ k) (h1 : k ≤ 9223372036854775807) (p : Int) (w : World) : Calls Try.prog 52 #[.int .i64 k, .int .i64 p] w fun e w' => e = .returned (.tuple #[.int .i64 0, .int .i64 0, .int .i64 2]) ∧ Below w.heap.size w w' := by
  have hl := long_not h h0 h1
  clear h
  go_enter Try.func52, Try.ntmps52
  go_wp2_with fail
  refine (hl _).mono ?_
  rintro e w1 ⟨rfl, hb1⟩
  go_wp2_with fail
  go_ret3
  exact ⟨rfl, hb1⟩
set_option maxRecDepth 100000 in
theorem span_out {k n p : Int} (h : InKind k n) (hp : p < 0 ∨ 119988 ≤ p * n) (w : World) : Calls Try.prog 52 #[.int .i64 k, .int .i64 p] w fun e w' => e = .returned (.tuple #[.int .i64 0, .int .i64 0, .int .i64 5]) ∧ Below w.heap.size w w' := by
  have hl := long_is h
  by_cases hn : p < 0
  · clear hp h
    go_enter Try.func52, Try.ntmps52
    go_wp2_with fail
    refine (hl _).mono ?_
    rintro e w1 ⟨rfl, hb1⟩
    go_wp2_with fail
    go_ret3
    exact ⟨rfl, hb1⟩
  rcases h with ⟨rfl, rfl⟩ | ⟨rfl, rfl⟩ | ⟨rfl, rfl⟩ | ⟨rfl, rfl⟩
  all_goals
    first
    | (have hq : (119988 : Int) ≤ p := by omega)
    | (have hq : (39996 : Int) ≤ p := by omega)
    | (have hq : (19998 : Int) ≤ p := by omega)
    | (have hq : (9999 : Int) ≤ p := by omega)
    clear hp
    go_enter Try.func52, Try.ntmps52
    go_wp2_with fail
    refine (hl _).mono ?_
    rintro e w1 ⟨rfl, hb1⟩
    go_wp2_with fail
    go_ret3
    exact ⟨rfl, hb1⟩
set_option maxRecDepth 100000 in
theorem span_is {k n p : Int} (h : InKind k n) (h0 : 0 ≤ p) (hp : p * n < 119988) (w : World) : Calls Try.prog 52 #[.int .i64 k, .int .i64 p] w fun e w' => e = .returned (.tuple #[.int .i64 (p * n), .int .i64 n, .int .i64 0]) ∧ Below w.heap.size w w' := by
  have hl := long_is h
  rcases h with ⟨rfl, rfl⟩ | ⟨rfl, rfl⟩ | ⟨rfl, rfl⟩ | ⟨rfl, rfl⟩
  all_goals
    first
    | (have hq : p < (9999 : Int) := by omega)
    | (have hq : p < (19998 : Int) := by omega)
    | (have hq : p < (39996 : Int) := by omega)
    | (have hq : p < (119988 : Int) := by omega)
    clear hp
    go_enter Try.func52, Try.ntmps52
    go_wp2_with fail
    refine (hl _).mono ?_
    rintro e w1 ⟨rfl, hb1⟩
    go_wp2_with fail
    go_ret3
    first
    | exact ⟨rfl, hb1⟩
    | exact ⟨by rw [Int.mul_one]; rfl, hb1⟩
end Go.Proofs.Ytdjkdfgifajilaa
