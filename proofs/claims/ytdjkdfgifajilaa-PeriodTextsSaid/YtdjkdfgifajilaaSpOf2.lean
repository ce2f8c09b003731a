/- The walks of the document's begins; of Of, First and Last, the program's and the document's. -/
import Derived.Test.YtdjkdfgifajilaaSpOf
namespace Go.Proofs.Ytdjkdfgifajilaa
open Go.RowKit Go.Lib

set_option maxRecDepth 100000 in
theorem begins_not {k : Int} (h : k < 1 ∨ 4 < k) (p : Int) (w : World) : Calls Try.prog 54 #[.int .i64 k, .int .i64 p] w fun e w' => e = .returned (.tuple #[.int .i64 0, .int .i64 0, .int .i64 2]) ∧ w = w' := by
  have hl := months_not h
  clear h
  go_enter Try.func54, Try.ntmps54
  go_wp2_with fail
  refine (hl _).mono ?_
  rintro e w1 ⟨rfl, rfl⟩
  go_wp2_with fail
  go_ret3
  exact ⟨rfl, rfl⟩
set_option maxRecDepth 100000 in
theorem begins_out {k n p : Int} (h : InKind k n) (hp : p < 0 ∨ 119988 ≤ p * n) (w : World) : Calls Try.prog 54 #[.int .i64 k, .int .i64 p] w fun e w' => e = .returned (.tuple #[.int .i64 0, .int .i64 0, .int .i64 5]) ∧ w = w' := by
  have hl := months_is h
  rcases h with ⟨rfl, rfl⟩ | ⟨rfl, rfl⟩ | ⟨rfl, rfl⟩ | ⟨rfl, rfl⟩
  all_goals
    by_cases hn : p < 0
    · clear hp
      go_enter Try.func54, Try.ntmps54
      go_wp2_with fail
      refine (hl _).mono ?_
      rintro e w1 ⟨rfl, rfl⟩
      go_wp2_with fail
      go_ret3
      exact ⟨rfl, rfl⟩
    first
    | (have hq : (119988 : Int) ≤ p := by omega)
    | (have hq : (39996 : Int) ≤ p := by omega)
    | (have hq : (19998 : Int) ≤ p := by omega)
    | (have hq : (9999 : Int) ≤ p := by omega)
    clear hp
    go_enter Try.func54, Try.ntmps54
    go_wp2_with fail
    refine (hl _).mono ?_
    rintro e w1 ⟨rfl, rfl⟩
    go_wp2_with fail
    go_ret3
    exact ⟨rfl, rfl⟩
set_option maxRecDepth 100000 in
theorem begins_is {k n p : Int} (h : InKind k n) (h0 : 0 ≤ p) (hp : p * n < 119988) (w : World) : Calls Try.prog 54 #[.int .i64 k, .int .i64 p] w fun e w' => e = .returned (.tuple #[.int .i64 (p * n / 12 + 1), .int .i64 (p * n % 12 + 1), .int .i64 0]) ∧ w = w' := by
  have hl := months_is h
  rcases h with ⟨rfl, rfl⟩ | ⟨rfl, rfl⟩ | ⟨rfl, rfl⟩ | ⟨rfl, rfl⟩
  all_goals
    first
    | (have hq : p < (9999 : Int) := by omega)
    | (have hq : p < (19998 : Int) := by omega)
    | (have hq : p < (39996 : Int) := by omega)
    | (have hq : p < (119988 : Int) := by omega)
    clear hp
    go_enter Try.func54, Try.ntmps54
    go_wp2_with fail
    refine (hl _).mono ?_
    rintro e w1 ⟨rfl, rfl⟩
    go_wp2_with fail
    go_ret3
    first
    | exact ⟨rfl, rfl⟩
    | exact ⟨by rw [Int.mul_one]; rfl, rfl⟩
    | exact ⟨by rw [show p * 12 / 12 = p by omega, show p * 12 % 12 = 0 by omega]; rfl, rfl⟩
set_option maxRecDepth 100000 in
theorem of_not {k : Int} (h : k < 1 ∨ 4 < k) (h0 : -9223372036854775808 ≤ k) (h1 : k ≤ 9223372036854775807) (day : Int) (w : World) : Calls Try.prog 37 #[.int .i64 k, .int .i64 day] w fun e w' => e = .returned (.tuple #[.int .i64 0, .int .i64 2]) ∧ Below w.heap.size w w' := by
  have hl := long_not h h0 h1
  clear h
  go_enter Try.func37, Try.ntmps37
  go_wp2_with fail
  refine (hl _).mono ?_
  rintro e w1 ⟨rfl, hb1⟩
  go_wp2_with fail
  go_ret2
  exact ⟨rfl, hb1⟩
set_option maxRecDepth 100000 in
theorem of_out {k n : Int} (h : InKind k n) {day : Int} (hd : ¬ (0 ≤ day ∧ day ≤ 3652058)) (w : World) : Calls Try.prog 37 #[.int .i64 k, .int .i64 day] w fun e w' => e = .returned (.tuple #[.int .i64 0, .int .i64 5]) ∧ Below w.heap.size w w' := by
  have hl := long_is h
  have hc := date_not hd
  have hn : (n == 0) = false := by rcases h with ⟨rfl, rfl⟩ | ⟨rfl, rfl⟩ | ⟨rfl, rfl⟩ | ⟨rfl, rfl⟩ <;> rfl
  clear h hd
  go_enter Try.func37, Try.ntmps37
  go_wp2_with fail
  refine (hl _).mono ?_
  rintro e w1 ⟨rfl, hb1⟩
  go_wp2_with fail
  refine (hc _).mono ?_
  rintro e w2 ⟨rfl, hb2⟩
  go_wp2_with fail
  go_ret2
  exact ⟨rfl, bel_alloc (bel_call hb1 hb2) _⟩
set_option maxRecDepth 100000 in
theorem of_is {k n : Int} (h : InKind k n) {day y d : Int} {m : Nat} (hd : IsDate day y m d) (w : World) : Calls Try.prog 37 #[.int .i64 k, .int .i64 day] w fun e w' => e = .returned (.tuple #[.int .i64 ((12 * (y - 1) + m - 1) / n), .int .i64 0]) ∧ Below w.heap.size w w' := by
  have hl := long_is h
  have hc := fun w => date_is hd w
  obtain ⟨⟨y1, y2, m1, m2, -, -⟩, -⟩ := hd
  rcases h with ⟨rfl, rfl⟩ | ⟨rfl, rfl⟩ | ⟨rfl, rfl⟩ | ⟨rfl, rfl⟩
  all_goals
    go_enter Try.func37, Try.ntmps37
    go_wp2_with fail
    refine (hl _).mono ?_
    rintro e w1 ⟨rfl, hb1⟩
    go_wp2_with fail
    refine (hc _).mono ?_
    rintro e w2 ⟨rfl, hb2⟩
    go_wp2_with fail
    go_ret2
    first
    | exact ⟨rfl, bel_alloc (bel_call hb1 hb2) _⟩
    | exact ⟨by rw [Int.ediv_one]; rfl, bel_alloc (bel_call hb1 hb2) _⟩
set_option maxRecDepth 100000 in
theorem rof_not {k : Int} (h : k < 1 ∨ 4 < k) (day : Int) (w : World) : Calls Try.prog 40 #[.int .i64 k, .int .i64 day] w fun e w' => e = .returned (.tuple #[.int .i64 0, .int .i64 2]) ∧ Below w.heap.size w w' := by
  have hl := months_not h
  clear h
  go_enter Try.func40, Try.ntmps40
  go_wp2_with fail
  refine (hl _).mono ?_
  rintro e w1 ⟨rfl, rfl⟩
  go_wp2_with fail
  go_ret2
  exact ⟨rfl, (Below.refl _ _)⟩
set_option maxRecDepth 100000 in
theorem rof_out {k n : Int} (h : InKind k n) {day : Int} (hd : ¬ (0 ≤ day ∧ day ≤ 3652058)) (w : World) : Calls Try.prog 40 #[.int .i64 k, .int .i64 day] w fun e w' => e = .returned (.tuple #[.int .i64 0, .int .i64 5]) ∧ Below w.heap.size w w' := by
  have hl := months_is h
  have hc := refDate_not hd
  have hn : (n == 0) = false := by rcases h with ⟨rfl, rfl⟩ | ⟨rfl, rfl⟩ | ⟨rfl, rfl⟩ | ⟨rfl, rfl⟩ <;> rfl
  clear h hd
  go_enter Try.func40, Try.ntmps40
  go_wp2_with fail
  refine (hl _).mono ?_
  rintro e w1 ⟨rfl, rfl⟩
  go_wp2_with fail
  refine (hc _).mono ?_
  rintro e w2 ⟨rfl, hb2⟩
  go_wp2_with fail
  go_ret2
  exact ⟨rfl, bel_alloc (bel_call (Below.refl _ _) hb2) _⟩
set_option maxRecDepth 100000 in
theorem rof_is {k n : Int} (h : InKind k n) {day y d : Int} {m : Nat} (hd : IsDate day y m d) (w : World) : Calls Try.prog 40 #[.int .i64 k, .int .i64 day] w fun e w' => e = .returned (.tuple #[.int .i64 ((12 * (y - 1) + m - 1) / n), .int .i64 0]) ∧ Below w.heap.size w w' := by
  have hl := months_is h
  have hc := fun w => refDate_is hd w
  obtain ⟨⟨y1, y2, m1, m2, -, -⟩, -⟩ := hd
  rcases h with ⟨rfl, rfl⟩ | ⟨rfl, rfl⟩ | ⟨rfl, rfl⟩ | ⟨rfl, rfl⟩
  all_goals
    go_enter Try.func40, Try.ntmps40
    go_wp2_with fail
    refine (hl _).mono ?_
    rintro e w1 ⟨rfl, rfl⟩
    go_wp2_with fail
    refine (hc _).mono ?_
    rintro e w2 ⟨rfl, hb2⟩
    go_wp2_with fail
    go_ret2
    first
    | exact ⟨rfl, bel_alloc (bel_call (Below.refl _ _) hb2) _⟩
    | exact ⟨by rw [Int.ediv_one]; rfl, bel_alloc (bel_call (Below.refl _ _) hb2) _⟩
end Go.Proofs.Ytdjkdfgifajilaa
