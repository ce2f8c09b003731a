/- The walks of First and Last, the program's and the document's. -/
import Derived.Test.YtdjkdfgifajilaaSpOf2
namespace Go.Proofs.Ytdjkdfgifajilaa
open Go.RowKit Go.Lib

set_option maxRecDepth 100000 in
theorem first_not {k : Int} (h : k < 1 ∨ 4 < k) (h0 : -9223372036854775808 ≤ k) (h1 : k ≤ 9223372036854775807) (p : Int) (w : World) : Calls Try.prog 38 #[.int .i64 k, .int .i64 p] w fun e w' => e = .returned (.tuple #[.int .i64 0, .int .i64 2]) ∧ Below w.heap.size w w' := by
  have hl := span_not h h0 h1 p
  clear h
  go_enter Try.func38, Try.ntmps38
  go_wp2_with fail
  refine (hl _).mono ?_
  rintro e w1 ⟨rfl, hb1⟩
  go_wp2_with fail
  go_ret2
  exact ⟨rfl, hb1⟩
set_option maxRecDepth 100000 in
theorem first_out {k n p : Int} (h : InKind k n) (hp : p < 0 ∨ 119988 ≤ p * n) (w : World) : Calls Try.prog 38 #[.int .i64 k, .int .i64 p] w fun e w' => e = .returned (.tuple #[.int .i64 0, .int .i64 5]) ∧ Below w.heap.size w w' := by
  have hl := span_out h hp
  clear h hp
  go_enter Try.func38, Try.ntmps38
  go_wp2_with fail
  refine (hl _).mono ?_
  rintro e w1 ⟨rfl, hb1⟩
  go_wp2_with fail
  go_ret2
  exact ⟨rfl, hb1⟩
set_option maxRecDepth 100000 in
theorem first_is {k n p y : Int} {m : Nat} (h : InKind k n) (h0 : 0 ≤ p) (hp : p * n < 119988) (hy : p * n / 12 + 1 = y) (hm : p * n % 12 + 1 = m) (hd : Civ.IsD y m 1) (w : World) : Calls Try.prog 38 #[.int .i64 k, .int .i64 p] w fun e w' => e = .returned (.tuple #[.int .i64 (Civ.num y m 1), .int .i64 0]) ∧ Below w.heap.size w w' := by
  have hl := span_is h h0 hp
  have hc : ∀ w : World, Calls Try.prog 16 #[.int .i64 (p * n / 12 + 1), .int .i64 (p * n % 12 + 1), .int .i64 1] w fun e w' => e = .returned (.tuple #[.int .i64 (Civ.num y m 1), .int .i64 0]) ∧ w = w' := fun w => by rw [hy, hm]; exact day_good y 1 m w hd
  have hpn : 0 ≤ p * n := by rcases h with ⟨rfl, rfl⟩ | ⟨rfl, rfl⟩ | ⟨rfl, rfl⟩ | ⟨rfl, rfl⟩ <;> omega
  clear h hd hy hm
  generalize p * n = q at *
  go_enter Try.func38, Try.ntmps38
  go_wp2_with fail
  refine (hl _).mono ?_
  rintro e w1 ⟨rfl, hb1⟩
  go_wp2_with fail
  refine (hc _).mono ?_
  rintro e w2 ⟨rfl, rfl⟩
  go_wp2_with fail
  go_ret2
  exact ⟨rfl, hb1⟩
set_option maxRecDepth 100000 in
theorem rfirst_not {k : Int} (h : k < 1 ∨ 4 < k) (p : Int) (w : World) : Calls Try.prog 41 #[.int .i64 k, .int .i64 p] w fun e w' => e = .returned (.tuple #[.int .i64 0, .int .i64 2]) ∧ Below w.heap.size w w' := by
  have hl := begins_not h p
  clear h
  go_enter Try.func41, Try.ntmps41
  go_wp2_with fail
  refine (hl _).mono ?_
  rintro e w1 ⟨rfl, rfl⟩
  go_wp2_with fail
  go_ret2
  exact ⟨rfl, (Below.refl _ _)⟩
set_option maxRecDepth 100000 in
theorem rfirst_out {k n p : Int} (h : InKind k n) (hp : p < 0 ∨ 119988 ≤ p * n) (w : World) : Calls Try.prog 41 #[.int .i64 k, .int .i64 p] w fun e w' => e = .returned (.tuple #[.int .i64 0, .int .i64 5]) ∧ Below w.heap.size w w' := by
  have hl := begins_out h hp
  clear h hp
  go_enter Try.func41, Try.ntmps41
  go_wp2_with fail
  refine (hl _).mono ?_
  rintro e w1 ⟨rfl, rfl⟩
  go_wp2_with fail
  go_ret2
  exact ⟨rfl, (Below.refl _ _)⟩
set_option maxRecDepth 100000 in
theorem rfirst_is {k n p y : Int} {m : Nat} (h : InKind k n) (h0 : 0 ≤ p) (hp : p * n < 119988) (hy : p * n / 12 + 1 = y) (hm : p * n % 12 + 1 = m) (hd : Civ.IsD y m 1) (w : World) : Calls Try.prog 41 #[.int .i64 k, .int .i64 p] w fun e w' => e = .returned (.tuple #[.int .i64 (Civ.num y m 1), .int .i64 0]) ∧ Below w.heap.size w w' := by
  have hl := begins_is h h0 hp
  have hc := fun w => refDay_good y 1 m w hd
  have hpn : 0 ≤ p * n := by rcases h with ⟨rfl, rfl⟩ | ⟨rfl, rfl⟩ | ⟨rfl, rfl⟩ | ⟨rfl, rfl⟩ <;> omega
  rw [hy, hm] at hl
  have m0 : (0 : Int) ≤ m := by omega
  clear h hd hy hm
  generalize p * n = q at *
  go_enter Try.func41, Try.ntmps41
  go_wp2_with fail
  refine (hl _).mono ?_
  rintro e w1 ⟨rfl, rfl⟩
  go_wp2_with fail
  refine (hc _).mono ?_
  rintro e w2 ⟨rfl, rfl⟩
  go_wp2_with fail
  go_ret2
  exact ⟨rfl, (Below.refl _ _)⟩
set_option maxRecDepth 100000 in
theorem last_not {k : Int} (h : k < 1 ∨ 4 < k) (h0 : -9223372036854775808 ≤ k) (h1 : k ≤ 9223372036854775807) (p : Int) (w : World) : Calls Try.prog 42 #[.int .i64 k, .int .i64 p] w fun e w' => e = .returned (.tuple #[.int .i64 0, .int .i64 2]) ∧ Below w.heap.size w w' := by
  have hl := span_not h h0 h1 p
  clear h
  go_enter Try.func42, Try.ntmps42
  go_wp2_with fail
  refine (hl _).mono ?_
  rintro e w1 ⟨rfl, hb1⟩
  go_wp2_with fail
  go_ret2
  exact ⟨rfl, hb1⟩
set_option maxRecDepth 100000 in
theorem last_out {k n p : Int} (h : InKind k n) (hp : p < 0 ∨ 119988 ≤ p * n) (w : World) : Calls Try.prog 42 #[.int .i64 k, .int .i64 p] w fun e w' => e = .returned (.tuple #[.int .i64 0, .int .i64 5]) ∧ Below w.heap.size w w' := by
  have hl := span_out h hp
  clear h hp
  go_enter Try.func42, Try.ntmps42
  go_wp2_with fail
  refine (hl _).mono ?_
  rintro e w1 ⟨rfl, hb1⟩
  go_wp2_with fail
  go_ret2
  exact ⟨rfl, hb1⟩
set_option maxRecDepth 100000 in
theorem rlast_not {k : Int} (h : k < 1 ∨ 4 < k) (p : Int) (w : World) : Calls Try.prog 43 #[.int .i64 k, .int .i64 p] w fun e w' => e = .returned (.tuple #[.int .i64 0, .int .i64 2]) ∧ Below w.heap.size w w' := by
  have hl := begins_not h p
  clear h
  go_enter Try.func43, Try.ntmps43
  go_wp2_with fail
  refine (hl _).mono ?_
  rintro e w1 ⟨rfl, rfl⟩
  go_wp2_with fail
  go_ret2
  exact ⟨rfl, (Below.refl _ _)⟩
set_option maxRecDepth 100000 in
theorem rlast_out {k n p : Int} (h : InKind k n) (hp : p < 0 ∨ 119988 ≤ p * n) (w : World) : Calls Try.prog 43 #[.int .i64 k, .int .i64 p] w fun e w' => e = .returned (.tuple #[.int .i64 0, .int .i64 5]) ∧ Below w.heap.size w w' := by
  have hl := begins_out h hp
  clear h hp
  go_enter Try.func43, Try.ntmps43
  go_wp2_with fail
  refine (hl _).mono ?_
  rintro e w1 ⟨rfl, rfl⟩
  go_wp2_with fail
  go_ret2
  exact ⟨rfl, (Below.refl _ _)⟩
end Go.Proofs.Ytdjkdfgifajilaa
