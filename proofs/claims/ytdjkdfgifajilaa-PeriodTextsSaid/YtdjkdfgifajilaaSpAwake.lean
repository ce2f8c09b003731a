/- The walks of the law's of, text, fault, awake. -/
import Derived.Test.YtdjkdfgifajilaaSpOf2
import Derived.Test.YtdjkdfgifajilaaSpText2
import Derived.Test.YtdjkdfgifajilaaSpQbad
namespace Go.Proofs.Ytdjkdfgifajilaa
open Go.RowKit Go.Lib

set_option maxRecDepth 100000 in
theorem lof_yes {k n : Int} (h : InKind k n) {day y d p : Int} {m : Nat} (hd : IsDate day y m d) (hp : (12 * (y - 1) + m - 1) / n = p) (w : World) : Calls Try.prog 44 #[.int .i64 k, .int .i64 day, .int .i64 p] w fun e w' => e = .returned (.bool true) ∧ Below w.heap.size w w' := by
  have hc := fun w => of_is h hd w
  rw [hp] at hc
  have t : (p == p) = true := by simp
  clear h hd hp
  go_enter Try.func44, Try.ntmps44
  go_wp2_with fail
  refine (hc _).mono ?_
  rintro e w1 ⟨rfl, hb1⟩
  go_wp2_with fail
  go_ret
  exact ⟨rfl, hb1⟩
set_option maxRecDepth 100000 in
theorem ltext_yes {k n p : Int} {y a : Nat} (h : InKind k n) (h0 : 0 ≤ p) (hp : p * n < 119988) (hy : p * n / 12 + 1 = y) (ha : p * n % 12 / n + 1 = a) {s : ByteArray} (hs : strOfNums (pText k y a) = s) (w : World) : Calls Try.prog 39 #[.int .i64 k, .int .i64 p, .string s] w fun e w' => e = .returned (.bool true) ∧ Below w.heap.size w w' := by
  have hc := fun w => ptext_is h h0 hp hy ha w
  rw [hs] at hc
  clear h hp hy ha hs h0
  go_enter Try.func39, Try.ntmps39
  go_wp2_with fail
  refine (hc _).mono ?_
  rintro e w1 ⟨rfl, hb1⟩
  go_wp2_with fail
  go_ret
  exact ⟨rfl, hb1⟩
set_option maxRecDepth 100000 in
theorem lfault_yes {s : ByteArray} {e p : Int} (hc : ∀ w : World, Calls Try.prog 35 #[.string s] w fun r w' => r = .returned (.tuple #[.int .i64 0, .int .i64 0, .agg #[.int .i64 e, .int .i64 p]]) ∧ Below w.heap.size w w') (w : World) : Calls Try.prog 45 #[.string s, .int .i64 e, .int .i64 p] w fun r w' => r = .returned (.bool true) ∧ Below w.heap.size w w' := by
  have t : (e == e) = true := by simp
  have t2 : (p == p) = true := by simp
  go_enter Try.func45, Try.ntmps45
  go_wp2_with fail
  refine (hc _).mono ?_
  rintro e w1 ⟨rfl, hb1⟩
  go_wp2_with fail
  go_ret
  exact ⟨rfl, bel_alloc hb1 _⟩
theorem aq (w : World) : Calls Try.prog 35 #[.string ⟨#[50, 48, 50, 52, 45, 81, 53]⟩] w fun r w' => r = .returned (.tuple #[.int .i64 0, .int .i64 0, .agg #[.int .i64 4, .int .i64 6]]) ∧ Below w.heap.size w w' :=
  parse_qbad ⟨#[50, 48, 50, 52, 45, 81, 53]⟩ (by decide) (by decide) (by decide +kernel) (by decide +kernel) (by decide +kernel) (by decide +kernel) w
theorem at1 : strOfNums (pText 1 2024 2) = ⟨#[50, 48, 50, 52, 45, 77, 48, 50]⟩ := by decide +kernel
set_option maxRecDepth 100000 in
theorem per_awake (w : World) : Calls Try.prog 32 #[] w fun r w' => r = .returned (.bool true) ∧ Below w.heap.size w w' := by
  go_enter Try.func32, Try.ntmps32
  go_wp2_with fail
  refine (lof_yes (k := 1) (n := 1) (.inl ⟨rfl, rfl⟩) d2 (by decide) _).mono ?_
  rintro e w1 ⟨rfl, hb1⟩
  go_wp2_with fail
  refine (lof_yes (k := 2) (n := 3) (.inr (.inl ⟨rfl, rfl⟩)) d2 (by decide) _).mono ?_
  rintro e w2 ⟨rfl, hb2⟩
  go_wp2_with fail
  refine (ltext_yes (k := 1) (n := 1) (y := 2024) (a := 2) (.inl ⟨rfl, rfl⟩) (by decide) (by decide) (by decide) (by decide) at1 _).mono ?_
  rintro e w3 ⟨rfl, hb3⟩
  go_wp2_with fail
  refine (lfault_yes aq _).mono ?_
  rintro e w4 ⟨rfl, hb4⟩
  go_wp2_with fail
  go_ret
  exact ⟨rfl, bel_call (bel_call (bel_call hb1 hb2) hb3) hb4⟩
end Go.Proofs.Ytdjkdfgifajilaa
