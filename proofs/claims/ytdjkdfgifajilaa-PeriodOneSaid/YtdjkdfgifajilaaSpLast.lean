/- The walks of Last, the program's and the document's. -/
import Derived.Test.YtdjkdfgifajilaaSpFirst
namespace Go.Proofs.Ytdjkdfgifajilaa
open Go.RowKit Go.Lib

theorem isD_last {y : Int} {m : Nat} (h : Civ.IsD y m 1) : Civ.IsD y m (Civ.dim y m) := by
  obtain ⟨a, b, c, d, e, f⟩ := h
  exact ⟨a, b, c, d, f, Int.le_refl _⟩
set_option maxRecDepth 100000 in
theorem last_is {k n p y : Int} {m : Nat} (h : InKind k n) (h0 : 0 ≤ p) (hp : p * n < 119988) (hy : (p * n + (n - 1)) / 12 + 1 = y) (hm : (p * n + (n - 1)) % 12 + 1 = m) (hd : Civ.IsD y m 1) (w : World) : Calls Try.prog 42 #[.int .i64 k, .int .i64 p] w fun e w' => e = .returned (.tuple #[.int .i64 (Civ.num y m (Civ.dim y m)), .int .i64 0]) ∧ Below w.heap.size w w' := by
  have hl := span_is h h0 hp
  have hz := hd
  obtain ⟨y1, y2, m1, m2, -, -⟩ := hz
  have hlen : ∀ w : World, Calls Try.prog 20 #[.int .i64 ((p * n + (n - 1)) / 12 + 1), .int .i64 ((p * n + (n - 1)) % 12 + 1)] w fun e w' => e = .returned (.int .i64 (Civ.dim y m)) ∧ w = w' := fun w => by rw [hy, hm]; exact length_any y m w (by omega) (by omega) (by omega) (by omega)
  have hc : ∀ w : World, Calls Try.prog 16 #[.int .i64 ((p * n + (n - 1)) / 12 + 1), .int .i64 ((p * n + (n - 1)) % 12 + 1), .int .i64 (Civ.dim y m)] w fun e w' => e = .returned (.tuple #[.int .i64 (Civ.num y m (Civ.dim y m)), .int .i64 0]) ∧ w = w' := fun w => by rw [hy, hm]; exact day_good y (Civ.dim y m) m w (isD_last hd)
  have hpn : 0 ≤ p * n := by rcases h with ⟨rfl, rfl⟩ | ⟨rfl, rfl⟩ | ⟨rfl, rfl⟩ | ⟨rfl, rfl⟩ <;> omega
  have n1 : 1 ≤ n ∧ n ≤ 12 := by rcases h with ⟨rfl, rfl⟩ | ⟨rfl, rfl⟩ | ⟨rfl, rfl⟩ | ⟨rfl, rfl⟩ <;> omega
  clear h hd hy hm m1 m2 y1 y2
  generalize p * n = q at *
  go_enter Try.func42, Try.ntmps42
  go_wp2_with fail
  refine (hl _).mono ?_
  rintro e w1 ⟨rfl, hb1⟩
  go_wp2_with fail
  refine (hlen _).mono ?_
  rintro e w2 ⟨rfl, rfl⟩
  go_wp2_with fail
  refine (hc _).mono ?_
  rintro e w2 ⟨rfl, rfl⟩
  go_wp2_with fail
  go_ret2
  exact ⟨rfl, hb1⟩
set_option maxRecDepth 100000 in
theorem rlast_is {k n p y : Int} {m : Nat} (h : InKind k n) (h0 : 0 ≤ p) (hp : p * n < 119988) (hy : p * n / 12 + 1 = y) (hm : p * n % 12 + 1 + n - 1 = m) (hd : Civ.IsD y m 1) (w : World) : Calls Try.prog 43 #[.int .i64 k, .int .i64 p] w fun e w' => e = .returned (.tuple #[.int .i64 (Civ.num y m (Civ.dim y m)), .int .i64 0]) ∧ Below w.heap.size w w' := by
  have hl := begins_is h h0 hp
  have hn := months_is h
  have hz := hd
  obtain ⟨y1, y2, m1, m2, -, -⟩ := hz
  have hlen : ∀ w : World, Calls Try.prog 21 #[.int .i64 y, .int .i64 (p * n % 12 + 1 + n - 1)] w fun e w' => e = .returned (.int .i64 (Civ.dim y m)) ∧ w = w' := fun w => by rw [hm]; exact refLength_any y m w (by omega) (by omega) (by omega) (by omega)
  have hc : ∀ w : World, Calls Try.prog 17 #[.int .i64 y, .int .i64 (p * n % 12 + 1 + n - 1), .int .i64 (Civ.dim y m)] w fun e w' => e = .returned (.tuple #[.int .i64 (Civ.num y m (Civ.dim y m)), .int .i64 0]) ∧ w = w' := fun w => by rw [hm]; exact refDay_good y (Civ.dim y m) m w (isD_last hd)
  have hpn : 0 ≤ p * n := by rcases h with ⟨rfl, rfl⟩ | ⟨rfl, rfl⟩ | ⟨rfl, rfl⟩ | ⟨rfl, rfl⟩ <;> omega
  have n1 : 1 ≤ n ∧ n ≤ 12 := by rcases h with ⟨rfl, rfl⟩ | ⟨rfl, rfl⟩ | ⟨rfl, rfl⟩ | ⟨rfl, rfl⟩ <;> omega
  rw [hy] at hl
  clear h hd hy hm m1 m2 y1 y2
  generalize p * n = q at *
  go_enter Try.func43, Try.ntmps43
  go_wp2_with fail
  refine (hl _).mono ?_
  rintro e w1 ⟨rfl, rfl⟩
  go_wp2_with fail
  refine (hn _).mono ?_
  rintro e w2 ⟨rfl, rfl⟩
  go_wp2_with fail
  refine (hlen _).mono ?_
  rintro e w2 ⟨rfl, rfl⟩
  go_wp2_with fail
  refine (hc _).mono ?_
  rintro e w2 ⟨rfl, rfl⟩
  go_wp2_with fail
  go_ret2
  exact ⟨rfl, Below.refl _ _⟩
end Go.Proofs.Ytdjkdfgifajilaa
