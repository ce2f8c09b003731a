/- The walks of 'civil.valid', 'Weekday', 'Day', 'Date'. -/
import Derived.Test.YtdjkdfgifajilaaCivWalk
namespace Go.Proofs.Ytdjkdfgifajilaa
open Go.RowKit

/-- A day and an error as a value. -/
def dayV (y m d : Int) (v : Value) : Prop := if d < 1 ∨ Civ.dim y m < d then v = .tuple #[.int .i64 0, .int .i64 2] else v = .tuple #[.int .i64 (Civ.num y m.toNat d), .int .i64 0]
set_option maxRecDepth 100000 in
set_option maxHeartbeats 1000000 in
theorem day_bad (y m d : Int) (w : World) (y0 : -9223372036854775808 ≤ y) (y1 : y ≤ 9223372036854775807) (m0 : -9223372036854775808 ≤ m) (m1 : m ≤ 9223372036854775807) (h : d < 1 ∨ Civ.dim y m < d) :
    Calls Try.prog 16 #[.int .i64 y, .int .i64 m, .int .i64 d] w fun e w' => e = .returned (.tuple #[.int .i64 0, .int .i64 2]) ∧ w = w' := by
  have hl := length_any y m
  have hd := Civ.dim_lo y m
  rcases (by omega : d < 1 ∨ (¬ d < 1 ∧ Civ.dim y m < d)) with h1 | ⟨h1, h2⟩
  all_goals
    clear h
    go_enter Try.func16, Try.ntmps16
    go_wp2_with (go_at_call 20; refine (hl _ y0 y1 m0 m1).mono ?_; rintro e w' ⟨rfl, rfl⟩)
    go_ret2
    exact ⟨rfl, rfl⟩
set_option maxRecDepth 100000 in
set_option maxHeartbeats 1000000 in
theorem day_good (y d : Int) (m : Nat) (w : World) (h : Civ.IsD y m d) :
    Calls Try.prog 16 #[.int .i64 y, .int .i64 m, .int .i64 d] w fun e w' => e = .returned (.tuple #[.int .i64 (Civ.num y m d), .int .i64 0]) ∧ w = w' := by
  obtain ⟨h1, h2, h3, h4, h5, h6⟩ := h
  have ha := Civ.ahead_lo y h1 (by omega)
  have hdm := Civ.dim_lo y m
  obtain ⟨a, hae⟩ : ∃ a, Civ.ahead y = a := ⟨_, rfl⟩
  have hform : 365 * (y - 1) + (y - 1) / 4 - (y - 1) / 100 + (y - 1) / 400 = a := hae
  have hl := fun (k : Nat) => length_any y k
  have hnum : Civ.num y m d = a + Civ.cum y m + d - 1 := by rw [← hae]; rfl
  rw [hnum]
  rw [hae] at ha
  have Hform := Lib.hid hform
  clear hnum hae hform
  have hlm := hl m
  have q1 : decide (d < 1) = false := by simp; omega
  have q2 : decide (Civ.dim y m < d) = false := by simp; omega
  go_enter Try.func16, Try.ntmps16
  go_wp2_with (go_at_call 20; refine (hlm _ (by omega) (by omega) (by omega) (by omega)).mono ?_; rintro e w' ⟨rfl, rfl⟩)
  go_loop [9, 10] (fun s i => ∃ k : Nat, 1 ≤ k ∧ k ≤ m ∧ i = .int .i64 k ∧ s = .int .i64 (a + d - 1 + Civ.cum y k)) (fun _ i => m - (intOf i).toNat)
  case atStart => exact ⟨1, by omega, h3, rfl, by rw [Hform.out, Civ.cum_one]; simp⟩
  case round =>
    obtain ⟨k, hk1, hk2, rfl, rfl⟩ := hrel
    have cb := Civ.cum_lo y k
    have db := Civ.dim_lo y k
    have hlk := hl k
    by_cases hlt : k < m
    · have Hs := Lib.hid (Civ.cum_succ y k hk1)
      go_wp2_with (go_at_call 20; refine (hlk _ (by omega) (by omega) (by omega) (by omega)).mono ?_; rintro e w' ⟨rfl, rfl⟩)
      go_round
      case rel => exact ⟨k + 1, by omega, by omega, by go_num, by rw [Hs.out]; go_num⟩
      case measure => simp [intOf]; omega
    · obtain rfl : k = m := by omega
      go_wp2_with fail
      go_ret2
      exact ⟨by show Ending.returned (.tuple #[.int .i64 (a + d - 1 + Civ.cum y k), .int .i64 0]) = _; rw [show a + d - 1 + Civ.cum y k = a + Civ.cum y k + d - 1 by omega], rfl⟩
set_option maxRecDepth 100000 in
set_option maxHeartbeats 1000000 in
theorem valid_any (n : Int) (w : World) : Calls Try.prog 47 #[.int .i64 n] w fun e w' => e = .returned (.bool (decide (0 ≤ n ∧ n ≤ 3652058))) ∧ w = w' := by
  rcases (by omega : n < 0 ∨ (¬ n < 0 ∧ 3652058 < n) ∨ (¬ n < 0 ∧ ¬ 3652058 < n)) with h | ⟨h1, h2⟩ | ⟨h1, h2⟩
  · rw [decide_eq_false (by omega)]
    go_enter Try.func47, Try.ntmps47
    go_wp2
    go_ret
    exact ⟨by first | rfl | (show Ending.returned (.bool (decide (n ≤ 3652058))) = _; rw [decide_eq_false (by omega)]) | (show Ending.returned (.bool (decide (n ≤ 3652058))) = _; rw [decide_eq_true (by omega)]), rfl⟩
  · rw [decide_eq_false (by omega)]
    go_enter Try.func47, Try.ntmps47
    go_wp2
    go_ret
    exact ⟨by first | rfl | (show Ending.returned (.bool (decide (n ≤ 3652058))) = _; rw [decide_eq_false (by omega)]) | (show Ending.returned (.bool (decide (n ≤ 3652058))) = _; rw [decide_eq_true (by omega)]), rfl⟩
  · rw [decide_eq_true (by omega)]
    go_enter Try.func47, Try.ntmps47
    go_wp2
    go_ret
    exact ⟨by first | rfl | (show Ending.returned (.bool (decide (n ≤ 3652058))) = _; rw [decide_eq_false (by omega)]) | (show Ending.returned (.bool (decide (n ≤ 3652058))) = _; rw [decide_eq_true (by omega)]), rfl⟩
def wday (n : Int) : Int := if 0 ≤ n ∧ n ≤ 3652058 then n % 7 + 1 else 0
set_option maxRecDepth 100000 in
set_option maxHeartbeats 1000000 in
theorem weekday_any (n : Int) (w : World) : Calls Try.prog 22 #[.int .i64 n] w fun e w' => e = .returned (.int .i64 (wday n)) ∧ w = w' := by
  have hv := valid_any n
  by_cases h : 0 ≤ n ∧ n ≤ 3652058
  · rw [decide_eq_true h] at hv
    unfold wday
    rw [if_pos h]
    obtain ⟨h1, h2⟩ := h
    go_enter Try.func22, Try.ntmps22
    go_wp2_with (go_at_call 47; refine (hv _).mono ?_; rintro e w' ⟨rfl, rfl⟩)
    go_ret
    exact ⟨rfl, rfl⟩
  · rw [decide_eq_false h] at hv
    unfold wday
    rw [if_neg h]
    clear h
    go_enter Try.func22, Try.ntmps22
    go_wp2_with (go_at_call 47; refine (hv _).mono ?_; rintro e w' ⟨rfl, rfl⟩)
    go_ret
    exact ⟨rfl, rfl⟩
end Go.Proofs.Ytdjkdfgifajilaa
