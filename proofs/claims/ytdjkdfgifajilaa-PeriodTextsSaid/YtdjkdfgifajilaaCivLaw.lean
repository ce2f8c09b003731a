/- The date of a day by its parts; the walks of 'apportionlaw03.day', 'awake', 'CivilDays'. -/
import Derived.Test.YtdjkdfgifajilaaCivRef2
namespace Go.Proofs.Ytdjkdfgifajilaa
open Go.RowKit

theorem month_of (y z : Int) (hz : 0 ≤ z) : ∀ j : Nat, z < Civ.cum y (j + 1) → ∃ m : Nat, 1 ≤ m ∧ m ≤ j ∧ Civ.cum y m ≤ z ∧ z < Civ.cum y (m + 1) := by
  intro j
  induction j with
  | zero => intro h; rw [Civ.cum_one] at h; omega
  | succ j ih =>
    intro h
    by_cases h1 : z < Civ.cum y (j + 1)
    · obtain ⟨m, a, b, c, d⟩ := ih h1
      exact ⟨m, a, by omega, c, d⟩
    · exact ⟨j + 1, by omega, by omega, by omega, h⟩
theorem exists_date (n : Int) (h0 : 0 ≤ n) (h1 : n ≤ 3652058) : ∃ (y : Int) (m : Nat) (d : Int), IsDate n y m d := by
  have hy := Civ.year_guess n _ _ _ _ _ _ _ h0 h1 rfl rfl rfl rfl rfl rfl rfl
  obtain ⟨y1, y2, hsum, z0, z1⟩ := hy
  generalize 400 * (n / 146097) + 100 * min (n % 146097 / 36524) 3 + 4 * ((n % 146097 - min (n % 146097 / 36524) 3 * 36524) / 1461) + min ((n % 146097 - min (n % 146097 / 36524) 3 * 36524) % 1461 / 365) 3 + 1 = y at *
  generalize (n % 146097 - min (n % 146097 / 36524) 3 * 36524) % 1461 - 365 * min ((n % 146097 - min (n % 146097 / 36524) 3 * 36524) % 1461 / 365) 3 = z at *
  obtain ⟨m, a, b, c, d⟩ := month_of y z z0 12 (by rw [Civ.cum_year y y1 y2]; exact z1)
  rw [Civ.cum_succ y m a] at d
  exact ⟨y, m, z - Civ.cum y m + 1, ⟨y1, y2, a, b, by omega, by omega⟩, by unfold Civ.num; omega⟩
theorem isDate_range {n y d : Int} {m : Nat} (h : IsDate n y m d) : 0 ≤ n ∧ n ≤ 3652058 := h.2 ▸ Civ.num_range h.1
theorem date_is {n y d : Int} {m : Nat} (h : IsDate n y m d) (w : World) : Calls Try.prog 18 #[.int .i64 n] w fun e w' => e = .returned (.tuple #[.agg #[.int .i64 y, .int .i64 m, .int .i64 d], .int .i64 0]) ∧ Below w.heap.size w w' :=
  (date_good n w (isDate_range h).1 (isDate_range h).2).mono fun e w' ⟨y', m', d', h', he, hb⟩ => by
    obtain ⟨rfl, rfl, rfl⟩ := Civ.num_inj h'.1 h.1 (h'.2.trans h.2.symm)
    exact ⟨he, hb⟩
theorem refDate_is {n y d : Int} {m : Nat} (h : IsDate n y m d) (w : World) : Calls Try.prog 19 #[.int .i64 n] w fun e w' => e = .returned (.tuple #[.agg #[.int .i64 y, .int .i64 m, .int .i64 d], .int .i64 0]) ∧ Below w.heap.size w w' :=
  (refDate_good n w (isDate_range h).1 (isDate_range h).2).mono fun e w' ⟨y', m', d', h', he, hb⟩ => by
    obtain ⟨rfl, rfl, rfl⟩ := Civ.num_inj h'.1 h.1 (h'.2.trans h.2.symm)
    exact ⟨he, hb⟩
theorem date_not {n : Int} (h : ¬ (0 ≤ n ∧ n ≤ 3652058)) (w : World) : Calls Try.prog 18 #[.int .i64 n] w fun e w' => e = .returned (.tuple #[.agg #[.int .i64 0, .int .i64 0, .int .i64 0], .int .i64 5]) ∧ Below w.heap.size w w' := date_bad n w h
theorem refDate_not {n : Int} (h : ¬ (0 ≤ n ∧ n ≤ 3652058)) (w : World) : Calls Try.prog 19 #[.int .i64 n] w fun e w' => e = .returned (.tuple #[.agg #[.int .i64 0, .int .i64 0, .int .i64 0], .int .i64 5]) ∧ Below w.heap.size w w' := refDate_bad n w h
set_option maxRecDepth 100000 in
set_option maxHeartbeats 1000000 in
theorem lawday_yes {n y d : Int} {m : Nat} (h : IsDate n y m d) (w : World) :
    Calls Try.prog 31 #[.int .i64 y, .int .i64 m, .int .i64 d, .int .i64 n] w fun e w' => e = .returned (.bool true) ∧ w = w' := by
  have hd := fun w => day_good y d m w h.1
  rw [h.2] at hd
  clear h
  go_enter Try.func31, Try.ntmps31
  go_wp2_with (go_at_call 16; refine (hd _).mono ?_; rintro e w' ⟨rfl, rfl⟩)
  go_ret
  exact ⟨rfl, rfl⟩
theorem d1 : IsDate 0 1 1 1 := by refine ⟨⟨by omega, by omega, by omega, by omega, by omega, by decide⟩, by decide⟩
theorem d2 : IsDate 738944 2024 2 29 := by refine ⟨⟨by omega, by omega, by omega, by omega, by omega, by decide⟩, by decide⟩
set_option maxRecDepth 100000 in
set_option maxHeartbeats 1000000 in
theorem civ_awake (w : World) : Calls Try.prog 24 #[] w fun e w' => e = .returned (.bool true) ∧ Below w.heap.size w w' := by
  have hw := weekday_any 738944
  rw [show wday 738944 = 4 by decide] at hw
  go_enter Try.func24, Try.ntmps24
  go_wp2_with fail
  refine (date_is d2 _).mono ?_
  rintro e w1 ⟨rfl, hb1⟩
  go_wp2_with fail
  refine (lawday_yes (m := 1) d1 _).mono ?_
  rintro e w2 ⟨rfl, rfl⟩
  go_wp2_with fail
  refine (lawday_yes (m := 2) d2 _).mono ?_
  rintro e w2 ⟨rfl, rfl⟩
  go_wp2_with fail
  refine (hw _).mono ?_
  rintro e w2 ⟨rfl, rfl⟩
  go_wp2_with fail
  go_ret
  exact ⟨rfl, bel_alloc hb1 _⟩
end Go.Proofs.Ytdjkdfgifajilaa
