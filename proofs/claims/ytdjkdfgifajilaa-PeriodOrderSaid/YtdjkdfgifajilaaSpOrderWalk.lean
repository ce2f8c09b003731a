/- The walk of the statement 'PeriodOrder'.. -/
import Derived.Test.YtdjkdfgifajilaaSpAwake
namespace Go.Proofs.Ytdjkdfgifajilaa
open Go.RowKit Go.Lib

/-- Days and the months in which they are. -/
theorem month_mono {a b y d y' d' : Int} {m m' : Nat} (h : IsDate a y m d) (h' : IsDate b y' m' d') (hab : a ≤ b) : 12 * (y - 1) + m - 1 ≤ 12 * (y' - 1) + m' - 1 := by
  rcases Int.lt_or_le (12 * (y' - 1) + m' - 1) (12 * (y - 1) + m - 1) with hlt | hge
  · have h1 := h.1
    have h2 := h'.1
    have hl := Civ.num_lt h2 h1 (by
      obtain ⟨_, _, a1, a2, _, _⟩ := h1
      obtain ⟨_, _, b1, b2, _, _⟩ := h2
      omega)
    rw [h.2, h'.2] at hl
    omega
  · exact hge
theorem year_close {a b y d d' : Int} {m m' : Nat} (h : IsDate a y m d) (h' : IsDate b y m' d') : b - a < 366 := by
  have h1 := Civ.num_year h.1
  have h2 := Civ.num_year h'.1
  rw [h.2] at h1
  rw [h'.2] at h2
  have h3 := Civ.ahead_succ y
  have h4 := Civ.lp01 y
  omega
/-- A later day is in no earlier period; two days of one are less than a year apart. -/
theorem period_order {k n a b y d y' d' : Int} {m m' : Nat} (hk : InKind k n) (h : IsDate a y m d) (h' : IsDate b y' m' d') (hab : a ≤ b) :
    (12 * (y - 1) + m - 1) / n ≤ (12 * (y' - 1) + m' - 1) / n ∧ ((12 * (y - 1) + m - 1) / n = (12 * (y' - 1) + m' - 1) / n → b - a < 366) := by
  have hm := month_mono h h' hab
  obtain ⟨_, _, a1, a2, _, _⟩ := h.1
  obtain ⟨_, _, b1, b2, _, _⟩ := h'.1
  have hy : (12 * (y - 1) + m - 1) / n = (12 * (y' - 1) + m' - 1) / n → y = y' := by
    intro e
    rcases hk with ⟨rfl, rfl⟩ | ⟨rfl, rfl⟩ | ⟨rfl, rfl⟩ | ⟨rfl, rfl⟩ <;> omega
  refine ⟨?_, fun e => ?_⟩
  · rcases hk with ⟨rfl, rfl⟩ | ⟨rfl, rfl⟩ | ⟨rfl, rfl⟩ | ⟨rfl, rfl⟩ <;> omega
  · obtain rfl := hy e
    exact year_close h h'
set_option maxRecDepth 100000 in
set_option maxHeartbeats 2000000 in
theorem porder_walk (k a b : Int) (w : World) (hk : -9223372036854775808 ≤ k ∧ k ≤ 9223372036854775807) (ha : -9223372036854775808 ≤ a ∧ a ≤ 9223372036854775807) (hb : -9223372036854775808 ≤ b ∧ b ≤ 9223372036854775807) :
    Calls Try.prog 11 #[.int .i64 k, .int .i64 a, .int .i64 b] w fun r w' => r = .returned (.bool true) ∧ Below w.heap.size w w' := by
  by_cases hout : k < 1 ∨ 4 < k ∨ a < 0 ∨ b < a ∨ 3652058 < b
  · rcases (by omega : k < 1 ∨ (¬ k < 1 ∧ 4 < k) ∨ (¬ k < 1 ∧ ¬ 4 < k ∧ a < 0) ∨ (¬ k < 1 ∧ ¬ 4 < k ∧ ¬ a < 0 ∧ b < a) ∨ (¬ k < 1 ∧ ¬ 4 < k ∧ ¬ a < 0 ∧ ¬ b < a ∧ 3652058 < b)) with g | ⟨g1, g2⟩ | ⟨g1, g2, g3⟩ | ⟨g1, g2, g3, g4⟩ | ⟨g1, g2, g3, g4, g5⟩
    all_goals
      clear hout
      go_enter Try.func11, Try.ntmps11
      go_wp2_with fail
      refine (per_awake _).mono ?_
      rintro e w1 ⟨rfl, hb1⟩
      go_wp2_with fail
      go_ret
      exact ⟨rfl, hb1⟩
  obtain ⟨n, hkn⟩ : ∃ n, InKind k n := by
    rcases kind_or k with h | h
    · exact h
    · omega
  obtain ⟨y, m, d, hD⟩ := exists_date a (by omega) (by omega)
  obtain ⟨y', m', d', hD'⟩ := exists_date b (by omega) (by omega)
  have hord := period_order hkn hD hD' (by omega)
  have c1 := fun w => of_is hkn hD w
  have c2 := fun w => of_is hkn hD' w
  generalize (12 * (y - 1) + m - 1) / n = p at *
  generalize (12 * (y' - 1) + m' - 1) / n = q at *
  obtain ⟨o1, o2⟩ := hord
  have g1 : ¬ k < 1 := by omega
  have g2 : ¬ 4 < k := by omega
  have g3 : ¬ a < 0 := by omega
  have g4 : ¬ b < a := by omega
  have g5 : ¬ 3652058 < b := by omega
  have t1 : decide (p ≤ q) = true := decide_eq_true o1
  clear hout hkn hD hD'
  rcases Decidable.em (p = q) with hpq | hpq
  · have t2 : decide (b - a < 366) = true := decide_eq_true (o2 hpq)
    have t3 : (p != q) = false := by simp [hpq]
    clear o2
    go_enter Try.func11, Try.ntmps11
    go_wp2_with fail
    refine (per_awake _).mono ?_
    rintro e w1 ⟨rfl, hb1⟩
    go_wp2_with fail
    refine (c1 _).mono ?_
    rintro e w2 ⟨rfl, hb2⟩
    go_wp2_with fail
    refine (c2 _).mono ?_
    rintro e w3 ⟨rfl, hb3⟩
    go_wp2_with fail
    go_ret
    exact ⟨rfl, bel_call (bel_call hb1 hb2) hb3⟩
  · have t3 : (p != q) = true := by simpa using hpq
    clear o2
    go_enter Try.func11, Try.ntmps11
    go_wp2_with fail
    refine (per_awake _).mono ?_
    rintro e w1 ⟨rfl, hb1⟩
    go_wp2_with fail
    refine (c1 _).mono ?_
    rintro e w2 ⟨rfl, hb2⟩
    go_wp2_with fail
    refine (c2 _).mono ?_
    rintro e w3 ⟨rfl, hb3⟩
    go_wp2_with fail
    go_ret
    exact ⟨rfl, bel_call (bel_call hb1 hb2) hb3⟩
end Go.Proofs.Ytdjkdfgifajilaa
