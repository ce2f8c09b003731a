/- The walk of the statement 'PeriodSpans'. -/
import Derived.Test.YtdjkdfgifajilaaSpAwake
import Derived.Test.YtdjkdfgifajilaaSpLast
namespace Go.Proofs.Ytdjkdfgifajilaa
open Go.RowKit Go.Lib

/-- What a call hands back: a number and an error. -/
def Says2 (f : FuncId) (k p a e : Int) : Prop := ∀ w : World, Calls Try.prog f #[.int .i64 k, .int .i64 p] w fun r w' => r = .returned (.tuple #[.int .i64 a, .int .i64 e]) ∧ Below w.heap.size w w'
theorem both_of (k day : Int) (h0 : -9223372036854775808 ≤ k) (h1 : k ≤ 9223372036854775807) : ∃ a e, Says2 37 k day a e ∧ Says2 40 k day a e := by
  rcases kind_or k with ⟨n, h⟩ | h
  · by_cases hd : 0 ≤ day ∧ day ≤ 3652058
    · obtain ⟨y, m, d, hD⟩ := exists_date day hd.1 hd.2
      exact ⟨_, _, fun w => of_is h hD w, fun w => rof_is h hD w⟩
    · exact ⟨_, _, fun w => of_out h hd w, fun w => rof_out h hd w⟩
  · exact ⟨_, _, fun w => of_not h h0 h1 day w, fun w => rof_not h day w⟩
theorem isD_one {y : Int} {m : Nat} (y1 : 1 ≤ y) (y2 : y ≤ 9999) (m1 : 1 ≤ m) (m2 : m ≤ 12) : Civ.IsD y m 1 := ⟨y1, y2, m1, m2, by omega, by have := Civ.dim_pos y m y1 y2 m1 m2; omega⟩
theorem both_first (k p : Int) (h0 : -9223372036854775808 ≤ k) (h1 : k ≤ 9223372036854775807) : ∃ a e, Says2 38 k p a e ∧ Says2 41 k p a e := by
  rcases kind_or k with ⟨n, h⟩ | h
  · by_cases hp : 0 ≤ p ∧ p * n < 119988
    · have hq : 0 ≤ p * n := by rcases h with ⟨rfl, rfl⟩ | ⟨rfl, rfl⟩ | ⟨rfl, rfl⟩ | ⟨rfl, rfl⟩ <;> omega
      have hm : p * n % 12 + 1 = ((p * n % 12 + 1).toNat : Int) := by omega
      have hD : Civ.IsD (p * n / 12 + 1) (p * n % 12 + 1).toNat 1 := isD_one (by omega) (by omega) (by omega) (by omega)
      exact ⟨_, _, fun w => first_is h hp.1 hp.2 rfl hm hD w, fun w => rfirst_is h hp.1 hp.2 rfl hm hD w⟩
    · have hp : p < 0 ∨ 119988 ≤ p * n := by omega
      exact ⟨_, _, fun w => first_out h hp w, fun w => rfirst_out h hp w⟩
  · exact ⟨_, _, fun w => first_not h h0 h1 p w, fun w => rfirst_not h p w⟩
theorem both_last (k p : Int) (h0 : -9223372036854775808 ≤ k) (h1 : k ≤ 9223372036854775807) : ∃ a e, Says2 42 k p a e ∧ Says2 43 k p a e := by
  rcases kind_or k with ⟨n, h⟩ | h
  · by_cases hp : 0 ≤ p ∧ p * n < 119988
    · have hq : 0 ≤ p * n ∧ (p * n + (n - 1)) / 12 + 1 = p * n / 12 + 1 ∧ (p * n + (n - 1)) % 12 + 1 = p * n % 12 + 1 + n - 1 ∧ p * n % 12 + 1 + n - 1 ≤ 12 ∧ 1 ≤ n := by rcases h with ⟨rfl, rfl⟩ | ⟨rfl, rfl⟩ | ⟨rfl, rfl⟩ | ⟨rfl, rfl⟩ <;> omega
      obtain ⟨q0, q1, q2, q3, q4⟩ := hq
      have hm : p * n % 12 + 1 + n - 1 = ((p * n % 12 + 1 + n - 1).toNat : Int) := by omega
      have hD : Civ.IsD (p * n / 12 + 1) (p * n % 12 + 1 + n - 1).toNat 1 := isD_one (by omega) (by omega) (by omega) (by omega)
      exact ⟨_, _, fun w => last_is h hp.1 hp.2 q1 (q2.trans hm) hD w, fun w => rlast_is h hp.1 hp.2 rfl hm hD w⟩
    · have hp : p < 0 ∨ 119988 ≤ p * n := by omega
      exact ⟨_, _, fun w => last_out h hp w, fun w => rlast_out h hp w⟩
  · exact ⟨_, _, fun w => last_not h h0 h1 p w, fun w => rlast_not h p w⟩
set_option maxRecDepth 100000 in
set_option maxHeartbeats 2000000 in
theorem spans_walk (k day p : Int) (w : World) (hk : -9223372036854775808 ≤ k ∧ k ≤ 9223372036854775807) (_ : -9223372036854775808 ≤ day ∧ day ≤ 9223372036854775807) (_ : -9223372036854775808 ≤ p ∧ p ≤ 9223372036854775807) :
    Calls Try.prog 13 #[.int .i64 k, .int .i64 day, .int .i64 p] w fun r w' => r = .returned (.bool true) ∧ Below w.heap.size w w' := by
  obtain ⟨a, e, c1, c2⟩ := both_of k day hk.1 hk.2
  obtain ⟨a', e', c3, c4⟩ := both_first k p hk.1 hk.2
  obtain ⟨a2, e2, c5, c6⟩ := both_last k p hk.1 hk.2
  have t1 : (a == a) = true := by simp
  have t2 : (e == e) = true := by simp
  have t3 : (a' == a') = true := by simp
  have t4 : (e' == e') = true := by simp
  have t5 : (a2 == a2) = true := by simp
  have t6 : (e2 == e2) = true := by simp
  unfold Says2 at c1 c2 c3 c4 c5 c6
  go_enter Try.func13, Try.ntmps13
  go_wp2_with fail
  refine (c1 _).mono ?_
  rintro e w1 ⟨rfl, hb1⟩
  go_wp2_with fail
  refine (c2 _).mono ?_
  rintro e w2 ⟨rfl, hb2⟩
  go_wp2_with fail
  refine (c3 _).mono ?_
  rintro e w3 ⟨rfl, hb3⟩
  go_wp2_with fail
  refine (c4 _).mono ?_
  rintro e w4 ⟨rfl, hb4⟩
  go_wp2_with fail
  refine (c5 _).mono ?_
  rintro e w5 ⟨rfl, hb5⟩
  go_wp2_with fail
  refine (c6 _).mono ?_
  rintro e w6 ⟨rfl, hb6⟩
  go_wp2_with fail
  refine (per_awake _).mono ?_
  rintro e w7 ⟨rfl, hb7⟩
  go_wp2_with fail
  go_ret
  exact ⟨rfl, bel_call (bel_call (bel_call (bel_call (bel_call (bel_call hb1 hb2) hb3) hb4) hb5) hb6) hb7⟩
end Go.Proofs.Ytdjkdfgifajilaa
