/- The walk of the statement 'PeriodBack'. -/
import Derived.Test.YtdjkdfgifajilaaSpAwake
import Derived.Test.YtdjkdfgifajilaaSpBackFacts
import Derived.Test.YtdjkdfgifajilaaSpFirst
import Derived.Deep.DeepCutAuto
namespace Go.Proofs.Ytdjkdfgifajilaa
open Go.RowKit Go.Lib

/-- What the text of a period is: it is read as it; its error is the first day's. -/
theorem ptext_facts (k p : Int) (h0 : -9223372036854775808 ≤ k) (h1 : k ≤ 9223372036854775807) : ∃ (T : ByteArray) (x z : Int), (∀ w : World, Calls Try.prog 33 #[.int .i64 k, .int .i64 p] w fun r w' => r = .returned (.tuple #[.string T, .int .i64 x]) ∧ Below w.heap.size w w') ∧
    (∀ w : World, Calls Try.prog 38 #[.int .i64 k, .int .i64 p] w fun r w' => r = .returned (.tuple #[.int .i64 z, .int .i64 x]) ∧ Below w.heap.size w w') ∧
    (x = 2 ∨ x = 5 ∨ (x = 0 ∧ ∀ w : World, Calls Try.prog 35 #[.string T] w fun r w' => r = .returned (.tuple #[.int .i64 k, .int .i64 p, .agg #[.int .i64 0, .int .i64 0]]) ∧ Below w.heap.size w w')) := by
  rcases kind_or k with ⟨n, h⟩ | h
  · by_cases hp : 0 ≤ p ∧ p * n < 119988
    · have hq : 0 ≤ p * n ∧ 0 ≤ p * n / 12 + 1 ∧ 0 ≤ p * n % 12 / n + 1 := by rcases h with ⟨rfl, rfl⟩ | ⟨rfl, rfl⟩ | ⟨rfl, rfl⟩ | ⟨rfl, rfl⟩ <;> omega
      obtain ⟨y, hy⟩ := Int.eq_ofNat_of_zero_le hq.2.1
      obtain ⟨a, ha⟩ := Int.eq_ofNat_of_zero_le hq.2.2
      have hm : p * n % 12 + 1 = ((p * n % 12 + 1).toNat : Int) := by omega
      have hD : Civ.IsD (p * n / 12 + 1) (p * n % 12 + 1).toNat 1 := by
        refine ⟨by omega, by omega, by omega, by omega, by omega, ?_⟩
        have := Civ.dim_pos (p * n / 12 + 1) (p * n % 12 + 1).toNat (by omega) (by omega) (by omega) (by omega)
        omega
      have hs : (strOfNums (pText k y a)).size ≤ 9223372036854775807 := by
        rw [strOfNums_size]
        rcases h with ⟨rfl, rfl⟩ | ⟨rfl, rfl⟩ | ⟨rfl, rfl⟩ | ⟨rfl, rfl⟩
        · rw [pText_month]; simp
        · rw [pText_quarter]; simp
        · rw [pText_half]; simp
        · rw [pText_year]; simp
      exact ⟨_, 0, _, fun w => ptext_is h hp.1 hp.2 hy ha w, fun w => first_is h hp.1 hp.2 rfl hm hD w, .inr (.inr ⟨rfl, fun w => pparse_is hs (text_reads h hp.1 hp.2 hy ha) w⟩)⟩
    · have hp : p < 0 ∨ 119988 ≤ p * n := by omega
      exact ⟨_, 5, _, fun w => ptext_out h hp w, fun w => first_out h hp w, .inr (.inl rfl)⟩
  · exact ⟨_, 2, _, fun w => ptext_not h h0 h1 p w, fun w => first_not h h0 h1 p w, .inl rfl⟩
set_option maxRecDepth 100000 in
set_option maxHeartbeats 4000000 in
theorem pback_walk (k n : Int) (s : ByteArray) (w : World) (hk : -9223372036854775808 ≤ k ∧ k ≤ 9223372036854775807) (_ : -9223372036854775808 ≤ n ∧ n ≤ 9223372036854775807) (hs : s.size ≤ 9223372036854775807) :
    Calls Try.prog 12 #[.int .i64 k, .int .i64 n, .string s] w fun e w' => e = .returned (.bool true) ∧ Below w.heap.size w w' := by
  obtain ⟨T, x, z, hT, hF, hx⟩ := ptext_facts k n hk.1 hk.2
  have Hx := Lib.hid hx
  have tx : (x != x) = false := by simp
  clear hx
  go_enter Try.func12, Try.ntmps12
  go_wp2_with fail
  refine (per_awake _).mono ?_
  rintro e w1 ⟨rfl, hb1⟩
  go_wp2_with fail
  refine (hT _).mono ?_
  rintro e w2 ⟨rfl, hb2⟩
  go_wp2_with fail
  refine (hF _).mono ?_
  rintro e w3 ⟨rfl, hb3⟩
  have hb4 := bel_call (bel_call hb1 hb2) hb3
  clear hT hF
  go_upto_if 35 with fail
  go_cut [7] (fun ok wx => ok = .bool true ∧ Below w.heap.size w wx)
  case first =>
    rcases Hx.out with rfl | rfl | ⟨rfl, hq⟩
    · go_wp2_with fail
      go_meet
      exact ⟨rfl, hb4⟩
    · go_wp2_with fail
      go_meet
      exact ⟨rfl, hb4⟩
    · have t1 : (k != k) = false := by simp
      have t2 : (n != n) = false := by simp
      go_wp2_with fail
      refine (hq _).mono ?_
      rintro e w4 ⟨rfl, hb5⟩
      go_wp2_with fail
      go_meet
      exact ⟨rfl, bel_alloc (bel_call hb4 hb5) _⟩
  case rest =>
    obtain ⟨rfl, hbel⟩ := hcut
    clear Hx
    by_cases hl : 100 < s.size
    · go_wp2_with fail
      go_ret
      exact ⟨rfl, hbel⟩
    · go_wp2_with fail
      refine (pparse_any s hs _).mono ?_
      rintro e wp ⟨k', n', x', p', hr, rfl, hbp⟩
      unfold pV
      by_cases hx : x' = 0
      · subst hx
        obtain ⟨rfl, m, y, a, hk', h0, hp, hy, ha, ht⟩ := reads_text hr
        have hlt := fun w => ltext_yes hk' h0 hp hy ha ht w
        clear hr hk' hp hy ha ht
        go_wp2_with fail
        refine (hlt _).mono ?_
        rintro e wq ⟨rfl, hbq⟩
        go_wp2_with fail
        go_ret
        exact ⟨rfl, bel_call (bel_alloc (bel_call hbel hbp) _) hbq⟩
      · obtain ⟨rfl, rfl, p0, p1⟩ := reads_err hr hx
        have t0 : (x' != 0) = true := by simpa using hx
        clear hr
        go_wp2_with fail
        all_goals
          go_ret
          exact ⟨rfl, bel_alloc (bel_call hbel hbp) _⟩
end Go.Proofs.Ytdjkdfgifajilaa
