/- The walk of the statement 'PeriodOne'. -/
import Derived.Test.YtdjkdfgifajilaaSpKnownWalk
namespace Go.Proofs.Ytdjkdfgifajilaa
open Go.RowKit Go.Lib

theorem isD_first {y : Int} {m : Nat} (y1 : 1 ≤ y) (y2 : y ≤ 9999) (m1 : 1 ≤ m) (m2 : m ≤ 12) : Civ.IsD y m 1 := ⟨y1, y2, m1, m2, by omega, by have := Civ.dim_pos y m y1 y2 m1 m2; omega⟩
/-- The day behind a month's last one is the next month's first. -/
theorem num_next {y y' : Int} {m m' : Nat} (m1 : 1 ≤ m) (m2 : m ≤ 12) (y1 : 1 ≤ y) (y2 : y ≤ 9999) (h : 12 * (y - 1) + m = 12 * (y' - 1) + m' - 1) (k1 : 1 ≤ m') (k2 : m' ≤ 12) : Civ.num y m (Civ.dim y m) + 1 = Civ.num y' m' 1 := by
  unfold Civ.num
  rcases Nat.lt_or_ge m 12 with g | g
  · obtain rfl : y' = y := by omega
    obtain rfl : m' = m + 1 := by omega
    rw [Civ.cum_succ y' m m1]
    omega
  · obtain rfl : m = 12 := by omega
    obtain rfl : m' = 1 := by omega
    obtain rfl : y' = y + 1 := by omega
    have h1 := Civ.cum_succ y 12 (by omega)
    have h2 := Civ.cum_year y y1 y2
    rw [Civ.cum_one, Civ.ahead_succ]
    have e : Civ.cum y (12 + 1) = Civ.cum y 13 := rfl
    omega
/-- A month and the days in it. -/
theorem num_from {y y' d : Int} {m m' : Nat} (h : Civ.IsD y m d) (h' : Civ.IsD y' m' 1) (hm : 12 * (y' - 1) + m' ≤ 12 * (y - 1) + m) : Civ.num y' m' 1 ≤ Civ.num y m d := by
  obtain ⟨a1, a2, a3, a4, a5, a6⟩ := h
  rcases Int.lt_or_le (12 * (y' - 1) + m') (12 * (y - 1) + m) with g | g
  · refine Int.le_of_lt (Civ.num_lt h' ⟨a1, a2, a3, a4, a5, a6⟩ ?_)
    obtain ⟨_, _, b3, b4, _, _⟩ := h'
    omega
  · obtain ⟨_, _, b3, b4, _, _⟩ := h'
    obtain rfl : y' = y := by omega
    obtain rfl : m' = m := by omega
    unfold Civ.num
    omega
theorem num_to {y y' d : Int} {m m' : Nat} (h : Civ.IsD y m d) (h' : Civ.IsD y' m' (Civ.dim y' m')) (hm : 12 * (y - 1) + m ≤ 12 * (y' - 1) + m') : Civ.num y m d ≤ Civ.num y' m' (Civ.dim y' m') := by
  obtain ⟨a1, a2, a3, a4, a5, a6⟩ := h
  rcases Int.lt_or_le (12 * (y - 1) + m) (12 * (y' - 1) + m') with g | g
  · refine Int.le_of_lt (Civ.num_lt ⟨a1, a2, a3, a4, a5, a6⟩ h' ?_)
    obtain ⟨_, _, b3, b4, _, _⟩ := h'
    omega
  · obtain ⟨_, _, b3, b4, _, _⟩ := h'
    obtain rfl : y' = y := by omega
    obtain rfl : m' = m := by omega
    unfold Civ.num
    omega
/-- What the law asks of a day's period. -/
def OneF (k o day : Int) : Prop := ∃ n a b m : Int,
  (∀ w : World, Calls Try.prog 37 #[.int .i64 k, .int .i64 day] w fun e w' => e = .returned (.tuple #[.int .i64 n, .int .i64 0]) ∧ Below w.heap.size w w') ∧
  (∀ w : World, Calls Try.prog 38 #[.int .i64 k, .int .i64 n] w fun e w' => e = .returned (.tuple #[.int .i64 a, .int .i64 0]) ∧ Below w.heap.size w w') ∧
  (∀ w : World, Calls Try.prog 42 #[.int .i64 k, .int .i64 n] w fun e w' => e = .returned (.tuple #[.int .i64 b, .int .i64 0]) ∧ Below w.heap.size w w') ∧
  (∀ w : World, Calls Try.prog 44 #[.int .i64 k, .int .i64 a, .int .i64 n] w fun e w' => e = .returned (.bool true) ∧ Below w.heap.size w w') ∧
  (∀ w : World, Calls Try.prog 44 #[.int .i64 k, .int .i64 b, .int .i64 n] w fun e w' => e = .returned (.bool true) ∧ Below w.heap.size w w') ∧
  (∀ w : World, Calls Try.prog 37 #[.int .i64 o, .int .i64 day] w fun e w' => e = .returned (.tuple #[.int .i64 m, .int .i64 0]) ∧ Below w.heap.size w w') ∧
  (∀ w : World, Calls Try.prog 44 #[.int .i64 o, .int .i64 a, .int .i64 m] w fun e w' => e = .returned (.bool true) ∧ Below w.heap.size w w') ∧
  (∀ w : World, Calls Try.prog 44 #[.int .i64 o, .int .i64 b, .int .i64 m] w fun e w' => e = .returned (.bool true) ∧ Below w.heap.size w w') ∧
  0 ≤ n ∧ n ≤ 119988 ∧ a ≤ day ∧ day ≤ b ∧ b ≤ 3652058 ∧
  (b < 3652058 → (∀ w : World, Calls Try.prog 38 #[.int .i64 k, .int .i64 (n + 1)] w fun e w' => e = .returned (.tuple #[.int .i64 (b + 1), .int .i64 0]) ∧ Below w.heap.size w w') ∧
    (∀ w : World, Calls Try.prog 44 #[.int .i64 k, .int .i64 (b + 1), .int .i64 (n + 1)] w fun e w' => e = .returned (.bool true) ∧ Below w.heap.size w w'))
theorem one_last : Civ.num 9999 12 (Civ.dim 9999 (12 : Nat)) = 3652058 := by decide
/-- The months of a period and of the longer one in which it lies. -/
theorem months_of {k o L N M : Int} (hk : InKind k L) (ho : InKind o N) (hko : k ≤ o) (h0 : 0 ≤ M) (h1 : M < 119988) :
    0 ≤ M / L ∧ M / L ≤ 119988 ∧ M / L * L < 119988 ∧ M / L * L ≤ M ∧ M ≤ M / L * L + (L - 1) ∧ M / L * L + (L - 1) < 119988 ∧ 0 ≤ M / L * L ∧ 1 ≤ L ∧ L ≤ 12 ∧
    (M / L * L) / L = M / L ∧ (M / L * L + (L - 1)) / L = M / L ∧ (M / L * L) / N = M / N ∧ (M / L * L + (L - 1)) / N = M / N ∧ (M / L + 1) * L = M / L * L + (L - 1) + 1 ∧ (M / L * L + (L - 1) + 1) / L = M / L + 1 := by
  rcases hk with ⟨rfl, rfl⟩ | ⟨rfl, rfl⟩ | ⟨rfl, rfl⟩ | ⟨rfl, rfl⟩ <;> rcases ho with ⟨rfl, rfl⟩ | ⟨rfl, rfl⟩ | ⟨rfl, rfl⟩ | ⟨rfl, rfl⟩ <;> omega
theorem one_facts {k o L N day : Int} (hk : InKind k L) (ho : InKind o N) (hko : k ≤ o) (h0 : 0 ≤ day) (h1 : day ≤ 3652058) : OneF k o day := by
  obtain ⟨y, m, d, hD⟩ := exists_date day h0 h1
  have hM : ∃ M : Int, 12 * (y - 1) + m - 1 = M := ⟨_, rfl⟩
  obtain ⟨M, hM⟩ := hM
  obtain ⟨y1, y2, m1, m2, -, -⟩ := hD.1
  obtain ⟨q0, q1, q2, q3, q4, q5, q6, q7, q8, r1, r2, r3, r4, r5, r6⟩ := months_of hk ho hko (M := M) (by omega) (by omega)
  obtain ⟨F, hF⟩ : ∃ F : Int, M / L * L = F := ⟨_, rfl⟩
  rw [hF] at q2 q3 q4 q5 q6 r1 r2 r3 r4 r5 r6
  obtain ⟨G, hG⟩ : ∃ G : Int, F + (L - 1) = G := ⟨_, rfl⟩
  rw [hG] at q4 q5 r2 r4 r5 r6
  have gm : ∀ X : Int, 0 ≤ X → X % 12 + 1 = ((X % 12 + 1).toNat : Int) := fun X h => by omega
  have hDF : Civ.IsD (F / 12 + 1) (F % 12 + 1).toNat 1 := isD_first (by omega) (by omega) (by omega) (by omega)
  have hDG : Civ.IsD (G / 12 + 1) (G % 12 + 1).toNat 1 := isD_first (by omega) (by omega) (by omega) (by omega)
  have hDL := isD_last hDG
  have mF : 12 * (F / 12 + 1 - 1) + (((F % 12 + 1).toNat : Nat) : Int) - 1 = F := by omega
  have mG : 12 * (G / 12 + 1 - 1) + (((G % 12 + 1).toNat : Nat) : Int) - 1 = G := by omega
  refine ⟨M / L, Civ.num (F / 12 + 1) (F % 12 + 1).toNat 1, Civ.num (G / 12 + 1) (G % 12 + 1).toNat (Civ.dim (G / 12 + 1) (G % 12 + 1).toNat), M / N, ?_, ?_, ?_, ?_, ?_, ?_, ?_, ?_, q0, q1, ?_, ?_, ?_, ?_⟩
  · intro w
    have := of_is hk hD w
    rwa [hM] at this
  · exact fun w => first_is hk q0 (by rw [hF]; exact q2) (by rw [hF]) (by rw [hF]; exact gm F q6) hDF w
  · exact fun w => last_is hk q0 (by rw [hF]; exact q2) (by rw [hF, hG]) (by rw [hF, hG]; exact gm G (by omega)) hDG w
  · exact fun w => lof_yes hk ⟨hDF, rfl⟩ (by rw [mF]; exact r1) w
  · exact fun w => lof_yes hk ⟨hDL, rfl⟩ (by rw [mG]; exact r2) w
  · intro w
    have := of_is ho hD w
    rwa [hM] at this
  · exact fun w => lof_yes ho ⟨hDF, rfl⟩ (by rw [mF]; exact r3) w
  · exact fun w => lof_yes ho ⟨hDL, rfl⟩ (by rw [mG]; exact r4) w
  · have := num_from hD.1 hDF (by omega)
    rw [hD.2] at this
    exact this
  · have := num_to hD.1 hDL (by omega)
    rw [hD.2] at this
    exact this
  · exact (Civ.num_range hDL).2
  · intro hb
    have hG2 : G + 1 < 119988 := by
      rcases Int.lt_or_le (G + 1) 119988 with g | g
      · exact g
      · exfalso
        have e1 : G / 12 + 1 = 9999 := by omega
        have e2 : (G % 12 + 1).toNat = 12 := by omega
        rw [e1, e2, one_last] at hb
        omega
    have hDN : Civ.IsD ((G + 1) / 12 + 1) ((G + 1) % 12 + 1).toNat 1 := isD_first (by omega) (by omega) (by omega) (by omega)
    have hn := num_next (y := G / 12 + 1) (m := (G % 12 + 1).toNat) (y' := (G + 1) / 12 + 1) (m' := ((G + 1) % 12 + 1).toNat) (by omega) (by omega) (by omega) (by omega) (by omega) (by omega) (by omega)
    have mN : 12 * ((G + 1) / 12 + 1 - 1) + ((((G + 1) % 12 + 1).toNat : Nat) : Int) - 1 = G + 1 := by omega
    rw [hn]
    refine ⟨fun w => first_is hk (by omega) (by rw [r5]; exact hG2) (by rw [r5]) (by rw [r5]; exact gm (G + 1) (by omega)) hDN w, fun w => lof_yes hk ⟨hDN, rfl⟩ (by rw [mN]; exact r6) w⟩
set_option maxRecDepth 100000 in
set_option maxHeartbeats 4000000 in
theorem pone_walk (k o day : Int) (w : World) (hk : -9223372036854775808 ≤ k ∧ k ≤ 9223372036854775807) (ho : -9223372036854775808 ≤ o ∧ o ≤ 9223372036854775807) (hd : -9223372036854775808 ≤ day ∧ day ≤ 9223372036854775807) :
    Calls Try.prog 15 #[.int .i64 k, .int .i64 o, .int .i64 day] w fun r w' => r = .returned (.bool true) ∧ Below w.heap.size w w' := by
  by_cases hout : k < 1 ∨ 4 < k ∨ o < k ∨ 4 < o ∨ day < 0 ∨ 3652058 < day
  · rcases (by omega : k < 1 ∨ (¬ k < 1 ∧ 4 < k) ∨ (¬ k < 1 ∧ ¬ 4 < k ∧ o < k) ∨ (¬ k < 1 ∧ ¬ 4 < k ∧ ¬ o < k ∧ 4 < o) ∨ (¬ k < 1 ∧ ¬ 4 < k ∧ ¬ o < k ∧ ¬ 4 < o ∧ day < 0) ∨ (¬ k < 1 ∧ ¬ 4 < k ∧ ¬ o < k ∧ ¬ 4 < o ∧ ¬ day < 0 ∧ 3652058 < day)) with g | ⟨g1, g2⟩ | ⟨g1, g2, g3⟩ | ⟨g1, g2, g3, g4⟩ | ⟨g1, g2, g3, g4, g5⟩ | ⟨g1, g2, g3, g4, g5, g6⟩
    all_goals
      clear hout
      go_enter Try.func15, Try.ntmps15
      go_wp2_with fail
      refine (pknown_walk _).mono ?_
      rintro e w1 ⟨rfl, hb1⟩
      go_wp2_with fail
      go_ret
      exact ⟨rfl, hb1⟩
  obtain ⟨L, hkL⟩ : ∃ n, InKind k n := by
    rcases kind_or k with h | h
    · exact h
    · omega
  obtain ⟨N, hoN⟩ : ∃ n, InKind o n := by
    rcases kind_or o with h | h
    · exact h
    · omega
  obtain ⟨n, a, b, m, c1, c2, c3, c4, c5, c6, c7, c8, n0, n1, ad, db, b1, hnext⟩ := one_facts hkL hoN (by omega) (day := day) (by omega) (by omega)
  have Hn := Lib.hid hnext
  have g1 : ¬ k < 1 := by omega
  have g2 : ¬ 4 < k := by omega
  have g3 : ¬ o < k := by omega
  have g4 : ¬ 4 < o := by omega
  have g5 : ¬ day < 0 := by omega
  have g6 : ¬ 3652058 < day := by omega
  have g7 : ¬ day < a := by omega
  have g8 : ¬ b < day := by omega
  clear hnext hout hkL hoN
  by_cases hb : b < 3652058
  · obtain ⟨c9, c10⟩ := Hn.out hb
    have t1 : (b + 1 != b + 1) = false := by simp
    clear Hn
    go_enter Try.func15, Try.ntmps15
    go_wp2_with fail
    refine (pknown_walk _).mono ?_
    rintro e w1 ⟨rfl, hb1⟩
    go_wp2_with fail
    refine (c1 _).mono ?_
    rintro e w2 ⟨rfl, hb2⟩
    go_wp2_with fail
    refine (c2 _).mono ?_
    rintro e w3 ⟨rfl, hb3⟩
    go_wp2_with fail
    refine (c3 _).mono ?_
    rintro e w4 ⟨rfl, hb4⟩
    go_wp2_with fail
    refine (c4 _).mono ?_
    rintro e w5 ⟨rfl, hb5⟩
    go_wp2_with fail
    refine (c5 _).mono ?_
    rintro e w6 ⟨rfl, hb6⟩
    go_wp2_with fail
    refine (c9 _).mono ?_
    rintro e w7 ⟨rfl, hb7⟩
    go_wp2_with fail
    refine (c10 _).mono ?_
    rintro e w8 ⟨rfl, hb8⟩
    go_wp2_with fail
    refine (c6 _).mono ?_
    rintro e w9 ⟨rfl, hb9⟩
    go_wp2_with fail
    refine (c7 _).mono ?_
    rintro e w10 ⟨rfl, hb10⟩
    go_wp2_with fail
    refine (c8 _).mono ?_
    rintro e w11 ⟨rfl, hb11⟩
    go_wp2_with fail
    go_ret
    exact ⟨rfl, bel_call (bel_call (bel_call (bel_call (bel_call (bel_call (bel_call (bel_call (bel_call (bel_call hb1 hb2) hb3) hb4) hb5) hb6) hb7) hb8) hb9) hb10) hb11⟩
  · clear Hn
    go_enter Try.func15, Try.ntmps15
    go_wp2_with fail
    refine (pknown_walk _).mono ?_
    rintro e w1 ⟨rfl, hb1⟩
    go_wp2_with fail
    refine (c1 _).mono ?_
    rintro e w2 ⟨rfl, hb2⟩
    go_wp2_with fail
    refine (c2 _).mono ?_
    rintro e w3 ⟨rfl, hb3⟩
    go_wp2_with fail
    refine (c3 _).mono ?_
    rintro e w4 ⟨rfl, hb4⟩
    go_wp2_with fail
    refine (c4 _).mono ?_
    rintro e w5 ⟨rfl, hb5⟩
    go_wp2_with fail
    refine (c5 _).mono ?_
    rintro e w6 ⟨rfl, hb6⟩
    go_wp2_with fail
    refine (c6 _).mono ?_
    rintro e w9 ⟨rfl, hb9⟩
    go_wp2_with fail
    refine (c7 _).mono ?_
    rintro e w10 ⟨rfl, hb10⟩
    go_wp2_with fail
    refine (c8 _).mono ?_
    rintro e w11 ⟨rfl, hb11⟩
    go_wp2_with fail
    go_ret
    exact ⟨rfl, bel_call (bel_call (bel_call (bel_call (bel_call (bel_call (bel_call (bel_call hb1 hb2) hb3) hb4) hb5) hb6) hb9) hb10) hb11⟩
end Go.Proofs.Ytdjkdfgifajilaa
