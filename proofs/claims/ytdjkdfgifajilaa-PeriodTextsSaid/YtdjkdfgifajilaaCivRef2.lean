/- The walks of the document's own 'Day', 'Date', 'Weekday'. -/
import Derived.Test.YtdjkdfgifajilaaCivRef
namespace Go.Proofs.Ytdjkdfgifajilaa
open Go.RowKit

set_option maxRecDepth 100000 in
set_option maxHeartbeats 1000000 in
theorem refDay_bad (y m d : Int) (w : World) (y0 : -9223372036854775808 ≤ y) (y1 : y ≤ 9223372036854775807) (m0 : -9223372036854775808 ≤ m) (m1 : m ≤ 9223372036854775807) (h : d < 1 ∨ Civ.dim y m < d) :
    Calls Try.prog 17 #[.int .i64 y, .int .i64 m, .int .i64 d] w fun e w' => e = .returned (.tuple #[.int .i64 0, .int .i64 2]) ∧ w = w' := by
  have hl := refLength_any y m
  have hd := Civ.dim_lo y m
  rcases (by omega : d < 1 ∨ (¬ d < 1 ∧ Civ.dim y m < d)) with h1 | ⟨h1, h2⟩
  all_goals
    clear h
    go_enter Try.func17, Try.ntmps17
    go_wp2_with (go_at_call 21; refine (hl _ y0 y1 m0 m1).mono ?_; rintro e w' ⟨rfl, rfl⟩)
    go_ret2
    exact ⟨rfl, rfl⟩
set_option maxRecDepth 100000 in
set_option maxHeartbeats 1000000 in
theorem refDay_good (y d : Int) (m : Nat) (w : World) (h : Civ.IsD y m d) :
    Calls Try.prog 17 #[.int .i64 y, .int .i64 m, .int .i64 d] w fun e w' => e = .returned (.tuple #[.int .i64 (Civ.num y m d), .int .i64 0]) ∧ w = w' := by
  obtain ⟨h1, h2, h3, h4, h5, h6⟩ := h
  have ha := Civ.ahead_lo y h1 (by omega)
  have hdm := Civ.dim_lo y m
  have hav := refAhead_any y
  have hl := fun (k : Nat) => refLength_any y k
  have hlm := hl m
  have q1 : decide (d < 1) = false := by simp; omega
  have q2 : decide (Civ.dim y m < d) = false := by simp; omega
  go_enter Try.func17, Try.ntmps17
  go_wp2_with (first
    | (go_at_call 21; refine (hlm _ (by omega) (by omega) (by omega) (by omega)).mono ?_; rintro e w' ⟨rfl, rfl⟩)
    | (go_at_call 46; refine (hav _ h1 h2).mono ?_; rintro e w' ⟨rfl, rfl⟩))
  go_loop [8, 9] (fun s i => ∃ k : Nat, 1 ≤ k ∧ k ≤ m ∧ i = .int .i64 k ∧ s = .int .i64 (Civ.ahead y + Civ.cum y k)) (fun _ i => m - (intOf i).toNat)
  case atStart => exact ⟨1, by omega, h3, rfl, by rw [Civ.cum_one]; simp⟩
  case round =>
    obtain ⟨k, hk1, hk2, rfl, rfl⟩ := hrel
    have cb := Civ.cum_lo y k
    have db := Civ.dim_lo y k
    have hlk := hl k
    by_cases hlt : k < m
    · have Hs := Lib.hid (Civ.cum_succ y k hk1)
      go_wp2_with (go_at_call 21; refine (hlk _ (by omega) (by omega) (by omega) (by omega)).mono ?_; rintro e w' ⟨rfl, rfl⟩)
      go_round
      case rel => exact ⟨k + 1, by omega, by omega, by go_num, by rw [Hs.out]; go_num⟩
      case measure => simp [intOf]; omega
    · obtain rfl : k = m := by omega
      go_wp2_with fail
      go_ret2
      exact ⟨rfl, rfl⟩
set_option maxRecDepth 100000 in
set_option maxHeartbeats 1000000 in
theorem refDate_bad (n : Int) (w : World) (h : ¬ (0 ≤ n ∧ n ≤ 3652058)) :
    Calls Try.prog 19 #[.int .i64 n] w fun e w' => e = .returned (dateV 0 0 0 5) ∧ Below w.heap.size w w' := by
  rcases (by omega : n < 0 ∨ (¬ n < 0 ∧ 3652058 < n)) with h1 | ⟨h1, h2⟩
  all_goals
    clear h
    go_enter Try.func19, Try.ntmps19
    go_wp2_with fail
    exact ret_ct (T := 26) rfl rfl rfl (Block.new w _ [.int .i64 0, .int .i64 0, .int .i64 0]) agg_date size_date ⟨rfl, bel_alloc (Below.refl _ _) _⟩
theorem ahead_top : Civ.ahead 10000 = 3652059 := by decide
set_option maxRecDepth 100000 in
set_option maxHeartbeats 2000000 in
theorem refDate_good (n : Int) (w : World) (h0 : 0 ≤ n) (h1 : n ≤ 3652058) : Calls Try.prog 19 #[.int .i64 n] w (DateR n w) := by
  obtain ⟨q, hq⟩ : ∃ q, n / 146097 = q := ⟨_, rfl⟩
  obtain ⟨r, hr⟩ : ∃ r, n % 146097 = r := ⟨_, rfl⟩
  have q0 : 0 ≤ q ∧ q ≤ 24 ∧ 0 ≤ r ∧ r < 146097 := by omega
  have Hqr := Lib.hid (show 146097 * q + r = n by omega)
  obtain ⟨q0, q1, r0, r1⟩ := q0
  have hle := fun y => refLeap_any y
  have hl := fun (y : Int) (k : Nat) => refLength_any y k
  have d1 : decide (n < 0) = false := by simp; omega
  have d2 : decide (3652058 < n) = false := by simp; omega
  go_enter Try.func19, Try.ntmps19
  go_wp2_with fail
  have Hq2 := Lib.hid hq
  have Hr2 := Lib.hid hr
  clear hq hr
  go_loop [0, 4] (fun s t => ∃ y left : Int, 1 ≤ y ∧ y ≤ 9999 ∧ 0 ≤ left ∧ left ≤ 146097 ∧ left + Civ.ahead y = n ∧ s = .int .i64 left ∧ t = .int .i64 y) (fun s _ => (intOf s).toNat)
  case atStart => exact ⟨q * 400 + 1, r, by omega, by omega, r0, by omega, by rw [show q * 400 + 1 = 400 * q + 1 by omega, Civ.ahead_era]; have := Hqr.out; omega, by first | rfl | rw [Hr2.out], by first | rfl | rw [Hq2.out]⟩
  case round =>
    obtain ⟨y, left, y1, y2, l0, l1, hs, rfl, rfl⟩ := hrel
    have hley := hle y
    have h01 := Civ.lp01 y
    have Hs := Lib.hid hs
    have Ha := Lib.hid (Civ.ahead_succ y)
    clear hs
    by_cases hlp : Civ.lp y = 1
    · rw [decide_eq_true hlp] at hley
      have Hlp := Lib.hid (show Civ.lp y = 1 by omega)
      clear hlp h01
      by_cases hlt : left < 366
      · have Hyear := Lib.hid (Civ.cum_year y y1 y2)
        go_wp2_with (go_at_call 48; refine (hley _ (by omega) (by omega)).mono ?_; rintro e w' ⟨rfl, rfl⟩)
        obtain ⟨z, hz⟩ : ∃ z, z = left := ⟨_, rfl⟩
        have Hz := Lib.hid hz
        have hz2 : z < 366 := by omega
        have Hl := Lib.hid (fun (k : Nat) => hl y k)
        clear hz hl
        go_loop [0, 6] (fun s i => ∃ (k : Nat) (left : Int), 1 ≤ k ∧ k ≤ 12 ∧ 0 ≤ left ∧ left ≤ 366 ∧ left + Civ.cum y k = z ∧ s = .int .i64 left ∧ i = .int .i64 k) (fun s _ => (intOf s).toNat)
        case atStart => exact ⟨1, left, by omega, by omega, by omega, by omega, by rw [Civ.cum_one, Hz.out]; omega, rfl, rfl⟩
        case round =>
          obtain ⟨k, lf, k1, k2, f0, f1, hk, rfl, rfl⟩ := hrel
          have hlk := Hl.out k
          have hd := Civ.dim_lo y k
          have Hk := Lib.hid hk
          clear hk
          by_cases hlt2 : Civ.dim y k ≤ lf
          · have hk12 : k < 12 := by
              rcases Nat.lt_or_ge k 12 with h | h
              · exact h
              · obtain rfl : k = 12 := by omega
                have h1 : Civ.cum y 13 = Civ.cum y 12 + Civ.dim y ((12 : Nat) : Int) := Civ.cum_succ y 12 (by omega)
                have h2 := Hk.out
                have h3 := Hyear.out
                have h4 := Hlp.out
                omega
            have Hn := Lib.hid (Civ.cum_succ y k k1)
            have hpos : 28 ≤ Civ.dim y k := Civ.dim_pos y k y1 y2 k1 k2
            go_wp2_with (go_at_call 21; refine (hlk _ (by omega) (by omega) (by omega) (by omega)).mono ?_; rintro e w' ⟨rfl, rfl⟩)
            go_round
            case rel => exact ⟨k + 1, lf - Civ.dim y k, by omega, by omega, by omega, by omega, by have := Hk.out; rw [Hn.out]; omega, by go_num, by go_num⟩
            case measure => simp [intOf]; omega
          · go_wp2_with (go_at_call 21; refine (hlk _ (by omega) (by omega) (by omega) (by omega)).mono ?_; rintro e w' ⟨rfl, rfl⟩)
            refine ret_ct (T := 26) rfl rfl rfl (Block.new w _ [.int .i64 y, .int .i64 k, .int .i64 (lf + 1)]) agg_date size_date
              ⟨y, k, lf + 1, ⟨⟨y1, y2, k1, k2, by omega, by omega⟩, ?_⟩, rfl, bel_alloc (Below.refl _ _) _⟩
            have h1 := Hk.out
            have h2 := Hs.out
            have h3 := Hz.out
            unfold Civ.num
            omega
      · have hy9 : y + 1 ≤ 9999 := by
          rcases Int.lt_or_le 9999 (y + 1) with h | h
          · have h2 := Civ.ahead_mono 10000 (y + 1) (by omega)
            have h3 := ahead_top
            have h4 := Ha.out
            have h5 := Hlp.out
            have h6 := Hs.out
            omega
          · exact h
        go_wp2_with (go_at_call 48; refine (hley _ (by omega) (by omega)).mono ?_; rintro e w' ⟨rfl, rfl⟩)
        go_round
        case rel => exact ⟨y + 1, left - 366, by omega, by omega, by omega, by omega, by have := Hs.out; have := Hlp.out; rw [Ha.out]; omega, by go_num, by go_num⟩
        case measure => simp [intOf]; omega
    · rw [decide_eq_false hlp] at hley
      have Hlp := Lib.hid (show Civ.lp y = 0 by omega)
      clear hlp h01
      by_cases hlt : left < 365
      · have Hyear := Lib.hid (Civ.cum_year y y1 y2)
        go_wp2_with (go_at_call 48; refine (hley _ (by omega) (by omega)).mono ?_; rintro e w' ⟨rfl, rfl⟩)
        obtain ⟨z, hz⟩ : ∃ z, z = left := ⟨_, rfl⟩
        have Hz := Lib.hid hz
        have hz2 : z < 365 := by omega
        have Hl := Lib.hid (fun (k : Nat) => hl y k)
        clear hz hl
        go_loop [0, 6] (fun s i => ∃ (k : Nat) (left : Int), 1 ≤ k ∧ k ≤ 12 ∧ 0 ≤ left ∧ left ≤ 366 ∧ left + Civ.cum y k = z ∧ s = .int .i64 left ∧ i = .int .i64 k) (fun s _ => (intOf s).toNat)
        case atStart => exact ⟨1, left, by omega, by omega, by omega, by omega, by rw [Civ.cum_one, Hz.out]; omega, rfl, rfl⟩
        case round =>
          obtain ⟨k, lf, k1, k2, f0, f1, hk, rfl, rfl⟩ := hrel
          have hlk := Hl.out k
          have hd := Civ.dim_lo y k
          have Hk := Lib.hid hk
          clear hk
          by_cases hlt2 : Civ.dim y k ≤ lf
          · have hk12 : k < 12 := by
              rcases Nat.lt_or_ge k 12 with h | h
              · exact h
              · obtain rfl : k = 12 := by omega
                have h1 : Civ.cum y 13 = Civ.cum y 12 + Civ.dim y ((12 : Nat) : Int) := Civ.cum_succ y 12 (by omega)
                have h2 := Hk.out
                have h3 := Hyear.out
                have h4 := Hlp.out
                omega
            have Hn := Lib.hid (Civ.cum_succ y k k1)
            have hpos : 28 ≤ Civ.dim y k := Civ.dim_pos y k y1 y2 k1 k2
            go_wp2_with (go_at_call 21; refine (hlk _ (by omega) (by omega) (by omega) (by omega)).mono ?_; rintro e w' ⟨rfl, rfl⟩)
            go_round
            case rel => exact ⟨k + 1, lf - Civ.dim y k, by omega, by omega, by omega, by omega, by have := Hk.out; rw [Hn.out]; omega, by go_num, by go_num⟩
            case measure => simp [intOf]; omega
          · go_wp2_with (go_at_call 21; refine (hlk _ (by omega) (by omega) (by omega) (by omega)).mono ?_; rintro e w' ⟨rfl, rfl⟩)
            refine ret_ct (T := 26) rfl rfl rfl (Block.new w _ [.int .i64 y, .int .i64 k, .int .i64 (lf + 1)]) agg_date size_date
              ⟨y, k, lf + 1, ⟨⟨y1, y2, k1, k2, by omega, by omega⟩, ?_⟩, rfl, bel_alloc (Below.refl _ _) _⟩
            have h1 := Hk.out
            have h2 := Hs.out
            have h3 := Hz.out
            unfold Civ.num
            omega
      · have hy9 : y + 1 ≤ 9999 := by
          rcases Int.lt_or_le 9999 (y + 1) with h | h
          · have h2 := Civ.ahead_mono 10000 (y + 1) (by omega)
            have h3 := ahead_top
            have h4 := Ha.out
            have h5 := Hlp.out
            have h6 := Hs.out
            omega
          · exact h
        go_wp2_with (go_at_call 48; refine (hley _ (by omega) (by omega)).mono ?_; rintro e w' ⟨rfl, rfl⟩)
        go_round
        case rel => exact ⟨y + 1, left - 365, by omega, by omega, by omega, by omega, by have := Hs.out; have := Hlp.out; rw [Ha.out]; omega, by go_num, by go_num⟩
        case measure => simp [intOf]; omega
set_option maxRecDepth 100000 in
set_option maxHeartbeats 1000000 in
theorem refWeekday_any (n : Int) (w : World) : Calls Try.prog 23 #[.int .i64 n] w fun e w' => e = .returned (.int .i64 (wday n)) ∧ w = w' := by
  unfold wday
  rcases (by omega : n < 0 ∨ (¬ n < 0 ∧ 3652058 < n) ∨ (¬ n < 0 ∧ ¬ 3652058 < n)) with h | ⟨h1, h2⟩ | ⟨h1, h2⟩
  · rw [if_neg (by omega)]
    go_enter Try.func23, Try.ntmps23
    go_wp2
    go_ret
    exact ⟨rfl, rfl⟩
  · rw [if_neg (by omega)]
    go_enter Try.func23, Try.ntmps23
    go_wp2
    go_ret
    exact ⟨rfl, rfl⟩
  · rw [if_pos (by omega)]
    go_enter Try.func23, Try.ntmps23
    go_wp2
    go_ret
    exact ⟨rfl, rfl⟩
end Go.Proofs.Ytdjkdfgifajilaa
