/- The walks of the document's own calendar. -/
import Derived.Test.YtdjkdfgifajilaaCivDate
namespace Go.Proofs.Ytdjkdfgifajilaa
open Go.RowKit

set_option maxRecDepth 100000 in
set_option maxHeartbeats 400000 in
theorem refLeap_any (y : Int) (w : World) (h0 : 0 ≤ y) (h1 : y ≤ 100000) : Calls Try.prog 48 #[.int .i64 y] w fun e w' => e = .returned (.bool (decide (Civ.lp y = 1))) ∧ w = w' := by
  by_cases a : y % 4 = 0
  · by_cases b : y % 100 = 0
    · by_cases c : y % 400 = 0
      · have e : Civ.lp y = 1 := by unfold Civ.lp; rw [if_pos ⟨a, .inr c⟩]
        rw [e]
        clear e
        go_enter Try.func48, Try.ntmps48
        go_wp2
        go_ret
        exact ⟨rfl, rfl⟩
      · have e : Civ.lp y = 0 := by unfold Civ.lp; rw [if_neg (by omega)]
        rw [e]
        have c' : (y % 400 == 0) = false := by simpa using c
        clear e
        go_enter Try.func48, Try.ntmps48
        go_wp2
        go_ret
        exact ⟨rfl, rfl⟩
    · have e : Civ.lp y = 1 := by unfold Civ.lp; rw [if_pos ⟨a, .inl b⟩]
      rw [e]
      have b' : (y % 100 == 0) = false := by simpa using b
      clear e
      go_enter Try.func48, Try.ntmps48
      go_wp2
      go_ret
      exact ⟨rfl, rfl⟩
  · have e : Civ.lp y = 0 := by unfold Civ.lp; rw [if_neg (by omega)]
    rw [e]
    have a' : (y % 4 == 0) = false := by simpa using a
    clear e
    go_enter Try.func48, Try.ntmps48
    go_wp2
    go_ret
    exact ⟨rfl, rfl⟩
set_option maxRecDepth 100000 in
set_option maxHeartbeats 1000000 in
theorem refLength_any (y m : Int) (w : World) (y0 : -9223372036854775808 ≤ y) (y1 : y ≤ 9223372036854775807) (m0 : -9223372036854775808 ≤ m) (m1 : m ≤ 9223372036854775807) :
    Calls Try.prog 21 #[.int .i64 y, .int .i64 m] w fun e w' => e = .returned (.int .i64 (Civ.dim y m)) ∧ w = w' := by
  by_cases h : y < 1 ∨ 9999 < y ∨ m < 1 ∨ 12 < m
  · have e : Civ.dim y m = 0 := by unfold Civ.dim; rw [if_pos h]
    rw [e]
    clear e
    rcases (by omega : y < 1 ∨ (¬ y < 1 ∧ 9999 < y) ∨ (¬ y < 1 ∧ ¬ 9999 < y ∧ m < 1) ∨ (¬ y < 1 ∧ ¬ 9999 < y ∧ ¬ m < 1 ∧ 12 < m)) with h1 | ⟨h1, h2⟩ | ⟨h1, h2, h3⟩ | ⟨h1, h2, h3, h4⟩
    all_goals
      clear h
      go_enter Try.func21, Try.ntmps21
      go_wp2_with fail
      go_ret
      exact ⟨rfl, rfl⟩
  · have h1 : ¬ y < 1 := by omega
    have h2 : ¬ 9999 < y := by omega
    have h3 : ¬ m < 1 := by omega
    have h4 : ¬ 12 < m := by omega
    by_cases hm : m = 2
    · subst hm
      have e : Civ.dim y 2 = 28 + Civ.lp y := by unfold Civ.dim; rw [if_neg h, if_pos rfl]
      rw [e]
      have hl := refLeap_any y
      have h01 := Civ.lp01 y
      by_cases hlp : Civ.lp y = 1
      all_goals
        rw [show decide (Civ.lp y = 1) = _ from by first | exact decide_eq_true hlp | exact decide_eq_false hlp] at hl
        go_enter Try.func21, Try.ntmps21
        go_wp2_with (go_at_call 48; refine (hl _ (by omega) (by omega)).mono ?_; rintro e w' ⟨rfl, rfl⟩)
        go_ret
        exact ⟨by first | (rw [hlp]; rfl) | (rw [show Civ.lp y = 0 by omega]; rfl), rfl⟩
    · have e : Civ.dim y m = if m = 4 ∨ m = 6 ∨ m = 9 ∨ m = 11 then 30 else 31 := by unfold Civ.dim; rw [if_neg h, if_neg hm]
      rw [e]
      clear e h
      rcases (by omega : m = 1 ∨ m = 3 ∨ m = 4 ∨ m = 5 ∨ m = 6 ∨ m = 7 ∨ m = 8 ∨ m = 9 ∨ m = 10 ∨ m = 11 ∨ m = 12) with rfl | rfl | rfl | rfl | rfl | rfl | rfl | rfl | rfl | rfl | rfl
      all_goals
        go_enter Try.func21, Try.ntmps21
        go_wp2_with fail
        go_ret
        exact ⟨rfl, rfl⟩
set_option maxRecDepth 100000 in
set_option maxHeartbeats 1000000 in
theorem refAhead_any (y : Int) (w : World) (y1 : 1 ≤ y) (y2 : y ≤ 9999) :
    Calls Try.prog 46 #[.int .i64 y] w fun e w' => e = .returned (.int .i64 (Civ.ahead y)) ∧ w = w' := by
  obtain ⟨q, hq⟩ : ∃ q, (y - 1) / 400 = q := ⟨_, rfl⟩
  have q0 : 0 ≤ q ∧ q ≤ 24 ∧ 400 * q + 1 ≤ y := by omega
  obtain ⟨q0, q1, q2⟩ := q0
  have hl := fun k => refLeap_any k
  go_enter Try.func46, Try.ntmps46
  go_wp2_with fail
  clear hq
  go_loop [3, 4] (fun s i => ∃ k : Int, 1 ≤ k ∧ k ≤ y ∧ i = .int .i64 k ∧ s = .int .i64 (Civ.ahead k)) (fun _ i => (y - intOf i).toNat)
  case atStart => exact ⟨q * 400 + 1, by omega, by omega, rfl, by rw [show q * 400 + 1 = 400 * q + 1 by omega, Civ.ahead_era]; go_num⟩
  case round =>
    obtain ⟨k, hk1, hk2, rfl, rfl⟩ := hrel
    have ha := Civ.ahead_lo k hk1 (by omega)
    have hlk := hl k
    by_cases hlt : k < y
    · have h01 := Civ.lp01 k
      have Hs := Lib.hid (Civ.ahead_succ k)
      by_cases hlp : Civ.lp k = 1
      all_goals
        rw [show decide (Civ.lp k = 1) = _ from by first | exact decide_eq_true hlp | exact decide_eq_false hlp] at hlk
        have Hlp := Lib.hid hlp
        clear hlp
        go_wp2_with (go_at_call 48; refine (hlk _ (by omega) (by omega)).mono ?_; rintro e w' ⟨rfl, rfl⟩)
        go_round
        case rel => exact ⟨k + 1, by omega, by omega, rfl, by have := Hlp.out; rw [Hs.out]; first | rw [Hlp.out] | rw [show Civ.lp k = 0 by omega]; go_num⟩
        case measure => simp [intOf]; omega
    · obtain rfl : k = y := by omega
      go_wp2_with fail
      go_ret
      exact ⟨rfl, rfl⟩
end Go.Proofs.Ytdjkdfgifajilaa
