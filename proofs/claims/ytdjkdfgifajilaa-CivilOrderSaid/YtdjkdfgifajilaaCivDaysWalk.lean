/- The walk of 'apportionlaw03.CivilDays'. -/
import Derived.Test.YtdjkdfgifajilaaCivLaw
namespace Go.Proofs.Ytdjkdfgifajilaa
open Go.RowKit

theorem both_day (y m d : Int) (hy : -9223372036854775808 ≤ y ∧ y ≤ 9223372036854775807) (hm : -9223372036854775808 ≤ m ∧ m ≤ 9223372036854775807) :
    ∃ p e : Int, (∀ w, Calls Try.prog 16 #[.int .i64 y, .int .i64 m, .int .i64 d] w fun r w' => r = .returned (.tuple #[.int .i64 p, .int .i64 e]) ∧ w = w') ∧
      (∀ w, Calls Try.prog 17 #[.int .i64 y, .int .i64 m, .int .i64 d] w fun r w' => r = .returned (.tuple #[.int .i64 p, .int .i64 e]) ∧ w = w') := by
  by_cases h : d < 1 ∨ Civ.dim y m < d
  · exact ⟨0, 2, fun w => day_bad y m d w hy.1 hy.2 hm.1 hm.2 h, fun w => refDay_bad y m d w hy.1 hy.2 hm.1 hm.2 h⟩
  · obtain ⟨k, rfl, hk⟩ := Civ.isD_of y m d (by omega) (by omega)
    exact ⟨_, 0, fun w => day_good y d k w hk, fun w => refDay_good y d k w hk⟩
theorem both_date (n : Int) : ∃ y m d e : Int, (∀ w, Calls Try.prog 18 #[.int .i64 n] w fun r w' => r = .returned (.tuple #[.agg #[.int .i64 y, .int .i64 m, .int .i64 d], .int .i64 e]) ∧ Below w.heap.size w w') ∧
      (∀ w, Calls Try.prog 19 #[.int .i64 n] w fun r w' => r = .returned (.tuple #[.agg #[.int .i64 y, .int .i64 m, .int .i64 d], .int .i64 e]) ∧ Below w.heap.size w w') := by
  by_cases h : 0 ≤ n ∧ n ≤ 3652058
  · obtain ⟨y, m, d, hd⟩ := exists_date n h.1 h.2
    exact ⟨y, m, d, 0, fun w => date_is hd w, fun w => refDate_is hd w⟩
  · exact ⟨0, 0, 0, 5, fun w => date_not h w, fun w => refDate_not h w⟩
set_option maxRecDepth 100000 in
set_option maxHeartbeats 2000000 in
theorem days_walk (y m d n : Int) (w : World) (hy : -9223372036854775808 ≤ y ∧ y ≤ 9223372036854775807) (hm : -9223372036854775808 ≤ m ∧ m ≤ 9223372036854775807) (_ : -9223372036854775808 ≤ d ∧ d ≤ 9223372036854775807) (_ : -9223372036854775808 ≤ n ∧ n ≤ 9223372036854775807) :
    Calls Try.prog 3 #[.int .i64 y, .int .i64 m, .int .i64 d, .int .i64 n] w fun e w' => e = .returned (.bool true) ∧ Below w.heap.size w w' := by
  obtain ⟨p, e, hp, hp'⟩ := both_day y m d hy hm
  obtain ⟨Y, M, D, E, hq, hq'⟩ := both_date n
  obtain ⟨y0, y1⟩ := hy
  obtain ⟨m0, m1⟩ := hm
  have hl := fun w => length_any y m w y0 y1 m0 m1
  have hl' := fun w => refLength_any y m w y0 y1 m0 m1
  generalize Civ.dim y m = L at *
  have hv := weekday_any n
  have hv' := refWeekday_any n
  generalize wday n = W at *
  go_enter Try.func3, Try.ntmps3
  go_wp2_with fail
  refine (hp _).mono ?_
  rintro e w1 ⟨rfl, rfl⟩
  go_wp2_with fail
  refine (hp' _).mono ?_
  rintro e w1 ⟨rfl, rfl⟩
  go_wp2_with fail
  refine (hq _).mono ?_
  rintro e w1 ⟨rfl, hb1⟩
  go_wp2_with fail
  refine (hq' _).mono ?_
  rintro e w2 ⟨rfl, hb2⟩
  obtain ⟨bk, z1⟩ := new_block (cs := [_, _, _]) hb2
  have c0 := bk.cell 0
  have c1 := bk.cell 1
  have c2 := bk.cell 2
  simp only [List.getElem?_cons_zero, List.getElem?_cons_succ] at c0 c1 c2
  go_wp2_with fail
  refine (hl _).mono ?_
  rintro e w3 ⟨rfl, rfl⟩
  go_wp2_with fail
  refine (hl' _).mono ?_
  rintro e w3 ⟨rfl, rfl⟩
  go_wp2_with fail
  refine (hv _).mono ?_
  rintro e w3 ⟨rfl, rfl⟩
  go_wp2_with fail
  refine (hv' _).mono ?_
  rintro e w3 ⟨rfl, rfl⟩
  go_wp2_with fail
  refine (civ_awake _).mono ?_
  rintro e w3 ⟨rfl, hb3⟩
  go_wp2_with fail
  go_ret
  exact ⟨rfl, bel_call (bel_alloc (bel_call (bel_alloc hb1 _) hb2) _) hb3⟩
end Go.Proofs.Ytdjkdfgifajilaa
