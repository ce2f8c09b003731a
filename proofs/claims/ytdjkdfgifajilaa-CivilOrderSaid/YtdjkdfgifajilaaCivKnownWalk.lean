/- The walk of 'apportionlaw03.CivilKnown'. -/
import Derived.Test.YtdjkdfgifajilaaCivBackFacts
import Derived.Test.YtdjkdfgifajilaaCivAddsWalk
namespace Go.Proofs.Ytdjkdfgifajilaa
open Go.RowKit

theorem d3 : IsDate 3652058 9999 12 31 := by refine ⟨⟨by omega, by omega, by omega, by omega, by omega, by decide⟩, by decide⟩
theorem d4 : IsDate 739309 2025 2 28 := by refine ⟨⟨by omega, by omega, by omega, by omega, by omega, by decide⟩, by decide⟩
theorem d5 : IsDate 738913 2024 1 29 := by refine ⟨⟨by omega, by omega, by omega, by omega, by omega, by decide⟩, by decide⟩
theorem kp1 : Civ.parseF (nums ⟨#[50, 48, 50, 52, 45, 48, 50, 45, 50, 57]⟩) = (738944, 0, 0) := by decide +kernel
theorem kp2 : Civ.parseF (nums ⟨#[50, 48, 50, 51, 45, 48, 50, 45, 50, 57]⟩) = (0, 2, 0) := by decide +kernel
theorem kp3 : Civ.parseF (nums ⟨#[50, 48, 50, 52, 45, 50, 45, 50, 57]⟩) = (0, 4, 6) := by decide +kernel
theorem kp4 : Civ.parseF (nums ⟨#[50, 48, 50, 52, 45, 48, 50, 45, 50]⟩) = (0, 4, 9) := by decide +kernel
theorem kt : strOfNums (Civ.textL 2024 2 29) = ⟨#[50, 48, 50, 52, 45, 48, 50, 45, 50, 57]⟩ := by decide +kernel
set_option maxRecDepth 100000 in
set_option maxHeartbeats 4000000 in
theorem known_walk (w : World) : Calls Try.prog 8 #[] w fun e w' => e = .returned (.bool true) ∧ Below w.heap.size w w' := by
  have hw := weekday_any (-1)
  rw [show wday (-1) = 0 by decide] at hw
  have hp1 := fun w => parse_any ⟨#[50, 48, 50, 52, 45, 48, 50, 45, 50, 57]⟩ w (by decide)
  have hp2 := fun w => parse_any ⟨#[50, 48, 50, 51, 45, 48, 50, 45, 50, 57]⟩ w (by decide)
  have hp3 := fun w => parse_any ⟨#[50, 48, 50, 52, 45, 50, 45, 50, 57]⟩ w (by decide)
  have hp4 := fun w => parse_any ⟨#[50, 48, 50, 52, 45, 48, 50, 45, 50]⟩ w (by decide)
  rw [kp1] at hp1
  rw [kp2] at hp2
  rw [kp3] at hp3
  rw [kp4] at hp4
  simp only [parseV] at hp1 hp2 hp3 hp4
  have ht := fun w => text_is (y := 2024) (d := 29) d2 w
  rw [kt] at ht
  have hday := fun w => day_bad 2023 2 29 w (by omega) (by omega) (by omega) (by omega) (by right; decide)
  have hdate := fun w => date_not (n := 3652059) (by omega) w
  have ha1 := fun w => add_near 738944 12 2024 29 2025 2 2 d2 (by omega) (by omega) (by omega) (by omega) (by omega) (by omega) w
  rw [show Civ.num 2025 2 (min 29 (Civ.dim 2025 (2 : Nat))) = 739309 by decide] at ha1
  have ha2 := fun w => add_near 738944 (-1) 2024 29 2024 2 1 d2 (by omega) (by omega) (by omega) (by omega) (by omega) (by omega) w
  rw [show Civ.num 2024 1 (min 29 (Civ.dim 2024 (1 : Nat))) = 738913 by decide] at ha2
  have ha3 := fun w => add_far 0 (-1) 1 1 1 d1 (by omega) (by omega) (by omega) w
  go_enter Try.func8, Try.ntmps8
  go_wp2_with fail
  refine (hday _).mono ?_
  rintro e w1 ⟨rfl, rfl⟩
  go_wp2_with fail
  refine (hdate _).mono ?_
  rintro e w2 ⟨rfl, hb2⟩
  go_wp2_with fail
  refine (ha1 _).mono ?_
  rintro e w3 ⟨rfl, u3, hv3, k3, rfl⟩
  go_wp2_with fail
  refine (ha2 _).mono ?_
  rintro e w4 ⟨rfl, u4, hv4, k4, rfl⟩
  go_wp2_with fail
  refine (ha3 _).mono ?_
  rintro e w5 ⟨rfl, hb5⟩
  go_wp2_with fail
  refine (ht _).mono ?_
  rintro e w6 ⟨rfl, hb6⟩
  go_wp2_with fail
  refine (hp1 _).mono ?_
  rintro e w7 ⟨rfl, hb7⟩
  go_wp2_with fail
  refine (hp2 _).mono ?_
  rintro e w8 ⟨rfl, hb8⟩
  have q8 : Block (w8.alloc (.cells #[.int .i64 2, .int .i64 0] 39)) w8.heap.size 39 [.int .i64 2, .int .i64 0] := Block.new w8 _ _
  go_wp2_with fail
  refine (hp3 _).mono ?_
  rintro e w9 ⟨rfl, hb9⟩
  have q9 : Block (w9.alloc (.cells #[.int .i64 4, .int .i64 6] 39)) w9.heap.size 39 [.int .i64 4, .int .i64 6] := Block.new w9 _ _
  have r8 := (q8.call hb9).alloc (.cells #[.int .i64 4, .int .i64 6] 39)
  go_wp2_with fail
  refine (hp4 _).mono ?_
  rintro e w10 ⟨rfl, hb10⟩
  have q10 : Block (w10.alloc (.cells #[.int .i64 4, .int .i64 9] 39)) w10.heap.size 39 [.int .i64 4, .int .i64 9] := Block.new w10 _ _
  have s8 := (r8.call hb10).alloc (.cells #[.int .i64 4, .int .i64 9] 39)
  have s9 := (q9.call hb10).alloc (.cells #[.int .i64 4, .int .i64 9] 39)
  go_wp2_with fail
  refine (lawday_yes (m := 12) d3 _).mono ?_
  rintro e w11 ⟨rfl, rfl⟩
  go_wp2_with fail
  refine (hw _).mono ?_
  rintro e w11 ⟨rfl, rfl⟩
  go_wp2_with fail
  refine (civ_awake _).mono ?_
  rintro e w12 ⟨rfl, hb12⟩
  have t8 := s8.call hb12
  have t9 := s9.call hb12
  have t10 := q10.call hb12
  have c0 := t8.cell 0
  have c1 := t8.cell 1
  have c2 := t9.cell 0
  have c3 := t9.cell 1
  have c4 := t10.cell 0
  have c5 := t10.cell 1
  simp only [List.getElem?_cons_zero, List.getElem?_cons_succ] at c0 c1 c2 c3 c4 c5
  go_wp2_with fail
  go_ret
  refine ⟨rfl, ?_⟩
  have b3 := bel_drewN (bel_call (bel_alloc (bel_call (Below.refl _ _) hb2) (.cells #[.int .i64 0, .int .i64 0, .int .i64 0] 26)) hv3) k3
  have b4 := bel_drewN (bel_call b3 hv4) k4
  exact bel_call (bel_alloc (bel_call (bel_alloc (bel_call (bel_alloc (bel_call (bel_alloc (bel_call (bel_call (bel_call b4 hb5) hb6) hb7) _) hb8) _) hb9) _) hb10) _) hb12
end Go.Proofs.Ytdjkdfgifajilaa
