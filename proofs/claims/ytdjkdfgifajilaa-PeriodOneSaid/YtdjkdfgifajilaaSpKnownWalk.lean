/- The walk of the statement 'PeriodKnown'. -/
import Derived.Test.YtdjkdfgifajilaaSpAwake
import Derived.Test.YtdjkdfgifajilaaSpBackFacts
import Derived.Test.YtdjkdfgifajilaaSpLast
namespace Go.Proofs.Ytdjkdfgifajilaa
open Go.RowKit Go.Lib

theorem kq1 : strOfNums (pText 2 2024 1) = ⟨#[50, 48, 50, 52, 45, 81, 49]⟩ := by decide +kernel
theorem kq2 : strOfNums (pText 4 2024 1) = ⟨#[50, 48, 50, 52]⟩ := by decide +kernel
theorem kr1 : pF ⟨#[50, 48, 50, 52, 45, 72, 50]⟩ = (3, 4047, 0, 0) := by decide +kernel
theorem kr2 : pF ⟨#[50, 48, 50, 52, 45, 77, 49, 51]⟩ = (0, 0, 5, 0) := by decide +kernel
theorem kr3 : pF ⟨#[50, 48, 50, 52, 45]⟩ = (0, 0, 4, 5) := by decide +kernel
theorem kr4 : pF ⟨#[48, 48, 48, 48]⟩ = (0, 0, 5, 0) := by decide +kernel
theorem isD1 : Civ.IsD 2024 1 1 := ⟨by omega, by omega, by omega, by omega, by omega, by decide⟩
theorem isD3 : Civ.IsD 2024 3 1 := ⟨by omega, by omega, by omega, by omega, by omega, by decide⟩
set_option maxRecDepth 100000 in
set_option maxHeartbeats 4000000 in
theorem pknown_walk (w : World) : Calls Try.prog 14 #[] w fun e w' => e = .returned (.bool true) ∧ Below w.heap.size w w' := by
  have c1 := fun w => of_not (k := 5) (by omega) (by omega) (by omega) 0 w
  have c2 := fun w => first_is (k := 2) (n := 3) (p := 8092) (.inr (.inl ⟨rfl, rfl⟩)) (by decide) (by decide) (y := 2024) (m := 1) (by decide) (by decide) isD1 w
  rw [show Civ.num 2024 1 1 = 738885 by decide] at c2
  have c3 := fun w => last_is (k := 2) (n := 3) (p := 8092) (.inr (.inl ⟨rfl, rfl⟩)) (by decide) (by decide) (y := 2024) (m := 3) (by decide) (by decide) isD3 w
  rw [show Civ.num 2024 3 (Civ.dim 2024 (3 : Nat)) = 738975 by decide] at c3
  have c4 := fun w => first_out (k := 4) (n := 12) (p := 9999) (.inr (.inr (.inr ⟨rfl, rfl⟩))) (.inr (by decide)) w
  have c5 := fun w => pparse_lit _ (by decide) kr1 w
  have c6 := fun w => lof_yes (k := 3) (n := 6) (p := 4046) (.inr (.inr (.inl ⟨rfl, rfl⟩))) d2 (by decide) w
  have c7 := fun w => lof_yes (k := 4) (n := 12) (p := 2023) (.inr (.inr (.inr ⟨rfl, rfl⟩))) d2 (by decide) w
  have c8 := fun w => ltext_yes (k := 2) (n := 3) (p := 8092) (y := 2024) (a := 1) (.inr (.inl ⟨rfl, rfl⟩)) (by decide) (by decide) (by decide) (by decide) kq1 w
  have c9 := fun w => ltext_yes (k := 4) (n := 12) (p := 2023) (y := 2024) (a := 1) (.inr (.inr (.inr ⟨rfl, rfl⟩))) (by decide) (by decide) (by decide) (by decide) kq2 w
  have f1 := fun w => lfault_yes (fun w => pparse_lit _ (by decide) kr2 w) w
  have f2 := fun w => lfault_yes (fun w => pparse_lit _ (by decide) kr3 w) w
  have f3 := fun w => lfault_yes (fun w => pparse_lit _ (by decide) kr4 w) w
  go_enter Try.func14, Try.ntmps14
  go_wp2_with fail
  refine (c1 _).mono ?_
  rintro e w1 ⟨rfl, hb1⟩
  go_wp2_with fail
  refine (c2 _).mono ?_
  rintro e w2 ⟨rfl, hb2⟩
  go_wp2_with fail
  refine (c3 _).mono ?_
  rintro e w3 ⟨rfl, hb3⟩
  go_wp2_with fail
  refine (c4 _).mono ?_
  rintro e w4 ⟨rfl, hb4⟩
  go_wp2_with fail
  refine (c5 _).mono ?_
  rintro e w5 ⟨rfl, hb5⟩
  have h5 := bel_call (bel_call (bel_call (bel_call hb1 hb2) hb3) hb4) hb5
  go_wp2_with fail
  refine (c6 _).mono ?_
  rintro e w6 ⟨rfl, hb6⟩
  go_wp2_with fail
  refine (c7 _).mono ?_
  rintro e w7 ⟨rfl, hb7⟩
  go_wp2_with fail
  refine (per_awake _).mono ?_
  rintro e w8 ⟨rfl, hb8⟩
  go_wp2_with fail
  refine (c8 _).mono ?_
  rintro e w9 ⟨rfl, hb9⟩
  go_wp2_with fail
  refine (c9 _).mono ?_
  rintro e w10 ⟨rfl, hb10⟩
  have bk := ((((((Block.new w5 39 [.int .i64 0, .int .i64 0]).call hb6).call hb7).call hb8).call hb9).call hb10)
  have b0 := bk.cell 0
  simp only [List.getElem?_cons_zero] at b0
  go_wp2_with fail
  refine (f1 _).mono ?_
  rintro e w11 ⟨rfl, hb11⟩
  go_wp2_with fail
  refine (f2 _).mono ?_
  rintro e w12 ⟨rfl, hb12⟩
  go_wp2_with fail
  refine (f3 _).mono ?_
  rintro e w13 ⟨rfl, hb13⟩
  go_wp2_with fail
  go_ret
  exact ⟨rfl, bel_call (bel_call (bel_call (bel_call (bel_call (bel_call (bel_call (bel_call (bel_alloc h5 _) hb6) hb7) hb8) hb9) hb10) hb11) hb12) hb13⟩
end Go.Proofs.Ytdjkdfgifajilaa
