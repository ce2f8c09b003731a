/- Lemmas for it; no condition: TCross. -/
import Derived.Test.YthmhdaefkhcenaaGreatDoorZ08
import Derived.Test.YthmhdaefkhcenaaGreatDoorZ22
import Derived.Deep.RegionWith
import Derived.Deep.RegionHeld3
set_option linter.unusedVariables false
set_option linter.unusedSimpArgs false
namespace Go.Proofs.YthmhdaefkhcenaaGreatDoor
set_option maxRecDepth 100000
set_option maxHeartbeats 8000000
open Go.RowKit

theorem on_004044 (w : World) : Calls Tryz.prog 343 #[.agg #[.int .i64 0, .int .i64 0], .agg #[.int .i64 4, .int .i64 0], .agg #[.int .i64 4, .int .i64 4]] w fun e w' => e = .returned (.bool false) ∧ Below w.heap.size w w' := by
  have v := fun W hb => valid3_any (w.heap.size + 1 + 1 + 1) 0 0 4 0 4 4 W (by decide) (by decide) (by decide) (by decide) (by decide) (by decide) hb
  go_enter Tryz.func343, Tryz.ntmps343
  go_wp2_with fail
  refine at_world (fun W => Below w.heap.size w W ∧ Block W w.heap.size 46 [.int .i64 0, .int .i64 0] ∧ Block W (w.heap.size + 1) 46 [.int .i64 4, .int .i64 0] ∧ Block W (w.heap.size + 1 + 1) 46 [.int .i64 4, .int .i64 4] ∧
    Block W (w.heap.size + 1 + 1 + 1) 46 [.int .i64 0, .int .i64 0, .int .i64 4, .int .i64 0, .int .i64 4, .int .i64 4]) ⟨by exact sBel, by exact sBlk, by exact sBlk, by exact sBlk, by exact sBlk⟩ ?_
  rintro W ⟨bel0, A0, A1, A2, A3⟩
  refine (v _ A3).mono ?_
  rintro e w1 ⟨rfl, hb1⟩
  have bel1 := bel_call bel0 hb1
  replace A0 := A0.call hb1
  replace A1 := A1.call hb1
  replace A2 := A2.call hb1
  obtain ⟨k0l, k0f, k00, k01⟩ := A0.c2
  obtain ⟨k1l, k1f, k10, k11⟩ := A1.c2
  obtain ⟨k2l, k2f, k20, k21⟩ := A2.c2
  clear A0 A1 A2 A3 v
  go_wp2
  go_ret
  exact ⟨rfl, bel1⟩
theorem on_004404 (w : World) : Calls Tryz.prog 343 #[.agg #[.int .i64 0, .int .i64 0], .agg #[.int .i64 4, .int .i64 4], .agg #[.int .i64 0, .int .i64 4]] w fun e w' => e = .returned (.bool false) ∧ Below w.heap.size w w' := by
  have v := fun W hb => valid3_any (w.heap.size + 1 + 1 + 1) 0 0 4 4 0 4 W (by decide) (by decide) (by decide) (by decide) (by decide) (by decide) hb
  go_enter Tryz.func343, Tryz.ntmps343
  go_wp2_with fail
  refine at_world (fun W => Below w.heap.size w W ∧ Block W w.heap.size 46 [.int .i64 0, .int .i64 0] ∧ Block W (w.heap.size + 1) 46 [.int .i64 4, .int .i64 4] ∧ Block W (w.heap.size + 1 + 1) 46 [.int .i64 0, .int .i64 4] ∧
    Block W (w.heap.size + 1 + 1 + 1) 46 [.int .i64 0, .int .i64 0, .int .i64 4, .int .i64 4, .int .i64 0, .int .i64 4]) ⟨by exact sBel, by exact sBlk, by exact sBlk, by exact sBlk, by exact sBlk⟩ ?_
  rintro W ⟨bel0, A0, A1, A2, A3⟩
  refine (v _ A3).mono ?_
  rintro e w1 ⟨rfl, hb1⟩
  have bel1 := bel_call bel0 hb1
  replace A0 := A0.call hb1
  replace A1 := A1.call hb1
  replace A2 := A2.call hb1
  obtain ⟨k0l, k0f, k00, k01⟩ := A0.c2
  obtain ⟨k1l, k1f, k10, k11⟩ := A1.c2
  obtain ⟨k2l, k2f, k20, k21⟩ := A2.c2
  clear A0 A1 A2 A3 v
  go_wp2
  go_ret
  exact ⟨rfl, bel1⟩
theorem on_040040 (w : World) : Calls Tryz.prog 343 #[.agg #[.int .i64 0, .int .i64 4], .agg #[.int .i64 0, .int .i64 0], .agg #[.int .i64 4, .int .i64 0]] w fun e w' => e = .returned (.bool false) ∧ Below w.heap.size w w' := by
  have v := fun W hb => valid3_any (w.heap.size + 1 + 1 + 1) 0 4 0 0 4 0 W (by decide) (by decide) (by decide) (by decide) (by decide) (by decide) hb
  go_enter Tryz.func343, Tryz.ntmps343
  go_wp2_with fail
  refine at_world (fun W => Below w.heap.size w W ∧ Block W w.heap.size 46 [.int .i64 0, .int .i64 4] ∧ Block W (w.heap.size + 1) 46 [.int .i64 0, .int .i64 0] ∧ Block W (w.heap.size + 1 + 1) 46 [.int .i64 4, .int .i64 0] ∧
    Block W (w.heap.size + 1 + 1 + 1) 46 [.int .i64 0, .int .i64 4, .int .i64 0, .int .i64 0, .int .i64 4, .int .i64 0]) ⟨by exact sBel, by exact sBlk, by exact sBlk, by exact sBlk, by exact sBlk⟩ ?_
  rintro W ⟨bel0, A0, A1, A2, A3⟩
  refine (v _ A3).mono ?_
  rintro e w1 ⟨rfl, hb1⟩
  have bel1 := bel_call bel0 hb1
  replace A0 := A0.call hb1
  replace A1 := A1.call hb1
  replace A2 := A2.call hb1
  obtain ⟨k0l, k0f, k00, k01⟩ := A0.c2
  obtain ⟨k1l, k1f, k10, k11⟩ := A1.c2
  obtain ⟨k2l, k2f, k20, k21⟩ := A2.c2
  clear A0 A1 A2 A3 v
  go_wp2
  go_ret
  exact ⟨rfl, bel1⟩
theorem on_044044 (w : World) : Calls Tryz.prog 343 #[.agg #[.int .i64 0, .int .i64 4], .agg #[.int .i64 4, .int .i64 0], .agg #[.int .i64 4, .int .i64 4]] w fun e w' => e = .returned (.bool false) ∧ Below w.heap.size w w' := by
  have v := fun W hb => valid3_any (w.heap.size + 1 + 1 + 1) 0 4 4 0 4 4 W (by decide) (by decide) (by decide) (by decide) (by decide) (by decide) hb
  go_enter Tryz.func343, Tryz.ntmps343
  go_wp2_with fail
  refine at_world (fun W => Below w.heap.size w W ∧ Block W w.heap.size 46 [.int .i64 0, .int .i64 4] ∧ Block W (w.heap.size + 1) 46 [.int .i64 4, .int .i64 0] ∧ Block W (w.heap.size + 1 + 1) 46 [.int .i64 4, .int .i64 4] ∧
    Block W (w.heap.size + 1 + 1 + 1) 46 [.int .i64 0, .int .i64 4, .int .i64 4, .int .i64 0, .int .i64 4, .int .i64 4]) ⟨by exact sBel, by exact sBlk, by exact sBlk, by exact sBlk, by exact sBlk⟩ ?_
  rintro W ⟨bel0, A0, A1, A2, A3⟩
  refine (v _ A3).mono ?_
  rintro e w1 ⟨rfl, hb1⟩
  have bel1 := bel_call bel0 hb1
  replace A0 := A0.call hb1
  replace A1 := A1.call hb1
  replace A2 := A2.call hb1
  obtain ⟨k0l, k0f, k00, k01⟩ := A0.c2
  obtain ⟨k1l, k1f, k10, k11⟩ := A1.c2
  obtain ⟨k2l, k2f, k20, k21⟩ := A2.c2
  clear A0 A1 A2 A3 v
  go_wp2
  go_ret
  exact ⟨rfl, bel1⟩
theorem on_400400 (w : World) : Calls Tryz.prog 343 #[.agg #[.int .i64 4, .int .i64 0], .agg #[.int .i64 0, .int .i64 4], .agg #[.int .i64 0, .int .i64 0]] w fun e w' => e = .returned (.bool false) ∧ Below w.heap.size w w' := by
  have v := fun W hb => valid3_any (w.heap.size + 1 + 1 + 1) 4 0 0 4 0 0 W (by decide) (by decide) (by decide) (by decide) (by decide) (by decide) hb
  go_enter Tryz.func343, Tryz.ntmps343
  go_wp2_with fail
  refine at_world (fun W => Below w.heap.size w W ∧ Block W w.heap.size 46 [.int .i64 4, .int .i64 0] ∧ Block W (w.heap.size + 1) 46 [.int .i64 0, .int .i64 4] ∧ Block W (w.heap.size + 1 + 1) 46 [.int .i64 0, .int .i64 0] ∧
    Block W (w.heap.size + 1 + 1 + 1) 46 [.int .i64 4, .int .i64 0, .int .i64 0, .int .i64 4, .int .i64 0, .int .i64 0]) ⟨by exact sBel, by exact sBlk, by exact sBlk, by exact sBlk, by exact sBlk⟩ ?_
  rintro W ⟨bel0, A0, A1, A2, A3⟩
  refine (v _ A3).mono ?_
  rintro e w1 ⟨rfl, hb1⟩
  have bel1 := bel_call bel0 hb1
  replace A0 := A0.call hb1
  replace A1 := A1.call hb1
  replace A2 := A2.call hb1
  obtain ⟨k0l, k0f, k00, k01⟩ := A0.c2
  obtain ⟨k1l, k1f, k10, k11⟩ := A1.c2
  obtain ⟨k2l, k2f, k20, k21⟩ := A2.c2
  clear A0 A1 A2 A3 v
  go_wp2
  go_ret
  exact ⟨rfl, bel1⟩
theorem on_404404 (w : World) : Calls Tryz.prog 343 #[.agg #[.int .i64 4, .int .i64 0], .agg #[.int .i64 4, .int .i64 4], .agg #[.int .i64 0, .int .i64 4]] w fun e w' => e = .returned (.bool false) ∧ Below w.heap.size w w' := by
  have v := fun W hb => valid3_any (w.heap.size + 1 + 1 + 1) 4 0 4 4 0 4 W (by decide) (by decide) (by decide) (by decide) (by decide) (by decide) hb
  go_enter Tryz.func343, Tryz.ntmps343
  go_wp2_with fail
  refine at_world (fun W => Below w.heap.size w W ∧ Block W w.heap.size 46 [.int .i64 4, .int .i64 0] ∧ Block W (w.heap.size + 1) 46 [.int .i64 4, .int .i64 4] ∧ Block W (w.heap.size + 1 + 1) 46 [.int .i64 0, .int .i64 4] ∧
    Block W (w.heap.size + 1 + 1 + 1) 46 [.int .i64 4, .int .i64 0, .int .i64 4, .int .i64 4, .int .i64 0, .int .i64 4]) ⟨by exact sBel, by exact sBlk, by exact sBlk, by exact sBlk, by exact sBlk⟩ ?_
  rintro W ⟨bel0, A0, A1, A2, A3⟩
  refine (v _ A3).mono ?_
  rintro e w1 ⟨rfl, hb1⟩
  have bel1 := bel_call bel0 hb1
  replace A0 := A0.call hb1
  replace A1 := A1.call hb1
  replace A2 := A2.call hb1
  obtain ⟨k0l, k0f, k00, k01⟩ := A0.c2
  obtain ⟨k1l, k1f, k10, k11⟩ := A1.c2
  obtain ⟨k2l, k2f, k20, k21⟩ := A2.c2
  clear A0 A1 A2 A3 v
  go_wp2
  go_ret
  exact ⟨rfl, bel1⟩
theorem on_440040 (w : World) : Calls Tryz.prog 343 #[.agg #[.int .i64 4, .int .i64 4], .agg #[.int .i64 0, .int .i64 0], .agg #[.int .i64 4, .int .i64 0]] w fun e w' => e = .returned (.bool false) ∧ Below w.heap.size w w' := by
  have v := fun W hb => valid3_any (w.heap.size + 1 + 1 + 1) 4 4 0 0 4 0 W (by decide) (by decide) (by decide) (by decide) (by decide) (by decide) hb
  go_enter Tryz.func343, Tryz.ntmps343
  go_wp2_with fail
  refine at_world (fun W => Below w.heap.size w W ∧ Block W w.heap.size 46 [.int .i64 4, .int .i64 4] ∧ Block W (w.heap.size + 1) 46 [.int .i64 0, .int .i64 0] ∧ Block W (w.heap.size + 1 + 1) 46 [.int .i64 4, .int .i64 0] ∧
    Block W (w.heap.size + 1 + 1 + 1) 46 [.int .i64 4, .int .i64 4, .int .i64 0, .int .i64 0, .int .i64 4, .int .i64 0]) ⟨by exact sBel, by exact sBlk, by exact sBlk, by exact sBlk, by exact sBlk⟩ ?_
  rintro W ⟨bel0, A0, A1, A2, A3⟩
  refine (v _ A3).mono ?_
  rintro e w1 ⟨rfl, hb1⟩
  have bel1 := bel_call bel0 hb1
  replace A0 := A0.call hb1
  replace A1 := A1.call hb1
  replace A2 := A2.call hb1
  obtain ⟨k0l, k0f, k00, k01⟩ := A0.c2
  obtain ⟨k1l, k1f, k10, k11⟩ := A1.c2
  obtain ⟨k2l, k2f, k20, k21⟩ := A2.c2
  clear A0 A1 A2 A3 v
  go_wp2
  go_ret
  exact ⟨rfl, bel1⟩
theorem on_440400 (w : World) : Calls Tryz.prog 343 #[.agg #[.int .i64 4, .int .i64 4], .agg #[.int .i64 0, .int .i64 4], .agg #[.int .i64 0, .int .i64 0]] w fun e w' => e = .returned (.bool false) ∧ Below w.heap.size w w' := by
  have v := fun W hb => valid3_any (w.heap.size + 1 + 1 + 1) 4 4 0 4 0 0 W (by decide) (by decide) (by decide) (by decide) (by decide) (by decide) hb
  go_enter Tryz.func343, Tryz.ntmps343
  go_wp2_with fail
  refine at_world (fun W => Below w.heap.size w W ∧ Block W w.heap.size 46 [.int .i64 4, .int .i64 4] ∧ Block W (w.heap.size + 1) 46 [.int .i64 0, .int .i64 4] ∧ Block W (w.heap.size + 1 + 1) 46 [.int .i64 0, .int .i64 0] ∧
    Block W (w.heap.size + 1 + 1 + 1) 46 [.int .i64 4, .int .i64 4, .int .i64 0, .int .i64 4, .int .i64 0, .int .i64 0]) ⟨by exact sBel, by exact sBlk, by exact sBlk, by exact sBlk, by exact sBlk⟩ ?_
  rintro W ⟨bel0, A0, A1, A2, A3⟩
  refine (v _ A3).mono ?_
  rintro e w1 ⟨rfl, hb1⟩
  have bel1 := bel_call bel0 hb1
  replace A0 := A0.call hb1
  replace A1 := A1.call hb1
  replace A2 := A2.call hb1
  obtain ⟨k0l, k0f, k00, k01⟩ := A0.c2
  obtain ⟨k1l, k1f, k10, k11⟩ := A1.c2
  obtain ⟨k2l, k2f, k20, k21⟩ := A2.c2
  clear A0 A1 A2 A3 v
  go_wp2
  go_ret
  exact ⟨rfl, bel1⟩
theorem ons_00404404 (g : Nat) (w : World) (hb : Block w g 46 [.int .i64 4, .int .i64 4, .int .i64 0, .int .i64 4]) : Calls Tryz.prog 399 #[.agg #[.int .i64 0, .int .i64 0], .agg #[.int .i64 4, .int .i64 0], .slice (some ⟨g, 0, none⟩) 2 2] w fun e w' => e = .returned (.slice none 0 0) ∧ Below w.heap.size w w' := by
  have hl := hb.lt
  obtain ⟨cl, cf, c0, c1, c2, c3⟩ := hb.c4
  have o1 := on_440040
  have o2 := on_040040
  go_enter Tryz.func399, Tryz.ntmps399
  go_wp2_with fail
  refine wp_loop_rounds 3 ?_
  rw [rounds_succ]
  go_wp2_with fail
  refine at_world (fun W => Below w.heap.size w W ∧ Block W w.heap.size 46 [.int .i64 0, .int .i64 0] ∧ Block W (w.heap.size + 1) 46 [.int .i64 4, .int .i64 0] ∧ Block W g 46 [.int .i64 4, .int .i64 4, .int .i64 0, .int .i64 4]) ⟨by exact sBel, by exact sBlk, by exact sBlk, by exact sBlk⟩ ?_
  rintro W ⟨bel0, A0, A1, A2⟩
  refine (o1 _).mono ?_
  rintro e w1 ⟨rfl, hb1⟩
  have bel1 := bel_call bel0 hb1
  replace A0 := A0.call hb1
  replace A1 := A1.call hb1
  replace A2 := A2.call hb1
  obtain ⟨k0l, k0f, k00, k01⟩ := A0.c2
  obtain ⟨k1l, k1f, k10, k11⟩ := A1.c2
  obtain ⟨k2l, k2f, k20, k21, k22, k23⟩ := A2.c4
  have l0 := A0.lt
  have l1 := A1.lt
  go_wp2_with fail
  rw [rounds_succ]
  go_wp2_with fail
  refine (o2 _).mono ?_
  rintro e w2 ⟨rfl, hb2⟩
  have bel2 := bel_call (bel_alloc bel1 _) hb2
  go_wp2_with fail
  rw [rounds_succ]
  go_wp2_with fail
  go_ret
  exact ⟨rfl, bel2⟩
theorem ons_04004044 (g : Nat) (w : World) (hb : Block w g 46 [.int .i64 4, .int .i64 0, .int .i64 4, .int .i64 4]) : Calls Tryz.prog 399 #[.agg #[.int .i64 0, .int .i64 4], .agg #[.int .i64 0, .int .i64 0], .slice (some ⟨g, 0, none⟩) 2 2] w fun e w' => e = .returned (.slice none 0 0) ∧ Below w.heap.size w w' := by
  have hl := hb.lt
  obtain ⟨cl, cf, c0, c1, c2, c3⟩ := hb.c4
  have o1 := on_400400
  have o2 := on_440400
  go_enter Tryz.func399, Tryz.ntmps399
  go_wp2_with fail
  refine wp_loop_rounds 3 ?_
  rw [rounds_succ]
  go_wp2_with fail
  refine at_world (fun W => Below w.heap.size w W ∧ Block W w.heap.size 46 [.int .i64 0, .int .i64 4] ∧ Block W (w.heap.size + 1) 46 [.int .i64 0, .int .i64 0] ∧ Block W g 46 [.int .i64 4, .int .i64 0, .int .i64 4, .int .i64 4]) ⟨by exact sBel, by exact sBlk, by exact sBlk, by exact sBlk⟩ ?_
  rintro W ⟨bel0, A0, A1, A2⟩
  refine (o1 _).mono ?_
  rintro e w1 ⟨rfl, hb1⟩
  have bel1 := bel_call bel0 hb1
  replace A0 := A0.call hb1
  replace A1 := A1.call hb1
  replace A2 := A2.call hb1
  obtain ⟨k0l, k0f, k00, k01⟩ := A0.c2
  obtain ⟨k1l, k1f, k10, k11⟩ := A1.c2
  obtain ⟨k2l, k2f, k20, k21, k22, k23⟩ := A2.c4
  have l0 := A0.lt
  have l1 := A1.lt
  go_wp2_with fail
  rw [rounds_succ]
  go_wp2_with fail
  refine (o2 _).mono ?_
  rintro e w2 ⟨rfl, hb2⟩
  have bel2 := bel_call (bel_alloc bel1 _) hb2
  go_wp2_with fail
  rw [rounds_succ]
  go_wp2_with fail
  go_ret
  exact ⟨rfl, bel2⟩
theorem ons_40440400 (g : Nat) (w : World) (hb : Block w g 46 [.int .i64 0, .int .i64 4, .int .i64 0, .int .i64 0]) : Calls Tryz.prog 399 #[.agg #[.int .i64 4, .int .i64 0], .agg #[.int .i64 4, .int .i64 4], .slice (some ⟨g, 0, none⟩) 2 2] w fun e w' => e = .returned (.slice none 0 0) ∧ Below w.heap.size w w' := by
  have hl := hb.lt
  obtain ⟨cl, cf, c0, c1, c2, c3⟩ := hb.c4
  have o1 := on_044044
  have o2 := on_004044
  go_enter Tryz.func399, Tryz.ntmps399
  go_wp2_with fail
  refine wp_loop_rounds 3 ?_
  rw [rounds_succ]
  go_wp2_with fail
  refine at_world (fun W => Below w.heap.size w W ∧ Block W w.heap.size 46 [.int .i64 4, .int .i64 0] ∧ Block W (w.heap.size + 1) 46 [.int .i64 4, .int .i64 4] ∧ Block W g 46 [.int .i64 0, .int .i64 4, .int .i64 0, .int .i64 0]) ⟨by exact sBel, by exact sBlk, by exact sBlk, by exact sBlk⟩ ?_
  rintro W ⟨bel0, A0, A1, A2⟩
  refine (o1 _).mono ?_
  rintro e w1 ⟨rfl, hb1⟩
  have bel1 := bel_call bel0 hb1
  replace A0 := A0.call hb1
  replace A1 := A1.call hb1
  replace A2 := A2.call hb1
  obtain ⟨k0l, k0f, k00, k01⟩ := A0.c2
  obtain ⟨k1l, k1f, k10, k11⟩ := A1.c2
  obtain ⟨k2l, k2f, k20, k21, k22, k23⟩ := A2.c4
  have l0 := A0.lt
  have l1 := A1.lt
  go_wp2_with fail
  rw [rounds_succ]
  go_wp2_with fail
  refine (o2 _).mono ?_
  rintro e w2 ⟨rfl, hb2⟩
  have bel2 := bel_call (bel_alloc bel1 _) hb2
  go_wp2_with fail
  rw [rounds_succ]
  go_wp2_with fail
  go_ret
  exact ⟨rfl, bel2⟩
theorem ons_44040040 (g : Nat) (w : World) (hb : Block w g 46 [.int .i64 0, .int .i64 0, .int .i64 4, .int .i64 0]) : Calls Tryz.prog 399 #[.agg #[.int .i64 4, .int .i64 4], .agg #[.int .i64 0, .int .i64 4], .slice (some ⟨g, 0, none⟩) 2 2] w fun e w' => e = .returned (.slice none 0 0) ∧ Below w.heap.size w w' := by
  have hl := hb.lt
  obtain ⟨cl, cf, c0, c1, c2, c3⟩ := hb.c4
  have o1 := on_004404
  have o2 := on_404404
  go_enter Tryz.func399, Tryz.ntmps399
  go_wp2_with fail
  refine wp_loop_rounds 3 ?_
  rw [rounds_succ]
  go_wp2_with fail
  refine at_world (fun W => Below w.heap.size w W ∧ Block W w.heap.size 46 [.int .i64 4, .int .i64 4] ∧ Block W (w.heap.size + 1) 46 [.int .i64 0, .int .i64 4] ∧ Block W g 46 [.int .i64 0, .int .i64 0, .int .i64 4, .int .i64 0]) ⟨by exact sBel, by exact sBlk, by exact sBlk, by exact sBlk⟩ ?_
  rintro W ⟨bel0, A0, A1, A2⟩
  refine (o1 _).mono ?_
  rintro e w1 ⟨rfl, hb1⟩
  have bel1 := bel_call bel0 hb1
  replace A0 := A0.call hb1
  replace A1 := A1.call hb1
  replace A2 := A2.call hb1
  obtain ⟨k0l, k0f, k00, k01⟩ := A0.c2
  obtain ⟨k1l, k1f, k10, k11⟩ := A1.c2
  obtain ⟨k2l, k2f, k20, k21, k22, k23⟩ := A2.c4
  have l0 := A0.lt
  have l1 := A1.lt
  go_wp2_with fail
  rw [rounds_succ]
  go_wp2_with fail
  refine (o2 _).mono ?_
  rintro e w2 ⟨rfl, hb2⟩
  have bel2 := bel_call (bel_alloc bel1 _) hb2
  go_wp2_with fail
  rw [rounds_succ]
  go_wp2_with fail
  go_ret
  exact ⟨rfl, bel2⟩
theorem gather_none (w : World) : Calls Tryz.prog 398 #[.slice none 0 0, .slice none 0 0] w fun e w' => e = .returned (.slice none 0 0) ∧ Below w.heap.size w w' := by
  go_enter Tryz.func398, Tryz.ntmps398
  go_wp2_with fail
  refine wp_loop_rounds 1 ?_
  rw [rounds_succ]
  go_wp2_with fail
  go_ret
  exact ⟨rfl, Below.refl _ _⟩
theorem may_0040 (w : World) : Calls Tryz.prog 345 #[.agg #[.int .i64 0, .int .i64 0], .agg #[.int .i64 4, .int .i64 0]] w fun e w' => e = .returned (.bool true) ∧ Below w.heap.size w w' := by
  go_enter Tryz.func345, Tryz.ntmps345
  go_wp2
  go_ret
  exact ⟨by first | rfl | simp, by exact sBel⟩
theorem may_0400 (w : World) : Calls Tryz.prog 345 #[.agg #[.int .i64 0, .int .i64 4], .agg #[.int .i64 0, .int .i64 0]] w fun e w' => e = .returned (.bool true) ∧ Below w.heap.size w w' := by
  go_enter Tryz.func345, Tryz.ntmps345
  go_wp2
  go_ret
  exact ⟨by first | rfl | simp, by exact sBel⟩
theorem may_4044 (w : World) : Calls Tryz.prog 345 #[.agg #[.int .i64 4, .int .i64 0], .agg #[.int .i64 4, .int .i64 4]] w fun e w' => e = .returned (.bool true) ∧ Below w.heap.size w w' := by
  go_enter Tryz.func345, Tryz.ntmps345
  go_wp2
  go_ret
  exact ⟨by first | rfl | simp, by exact sBel⟩
theorem may_4404 (w : World) : Calls Tryz.prog 345 #[.agg #[.int .i64 4, .int .i64 4], .agg #[.int .i64 0, .int .i64 4]] w fun e w' => e = .returned (.bool true) ∧ Below w.heap.size w w' := by
  go_enter Tryz.func345, Tryz.ntmps345
  go_wp2
  go_ret
  exact ⟨by first | rfl | simp, by exact sBel⟩
theorem ends_00404404 (w : World) : Calls Tryz.prog 346 #[.agg #[.int .i64 0, .int .i64 0], .agg #[.int .i64 4, .int .i64 0], .agg #[.int .i64 4, .int .i64 4], .agg #[.int .i64 0, .int .i64 4]] w fun e w' => e = .returned (.slice none 0 0) ∧ Below w.heap.size w w' := by
  have m1 := may_0040
  have m2 := may_4404
  have o1 := fun g W hb => ons_44040040 g W hb
  have o2 := fun g W hb => ons_00404404 g W hb
  go_enter Tryz.func346, Tryz.ntmps346
  go_wp2_with fail
  refine at_world (fun W => Below w.heap.size w W ∧ Block W w.heap.size 46 [.int .i64 0, .int .i64 0] ∧ Block W (w.heap.size + 1) 46 [.int .i64 4, .int .i64 0] ∧ Block W (w.heap.size + 1 + 1) 46 [.int .i64 4, .int .i64 4] ∧ Block W (w.heap.size + 1 + 1 + 1) 46 [.int .i64 0, .int .i64 4]) ⟨by exact sBel, by exact sBlk, by exact sBlk, by exact sBlk, by exact sBlk⟩ ?_
  rintro W ⟨bel0, A0, A1, A2, A3⟩
  refine (m1 _).mono ?_
  rintro e w1 ⟨rfl, hb1⟩
  have bel1 := bel_call bel0 hb1
  replace A0 := A0.call hb1
  replace A1 := A1.call hb1
  replace A2 := A2.call hb1
  replace A3 := A3.call hb1
  obtain ⟨k2l, k2f, k20, k21⟩ := A2.c2
  obtain ⟨k3l, k3f, k30, k31⟩ := A3.c2
  go_wp2_with fail
  refine (m2 _).mono ?_
  rintro e w2 ⟨rfl, hb2⟩
  have bel2 := bel_call bel1 hb2
  clear k20 k21 k30 k31 k2l k3l
  replace A0 := A0.call hb2
  replace A1 := A1.call hb2
  replace A2 := A2.call hb2
  replace A3 := A3.call hb2
  obtain ⟨al, af, a0, a1⟩ := A0.c2
  obtain ⟨bl, bf, b0, b1⟩ := A1.c2
  obtain ⟨cl, cf, c0, c1⟩ := A2.c2
  obtain ⟨dl, df, d0, d1⟩ := A3.c2
  go_wp2_with fail
  go_region_held3 (fun w' => w'.cell? ⟨w.heap.size, 0, none⟩ = some (.int .i64 0) ∧ w'.cell? ⟨w.heap.size, 1, none⟩ = some (.int .i64 0) ∧ w'.cell? ⟨w.heap.size + 1, 0, none⟩ = some (.int .i64 4) ∧ w'.cell? ⟨w.heap.size + 1, 1, none⟩ = some (.int .i64 0) ∧ w'.cell? ⟨w.heap.size + 1 + 1, 0, none⟩ = some (.int .i64 4) ∧ w'.cell? ⟨w.heap.size + 1 + 1, 1, none⟩ = some (.int .i64 4) ∧ w'.cell? ⟨w.heap.size + 1 + 1 + 1, 0, none⟩ = some (.int .i64 0) ∧ w'.cell? ⟨w.heap.size + 1 + 1 + 1, 1, none⟩ = some (.int .i64 4)) (go_keep) (first
    | (go_at_call 399; with_reducible refine (o1 _ _ ?_).mono ?_; (· exact sBlk); rintro e w3 ⟨rfl, hb3⟩; have bel3 : Below w.heap.size w w3 := bel_call (by exact sBel) hb3; have x0 : Block w3 (w.heap.size) 46 [.int .i64 0, .int .i64 0] := Block.call (by exact sBlk) hb3; obtain ⟨xc0l, xc0f, xc00, xc01⟩ := x0.c2; have x1 : Block w3 (w.heap.size + 1) 46 [.int .i64 4, .int .i64 0] := Block.call (by exact sBlk) hb3; obtain ⟨xc1l, xc1f, xc10, xc11⟩ := x1.c2; have x2 : Block w3 (w.heap.size + 1 + 1) 46 [.int .i64 4, .int .i64 4] := Block.call (by exact sBlk) hb3; obtain ⟨xc2l, xc2f, xc20, xc21⟩ := x2.c2; have x3 : Block w3 (w.heap.size + 1 + 1 + 1) 46 [.int .i64 0, .int .i64 4] := Block.call (by exact sBlk) hb3; obtain ⟨xc3l, xc3f, xc30, xc31⟩ := x3.c2)
    | (go_at_call 399; with_reducible refine (o2 _ _ ?_).mono ?_; (· exact sBlk); rintro e w4 ⟨rfl, hb4⟩; have bel4 : Below w.heap.size w w4 := bel_call (by exact sBel) hb4; have y0 : Block w4 (w.heap.size) 46 [.int .i64 0, .int .i64 0] := Block.call (by exact sBlk) hb4; obtain ⟨yc0l, yc0f, yc00, yc01⟩ := y0.c2; have y1 : Block w4 (w.heap.size + 1) 46 [.int .i64 4, .int .i64 0] := Block.call (by exact sBlk) hb4; obtain ⟨yc1l, yc1f, yc10, yc11⟩ := y1.c2; have y2 : Block w4 (w.heap.size + 1 + 1) 46 [.int .i64 4, .int .i64 4] := Block.call (by exact sBlk) hb4; obtain ⟨yc2l, yc2f, yc20, yc21⟩ := y2.c2; have y3 : Block w4 (w.heap.size + 1 + 1 + 1) 46 [.int .i64 0, .int .i64 4] := Block.call (by exact sBlk) hb4; obtain ⟨yc3l, yc3f, yc30, yc31⟩ := y3.c2)
    | (go_at_call 398; refine (gather_none _).mono ?_; rintro e w5 ⟨rfl, hb5⟩; have bel5 : Below w.heap.size w w5 := bel_call (by exact sBel) hb5; have z0 : Block w5 (w.heap.size) 46 [.int .i64 0, .int .i64 0] := Block.call (by exact sBlk) hb5; obtain ⟨zc0l, zc0f, zc00, zc01⟩ := z0.c2; have z1 : Block w5 (w.heap.size + 1) 46 [.int .i64 4, .int .i64 0] := Block.call (by exact sBlk) hb5; obtain ⟨zc1l, zc1f, zc10, zc11⟩ := z1.c2; have z2 : Block w5 (w.heap.size + 1 + 1) 46 [.int .i64 4, .int .i64 4] := Block.call (by exact sBlk) hb5; obtain ⟨zc2l, zc2f, zc20, zc21⟩ := z2.c2; have z3 : Block w5 (w.heap.size + 1 + 1 + 1) 46 [.int .i64 0, .int .i64 4] := Block.call (by exact sBlk) hb5; obtain ⟨zc3l, zc3f, zc30, zc31⟩ := z3.c2))
  all_goals go_wp2_with fail
  all_goals go_ret
  all_goals exact ⟨rfl, by assumption⟩
theorem ends_40440400 (w : World) : Calls Tryz.prog 346 #[.agg #[.int .i64 4, .int .i64 0], .agg #[.int .i64 4, .int .i64 4], .agg #[.int .i64 0, .int .i64 4], .agg #[.int .i64 0, .int .i64 0]] w fun e w' => e = .returned (.slice none 0 0) ∧ Below w.heap.size w w' := by
  have m1 := may_4044
  have m2 := may_0400
  have o1 := fun g W hb => ons_04004044 g W hb
  have o2 := fun g W hb => ons_40440400 g W hb
  go_enter Tryz.func346, Tryz.ntmps346
  go_wp2_with fail
  refine at_world (fun W => Below w.heap.size w W ∧ Block W w.heap.size 46 [.int .i64 4, .int .i64 0] ∧ Block W (w.heap.size + 1) 46 [.int .i64 4, .int .i64 4] ∧ Block W (w.heap.size + 1 + 1) 46 [.int .i64 0, .int .i64 4] ∧ Block W (w.heap.size + 1 + 1 + 1) 46 [.int .i64 0, .int .i64 0]) ⟨by exact sBel, by exact sBlk, by exact sBlk, by exact sBlk, by exact sBlk⟩ ?_
  rintro W ⟨bel0, A0, A1, A2, A3⟩
  refine (m1 _).mono ?_
  rintro e w1 ⟨rfl, hb1⟩
  have bel1 := bel_call bel0 hb1
  replace A0 := A0.call hb1
  replace A1 := A1.call hb1
  replace A2 := A2.call hb1
  replace A3 := A3.call hb1
  obtain ⟨k2l, k2f, k20, k21⟩ := A2.c2
  obtain ⟨k3l, k3f, k30, k31⟩ := A3.c2
  go_wp2_with fail
  refine (m2 _).mono ?_
  rintro e w2 ⟨rfl, hb2⟩
  have bel2 := bel_call bel1 hb2
  clear k20 k21 k30 k31 k2l k3l
  replace A0 := A0.call hb2
  replace A1 := A1.call hb2
  replace A2 := A2.call hb2
  replace A3 := A3.call hb2
  obtain ⟨al, af, a0, a1⟩ := A0.c2
  obtain ⟨bl, bf, b0, b1⟩ := A1.c2
  obtain ⟨cl, cf, c0, c1⟩ := A2.c2
  obtain ⟨dl, df, d0, d1⟩ := A3.c2
  go_wp2_with fail
  go_region_held3 (fun w' => w'.cell? ⟨w.heap.size, 0, none⟩ = some (.int .i64 4) ∧ w'.cell? ⟨w.heap.size, 1, none⟩ = some (.int .i64 0) ∧ w'.cell? ⟨w.heap.size + 1, 0, none⟩ = some (.int .i64 4) ∧ w'.cell? ⟨w.heap.size + 1, 1, none⟩ = some (.int .i64 4) ∧ w'.cell? ⟨w.heap.size + 1 + 1, 0, none⟩ = some (.int .i64 0) ∧ w'.cell? ⟨w.heap.size + 1 + 1, 1, none⟩ = some (.int .i64 4) ∧ w'.cell? ⟨w.heap.size + 1 + 1 + 1, 0, none⟩ = some (.int .i64 0) ∧ w'.cell? ⟨w.heap.size + 1 + 1 + 1, 1, none⟩ = some (.int .i64 0)) (go_keep) (first
    | (go_at_call 399; with_reducible refine (o1 _ _ ?_).mono ?_; (· exact sBlk); rintro e w3 ⟨rfl, hb3⟩; have bel3 : Below w.heap.size w w3 := bel_call (by exact sBel) hb3; have x0 : Block w3 (w.heap.size) 46 [.int .i64 4, .int .i64 0] := Block.call (by exact sBlk) hb3; obtain ⟨xc0l, xc0f, xc00, xc01⟩ := x0.c2; have x1 : Block w3 (w.heap.size + 1) 46 [.int .i64 4, .int .i64 4] := Block.call (by exact sBlk) hb3; obtain ⟨xc1l, xc1f, xc10, xc11⟩ := x1.c2; have x2 : Block w3 (w.heap.size + 1 + 1) 46 [.int .i64 0, .int .i64 4] := Block.call (by exact sBlk) hb3; obtain ⟨xc2l, xc2f, xc20, xc21⟩ := x2.c2; have x3 : Block w3 (w.heap.size + 1 + 1 + 1) 46 [.int .i64 0, .int .i64 0] := Block.call (by exact sBlk) hb3; obtain ⟨xc3l, xc3f, xc30, xc31⟩ := x3.c2)
    | (go_at_call 399; with_reducible refine (o2 _ _ ?_).mono ?_; (· exact sBlk); rintro e w4 ⟨rfl, hb4⟩; have bel4 : Below w.heap.size w w4 := bel_call (by exact sBel) hb4; have y0 : Block w4 (w.heap.size) 46 [.int .i64 4, .int .i64 0] := Block.call (by exact sBlk) hb4; obtain ⟨yc0l, yc0f, yc00, yc01⟩ := y0.c2; have y1 : Block w4 (w.heap.size + 1) 46 [.int .i64 4, .int .i64 4] := Block.call (by exact sBlk) hb4; obtain ⟨yc1l, yc1f, yc10, yc11⟩ := y1.c2; have y2 : Block w4 (w.heap.size + 1 + 1) 46 [.int .i64 0, .int .i64 4] := Block.call (by exact sBlk) hb4; obtain ⟨yc2l, yc2f, yc20, yc21⟩ := y2.c2; have y3 : Block w4 (w.heap.size + 1 + 1 + 1) 46 [.int .i64 0, .int .i64 0] := Block.call (by exact sBlk) hb4; obtain ⟨yc3l, yc3f, yc30, yc31⟩ := y3.c2)
    | (go_at_call 398; refine (gather_none _).mono ?_; rintro e w5 ⟨rfl, hb5⟩; have bel5 : Below w.heap.size w w5 := bel_call (by exact sBel) hb5; have z0 : Block w5 (w.heap.size) 46 [.int .i64 4, .int .i64 0] := Block.call (by exact sBlk) hb5; obtain ⟨zc0l, zc0f, zc00, zc01⟩ := z0.c2; have z1 : Block w5 (w.heap.size + 1) 46 [.int .i64 4, .int .i64 4] := Block.call (by exact sBlk) hb5; obtain ⟨zc1l, zc1f, zc10, zc11⟩ := z1.c2; have z2 : Block w5 (w.heap.size + 1 + 1) 46 [.int .i64 0, .int .i64 4] := Block.call (by exact sBlk) hb5; obtain ⟨zc2l, zc2f, zc20, zc21⟩ := z2.c2; have z3 : Block w5 (w.heap.size + 1 + 1 + 1) 46 [.int .i64 0, .int .i64 0] := Block.call (by exact sBlk) hb5; obtain ⟨zc3l, zc3f, zc30, zc31⟩ := z3.c2))
  all_goals go_wp2_with fail
  all_goals go_ret
  all_goals exact ⟨rfl, by assumption⟩
theorem turn_004004 (w : World) : Calls Tryz.prog 342 #[.agg #[.int .i64 0, .int .i64 0], .agg #[.int .i64 4, .int .i64 0], .agg #[.int .i64 0, .int .i64 4]] w fun e w' => e = .returned (.int .i64 (1)) ∧ Below w.heap.size w w' := by
  have h := turn_any 0 0 4 0 0 4 w (by decide) (by decide) (by decide) (by decide) (by decide) (by decide)
  rwa [show turnZ 0 0 4 0 0 4 = 1 by decide] at h
theorem turn_004044 (w : World) : Calls Tryz.prog 342 #[.agg #[.int .i64 0, .int .i64 0], .agg #[.int .i64 4, .int .i64 0], .agg #[.int .i64 4, .int .i64 4]] w fun e w' => e = .returned (.int .i64 (1)) ∧ Below w.heap.size w w' := by
  have h := turn_any 0 0 4 0 4 4 w (by decide) (by decide) (by decide) (by decide) (by decide) (by decide)
  rwa [show turnZ 0 0 4 0 4 4 = 1 by decide] at h
theorem turn_040040 (w : World) : Calls Tryz.prog 342 #[.agg #[.int .i64 0, .int .i64 4], .agg #[.int .i64 0, .int .i64 0], .agg #[.int .i64 4, .int .i64 0]] w fun e w' => e = .returned (.int .i64 (1)) ∧ Below w.heap.size w w' := by
  have h := turn_any 0 4 0 0 4 0 w (by decide) (by decide) (by decide) (by decide) (by decide) (by decide)
  rwa [show turnZ 0 4 0 0 4 0 = 1 by decide] at h
theorem turn_040044 (w : World) : Calls Tryz.prog 342 #[.agg #[.int .i64 0, .int .i64 4], .agg #[.int .i64 0, .int .i64 0], .agg #[.int .i64 4, .int .i64 4]] w fun e w' => e = .returned (.int .i64 (1)) ∧ Below w.heap.size w w' := by
  have h := turn_any 0 4 0 0 4 4 w (by decide) (by decide) (by decide) (by decide) (by decide) (by decide)
  rwa [show turnZ 0 4 0 0 4 4 = 1 by decide] at h
theorem turn_404400 (w : World) : Calls Tryz.prog 342 #[.agg #[.int .i64 4, .int .i64 0], .agg #[.int .i64 4, .int .i64 4], .agg #[.int .i64 0, .int .i64 0]] w fun e w' => e = .returned (.int .i64 (1)) ∧ Below w.heap.size w w' := by
  have h := turn_any 4 0 4 4 0 0 w (by decide) (by decide) (by decide) (by decide) (by decide) (by decide)
  rwa [show turnZ 4 0 4 4 0 0 = 1 by decide] at h
theorem turn_404404 (w : World) : Calls Tryz.prog 342 #[.agg #[.int .i64 4, .int .i64 0], .agg #[.int .i64 4, .int .i64 4], .agg #[.int .i64 0, .int .i64 4]] w fun e w' => e = .returned (.int .i64 (1)) ∧ Below w.heap.size w w' := by
  have h := turn_any 4 0 4 4 0 4 w (by decide) (by decide) (by decide) (by decide) (by decide) (by decide)
  rwa [show turnZ 4 0 4 4 0 4 = 1 by decide] at h
theorem turn_440400 (w : World) : Calls Tryz.prog 342 #[.agg #[.int .i64 4, .int .i64 4], .agg #[.int .i64 0, .int .i64 4], .agg #[.int .i64 0, .int .i64 0]] w fun e w' => e = .returned (.int .i64 (1)) ∧ Below w.heap.size w w' := by
  have h := turn_any 4 4 0 4 0 0 w (by decide) (by decide) (by decide) (by decide) (by decide) (by decide)
  rwa [show turnZ 4 4 0 4 0 0 = 1 by decide] at h
theorem turn_440440 (w : World) : Calls Tryz.prog 342 #[.agg #[.int .i64 4, .int .i64 4], .agg #[.int .i64 0, .int .i64 4], .agg #[.int .i64 4, .int .i64 0]] w fun e w' => e = .returned (.int .i64 (1)) ∧ Below w.heap.size w w' := by
  have h := turn_any 4 4 0 4 4 0 w (by decide) (by decide) (by decide) (by decide) (by decide) (by decide)
  rwa [show turnZ 4 4 0 4 4 0 = 1 by decide] at h
theorem eq4_0 (w : World) : (Op.equalIn 10000 529 (.agg #[.int .i64 (1), .int .i64 (1), .int .i64 (1), .int .i64 (1)]) (.agg #[.int .i64 (1), .int .i64 (-1), .int .i64 (1), .int .i64 (-1)])).run Tryz.prog w = .ok false w := by kernel_rfl
theorem eq4_1 (w : World) : (Op.equalIn 10000 529 (.agg #[.int .i64 (1), .int .i64 (1), .int .i64 (1), .int .i64 (1)]) (.agg #[.int .i64 (1), .int .i64 (-1), .int .i64 (-1), .int .i64 (1)])).run Tryz.prog w = .ok false w := by kernel_rfl
theorem eq4_2 (w : World) : (Op.equalIn 10000 529 (.agg #[.int .i64 (1), .int .i64 (1), .int .i64 (1), .int .i64 (1)]) (.agg #[.int .i64 (-1), .int .i64 (1), .int .i64 (1), .int .i64 (-1)])).run Tryz.prog w = .ok false w := by kernel_rfl
theorem eq4_3 (w : World) : (Op.equalIn 10000 529 (.agg #[.int .i64 (1), .int .i64 (1), .int .i64 (1), .int .i64 (1)]) (.agg #[.int .i64 (-1), .int .i64 (1), .int .i64 (-1), .int .i64 (1)])).run Tryz.prog w = .ok false w := by kernel_rfl
theorem meets_00404404 (w : World) : Calls Tryz.prog 303 #[.agg #[.int .i64 0, .int .i64 0], .agg #[.int .i64 4, .int .i64 0], .agg #[.int .i64 4, .int .i64 4], .agg #[.int .i64 0, .int .i64 4]] w fun e w' => e = .returned (.int .i64 0) ∧ Below w.heap.size w w' := by
  have m1 := may_0040
  have m2 := may_4404
  have en := ends_00404404
  have g0 := eq4_0
  have g1 := eq4_1
  have g2 := eq4_2
  have g3 := eq4_3
  have q1 := turn_004044
  have q2 := turn_004004
  have q3 := turn_440400
  have q4 := turn_440440
  go_enter Tryz.func303, Tryz.ntmps303
  go_wp2_with fail
  refine at_world (fun W => Below w.heap.size w W ∧ Block W w.heap.size 46 [.int .i64 0, .int .i64 0] ∧ Block W (w.heap.size + 1) 46 [.int .i64 4, .int .i64 0] ∧ Block W (w.heap.size + 1 + 1) 46 [.int .i64 4, .int .i64 4] ∧ Block W (w.heap.size + 1 + 1 + 1) 46 [.int .i64 0, .int .i64 4]) ⟨by exact sBel, by exact sBlk, by exact sBlk, by exact sBlk, by exact sBlk⟩ ?_
  rintro W ⟨bel0, A0, A1, A2, A3⟩
  refine (m1 _).mono ?_
  rintro e w1 ⟨rfl, hb1⟩
  have bel1 := bel_call bel0 hb1
  replace A0 := A0.call hb1
  replace A1 := A1.call hb1
  replace A2 := A2.call hb1
  replace A3 := A3.call hb1
  obtain ⟨k2l, k2f, k20, k21⟩ := A2.c2
  obtain ⟨k3l, k3f, k30, k31⟩ := A3.c2
  go_wp2_with fail
  refine (m2 _).mono ?_
  rintro e w2 ⟨rfl, hb2⟩
  have bel2 := bel_call bel1 hb2
  clear k20 k21 k30 k31 k2l k3l
  replace A0 := A0.call hb2
  replace A1 := A1.call hb2
  replace A2 := A2.call hb2
  replace A3 := A3.call hb2
  obtain ⟨al, af, a0, a1⟩ := A0.c2
  obtain ⟨bl, bf, b0, b1⟩ := A1.c2
  obtain ⟨cl, cf, c0, c1⟩ := A2.c2
  obtain ⟨dl, df, d0, d1⟩ := A3.c2
  go_wp2_with fail
  refine (en _).mono ?_
  rintro e w3 ⟨rfl, hb3⟩
  have bel3 := bel_call bel2 hb3
  clear a0 a1 b0 b1 c0 c1 d0 d1 al bl cl dl
  replace A0 := A0.call hb3
  replace A1 := A1.call hb3
  replace A2 := A2.call hb3
  replace A3 := A3.call hb3
  obtain ⟨al, af, a0, a1⟩ := A0.c2
  obtain ⟨bl, bf, b0, b1⟩ := A1.c2
  obtain ⟨cl, cf, c0, c1⟩ := A2.c2
  obtain ⟨dl, df, d0, d1⟩ := A3.c2
  go_wp2_with fail
  go_region_held3 (fun w' => w'.cell? ⟨w.heap.size, 0, none⟩ = some (.int .i64 0) ∧ w'.cell? ⟨w.heap.size, 1, none⟩ = some (.int .i64 0) ∧ w'.cell? ⟨w.heap.size + 1, 0, none⟩ = some (.int .i64 4) ∧ w'.cell? ⟨w.heap.size + 1, 1, none⟩ = some (.int .i64 0) ∧ w'.cell? ⟨w.heap.size + 1 + 1, 0, none⟩ = some (.int .i64 4) ∧ w'.cell? ⟨w.heap.size + 1 + 1, 1, none⟩ = some (.int .i64 4) ∧ w'.cell? ⟨w.heap.size + 1 + 1 + 1, 0, none⟩ = some (.int .i64 0) ∧ w'.cell? ⟨w.heap.size + 1 + 1 + 1, 1, none⟩ = some (.int .i64 4)) (go_keep) (first
    | (go_at_call 342; with_reducible refine (q1 _).mono ?_; rintro e w4 ⟨rfl, hb4⟩; have bel4 : Below w.heap.size w w4 := bel_call (by exact sBel) hb4; have x0 : Block w4 (w.heap.size) 46 [.int .i64 0, .int .i64 0] := Block.call (by exact sBlk) hb4; obtain ⟨xc0l, xc0f, xc00, xc01⟩ := x0.c2; have x1 : Block w4 (w.heap.size + 1) 46 [.int .i64 4, .int .i64 0] := Block.call (by exact sBlk) hb4; obtain ⟨xc1l, xc1f, xc10, xc11⟩ := x1.c2; have x2 : Block w4 (w.heap.size + 1 + 1) 46 [.int .i64 4, .int .i64 4] := Block.call (by exact sBlk) hb4; obtain ⟨xc2l, xc2f, xc20, xc21⟩ := x2.c2; have x3 : Block w4 (w.heap.size + 1 + 1 + 1) 46 [.int .i64 0, .int .i64 4] := Block.call (by exact sBlk) hb4; obtain ⟨xc3l, xc3f, xc30, xc31⟩ := x3.c2)
    | (go_at_call 342; with_reducible refine (q2 _).mono ?_; rintro e w5 ⟨rfl, hb5⟩; have bel5 : Below w.heap.size w w5 := bel_call (by exact sBel) hb5; have y0 : Block w5 (w.heap.size) 46 [.int .i64 0, .int .i64 0] := Block.call (by exact sBlk) hb5; obtain ⟨yc0l, yc0f, yc00, yc01⟩ := y0.c2; have y1 : Block w5 (w.heap.size + 1) 46 [.int .i64 4, .int .i64 0] := Block.call (by exact sBlk) hb5; obtain ⟨yc1l, yc1f, yc10, yc11⟩ := y1.c2; have y2 : Block w5 (w.heap.size + 1 + 1) 46 [.int .i64 4, .int .i64 4] := Block.call (by exact sBlk) hb5; obtain ⟨yc2l, yc2f, yc20, yc21⟩ := y2.c2; have y3 : Block w5 (w.heap.size + 1 + 1 + 1) 46 [.int .i64 0, .int .i64 4] := Block.call (by exact sBlk) hb5; obtain ⟨yc3l, yc3f, yc30, yc31⟩ := y3.c2)
    | (go_at_call 342; with_reducible refine (q3 _).mono ?_; rintro e w6 ⟨rfl, hb6⟩; have bel6 : Below w.heap.size w w6 := bel_call (by exact sBel) hb6; have z0 : Block w6 (w.heap.size) 46 [.int .i64 0, .int .i64 0] := Block.call (by exact sBlk) hb6; obtain ⟨zc0l, zc0f, zc00, zc01⟩ := z0.c2; have z1 : Block w6 (w.heap.size + 1) 46 [.int .i64 4, .int .i64 0] := Block.call (by exact sBlk) hb6; obtain ⟨zc1l, zc1f, zc10, zc11⟩ := z1.c2; have z2 : Block w6 (w.heap.size + 1 + 1) 46 [.int .i64 4, .int .i64 4] := Block.call (by exact sBlk) hb6; obtain ⟨zc2l, zc2f, zc20, zc21⟩ := z2.c2; have z3 : Block w6 (w.heap.size + 1 + 1 + 1) 46 [.int .i64 0, .int .i64 4] := Block.call (by exact sBlk) hb6; obtain ⟨zc3l, zc3f, zc30, zc31⟩ := z3.c2)
    | (go_at_call 342; with_reducible refine (q4 _).mono ?_; rintro e w7 ⟨rfl, hb7⟩; have bel7 : Below w.heap.size w w7 := bel_call (by exact sBel) hb7; have u0 : Block w7 (w.heap.size) 46 [.int .i64 0, .int .i64 0] := Block.call (by exact sBlk) hb7; obtain ⟨uc0l, uc0f, uc00, uc01⟩ := u0.c2; have u1 : Block w7 (w.heap.size + 1) 46 [.int .i64 4, .int .i64 0] := Block.call (by exact sBlk) hb7; obtain ⟨uc1l, uc1f, uc10, uc11⟩ := u1.c2; have u2 : Block w7 (w.heap.size + 1 + 1) 46 [.int .i64 4, .int .i64 4] := Block.call (by exact sBlk) hb7; obtain ⟨uc2l, uc2f, uc20, uc21⟩ := u2.c2; have u3 : Block w7 (w.heap.size + 1 + 1 + 1) 46 [.int .i64 0, .int .i64 4] := Block.call (by exact sBlk) hb7; obtain ⟨uc3l, uc3f, uc30, uc31⟩ := u3.c2))
  go_wp2_with fail
  go_ret
  exact ⟨rfl, by assumption⟩
theorem meets_40440400 (w : World) : Calls Tryz.prog 303 #[.agg #[.int .i64 4, .int .i64 0], .agg #[.int .i64 4, .int .i64 4], .agg #[.int .i64 0, .int .i64 4], .agg #[.int .i64 0, .int .i64 0]] w fun e w' => e = .returned (.int .i64 0) ∧ Below w.heap.size w w' := by
  have m1 := may_4044
  have m2 := may_0400
  have en := ends_40440400
  have g0 := eq4_0
  have g1 := eq4_1
  have g2 := eq4_2
  have g3 := eq4_3
  have q1 := turn_404404
  have q2 := turn_404400
  have q3 := turn_040040
  have q4 := turn_040044
  go_enter Tryz.func303, Tryz.ntmps303
  go_wp2_with fail
  refine at_world (fun W => Below w.heap.size w W ∧ Block W w.heap.size 46 [.int .i64 4, .int .i64 0] ∧ Block W (w.heap.size + 1) 46 [.int .i64 4, .int .i64 4] ∧ Block W (w.heap.size + 1 + 1) 46 [.int .i64 0, .int .i64 4] ∧ Block W (w.heap.size + 1 + 1 + 1) 46 [.int .i64 0, .int .i64 0]) ⟨by exact sBel, by exact sBlk, by exact sBlk, by exact sBlk, by exact sBlk⟩ ?_
  rintro W ⟨bel0, A0, A1, A2, A3⟩
  refine (m1 _).mono ?_
  rintro e w1 ⟨rfl, hb1⟩
  have bel1 := bel_call bel0 hb1
  replace A0 := A0.call hb1
  replace A1 := A1.call hb1
  replace A2 := A2.call hb1
  replace A3 := A3.call hb1
  obtain ⟨k2l, k2f, k20, k21⟩ := A2.c2
  obtain ⟨k3l, k3f, k30, k31⟩ := A3.c2
  go_wp2_with fail
  refine (m2 _).mono ?_
  rintro e w2 ⟨rfl, hb2⟩
  have bel2 := bel_call bel1 hb2
  clear k20 k21 k30 k31 k2l k3l
  replace A0 := A0.call hb2
  replace A1 := A1.call hb2
  replace A2 := A2.call hb2
  replace A3 := A3.call hb2
  obtain ⟨al, af, a0, a1⟩ := A0.c2
  obtain ⟨bl, bf, b0, b1⟩ := A1.c2
  obtain ⟨cl, cf, c0, c1⟩ := A2.c2
  obtain ⟨dl, df, d0, d1⟩ := A3.c2
  go_wp2_with fail
  refine (en _).mono ?_
  rintro e w3 ⟨rfl, hb3⟩
  have bel3 := bel_call bel2 hb3
  clear a0 a1 b0 b1 c0 c1 d0 d1 al bl cl dl
  replace A0 := A0.call hb3
  replace A1 := A1.call hb3
  replace A2 := A2.call hb3
  replace A3 := A3.call hb3
  obtain ⟨al, af, a0, a1⟩ := A0.c2
  obtain ⟨bl, bf, b0, b1⟩ := A1.c2
  obtain ⟨cl, cf, c0, c1⟩ := A2.c2
  obtain ⟨dl, df, d0, d1⟩ := A3.c2
  go_wp2_with fail
  go_region_held3 (fun w' => w'.cell? ⟨w.heap.size, 0, none⟩ = some (.int .i64 4) ∧ w'.cell? ⟨w.heap.size, 1, none⟩ = some (.int .i64 0) ∧ w'.cell? ⟨w.heap.size + 1, 0, none⟩ = some (.int .i64 4) ∧ w'.cell? ⟨w.heap.size + 1, 1, none⟩ = some (.int .i64 4) ∧ w'.cell? ⟨w.heap.size + 1 + 1, 0, none⟩ = some (.int .i64 0) ∧ w'.cell? ⟨w.heap.size + 1 + 1, 1, none⟩ = some (.int .i64 4) ∧ w'.cell? ⟨w.heap.size + 1 + 1 + 1, 0, none⟩ = some (.int .i64 0) ∧ w'.cell? ⟨w.heap.size + 1 + 1 + 1, 1, none⟩ = some (.int .i64 0)) (go_keep) (first
    | (go_at_call 342; with_reducible refine (q1 _).mono ?_; rintro e w4 ⟨rfl, hb4⟩; have bel4 : Below w.heap.size w w4 := bel_call (by exact sBel) hb4; have x0 : Block w4 (w.heap.size) 46 [.int .i64 4, .int .i64 0] := Block.call (by exact sBlk) hb4; obtain ⟨xc0l, xc0f, xc00, xc01⟩ := x0.c2; have x1 : Block w4 (w.heap.size + 1) 46 [.int .i64 4, .int .i64 4] := Block.call (by exact sBlk) hb4; obtain ⟨xc1l, xc1f, xc10, xc11⟩ := x1.c2; have x2 : Block w4 (w.heap.size + 1 + 1) 46 [.int .i64 0, .int .i64 4] := Block.call (by exact sBlk) hb4; obtain ⟨xc2l, xc2f, xc20, xc21⟩ := x2.c2; have x3 : Block w4 (w.heap.size + 1 + 1 + 1) 46 [.int .i64 0, .int .i64 0] := Block.call (by exact sBlk) hb4; obtain ⟨xc3l, xc3f, xc30, xc31⟩ := x3.c2)
    | (go_at_call 342; with_reducible refine (q2 _).mono ?_; rintro e w5 ⟨rfl, hb5⟩; have bel5 : Below w.heap.size w w5 := bel_call (by exact sBel) hb5; have y0 : Block w5 (w.heap.size) 46 [.int .i64 4, .int .i64 0] := Block.call (by exact sBlk) hb5; obtain ⟨yc0l, yc0f, yc00, yc01⟩ := y0.c2; have y1 : Block w5 (w.heap.size + 1) 46 [.int .i64 4, .int .i64 4] := Block.call (by exact sBlk) hb5; obtain ⟨yc1l, yc1f, yc10, yc11⟩ := y1.c2; have y2 : Block w5 (w.heap.size + 1 + 1) 46 [.int .i64 0, .int .i64 4] := Block.call (by exact sBlk) hb5; obtain ⟨yc2l, yc2f, yc20, yc21⟩ := y2.c2; have y3 : Block w5 (w.heap.size + 1 + 1 + 1) 46 [.int .i64 0, .int .i64 0] := Block.call (by exact sBlk) hb5; obtain ⟨yc3l, yc3f, yc30, yc31⟩ := y3.c2)
    | (go_at_call 342; with_reducible refine (q3 _).mono ?_; rintro e w6 ⟨rfl, hb6⟩; have bel6 : Below w.heap.size w w6 := bel_call (by exact sBel) hb6; have z0 : Block w6 (w.heap.size) 46 [.int .i64 4, .int .i64 0] := Block.call (by exact sBlk) hb6; obtain ⟨zc0l, zc0f, zc00, zc01⟩ := z0.c2; have z1 : Block w6 (w.heap.size + 1) 46 [.int .i64 4, .int .i64 4] := Block.call (by exact sBlk) hb6; obtain ⟨zc1l, zc1f, zc10, zc11⟩ := z1.c2; have z2 : Block w6 (w.heap.size + 1 + 1) 46 [.int .i64 0, .int .i64 4] := Block.call (by exact sBlk) hb6; obtain ⟨zc2l, zc2f, zc20, zc21⟩ := z2.c2; have z3 : Block w6 (w.heap.size + 1 + 1 + 1) 46 [.int .i64 0, .int .i64 0] := Block.call (by exact sBlk) hb6; obtain ⟨zc3l, zc3f, zc30, zc31⟩ := z3.c2)
    | (go_at_call 342; with_reducible refine (q4 _).mono ?_; rintro e w7 ⟨rfl, hb7⟩; have bel7 : Below w.heap.size w w7 := bel_call (by exact sBel) hb7; have u0 : Block w7 (w.heap.size) 46 [.int .i64 4, .int .i64 0] := Block.call (by exact sBlk) hb7; obtain ⟨uc0l, uc0f, uc00, uc01⟩ := u0.c2; have u1 : Block w7 (w.heap.size + 1) 46 [.int .i64 4, .int .i64 4] := Block.call (by exact sBlk) hb7; obtain ⟨uc1l, uc1f, uc10, uc11⟩ := u1.c2; have u2 : Block w7 (w.heap.size + 1 + 1) 46 [.int .i64 0, .int .i64 4] := Block.call (by exact sBlk) hb7; obtain ⟨uc2l, uc2f, uc20, uc21⟩ := u2.c2; have u3 : Block w7 (w.heap.size + 1 + 1 + 1) 46 [.int .i64 0, .int .i64 0] := Block.call (by exact sBlk) hb7; obtain ⟨uc3l, uc3f, uc30, uc31⟩ := u3.c2))
  go_wp2_with fail
  go_ret
  exact ⟨rfl, by assumption⟩
end Go.Proofs.YthmhdaefkhcenaaGreatDoor
