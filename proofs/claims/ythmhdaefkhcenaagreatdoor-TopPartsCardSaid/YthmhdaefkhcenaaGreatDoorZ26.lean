/- Lemmas for it; no condition: TBox. -/
import Derived.Test.YthmhdaefkhcenaaGreatDoorZ08
import Derived.Test.YthmhdaefkhcenaaGreatDoorZ13
import Derived.Test.YthmhdaefkhcenaaGreatDoorZ25
set_option linter.unusedVariables false
set_option linter.unusedSimpArgs false
namespace Go.Proofs.YthmhdaefkhcenaaGreatDoor
set_option maxRecDepth 100000
set_option maxHeartbeats 8000000
open Go.RowKit

theorem info_pt : (Tryz.prog.info? 46).map (fun i => (i.zero, i.size, i.bytes)) = some (some (.agg #[.int .i64 0, .int .i64 0]), 2, 16) := by kernel_rfl
theorem box_one : ∀ u ∈ boxC, u.oneCell' = true := by intro u hu; simp [boxC] at hu; rcases hu with rfl | rfl | rfl | rfl | rfl | rfl | rfl | rfl <;> rfl
theorem grow_pts (w : World) : Calls Tryz.prog 306 #[.slice none 0 0, .int .i64 4] w fun e w' => ∃ J k, e = .returned (.slice (some ⟨w.heap.size, 0, none⟩) 0 (4 + k)) ∧ w' = w.drew.alloc (.cells J 46) ∧ J.size = (4 + k) * 2 ∧ 4 + k ≤ maxLen := by
  go_enter Tryz.func306, Tryz.ntmps306
  go_wp2_with (at_builtin; refine wpList_append_zeros rfl _ _ 82 3 rfl 46 _ 2 16 .i64 .i64 Tryz.underlying82 Tryz.underlying3 info_pt rfl (by omega) 4 rfl rfl (by omega) (by unfold maxLen; omega) (by omega) ?_; intro J k hJ hk)
  go_returns
  exact ⟨J, k, rfl, rfl, hJ, hk⟩
theorem concat_box (rb rc b c : Nat) (w : World) (hr : Has w rb [.slice (some ⟨b, 0, none⟩) 4 c]) (h : Has w b boxC) :
    Calls Tryz.prog 256 #[.slice (some ⟨rb, 0, none⟩) 1 rc] w fun e w' => ∃ g c', e = .returned (.slice (some ⟨g, 0, none⟩) 4 c') ∧ w.heap.size ≤ g ∧ Has w' g boxC ∧ 4 ≤ c' ∧ Below w.heap.size w w' := by
  have kl := hr.lt; have k0 := hr.cell (j := 0) rfl
  have hl := h.lt
  go_enter Tryz.func256, Tryz.ntmps256
  go_wp2_with fail
  refine wp_loop_rounds 2 ?_
  rw [rounds_succ]
  go_wp2_with fail
  rw [rounds_succ]
  go_wp2_with fail
  refine (grow_pts _).mono ?_
  rintro e w1 ⟨J, k, rfl, rfl, hJ, hk⟩
  have hO := own_zero (W := w.drew.alloc (.cells J 46)) (e := 46) (J := J) (base := w.heap.size) (k := 4 + k) (size := 2) (g := w.heap.size) (heap_alloc_new w.drew _) (Nat.le_refl _) hJ hk
  have hH : Has (w.drew.alloc (.cells J 46)) b boxC := by exact sHas
  go_wp2_with fail
  refine wp_loop_rounds 2 ?_
  rw [rounds_succ]
  go_wp2_with (at_builtin; refine wpList_append_own rfl _ _ 82 rfl 46 _ 2 16 Tryz.underlying82 info_pt rfl (by omega) w.heap.size _ 0 [] rfl hO b 0 4 c boxC rfl rfl (fun j v hj => by rw [Nat.zero_add]; exact hH.cell hj) box_one (by omega) (by unfold maxLen; omega) (by omega) (by simp) ?_; intro g c' w2 hg hc' hO2 hH2 hg2)
  rw [rounds_succ]
  go_wp2_with fail
  go_returns
  exact ⟨g, c', rfl, hg, hH2, hc', bel_grown (bel_alloc (Below.drew (Below.refl _ _)) _) hg2 (fun k hk => by cases hk; exact Nat.le_refl _)⟩
theorem gbox_box (rb rc b c : Nat) (w : World) (hr : Has w rb [.slice (some ⟨b, 0, none⟩) 4 c]) (h : Has w b boxC) :
    Calls Tryz.prog 193 #[.agg #[.slice (some ⟨rb, 0, none⟩) 1 rc]] w fun e w' => e = .returned (.tuple #[.agg #[.int .i64 0, .int .i64 0, .int .i64 5, .int .i64 5], .bool true]) ∧ Below w.heap.size w w' := by
  have hl := h.lt
  go_enter Tryz.func193, Tryz.ntmps193
  go_wp2_with fail
  refine (concat_box rb rc b c _ (by exact sHas) (by exact sHas)).mono ?_
  rintro e w1 ⟨g, c', rfl, hg, hH, hc', hb1⟩
  have bel1 : Below w.heap.size w w1 := bel_call (by exact sBel) hb1
  have B1 : Block w1 (w.heap.size + 1) 349 [.int .i64 0, .int .i64 0, .int .i64 0, .int .i64 0] := by exact sBlk
  go_wp2_with fail
  refine (bounds_box g c' _ hH).mono ?_
  rintro e w2 ⟨rfl, hb2⟩
  have bel2 : Below w.heap.size w w2 := bel_call bel1 hb2
  have B2 : Block w2 (w.heap.size + 1) 349 [.int .i64 0, .int .i64 0, .int .i64 0, .int .i64 0] := by exact sBlk
  obtain ⟨xl, xf, x0, x1, x2, x3⟩ := B2.c4
  go_wp2_with fail
  exact ret_ct (T := 349) rfl rfl rfl ((((B2.set 0 (.int .i64 0)).set 1 (.int .i64 0)).set 2 (.int .i64 5)).set 3 (.int .i64 5)) agg_bx size_bx ⟨rfl, by exact sBel⟩
end Go.Proofs.YthmhdaefkhcenaaGreatDoor
