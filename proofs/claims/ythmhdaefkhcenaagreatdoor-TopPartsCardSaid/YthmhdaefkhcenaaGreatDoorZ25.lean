/- Lemmas for it; no condition: TBounds. -/
import Derived.Test.YthmhdaefkhcenaaGreatDoorZ08
import Derived.Test.YthmhdaefkhcenaaGreatDoorZ24
import Derived.Deep.RegionHeld3
import Derived.Deep.RegionWith
import Derived.Deep.Cut
import Derived.Deep.DeepCutAuto
set_option linter.unusedVariables false
set_option linter.unusedSimpArgs false
namespace Go.Proofs.YthmhdaefkhcenaaGreatDoor
set_option maxRecDepth 100000
set_option maxHeartbeats 8000000
open Go.RowKit

theorem valid4_box (b c : Nat) (w : World) (h : Has w b boxC) : Calls Tryz.prog 304 #[.slice (some ⟨b, 0, none⟩) 4 c] w fun e w' => e = .returned (.bool true) ∧ Below w.heap.size w w' := by
  have kl := h.lt; have k0 := h.cell (j := 0) rfl; have k1 := h.cell (j := 1) rfl; have k2 := h.cell (j := 2) rfl; have k3 := h.cell (j := 3) rfl; have k4 := h.cell (j := 4) rfl; have k5 := h.cell (j := 5) rfl; have k6 := h.cell (j := 6) rfl; have k7 := h.cell (j := 7) rfl
  have past_b := past_alloc b; have pl1_b : b < w.heap.size + 1 := (by omega); have pl2_b : b < w.heap.size + 1 + 1 := (by omega); have pl3_b : b < w.heap.size + 1 + 1 + 1 := (by omega); have pl4_b : b < w.heap.size + 1 + 1 + 1 + 1 := (by omega); have pl5_b : b < w.heap.size + 1 + 1 + 1 + 1 + 1 := (by omega); have pl6_b : b < w.heap.size + 1 + 1 + 1 + 1 + 1 + 1 := (by omega); have pl7_b : b < w.heap.size + 1 + 1 + 1 + 1 + 1 + 1 + 1 := (by omega); have pl8_b : b < w.heap.size + 1 + 1 + 1 + 1 + 1 + 1 + 1 + 1 := (by omega); have pl9_b : b < w.heap.size + 1 + 1 + 1 + 1 + 1 + 1 + 1 + 1 + 1 := (by omega); have pl10_b : b < w.heap.size + 1 + 1 + 1 + 1 + 1 + 1 + 1 + 1 + 1 + 1 := (by omega)
  go_enter Tryz.func304, Tryz.ntmps304
  go_wp2
  (repeat (first | (rw [rounds_succ]; go_wp2) | (refine wp_loop_rounds 5 ?_; rw [rounds_succ]; go_wp2) | (go_quiet (fail); go_wp2)))
  go_returns
  exact ⟨rfl, by exact sBel⟩
theorem axis_of0 (g i : Nat) (w : World) : Calls Tryz.prog 305 #[.int .i64 0, .pointer (some ⟨g, i, none⟩)] w fun e w' => e = .returned (.pointer (some ⟨g, i, none⟩)) ∧ w = w' := by
  go_enter Tryz.func305, Tryz.ntmps305
  go_wp2
  go_ret
  exact ⟨rfl, rfl⟩
theorem axis_of1 (g i : Nat) (w : World) : Calls Tryz.prog 305 #[.int .i64 1, .pointer (some ⟨g, i, none⟩)] w fun e w' => e = .returned (.pointer (some ⟨g, i + 1, none⟩)) ∧ w = w' := by
  go_enter Tryz.func305, Tryz.ntmps305
  go_wp2
  go_ret
  exact ⟨rfl, rfl⟩
theorem ax0 (w : World) : (Instr.index 473 (.agg #[.func (.func 305) #[.int .i64 0] #[], .func (.func 305) #[.int .i64 1] #[]]) (.int .i64 0)).run Tryz.prog w = .ok (.func (.func 305) #[.int .i64 0] #[]) w := by kernel_rfl
theorem ax1 (w : World) : (Instr.index 473 (.agg #[.func (.func 305) #[.int .i64 0] #[], .func (.func 305) #[.int .i64 1] #[]]) (.int .i64 1)).run Tryz.prog w = .ok (.func (.func 305) #[.int .i64 1] #[]) w := by kernel_rfl
theorem agg_bx (w : World) : (isAgg 349).run Tryz.prog w = .ok true w := by kernel_rfl
theorem size_bx (w : World) : (sizeOf 349).run Tryz.prog w = .ok 4 w := by kernel_rfl
def hxF (j : Nat) : Int := if j ≤ 1 then 0 else 4
def hyF (j : Nat) : Int := if j ≤ 2 then 0 else 4
theorem pts_facts {W : World} {b j : Nat} (h : Has W b boxC) (hj : j < 4) : ∃ x y : Int, W.cell? ⟨b, j * 2, none⟩ = some (.int .i64 x) ∧ W.cell? ⟨b, j * 2 + 1, none⟩ = some (.int .i64 y) ∧ 0 ≤ x ∧ 0 ≤ y ∧
    ((hxF j < x ∧ hxF (j + 1) = x) ∨ (¬ hxF j < x ∧ hxF (j + 1) = hxF j)) ∧ ((hyF j < y ∧ hyF (j + 1) = y) ∨ (¬ hyF j < y ∧ hyF (j + 1) = hyF j)) := by
  rcases (by omega : j = 0 ∨ j = 1 ∨ j = 2 ∨ j = 3) with rfl | rfl | rfl | rfl
  · exact ⟨0, 0, h.cell rfl, h.cell rfl, by decide, by decide, by decide, by decide⟩
  · exact ⟨4, 0, h.cell rfl, h.cell rfl, by decide, by decide, by decide, by decide⟩
  · exact ⟨4, 4, h.cell rfl, h.cell rfl, by decide, by decide, by decide, by decide⟩
  · exact ⟨0, 4, h.cell rfl, h.cell rfl, by decide, by decide, by decide, by decide⟩
theorem bounds_box (b c : Nat) (w : World) (h : Has w b boxC) : Calls Tryz.prog 255 #[.slice (some ⟨b, 0, none⟩) 4 c] w fun e w' => e = .returned (.tuple #[.agg #[.int .i64 0, .int .i64 0, .int .i64 5, .int .i64 5], .bool true]) ∧ Below w.heap.size w w' := by
  have hx0 := ax0
  have hx1 := ax1
  have hmf : ∀ (fn : Fn) (first cap : Array Value) (w : World), (Instr.makeFunc fn first cap).run Tryz.prog w = .ok (.func fn first cap) w := fun _ _ _ _ => rfl
  go_enter Tryz.func255, Tryz.ntmps255
  go_wp2_with fail
  refine (valid4_box b c _ (by exact sHas)).mono ?_
  rintro e W1 ⟨rfl, hb1⟩
  have bel1 : Below w.heap.size w W1 := bel_call (by exact sBel) hb1
  have H1 : Has W1 b boxC := by exact sHas
  have A1 : Block W1 w.heap.size 349 [.int .i64 0, .int .i64 0, .int .i64 0, .int .i64 0] := by exact sBlk
  clear hb1
  have kl := H1.lt; have k0 := H1.cell (j := 0) rfl; have k1 := H1.cell (j := 1) rfl; have k2 := H1.cell (j := 2) rfl; have k3 := H1.cell (j := 3) rfl; have k4 := H1.cell (j := 4) rfl; have k5 := H1.cell (j := 5) rfl; have k6 := H1.cell (j := 6) rfl; have k7 := H1.cell (j := 7) rfl
  go_wp2_with fail
  go_region
  all_goals go_wp2_with fail
  have hX : w.heap.size < W1.heap.size := A1.lt
  obtain ⟨X, hXe⟩ : ∃ X, W1.heap.size = X := ⟨_, rfl⟩
  refine at_code (fun W => Below w.heap.size w W ∧ Has W b boxC ∧ Block W w.heap.size 349 [.int .i64 0, .int .i64 0, .int .i64 0, .int .i64 0] ∧ Block W X 349 [.int .i64 0, .int .i64 0, .int .i64 0, .int .i64 0]) ⟨by exact sBel, by exact sHas, by exact sBlk, by exact sBlk⟩ ?_
  have hbX := H1.lt
  rw [hXe] at hX hbX ⊢
  clear k0 k1 k2 k3 k4 k5 k6 k7 kl A1 H1 bel1 hXe
  clear W1
  rintro W0 ⟨bel0, H0, A0, X0⟩
  have hb := H0.lt
  have hne : ¬ w.heap.size = X := by omega
  refine wp_loop_rounds 3 ?_
  rw [rounds_succ]
  go_wp2_with fail
  go_loopw [33] (fun i W => ∃ j : Nat, j ≤ 4 ∧ i = .int .i64 j ∧ Below w.heap.size w W ∧ Has W b boxC ∧ Block W w.heap.size 349 [.int .i64 0, .int .i64 0, .int .i64 0, .int .i64 0] ∧ Block W X 349 [.int .i64 (0), .int .i64 (0), .int .i64 (hxF j), .int .i64 (0)]) (fun i _ => 4 - (intOf i).toNat)
  case atStart => exact ⟨0, by omega, rfl, bel0, H0, A0, X0⟩
  case round =>
    obtain ⟨j, hj, rfl, bel, H, A, XX⟩ := hrel
    by_cases hlt : j < 4
    · obtain ⟨x, y, c0, c1, hx, hy, hmx, hmy⟩ := pts_facts H hlt
      have hl := H.lt
      have hm := hmx
      clear hmx hmy
      generalize hxF j = hv at *
      obtain ⟨hw, hwe⟩ : ∃ hw, hxF (j + 1) = hw := ⟨_, rfl⟩
      rw [hwe] at hm
      have Hwe := Lib.hid hwe
      clear hwe
      obtain ⟨xl, xf, x0, x1, x2, x3⟩ := XX.c4
      have q1 : (j : Int) < 4 := by omega
      have q2 : (0 : Int) ≤ (j : Int) := by omega
      go_wp2_with fail
      obtain ⟨Y, hY⟩ : ∃ Y, wr.heap.size = Y := ⟨_, rfl⟩
      have hXY : X < Y := by omega
      have nXY : ¬ X = Y := by omega
      have nYX : ¬ Y = X := by omega
      have hwY : w.heap.size < Y := by omega
      refine at_code (fun W => (Below w.heap.size w W ∧ Has W b boxC ∧ Block W w.heap.size 349 [.int .i64 0, .int .i64 0, .int .i64 0, .int .i64 0] ∧ Block W X 349 [.int .i64 (0), .int .i64 (0), .int .i64 (hv), .int .i64 (0)]) ∧ Block W Y 46 [.int .i64 x, .int .i64 y]) ⟨⟨by exact sBel, by exact sHas, by exact sBlk, by exact sBlk⟩, btop hY⟩ ?_
      rw [hY]
      clear c0 c1 x0 x1 x2 x3 xl xf bel H A XX hY
      rintro W ⟨⟨bel, H, A, XX⟩, YY⟩
      have xl := XX.lt
      have hmn : min 0 x = 0 := by omega
      go_cut [] (fun W => (Below w.heap.size w W ∧ Has W b boxC ∧ Block W w.heap.size 349 [.int .i64 0, .int .i64 0, .int .i64 0, .int .i64 0] ∧ Block W X 349 [.int .i64 (0), .int .i64 (0), .int .i64 (hv), .int .i64 (0)]) ∧ Block W Y 46 [.int .i64 x, .int .i64 y])
      case first =>
        obtain ⟨xl, xf, x0, x1, x2, x3⟩ := XX.c4
        obtain ⟨yl, yf, y0, y1⟩ := YY.c2
        go_region_with (go_at_call 305; with_reducible refine (axis_of0 _ _ _).mono ?_; rintro e w3 ⟨rfl, rfl⟩)
        all_goals go_wp2_with fail
        all_goals go_meet
        all_goals exact ⟨⟨by exact sBel, by exact sHas, by first | exact Block.drew (Block.far A (by simp; omega) _) | exact Block.far (Block.drew A) (by simp; omega) _, by first | exact Block.drew (Block.set XX 0 (.int .i64 0)) | exact Block.set (Block.drew XX) 0 (.int .i64 0)⟩, by first | exact Block.drew (Block.far YY (by simp; omega) _) | exact Block.far (Block.drew YY) (by simp; omega) _⟩
      case rest =>
        obtain ⟨⟨bel2, H2, A2, XX2⟩, YY2⟩ := hcut
        clear bel H A XX YY xl
        have xl := XX2.lt
        have yl := YY2.lt
        have hmax : max hv x = hw := by omega
        clear hm
        go_wp2_with fail
        obtain ⟨xl, xf, x0, x1, x2, x3⟩ := XX2.c4
        obtain ⟨yl, yf, y0, y1⟩ := YY2.c2
        go_region_with (go_at_call 305; with_reducible refine (axis_of0 _ _ _).mono ?_; rintro e w3 ⟨rfl, rfl⟩)
        all_goals go_wp2_with fail
        all_goals go_roundw
        all_goals first
          | (simp [intOf]; omega)
          | (refine ⟨j + 1, by omega, by go_num, by exact sBel, by exact sHas, by first | exact Block.drew (Block.far A2 (by simp; omega) _) | exact Block.far (Block.drew A2) (by simp; omega) _, ?_⟩; rw [Hwe.out]; first | exact Block.drew (Block.set XX2 2 (.int .i64 hw)) | exact Block.set (Block.drew XX2) 2 (.int .i64 hw))
    · obtain rfl : j = 4 := by omega
      have hf4 : hxF 4 = 4 := rfl
      rw [hf4] at XX
      clear hf4
      have hl := H.lt
      obtain ⟨xl, xf, x0, x1, x2, x3⟩ := XX.c4
      go_wp2_with fail
      refine (axis_of0 _ _ _).mono ?_
      rintro e w3 ⟨rfl, rfl⟩
      go_wp2_with fail
      refine at_code (fun W => Below w.heap.size w W ∧ Has W b boxC ∧ Block W w.heap.size 349 [.int .i64 0, .int .i64 0, .int .i64 0, .int .i64 0] ∧ Block W X 349 [.int .i64 (0), .int .i64 (0), .int .i64 (5), .int .i64 (0)]) ⟨by exact sBel, by exact sHas, Block.far A (by simp; omega) _, Block.set XX 2 (.int .i64 5)⟩ ?_
      clear bel H A XX x0 x1 x2 x3 xl xf hl hlt bel0 H0 A0 X0
      rintro W5 ⟨bel0, H0, A0, X0⟩
      go_wp2_with fail
      go_loopw [33] (fun i W => ∃ j : Nat, j ≤ 4 ∧ i = .int .i64 j ∧ Below w.heap.size w W ∧ Has W b boxC ∧ Block W w.heap.size 349 [.int .i64 0, .int .i64 0, .int .i64 0, .int .i64 0] ∧ Block W X 349 [.int .i64 (0), .int .i64 (0), .int .i64 (5), .int .i64 (hyF j)]) (fun i _ => 4 - (intOf i).toNat)
      case atStart => exact ⟨0, by omega, rfl, bel0, H0, A0, X0⟩
      case round =>
        obtain ⟨j, hj, rfl, bel, H, A, XX⟩ := hrel
        by_cases hlt : j < 4
        · obtain ⟨x, y, c0, c1, hx, hy, hmx, hmy⟩ := pts_facts H hlt
          have hl := H.lt
          have hm := hmy
          clear hmx hmy
          generalize hyF j = hv at *
          obtain ⟨hw, hwe⟩ : ∃ hw, hyF (j + 1) = hw := ⟨_, rfl⟩
          rw [hwe] at hm
          have Hwe := Lib.hid hwe
          clear hwe
          obtain ⟨xl, xf, x0, x1, x2, x3⟩ := XX.c4
          have q1 : (j : Int) < 4 := by omega
          have q2 : (0 : Int) ≤ (j : Int) := by omega
          go_wp2_with fail
          obtain ⟨Y, hY⟩ : ∃ Y, wr.heap.size = Y := ⟨_, rfl⟩
          have hXY : X < Y := by omega
          have nXY : ¬ X = Y := by omega
          have nYX : ¬ Y = X := by omega
          have hwY : w.heap.size < Y := by omega
          refine at_code (fun W => (Below w.heap.size w W ∧ Has W b boxC ∧ Block W w.heap.size 349 [.int .i64 0, .int .i64 0, .int .i64 0, .int .i64 0] ∧ Block W X 349 [.int .i64 (0), .int .i64 (0), .int .i64 (5), .int .i64 (hv)]) ∧ Block W Y 46 [.int .i64 x, .int .i64 y]) ⟨⟨by exact sBel, by exact sHas, by exact sBlk, by exact sBlk⟩, btop hY⟩ ?_
          rw [hY]
          clear c0 c1 x0 x1 x2 x3 xl xf bel H A XX hY
          rintro W ⟨⟨bel, H, A, XX⟩, YY⟩
          have xl := XX.lt
          have hmn : min 0 y = 0 := by omega
          go_cut [] (fun W => (Below w.heap.size w W ∧ Has W b boxC ∧ Block W w.heap.size 349 [.int .i64 0, .int .i64 0, .int .i64 0, .int .i64 0] ∧ Block W X 349 [.int .i64 (0), .int .i64 (0), .int .i64 (5), .int .i64 (hv)]) ∧ Block W Y 46 [.int .i64 x, .int .i64 y])
          case first =>
            obtain ⟨xl, xf, x0, x1, x2, x3⟩ := XX.c4
            obtain ⟨yl, yf, y0, y1⟩ := YY.c2
            go_region_with (go_at_call 305; with_reducible refine (axis_of1 _ _ _).mono ?_; rintro e w3 ⟨rfl, rfl⟩)
            all_goals go_wp2_with fail
            all_goals go_meet
            all_goals exact ⟨⟨by exact sBel, by exact sHas, by first | exact Block.drew (Block.far A (by simp; omega) _) | exact Block.far (Block.drew A) (by simp; omega) _, by first | exact Block.drew (Block.set XX 1 (.int .i64 0)) | exact Block.set (Block.drew XX) 1 (.int .i64 0)⟩, by first | exact Block.drew (Block.far YY (by simp; omega) _) | exact Block.far (Block.drew YY) (by simp; omega) _⟩
          case rest =>
            obtain ⟨⟨bel2, H2, A2, XX2⟩, YY2⟩ := hcut
            clear bel H A XX YY xl
            have xl := XX2.lt
            have yl := YY2.lt
            have hmax : max hv y = hw := by omega
            clear hm
            go_wp2_with fail
            obtain ⟨xl, xf, x0, x1, x2, x3⟩ := XX2.c4
            obtain ⟨yl, yf, y0, y1⟩ := YY2.c2
            go_region_with (go_at_call 305; with_reducible refine (axis_of1 _ _ _).mono ?_; rintro e w3 ⟨rfl, rfl⟩)
            all_goals go_wp2_with fail
            all_goals go_roundw
            all_goals first
              | (simp [intOf]; omega)
              | (refine ⟨j + 1, by omega, by go_num, by exact sBel, by exact sHas, by first | exact Block.drew (Block.far A2 (by simp; omega) _) | exact Block.far (Block.drew A2) (by simp; omega) _, ?_⟩; rw [Hwe.out]; first | exact Block.drew (Block.set XX2 3 (.int .i64 hw)) | exact Block.set (Block.drew XX2) 3 (.int .i64 hw))
        · obtain rfl : j = 4 := by omega
          have hf4 : hyF 4 = 4 := rfl
          rw [hf4] at XX
          clear hf4
          have hl := H.lt
          obtain ⟨xl, xf, x0, x1, x2, x3⟩ := XX.c4
          go_wp2_with fail
          refine (axis_of1 _ _ _).mono ?_
          rintro e w3 ⟨rfl, rfl⟩
          go_wp2_with fail
          refine at_code (fun W => Below w.heap.size w W ∧ Has W b boxC ∧ Block W w.heap.size 349 [.int .i64 0, .int .i64 0, .int .i64 0, .int .i64 0] ∧ Block W X 349 [.int .i64 (0), .int .i64 (0), .int .i64 (5), .int .i64 (5)]) ⟨by exact sBel, by exact sHas, Block.far A (by simp; omega) _, Block.set XX 3 (.int .i64 5)⟩ ?_
          clear bel H A XX x0 x1 x2 x3 xl xf hl hlt bel0 H0 A0 X0
          rintro W5 ⟨bel0, H0, A0, X0⟩
          obtain ⟨xl, xf, x0, x1, x2, x3⟩ := X0.c4
          obtain ⟨al, af, a0, a1, a2, a3⟩ := A0.c4
          go_wp2_with fail
          exact ret_ct (T := 349) rfl rfl rfl ((((A0.set 0 (.int .i64 0)).set 1 (.int .i64 0)).set 2 (.int .i64 5)).set 3 (.int .i64 5)) agg_bx size_bx ⟨rfl, by exact sBel⟩
end Go.Proofs.YthmhdaefkhcenaaGreatDoor
