/- Lemmas for it; no condition: TRing TRing2 TRegion TRegion2. -/
import Derived.Test.YthmhdaefkhcenaaGreatDoorZ08
import Derived.Test.YthmhdaefkhcenaaGreatDoorZ10
import Derived.Test.YthmhdaefkhcenaaGreatDoorZ23
set_option linter.unusedVariables false
set_option linter.unusedSimpArgs false
namespace Go.Proofs.YthmhdaefkhcenaaGreatDoor
set_option maxRecDepth 100000
set_option maxHeartbeats 8000000
open Go.RowKit

theorem agg_fl (w : World) : (isAgg 194).run Tryz.prog w = .ok true w := by kernel_rfl
theorem size_fl (w : World) : (sizeOf 194).run Tryz.prog w = .ok 2 w := by kernel_rfl
theorem rsize_box (b c : Nat) (w : World) : Calls Tryz.prog 296 #[.slice (some ⟨b, 0, none⟩) 4 c] w fun e w' => e = .returned (.tuple #[.agg #[.int .i64 0, .int .i64 0], .bool false]) ∧ Below w.heap.size w w' := by
  go_enter Tryz.func296, Tryz.ntmps296
  go_wp2
  go_returns
  exact ⟨rfl, by exact sBel⟩
theorem rvalid_box (b c : Nat) (w : World) (h : Has w b boxC) : Calls Tryz.prog 297 #[.slice (some ⟨b, 0, none⟩) 4 c] w fun e w' => e = .returned (.tuple #[.agg #[.int .i64 0, .int .i64 0], .bool false]) ∧ Below w.heap.size w w' := by
  have kl := h.lt; have k0 := h.cell (j := 0) rfl; have k1 := h.cell (j := 1) rfl; have k2 := h.cell (j := 2) rfl; have k3 := h.cell (j := 3) rfl; have k4 := h.cell (j := 4) rfl; have k5 := h.cell (j := 5) rfl; have k6 := h.cell (j := 6) rfl; have k7 := h.cell (j := 7) rfl
  have past_b := past_alloc b; have pl1_b : b < w.heap.size + 1 := (by omega); have pl2_b : b < w.heap.size + 1 + 1 := (by omega); have pl3_b : b < w.heap.size + 1 + 1 + 1 := (by omega); have pl4_b : b < w.heap.size + 1 + 1 + 1 + 1 := (by omega); have pl5_b : b < w.heap.size + 1 + 1 + 1 + 1 + 1 := (by omega); have pl6_b : b < w.heap.size + 1 + 1 + 1 + 1 + 1 + 1 := (by omega); have pl7_b : b < w.heap.size + 1 + 1 + 1 + 1 + 1 + 1 + 1 := (by omega); have pl8_b : b < w.heap.size + 1 + 1 + 1 + 1 + 1 + 1 + 1 + 1 := (by omega); have pl9_b : b < w.heap.size + 1 + 1 + 1 + 1 + 1 + 1 + 1 + 1 + 1 := (by omega); have pl10_b : b < w.heap.size + 1 + 1 + 1 + 1 + 1 + 1 + 1 + 1 + 1 + 1 := (by omega)
  go_enter Tryz.func297, Tryz.ntmps297
  go_wp2
  (repeat (first | (rw [rounds_succ]; go_wp2) | (refine wp_loop_rounds 5 ?_; rw [rounds_succ]; go_wp2) | (go_quiet (fail); go_wp2)))
  go_returns
  exact ⟨rfl, by exact sBel⟩
def boxE : List MapEntry := [mEnt (.agg #[.int .i64 0, .int .i64 0]) (.agg #[]) 0, mEnt (.agg #[.int .i64 4, .int .i64 0]) (.agg #[]) 1, mEnt (.agg #[.int .i64 4, .int .i64 4]) (.agg #[]) 2, mEnt (.agg #[.int .i64 0, .int .i64 4]) (.agg #[]) 3]
theorem zero_unit (w : World) : (zeroValue 64).run Tryz.prog w = .ok (.agg #[]) w := by kernel_rfl
theorem ckl0 (w : World) : (Instr.checkKey (boxE.take 0).isEmpty 10000 46 (.agg #[.int .i64 0, .int .i64 0])).run Tryz.prog w = .ok () w := by kernel_rfl
theorem cku0 (w : World) : (Instr.checkKey false 10000 46 (.agg #[.int .i64 0, .int .i64 0])).run Tryz.prog w = .ok () w := by kernel_rfl
theorem ckf0 (w : World) : (Instr.findKey 46 (.agg #[.int .i64 0, .int .i64 0]) (boxE.take 0)).run Tryz.prog w = .ok none w := by kernel_rfl
theorem lookb0 {w : World} {r : Nat} (h : MapAt w r (boxE.take 0) 0) : (Instr.lookup 519 (.map (some r)) (.agg #[.int .i64 0, .int .i64 0]) true).run Tryz.prog w = .ok (.tuple #[.agg #[], .bool false]) w := look_miss h Tryz.underlying519 ckl0 ckf0 zero_unit
theorem updb0 {w : World} {r : Nat} (h : MapAt w r (boxE.take 0) 0) : ∃ w', (Instr.mapUpdate 519 (.map (some r)) (.agg #[.int .i64 0, .int .i64 0]) (.agg #[])).run Tryz.prog w = .ok () w' ∧ MapAt w' r (boxE.take 1) 1 ∧ w.grownBy w' (some r) := upd_new h Tryz.underlying519 cku0 ckf0
theorem ckl1 (w : World) : (Instr.checkKey (boxE.take 1).isEmpty 10000 46 (.agg #[.int .i64 4, .int .i64 0])).run Tryz.prog w = .ok () w := by kernel_rfl
theorem cku1 (w : World) : (Instr.checkKey false 10000 46 (.agg #[.int .i64 4, .int .i64 0])).run Tryz.prog w = .ok () w := by kernel_rfl
theorem ckf1 (w : World) : (Instr.findKey 46 (.agg #[.int .i64 4, .int .i64 0]) (boxE.take 1)).run Tryz.prog w = .ok none w := by kernel_rfl
theorem lookb1 {w : World} {r : Nat} (h : MapAt w r (boxE.take 1) 1) : (Instr.lookup 519 (.map (some r)) (.agg #[.int .i64 4, .int .i64 0]) true).run Tryz.prog w = .ok (.tuple #[.agg #[], .bool false]) w := look_miss h Tryz.underlying519 ckl1 ckf1 zero_unit
theorem updb1 {w : World} {r : Nat} (h : MapAt w r (boxE.take 1) 1) : ∃ w', (Instr.mapUpdate 519 (.map (some r)) (.agg #[.int .i64 4, .int .i64 0]) (.agg #[])).run Tryz.prog w = .ok () w' ∧ MapAt w' r (boxE.take 2) 2 ∧ w.grownBy w' (some r) := upd_new h Tryz.underlying519 cku1 ckf1
theorem ckl2 (w : World) : (Instr.checkKey (boxE.take 2).isEmpty 10000 46 (.agg #[.int .i64 4, .int .i64 4])).run Tryz.prog w = .ok () w := by kernel_rfl
theorem cku2 (w : World) : (Instr.checkKey false 10000 46 (.agg #[.int .i64 4, .int .i64 4])).run Tryz.prog w = .ok () w := by kernel_rfl
theorem ckf2 (w : World) : (Instr.findKey 46 (.agg #[.int .i64 4, .int .i64 4]) (boxE.take 2)).run Tryz.prog w = .ok none w := by kernel_rfl
theorem lookb2 {w : World} {r : Nat} (h : MapAt w r (boxE.take 2) 2) : (Instr.lookup 519 (.map (some r)) (.agg #[.int .i64 4, .int .i64 4]) true).run Tryz.prog w = .ok (.tuple #[.agg #[], .bool false]) w := look_miss h Tryz.underlying519 ckl2 ckf2 zero_unit
theorem updb2 {w : World} {r : Nat} (h : MapAt w r (boxE.take 2) 2) : ∃ w', (Instr.mapUpdate 519 (.map (some r)) (.agg #[.int .i64 4, .int .i64 4]) (.agg #[])).run Tryz.prog w = .ok () w' ∧ MapAt w' r (boxE.take 3) 3 ∧ w.grownBy w' (some r) := upd_new h Tryz.underlying519 cku2 ckf2
theorem ckl3 (w : World) : (Instr.checkKey (boxE.take 3).isEmpty 10000 46 (.agg #[.int .i64 0, .int .i64 4])).run Tryz.prog w = .ok () w := by kernel_rfl
theorem cku3 (w : World) : (Instr.checkKey false 10000 46 (.agg #[.int .i64 0, .int .i64 4])).run Tryz.prog w = .ok () w := by kernel_rfl
theorem ckf3 (w : World) : (Instr.findKey 46 (.agg #[.int .i64 0, .int .i64 4]) (boxE.take 3)).run Tryz.prog w = .ok none w := by kernel_rfl
theorem lookb3 {w : World} {r : Nat} (h : MapAt w r (boxE.take 3) 3) : (Instr.lookup 519 (.map (some r)) (.agg #[.int .i64 0, .int .i64 4]) true).run Tryz.prog w = .ok (.tuple #[.agg #[], .bool false]) w := look_miss h Tryz.underlying519 ckl3 ckf3 zero_unit
theorem updb3 {w : World} {r : Nat} (h : MapAt w r (boxE.take 3) 3) : ∃ w', (Instr.mapUpdate 519 (.map (some r)) (.agg #[.int .i64 0, .int .i64 4]) (.agg #[])).run Tryz.prog w = .ok () w' ∧ MapAt w' r (boxE.take 4) 4 ∧ w.grownBy w' (some r) := upd_new h Tryz.underlying519 cku3 ckf3
theorem runlike_box (b c : Nat) (w : World) (h : Has w b boxC) : Calls Tryz.prog 298 #[.slice (some ⟨b, 0, none⟩) 4 c] w fun e w' => e = .returned (.tuple #[.agg #[.int .i64 0, .int .i64 0], .bool false]) ∧ Below w.heap.size w w' := by
  have hmm := @run_makeMap Tryz.prog
  have hl := h.lt
  go_enter Tryz.func298, Tryz.ntmps298
  go_wp2_with fail
  go_loopw [12] (fun i wr => ∃ j : Nat, j ≤ 4 ∧ i = .int .i64 j ∧ MapAt wr (w.heap.size + 1) (boxE.take j) j ∧ Has wr b boxC ∧ Block wr w.heap.size 194 [.int .i64 0, .int .i64 0] ∧ Below w.heap.size w wr) (fun i _ => 4 - (intOf i).toNat)
  case atStart => exact ⟨0, by omega, rfl, MapAt.top (by simp), by exact sHas, by exact sBlk, by exact sBel⟩
  case round =>
    obtain ⟨j, hj, rfl, hM, hH, hF, bel⟩ := hrel
    have kl := hH.lt; have k0 := hH.cell (j := 0) rfl; have k1 := hH.cell (j := 1) rfl; have k2 := hH.cell (j := 2) rfl; have k3 := hH.cell (j := 3) rfl; have k4 := hH.cell (j := 4) rfl; have k5 := hH.cell (j := 5) rfl; have k6 := hH.cell (j := 6) rfl; have k7 := hH.cell (j := 7) rfl
    have hz := bel.size
    have ne1 : ¬ b = w.heap.size + 1 := by omega
    rcases (by omega : j = 0 ∨ j = 1 ∨ j = 2 ∨ j = 3 ∨ j = 4) with rfl | rfl | rfl | rfl | rfl
    · go_wp2_with (first
        | (at_lookup; refine wpList_lookup_eq rfl rfl rfl rfl (lookb0 (by exact sMapf)) ?_)
        | (at_mapUpdate; refine wpList_update_ex _ rfl rfl rfl rfl rfl (updb0 (by exact sMapf)) ?_; rintro w' ⟨hM', hG'⟩))
      go_roundw
      case rel => exact ⟨1, by omega, rfl, hM', Has.grown (by exact sHas) hG' (by simpa using ne1), Block.grown (by exact sBlk) hG' (by simp), bel_grown (by exact sBel) hG' (fun k hk => by cases hk; omega)⟩
      case measure => simp [intOf]
    · go_wp2_with (first
        | (at_lookup; refine wpList_lookup_eq rfl rfl rfl rfl (lookb1 (by exact sMapf)) ?_)
        | (at_mapUpdate; refine wpList_update_ex _ rfl rfl rfl rfl rfl (updb1 (by exact sMapf)) ?_; rintro w' ⟨hM', hG'⟩))
      go_roundw
      case rel => exact ⟨2, by omega, rfl, hM', Has.grown (by exact sHas) hG' (by simpa using ne1), Block.grown (by exact sBlk) hG' (by simp), bel_grown (by exact sBel) hG' (fun k hk => by cases hk; omega)⟩
      case measure => simp [intOf]
    · go_wp2_with (first
        | (at_lookup; refine wpList_lookup_eq rfl rfl rfl rfl (lookb2 (by exact sMapf)) ?_)
        | (at_mapUpdate; refine wpList_update_ex _ rfl rfl rfl rfl rfl (updb2 (by exact sMapf)) ?_; rintro w' ⟨hM', hG'⟩))
      go_roundw
      case rel => exact ⟨3, by omega, rfl, hM', Has.grown (by exact sHas) hG' (by simpa using ne1), Block.grown (by exact sBlk) hG' (by simp), bel_grown (by exact sBel) hG' (fun k hk => by cases hk; omega)⟩
      case measure => simp [intOf]
    · go_wp2_with (first
        | (at_lookup; refine wpList_lookup_eq rfl rfl rfl rfl (lookb3 (by exact sMapf)) ?_)
        | (at_mapUpdate; refine wpList_update_ex _ rfl rfl rfl rfl rfl (updb3 (by exact sMapf)) ?_; rintro w' ⟨hM', hG'⟩))
      go_roundw
      case rel => exact ⟨4, by omega, rfl, hM', Has.grown (by exact sHas) hG' (by simpa using ne1), Block.grown (by exact sBlk) hG' (by simp), bel_grown (by exact sBel) hG' (fun k hk => by cases hk; omega)⟩
      case measure => simp [intOf]
    · obtain ⟨fl, ff, f0, f1⟩ := hF.c2
      go_wp2_with fail
      exact ret_ct (T := 194) rfl rfl rfl ((hF.set 0 (.int .i64 0)).set 1 (.int .i64 0)) agg_fl size_fl ⟨rfl, by exact sBel⟩
theorem rat_box (b c : Nat) (i x y : Int) (w : World) (h : Has w b boxC) (hi : (i, x, y) ∈ [((-1 : Int), (0 : Int), (4 : Int)), (0, 0, 0), (1, 4, 0), (2, 4, 4), (3, 0, 4), (4, 0, 0)]) : Calls Tryz.prog 341 #[.slice (some ⟨b, 0, none⟩) 4 c, .int .i64 i] w fun e w' => e = .returned (.agg #[.int .i64 x, .int .i64 y]) ∧ Below w.heap.size w w' := by
  have kl := h.lt; have k0 := h.cell (j := 0) rfl; have k1 := h.cell (j := 1) rfl; have k2 := h.cell (j := 2) rfl; have k3 := h.cell (j := 3) rfl; have k4 := h.cell (j := 4) rfl; have k5 := h.cell (j := 5) rfl; have k6 := h.cell (j := 6) rfl; have k7 := h.cell (j := 7) rfl
  simp only [List.mem_cons, Prod.mk.injEq, List.not_mem_nil, or_false] at hi
  rcases hi with ⟨rfl, rfl, rfl⟩ | ⟨rfl, rfl, rfl⟩ | ⟨rfl, rfl, rfl⟩ | ⟨rfl, rfl, rfl⟩ | ⟨rfl, rfl, rfl⟩ | ⟨rfl, rfl, rfl⟩
  all_goals
    go_enter Tryz.func341, Tryz.ntmps341
    go_wp2
    go_returns
    exact ⟨rfl, by exact sBel⟩
end Go.Proofs.YthmhdaefkhcenaaGreatDoor
namespace Go.Proofs.YthmhdaefkhcenaaGreatDoor
open Go.RowKit

set_option maxRecDepth 100000 in
set_option maxHeartbeats 8000000 in
theorem rahead_box (b c : Nat) (w : World) (h : Has w b boxC) : Calls Tryz.prog 299 #[.slice (some ⟨b, 0, none⟩) 4 c] w fun e w' => e = .returned (.tuple #[.agg #[.int .i64 0, .int .i64 0], .bool false]) ∧ Below w.heap.size w w' := by
  have hl := h.lt
  have t0 := turn_040040
  have t1 := turn_004044
  have t2 := turn_404404
  have t3 := turn_440400
  go_enter Tryz.func299, Tryz.ntmps299
  go_wp2_with fail
  go_loopw [10] (fun i wr => ∃ j : Nat, j ≤ 4 ∧ i = .int .i64 j ∧ Has wr b boxC ∧ Block wr w.heap.size 194 [.int .i64 0, .int .i64 0] ∧ Below w.heap.size w wr) (fun i _ => 4 - (intOf i).toNat)
  case atStart => exact ⟨0, by omega, rfl, by exact sHas, by exact sBlk, by exact sBel⟩
  case round =>
    obtain ⟨j, hj, rfl, hH, hF, bel⟩ := hrel
    have kl := hH.lt; have k0 := hH.cell (j := 0) rfl; have k1 := hH.cell (j := 1) rfl; have k2 := hH.cell (j := 2) rfl; have k3 := hH.cell (j := 3) rfl; have k4 := hH.cell (j := 4) rfl; have k5 := hH.cell (j := 5) rfl; have k6 := hH.cell (j := 6) rfl; have k7 := hH.cell (j := 7) rfl
    have hz := bel.size
    rcases (by omega : j = 0 ∨ j = 1 ∨ j = 2 ∨ j = 3 ∨ j = 4) with rfl | rfl | rfl | rfl | rfl
    · go_wp2_with fail
      refine (rat_box b c (-1) 0 4 _ (by exact sHas) (by simp)).mono ?_
      rintro e w1 ⟨rfl, hb1⟩
      have bel1 : Below w.heap.size w w1 := bel_call (by exact sBel) hb1
      have hH1 : Has w1 b boxC := by exact sHas
      have hF1 : Block w1 w.heap.size 194 [.int .i64 0, .int .i64 0] := by exact sBlk
      have hP1 : Block w1 wr.heap.size 46 [.int .i64 0, .int .i64 0] := by exact sBlk
      clear k0 k1 k2 k3 k4 k5 k6 k7
      go_wp2_with fail
      refine (rat_box b c 1 4 0 _ (by exact sHas) (by simp)).mono ?_
      rintro e w2 ⟨rfl, hb2⟩
      have bel2 : Below w.heap.size w w2 := bel_call (by exact sBel) hb2
      have hH2 : Has w2 b boxC := by exact sHas
      have hF2 : Block w2 w.heap.size 194 [.int .i64 0, .int .i64 0] := by exact sBlk
      have hP2 : Block w2 wr.heap.size 46 [.int .i64 0, .int .i64 0] := by exact sBlk
      obtain ⟨pl, pf, p0, p1⟩ := hP2.c2
      have hzz := hb2.size
      go_wp2_with fail
      refine (t0 _).mono ?_
      rintro e w3 ⟨rfl, hb3⟩
      go_wp2_with fail
      go_roundw
      case rel => exact ⟨1, by omega, rfl, Has.call (by exact sHas) hb3, Block.call (by exact sBlk) hb3, bel_call (by exact sBel) hb3⟩
      case measure => simp [intOf]
    · go_wp2_with fail
      refine (rat_box b c (0) 0 0 _ (by exact sHas) (by simp)).mono ?_
      rintro e w1 ⟨rfl, hb1⟩
      have bel1 : Below w.heap.size w w1 := bel_call (by exact sBel) hb1
      have hH1 : Has w1 b boxC := by exact sHas
      have hF1 : Block w1 w.heap.size 194 [.int .i64 0, .int .i64 0] := by exact sBlk
      have hP1 : Block w1 wr.heap.size 46 [.int .i64 4, .int .i64 0] := by exact sBlk
      clear k0 k1 k2 k3 k4 k5 k6 k7
      go_wp2_with fail
      refine (rat_box b c 2 4 4 _ (by exact sHas) (by simp)).mono ?_
      rintro e w2 ⟨rfl, hb2⟩
      have bel2 : Below w.heap.size w w2 := bel_call (by exact sBel) hb2
      have hH2 : Has w2 b boxC := by exact sHas
      have hF2 : Block w2 w.heap.size 194 [.int .i64 0, .int .i64 0] := by exact sBlk
      have hP2 : Block w2 wr.heap.size 46 [.int .i64 4, .int .i64 0] := by exact sBlk
      obtain ⟨pl, pf, p0, p1⟩ := hP2.c2
      have hzz := hb2.size
      go_wp2_with fail
      refine (t1 _).mono ?_
      rintro e w3 ⟨rfl, hb3⟩
      go_wp2_with fail
      go_roundw
      case rel => exact ⟨2, by omega, rfl, Has.call (by exact sHas) hb3, Block.call (by exact sBlk) hb3, bel_call (by exact sBel) hb3⟩
      case measure => simp [intOf]
    · go_wp2_with fail
      refine (rat_box b c (1) 4 0 _ (by exact sHas) (by simp)).mono ?_
      rintro e w1 ⟨rfl, hb1⟩
      have bel1 : Below w.heap.size w w1 := bel_call (by exact sBel) hb1
      have hH1 : Has w1 b boxC := by exact sHas
      have hF1 : Block w1 w.heap.size 194 [.int .i64 0, .int .i64 0] := by exact sBlk
      have hP1 : Block w1 wr.heap.size 46 [.int .i64 4, .int .i64 4] := by exact sBlk
      clear k0 k1 k2 k3 k4 k5 k6 k7
      go_wp2_with fail
      refine (rat_box b c 3 0 4 _ (by exact sHas) (by simp)).mono ?_
      rintro e w2 ⟨rfl, hb2⟩
      have bel2 : Below w.heap.size w w2 := bel_call (by exact sBel) hb2
      have hH2 : Has w2 b boxC := by exact sHas
      have hF2 : Block w2 w.heap.size 194 [.int .i64 0, .int .i64 0] := by exact sBlk
      have hP2 : Block w2 wr.heap.size 46 [.int .i64 4, .int .i64 4] := by exact sBlk
      obtain ⟨pl, pf, p0, p1⟩ := hP2.c2
      have hzz := hb2.size
      go_wp2_with fail
      refine (t2 _).mono ?_
      rintro e w3 ⟨rfl, hb3⟩
      go_wp2_with fail
      go_roundw
      case rel => exact ⟨3, by omega, rfl, Has.call (by exact sHas) hb3, Block.call (by exact sBlk) hb3, bel_call (by exact sBel) hb3⟩
      case measure => simp [intOf]
    · go_wp2_with fail
      refine (rat_box b c (2) 4 4 _ (by exact sHas) (by simp)).mono ?_
      rintro e w1 ⟨rfl, hb1⟩
      have bel1 : Below w.heap.size w w1 := bel_call (by exact sBel) hb1
      have hH1 : Has w1 b boxC := by exact sHas
      have hF1 : Block w1 w.heap.size 194 [.int .i64 0, .int .i64 0] := by exact sBlk
      have hP1 : Block w1 wr.heap.size 46 [.int .i64 0, .int .i64 4] := by exact sBlk
      clear k0 k1 k2 k3 k4 k5 k6 k7
      go_wp2_with fail
      refine (rat_box b c 4 0 0 _ (by exact sHas) (by simp)).mono ?_
      rintro e w2 ⟨rfl, hb2⟩
      have bel2 : Below w.heap.size w w2 := bel_call (by exact sBel) hb2
      have hH2 : Has w2 b boxC := by exact sHas
      have hF2 : Block w2 w.heap.size 194 [.int .i64 0, .int .i64 0] := by exact sBlk
      have hP2 : Block w2 wr.heap.size 46 [.int .i64 0, .int .i64 4] := by exact sBlk
      obtain ⟨pl, pf, p0, p1⟩ := hP2.c2
      have hzz := hb2.size
      go_wp2_with fail
      refine (t3 _).mono ?_
      rintro e w3 ⟨rfl, hb3⟩
      go_wp2_with fail
      go_roundw
      case rel => exact ⟨4, by omega, rfl, Has.call (by exact sHas) hb3, Block.call (by exact sBlk) hb3, bel_call (by exact sBel) hb3⟩
      case measure => simp [intOf]
    · obtain ⟨fl, ff, f0, f1⟩ := hF.c2
      go_wp2_with fail
      exact ret_ct (T := 194) rfl rfl rfl ((hF.set 0 (.int .i64 0)).set 1 (.int .i64 0)) agg_fl size_fl ⟨rfl, by exact sBel⟩
end Go.Proofs.YthmhdaefkhcenaaGreatDoor
namespace Go.Proofs.YthmhdaefkhcenaaGreatDoor
open Go.RowKit

def okF : Value := .agg #[.int .i64 0, .int .i64 0]
def ApartOk : Prop := ∀ (b c : Nat) (w : World), Has w b boxC → Calls Tryz.prog 300 #[.slice (some ⟨b, 0, none⟩) 4 c] w fun e w' => e = .returned (.tuple #[.agg #[.int .i64 0, .int .i64 0], .bool false]) ∧ Below w.heap.size w w'
def looksC : List Value := [.func (.func 296) #[] #[], .func (.func 297) #[] #[], .func (.func 298) #[] #[], .func (.func 299) #[] #[], .func (.func 300) #[] #[]]
set_option maxRecDepth 100000 in
set_option maxHeartbeats 8000000 in
theorem rcheck_box (hap : ApartOk) (b c : Nat) (w : World) (h : Has w b boxC) :
    Calls Tryz.prog 251 #[.slice (some ⟨b, 0, none⟩) 4 c] w fun e w' => e = .returned (.agg #[.int .i64 0, .int .i64 0]) ∧ Below w.heap.size w w' := by
  have hl := h.lt
  go_enter Tryz.func251, Tryz.ntmps251
  go_wp2_with fail
  refine at_code (fun W => Below w.heap.size w W ∧ Has W b boxC ∧ Block W w.heap.size 194 [.int .i64 0, .int .i64 0] ∧ Block W (w.heap.size + 1) 464 looksC) ⟨by exact sBel, by exact sHas, by exact sBlk, btop (by simp)⟩ ?_
  rintro W0 ⟨bel0, H0, A0, B0⟩
  refine wp_loop_rounds 6 ?_
  rw [rounds_succ]
  have B : Block W0 (w.heap.size + 1) _ [.func (.func 296) #[] #[], .func (.func 297) #[] #[], .func (.func 298) #[] #[], .func (.func 299) #[] #[], .func (.func 300) #[] #[]] := B0
  obtain ⟨kl, kf, k0, k1, k2, k3, k4⟩ := B.c5
  go_wp2_with fail
  refine (rsize_box b c _).mono ?_
  rintro e V0 ⟨rfl, hb1⟩
  clear k0 k1 k2 k3 k4 kl kf B
  have bel1 : Below w.heap.size w V0 := bel_call (by exact sBel) hb1
  have H1 : Has V0 b boxC := by exact sHas
  have A1 : Block V0 w.heap.size 194 [.int .i64 0, .int .i64 0] := by exact sBlk
  have B1 : Block V0 (w.heap.size + 1) 464 looksC := by exact sBlk
  clear hb1
  go_wp2_with fail
  refine at_code (fun W => Below w.heap.size w W ∧ Has W b boxC ∧ Block W w.heap.size 194 [.int .i64 0, .int .i64 0] ∧ Block W (w.heap.size + 1) 464 looksC) ⟨by exact sBel, by exact sHas, by exact sBlk, by exact sBlk⟩ ?_
  clear bel1 H1 A1 B1
  rintro W1 ⟨bel1, H1, A1, B1⟩
  have B : Block W1 (w.heap.size + 1) _ [.func (.func 296) #[] #[], .func (.func 297) #[] #[], .func (.func 298) #[] #[], .func (.func 299) #[] #[], .func (.func 300) #[] #[]] := B1
  obtain ⟨kl, kf, k0, k1, k2, k3, k4⟩ := B.c5
  go_wp2_with fail
  refine (rvalid_box b c _ (by exact sHas)).mono ?_
  rintro e V1 ⟨rfl, hb1⟩
  clear k0 k1 k2 k3 k4 kl kf B
  have bel2 : Below w.heap.size w V1 := bel_call (by exact sBel) hb1
  have H2 : Has V1 b boxC := by exact sHas
  have A2 : Block V1 w.heap.size 194 [.int .i64 0, .int .i64 0] := by exact sBlk
  have B2 : Block V1 (w.heap.size + 1) 464 looksC := by exact sBlk
  clear hb1
  go_wp2_with fail
  refine at_code (fun W => Below w.heap.size w W ∧ Has W b boxC ∧ Block W w.heap.size 194 [.int .i64 0, .int .i64 0] ∧ Block W (w.heap.size + 1) 464 looksC) ⟨by exact sBel, by exact sHas, by exact sBlk, by exact sBlk⟩ ?_
  clear bel2 H2 A2 B2
  rintro W2 ⟨bel2, H2, A2, B2⟩
  have B : Block W2 (w.heap.size + 1) _ [.func (.func 296) #[] #[], .func (.func 297) #[] #[], .func (.func 298) #[] #[], .func (.func 299) #[] #[], .func (.func 300) #[] #[]] := B2
  obtain ⟨kl, kf, k0, k1, k2, k3, k4⟩ := B.c5
  go_wp2_with fail
  refine (runlike_box b c _ (by exact sHas)).mono ?_
  rintro e V2 ⟨rfl, hb1⟩
  clear k0 k1 k2 k3 k4 kl kf B
  have bel3 : Below w.heap.size w V2 := bel_call (by exact sBel) hb1
  have H3 : Has V2 b boxC := by exact sHas
  have A3 : Block V2 w.heap.size 194 [.int .i64 0, .int .i64 0] := by exact sBlk
  have B3 : Block V2 (w.heap.size + 1) 464 looksC := by exact sBlk
  clear hb1
  go_wp2_with fail
  refine at_code (fun W => Below w.heap.size w W ∧ Has W b boxC ∧ Block W w.heap.size 194 [.int .i64 0, .int .i64 0] ∧ Block W (w.heap.size + 1) 464 looksC) ⟨by exact sBel, by exact sHas, by exact sBlk, by exact sBlk⟩ ?_
  clear bel3 H3 A3 B3
  rintro W3 ⟨bel3, H3, A3, B3⟩
  have B : Block W3 (w.heap.size + 1) _ [.func (.func 296) #[] #[], .func (.func 297) #[] #[], .func (.func 298) #[] #[], .func (.func 299) #[] #[], .func (.func 300) #[] #[]] := B3
  obtain ⟨kl, kf, k0, k1, k2, k3, k4⟩ := B.c5
  go_wp2_with fail
  refine (rahead_box b c _ (by exact sHas)).mono ?_
  rintro e V3 ⟨rfl, hb1⟩
  clear k0 k1 k2 k3 k4 kl kf B
  have bel4 : Below w.heap.size w V3 := bel_call (by exact sBel) hb1
  have H4 : Has V3 b boxC := by exact sHas
  have A4 : Block V3 w.heap.size 194 [.int .i64 0, .int .i64 0] := by exact sBlk
  have B4 : Block V3 (w.heap.size + 1) 464 looksC := by exact sBlk
  clear hb1
  go_wp2_with fail
  refine at_code (fun W => Below w.heap.size w W ∧ Has W b boxC ∧ Block W w.heap.size 194 [.int .i64 0, .int .i64 0] ∧ Block W (w.heap.size + 1) 464 looksC) ⟨by exact sBel, by exact sHas, by exact sBlk, by exact sBlk⟩ ?_
  clear bel4 H4 A4 B4
  rintro W4 ⟨bel4, H4, A4, B4⟩
  have B : Block W4 (w.heap.size + 1) _ [.func (.func 296) #[] #[], .func (.func 297) #[] #[], .func (.func 298) #[] #[], .func (.func 299) #[] #[], .func (.func 300) #[] #[]] := B4
  obtain ⟨kl, kf, k0, k1, k2, k3, k4⟩ := B.c5
  go_wp2_with fail
  refine (hap b c _ (by exact sHas)).mono ?_
  rintro e V4 ⟨rfl, hb1⟩
  clear k0 k1 k2 k3 k4 kl kf B
  have bel5 : Below w.heap.size w V4 := bel_call (by exact sBel) hb1
  have H5 : Has V4 b boxC := by exact sHas
  have A5 : Block V4 w.heap.size 194 [.int .i64 0, .int .i64 0] := by exact sBlk
  have B5 : Block V4 (w.heap.size + 1) 464 looksC := by exact sBlk
  clear hb1
  go_wp2_with fail
  refine at_code (fun W => Below w.heap.size w W ∧ Has W b boxC ∧ Block W w.heap.size 194 [.int .i64 0, .int .i64 0] ∧ Block W (w.heap.size + 1) 464 looksC) ⟨by exact sBel, by exact sHas, by exact sBlk, by exact sBlk⟩ ?_
  clear bel5 H5 A5 B5
  rintro W5 ⟨bel5, H5, A5, B5⟩
  obtain ⟨fl, ff, f0, f1⟩ := A5.c2
  go_wp2_with fail
  exact ret_c (T := 194) rfl rfl rfl ((A5.set 0 (.int .i64 0)).set 1 (.int .i64 0)) agg_fl size_fl ⟨rfl, by exact sBel⟩
end Go.Proofs.YthmhdaefkhcenaaGreatDoor
namespace Go.Proofs.YthmhdaefkhcenaaGreatDoor
set_option maxRecDepth 100000
set_option maxHeartbeats 8000000
open Go.RowKit

theorem gsize_box (rb rc b c : Nat) (w : World) (hr : Has w rb [.slice (some ⟨b, 0, none⟩) 4 c]) :
    Calls Tryz.prog 250 #[.agg #[.slice (some ⟨rb, 0, none⟩) 1 rc]] w fun e w' => e = .returned (.int .i64 0) ∧ Below w.heap.size w w' := by
  have kl := hr.lt; have k0 := hr.cell (j := 0) rfl
  go_enter Tryz.func250, Tryz.ntmps250
  go_wp2
  (repeat (first | (rw [rounds_succ]; go_wp2) | (refine wp_loop_rounds 3 ?_; rw [rounds_succ]; go_wp2) | (go_quiet (fail); go_wp2)))
  go_returns
  exact ⟨rfl, by exact sBel⟩
theorem size_pts (w : World) : (sizeOf 82).run Tryz.prog w = .ok 1 w := by kernel_rfl
theorem gcheck_box (hap : ApartOk) (rb rc b c : Nat) (w : World) (hc : 1 ≤ rc) (hr : Has w rb [.slice (some ⟨b, 0, none⟩) 4 c]) (h : Has w b boxC) :
    Calls Tryz.prog 192 #[.agg #[.slice (some ⟨rb, 0, none⟩) 1 rc]] w fun e w' => e = .returned (.agg #[.int .i64 0, .int .i64 0]) ∧ Below w.heap.size w w' := by
  obtain ⟨A2, hsl, _⟩ := cut_from (P := Tryz.prog) (T := 37) (E := 82) 1 Tryz.underlying37 size_pts (some ⟨rb, 0, none⟩) 1 rc 1 (by omega) hc
  have hs1 : ∀ w, (Instr.slice 37 (.slice (some ⟨rb, 0, none⟩) 1 rc) (some (.int .i64 1)) none none).run Tryz.prog w = .ok (.slice A2 0 (rc - 1)) w := hsl
  clear hsl
  have hmf : ∀ (fn : Fn) (first cap : Array Value) (w : World), (Instr.makeFunc fn first cap).run Tryz.prog w = .ok (.func fn first cap) w := fun _ _ _ _ => rfl
  have hl1 := hr.lt
  have hl2 := h.lt
  go_enter Tryz.func192, Tryz.ntmps192
  go_wp2_with fail
  refine at_world (fun W => Below w.heap.size w W ∧ Has W rb [.slice (some ⟨b, 0, none⟩) 4 c] ∧ Has W b boxC ∧ Block W w.heap.size 39 [.slice (some ⟨rb, 0, none⟩) 1 rc] ∧ Block W (w.heap.size + 1) 194 [.int .i64 0, .int .i64 0]) ⟨by exact sBel, by exact sHas, by exact sHas, by exact sBlk, by exact sBlk⟩ ?_
  rintro W ⟨bel0, R0, H0, A0, B0⟩
  refine (gsize_box rb rc b c _ (by exact sHas)).mono ?_
  rintro e W1 ⟨rfl, hb1⟩
  have bel1 := bel_call bel0 hb1
  replace R0 := R0.call hb1
  replace H0 := H0.call hb1
  replace A0 := A0.call hb1
  replace B0 := B0.call hb1
  obtain ⟨al, af, a0⟩ := A0.c1
  have rl := R0.lt; have r0 := R0.cell (j := 0) rfl
  go_wp2_with fail
  refine wp_loop_rounds 2 ?_
  rw [rounds_succ]
  go_wp2_with fail
  refine (rcheck_box hap b c _ (by exact sHas)).mono ?_
  rintro e W2 ⟨rfl, hb2⟩
  clear a0 al af r0 rl
  have bel2 := bel_call bel1 hb2
  replace R0 := R0.call hb2
  replace H0 := H0.call hb2
  replace A0 := A0.call hb2
  replace B0 := B0.call hb2
  obtain ⟨al, af, a0⟩ := A0.c1
  have rl := R0.lt; have r0 := R0.cell (j := 0) rfl
  go_wp2_with fail
  rw [rounds_succ]
  go_wp2_with fail
  refine wp_loop_rounds 2 ?_
  rw [rounds_succ]
  go_wp2
  refine wp_loop_rounds 1 ?_
  rw [rounds_succ]
  go_wp2
  refine at_code (fun W => Below w.heap.size w W ∧ Block W (w.heap.size + 1) 194 [.int .i64 0, .int .i64 0]) ⟨by exact sBel, by exact sBlk⟩ ?_
  rintro W3 ⟨bel3, B3⟩
  obtain ⟨fl, ff, f0, f1⟩ := B3.c2
  go_wp2
  exact ret_c (T := 194) rfl rfl rfl ((B3.set 0 (.int .i64 0)).set 1 (.int .i64 0)) agg_fl size_fl ⟨rfl, by exact sBel⟩
end Go.Proofs.YthmhdaefkhcenaaGreatDoor
