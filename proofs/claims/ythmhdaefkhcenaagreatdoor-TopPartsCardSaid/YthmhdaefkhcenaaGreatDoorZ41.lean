/- Lemmas for it; no condition: TSlab2 TTax. -/
import Derived.Test.YthmhdaefkhcenaaGreatDoorZ08
import Derived.Test.YthmhdaefkhcenaaGreatDoorZ24
import Derived.Test.YthmhdaefkhcenaaGreatDoorZ30
import Derived.Test.YthmhdaefkhcenaaGreatDoorZ36
import Derived.Test.YthmhdaefkhcenaaGreatDoorZ37
import Derived.Test.YthmhdaefkhcenaaGreatDoorZ40
import Derived.Laws.LoneSync
set_option linter.unusedVariables false
set_option linter.unusedSimpArgs false
namespace Go.Proofs.YthmhdaefkhcenaaGreatDoor
open Go.RowKit

theorem info_i64 : (Tryz.prog.info? 3).map (fun i => (i.zero, i.size, i.bytes)) = some (some (.int .i64 0), 1, 8) := by kernel_rfl
theorem one_i64 (l : List Int) : ∀ u ∈ l.map (Value.int .i64), u.oneCell' = true := by
  intro u hu
  rw [List.mem_map] at hu
  obtain ⟨x, _, rfl⟩ := hu
  rfl
structure SlabAt (w : World) (rb rc S : Nat) (sl : List Value) (W : World) : Prop where
  bel : Below w.heap.size w W
  reg : Block W w.heap.size 39 [.slice (some ⟨rb, 0, none⟩) 1 rc]
  flt : Block W (w.heap.size + 1) 194 [.int .i64 0, .int .i64 0]
  str : Block W S 537 sl
theorem SlabAt.call {w W W' : World} {rb rc S : Nat} {sl : List Value} (h : SlabAt w rb rc S sl W) (hb : Below W.heap.size W W') : SlabAt w rb rc S sl W' :=
  ⟨bel_call h.bel hb, h.reg.call hb, h.flt.call hb, h.str.call hb⟩
theorem SlabAt.grown {w W W' : World} {rb rc S : Nat} {sl : List Value} (h : SlabAt w rb rc S sl W) {row : Option Nat} (hg : W.grownBy W' row) (hr : ∀ k, row = some k → S < k) (hS : w.heap.size + 1 < S) : SlabAt w rb rc S sl W' :=
  ⟨bel_grown h.bel hg fun k hk => by have := hr k hk; omega, h.reg.grown hg fun e => by have := hr _ e.symm; omega, h.flt.grown hg fun e => by have := hr _ e.symm; omega, h.str.grown hg fun e => by have := hr _ e.symm; omega⟩
theorem SlabAt.set {w W : World} {rb rc S : Nat} {sl : List Value} (h : SlabAt w rb rc S sl W) (hS : w.heap.size + 1 < S) (i : Nat) (v : Value) : SlabAt w rb rc S (sl.set i v) (W.setCell ⟨S, i, none⟩ v) :=
  ⟨bel_set h.bel (by simp; omega) _, h.reg.far (by simp; omega) _, h.flt.far (by simp; omega) _, h.str.set i v⟩
set_option maxRecDepth 100000 in
set_option maxHeartbeats 8000000 in
theorem build_slab (rb rc b c : Nat) (w : World) (hrc : 1 ≤ rc) (hr : Has w rb [.slice (some ⟨b, 0, none⟩) 4 c]) (h : Has w b boxC) :
    Calls Tryz.prog 313 #[.agg #[.slice (some ⟨rb, 0, none⟩) 1 rc]] w fun e w' => ∃ S, e = .returned (.tuple #[.pointer (some ⟨S, 0, none⟩), .agg #[.int .i64 0, .int .i64 0]]) ∧ w.heap.size ≤ S ∧ SlabsOk w' S ∧ Below w.heap.size w w' := by
  have hl := h.lt
  have hrl := hr.lt
  go_enter Tryz.func313, Tryz.ntmps313
  go_wp2_with fail
  refine (gcheck_box apart_ok rb rc b c _ hrc (by exact sHas) (by exact sHas)).mono ?_
  rintro e w1 ⟨rfl, hb1⟩
  have bel1 : Below w.heap.size w w1 := bel_call (by exact sBel) hb1
  have R1 : Block w1 w.heap.size 39 [.slice (some ⟨rb, 0, none⟩) 1 rc] := by exact sBlk
  have F1 : Block w1 (w.heap.size + 1) 194 [.int .i64 0, .int .i64 0] := by exact sBlk
  have hs1 := F1.lt
  have R2 := R1
  obtain ⟨rl, rf, r0⟩ := R2.c1
  have hr1 := hr.call bel1
  have ql := hr1.lt; have q0 := hr1.cell (j := 0) rfl
  go_wp2_with fail
  refine wp_loop_rounds 2 ?_
  rw [rounds_succ]
  go_wp2_with fail
  refine wp_loop_rounds 5 ?_
  rw [rounds_succ]
  refine at_code (fun W => SlabAt w rb rc (w1.heap.size + 1) [.bool true, .slice none 0 0, .slice none 0 0, .slice none 0 0] W) ⟨by exact sBel, by exact sBlk, by exact sBlk, by exact sBlk⟩ ?_
  clear r0 rl rf q0 ql R2
  obtain ⟨S, hSd⟩ : ∃ S, w1.heap.size + 1 = S := ⟨_, rfl⟩
  rw [hSd]
  have hS : w.heap.size + 1 < S := by omega
  rintro W0 A0
  have B0 := A0.str
  obtain ⟨sl, sf, s0, s1, s2, s3⟩ := B0.c4
  have hp0 := h.call A0.bel
  have al := hp0.lt; have a0 := hp0.cell (j := 0) rfl; have a1 := hp0.cell (j := 1) rfl; have a2 := hp0.cell (j := 2) rfl; have a3 := hp0.cell (j := 3) rfl; have a4 := hp0.cell (j := 4) rfl; have a5 := hp0.cell (j := 5) rfl; have a6 := hp0.cell (j := 6) rfl; have a7 := hp0.cell (j := 7) rfl
  have past_S := past_alloc S; have pastf_S := pastf_alloc S; have pl1_S : S < W0.heap.size + 1 := (by omega); have pl2_S : S < W0.heap.size + 1 + 1 := (by omega); have pl3_S : S < W0.heap.size + 1 + 1 + 1 := (by omega)
  go_wp2_with fail
  refine AnyBut.region (S := fun w' => w'.cell? ⟨S, 1, none⟩ = some (.slice none 0 0) ∧ w'.cell? ⟨W0.heap.size, 1, none⟩ = some (.int .i64 0)) (t := 11) 12 rfl (by kernel_rfl) ?_ ?_
  · refine ⟨?_, ?_⟩ <;> go_simp
  intro hS
  refine AnyBut.tk 0 hS rfl (h := ?_); refine AnyBut.tk 1 hS rfl (h := ?_); refine AnyBut.tk 2 hS rfl (h := ?_); refine AnyBut.tk 3 hS rfl (h := ?_); refine AnyBut.tk 4 hS rfl (h := ?_); refine AnyBut.tk 5 hS rfl (h := ?_); refine AnyBut.tk 6 hS rfl (h := ?_)
  refine AnyBut.one (i := 7) rfl (by kernel_rfl) rfl ?_; intro K hK; go_simp; refine hK _ _ ?_ ?_ <;> clear hK K; rotate_left; intro hS; rotate_left
  · refine ⟨?_, ?_⟩ <;> go_simp
  refine AnyBut.one (i := 8) rfl (by kernel_rfl) rfl ?_; intro K hK
  refine op_append_nil _ _ 22 rfl 3 _ 1 8 Tryz.underlying22 info_i64 rfl (W0.heap.size + 1) 0 1 1 [.int .i64 0] rfl rfl rfl (by intro j v hj; rw [Nat.zero_add]; exact (Block.cell (Block.drew (btop (cs := [.int .i64 0]) (by simp))) j).trans hj) (by omega) (by unfold maxLen; omega) (by omega) ?_
  intro J k hJ hk
  refine hK _ _ ?_ ?_ <;> clear hK K; rotate_left; intro hS; rotate_left
  · refine ⟨?_, ?_⟩ <;> go_simp
  (refine AnyBut.one (i := 9) rfl (by kernel_rfl) rfl ?_; intro K hK; go_simp; refine hK _ _ hS ?_; clear hK K; intro _); (refine AnyBut.one (i := 10) rfl (by kernel_rfl) rfl ?_; intro K hK; go_simp; refine hK _ _ hS ?_; clear hK K; intro _)
  refine AnyBut.last rfl (by kernel_rfl) rfl (by kernel_rfl) ?_; intro K hK; go_simp; refine hK _ _ ?_; clear hK K
  go_wp2_with fail
  have hz0 := B0.lt
  refine at_code (fun W => SlabAt w rb rc S [.bool true, .slice (some ⟨W0.heap.size + 1 + 1, 0, none⟩) 1 (1 + k), .slice none 0 0, .slice none 0 0] W ∧ W.ownsRow (S + 1) 3 1 (.slice (some ⟨W0.heap.size + 1 + 1, 0, none⟩) 1 (1 + k)) 1 [.int .i64 0]) ⟨(A0.set (by omega) 1 (.slice (some ⟨W0.heap.size + 1 + 1, 0, none⟩) 1 (1 + k))).call (by exact sBel), own_top (by simp) (by omega) rfl hJ hk⟩ ?_
  clear s0 s1 s2 s3 sl sf a0 a1 a2 a3 a4 a5 a6 a7 al past_S pastf_S pl1_S pl2_S pl3_S
  clear hS
  have hS : w.heap.size + 1 < S := by omega
  rintro W1 ⟨A1, O1⟩
  have B1 := A1.str
  obtain ⟨sl, sf, s0, s1, s2, s3⟩ := B1.c4
  have hp1 := h.call A1.bel
  have al := hp1.lt; have a0 := hp1.cell (j := 0) rfl; have a1 := hp1.cell (j := 1) rfl; have a2 := hp1.cell (j := 2) rfl; have a3 := hp1.cell (j := 3) rfl; have a4 := hp1.cell (j := 4) rfl; have a5 := hp1.cell (j := 5) rfl; have a6 := hp1.cell (j := 6) rfl; have a7 := hp1.cell (j := 7) rfl
  have past_S := past_alloc S; have pastf_S := pastf_alloc S; have pl1_S : S < W1.heap.size + 1 := (by omega); have pl2_S : S < W1.heap.size + 1 + 1 := (by omega); have pl3_S : S < W1.heap.size + 1 + 1 + 1 := (by omega)
  go_wp2_with fail
  refine AnyBut.region (S := fun w' => w'.cell? ⟨S, 1, none⟩ = some (.slice (some ⟨W0.heap.size + 1 + 1, 0, none⟩) 1 (1 + k)) ∧ w'.cell? ⟨W1.heap.size, 1, none⟩ = some (.int .i64 0)) (t := 11) 12 rfl (by kernel_rfl) ?_ ?_
  · refine ⟨?_, ?_⟩ <;> go_simp
  intro hS
  refine AnyBut.tk 0 hS rfl (h := ?_); refine AnyBut.tk 1 hS rfl (h := ?_); refine AnyBut.tk 2 hS rfl (h := ?_); refine AnyBut.tk 3 hS rfl (h := ?_); refine AnyBut.tk 4 hS rfl (h := ?_); refine AnyBut.tk 5 hS rfl (h := ?_); refine AnyBut.tk 6 hS rfl (h := ?_)
  refine AnyBut.one (i := 7) rfl (by kernel_rfl) rfl ?_; intro K hK; go_simp; refine hK _ _ ?_ ?_ <;> clear hK K; rotate_left; intro hS; rotate_left
  · refine ⟨?_, ?_⟩ <;> go_simp
  refine AnyBut.one (i := 8) rfl (by kernel_rfl) rfl ?_; intro K hK
  refine op_append_own _ _ 22 rfl 3 _ 1 8 Tryz.underlying22 info_i64 rfl (by omega) (S + 1) (.slice (some ⟨W0.heap.size + 1 + 1, 0, none⟩) 1 (1 + k)) 1 [.int .i64 0] rfl (own_below O1 (by exact sBel)) (W1.heap.size + 1) 0 1 1 [.int .i64 0] rfl rfl (by intro j v hj; rw [Nat.zero_add]; exact (Block.cell (Block.drew (btop (cs := [.int .i64 0]) (by simp))) j).trans hj) (one_i64 [0]) (by omega) (by unfold maxLen; omega) (by omega) (by simp; omega) ?_
  intro g1 c1 X1 hg1 hc1 O2 H2 G1
  have hX1 : SlabAt w rb rc S [.bool true, (.slice (some ⟨W0.heap.size + 1 + 1, 0, none⟩) 1 (1 + k)), .slice none 0 0, .slice none 0 0] X1 := SlabAt.grown (A1.call (by exact sBel)) G1 (fun k hk => by cases hk; show S < W0.heap.size + 1 + 1; omega) (by omega)
  have P1 : Block X1 W1.heap.size 46 [.int .i64 4, .int .i64 0] := Block.grown (by exact sBlk) G1 (by show some W1.heap.size ≠ some (W0.heap.size + 1 + 1); have := own_lt O1; simp; omega)
  have Y1 := hX1.str
  clear s0 s1 s2 s3 sl sf
  obtain ⟨sl, sf, s0, s1, s2, s3⟩ := Y1.c4
  obtain ⟨pl, pf, p0, p1⟩ := P1.c2
  refine hK _ _ ?_ ?_ <;> clear hK K; rotate_left; intro hS; rotate_left
  · refine ⟨?_, ?_⟩ <;> go_simp
  (refine AnyBut.one (i := 9) rfl (by kernel_rfl) rfl ?_; intro K hK; go_simp; refine hK _ _ hS ?_; clear hK K; intro _); (refine AnyBut.one (i := 10) rfl (by kernel_rfl) rfl ?_; intro K hK; go_simp; refine hK _ _ hS ?_; clear hK K; intro _)
  refine AnyBut.last rfl (by kernel_rfl) rfl (by kernel_rfl) ?_; intro K hK; go_simp; refine hK _ _ ?_; clear hK K
  go_wp2_with fail
  refine at_code (fun W => SlabAt w rb rc S [.bool true, .slice (some ⟨g1, 0, none⟩) 2 c1, .slice none 0 0, .slice none 0 0] W ∧ W.ownsRow (S + 1) 3 1 (.slice (some ⟨g1, 0, none⟩) 2 c1) 2 [.int .i64 0, .int .i64 0]) ⟨SlabAt.set hX1 (by omega) 1 (.slice (some ⟨g1, 0, none⟩) 2 c1), own_far O2 (Nat.lt_succ_self S) _⟩ ?_
  clear s0 s1 s2 s3 sl sf a0 a1 a2 a3 a4 a5 a6 a7 al past_S pastf_S pl1_S pl2_S pl3_S p0 p1 pl pf
  clear hS
  have hS : w.heap.size + 1 < S := by omega
  clear O2
  rintro W2 ⟨A2, O2⟩
  have B2 := A2.str
  obtain ⟨sl, sf, s0, s1, s2, s3⟩ := B2.c4
  have hp2 := h.call A2.bel
  have al := hp2.lt; have a0 := hp2.cell (j := 0) rfl; have a1 := hp2.cell (j := 1) rfl; have a2 := hp2.cell (j := 2) rfl; have a3 := hp2.cell (j := 3) rfl; have a4 := hp2.cell (j := 4) rfl; have a5 := hp2.cell (j := 5) rfl; have a6 := hp2.cell (j := 6) rfl; have a7 := hp2.cell (j := 7) rfl
  have past_S := past_alloc S; have pastf_S := pastf_alloc S; have pl1_S : S < W2.heap.size + 1 := (by omega); have pl2_S : S < W2.heap.size + 1 + 1 := (by omega); have pl3_S : S < W2.heap.size + 1 + 1 + 1 := (by omega)
  go_wp2_with fail
  refine AnyBut.region (S := fun w' => w'.cell? ⟨S, 1, none⟩ = some (.slice (some ⟨g1, 0, none⟩) 2 c1) ∧ w'.cell? ⟨W2.heap.size, 1, none⟩ = some (.int .i64 4)) (t := 11) 12 rfl (by kernel_rfl) ?_ ?_
  · refine ⟨?_, ?_⟩ <;> go_simp
  intro hS
  refine AnyBut.tk 0 hS rfl (h := ?_); refine AnyBut.tk 1 hS rfl (h := ?_); refine AnyBut.tk 2 hS rfl (h := ?_); refine AnyBut.tk 3 hS rfl (h := ?_); refine AnyBut.tk 4 hS rfl (h := ?_); refine AnyBut.tk 5 hS rfl (h := ?_); refine AnyBut.tk 6 hS rfl (h := ?_)
  refine AnyBut.one (i := 7) rfl (by kernel_rfl) rfl ?_; intro K hK; go_simp; refine hK _ _ ?_ ?_ <;> clear hK K; rotate_left; intro hS; rotate_left
  · refine ⟨?_, ?_⟩ <;> go_simp
  refine AnyBut.one (i := 8) rfl (by kernel_rfl) rfl ?_; intro K hK
  refine op_append_own _ _ 22 rfl 3 _ 1 8 Tryz.underlying22 info_i64 rfl (by omega) (S + 1) (.slice (some ⟨g1, 0, none⟩) 2 c1) 2 [.int .i64 0, .int .i64 0] rfl (own_below O2 (by exact sBel)) (W2.heap.size + 1) 0 1 1 [.int .i64 4] rfl rfl (by intro j v hj; rw [Nat.zero_add]; exact (Block.cell (Block.drew (btop (cs := [.int .i64 4]) (by simp))) j).trans hj) (one_i64 [4]) (by omega) (by unfold maxLen; omega) (by omega) (by simp; omega) ?_
  intro g2 c2 X2 hg2 hc2 O3 H3 G2
  have hX2 : SlabAt w rb rc S [.bool true, (.slice (some ⟨g1, 0, none⟩) 2 c1), .slice none 0 0, .slice none 0 0] X2 := SlabAt.grown (A2.call (by exact sBel)) G2 (fun k hk => by cases hk; show S < g1; omega) (by omega)
  have P2 : Block X2 W2.heap.size 46 [.int .i64 4, .int .i64 4] := Block.grown (by exact sBlk) G2 (by show some W2.heap.size ≠ some (g1); have := own_lt O2; simp; omega)
  have Y2 := hX2.str
  clear s0 s1 s2 s3 sl sf
  obtain ⟨sl, sf, s0, s1, s2, s3⟩ := Y2.c4
  obtain ⟨pl, pf, p0, p1⟩ := P2.c2
  refine hK _ _ ?_ ?_ <;> clear hK K; rotate_left; intro hS; rotate_left
  · refine ⟨?_, ?_⟩ <;> go_simp
  (refine AnyBut.one (i := 9) rfl (by kernel_rfl) rfl ?_; intro K hK; go_simp; refine hK _ _ hS ?_; clear hK K; intro _); (refine AnyBut.one (i := 10) rfl (by kernel_rfl) rfl ?_; intro K hK; go_simp; refine hK _ _ hS ?_; clear hK K; intro _)
  refine AnyBut.last rfl (by kernel_rfl) rfl (by kernel_rfl) ?_; intro K hK; go_simp; refine hK _ _ ?_; clear hK K
  go_wp2_with fail
  refine at_code (fun W => SlabAt w rb rc S [.bool true, .slice (some ⟨g2, 0, none⟩) 3 c2, .slice none 0 0, .slice none 0 0] W ∧ W.ownsRow (S + 1) 3 1 (.slice (some ⟨g2, 0, none⟩) 3 c2) 3 [.int .i64 0, .int .i64 0, .int .i64 4]) ⟨SlabAt.set hX2 (by omega) 1 (.slice (some ⟨g2, 0, none⟩) 3 c2), own_far O3 (Nat.lt_succ_self S) _⟩ ?_
  clear s0 s1 s2 s3 sl sf a0 a1 a2 a3 a4 a5 a6 a7 al past_S pastf_S pl1_S pl2_S pl3_S p0 p1 pl pf
  clear hS
  have hS : w.heap.size + 1 < S := by omega
  clear O3
  rintro W3 ⟨A3, O3⟩
  have B3 := A3.str
  obtain ⟨sl, sf, s0, s1, s2, s3⟩ := B3.c4
  have hp3 := h.call A3.bel
  have al := hp3.lt; have a0 := hp3.cell (j := 0) rfl; have a1 := hp3.cell (j := 1) rfl; have a2 := hp3.cell (j := 2) rfl; have a3 := hp3.cell (j := 3) rfl; have a4 := hp3.cell (j := 4) rfl; have a5 := hp3.cell (j := 5) rfl; have a6 := hp3.cell (j := 6) rfl; have a7 := hp3.cell (j := 7) rfl
  have past_S := past_alloc S; have pastf_S := pastf_alloc S; have pl1_S : S < W3.heap.size + 1 := (by omega); have pl2_S : S < W3.heap.size + 1 + 1 := (by omega); have pl3_S : S < W3.heap.size + 1 + 1 + 1 := (by omega)
  go_wp2_with fail
  refine AnyBut.region (S := fun w' => w'.cell? ⟨S, 1, none⟩ = some (.slice (some ⟨g2, 0, none⟩) 3 c2) ∧ w'.cell? ⟨W3.heap.size, 1, none⟩ = some (.int .i64 4)) (t := 11) 12 rfl (by kernel_rfl) ?_ ?_
  · refine ⟨?_, ?_⟩ <;> go_simp
  intro hS
  refine AnyBut.tk 0 hS rfl (h := ?_); refine AnyBut.tk 1 hS rfl (h := ?_); refine AnyBut.tk 2 hS rfl (h := ?_); refine AnyBut.tk 3 hS rfl (h := ?_); refine AnyBut.tk 4 hS rfl (h := ?_); refine AnyBut.tk 5 hS rfl (h := ?_); refine AnyBut.tk 6 hS rfl (h := ?_)
  refine AnyBut.one (i := 7) rfl (by kernel_rfl) rfl ?_; intro K hK; go_simp; refine hK _ _ ?_ ?_ <;> clear hK K; rotate_left; intro hS; rotate_left
  · refine ⟨?_, ?_⟩ <;> go_simp
  refine AnyBut.one (i := 8) rfl (by kernel_rfl) rfl ?_; intro K hK
  refine op_append_own _ _ 22 rfl 3 _ 1 8 Tryz.underlying22 info_i64 rfl (by omega) (S + 1) (.slice (some ⟨g2, 0, none⟩) 3 c2) 3 [.int .i64 0, .int .i64 0, .int .i64 4] rfl (own_below O3 (by exact sBel)) (W3.heap.size + 1) 0 1 1 [.int .i64 4] rfl rfl (by intro j v hj; rw [Nat.zero_add]; exact (Block.cell (Block.drew (btop (cs := [.int .i64 4]) (by simp))) j).trans hj) (one_i64 [4]) (by omega) (by unfold maxLen; omega) (by omega) (by simp; omega) ?_
  intro g3 c3 X3 hg3 hc3 O4 H4 G3
  have hX3 : SlabAt w rb rc S [.bool true, (.slice (some ⟨g2, 0, none⟩) 3 c2), .slice none 0 0, .slice none 0 0] X3 := SlabAt.grown (A3.call (by exact sBel)) G3 (fun k hk => by cases hk; show S < g2; omega) (by omega)
  have P3 : Block X3 W3.heap.size 46 [.int .i64 0, .int .i64 4] := Block.grown (by exact sBlk) G3 (by show some W3.heap.size ≠ some (g2); have := own_lt O3; simp; omega)
  have Y3 := hX3.str
  clear s0 s1 s2 s3 sl sf
  obtain ⟨sl, sf, s0, s1, s2, s3⟩ := Y3.c4
  obtain ⟨pl, pf, p0, p1⟩ := P3.c2
  refine hK _ _ ?_ ?_ <;> clear hK K; rotate_left; intro hS; rotate_left
  · refine ⟨?_, ?_⟩ <;> go_simp
  (refine AnyBut.one (i := 9) rfl (by kernel_rfl) rfl ?_; intro K hK; go_simp; refine hK _ _ hS ?_; clear hK K; intro _); (refine AnyBut.one (i := 10) rfl (by kernel_rfl) rfl ?_; intro K hK; go_simp; refine hK _ _ hS ?_; clear hK K; intro _)
  refine AnyBut.last rfl (by kernel_rfl) rfl (by kernel_rfl) ?_; intro K hK; go_simp; refine hK _ _ ?_; clear hK K
  go_wp2_with fail
  refine at_code (fun W => SlabAt w rb rc S [.bool true, .slice (some ⟨g3, 0, none⟩) 4 c3, .slice none 0 0, .slice none 0 0] W ∧ W.ownsRow (S + 1) 3 1 (.slice (some ⟨g3, 0, none⟩) 4 c3) 4 [.int .i64 0, .int .i64 0, .int .i64 4, .int .i64 4]) ⟨SlabAt.set hX3 (by omega) 1 (.slice (some ⟨g3, 0, none⟩) 4 c3), own_far O4 (Nat.lt_succ_self S) _⟩ ?_
  clear s0 s1 s2 s3 sl sf a0 a1 a2 a3 a4 a5 a6 a7 al past_S pastf_S pl1_S pl2_S pl3_S p0 p1 pl pf
  clear hS
  have hS : w.heap.size + 1 < S := by omega
  clear O4
  rintro W4 ⟨A4, O4⟩
  have B4 := A4.str
  obtain ⟨sl, sf, s0, s1, s2, s3⟩ := B4.c4
  obtain ⟨_, e1, hg4, hc4, H4⟩ := own_has O4 (by omega)
  injection e1 with e1
  injection e1 with e1
  subst e1
  have f4 := own_frozen O4
  go_wp2_with fail
  rw [rounds_succ]
  go_wp2_with fail
  refine (sort4_int g3 c3 W4 H4 f4).mono ?_
  rintro e W5 ⟨rfl, hb5⟩
  have A5 := A4.call hb5
  have H5 := H4.call hb5
  have f5 : ∀ j, W5.frozen? ⟨g3, j, none⟩ = false := fun j => (hb5.frozen (p := ⟨g3, j, none⟩) H4.lt).trans (f4 j)
  clear s0 s1 s2 s3 sl sf hb5 f4 H4
  have B5 := A5.str
  obtain ⟨sl, sf, s0, s1, s2, s3⟩ := B5.c4
  go_wp2_with fail
  refine (compact4_int g3 c3 W5 hc4 H5 f5).mono ?_
  rintro e W6 ⟨rfl, H6, G6⟩
  have A6 := A5.grown G6 (fun k hk => by cases hk; omega) hS
  clear s0 s1 s2 s3 sl sf G6 f5 H5
  have B6 := A6.str
  obtain ⟨sl, sf, s0, s1, s2, s3⟩ := B6.c4
  have R6 := A6.reg
  obtain ⟨rl, rf, r0⟩ := R6.c1
  go_wp2_with fail
  refine at_world (fun W => SlabAt w rb rc S [.bool true, .slice (some ⟨g3, 0, none⟩) 2 c3, .slice none 0 0, .slice none 0 0] W ∧ Has W g3 [.int .i64 0, .int .i64 4]) ⟨A6.set hS 1 (.slice (some ⟨g3, 0, none⟩) 2 c3), H6.far (by simp; omega) _⟩ ?_
  clear s0 s1 s2 s3 sl sf H6 r0 rl rf R6
  rintro W7 ⟨A7, H7⟩
  have hSl7 := A7.str.lt
  refine (edges_slab rb rc b c W7 (hr.call A7.bel) (h.call A7.bel)).mono ?_
  rintro e W8 ⟨ea, ec, rfl, hea, hec, E8, hb8⟩
  have A8 := A7.call hb8
  have H8 := H7.call hb8
  clear hb8
  have B8 := A8.str
  obtain ⟨sl, sf, s0, s1, s2, s3⟩ := B8.c4
  have hl8 := H8.lt
  have el8 := E8.lt
  have tl := H8.lt; have t0 := H8.cell (j := 0) rfl; have t1 := H8.cell (j := 1) rfl
  have dl := E8.lt; have d0 := E8.cell (j := 0) rfl; have d1 := E8.cell (j := 1) rfl; have d2 := E8.cell (j := 2) rfl; have d3 := E8.cell (j := 3) rfl; have d4 := E8.cell (j := 4) rfl; have d5 := E8.cell (j := 5) rfl; have d6 := E8.cell (j := 6) rfl; have d7 := E8.cell (j := 7) rfl
  go_wp2_with fail
  go_quiet (fail)
  go_wp2_with fail
  refine wp_loop_rounds 2 ?_
  rw [rounds_succ]
  refine at_code (fun W => SlabAt w rb rc S [.bool true, .slice (some ⟨g3, 0, none⟩) 2 c3, .slice none 0 0, .slice none 0 0] W ∧ Has W g3 [.int .i64 0, .int .i64 4] ∧ Has W ea edC) ⟨A8.call (by exact sBel), H8.drewN _, E8.drewN _⟩ ?_
  clear s0 s1 s2 s3 sl sf t0 t1 tl d0 d1 d2 d3 d4 d5 d6 d7 dl B8 hl8 el8
  rintro W9 ⟨A9, H9, E9⟩
  have B9 := A9.str
  obtain ⟨sl, sf, s0, s1, s2, s3⟩ := B9.c4
  have tl := H9.lt; have t0 := H9.cell (j := 0) rfl; have t1 := H9.cell (j := 1) rfl
  have past_S := past_alloc S; have pastf_S := pastf_alloc S; have pl1_S : S < W9.heap.size + 1 := (by omega); have pl2_S : S < W9.heap.size + 1 + 1 := (by omega); have pl3_S : S < W9.heap.size + 1 + 1 + 1 := (by omega)
  go_wp2_with fail
  refine AnyBut.region (S := fun w' => w'.cell? ⟨S, 2, none⟩ = some (.slice none 0 0) ∧ w'.cell? ⟨S, 3, none⟩ = some (.slice none 0 0)) (t := 14) 15 rfl (by kernel_rfl) ?_ ?_
  · refine ⟨?_, ?_⟩ <;> go_simp
  clear hS
  have hS2 : w.heap.size + 1 < S := by omega
  intro hS
  refine AnyBut.tk 0 hS rfl (h := ?_); refine AnyBut.tk 1 hS rfl (h := ?_); refine AnyBut.tk 2 hS rfl (h := ?_); refine AnyBut.tk 3 hS rfl (h := ?_); refine AnyBut.tk 4 hS rfl (h := ?_); refine AnyBut.tk 5 hS rfl (h := ?_); refine AnyBut.tk 6 hS rfl (h := ?_); refine AnyBut.tk 7 hS rfl (h := ?_); refine AnyBut.tk 8 hS rfl (h := ?_); refine AnyBut.tk 9 hS rfl (h := ?_)
  refine AnyBut.one (i := 10) rfl (by kernel_rfl) rfl ?_; intro K hK; go_simp; refine hK _ _ ?_ ?_ <;> clear hK K; rotate_left; intro hS; rotate_left
  · refine ⟨?_, ?_⟩ <;> go_simp
  refine AnyBut.one (i := 11) rfl (by kernel_rfl) rfl ?_; intro K hK
  refine op_append_nil _ _ 22 rfl 3 _ 1 8 Tryz.underlying22 info_i64 rfl W9.heap.size 0 1 1 [.int .i64 0] rfl rfl rfl (by intro j v hj; rw [Nat.zero_add]; exact (Block.cell (Block.drew (btop (cs := [.int .i64 0]) (by simp))) j).trans hj) (by omega) (by unfold maxLen; omega) (by omega) ?_
  intro Jo ko hJo hko
  refine hK _ _ ?_ ?_ <;> clear hK K; rotate_left; intro hS; rotate_left
  · refine ⟨?_, ?_⟩ <;> go_simp
  (refine AnyBut.one (i := 12) rfl (by kernel_rfl) rfl ?_; intro K hK; go_simp; refine hK _ _ hS ?_; clear hK K; intro _); (refine AnyBut.one (i := 13) rfl (by kernel_rfl) rfl ?_; intro K hK; go_simp; refine hK _ _ hS ?_; clear hK K; intro _)
  refine AnyBut.last rfl (by kernel_rfl) rfl (by kernel_rfl) ?_; intro K hK; go_simp; refine hK _ _ ?_; clear hK K
  go_wp2_with fail
  have zl9 := B9.lt
  refine wp_loop_rounds 3 ?_
  rw [rounds_succ]
  obtain ⟨og, hog⟩ : ∃ og, W9.heap.size + 1 = og := ⟨_, rfl⟩
  refine at_code (fun W => SlabAt w rb rc S [.bool true, .slice (some ⟨g3, 0, none⟩) 2 c3, .slice (some ⟨og, 0, none⟩) 1 (1 + ko), .slice none 0 0] W ∧ Has W g3 [.int .i64 0, .int .i64 4] ∧ Has W ea edC ∧ W.ownsRow (S + 1) 3 1 (.slice (some ⟨og, 0, none⟩) 1 (1 + ko)) 1 [.int .i64 0]) (by rw [hog]; exact ⟨(A9.set hS2 2 (.slice (some ⟨og, 0, none⟩) 1 (1 + ko))).call (by exact sBel), by exact sHas, by exact sHas, own_top (by simp; omega) (by omega) rfl hJo hko⟩) ?_
  have hgl9 := H9.lt
  have hel9 := E9.lt
  have hgo : g3 ≠ og := by omega
  have heo : ea ≠ og := by omega
  clear s0 s1 s2 s3 sl sf t0 t1 tl past_S pastf_S pl1_S pl2_S pl3_S hS
  rintro W10 ⟨A10, H10, E10, O10⟩
  have hSog := (own_lt O10).1
  have B10 := A10.str
  obtain ⟨sl, sf, s0, s1, s2, s3⟩ := B10.c4
  have dl := E10.lt; have d0 := E10.cell (j := 0) rfl; have d1 := E10.cell (j := 1) rfl; have d2 := E10.cell (j := 2) rfl; have d3 := E10.cell (j := 3) rfl; have d4 := E10.cell (j := 4) rfl; have d5 := E10.cell (j := 5) rfl; have d6 := E10.cell (j := 6) rfl; have d7 := E10.cell (j := 7) rfl
  have past_S := past_alloc S; have pastf_S := pastf_alloc S; have pl1_S : S < W10.heap.size + 1 := (by omega); have pl2_S : S < W10.heap.size + 1 + 1 := (by omega); have pl3_S : S < W10.heap.size + 1 + 1 + 1 := (by omega); have pl4_S : S < W10.heap.size + 1 + 1 + 1 + 1 := (by omega)
  go_wp2_with fail
  refine AnyBut.region (S := fun w' => w'.cell? ⟨S, 3, none⟩ = some (.slice none 0 0) ∧ w'.cell? ⟨W10.heap.size, 0, none⟩ = some (.int .i64 4) ∧ w'.cell? ⟨W10.heap.size, 1, none⟩ = some (.int .i64 0) ∧ w'.cell? ⟨W10.heap.size, 2, none⟩ = some (.int .i64 4) ∧ w'.cell? ⟨W10.heap.size, 3, none⟩ = some (.int .i64 4)) (t := 10) 11 rfl (by kernel_rfl) ?_ ?_
  · refine ⟨?_, ?_, ?_, ?_, ?_⟩ <;> go_simp
  intro hS
  refine AnyBut.tk 0 hS rfl (h := ?_); refine AnyBut.tk 1 hS rfl (h := ?_); refine AnyBut.tk 2 hS rfl (h := ?_); refine AnyBut.tk 3 hS rfl (h := ?_); refine AnyBut.tk 4 hS rfl (h := ?_); refine AnyBut.tk 5 hS rfl (h := ?_)
  refine AnyBut.one (i := 6) rfl (by kernel_rfl) rfl ?_; intro K hK; go_simp; refine hK _ _ ?_ ?_ <;> clear hK K; rotate_left; intro hS; rotate_left
  · refine ⟨?_, ?_, ?_, ?_, ?_⟩ <;> go_simp
  refine AnyBut.one (i := 7) rfl (by kernel_rfl) rfl ?_; intro K hK
  refine op_append_nil _ _ 535 rfl 541 _ 4 32 Tryz.underlying535 info_edge rfl (W10.heap.size + 1) 0 1 1 [.int .i64 4, .int .i64 0, .int .i64 4, .int .i64 4] rfl rfl rfl (by intro j v hj; rw [Nat.zero_add]; exact (Block.cell (Block.drew (btop (cs := [.int .i64 4, .int .i64 0, .int .i64 4, .int .i64 4]) (by simp))) j).trans hj) (by omega) (by unfold maxLen; omega) (by omega) ?_
  intro Je ke hJe hke
  refine hK _ _ ?_ ?_ <;> clear hK K; rotate_left; intro hS; rotate_left
  · refine ⟨?_, ?_, ?_, ?_, ?_⟩ <;> go_simp
  (refine AnyBut.one (i := 8) rfl (by kernel_rfl) rfl ?_; intro K hK; go_simp; refine hK _ _ hS ?_; clear hK K; intro _); (refine AnyBut.one (i := 9) rfl (by kernel_rfl) rfl ?_; intro K hK; go_simp; refine hK _ _ hS ?_; clear hK K; intro _)
  refine AnyBut.last rfl (by kernel_rfl) rfl (by kernel_rfl) ?_; intro K hK; go_simp; refine hK _ _ ?_; clear hK K
  go_wp2_with fail
  have zl10 := O10
  have ol := (own_lt O10).2
  obtain ⟨eg, heg⟩ : ∃ eg, W10.heap.size + 1 + 1 = eg := ⟨_, rfl⟩
  refine at_code (fun W => SlabAt w rb rc S [.bool true, .slice (some ⟨g3, 0, none⟩) 2 c3, (.slice (some ⟨og, 0, none⟩) 1 (1 + ko)), .slice (some ⟨eg, 0, none⟩) 1 (1 + ke)] W ∧ Has W g3 [.int .i64 0, .int .i64 4] ∧ Has W ea edC ∧ W.ownsRow (S + 1) 3 1 (.slice (some ⟨og, 0, none⟩) 1 (1 + ko)) 1 [.int .i64 0] ∧ W.ownsRow (og + 1) 541 4 (.slice (some ⟨eg, 0, none⟩) 1 (1 + ke)) 1 [.int .i64 4, .int .i64 0, .int .i64 4, .int .i64 4]) (by rw [heg]; exact ⟨(A10.set hS2 3 (.slice (some ⟨eg, 0, none⟩) 1 (1 + ke))).call (by exact sBel), by exact sHas, by exact sHas, own_below (own_far O10 (Nat.lt_succ_self S) _) (by exact sBel), own_top (by simp; omega) (by omega) rfl hJe hke⟩) ?_
  have hge : g3 ≠ eg := by have := H10.lt; omega
  have hee : ea ≠ eg := by have := E10.lt; omega
  have hoe : og < eg := by omega
  have hSe : S < eg := by omega
  clear s0 s1 s2 s3 sl sf d0 d1 d2 d3 d4 d5 d6 d7 dl past_S pastf_S pl1_S pl2_S pl3_S pl4_S hS zl10
  rintro W11 ⟨A11, H11, E11, O11, D11⟩
  have B11 := A11.str
  obtain ⟨sl, sf, s0, s1, s2, s3⟩ := B11.c4
  have dl := E11.lt; have d0 := E11.cell (j := 0) rfl; have d1 := E11.cell (j := 1) rfl; have d2 := E11.cell (j := 2) rfl; have d3 := E11.cell (j := 3) rfl; have d4 := E11.cell (j := 4) rfl; have d5 := E11.cell (j := 5) rfl; have d6 := E11.cell (j := 6) rfl; have d7 := E11.cell (j := 7) rfl
  have past_S := past_alloc S; have pastf_S := pastf_alloc S; have pl1_S : S < W11.heap.size + 1 := (by omega); have pl2_S : S < W11.heap.size + 1 + 1 := (by omega); have pl3_S : S < W11.heap.size + 1 + 1 + 1 := (by omega); have pl4_S : S < W11.heap.size + 1 + 1 + 1 + 1 := (by omega)
  go_wp2_with fail
  refine AnyBut.region (S := fun w' => w'.cell? ⟨S, 3, none⟩ = some (.slice (some ⟨eg, 0, none⟩) 1 (1 + ke)) ∧ w'.cell? ⟨W11.heap.size, 0, none⟩ = some (.int .i64 0) ∧ w'.cell? ⟨W11.heap.size, 1, none⟩ = some (.int .i64 0) ∧ w'.cell? ⟨W11.heap.size, 2, none⟩ = some (.int .i64 0) ∧ w'.cell? ⟨W11.heap.size, 3, none⟩ = some (.int .i64 4)) (t := 10) 11 rfl (by kernel_rfl) ?_ ?_
  · refine ⟨?_, ?_, ?_, ?_, ?_⟩ <;> go_simp
  intro hS
  refine AnyBut.tk 0 hS rfl (h := ?_); refine AnyBut.tk 1 hS rfl (h := ?_); refine AnyBut.tk 2 hS rfl (h := ?_); refine AnyBut.tk 3 hS rfl (h := ?_); refine AnyBut.tk 4 hS rfl (h := ?_); refine AnyBut.tk 5 hS rfl (h := ?_)
  refine AnyBut.one (i := 6) rfl (by kernel_rfl) rfl ?_; intro K hK; go_simp; refine hK _ _ ?_ ?_ <;> clear hK K; rotate_left; intro hS; rotate_left
  · refine ⟨?_, ?_, ?_, ?_, ?_⟩ <;> go_simp
  refine AnyBut.one (i := 7) rfl (by kernel_rfl) rfl ?_; intro K hK
  refine op_append_own _ _ 535 rfl 541 _ 4 32 Tryz.underlying535 info_edge rfl (by omega) (og + 1) (.slice (some ⟨eg, 0, none⟩) 1 (1 + ke)) 1 _ rfl (own_below D11 (by exact sBel)) (W11.heap.size + 1) 0 1 1 [.int .i64 0, .int .i64 0, .int .i64 0, .int .i64 4] rfl rfl (by intro j v hj; rw [Nat.zero_add]; exact (Block.cell (Block.drew (btop (cs := [.int .i64 0, .int .i64 0, .int .i64 0, .int .i64 4]) (by simp))) j).trans hj) (one_i64 [0, 0, 0, 4]) (by omega) (by unfold maxLen; omega) (by omega) (by have := (own_lt D11).2; simp; omega) ?_
  intro eg2 ec2 X hg12 hc12 D12 H12e G
  have hX : SlabAt w rb rc S [.bool true, .slice (some ⟨g3, 0, none⟩) 2 c3, (.slice (some ⟨og, 0, none⟩) 1 (1 + ko)), (.slice (some ⟨eg, 0, none⟩) 1 (1 + ke))] X := SlabAt.grown (A11.call (by exact sBel)) G (fun k hk => by cases hk; exact hSe) (by omega)
  have P : Block X W11.heap.size 541 [.int .i64 0, .int .i64 0, .int .i64 0, .int .i64 4] := Block.grown (by exact sBlk) G (by show some W11.heap.size ≠ some eg; have := own_lt D11; simp; omega)
  have Y := hX.str
  clear s0 s1 s2 s3 sl sf
  obtain ⟨sl, sf, s0, s1, s2, s3⟩ := Y.c4
  obtain ⟨pl, pf, p0, p1, p2, p3⟩ := P.c4
  refine hK _ _ ?_ ?_ <;> clear hK K; rotate_left; intro hS; rotate_left
  · refine ⟨?_, ?_, ?_, ?_, ?_⟩ <;> go_simp
  (refine AnyBut.one (i := 8) rfl (by kernel_rfl) rfl ?_; intro K hK; go_simp; refine hK _ _ hS ?_; clear hK K; intro _); (refine AnyBut.one (i := 9) rfl (by kernel_rfl) rfl ?_; intro K hK; go_simp; refine hK _ _ hS ?_; clear hK K; intro _)
  refine AnyBut.last rfl (by kernel_rfl) rfl (by kernel_rfl) ?_; intro K hK; go_simp; refine hK _ _ ?_; clear hK K
  go_wp2_with fail
  rw [rounds_succ]
  refine at_code (fun W => SlabAt w rb rc S [.bool true, .slice (some ⟨g3, 0, none⟩) 2 c3, (.slice (some ⟨og, 0, none⟩) 1 (1 + ko)), .slice (some ⟨eg2, 0, none⟩) 2 ec2] W ∧ Has W g3 [.int .i64 0, .int .i64 4] ∧ Has W eg2 edC ∧ W.ownsRow (S + 1) 3 1 (.slice (some ⟨og, 0, none⟩) 1 (1 + ko)) 1 [.int .i64 0]) ⟨SlabAt.set hX hS2 3 (.slice (some ⟨eg2, 0, none⟩) 2 ec2), Has.far (Has.grown (by exact sHas) G (by show some g3 ≠ some eg; simpa using hge)) (by show g3 ≠ S; omega) _, Has.far (show Has X eg2 edC from H12e) (by show eg2 ≠ S; omega) _, own_far (own_grown (own_below O11 (by exact sBel)) G (by show some og ≠ some eg; simp; omega)) (Nat.lt_succ_self S) _⟩ ?_
  have hge2 : og + 1 ≤ eg2 := hg12
  clear s0 s1 s2 s3 sl sf d0 d1 d2 d3 d4 d5 d6 d7 dl p0 p1 p2 p3 pl pf past_S pastf_S pl1_S pl2_S pl3_S pl4_S hS D12 H12e hX P Y G
  rintro W13 ⟨A13, H13, E13, O13⟩
  have B13 := A13.str
  obtain ⟨sl, sf, s0, s1, s2, s3⟩ := B13.c4
  have past_S := past_alloc S; have pastf_S := pastf_alloc S; have pl1_S : S < W13.heap.size + 1 := (by omega); have pl2_S : S < W13.heap.size + 1 + 1 := (by omega); have pl3_S : S < W13.heap.size + 1 + 1 + 1 := (by omega)
  go_wp2_with fail
  rw [rounds_succ]
  go_wp2_with fail
  refine AnyBut.region (S := fun w' => w'.cell? ⟨S, 2, none⟩ = some (.slice (some ⟨og, 0, none⟩) 1 (1 + ko)) ∧ w'.cell? ⟨S, 3, none⟩ = some (.slice (some ⟨eg2, 0, none⟩) 2 ec2)) (t := 14) 15 rfl (by kernel_rfl) ?_ ?_
  · refine ⟨?_, ?_⟩ <;> go_simp
  intro hS
  refine AnyBut.tk 0 hS rfl (h := ?_); refine AnyBut.tk 1 hS rfl (h := ?_); refine AnyBut.tk 2 hS rfl (h := ?_); refine AnyBut.tk 3 hS rfl (h := ?_); refine AnyBut.tk 4 hS rfl (h := ?_); refine AnyBut.tk 5 hS rfl (h := ?_); refine AnyBut.tk 6 hS rfl (h := ?_); refine AnyBut.tk 7 hS rfl (h := ?_); refine AnyBut.tk 8 hS rfl (h := ?_); refine AnyBut.tk 9 hS rfl (h := ?_)
  refine AnyBut.one (i := 10) rfl (by kernel_rfl) rfl ?_; intro K hK; go_simp; refine hK _ _ ?_ ?_ <;> clear hK K; rotate_left; intro hS; rotate_left
  · refine ⟨?_, ?_⟩ <;> go_simp
  refine AnyBut.one (i := 11) rfl (by kernel_rfl) rfl ?_; intro K hK
  refine op_append_own _ _ 22 rfl 3 _ 1 8 Tryz.underlying22 info_i64 rfl (by omega) (S + 1) (.slice (some ⟨og, 0, none⟩) 1 (1 + ko)) 1 [.int .i64 0] rfl (own_below O13 (by exact sBel)) W13.heap.size 0 1 1 [.int .i64 2] rfl rfl (by intro j v hj; rw [Nat.zero_add]; exact (Block.cell (Block.drew (btop (cs := [.int .i64 2]) (by simp))) j).trans hj) (one_i64 [2]) (by omega) (by unfold maxLen; omega) (by omega) (by have := (own_lt O13).2; simp; omega) ?_
  intro og2 oc2 X hg13 hc13 D13 H13o G
  have hX : SlabAt w rb rc S [.bool true, .slice (some ⟨g3, 0, none⟩) 2 c3, (.slice (some ⟨og, 0, none⟩) 1 (1 + ko)), .slice (some ⟨eg2, 0, none⟩) 2 ec2] X := SlabAt.grown (A13.call (by exact sBel)) G (fun k hk => by cases hk; show S < og; omega) (by omega)
  have Y := hX.str
  clear s0 s1 s2 s3 sl sf
  obtain ⟨sl, sf, s0, s1, s2, s3⟩ := Y.c4
  refine hK _ _ ?_ ?_ <;> clear hK K; rotate_left; intro hS; rotate_left
  · refine ⟨?_, ?_⟩ <;> go_simp
  (refine AnyBut.one (i := 12) rfl (by kernel_rfl) rfl ?_; intro K hK; go_simp; refine hK _ _ hS ?_; clear hK K; intro _); (refine AnyBut.one (i := 13) rfl (by kernel_rfl) rfl ?_; intro K hK; go_simp; refine hK _ _ hS ?_; clear hK K; intro _)
  refine AnyBut.last rfl (by kernel_rfl) rfl (by kernel_rfl) ?_; intro K hK; go_simp; refine hK _ _ ?_; clear hK K
  go_upto_region 29 with fail
  refine at_code (fun W => SlabAt w rb rc S [.bool true, .slice (some ⟨g3, 0, none⟩) 2 c3, .slice (some ⟨og2, 0, none⟩) 2 oc2, .slice (some ⟨eg2, 0, none⟩) 2 ec2] W ∧ Has W g3 [.int .i64 0, .int .i64 4] ∧ Has W og2 [.int .i64 0, .int .i64 2] ∧ Has W eg2 edC) ⟨SlabAt.set hX hS2 2 (.slice (some ⟨og2, 0, none⟩) 2 oc2), Has.far (Has.grown (by exact sHas) G (by show some g3 ≠ some og; simpa using hgo)) (by show g3 ≠ S; omega) _, Has.far (show Has X og2 [.int .i64 0, .int .i64 2] from H13o) (by show og2 ≠ S; omega) _, Has.far (Has.grown (by exact sHas) G (by show some eg2 ≠ some og; simp; omega)) (by show eg2 ≠ S; omega) _⟩ ?_
  have hog2 : S < og2 := hg13
  clear s0 s1 s2 s3 sl sf hS
  rintro W14 ⟨A14, Hg, Ho, He⟩
  have F := A14.flt
  obtain ⟨fl, ff, f0, f1⟩ := F.c2
  have hwS : w.heap.size + 1 ≠ S := by omega
  clear past_S pastf_S pl1_S pl2_S pl3_S hSd hog heg
  refine Code.wp_mono (Q := fun e a' W => e = .normal ∧ a'.defers = [] ∧ a'.tmps.getD 2 undef = .pointer (some ⟨S, 0, none⟩) ∧ a'.tmps.getD 3 undef = .pointer (some ⟨w.heap.size + 1, 0, none⟩) ∧ W = (W14.setCell ⟨w.heap.size + 1, 0, none⟩ (.int .i64 0)).setCell ⟨w.heap.size + 1, 1, none⟩ (.int .i64 0)) ?_ ?_
  rotate_left
  · go_wp2_with fail
  rename_i hret
  rintro e a' W ⟨rfl, hd, h2, h3, rfl⟩
  refine hret _ _ (wp_ret ?_)
  refine ret_tc (T := 194) (x := 2) (p := 3) rfl hd h3 ((A14.flt.set 0 (.int .i64 0)).set 1 (.int .i64 0)) agg_fl size_fl ?_
  rw [h2]
  refine ⟨S, rfl, by omega, ⟨g3, c3, og2, oc2, eg2, ec2, (A14.str.far (by simp; omega) _).far (by simp; omega) _, ?_, ?_, ?_, by omega, hc13, by omega⟩, bel_set (bel_set A14.bel (by simp) _) (by simp) _⟩
  · exact (Hg.far (by simp; omega) _).far (by simp; omega) _
  · exact (Ho.far (by simp; omega) _).far (by simp; omega) _
  · exact (He.far (by simp; omega) _).far (by simp; omega) _
end Go.Proofs.YthmhdaefkhcenaaGreatDoor
namespace Go.Proofs.YthmhdaefkhcenaaGreatDoor
set_option maxRecDepth 100000
set_option maxHeartbeats 8000000
open Go.RowKit Go.Lib

section
variable {P : Program} {f : FuncId} {fn : Func}
theorem run_call_loadp (hf : P.funcs[f]? = some fn) (hname : (fn.name == "runtime.NumGoroutine") = false) (hb : fn.body.isNone = true) (hn : Extern.findNext fn = none)
    (he : Extern.find fn = some (Extern.Atomic.loadT .ptr)) {a : Addr} {x : Option Addr} {w : World} (hc : w.cell? a = some (.pointer x)) :
    (callFunc f #[.pointer (some a)]).run P w = .ok (.value (.pointer x)) w := by
  rw [run_callFunc_extern hf hname hb hn he]
  change (Sem.run P (do Extern.Atomic.read .ptr (← asAddr (.pointer (some a)))) w).andThen _ = _
  simp [Extern.Atomic.read, asAddr, hc, Result.andThen]
theorem run_call_storep (hf : P.funcs[f]? = some fn) (hname : (fn.name == "runtime.NumGoroutine") = false) (hb : fn.body.isNone = true) (hn : Extern.findNext fn = none)
    (he : Extern.find fn = some Extern.Atomic.storeT) {a : Addr} {y : Option Addr} {u : Value} {w : World} (hc : w.cell? a = some u) (hz : w.frozen? a = false) :
    (callFunc f #[.pointer (some a), .pointer y]).run P w = .ok (.value (.tuple #[])) (w.setCell a (.pointer y)) := by
  rw [run_callFunc_extern hf hname hb hn he]
  change (Sem.run P (do
    store (← asAddr (.pointer (some a))) (.pointer y) .atomic
    pure Extern.Atomic.none_) w).andThen _ = _
  simp [asAddr, hc, hz, run_store P w a (.pointer y) .atomic rfl, Result.andThen, Extern.Atomic.none_]
end
theorem s_loadp (a : Addr) (x : Option Addr) (w : World) (hc : w.cell? a = some (.pointer x)) : (callFunc 259 #[.pointer (some a)]).run Tryz.prog w = .ok (.value (.pointer x)) w := run_call_loadp (P := Tryz.prog) Tryz.func259 (by kernel_rfl) (by kernel_rfl) (by kernel_rfl) (by kernel_rfl) hc
theorem s_storep (a : Addr) (y : Option Addr) (u : Value) (w : World) (hc : w.cell? a = some u) (hz : w.frozen? a = false) : (callFunc 268 #[.pointer (some a), .pointer y]).run Tryz.prog w = .ok (.value (.tuple #[])) (w.setCell a (.pointer y)) := run_call_storep (P := Tryz.prog) Tryz.func268 (by kernel_rfl) (by kernel_rfl) (by kernel_rfl) (by kernel_rfl) hc hz
theorem conv_load (w : World) : (convert 281 279 (.pointer none)).run Tryz.prog w = .ok (.pointer none) w := by kernel_rfl
theorem conv_store (g : Nat) (v : Value) (w : World) (hc : w.cell? ⟨g, 0, none⟩ = some v) : (convert 279 281 (.pointer (some ⟨g, 0, none⟩))).run Tryz.prog w = .ok (.pointer (some ⟨g, 0, none⟩)) w :=
  run_convert_to_unsafe (t := 360) Tryz.underlying279 Tryz.underlying281 (by kernel_rfl) hc
theorem load_last (o i : Nat) (w : World) (h : w.cell? ⟨o, i, none⟩ = some (.pointer none)) : Calls Tryz.prog 199 #[.pointer (some ⟨o, i, none⟩)] w fun e w' => e = .returned (.pointer none) ∧ w' = w := by
  have hl := s_loadp ⟨o, i, none⟩ none w h
  have hcv := conv_load
  go_enter Tryz.func199, Tryz.ntmps199
  go_wp2
  go_returns
  exact ⟨by rfl, rfl⟩
theorem store_last (o i g : Nat) (u v : Value) (w : World) (hg : w.cell? ⟨g, 0, none⟩ = some v) (h : w.cell? ⟨o, i, none⟩ = some u) (hz : w.frozen? ⟨o, i, none⟩ = false) : Calls Tryz.prog 202 #[.pointer (some ⟨o, i, none⟩), .pointer (some ⟨g, 0, none⟩)] w fun e w' => e = .returned (.tuple #[]) ∧ w' = w.setCell ⟨o, i, none⟩ (.pointer (some ⟨g, 0, none⟩)) := by
  have hl := s_storep ⟨o, i, none⟩ (some ⟨g, 0, none⟩) u w h hz
  have hcv := conv_store g v w hg
  go_enter Tryz.func202, Tryz.ntmps202
  go_wp2
  go_end0
  exact ⟨by rfl, rfl⟩
def CalcAt (rate : Int) (E : Nat) (W : World) (Kc : Nat) : Prop := ∃ (v : List Value) (i p : Value) (nb : Nat), Block W Kc 285 ([.bool true] ++ v ++ [i, p]) ∧ CfgIn rate (Kc + 1) nb W (.agg v.toArray) ∧ Kc + 1 ≤ nb ∧ nb ≤ E ∧ E ≤ W.heap.size
theorem CalcAt.call {rate : Int} {E Kc : Nat} {W W' : World} (h : CalcAt rate E W Kc) (hb : Below W.heap.size W W') : CalcAt rate E W' Kc := by
  obtain ⟨v, i, p, nb, h1, h2, h3, h4, h5⟩ := h
  exact ⟨v, i, p, nb, h1.call hb, h2.call hb, h3, h4, Nat.le_trans h5 hb.size⟩
theorem who_calc (rate : Int) (B E Kc : Nat) (w : World) (h : CalcOk rate B E w Kc) : Calls Tryz.prog 148 #[.pointer (some ⟨Kc, 0, none⟩), .agg #[.int .i64 1, .int .i64 1]] w fun e w' => ∃ g c', e = .returned (.slice (some ⟨g, 0, none⟩) 1 c') ∧ w.heap.size ≤ g ∧ Has w' g [.int .i64 7] ∧ CalcAt rate E w' Kc ∧ Only Kc E w w' := by
  obtain ⟨v, I, nb, hK0, hV, hX, hBK, hKn, hnE, hEw⟩ := h
  obtain ⟨jb, jc, qb, qc, rb, rc, db, dc, b, c, hv, hJ, hR, hP, hQ, hD, hcc, gg⟩ := hV
  have hV : CfgIn rate (Kc + 1) nb w (.agg v.toArray) := ⟨jb, jc, qb, qc, rb, rc, db, dc, b, c, hv, hJ, hR, hP, hQ, hD, hcc, gg⟩
  have hv2 : v = [.slice (some ⟨jb, 0, none⟩) 1 jc, .slice (some ⟨qb, 0, none⟩) 1 qc, .slice none 0 0, .slice none 0 0, .slice none 0 0, .slice none 0 0] := by injection hv with hv; simpa using congrArg Array.toList hv
  subst hv2
  clear hv
  replace hK0 : Block w Kc 285 [.bool true, .slice (some ⟨jb, 0, none⟩) 1 jc, .slice (some ⟨qb, 0, none⟩) 1 qc, .slice none 0 0, .slice none 0 0, .slice none 0 0, .slice none 0 0, .pointer (some ⟨I, 0, none⟩), .pointer none] := hK0
  have hKl := hK0.lt
  have hK1 := hK0
  obtain ⟨kl, kf, k0, k1, k2, k3, k4, k5, k6, k7, k8⟩ := hK1.c9
  go_enter Tryz.func148, Tryz.ntmps148
  go_wp2_with fail
  refine (load_last Kc 8 _ (by go_simp)).mono ?_
  rintro e w' ⟨rfl, rfl⟩
  go_wp2_with fail
  go_quiet (fail)
  go_wp2_with fail
  refine at_code (fun W => Below w.heap.size w W ∧ Block W w.heap.size 46 [.int .i64 1, .int .i64 1]) ?_ ?_
  · exact ⟨by exact sBel, Block.drewN (btop (cs := [.int .i64 1, .int .i64 1]) rfl) _⟩
  rintro w0 ⟨bel0, P0⟩
  have K0 := hK0.call bel0
  clear k0 k1 k2 k3 k4 k5 k6 k7 k8 kl kf hK1
  have K1 := K0
  obtain ⟨kl, kf, k0, k1, k2, k3, k4, k5, k6, k7, k8⟩ := K1.c9
  have P1 := P0
  obtain ⟨pl, pf, p0, p1⟩ := P1.c2
  refine AnyBut.region (S := fun w' => w'.cell? ⟨Kc, 7, none⟩ = some (.pointer (some ⟨I, 0, none⟩)) ∧ w'.cell? ⟨w.heap.size, 0, none⟩ = some (.int .i64 1) ∧ w'.cell? ⟨w.heap.size, 1, none⟩ = some (.int .i64 1)) (t := 99) 8 rfl (by kernel_rfl) ?_ ?_
  · refine ⟨?_, ?_, ?_⟩ <;> go_simp
  intro hS
  refine AnyBut.tk0 0 hS rfl (h := ?_); refine AnyBut.tk0 1 hS rfl (h := ?_); refine AnyBut.tk0 2 hS rfl (h := ?_); refine AnyBut.tk0 3 hS rfl (h := ?_); refine AnyBut.tk0 4 hS rfl (h := ?_); refine AnyBut.tk0 7 hS rfl (h := ?_)
  refine AnyBut.one (i := 5) rfl (by kernel_rfl) rfl ?_; intro K hK
  go_wp2_with fail
  refine (at_ix2 build_slab nb E I _ ((hX.call bel0).call (Below.drew (Below.refl _ _))) (by have := bel0.size; simp; omega)).mono ?_
  rintro e w1 ⟨q, cq, rfl, hq, hcq, hqz, hon⟩
  have on1 : Only nb E w w1 := (Only.of_below bel0).trans (((Only.refl nb E w0).drew).trans hon)
  have KK1 : Block w1 Kc 285 [.bool true, .slice (some ⟨jb, 0, none⟩) 1 jc, .slice (some ⟨qb, 0, none⟩) 1 qc, .slice none 0 0, .slice none 0 0, .slice none 0 0, .slice none 0 0, .pointer (some ⟨I, 0, none⟩), .pointer none] := hK0.only on1 (by omega)
  have PP1 : Block w1 w.heap.size 46 [.int .i64 1, .int .i64 1] := (P0.drew).only hon (by omega)
  have V1 := hV.only on1 (by omega)
  have J1 := hJ.only on1 (by omega)
  have R1 := hR.only on1 (by omega)
  clear k0 k1 k2 k3 k4 k5 k6 k7 k8 kl kf K1 p0 p1 pl pf P1 hon
  have K1 := KK1
  obtain ⟨kl, kf, k0, k1, k2, k3, k4, k5, k6, k7, k8⟩ := K1.c9
  have P1 := PP1
  obtain ⟨pl, pf, p0, p1⟩ := P1.c2
  refine hK _ _ ?_ ?_ <;> clear hK K; rotate_left; intro hS; rotate_left
  · refine ⟨?_, ?_, ?_⟩ <;> go_simp
  refine AnyBut.tk0 6 hS rfl (h := ?_)
  refine AnyBut.done (by kernel_rfl) ?_
  have jl := J1.lt; have j0 := J1.cell (j := 0) rfl; have j1 := J1.cell (j := 1) rfl; have j2 := J1.cell (j := 2) rfl; have j3 := J1.cell (j := 3) rfl; have j4 := J1.cell (j := 4) rfl
  have ql := hq.lt; have q0 := hq.cell (j := 0) rfl
  go_wp2_with fail
  refine wp_loop_rounds 2 ?_
  rw [rounds_succ]
  go_wp2_with (at_builtin; refine wpList_append_nil rfl _ _ 22 rfl 3 _ 1 8 Tryz.underlying22 info_int rfl w1.heap.size 0 1 1 [.int .i64 7] rfl rfl rfl (by intro j v hj; rw [Nat.zero_add]; exact (Block.cell (btop (cs := [.int .i64 7]) (by simp)) j).trans hj) (by omega) (by unfold maxLen; omega) (by omega) ?_; intro J k hJ hk)
  rw [rounds_succ]
  go_wp2_with fail
  refine (jstack jb jc rb rc (w1.heap.size + 1) (1 + k) _ (by exact sHas) ((has_top (news := [.int .i64 7]) (by simp)).drew)).mono ?_
  rintro e w2 ⟨g, c', rfl, hg, hG, hb2⟩
  have bel2 : Below w1.heap.size w1 w2 := bel_call (by exact sBel) hb2
  have KK2 := KK1.call bel2
  have PP2 := PP1.call bel2
  have V2 := V1.call bel2
  have z1 := on1.size
  have z2 := bel2.size
  simp at hg
  clear k0 k1 k2 k3 k4 k5 k6 k7 k8 kl kf K1 p0 p1 pl pf P1 hb2 j0 j1 j2 j3 j4 jl q0 ql
  have K1 := KK2
  obtain ⟨kl, kf, k0, k1, k2, k3, k4, k5, k6, k7, k8⟩ := K1.c9
  have P1 := PP2
  obtain ⟨pl, pf, p0, p1⟩ := P1.c2
  go_wp2_with fail
  refine AnyBut.region (S := fun w' => w'.cell? ⟨w.heap.size, 0, none⟩ = some (.int .i64 1) ∧ w'.cell? ⟨w.heap.size, 1, none⟩ = some (.int .i64 1)) (t := 99) 8 rfl (by kernel_rfl) ?_ ?_
  · refine ⟨?_, ?_⟩ <;> go_simp
  clear hS
  intro hS
  refine AnyBut.tk0 0 hS rfl (h := ?_); refine AnyBut.tk0 1 hS rfl (h := ?_); refine AnyBut.tk0 2 hS rfl (h := ?_); refine AnyBut.tk0 3 hS rfl (h := ?_); refine AnyBut.tk0 4 hS rfl (h := ?_); refine AnyBut.tk0 5 hS rfl (h := ?_)
  refine AnyBut.one (i := 6) rfl (by kernel_rfl) rfl ?_; intro K hK; go_simp; refine hK _ _ ?_ ?_ <;> clear hK K; rotate_left; intro hS; rotate_left
  · refine ⟨?_, ?_⟩ <;> go_simp
  refine AnyBut.one (i := 7) rfl (by kernel_rfl) rfl ?_; intro K hK
  go_wp2_with fail
  refine (store_last Kc 8 w2.heap.size (.pointer none) (.int .i64 1) _ ?_ (by go_simp) (by go_simp)).mono ?_
  · exact (Block.drew (btop (cs := [.int .i64 1, .int .i64 1, .slice (some ⟨g, 0, none⟩) 1 c']) rfl)).cell 0
  rintro e w3 ⟨rfl, rfl⟩
  refine hK _ _ ?_ ?_ <;> clear hK K; rotate_left; intro hS; rotate_left
  · refine ⟨?_, ?_⟩ <;> go_simp
  refine AnyBut.done (by kernel_rfl) ?_
  go_wp2_with fail
  go_returns
  have kk : Kept [Kc] w2 _ := (((Kept.refl [Kc] w2).alloc (.cells #[.int .i64 1, .int .i64 1, .slice (some ⟨g, 0, none⟩) 1 c'] 360)).drew).set (p := ⟨Kc, 8, none⟩) (by simp) (.pointer (some ⟨w2.heap.size, 0, none⟩))
  have on2 : Only Kc E w w2 := (on1.wide (by omega) (Nat.le_refl _)).behind bel2
  refine ⟨g, c', rfl, by omega, hG.keptX kk (by simp; omega), ⟨_, _, _, nb, ((KK2.alloc _).drew.set 8 (.pointer (some ⟨w2.heap.size, 0, none⟩))), V2.keptX kk (by simp), hKn, hnE, by simp; omega⟩, ((on2.alloc _).drew).set (.inl ⟨Nat.le_refl _, by simp; omega⟩) _⟩
end Go.Proofs.YthmhdaefkhcenaaGreatDoor
