/- Lemmas for it; no condition: TSlab3 TJuris2. -/
import Derived.Test.YthmhdaefkhcenaaGreatDoorZ08
import Derived.Test.YthmhdaefkhcenaaGreatDoorZ24
import Derived.Test.YthmhdaefkhcenaaGreatDoorZ35
import Derived.Test.YthmhdaefkhcenaaGreatDoorZ36
set_option linter.unusedVariables false
set_option linter.unusedSimpArgs false
namespace Go.Proofs.YthmhdaefkhcenaaGreatDoor
set_option maxRecDepth 100000
set_option maxHeartbeats 8000000
open Go.RowKit

theorem slab_slab (S : Nat) (W : World) (h : SlabsOk W S) : Calls Tryz.prog 357 #[.pointer (some ⟨S, 0, none⟩), .int .i64 0] W fun e w' =>
    ∃ ea ec, e = .returned (.slice (some ⟨ea, 0, none⟩) 2 ec) ∧ Has w' ea edC ∧ Below W.heap.size W w' := by
  obtain ⟨ha, hc, oa, oc, ea, ec, B, H, O, E, h1, h2, h3⟩ := h
  have B0 := B
  obtain ⟨sl, sf, s0, s1, s2, s3⟩ := B0.c4
  have ol := O.lt; have o0 := O.cell (j := 0) rfl; have o1 := O.cell (j := 1) rfl
  go_enter Tryz.func357, Tryz.ntmps357
  go_wp2_with fail
  go_quiet (fail)
  go_wp2_with fail
  go_returns
  exact ⟨ea, ec, rfl, E.drewN _, by exact sBel⟩
theorem bs2_int (b c : Nat) (w : World) (h : Has w b [.int .i64 0, .int .i64 4]) : Calls Tryz.prog 355 #[.slice (some ⟨b, 0, none⟩) 2 c, .int .i64 1] w fun e w' => e = .returned (.tuple #[.int .i64 1, .bool false]) ∧ ∃ q, w' = w.drewN q := by
  refine (Tryz.slices_BinarySearch_int b 0 2 c [0, 4] 1 w (by simp) (by omega) ?_ (by simp)).mono fun e w' h => ⟨h.1, h.2⟩
  intro j hj
  rw [Nat.zero_add]
  refine h.cell ?_
  simp at hj
  rcases (by omega : j = 0 ∨ j = 1) with rfl | rfl <;> rfl
theorem len_slab (S : Nat) (w : World) (h : SlabsOk w S) : Calls Tryz.prog 356 #[.pointer (some ⟨S, 0, none⟩)] w fun e w' => e = .returned (.int .i64 1) ∧ Below w.heap.size w w' := by
  have hq : ∀ w, (binOp .eql 433 (.pointer (some ⟨S, 0, none⟩)) (.pointer none)).run Tryz.prog w = .ok (.bool false) w := fun _ => by kernel_rfl
  obtain ⟨ha, hc, oa, oc, ea, ec, B, H, O, E, h1, h2, h3⟩ := h
  obtain ⟨sl, sf, s0, s1, s2, s3⟩ := B.c4
  go_enter Tryz.func356, Tryz.ntmps356
  go_wp2
  go_returns
  exact ⟨rfl, Below.refl _ _⟩
theorem cross_box (S : Nat) (w : World) (h : SlabsOk w S) : Calls Tryz.prog 314 #[.pointer (some ⟨S, 0, none⟩), .agg #[.int .i64 1, .int .i64 1]] w fun e w' => e = .returned (.int .i64 1) ∧ Below w.heap.size w w' := by
  have hq : ∀ w, (binOp .eql 433 (.pointer (some ⟨S, 0, none⟩)) (.pointer none)).run Tryz.prog w = .ok (.bool false) w := fun _ => by kernel_rfl
  obtain ⟨ha, hc, oa, oc, ea, ec, B, H, O, E, h1, h2, h3⟩ := h
  have B0 := B
  obtain ⟨sl, sf, s0, s1, s2, s3⟩ := B0.c4
  have past_S := past_alloc S; have pastf_S := pastf_alloc S; have pl1_S : S < w.heap.size + 1 := (by omega); have pl2_S : S < w.heap.size + 1 + 1 := (by omega); have pl3_S : S < w.heap.size + 1 + 1 + 1 := (by omega); have pl4_S : S < w.heap.size + 1 + 1 + 1 + 1 := (by omega)
  go_enter Tryz.func314, Tryz.ntmps314
  go_wp2
  refine at_code (fun W => Below w.heap.size w W ∧ Block W w.heap.size 46 [.int .i64 1, .int .i64 1]) ⟨by exact sBel, by exact sBlk⟩ ?_
  clear s0 s1 s2 s3 past_S pastf_S pl1_S pl2_S pl3_S pl4_S
  rintro W0 ⟨bel0, P0⟩
  have B1 := B.call bel0
  have H1 := H.call bel0
  have hS1 := B1.lt
  clear B0 sl sf
  have B2 := B1
  obtain ⟨sl, sf, s0, s1, s2, s3⟩ := B2.c4
  have P1 := P0
  obtain ⟨pl, pf, p0, p1⟩ := P1.c2
  refine AnyBut.region (S := fun w' => w'.cell? ⟨S, 1, none⟩ = some (.slice (some ⟨ha, 0, none⟩) 2 hc) ∧ w'.cell? ⟨w.heap.size, 1, none⟩ = some (.int .i64 1)) (t := 11) 12 rfl (by kernel_rfl) ?_ ?_
  · refine ⟨?_, ?_⟩ <;> go_simp
  intro hS
  refine AnyBut.tk 0 hS rfl (h := ?_); refine AnyBut.tk 1 hS rfl (h := ?_); refine AnyBut.tk 2 hS rfl (h := ?_); refine AnyBut.tk 3 hS rfl (h := ?_); refine AnyBut.tk 4 hS rfl (h := ?_); refine AnyBut.tk 5 hS rfl (h := ?_)
  refine AnyBut.one (i := 6) rfl (by kernel_rfl) rfl ?_; intro K hK
  go_wp2_with fail
  refine (bs2_int ha hc _ (Has.drew H1)).mono ?_
  rintro e W1 ⟨rfl, q, rfl⟩
  refine hK _ _ ?_ ?_ <;> clear hK K; rotate_left; intro hS; rotate_left
  · refine ⟨?_, ?_⟩ <;> go_simp
  (refine AnyBut.one (i := 7) rfl (by kernel_rfl) rfl ?_; intro K hK; go_simp; refine hK _ _ hS ?_; clear hK K; intro _)
  refine AnyBut.tk 8 hS rfl (h := ?_); refine AnyBut.tk 9 hS rfl (h := ?_); refine AnyBut.tk 10 hS rfl (h := ?_)
  refine AnyBut.last rfl (by kernel_rfl) rfl (by kernel_rfl) ?_; intro K hK; go_simp; refine hK _ _ ?_; clear hK K
  go_wp2_with fail
  have bel1 : Below w.heap.size w (W0.drewN (1 + q)) := by exact sBel
  refine at_world (fun W => Below w.heap.size w W ∧ Block W w.heap.size 46 [.int .i64 1, .int .i64 1]) ⟨bel1, P0.drewN _⟩ ?_
  clear s0 s1 s2 s3 sl sf p0 p1 pl pf P1 B2
  rintro W2 ⟨bel2, P2⟩
  refine (len_slab S W2 ⟨ha, hc, oa, oc, ea, ec, B.call bel2, H.call bel2, O.call bel2, E.call bel2, h1, h2, h3⟩).mono ?_
  rintro e W3 ⟨rfl, hb3⟩
  have bel3 := bel_call bel2 hb3
  have P3 := P2.call hb3
  go_wp2_with fail
  refine (slab_slab S W3 ⟨ha, hc, oa, oc, ea, ec, B.call bel3, H.call bel3, O.call bel3, E.call bel3, h1, h2, h3⟩).mono ?_
  rintro e W4 ⟨ea4, ec4, rfl, E4, hb4⟩
  have bel4 := bel_call bel3 hb4
  have P4 := P3.call hb4
  have P5 := P4
  obtain ⟨pl, pf, p0, p1⟩ := P5.c2
  have E5 := E4
  have dl := E5.lt; have d0 := E5.cell (j := 0) rfl; have d1 := E5.cell (j := 1) rfl; have d2 := E5.cell (j := 2) rfl; have d3 := E5.cell (j := 3) rfl; have d4 := E5.cell (j := 4) rfl; have d5 := E5.cell (j := 5) rfl; have d6 := E5.cell (j := 6) rfl; have d7 := E5.cell (j := 7) rfl
  go_wp2_with fail
  refine wp_loop_rounds 3 ?_
  rw [rounds_succ]
  go_wp2_with fail
  refine (turn_any 4 0 4 4 1 1 _ (by omega) (by omega) (by omega) (by omega) (by omega) (by omega)).mono ?_
  rintro e W5 ⟨rfl, hb5⟩
  have bel5 : Below w.heap.size w W5 := bel_call (by exact sBel) hb5
  have P6 : Block W5 w.heap.size 46 [.int .i64 1, .int .i64 1] := by exact sBlk
  have E6 : Has W5 ea4 edC := by exact sHas
  clear p0 p1 pl pf P5 d0 d1 d2 d3 d4 d5 d6 d7 dl E5
  have P7 := P6
  obtain ⟨pl, pf, p0, p1⟩ := P7.c2
  have dl := E6.lt; have d0 := E6.cell (j := 0) rfl; have d1 := E6.cell (j := 1) rfl; have d2 := E6.cell (j := 2) rfl; have d3 := E6.cell (j := 3) rfl; have d4 := E6.cell (j := 4) rfl; have d5 := E6.cell (j := 5) rfl; have d6 := E6.cell (j := 6) rfl; have d7 := E6.cell (j := 7) rfl
  have ht1 : turnZ 4 0 4 4 1 1 = 1 := by decide
  have ht2 : turnZ 0 0 0 4 1 1 = -1 := by decide
  rw [ht1]
  go_wp2_with fail
  rw [rounds_succ]
  go_wp2_with fail
  refine (turn_any 0 0 0 4 1 1 _ (by omega) (by omega) (by omega) (by omega) (by omega) (by omega)).mono ?_
  rintro e W6 ⟨rfl, hb6⟩
  have bel6 : Below w.heap.size w W6 := bel_call (by exact sBel) hb6
  rw [ht2]
  go_wp2_with fail
  rw [rounds_succ]
  go_wp2_with fail
  go_returns
  exact ⟨rfl, bel6⟩
theorem in_slab (S : Nat) (w : World) (h : SlabsOk w S) : Calls Tryz.prog 262 #[.pointer (some ⟨S, 0, none⟩), .agg #[.int .i64 1, .int .i64 1]] w fun e w' => e = .returned (.bool true) ∧ Below w.heap.size w w' := by
  go_enter Tryz.func262, Tryz.ntmps262
  go_wp2_with fail
  refine (cross_box S _ (h.call (by exact sBel))).mono ?_
  rintro e W1 ⟨rfl, hb1⟩
  go_wp2_with fail
  go_returns
  exact ⟨by first | rfl | simp, bel_call (by exact sBel) hb1⟩
end Go.Proofs.YthmhdaefkhcenaaGreatDoor
namespace Go.Proofs.YthmhdaefkhcenaaGreatDoor
set_option maxRecDepth 100000
set_option maxHeartbeats 8000000
open Go.RowKit

theorem sortf1 (b c : Nat) (f : Value) (w : World) : Calls Tryz.prog 263 #[.slice (some ⟨b, 0, none⟩) 1 c, f] w fun e w' => e = .returned (.tuple #[]) ∧ Below w.heap.size w w' := by
  go_enter Tryz.func263, Tryz.ntmps263
  go_wp2
  (repeat (first | (rw [rounds_succ]; go_wp2) | (refine wp_loop_rounds 2 ?_; rw [rounds_succ]; go_wp2) | (go_quiet (fail); go_wp2)))
  go_returns
  exact ⟨rfl, by exact sBel⟩
theorem clone1 (b c : Nat) (x : Int) (w : World) (h : Has w b [.int .i64 x]) : Calls Tryz.prog 94 #[.slice (some ⟨b, 0, none⟩) 1 c] w fun e w' => ∃ g c', e = .returned (.slice (some ⟨g, 0, none⟩) 1 c') ∧ w.heap.size ≤ g ∧ Has w' g [.int .i64 x] ∧ w'.ownsRow w.heap.size 3 1 (.slice (some ⟨g, 0, none⟩) 1 c') 1 [.int .i64 x] ∧ Below w.heap.size w w' := by
  refine (Tryz.slices_Clone_int b 0 1 c [x] w (by simp) (by omega) ?_).mono ?_
  · intro j hj
    rw [Nat.zero_add]
    refine h.cell ?_
    simp at hj
    subst hj
    rfl
  · rintro e w' ⟨v', rfl, hO, hn, hb⟩
    have hO' : w'.ownsRow w.heap.size 3 1 v' 1 [.int .i64 x] := hO
    obtain ⟨A, c', rfl, _, _⟩ := own_form hO'
    obtain ⟨g, rfl, hg, _, hH⟩ := own_has hO' (by omega)
    exact ⟨g, c', rfl, hg, hH, hO', hb⟩
theorem compact1 (b c : Nat) (x : Int) (w : World) (hc : 1 ≤ c) (h : Has w b [.int .i64 x]) (hf : ∀ j, w.frozen? ⟨b, j, none⟩ = false) : Calls Tryz.prog 267 #[.slice (some ⟨b, 0, none⟩) 1 c] w fun e w' => e = .returned (.slice (some ⟨b, 0, none⟩) 1 c) ∧ w.grownBy w' (some b) := by
  refine (Tryz.slices_Compact_int_cells b 0 1 c [x] w (by simp) (by omega) hc ?_ (fun j _ => hf _)).mono ?_
  · intro j hj
    rw [Nat.zero_add]
    refine h.cell ?_
    simp at hj
    subst hj
    rfl
  · rintro e w' ⟨rfl, q, rfl⟩
    exact ⟨by rfl, grown_setCells _ 0 (w.drewN q) ⟨rfl, rfl, rfl, Nat.le_refl _, fun _ _ _ => rfl⟩⟩
theorem jstack (jb jc rb rc q qc : Nat) (w : World) (h : Has w jb (juC rb rc)) (hq : Has w q [.int .i64 7]) : Calls Tryz.prog 201 #[.slice (some ⟨jb, 0, none⟩) 1 jc, .slice (some ⟨q, 0, none⟩) 1 qc] w fun e w' =>
    ∃ g c', e = .returned (.tuple #[.slice (some ⟨g, 0, none⟩) 1 c', .int .i64 0]) ∧ w.heap.size ≤ g ∧ Has w' g [.int .i64 7] ∧ Below w.heap.size w w' := by
  go_enter Tryz.func201, Tryz.ntmps201
  go_wp2_with fail
  refine (jcheck jb jc rb rc _ (by exact sHas)).mono ?_
  rintro e w1 ⟨rfl, hb1⟩
  have bel1 : Below w.heap.size w w1 := bel_call (by exact sBel) hb1
  have L1 : Block w1 w.heap.size 28 [.slice (some ⟨jb, 0, none⟩) 1 jc] := by exact sBlk
  have h1 := h.call bel1
  have q1 := hq.call bel1
  have L2 := L1
  obtain ⟨ll, lf, l0⟩ := L2.c1
  have pl := q1.lt; have p0 := q1.cell (j := 0) rfl
  go_wp2_with fail
  refine wp_loop_rounds 2 ?_
  rw [rounds_succ]
  go_wp2_with fail
  refine (jplace jb jc rb rc _ h1).mono ?_
  rintro e w2 ⟨rfl, hb2⟩
  have bel2 := bel_call bel1 hb2
  have L3 := L1.call hb2
  have h2 := h.call bel2
  have q2 := hq.call bel2
  go_wp2_with fail
  rw [rounds_succ]
  go_wp2_with fail
  refine (clone1 q qc 7 w2 q2).mono ?_
  rintro e w3 ⟨g, c', rfl, hg, hG, hO, hb3⟩
  have bel3 := bel_call bel2 hb3
  go_wp2_with fail
  refine (sortf1 g c' _ w3).mono ?_
  rintro e w4 ⟨rfl, hb4⟩
  have bel4 := bel_call bel3 hb4
  have hG4 := hG.call hb4
  go_wp2_with fail
  refine (clone1 g c' 7 w4 hG4).mono ?_
  rintro e w5 ⟨g2, c2, rfl, hg2, hG2, hO2, hb5⟩
  have bel5 := bel_call bel4 hb5
  have hG5 := hG4.call hb5
  go_wp2_with fail
  refine (compact1 g2 c2 7 w5 (by obtain ⟨_, _, _, hx, _⟩ := own_has hO2 (by omega); exact hx) hG2 (own_frozen hO2)).mono ?_
  rintro e w6 ⟨rfl, G6⟩
  have bel6 := bel_grown bel5 G6 (fun k hk => by cases hk; have := bel4.size; omega)
  have hG6 : Has w6 g [.int .i64 7] := hG5.grown G6 (by have := hG4.lt; simp; omega)
  go_wp2_with fail
  go_returns
  exact ⟨g, c', rfl, by have := bel2.size; omega, hG6, bel6⟩
end Go.Proofs.YthmhdaefkhcenaaGreatDoor
