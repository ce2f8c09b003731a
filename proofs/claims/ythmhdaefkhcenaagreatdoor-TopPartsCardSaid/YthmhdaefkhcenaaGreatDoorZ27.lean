/- Lemmas for it; no condition: TTree TTree2 TTree3 TIndex. -/
import Derived.Test.YthmhdaefkhcenaaGreatDoorZ08
import Derived.Test.YthmhdaefkhcenaaGreatDoorZ14
import Derived.Test.YthmhdaefkhcenaaGreatDoorZ26
set_option linter.unusedVariables false
set_option linter.unusedSimpArgs false
namespace Go.Proofs.YthmhdaefkhcenaaGreatDoor
set_option maxRecDepth 100000
set_option maxHeartbeats 8000000
open Go.RowKit

def bxC : List Value := [.int .i64 0, .int .i64 0, .int .i64 5, .int .i64 5]
theorem info_bx : (Tryz.prog.info? 349).map (fun i => (i.zero, i.size, i.bytes)) = some (some (.agg #[.int .i64 0, .int .i64 0, .int .i64 0, .int .i64 0]), 4, 32) := by kernel_rfl
theorem info_int : (Tryz.prog.info? 3).map (fun i => (i.zero, i.size, i.bytes)) = some (some (.int .i64 0), 1, 8) := by kernel_rfl
theorem clone_bx (b c : Nat) (w : World) (h : Has w b bxC) : Calls Tryz.prog 257 #[.slice (some ⟨b, 0, none⟩) 1 c] w fun e w' => ∃ g c', e = .returned (.slice (some ⟨g, 0, none⟩) 1 c') ∧ w.heap.size ≤ g ∧ 1 ≤ c' ∧ Has w' g bxC ∧ Below w.heap.size w w' := by
  have hl := h.lt
  have hq : ∀ w, (binOp .eql 346 (.slice (some ⟨b, 0, none⟩) 1 c) (.slice none 0 0)).run Tryz.prog w = .ok (.bool false) w := fun _ => by kernel_rfl
  go_enter Tryz.func257, Tryz.ntmps257
  go_wp2_with (at_builtin; refine wpList_append_over rfl _ _ 346 rfl 349 _ 4 32 Tryz.underlying346 info_bx rfl w.heap.size 0 0 0 [] b 0 1 c bxC rfl rfl rfl (fun j v hj => by simp at hj) rfl (fun j v hj => by rw [Nat.zero_add]; exact (h.alloc _).cell hj) (by omega) (by unfold maxLen; omega) (by omega) ?_; intro J k hJ hk)
  go_returns
  exact ⟨w.heap.size + 1, _, by simp; rfl, by omega, by omega, has_top (news := bxC) (by simp), by exact sBel⟩
theorem size_int (w : World) : (sizeOf 3).run Tryz.prog w = .ok 1 w := by kernel_rfl
theorem around_bx (r b o cb co : Nat) (v3 : Value) (w : World) (hco : 1 ≤ co) (hT : Block w r 428 [.bool true, .slice (some ⟨b, 0, none⟩) 1 cb, .slice (some ⟨o, 0, none⟩) 1 co, v3]) (hb : Has w b bxC) (ho : Has w o [.int .i64 0]) :
    Calls Tryz.prog 307 #[.pointer (some ⟨r, 0, none⟩), .int .i64 0, .int .i64 1] w fun e w' => e = .returned (.agg #[.int .i64 0, .int .i64 0, .int .i64 5, .int .i64 5]) ∧ Below w.heap.size w w' := by
  have hl := hb.lt
  have hlo := ho.lt
  obtain ⟨A2, hsl, _⟩ := cut_from (P := Tryz.prog) (T := 22) (E := 3) 1 Tryz.underlying22 size_int (some ⟨o, 0, none⟩) 1 co 0 (by omega) hco
  obtain ⟨tl, tf, t0, t1, t2, t3⟩ := hT.c4
  have xl := hb.lt; have x0 := hb.cell (j := 0) rfl; have x1 := hb.cell (j := 1) rfl; have x2 := hb.cell (j := 2) rfl; have x3 := hb.cell (j := 3) rfl
  have ol := ho.lt; have o0 := ho.cell (j := 0) rfl
  go_enter Tryz.func307, Tryz.ntmps307
  go_wp2_with fail
  go_region
  all_goals go_wp2_with fail
  all_goals (refine wp_loop_rounds 2 ?_; rw [rounds_succ]; go_wp2; rw [rounds_succ]; go_wp2)
  all_goals exact ret_cS (T := 349) rfl rfl rfl (cs := bxC) (sCls) agg_bx size_bx ⟨rfl, by exact sBel⟩
theorem info_node : (Tryz.prog.info? 476).map (fun i => (i.zero, i.size, i.bytes)) = some (some (.agg #[.int .i64 0, .int .i64 0, .int .i64 0, .int .i64 0, .int .i64 0, .int .i64 0]), 6, 48) := by kernel_rfl
def noC : List Value := [.int .i64 0, .int .i64 1, .int .i64 0, .int .i64 0, .int .i64 5, .int .i64 5]
def TreeAt (w : World) (r b o n cb co cn : Nat) : Prop :=
  Block w r 428 [.bool true, .slice (some ⟨b, 0, none⟩) 1 cb, .slice (some ⟨o, 0, none⟩) 1 co, .slice (some ⟨n, 0, none⟩) 1 cn] ∧ Has w b bxC ∧ Has w o [.int .i64 0] ∧ Has w n noC ∧ 1 ≤ cb ∧ 1 ≤ co ∧ 1 ≤ cn
def noZ : List Value := [.int .i64 0, .int .i64 0, .int .i64 0, .int .i64 0, .int .i64 0, .int .i64 0]
theorem part_bx (r b o cb co : Nat) (w : World) (hcb : 1 ≤ cb) (hco : 1 ≤ co) (hT : Block w r 428 [.bool true, .slice (some ⟨b, 0, none⟩) 1 cb, .slice (some ⟨o, 0, none⟩) 1 co, .slice none 0 0]) (hb : Has w b bxC) (ho : Has w o [.int .i64 0]) (hrb : b ≠ r) (hro : o ≠ r) :
    Calls Tryz.prog 258 #[.pointer (some ⟨r, 0, none⟩), .int .i64 0, .int .i64 0, .int .i64 1, .bool true] w fun e w' => e = .returned (.tuple #[]) ∧ (∃ n cn, w.heap.size ≤ n ∧ TreeAt w' r b o n cb co cn) ∧ Below r w w' := by
  have hl := hb.lt
  have hlo := ho.lt
  have hlr := hT.lt
  have T0 := hT
  obtain ⟨tl, tf, t0, t1, t2, t3⟩ := T0.c4
  have past_r := past_alloc r; have pastf_r := pastf_alloc r; have pl1_r : r < w.heap.size + 1 := (by omega); have pl2_r : r < w.heap.size + 1 + 1 := (by omega); have pl3_r : r < w.heap.size + 1 + 1 + 1 := (by omega); have pl4_r : r < w.heap.size + 1 + 1 + 1 + 1 := (by omega); have pl5_r : r < w.heap.size + 1 + 1 + 1 + 1 + 1 := (by omega); have pl6_r : r < w.heap.size + 1 + 1 + 1 + 1 + 1 + 1 := (by omega)
  go_enter Tryz.func258, Tryz.ntmps258
  go_wp2_with fail
  refine wp_loop_rounds 2 ?_
  rw [rounds_succ]
  go_wp2_with fail
  refine AnyBut.region (S := fun w' => w'.cell? ⟨w.heap.size, 0, none⟩ = some (.pointer (some ⟨r, 0, none⟩)) ∧ w'.cell? ⟨r, 3, none⟩ = some (.slice none 0 0)) (t := 10) 11 rfl (by kernel_rfl) ?_ ?_
  · refine ⟨?_, ?_⟩ <;> go_simp
  intro hS
  refine AnyBut.tk 0 hS rfl (h := ?_); refine AnyBut.tk 1 hS rfl (h := ?_); refine AnyBut.tk 2 hS rfl (h := ?_); refine AnyBut.tk 3 hS rfl (h := ?_); refine AnyBut.tk 4 hS rfl (h := ?_); refine AnyBut.tk 5 hS rfl (h := ?_)
  refine AnyBut.one (i := 6) rfl (by kernel_rfl) rfl ?_; intro K hK; go_simp; refine hK _ _ ?_ ?_ <;> clear hK K; rotate_left; intro hS; rotate_left
  · refine ⟨?_, ?_⟩ <;> go_simp
  refine AnyBut.one (i := 7) rfl (by kernel_rfl) rfl ?_; intro K hK
  refine op_append_nil _ _ 426 rfl 476 _ 6 48 Tryz.underlying426 info_node rfl (w.heap.size + 1 + 1) 0 1 1 noZ rfl rfl rfl (by intro j v hj; rw [Nat.zero_add]; exact (Block.cell (Block.drew (btop (cs := noZ) (by simp))) j).trans hj) (by omega) (by unfold maxLen; omega) (by omega) ?_
  intro J k hJ hk
  refine hK _ _ ?_ ?_ <;> clear hK K; rotate_left; intro hS; rotate_left
  · refine ⟨?_, ?_⟩ <;> go_simp
  (refine AnyBut.one (i := 8) rfl (by kernel_rfl) rfl ?_; intro K hK; go_simp; refine hK _ _ hS ?_; clear hK K; intro _); (refine AnyBut.one (i := 9) rfl (by kernel_rfl) rfl ?_; intro K hK; go_simp; refine hK _ _ hS ?_; clear hK K; intro _)
  refine AnyBut.last rfl (by kernel_rfl) rfl (by kernel_rfl) ?_; intro K hK; go_simp; refine hK _ _ ?_; clear hK K
  go_wp2_with fail
  refine at_code (fun W => ∃ n cn, w.heap.size + 1 < n ∧ 1 ≤ cn ∧ Block W r 428 [.bool true, .slice (some ⟨b, 0, none⟩) 1 cb, .slice (some ⟨o, 0, none⟩) 1 co, .slice (some ⟨n, 0, none⟩) 1 cn] ∧ Block W w.heap.size 343 [.pointer (some ⟨r, 0, none⟩)] ∧ Has W n noZ ∧ Has W b bxC ∧ Has W o [.int .i64 0] ∧ Below r w W ∧ (∀ j, W.frozen? ⟨n, j, none⟩ = false) ∧ w.heap.size ≤ W.heap.size) ⟨w.heap.size + 1 + 1 + 1, 1 + k, by omega, by omega, by (first | (with_reducible assumption) | ((repeat' (first | (with_reducible assumption) | (with_reducible refine Block.drew ?_) | (with_reducible refine Block.alloc ?_ _) | exact hT.set 3 _ | (with_reducible refine Block.far ?_ (by first | (simp; done) | (simp; omega)) _))); done) | ((repeat' (first | (with_reducible assumption) | (with_reducible refine btop ?_; first | (simp; done) | (simp; omega) | omega) | (with_reducible refine Block.alloc ?_ _) | (with_reducible refine Block.drewN ?_ _) | (with_reducible refine Block.drew ?_) | (with_reducible refine Block.call ?_ hb1) | (with_reducible refine Block.call ?_ hb2) | (with_reducible refine Block.call ?_ hb3) | (with_reducible refine Block.call ?_ hb4) | (with_reducible refine Block.call ?_ hb5) | (with_reducible refine Block.call ?_ hb6) | (with_reducible refine Block.call ?_ hb7) | (with_reducible refine Block.call ?_ hb8) | (with_reducible refine Block.call ?_ hb9))); done) | ((repeat' (first | (with_reducible assumption) | (with_reducible refine Has.drew ?_) | (refine has_top ?_; simp; done) | (with_reducible refine Has.alloc ?_ _) | (with_reducible refine Has.far ?_ (by first | (simp; done) | (simp; omega)) _))); done) | ((repeat' (first | (with_reducible assumption) | (with_reducible refine Has.alloc ?_ _) | (with_reducible refine Has.drewN ?_ _) | (with_reducible refine Has.drew ?_) | (with_reducible refine Has.far ?_ (by first | (simp; done) | (simp; omega)) _) | (with_reducible refine Has.call ?_ hb1) | (with_reducible refine Has.call ?_ hb2) | (with_reducible refine Has.call ?_ hb3) | (with_reducible refine Has.call ?_ hb4) | (with_reducible refine Has.call ?_ hb5) | (with_reducible refine Has.call ?_ hb6) | (with_reducible refine Has.call ?_ hb7) | (with_reducible refine Has.call ?_ hb8) | (with_reducible refine Has.call ?_ hb9) | (refine Has.of_block ?_))); done) | ((repeat' (first | (with_reducible exact Below.refl _ _) | (with_reducible assumption) | (with_reducible refine Below.drew ?_) | (refine Below.alloc ?_ (by simp; omega) _) | (with_reducible refine Below.setCell ?_ (by first | (simp; done) | (simp; omega)) _))); done) | ((repeat' (first | (with_reducible exact Below.refl _ _) | (with_reducible assumption) | (with_reducible refine bel_drewN ?_ _) | (with_reducible refine Below.drew ?_) | (with_reducible refine bel_alloc ?_ _) | (with_reducible refine bel_set ?_ (by first | (simp; done) | (simp; omega)) _))); done) | (intro j; go_simp; done) | omega | (simp; done) | (simp; omega)), by exact sFacT, by exact sFacT, by exact sFacT, by exact sFacT, by exact sFacT, by exact sFacT, by exact sFacT⟩ ?_
  rintro W ⟨n, cn, hn, hcn, A, B, N, hb1, ho1, bel1, fz, hz⟩
  clear past_r pastf_r pl1_r pl2_r pl3_r pl4_r pl5_r pl6_r t0 t1 t2 t3 tf tl T0
  have A0 := A
  obtain ⟨tl, tf, t0, t1, t2, t3⟩ := A0.c4
  have B0 := B
  obtain ⟨pl, pf, p0⟩ := B0.c1
  have nl := N.lt
  go_wp2_with fail
  refine AnyBut.region (S := fun w' => w'.cell? ⟨w.heap.size, 0, none⟩ = some (.pointer (some ⟨r, 0, none⟩)) ∧ w'.cell? ⟨r, 3, none⟩ = some (.slice (some ⟨n, 0, none⟩) 1 cn)) (t := 13) 14 rfl (by kernel_rfl) ?_ ?_
  · refine ⟨?_, ?_⟩ <;> go_simp
  intro hS
  refine AnyBut.tk 0 hS rfl (h := ?_); refine AnyBut.tk 1 hS rfl (h := ?_); refine AnyBut.tk 2 hS rfl (h := ?_); refine AnyBut.tk 3 hS rfl (h := ?_); refine AnyBut.tk 4 hS rfl (h := ?_); refine AnyBut.tk 5 hS rfl (h := ?_); refine AnyBut.tk 6 hS rfl (h := ?_); refine AnyBut.tk 7 hS rfl (h := ?_); refine AnyBut.tk 8 hS rfl (h := ?_); refine AnyBut.tk 9 hS rfl (h := ?_)
  refine AnyBut.one (i := 10) rfl (by kernel_rfl) rfl ?_; intro K hK
  go_wp2_with fail
  refine (around_bx r b o cb co _ _ hco A.drew hb1.drew ho1.drew).mono ?_
  rintro e w1 ⟨rfl, hb2⟩
  have A1 := A.drew.call hb2
  have B1 := B.drew.call hb2
  have N1 := N.drew.call hb2
  have hbb := hb1.drew.call hb2
  have hoo := ho1.drew.call hb2
  have rl := A.lt
  have bel2 : Below r w w1 := (Below.drew bel1).trans (hb2.mono (by simp; omega))
  have fz1 : ∀ j, w1.frozen? ⟨n, j, none⟩ = false := fun j => (hb2.frozen (p := ⟨n, j, none⟩) nl).trans (fz j)
  have A2 := A1
  clear t0 t1 t2 t3 tl tf p0 pl pf
  obtain ⟨tl, tf, t0, t1, t2, t3⟩ := A2.c4
  have B2 := B1
  obtain ⟨pl, pf, p0⟩ := B2.c1
  have nl1 := N1.lt
  have ql := N1.lt; have q0 := N1.cell (j := 0) rfl; have q1 := N1.cell (j := 1) rfl; have q2 := N1.cell (j := 2) rfl; have q3 := N1.cell (j := 3) rfl; have q4 := N1.cell (j := 4) rfl; have q5 := N1.cell (j := 5) rfl
  refine hK _ _ ?_ ?_ <;> clear hK K
  · refine ⟨?_, ?_⟩ <;> go_simp
  clear hS
  intro hS
  (refine AnyBut.one (i := 11) rfl (by kernel_rfl) rfl ?_; intro K hK; go_simp; refine hK _ _ hS ?_; clear hK K; intro _); (refine AnyBut.one (i := 12) rfl (by kernel_rfl) rfl ?_; intro K hK; go_simp; refine hK _ _ hS ?_; clear hK K; intro _)
  refine AnyBut.last rfl (by kernel_rfl) rfl (by kernel_rfl) ?_; intro K hK; go_simp; refine hK _ _ ?_; clear hK K
  go_wp2_with fail
  go_returns
  refine ⟨rfl, ⟨n, cn, by omega, ?_, ?_, ?_, has_cells (by simp; omega) ?_, hcb, hco, hcn⟩, ?_⟩
  · (repeat' (first | (with_reducible exact A1) | (with_reducible refine Block.drew ?_) | (with_reducible refine Block.far ?_ (by first | (simp; done) | (simp; omega)) _)))
  · (repeat' (first | (with_reducible exact hbb) | (with_reducible refine Has.drew ?_) | (with_reducible refine Has.far ?_ (by first | (simp; done) | (simp; omega)) _)))
  · (repeat' (first | (with_reducible exact hoo) | (with_reducible refine Has.drew ?_) | (with_reducible refine Has.far ?_ (by first | (simp; done) | (simp; omega)) _)))
  · exact sCls
  · (repeat' (first | (with_reducible exact bel2) | (with_reducible refine Below.drew ?_) | (with_reducible refine Below.setCell ?_ (by first | (simp; done) | (simp; omega)) _)))
end Go.Proofs.YthmhdaefkhcenaaGreatDoor
namespace Go.Proofs.YthmhdaefkhcenaaGreatDoor
open Go.RowKit

set_option maxRecDepth 100000 in
set_option maxHeartbeats 8000000 in
theorem build_bx (b c : Nat) (w : World) (h : Has w b bxC) : Calls Tryz.prog 195 #[.slice (some ⟨b, 0, none⟩) 1 c] w fun e w' =>
    ∃ r b' o n cb co cn, e = .returned (.tuple #[.pointer (some ⟨r, 0, none⟩), .int .i64 0]) ∧ w.heap.size ≤ r ∧ (w.heap.size ≤ b' ∧ w.heap.size ≤ o ∧ w.heap.size ≤ n) ∧ TreeAt w' r b' o n cb co cn ∧ Below w.heap.size w w' := by
  go_enter Tryz.func195, Tryz.ntmps195
  go_wp2_with fail
  refine (clone_bx b c _ h).mono ?_
  rintro e w1 ⟨g, cg, rfl, hg, hcg, G1, hb1⟩
  have gl := G1.lt
  go_wp2_with fail
  refine wp_loop_rounds 2 ?_
  rw [rounds_succ]
  go_wp2_with (at_builtin; refine wpList_append_nil rfl _ _ 22 rfl 3 _ 1 8 Tryz.underlying22 info_int rfl (w1.heap.size + 1) 0 1 1 [.int .i64 0] rfl rfl rfl (by intro j v hj; rw [Nat.zero_add]; exact (Block.cell (btop (cs := [.int .i64 0]) (by simp)) j).trans hj) (by omega) (by unfold maxLen; omega) (by omega) ?_; intro J k hJ hk)
  rw [rounds_succ]
  go_wp2_with fail
  have hz := hb1.size
  refine at_world (fun W => Block W w1.heap.size 428 [.bool true, .slice (some ⟨g, 0, none⟩) 1 cg, .slice (some ⟨w1.heap.size + 1 + 1, 0, none⟩) 1 (1 + k), .slice none 0 0] ∧ Has W g bxC ∧ Has W (w1.heap.size + 1 + 1) [.int .i64 0] ∧ Below w.heap.size w W) ⟨by exact sFac, by exact sFac, by exact sFac, by exact sFac⟩ ?_
  rintro W ⟨A, G, O, bel⟩
  refine (part_bx w1.heap.size g (w1.heap.size + 1 + 1) cg (1 + k) W hcg (by omega) A G O (by omega) (by omega)).mono ?_
  rintro e w2 ⟨rfl, ⟨n, cn, hn, T⟩, hb2⟩
  go_wp2_with fail
  go_returns
  exact ⟨w1.heap.size, g, w1.heap.size + 1 + 1, n, cg, 1 + k, cn, rfl, hz, ⟨hg, by omega, by have := bel.size; omega⟩, T, bel.trans (hb2.mono hz)⟩
end Go.Proofs.YthmhdaefkhcenaaGreatDoor
namespace Go.Proofs.YthmhdaefkhcenaaGreatDoor
set_option maxRecDepth 100000
set_option maxHeartbeats 8000000
open Go.RowKit

theorem ptin_box (w : World) : Calls Tryz.prog 350 #[.agg #[.int .i64 1, .int .i64 1], .agg #[.int .i64 0, .int .i64 0, .int .i64 5, .int .i64 5]] w fun e w' => e = .returned (.bool true) ∧ Below w.heap.size w w' := by
  go_enter Tryz.func350, Tryz.ntmps350
  go_wp2
  go_returns
  exact ⟨by first | rfl | simp, by exact sBel⟩
theorem at1_box (g : Nat) (w : World) (h : Block w g 46 [.int .i64 1, .int .i64 1]) : Calls Tryz.prog 349 #[.agg #[.int .i64 0, .int .i64 0, .int .i64 5, .int .i64 5], .pointer (some ⟨g, 0, none⟩)] w fun e w' => e = .returned (.bool true) ∧ Below w.heap.size w w' := by
  obtain ⟨kl, kf, k0, k1⟩ := h.c2
  go_enter Tryz.func349, Tryz.ntmps349
  go_wp2_with fail
  refine (ptin_box _).mono ?_
  rintro e w1 ⟨rfl, hb1⟩
  have bel1 : Below w.heap.size w w1 := bel_call (by exact sBel) hb1
  go_wp2_with fail
  go_returns
  exact ⟨rfl, bel1⟩
theorem sort1_int (b c : Nat) (w : World) : Calls Tryz.prog 353 #[.slice (some ⟨b, 0, none⟩) 1 c] w fun e w' => e = .returned (.tuple #[]) ∧ Below w.heap.size w w' := by
  go_enter Tryz.func353, Tryz.ntmps353
  go_wp2
  (repeat (first | (rw [rounds_succ]; go_wp2) | (refine wp_loop_rounds 2 ?_; rw [rounds_succ]; go_wp2) | (go_quiet (fail); go_wp2)))
  go_returns
  exact ⟨rfl, by exact sBel⟩
theorem walk_box (g r b o n cb co cn : Nat) (w : World) (h : TreeAt w r b o n cb co cn) (hp : Block w g 46 [.int .i64 1, .int .i64 1]) :
    Calls Tryz.prog 401 #[.pointer (some ⟨r, 0, none⟩), .int .i64 0, .func (.func 349) #[] #[.pointer (some ⟨g, 0, none⟩)]] w fun e w' =>
      ∃ s, e = .returned (.slice (some ⟨s, 0, none⟩) 1 1) ∧ Block w' s 3 [.int .i64 0] ∧ w.heap.size ≤ s ∧ Below w.heap.size w w' := by
  obtain ⟨hT, hB, hO, hN, hcb, hco, hcn⟩ := h
  have A := at1_box g
  have T1 := hT
  have N1 := hN
  obtain ⟨tl, tf, t0, t1, t2, t3⟩ := T1.c4
  have nl := N1.lt; have n0 := N1.cell (j := 0) rfl; have n1 := N1.cell (j := 1) rfl; have n2 := N1.cell (j := 2) rfl; have n3 := N1.cell (j := 3) rfl; have n4 := N1.cell (j := 4) rfl; have n5 := N1.cell (j := 5) rfl
  go_enter Tryz.func401, Tryz.ntmps401
  go_wp2_with fail
  refine (A _ (by exact sBlk)).mono ?_
  rintro e w1 ⟨rfl, hb1⟩
  have bel1 : Below w.heap.size w w1 := bel_call (by exact sBel) hb1
  have T2 : Block w1 r 428 [.bool true, .slice (some ⟨b, 0, none⟩) 1 cb, .slice (some ⟨o, 0, none⟩) 1 co, .slice (some ⟨n, 0, none⟩) 1 cn] := by exact sBlk
  have O2 : Has w1 o [.int .i64 0] := by exact sHas
  have M2 : Block w1 w.heap.size 476 [.int .i64 0, .int .i64 1, .int .i64 0, .int .i64 0, .int .i64 5, .int .i64 5] := by exact sBlk
  clear t0 t1 t2 t3 tl tf n0 n1 n2 n3 n4 n5 nl T1 N1
  have T3 := T2
  obtain ⟨tl, tf, t0, t1, t2, t3⟩ := T3.c4
  have ol := O2.lt; have o0 := O2.cell (j := 0) rfl
  have M3 := M2
  obtain ⟨ml, mf, m0, m1, m2, m3, m4, m5⟩ := M3.c6
  go_wp2_with fail
  refine AnyBut.region (S := fun w' => w'.cell? ⟨r, 2, none⟩ = some (.slice (some ⟨o, 0, none⟩) 1 co) ∧ w'.cell? ⟨o, 0, none⟩ = some (.int .i64 0) ∧ w'.cell? ⟨w.heap.size, 0, none⟩ = some (.int .i64 0)) (t := 9) 10 rfl (by kernel_rfl) ?_ ?_
  · refine ⟨?_, ?_, ?_⟩ <;> go_simp
  intro hS
  refine AnyBut.tk 0 hS rfl (h := ?_); refine AnyBut.tk 1 hS rfl (h := ?_); refine AnyBut.tk 2 hS rfl (h := ?_); refine AnyBut.tk 3 hS rfl (h := ?_); refine AnyBut.tk 4 hS rfl (h := ?_); refine AnyBut.tk 5 hS rfl (h := ?_); refine AnyBut.tk 6 hS rfl (h := ?_); refine AnyBut.tk 7 hS rfl (h := ?_)
  refine AnyBut.one (i := 8) rfl (by kernel_rfl) rfl ?_; intro K hK; go_simp; refine hK _ _ ?_ ?_ <;> clear hK K; rotate_left; intro hS; rotate_left
  · refine ⟨?_, ?_, ?_⟩ <;> go_simp
  refine AnyBut.last rfl (by kernel_rfl) rfl (by kernel_rfl) ?_; intro K hK; go_simp; refine hK _ _ ?_; clear hK K
  go_wp2_with fail
  go_returns
  exact ⟨w1.heap.size, rfl, by exact sBlk, bel1.size, by exact sBel⟩
theorem asks_box (g r b o n cb co cn : Nat) (w : World) (h : TreeAt w r b o n cb co cn) (hp : Block w g 46 [.int .i64 1, .int .i64 1]) :
    Calls Tryz.prog 348 #[.pointer (some ⟨r, 0, none⟩), .func (.func 349) #[] #[.pointer (some ⟨g, 0, none⟩)]] w fun e w' =>
      ∃ s, e = .returned (.slice (some ⟨s, 0, none⟩) 1 1) ∧ Block w' s 3 [.int .i64 0] ∧ w.heap.size ≤ s ∧ Below w.heap.size w w' := by
  have hq : ∀ w, (binOp .eql 343 (.pointer (some ⟨r, 0, none⟩)) (.pointer none)).run Tryz.prog w = .ok (.bool false) w := fun _ => by kernel_rfl
  go_enter Tryz.func348, Tryz.ntmps348
  go_wp2_with fail
  refine (walk_box g r b o n cb co cn _ h hp).mono ?_
  rintro e w1 ⟨s, rfl, hs, hl, hb1⟩
  go_wp2_with fail
  refine (sort1_int s 1 _).mono ?_
  rintro e w2 ⟨rfl, hb2⟩
  go_wp2_with fail
  go_returns
  exact ⟨s, rfl, hs.call hb2, hl, bel_call hb1 hb2⟩
theorem tat_box (r b o n cb co cn : Nat) (w : World) (h : TreeAt w r b o n cb co cn) :
    Calls Tryz.prog 310 #[.pointer (some ⟨r, 0, none⟩), .agg #[.int .i64 1, .int .i64 1]] w fun e w' =>
      ∃ s, e = .returned (.slice (some ⟨s, 0, none⟩) 1 1) ∧ Block w' s 3 [.int .i64 0] ∧ w.heap.size ≤ s ∧ Below w.heap.size w w' := by
  obtain ⟨hT, hB, hO, hN, hcb, hco, hcn⟩ := h
  go_enter Tryz.func310, Tryz.ntmps310
  go_wp2_with fail
  refine (asks_box w.heap.size r b o n cb co cn _ ⟨by exact sBlk, by exact sHas, by exact sHas, by exact sHas, hcb, hco, hcn⟩ (by exact sBlk)).mono ?_
  rintro e w1 ⟨s, rfl, hs, hl, hb1⟩
  simp at hl
  go_wp2_with fail
  go_returns
  exact ⟨s, rfl, hs, by omega, bel_call (by exact sBel) hb1⟩
end Go.Proofs.YthmhdaefkhcenaaGreatDoor
namespace Go.Proofs.YthmhdaefkhcenaaGreatDoor
open Go.RowKit

theorem info_pts : (Tryz.prog.info? 82).map (fun i => (i.zero, i.size, i.bytes)) = some (some (.slice none 0 0), 1, 24) := by kernel_rfl
theorem agg_rg (w : World) : (isAgg 39).run Tryz.prog w = .ok true w := by kernel_rfl
theorem size_rg (w : World) : (sizeOf 39).run Tryz.prog w = .ok 1 w := by kernel_rfl
set_option maxRecDepth 100000 in
set_option maxHeartbeats 8000000 in
theorem clone_ix (rb rc b c : Nat) (w : World) (hr : Has w rb [.slice (some ⟨b, 0, none⟩) 4 c]) (h : Has w b boxC) :
    Calls Tryz.prog 194 #[.agg #[.slice (some ⟨rb, 0, none⟩) 1 rc]] w fun e w' => ∃ rb' rc' b' c', e = .returned (.agg #[.slice (some ⟨rb', 0, none⟩) 1 rc']) ∧ 1 ≤ rc' ∧ Has w' rb' [.slice (some ⟨b', 0, none⟩) 4 c'] ∧ Has w' b' boxC ∧ w.heap.size ≤ rb' ∧ w.heap.size ≤ b' ∧ Below w.heap.size w w' := by
  have kl := hr.lt; have k0 := hr.cell (j := 0) rfl
  have hl := h.lt
  have hrl := hr.lt
  have past_rb := past_alloc rb; have pastf_rb := pastf_alloc rb; have pl1_rb : rb < w.heap.size + 1 := (by omega); have pl2_rb : rb < w.heap.size + 1 + 1 := (by omega); have pl3_rb : rb < w.heap.size + 1 + 1 + 1 := (by omega); have pl4_rb : rb < w.heap.size + 1 + 1 + 1 + 1 := (by omega); have pl5_rb : rb < w.heap.size + 1 + 1 + 1 + 1 + 1 := (by omega); have pl6_rb : rb < w.heap.size + 1 + 1 + 1 + 1 + 1 + 1 := (by omega)
  go_enter Tryz.func194, Tryz.ntmps194
  go_wp2_with fail
  refine wp_loop_rounds 2 ?_
  rw [rounds_succ]
  go_wp2_with fail
  refine AnyBut.region (S := fun w' => w'.cell? ⟨w.heap.size + 1 + 1, 0, none⟩ = some (.slice none 0 0)) (t := 7) 8 rfl (by kernel_rfl) ?_ ?_
  · go_simp
  intro hS
  refine AnyBut.tk 0 hS rfl (h := ?_); refine AnyBut.tk 1 hS rfl (h := ?_); refine AnyBut.tk 2 hS rfl (h := ?_)
  refine AnyBut.one (i := 3) rfl (by kernel_rfl) rfl ?_; intro K hK
  refine op_append_nil _ _ 82 rfl 46 _ 2 16 Tryz.underlying82 info_pt rfl b 0 4 c boxC rfl rfl rfl (by intro j v hj; rw [Nat.zero_add]; exact (Has.cell (by exact sHas) hj)) (by omega) (by unfold maxLen; omega) (by omega) ?_
  intro J k hJ hk
  refine hK _ _ ?_ ?_ <;> clear hK K; rotate_left; intro hS; rotate_left
  · go_simp
  refine AnyBut.one (i := 4) rfl (by kernel_rfl) rfl ?_; intro K hK; go_simp; refine hK _ _ ?_ ?_ <;> clear hK K; rotate_left; intro hS; rotate_left
  · go_simp
  refine AnyBut.one (i := 5) rfl (by kernel_rfl) rfl ?_; intro K hK
  refine op_append_nil _ _ 37 rfl 82 _ 1 24 Tryz.underlying37 info_pts rfl (w.heap.size + 1 + 1 + 1 + 1) 0 1 1 [.slice (some ⟨w.heap.size + 1 + 1 + 1, 0, none⟩) 4 (4 + k)] rfl rfl rfl (by intro j v hj; rw [Nat.zero_add]; exact (Block.cell (Block.drew (Block.drew (btop (cs := [.slice (some ⟨w.heap.size + 1 + 1 + 1, 0, none⟩) 4 (4 + k)]) (by simp)))) j).trans hj) (by omega) (by unfold maxLen; omega) (by omega) ?_
  intro J2 k2 hJ2 hk2
  refine hK _ _ ?_ ?_ <;> clear hK K; rotate_left; intro hS; rotate_left
  · go_simp
  (refine AnyBut.one (i := 6) rfl (by kernel_rfl) rfl ?_; intro K hK; go_simp; refine hK _ _ hS ?_; clear hK K; intro _)
  refine AnyBut.last rfl (by kernel_rfl) rfl (by kernel_rfl) ?_; intro K hK; go_simp; refine hK _ _ ?_; clear hK K
  go_wp2_with fail
  rw [rounds_succ]
  go_wp2_with fail
  refine ret_cS (T := 39) rfl rfl rfl (cs := [.slice (some ⟨w.heap.size + 1 + 1 + 1 + 1 + 1, 0, none⟩) 1 (1 + k2)]) (sCls) agg_rg size_rg ⟨w.heap.size + 1 + 1 + 1 + 1 + 1, 1 + k2, w.heap.size + 1 + 1 + 1, 4 + k, rfl, by omega, ?_, ?_, by omega, by omega, ?_⟩
  · exact sFac
  · exact sFac
  · exact sFac
end Go.Proofs.YthmhdaefkhcenaaGreatDoor
