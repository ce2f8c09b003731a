/- Lemmas for it; no condition: TIndex3 TIndex4 TIndex5 TCalc. -/
import Derived.Test.YthmhdaefkhcenaaGreatDoorZ08
import Derived.Test.YthmhdaefkhcenaaGreatDoorZ13
import Derived.Test.YthmhdaefkhcenaaGreatDoorZ20
import Derived.Test.YthmhdaefkhcenaaGreatDoorZ31
import Derived.Test.YthmhdaefkhcenaaGreatDoorZ37
import Derived.Test.YthmhdaefkhcenaaGreatDoorZ39
set_option linter.unusedVariables false
set_option linter.unusedSimpArgs false
namespace Go.Proofs.YthmhdaefkhcenaaGreatDoor
open Go.RowKit

def BuildSlabOk : Prop := ∀ (rb rc b c : Nat) (w : World), 1 ≤ rc → Has w rb [.slice (some ⟨b, 0, none⟩) 4 c] → Has w b boxC →
  Calls Tryz.prog 313 #[.agg #[.slice (some ⟨rb, 0, none⟩) 1 rc]] w fun e w' => ∃ S, e = .returned (.tuple #[.pointer (some ⟨S, 0, none⟩), .agg #[.int .i64 0, .int .i64 0]]) ∧ w.heap.size ≤ S ∧ SlabsOk w' S ∧ Below w.heap.size w w'
set_option maxRecDepth 100000 in
set_option maxHeartbeats 8000000 in
theorem slabs1_ix (hbs : BuildSlabOk) (px qi I gl gc rb rc b c t o s : Nat) (w : World) (hrc : 1 ≤ rc) (X : Block w I 345 [.bool true, .slice (some ⟨gl, 0, none⟩) 1 gc, .pointer (some ⟨t, 0, none⟩), .slice (some ⟨o, 0, none⟩) 1 1, .slice (some ⟨s, 0, none⟩) 1 1])
    (G : Has w gl [.slice (some ⟨rb, 0, none⟩) 1 rc]) (R : Has w rb [.slice (some ⟨b, 0, none⟩) 4 c]) (h : Has w b boxC) (hs : Block w s 433 [.pointer none]) (hp : Block w px 278 [.pointer (some ⟨I, 0, none⟩)]) (hq : Block w qi 3 [.int .i64 0]) :
    Calls Tryz.prog 312 #[.pointer (some ⟨px, 0, none⟩), .pointer (some ⟨qi, 0, none⟩)] w fun e w' => e = .returned (.tuple #[]) ∧ ∃ w1 S, Below w.heap.size w w1 ∧ w.heap.size ≤ S ∧ SlabsOk w1 S ∧ w' = w1.setCell ⟨s, 0, none⟩ (.pointer (some ⟨S, 0, none⟩)) := by
  have X0 := X
  obtain ⟨xl, xf, x0, x1, x2, x3, x4⟩ := X0.c5
  have ggl := G.lt; have gg0 := G.cell (j := 0) rfl
  have hp0 := hp
  obtain ⟨pl, pf, p0⟩ := hp0.c1
  have hq0 := hq
  obtain ⟨ql, qf, q0⟩ := hq0.c1
  go_enter Tryz.func312, Tryz.ntmps312
  go_wp2_with fail
  refine AnyBut.region (S := fun w' => w'.cell? ⟨px, 0, none⟩ = some (.pointer (some ⟨I, 0, none⟩)) ∧ w'.cell? ⟨qi, 0, none⟩ = some (.int .i64 0) ∧ w'.cell? ⟨I, 1, none⟩ = some (.slice (some ⟨gl, 0, none⟩) 1 gc) ∧ w'.cell? ⟨I, 4, none⟩ = some (.slice (some ⟨s, 0, none⟩) 1 1) ∧ w'.cell? ⟨gl, 0, none⟩ = some (.slice (some ⟨rb, 0, none⟩) 1 rc)) (t := 99) 18 rfl (by kernel_rfl) ?_ ?_
  · refine ⟨?_, ?_, ?_, ?_, ?_⟩ <;> go_simp
  intro hS
  refine AnyBut.tk0 0 hS rfl (h := ?_); refine AnyBut.tk0 1 hS rfl (h := ?_); refine AnyBut.tk0 2 hS rfl (h := ?_); refine AnyBut.tk0 3 hS rfl (h := ?_); refine AnyBut.tk0 4 hS rfl (h := ?_); refine AnyBut.tk0 5 hS rfl (h := ?_); refine AnyBut.tk0 6 hS rfl (h := ?_); refine AnyBut.tk0 7 hS rfl (h := ?_); refine AnyBut.tk0 8 hS rfl (h := ?_); refine AnyBut.tk0 9 hS rfl (h := ?_); refine AnyBut.tk0 10 hS rfl (h := ?_); refine AnyBut.tk0 11 hS rfl (h := ?_)
  refine AnyBut.one (i := 12) rfl (by kernel_rfl) rfl ?_; intro K hK
  go_wp2_with fail
  refine (hbs rb rc b c _ hrc R.drew h.drew).mono ?_
  rintro e w1 ⟨S, rfl, hSl, hSo, hb1⟩
  have hb1' : Below w.heap.size w w1 := bel_call (by exact sBel) hb1
  have X1 := X.call hb1'
  have G1 := G.call hb1'
  have p1n := hp.call hb1'
  have q1n := hq.call hb1'
  have s1n := hs.call hb1'
  clear x0 x1 x2 x3 x4 xl xf gg0 ggl p0 pl pf q0 ql qf X0 hp0 hq0
  obtain ⟨xl, xf, x0, x1, x2, x3, x4⟩ := X1.c5
  have ggl := G1.lt; have gg0 := G1.cell (j := 0) rfl
  obtain ⟨pl, pf, p0⟩ := p1n.c1
  obtain ⟨ql, qf, q0⟩ := q1n.c1
  obtain ⟨sl, sf, s0⟩ := s1n.c1
  refine hK _ _ ?_ ?_ <;> clear hK K; rotate_left; intro hS; rotate_left
  · refine ⟨?_, ?_, ?_, ?_, ?_⟩ <;> go_simp
  refine AnyBut.tk0 13 hS rfl (h := ?_); refine AnyBut.tk0 14 hS rfl (h := ?_); refine AnyBut.tk0 15 hS rfl (h := ?_); refine AnyBut.tk0 16 hS rfl (h := ?_)
  have hpS : px ≠ s := fun e => by have h1 := p1n.cell 0; have h2 := s1n.cell 0; rw [e] at h1; rw [h1] at h2; simp at h2
  have hqS : qi ≠ s := fun e => by have h1 := q1n.cell 0; have h2 := s1n.cell 0; rw [e] at h1; rw [h1] at h2; simp at h2
  have hIS : I ≠ s := fun e => by have h1 := X1.cell 0; have h2 := s1n.cell 0; rw [e] at h1; rw [h1] at h2; simp at h2
  have hGS : gl ≠ s := fun e => by have h1 := G1.cell (j := 0) rfl; have h2 := s1n.cell 0; rw [e] at h1; rw [h1] at h2; simp at h2
  refine AnyBut.one (i := 17) rfl (by kernel_rfl) rfl ?_; intro K hK; go_simp; refine hK _ _ ?_ ?_ <;> clear hK K; rotate_left; intro hS; rotate_left
  · refine ⟨?_, ?_, ?_, ?_, ?_⟩ <;> go_simp
  refine AnyBut.done (by kernel_rfl) ?_
  go_end0
  exact ⟨rfl, w1, S, hb1', hSl, hSo, rfl⟩
end Go.Proofs.YthmhdaefkhcenaaGreatDoor
namespace Go.Proofs.YthmhdaefkhcenaaGreatDoor
set_option maxRecDepth 100000
set_option maxHeartbeats 8000000
open Go.RowKit

theorem ne_head {W : World} {a b : Nat} {v u : Value} (ha : W.cell? ⟨a, 0, none⟩ = some v) (hb : W.cell? ⟨b, 0, none⟩ = some u) (hvu : v ≠ u) : a ≠ b := fun e => by rw [e, hb] at ha; injection ha with ha; exact hvu ha.symm
theorem SlabsOk.set {W : World} {S p i : Nat} {u : Value} (h : SlabsOk W S) (hp : W.cell? ⟨p, 0, none⟩ = some u) (h1 : Value.bool true ≠ u) (h2 : Value.int .i64 0 ≠ u) (h3 : Value.int .i64 4 ≠ u) (v : Value) : SlabsOk (W.setCell ⟨p, i, none⟩ v) S := by
  obtain ⟨ha, hc, oa, oc, ea, ec, B, H, O, E, hh⟩ := h
  exact ⟨ha, hc, oa, oc, ea, ec, B.far (ne_head (B.cell 0) hp h1) _, H.far (ne_head (H.cell (j := 0) rfl) hp h2) _, O.far (ne_head (O.cell (j := 0) rfl) hp h2) _, E.far (ne_head (E.cell (j := 0) rfl) hp h3) _, hh⟩
theorem slabs_ix (hbs : BuildSlabOk) (B I gl gc rb rc b c t o s : Nat) (w : World) (hrc : 1 ≤ rc) (X : Block w I 345 [.bool true, .slice (some ⟨gl, 0, none⟩) 1 gc, .pointer (some ⟨t, 0, none⟩), .slice (some ⟨o, 0, none⟩) 1 1, .slice (some ⟨s, 0, none⟩) 1 1])
    (G : Has w gl [.slice (some ⟨rb, 0, none⟩) 1 rc]) (R : Has w rb [.slice (some ⟨b, 0, none⟩) 4 c]) (h : Has w b boxC) (ho : Block w o 487 [.int .u32 0, .int .i32 0, .int .u32 0]) (hs : Block w s 433 [.pointer none]) (hBo : B ≤ o) (hBs : B ≤ s) (hBw : B ≤ w.heap.size) :
    Calls Tryz.prog 261 #[.pointer (some ⟨I, 0, none⟩), .int .i64 0] w fun e w' => ∃ S, e = .returned (.pointer (some ⟨S, 0, none⟩)) ∧ SlabsOk w' S ∧ Below B w w' ∧ ∀ k, k < w.heap.size → k ≠ o → k ≠ s → w'.heap[k]? = w.heap[k]? := by
  have X0 := X
  obtain ⟨xl, xf, x0, x1, x2, x3, x4⟩ := X0.c5
  go_enter Tryz.func261, Tryz.ntmps261
  go_wp2_with fail
  obtain ⟨px, hpx⟩ : ∃ px, w.heap.size = px := ⟨_, rfl⟩
  refine at_code (fun W => Below px w W ∧ Block W px 278 [.pointer (some ⟨I, 0, none⟩)] ∧ Block W (px + 1) 3 [.int .i64 0]) (by rw [← hpx]; exact ⟨by exact sBel, by exact sBlk, by exact sBlk⟩) ?_
  rw [hpx]
  rintro W ⟨bel, hp, hq⟩
  rw [← hpx] at bel
  have X1 := X.call bel
  have G1 := G.call bel
  have R1 := R.call bel
  have h1 := h.call bel
  have o1 := ho.call bel
  have s1 := hs.call bel
  clear x0 x1 x2 x3 x4 xl xf X0
  have X0 := X1
  obtain ⟨xl, xf, x0, x1, x2, x3, x4⟩ := X0.c5
  have hp0 := hp
  obtain ⟨pl, pf, p0⟩ := hp0.c1
  have hq0 := hq
  obtain ⟨ql, qf, q0⟩ := hq0.c1
  refine AnyBut.region (S := fun w' => w'.cell? ⟨px, 0, none⟩ = some (.pointer (some ⟨I, 0, none⟩)) ∧ w'.cell? ⟨px + 1, 0, none⟩ = some (.int .i64 0) ∧ w'.cell? ⟨I, 3, none⟩ = some (.slice (some ⟨o, 0, none⟩) 1 1)) (t := 99) 8 rfl (by kernel_rfl) ?_ ?_
  · refine ⟨?_, ?_, ?_⟩ <;> go_simp
  intro hS
  refine AnyBut.tk0 0 hS rfl (h := ?_); refine AnyBut.tk0 1 hS rfl (h := ?_); refine AnyBut.tk0 2 hS rfl (h := ?_); refine AnyBut.tk0 3 hS rfl (h := ?_); refine AnyBut.tk0 4 hS rfl (h := ?_); refine AnyBut.tk0 5 hS rfl (h := ?_); refine AnyBut.tk0 6 hS rfl (h := ?_)
  refine AnyBut.one (i := 7) rfl (by kernel_rfl) rfl ?_; intro K hK
  go_wp2_with fail
  have D := hs
  have eIo : I ≠ o := ne_head (X1.cell 0) (o1.cell 0) (by simp)
  have eGo : gl ≠ o := ne_head (G1.cell (j := 0) rfl) (o1.cell 0) (by simp)
  have eRo : rb ≠ o := ne_head (R1.cell (j := 0) rfl) (o1.cell 0) (by simp)
  have eho : b ≠ o := ne_head (h1.cell (j := 0) rfl) (o1.cell 0) (by simp)
  have eso : s ≠ o := ne_head (s1.cell 0) (o1.cell 0) (by simp)
  have epo : px ≠ o := ne_head (hp.cell 0) (o1.cell 0) (by simp)
  have eqo : px + 1 ≠ o := ne_head (hq.cell 0) (o1.cell 0) (by simp)
  have eIs : I ≠ s := ne_head (X1.cell 0) (s1.cell 0) (by simp)
  have eps : px ≠ s := ne_head (hp.cell 0) (s1.cell 0) (by simp)
  have eqs : px + 1 ≠ s := ne_head (hq.cell 0) (s1.cell 0) (by simp)
  have hBW : B ≤ W.heap.size := Nat.le_trans hBw bel.size
  have FX := X1.drew.far (p := ⟨o, 1, none⟩) eIo (.int .i32 1)
  have Fp := hp.drew.far (p := ⟨o, 1, none⟩) epo (.int .i32 1)
  have Fq := hq.drew.far (p := ⟨o, 1, none⟩) eqo (.int .i32 1)
  have Fs := s1.drew.far (p := ⟨o, 1, none⟩) eso (.int .i32 1)
  have Fo := o1.drew.set 1 (.int .i32 1)
  have hcall := do_first o ⟨px, 0, none⟩ ⟨px + 1, 0, none⟩ W.drew (Block.drew o1) (fun w2 => ∃ w1 S, Below (W.drew.setCell ⟨o, 1, none⟩ (.int .i32 1)).heap.size (W.drew.setCell ⟨o, 1, none⟩ (.int .i32 1)) w1 ∧ SlabsOk w1 S ∧ w2 = w1.setCell ⟨s, 0, none⟩ (.pointer (some ⟨S, 0, none⟩)))
    ((slabs1_ix hbs px (px + 1) I gl gc rb rc b c t o s (W.drew.setCell ⟨o, 1, none⟩ (.int .i32 1)) hrc FX (Has.far (Has.drew G1) eGo _) (Has.far (Has.drew R1) eRo _) (Has.far (Has.drew h1) eho _) Fs Fp Fq).mono (by
      rintro e w2 ⟨rfl, w1, S, hb, hl, hS1, rfl⟩
      exact ⟨rfl, ⟨w1, S, hb, hS1, rfl⟩, (Block.call (w := W.drew.setCell ⟨o, 1, none⟩ (.int .i32 1)) Fo hb).far (fun e => eso e.symm) _⟩))
  refine hcall.mono ?_
  rintro e w3 ⟨rfl, w2, ⟨w1, S, hb, hS1, rfl⟩, hO2, rfl⟩
  have ks : w1.cell? ⟨s, 0, none⟩ = some (.pointer none) := (Fs.call hb).cell 0
  have hS2 : SlabsOk (w1.setCell ⟨s, 0, none⟩ (.pointer (some ⟨S, 0, none⟩))) S := hS1.set ks (by simp) (by simp) (by simp) _
  have hS3 := SlabsOk.set (i := 0) hS2 (hO2.cell 0) (by simp) (by simp) (by simp) (.int .u32 1)
  have hO3 := hO2.set 0 (.int .u32 1)
  have hS4 := SlabsOk.set (i := 1) hS3 (hO3.cell 0) (by simp) (by simp) (by simp) (.int .i32 0)
  have Bw1 : Below B w w1 := (Below.setCell (Below.drew (bel.mono hBw)) hBo _).trans (hb.mono (by simpa using hBW))
  have Bw3 : Below B w (((w1.setCell ⟨s, 0, none⟩ (.pointer (some ⟨S, 0, none⟩))).drew.setCell ⟨o, 0, none⟩ (.int .u32 1)).setCell ⟨o, 1, none⟩ (.int .i32 0)) := Below.setCell (Below.setCell (Below.drew (Below.setCell Bw1 hBs _)) hBo _) hBo _
  have X5 := (((FX.call hb).far (p := ⟨s, 0, none⟩) eIs (.pointer (some ⟨S, 0, none⟩))).drew.far (p := ⟨o, 0, none⟩) eIo (.int .u32 1)).far (p := ⟨o, 1, none⟩) eIo (.int .i32 0)
  have p5 := (((Fp.call hb).far (p := ⟨s, 0, none⟩) eps (.pointer (some ⟨S, 0, none⟩))).drew.far (p := ⟨o, 0, none⟩) epo (.int .u32 1)).far (p := ⟨o, 1, none⟩) epo (.int .i32 0)
  have q5 := (((Fq.call hb).far (p := ⟨s, 0, none⟩) eqs (.pointer (some ⟨S, 0, none⟩))).drew.far (p := ⟨o, 0, none⟩) eqo (.int .u32 1)).far (p := ⟨o, 1, none⟩) eqo (.int .i32 0)
  have s5 := (((Fs.call hb).set 0 (.pointer (some ⟨S, 0, none⟩))).drew.far (p := ⟨o, 0, none⟩) eso (.int .u32 1)).far (p := ⟨o, 1, none⟩) eso (.int .i32 0)
  have hk3 : ∀ k, k < w.heap.size → k ≠ o → k ≠ s → ((((w1.setCell ⟨s, 0, none⟩ (.pointer (some ⟨S, 0, none⟩))).drew.setCell ⟨o, 0, none⟩ (.int .u32 1)).setCell ⟨o, 1, none⟩ (.int .i32 0))).heap[k]? = w.heap[k]? := fun k e1 e2 e3 =>
    (Below.heap_setCell _ ⟨o, 1, none⟩ _ k e2).trans ((Below.heap_setCell _ ⟨o, 0, none⟩ _ k e2).trans ((Below.heap_setCell w1 ⟨s, 0, none⟩ _ k e3).trans ((hb.block k (by have := bel.size; simp; omega)).trans ((Below.heap_setCell W.drew ⟨o, 1, none⟩ _ k e2).trans (bel.block k (by omega))))))
  have hW5 : ∃ W5, ((w1.setCell ⟨s, 0, none⟩ (.pointer (some ⟨S, 0, none⟩))).drew.setCell ⟨o, 0, none⟩ (.int .u32 1)).setCell ⟨o, 1, none⟩ (.int .i32 0) = W5 := ⟨_, rfl⟩
  obtain ⟨W5, hW5⟩ := hW5
  have hS5 : SlabsOk (((w1.setCell ⟨s, 0, none⟩ (.pointer (some ⟨S, 0, none⟩))).drew.setCell ⟨o, 0, none⟩ (.int .u32 1)).setCell ⟨o, 1, none⟩ (.int .i32 0)) S := hS4
  rw [hW5] at hS5 Bw3 X5 p5 q5 s5 hk3
  clear x0 x1 x2 x3 x4 xl xf p0 pl pf q0 ql qf hp0 hq0 X0
  obtain ⟨xl, xf, x0, x1, x2, x3, x4⟩ := X5.c5
  obtain ⟨pl, pf, p0⟩ := p5.c1
  obtain ⟨ql, qf, q0⟩ := q5.c1
  have s6 : Block W5 s 433 [.pointer (some ⟨S, 0, none⟩)] := s5
  obtain ⟨sl, sf, s0⟩ := s6.c1
  refine hK _ _ ?_ ?_ <;> clear hK K
  · rw [hW5]; refine ⟨?_, ?_, ?_⟩ <;> go_simp
  clear hS
  intro hS
  refine AnyBut.done (by kernel_rfl) ?_
  rw [hW5]
  go_wp2_with fail
  go_quiet (fail)
  go_wp2_with fail
  go_returns
  exact ⟨S, rfl, hS5, ⟨Bw3.os, Bw3.tape, Bw3.output, Bw3.size, Bw3.block⟩, hk3⟩
theorem near_ix (B I : Nat) (w : World) (h : IxOk w B I) : Calls Tryz.prog 260 #[.pointer (some ⟨I, 0, none⟩), .agg #[.int .i64 1, .int .i64 1]] w fun e w' => ∃ q, e = .returned (.slice (some ⟨q, 0, none⟩) 1 1) ∧ Block w' q 3 [.int .i64 0] ∧ Below w.heap.size w w' := by
  have hq : ∀ w, (binOp .eql 278 (.pointer (some ⟨I, 0, none⟩)) (.pointer none)).run Tryz.prog w = .ok (.bool false) w := fun _ => by kernel_rfl
  obtain ⟨gl, gc, rb, rc, b, c, t, o, s, b1, o1, n1, cb, co, cn, X, G, R, P, ⟨T1, T2, T3, T4, T5⟩, hh⟩ := h
  have X0 := X
  obtain ⟨xl, xf, x0, x1, x2, x3, x4⟩ := X0.c5
  go_enter Tryz.func260, Tryz.ntmps260
  go_wp2_with fail
  refine AnyBut.region (S := fun w' => w'.cell? ⟨I, 2, none⟩ = some (.pointer (some ⟨t, 0, none⟩)) ∧ w'.cell? ⟨w.heap.size, 0, none⟩ = some (.int .i64 1) ∧ w'.cell? ⟨w.heap.size, 1, none⟩ = some (.int .i64 1)) (t := 99) 7 rfl (by kernel_rfl) ?_ ?_
  · refine ⟨?_, ?_, ?_⟩ <;> go_simp
  intro hS
  refine AnyBut.tk0 0 hS rfl (h := ?_); refine AnyBut.tk0 1 hS rfl (h := ?_); refine AnyBut.tk0 2 hS rfl (h := ?_); refine AnyBut.tk0 3 hS rfl (h := ?_); refine AnyBut.tk0 4 hS rfl (h := ?_)
  refine AnyBut.one (i := 5) rfl (by kernel_rfl) rfl ?_; intro K hK
  go_wp2_with fail
  refine (tat_box t b1 o1 n1 cb co cn _ ⟨T1.alloc _ |>.drew, T2.alloc _ |>.drew, T3.alloc _ |>.drew, T4.alloc _ |>.drew, T5⟩).mono ?_
  rintro e W1 ⟨q, rfl, hq1, hql, hb1⟩
  have bel : Below w.heap.size w W1 := bel_call (by exact sBel) hb1
  have X1 := X.call bel
  have P1 : Block W1 w.heap.size 46 [.int .i64 1, .int .i64 1] := Block.call (Block.drew (btop (cs := [.int .i64 1, .int .i64 1]) rfl)) hb1
  clear x0 x1 x2 x3 x4 xl xf X0
  obtain ⟨xl, xf, x0, x1, x2, x3, x4⟩ := X1.c5
  obtain ⟨pl, pf, p0, p1⟩ := P1.c2
  refine hK _ _ ?_ ?_ <;> clear hK K; rotate_left; intro hS; rotate_left
  · refine ⟨?_, ?_, ?_⟩ <;> go_simp
  refine AnyBut.tk0 6 hS rfl (h := ?_)
  refine AnyBut.done (by kernel_rfl) ?_
  go_wp2_with fail
  go_returns
  exact ⟨q, rfl, hq1, bel⟩
theorem IxOk.call {W W' : World} {B I : Nat} (h : IxOk W B I) (hb : Below W.heap.size W W') : IxOk W' B I := by
  obtain ⟨gl, gc, rb, rc, b, c, t, o, s, b1, o1, n1, cb, co, cn, X, G, R, P, ⟨T1, T2, T3, T4, T5⟩, O, S, hh⟩ := h
  exact ⟨gl, gc, rb, rc, b, c, t, o, s, b1, o1, n1, cb, co, cn, X.call hb, G.call hb, R.call hb, P.call hb, ⟨T1.call hb, T2.call hb, T3.call hb, T4.call hb, T5⟩, O.call hb, S.call hb, hh⟩
theorem at_ix (hbs : BuildSlabOk) (B I : Nat) (w : World) (h : IxOk w B I) (hBw : B ≤ w.heap.size) : Calls Tryz.prog 200 #[.pointer (some ⟨I, 0, none⟩), .agg #[.int .i64 1, .int .i64 1]] w fun e w' => ∃ q cq, e = .returned (.slice (some ⟨q, 0, none⟩) 1 cq) ∧ Has w' q [.int .i64 0] ∧ 1 ≤ cq ∧ B ≤ q ∧ Below B w w' := by
  go_enter Tryz.func200, Tryz.ntmps200
  go_wp2_with fail
  refine (near_ix B I _ (h.call (by exact sBel))).mono ?_
  rintro e w1 ⟨q, rfl, hq, hb1⟩
  have bel : Below w.heap.size w w1 := bel_call (by exact sBel) hb1
  have P1 : Block w1 w.heap.size 46 [.int .i64 1, .int .i64 1] := by exact sBlk
  have h1 := h.call bel
  have q0 := hq
  obtain ⟨ql, qf, q0⟩ := q0.c1
  go_wp2_with fail
  refine wp_loop_rounds 2 ?_
  rw [rounds_succ]
  go_wp2_with fail
  have P2 := P1
  obtain ⟨pl, pf, p0, p1⟩ := P2.c2
  refine AnyBut.region (S := fun w' => w'.cell? ⟨w.heap.size, 0, none⟩ = some (.int .i64 1) ∧ w'.cell? ⟨w.heap.size, 1, none⟩ = some (.int .i64 1)) (t := 99) 5 rfl (by kernel_rfl) ?_ ?_
  · refine ⟨?_, ?_⟩ <;> go_simp
  intro hS
  refine AnyBut.tk0 0 hS rfl (h := ?_); refine AnyBut.tk0 1 hS rfl (h := ?_); refine AnyBut.tk0 3 hS rfl (h := ?_)
  refine AnyBut.one (i := 2) rfl (by kernel_rfl) rfl ?_; intro K hK
  go_wp2_with fail
  obtain ⟨gl, gc, rb, rc, b, c, t, o, s, b1, o1, n1, cb, co, cn, X, G, R, P, T, O, Sb, hrc, hBo, hBs⟩ := h1
  refine (slabs_ix hbs B I gl gc rb rc b c t o s _ hrc X.drew G.drew R.drew P.drew O.drew Sb.drew hBo hBs (Nat.le_trans hBw bel.size)).mono ?_
  rintro e w2 ⟨S, rfl, hSo, hB2, hk2⟩
  have ePo : w.heap.size ≠ o := ne_head (P1.cell 0) (O.cell 0) (by simp)
  have ePs : w.heap.size ≠ s := ne_head (P1.cell 0) (Sb.cell 0) (by simp)
  have P3 : Block w2 w.heap.size 46 [.int .i64 1, .int .i64 1] := (hk2 _ P1.lt ePo ePs).trans P1
  have bel2 : Below B w w2 := (bel.mono hBw).trans (Below.drew (Below.refl B w1) |>.trans hB2)
  clear p0 p1 pl pf P2 q0 ql qf
  have P4 := P3
  obtain ⟨pl, pf, p0, p1⟩ := P4.c2
  refine hK _ _ ?_ ?_ <;> clear hK K; rotate_left; intro hS; rotate_left
  · refine ⟨?_, ?_⟩ <;> go_simp
  refine AnyBut.one (i := 4) rfl (by kernel_rfl) rfl ?_; intro K hK
  go_wp2_with fail
  refine (in_slab S w2 hSo).mono ?_
  rintro e w3 ⟨rfl, hb3⟩
  have bel3 : Below B w w3 := bel2.trans (hb3.mono (Nat.le_trans hBw bel2.size))
  have P5 := P3.call hb3
  clear p0 p1 pl pf P4
  obtain ⟨pl, pf, p0, p1⟩ := P5.c2
  refine hK _ _ ?_ ?_ <;> clear hK K; rotate_left; intro hS; rotate_left
  · refine ⟨?_, ?_⟩ <;> go_simp
  refine AnyBut.done (by kernel_rfl) ?_
  have hz3 := bel3.size
  go_wp2_with (at_builtin; refine wpList_append_nil rfl _ _ 22 rfl 3 _ 1 8 Tryz.underlying22 info_int rfl w3.heap.size 0 1 1 [.int .i64 0] rfl rfl rfl (by intro j v hj; rw [Nat.zero_add]; exact (Block.cell (btop (cs := [.int .i64 0]) (by simp)) j).trans hj) (by omega) (by unfold maxLen; omega) (by omega) ?_; intro J k hJ hk)
  rw [rounds_succ]
  go_wp2_with fail
  go_returns
  exact ⟨w3.heap.size + 1, 1 + k, rfl, (has_top (news := [.int .i64 0]) (by simp)).drew, by omega, by omega, Below.drew ((bel3.alloc (by omega) _).alloc (by simp; omega) _)⟩
end Go.Proofs.YthmhdaefkhcenaaGreatDoor
namespace Go.Proofs.YthmhdaefkhcenaaGreatDoor
open Go.RowKit

structure Only (B E : Nat) (w w' : World) : Prop where
  os : w'.os = w.os
  tape : w'.tape = w.tape
  output : w'.output = w.output
  size : w.heap.size ≤ w'.heap.size
  blk : ∀ k, k < w.heap.size → (k < B ∨ E ≤ k) → w'.heap[k]? = w.heap[k]?
section
variable {B E : Nat} {w w' a b : World}
theorem Only.refl (B E : Nat) (w : World) : Only B E w w := ⟨rfl, rfl, rfl, Nat.le_refl _, fun _ _ _ => rfl⟩
theorem Only.trans (h : Only B E w a) (h' : Only B E a b) : Only B E w b :=
  ⟨h'.os.trans h.os, h'.tape.trans h.tape, h'.output.trans h.output, Nat.le_trans h.size h'.size, fun k hk hX => (h'.blk k (Nat.lt_of_lt_of_le hk h.size) hX).trans (h.blk k hk hX)⟩
theorem Only.of_below (h : Below w.heap.size w w') : Only B E w w' := ⟨h.os, h.tape, h.output, h.size, fun k hk _ => h.block k hk⟩
theorem Only.set (h : Only B E w a) {p : Addr} (hp : (B ≤ p.block ∧ p.block < E) ∨ w.heap.size ≤ p.block) (u : Value) : Only B E w (a.setCell p u) :=
  ⟨h.os, h.tape, h.output, by simpa [World.setCell] using h.size, fun k hk hX => (Below.heap_setCell a p u k (by rintro rfl; omega)).trans (h.blk k hk hX)⟩
theorem Only.alloc (h : Only B E w a) (o : Obj) : Only B E w (a.alloc o) := ⟨h.os, h.tape, h.output, by have := h.size; simp; omega, fun k hk hX => (Below.heap_alloc a o k (Nat.lt_of_lt_of_le hk h.size)).trans (h.blk k hk hX)⟩
theorem Only.drew (h : Only B E w a) : Only B E w a.drew := ⟨h.os, h.tape, h.output, h.size, h.blk⟩
theorem Only.drewN (h : Only B E w a) (n : Nat) : Only B E w (a.drewN n) := ⟨h.os, h.tape, h.output, h.size, h.blk⟩
theorem Only.behind (h : Only B E w a) (hb : Below a.heap.size a b) : Only B E w b := h.trans (Only.of_below hb)
theorem Only.pre (hb : Below w.heap.size w a) (h : Only B E a b) : Only B E w b := (Only.of_below hb).trans h
theorem Only.wide {B' E' : Nat} (h : Only B E w a) (hB : B' ≤ B) (hE : E ≤ E') : Only B' E' w a := ⟨h.os, h.tape, h.output, h.size, fun k hk hX => h.blk k hk (by omega)⟩
theorem Only.below {C : Nat} (h : Only B E w a) (hC : C ≤ B) (hs : C ≤ w.heap.size) : Below C w a := ⟨h.os, h.tape, h.output, h.size, fun k hk => h.blk k (by omega) (by omega)⟩
theorem Block.only {g : Nat} {t : TypeId} {cs : List Value} (h : Block w g t cs) (hK : Only B E w w') (hX : g < B ∨ E ≤ g) : Block w' g t cs := (hK.blk g h.lt hX).trans h
theorem MapAt.only {g : Nat} {es : List MapEntry} {clock : Nat} (h : MapAt w g es clock) (hK : Only B E w w') (hX : g < B ∨ E ≤ g) : MapAt w' g es clock := (hK.blk g h.lt hX).trans h
theorem Has.only {g : Nat} {cs : List Value} (h : Has w g cs) (hK : Only B E w w') (hX : g < B ∨ E ≤ g) : Has w' g cs := ⟨Nat.lt_of_lt_of_le h.lt hK.size, fun j _ hj => (World.cell?_of_block (a := ⟨g, j, none⟩) (hK.blk g h.lt hX)).trans (h.cell hj)⟩
end
def IxOk3 (W : World) (B E I : Nat) : Prop := ∃ gl gc rb rc b c t o s b1 o1 n1 cb co cn, Block W I 345 [.bool true, .slice (some ⟨gl, 0, none⟩) 1 gc, .pointer (some ⟨t, 0, none⟩), .slice (some ⟨o, 0, none⟩) 1 1, .slice (some ⟨s, 0, none⟩) 1 1] ∧
  Has W gl [.slice (some ⟨rb, 0, none⟩) 1 rc] ∧ Has W rb [.slice (some ⟨b, 0, none⟩) 4 c] ∧ Has W b boxC ∧ TreeAt W t b1 o1 n1 cb co cn ∧ Block W o 487 [.int .u32 0, .int .i32 0, .int .u32 0] ∧ Block W s 433 [.pointer none] ∧ 1 ≤ rc ∧ B ≤ o ∧ B ≤ s ∧ B ≤ I ∧ B ≤ gl ∧ B ≤ rb ∧ B ≤ b ∧ B ≤ t ∧ B ≤ b1 ∧ B ≤ o1 ∧ B ≤ n1 ∧ o < E ∧ s < E
theorem IxOk3.ok {W : World} {B E I : Nat} (h : IxOk3 W B E I) : IxOk W B I := by
  obtain ⟨gl, gc, rb, rc, b, c, t, o, s, b1, o1, n1, cb, co, cn, h1, h2, h3, h4, h5, h6, h7, h8, h9, h10, _⟩ := h
  exact ⟨gl, gc, rb, rc, b, c, t, o, s, b1, o1, n1, cb, co, cn, h1, h2, h3, h4, h5, h6, h7, h8, h9, h10⟩
theorem IxOk2.ok3 {W : World} {B I : Nat} (h : IxOk2 W B I) : IxOk3 W B W.heap.size I := by
  obtain ⟨gl, gc, rb, rc, b, c, t, o, s, b1, o1, n1, cb, co, cn, h1, h2, h3, h4, h5, h6, h7, h8, h9, h10, g1, g2, g3, g4, g5, g6, g7, g8⟩ := h
  exact ⟨gl, gc, rb, rc, b, c, t, o, s, b1, o1, n1, cb, co, cn, h1, h2, h3, h4, h5, h6, h7, h8, h9, h10, g1, g2, g3, g4, g5, g6, g7, g8, h6.lt, h7.lt⟩
theorem IxOk3.keptX {X : List Nat} {W W' : World} {B E I : Nat} (h : IxOk3 W B E I) (hK : Kept X W W') (hX : ∀ k ∈ X, k < B ∨ W.heap.size ≤ k) : IxOk3 W' B E I := by
  obtain ⟨gl, gc, rb, rc, b, c, t, o, s, b1, o1, n1, cb, co, cn, h1, h2, h3, h4, ⟨t1, t2, t3, t4, t5⟩, h6, h7, h8, h9, h10, g1, g2, g3, g4, g5, g6, g7, g8, g9⟩ := h
  have hA := hK.above hX
  have hB : ∀ {g : Nat} {t : TypeId} {cs : List Value}, Block W g t cs → B ≤ g → Block W' g t cs := fun hb hg => (hA.2 _ hg hb.lt).trans hb
  exact ⟨gl, gc, rb, rc, b, c, t, o, s, b1, o1, n1, cb, co, cn, hB h1 g1, h2.above hA g2, h3.above hA g3, h4.above hA g4, ⟨hB t1 g5, t2.above hA g6, t3.above hA g7, t4.above hA g8, t5⟩, hB h6 h9, hB h7 h10, h8, h9, h10, g1, g2, g3, g4, g5, g6, g7, g8, g9⟩
theorem IxOk3.call {W W' : World} {B E I : Nat} (h : IxOk3 W B E I) (hb : Below W.heap.size W W') : IxOk3 W' B E I := h.keptX (Kept.of_below (X := []) hb) (by simp)
set_option maxRecDepth 100000 in
set_option maxHeartbeats 8000000 in
theorem at_ix2 (hbs : BuildSlabOk) (B E I : Nat) (w : World) (h3 : IxOk3 w B E I) (hBw : B ≤ w.heap.size) : Calls Tryz.prog 200 #[.pointer (some ⟨I, 0, none⟩), .agg #[.int .i64 1, .int .i64 1]] w fun e w' => ∃ q cq, e = .returned (.slice (some ⟨q, 0, none⟩) 1 cq) ∧ Has w' q [.int .i64 0] ∧ 1 ≤ cq ∧ w.heap.size ≤ q ∧ Only B E w w' := by
  have h := h3.ok
  go_enter Tryz.func200, Tryz.ntmps200
  go_wp2_with fail
  refine (near_ix B I _ (h.call (by exact sBel))).mono ?_
  rintro e w1 ⟨q, rfl, hq, hb1⟩
  have bel : Below w.heap.size w w1 := bel_call (by exact sBel) hb1
  have P1 : Block w1 w.heap.size 46 [.int .i64 1, .int .i64 1] := by exact sBlk
  have h1 := h3.call bel
  have q0 := hq
  obtain ⟨ql, qf, q0⟩ := q0.c1
  go_wp2_with fail
  refine wp_loop_rounds 2 ?_
  rw [rounds_succ]
  go_wp2_with fail
  have P2 := P1
  obtain ⟨pl, pf, p0, p1⟩ := P2.c2
  refine AnyBut.region (S := fun w' => w'.cell? ⟨w.heap.size, 0, none⟩ = some (.int .i64 1) ∧ w'.cell? ⟨w.heap.size, 1, none⟩ = some (.int .i64 1)) (t := 99) 5 rfl (by kernel_rfl) ?_ ?_
  · refine ⟨?_, ?_⟩ <;> go_simp
  intro hS
  refine AnyBut.tk0 0 hS rfl (h := ?_); refine AnyBut.tk0 1 hS rfl (h := ?_); refine AnyBut.tk0 3 hS rfl (h := ?_)
  refine AnyBut.one (i := 2) rfl (by kernel_rfl) rfl ?_; intro K hK
  go_wp2_with fail
  obtain ⟨gl, gc, rb, rc, b, c, t, o, s, b1, o1, n1, cb, co, cn, X, G, R, P, T, O, Sb, hrc, hBo, hBs, -, -, -, -, -, -, -, -, hoE, hsE⟩ := h1
  refine (slabs_ix hbs B I gl gc rb rc b c t o s _ hrc X.drew G.drew R.drew P.drew O.drew Sb.drew hBo hBs (Nat.le_trans hBw bel.size)).mono ?_
  rintro e w2 ⟨S, rfl, hSo, hB2, hk2⟩
  have ePo : w.heap.size ≠ o := ne_head (P1.cell 0) (O.cell 0) (by simp)
  have ePs : w.heap.size ≠ s := ne_head (P1.cell 0) (Sb.cell 0) (by simp)
  have P3 : Block w2 w.heap.size 46 [.int .i64 1, .int .i64 1] := (hk2 _ P1.lt ePo ePs).trans P1
  have bel2 : Below B w w2 := (bel.mono hBw).trans (Below.drew (Below.refl B w1) |>.trans hB2)
  have on2 : Only B E w w2 := ⟨bel2.os, bel2.tape, bel2.output, bel2.size, fun k hk hr => (hk2 k (Nat.lt_of_lt_of_le hk bel.size) (by omega) (by omega)).trans (bel.block k hk)⟩
  clear p0 p1 pl pf P2 q0 ql qf
  have P4 := P3
  obtain ⟨pl, pf, p0, p1⟩ := P4.c2
  refine hK _ _ ?_ ?_ <;> clear hK K; rotate_left; intro hS; rotate_left
  · refine ⟨?_, ?_⟩ <;> go_simp
  refine AnyBut.one (i := 4) rfl (by kernel_rfl) rfl ?_; intro K hK
  go_wp2_with fail
  refine (in_slab S w2 hSo).mono ?_
  rintro e w3 ⟨rfl, hb3⟩
  have on3 : Only B E w w3 := on2.behind hb3
  have bel3 := on3
  have P5 := P3.call hb3
  clear p0 p1 pl pf P4
  obtain ⟨pl, pf, p0, p1⟩ := P5.c2
  refine hK _ _ ?_ ?_ <;> clear hK K; rotate_left; intro hS; rotate_left
  · refine ⟨?_, ?_⟩ <;> go_simp
  refine AnyBut.done (by kernel_rfl) ?_
  have hz3 := bel3.size
  go_wp2_with (at_builtin; refine wpList_append_nil rfl _ _ 22 rfl 3 _ 1 8 Tryz.underlying22 info_int rfl w3.heap.size 0 1 1 [.int .i64 0] rfl rfl rfl (by intro j v hj; rw [Nat.zero_add]; exact (Block.cell (btop (cs := [.int .i64 0]) (by simp)) j).trans hj) (by omega) (by unfold maxLen; omega) (by omega) ?_; intro J k hJ hk)
  rw [rounds_succ]
  go_wp2_with fail
  go_returns
  exact ⟨w3.heap.size + 1, 1 + k, rfl, (has_top (news := [.int .i64 0]) (by simp)).drew, by omega, by omega, ((on3.alloc _).alloc _).drew⟩
end Go.Proofs.YthmhdaefkhcenaaGreatDoor
namespace Go.Proofs.YthmhdaefkhcenaaGreatDoor
open Go.RowKit Go.Lib

theorem bytesV (rate : Int) (hrt : I64r rate) (n : Nat) (v : Value) (w : World) (h : CfgV rate n w v) : Calls Tryz.prog 16 #[v] w fun e w' =>
    ∃ A c', e = .returned (.tuple #[.slice A (bytesOf (cfgL rate)).length c', .int .i64 0]) ∧ Full IsB w' w.heap.size 5 1 A (bytesOf (cfgL rate)).length c' (U8 (bytesOf (cfgL rate))) ∧ Below w.heap.size w w' := by
  obtain ⟨jb, jc, qb, qc, rb, rc, db, dc, b, c, rfl, h2, h3, h4, h5, h6, -⟩ := h
  exact bytes_cfg jb jc rb rc b c qb qc db dc rate w hrt h2 h3 h4 h5 h6
def CfgIn (rate : Int) (n m : Nat) (W : World) (v : Value) : Prop := ∃ jb jc qb qc rb rc db dc b c, v = .agg #[.slice (some ⟨jb, 0, none⟩) 1 jc, .slice (some ⟨qb, 0, none⟩) 1 qc, .slice none 0 0, .slice none 0 0, .slice none 0 0, .slice none 0 0] ∧
  Has W jb (juC rb rc) ∧ Has W rb [.slice (some ⟨b, 0, none⟩) 4 c] ∧ Has W b boxC ∧ Has W qb [.int .i64 7, .slice (some ⟨db, 0, none⟩) 1 dc] ∧ Has W db [.int .i64 0, .int .i64 rate] ∧ (1 ≤ jc ∧ 1 ≤ qc ∧ 1 ≤ rc ∧ 1 ≤ dc) ∧ (n ≤ jb ∧ n ≤ qb ∧ n ≤ rb ∧ n ≤ db ∧ n ≤ b) ∧ jb < m ∧ qb < m ∧ rb < m ∧ db < m ∧ b < m
theorem CfgIn.cfg {rate : Int} {n m : Nat} {W : World} {v : Value} (h : CfgIn rate n m W v) : CfgV rate n W v := by
  obtain ⟨jb, jc, qb, qc, rb, rc, db, dc, b, c, h0, h1, h2, h3, h4, h5, h6, ⟨g1, g2, g3, g4, g5⟩, _⟩ := h
  exact ⟨jb, jc, qb, qc, rb, rc, db, dc, b, c, h0, h1, h2, h3, h4, h5, h6, g1, g2, g3, g4, g5⟩
theorem CfgV.all {rate : Int} {n : Nat} {W : World} {v : Value} (h : CfgV rate n W v) : CfgIn rate n W.heap.size W v := by
  obtain ⟨jb, jc, qb, qc, rb, rc, db, dc, b, c, h0, h1, h2, h3, h4, h5, h6, g1, g2, g3, g4, g5⟩ := h
  exact ⟨jb, jc, qb, qc, rb, rc, db, dc, b, c, h0, h1, h2, h3, h4, h5, h6, ⟨g1, g2, g3, g4, g5⟩, h1.lt, h4.lt, h2.lt, h5.lt, h3.lt⟩
theorem CfgIn.keptX {rate : Int} {n m : Nat} {X : List Nat} {W W' : World} {v : Value} (h : CfgIn rate n m W v) (hK : Kept X W W') (hX : ∀ k ∈ X, k < n ∨ m ≤ k ∨ W.heap.size ≤ k) : CfgIn rate n m W' v := by
  obtain ⟨jb, jc, qb, qc, rb, rc, db, dc, b, c, h0, h1, h2, h3, h4, h5, h6, ⟨g1, g2, g3, g4, g5⟩, u1, u2, u3, u4, u5⟩ := h
  have hN : ∀ g, n ≤ g → g < m → g < W.heap.size → g ∉ X := fun g a1 a2 a3 hm => by have := hX g hm; omega
  exact ⟨jb, jc, qb, qc, rb, rc, db, dc, b, c, h0, h1.keptX hK (hN _ g1 u1 h1.lt), h2.keptX hK (hN _ g3 u3 h2.lt), h3.keptX hK (hN _ g5 u5 h3.lt), h4.keptX hK (hN _ g2 u2 h4.lt), h5.keptX hK (hN _ g4 u4 h5.lt), h6, ⟨g1, g2, g3, g4, g5⟩, u1, u2, u3, u4, u5⟩
theorem CfgIn.only {rate : Int} {n m B E : Nat} {W W' : World} {v : Value} (h : CfgIn rate n m W v) (hK : Only B E W W') (hm : m ≤ B ∨ E ≤ n) : CfgIn rate n m W' v := by
  obtain ⟨jb, jc, qb, qc, rb, rc, db, dc, b, c, h0, h1, h2, h3, h4, h5, h6, ⟨g1, g2, g3, g4, g5⟩, u1, u2, u3, u4, u5⟩ := h
  exact ⟨jb, jc, qb, qc, rb, rc, db, dc, b, c, h0, h1.only hK (by omega), h2.only hK (by omega), h3.only hK (by omega), h4.only hK (by omega), h5.only hK (by omega), h6, ⟨g1, g2, g3, g4, g5⟩, u1, u2, u3, u4, u5⟩
theorem CfgIn.call {rate : Int} {n m : Nat} {W W' : World} {v : Value} (h : CfgIn rate n m W v) (hb : Below W.heap.size W W') : CfgIn rate n m W' v := h.keptX (Kept.of_below (X := []) hb) (by simp)
def CalcOk (rate : Int) (B E : Nat) (W : World) (K : Nat) : Prop := ∃ (v : List Value) (I nb : Nat), Block W K 285 ([.bool true] ++ v ++ [.pointer (some ⟨I, 0, none⟩), .pointer none]) ∧ CfgIn rate (K + 1) nb W (.agg v.toArray) ∧ IxOk3 W nb E I ∧ B ≤ K ∧ K + 1 ≤ nb ∧ nb ≤ E ∧ E ≤ W.heap.size
theorem CalcOk.keptX {rate : Int} {B E K : Nat} {X : List Nat} {W W' : World} (h : CalcOk rate B E W K) (hK : Kept X W W') (hX : ∀ k ∈ X, k < B ∨ W.heap.size ≤ k) : CalcOk rate B E W' K := by
  obtain ⟨v, I, nb, h1, h2, h3, h4, h5, h6, h7⟩ := h
  have hl := h1.lt
  exact ⟨v, I, nb, h1.keptX hK (fun hm => by have := hX K hm; omega), h2.keptX hK (fun k hk => by have := hX k hk; omega), h3.keptX hK (fun k hk => by have := hX k hk; omega), h4, h5, h6, Nat.le_trans h7 hK.size⟩
set_option maxRecDepth 100000 in
set_option maxHeartbeats 8000000 in
theorem new_calc (rate : Int) (h0 : 0 ≤ rate) (h1 : rate ≤ 1000000) (n : Nat) (v : Value) (w : World) (h : CfgV rate n w v) : Calls Tryz.prog 83 #[v] w fun e w' => ∃ K, e = .returned (.tuple #[.pointer (some ⟨K, 0, none⟩), .int .i64 0]) ∧ CalcOk rate w.heap.size w'.heap.size w' K ∧ Below w.heap.size w w' := by
  obtain ⟨jb, jc, qb, qc, rb, rc, db, dc, b, c, rfl, h'⟩ := h
  have hV : CfgV rate n w _ := ⟨jb, jc, qb, qc, rb, rc, db, dc, b, c, rfl, h'⟩
  clear h'
  go_enter Tryz.func83, Tryz.ntmps83
  go_wp2_with fail
  refine (check_cfg rate h0 h1 n _ _ (hV.call (by exact sBel))).mono ?_
  rintro e w1 ⟨rfl, hb1⟩
  have bel1 : Below w.heap.size w w1 := bel_call (by exact sBel) hb1
  have C1 : Block w1 w.heap.size 35 [.slice (some ⟨jb, 0, none⟩) 1 jc, .slice (some ⟨qb, 0, none⟩) 1 qc, .slice none 0 0, .slice none 0 0, .slice none 0 0, .slice none 0 0] := by exact sBlk
  have C2 := C1
  obtain ⟨kl, kf, k0, k1, k2, k3, k4, k5⟩ := C2.c6
  clear hb1
  go_wp2_with fail
  refine (bytesV rate (i64r _) n _ _ (hV.call bel1)).mono ?_
  rintro e w2 ⟨A, c', rfl, F2, hb2⟩
  have bel2 : Below w.heap.size w w2 := bel_call bel1 hb2
  have S2 := Shows.of_own F2.owns
  have hlen := cfg_len rate (i64r _)
  clear k0 k1 k2 k3 k4 k5 kl kf C2 C1 hb2 F2
  obtain ⟨m, hm⟩ : ∃ m, (bytesOf (cfgL rate)).length = m := ⟨_, rfl⟩
  have hm' := Lib.hid hm
  rw [hm] at S2 hlen ⊢
  go_wp2_with fail
  have hrd := read_cfg rate (i64r _) A c' w2.heap.size (w2.alloc (.cells #[.bool true, .slice none 0 0, .slice none 0 0, .slice none 0 0, .slice none 0 0, .slice none 0 0, .slice none 0 0, .pointer none, .pointer none] 285)) (by rw [hm]; exact S2.alloc (Nat.le_refl _) _) (by simp)
  rw [hm] at hrd
  refine hrd.mono ?_
  rintro e w3 ⟨v3, rfl, V3, hb3⟩
  clear hrd
  have bel3 : Below w.heap.size w w3 := bel_call (bel_alloc bel2 _) hb3
  have K3 : Block w3 w2.heap.size 285 [.bool true, .slice none 0 0, .slice none 0 0, .slice none 0 0, .slice none 0 0, .slice none 0 0, .slice none 0 0, .pointer none, .pointer none] := Block.call (by exact sBlk) hb3
  obtain ⟨jb3, jc3, qb3, qc3, rb3, rc3, db3, dc3, b3, c3, rfl, h'⟩ := V3
  have V4 : CfgV rate (w2.heap.size + 1) w3 _ := ⟨jb3, jc3, qb3, qc3, rb3, rc3, db3, dc3, b3, c3, rfl, by simpa using h'⟩
  have hJ3 := h'.1
  clear h' hb3 S2
  have z2 := bel2.size
  have K4 := K3
  obtain ⟨kl, kf, k0, k1, k2, k3, k4, k5, k6, k7, k8⟩ := K4.c9
  have jl := hJ3.lt; have j0 := hJ3.cell (j := 0) rfl; have j1 := hJ3.cell (j := 1) rfl; have j2 := hJ3.cell (j := 2) rfl; have j3 := hJ3.cell (j := 3) rfl; have j4 := hJ3.cell (j := 4) rfl
  have hjK : jb3 ≠ w2.heap.size := by
    obtain ⟨_, _, _, _, _, _, _, _, _, _, hv, _, _, _, _, _, _, g1, _⟩ := V4
    injection hv with hv
    simp at hv
    omega
  go_upto_region 9 with fail
  refine at_code (fun W => Below w.heap.size w W ∧ Block W w2.heap.size 285 [.bool true, .slice (some ⟨jb3, 0, none⟩) 1 jc3, .slice (some ⟨qb3, 0, none⟩) 1 qc3, .slice none 0 0, .slice none 0 0, .slice none 0 0, .slice none 0 0, .pointer none, .pointer none] ∧ CfgV rate (w2.heap.size + 1) W (.agg #[.slice (some ⟨jb3, 0, none⟩) 1 jc3, .slice (some ⟨qb3, 0, none⟩) 1 qc3, .slice none 0 0, .slice none 0 0, .slice none 0 0, .slice none 0 0]))
    ⟨by exact sBel, ((((((K3.set 1 _).set 2 _).set 3 _).set 4 _).set 5 _).set 6 _), V4.keptX (X := [w2.heap.size]) (by repeat' (first | (with_reducible exact Kept.refl _ _) | (with_reducible refine Kept.set ?_ (by simp) _))) (by simp)⟩ ?_
  clear k0 k1 k2 k3 k4 k5 k6 k7 k8 kl kf K4 K3 V4 j0 j1 j2 j3 j4 jl hJ3 bel3
  rintro w4 ⟨bel4, K4, V4⟩
  obtain ⟨jb4, jc4, qb4, qc4, rb4, rc4, db4, dc4, b4, c4, hv, hJ4, hR4, hB4, hQ4, hD4, ⟨c1', c2', c3', c4'⟩, g1, g2, g3, g4, g5⟩ := V4
  have V4 : CfgV rate (w2.heap.size + 1) w4 _ := ⟨jb4, jc4, qb4, qc4, rb4, rc4, db4, dc4, b4, c4, rfl, hJ4, hR4, hB4, hQ4, hD4, ⟨c1', c2', c3', c4'⟩, g1, g2, g3, g4, g5⟩
  injection hv with hv
  simp only [Array.mk.injEq, List.cons.injEq, Value.slice.injEq, Option.some.injEq, Addr.mk.injEq, and_true, true_and] at hv
  obtain ⟨⟨rfl, rfl⟩, rfl, rfl⟩ := hv
  have K5 := K4
  obtain ⟨kl, kf, k0, k1, k2, k3, k4, k5, k6, k7, k8⟩ := K5.c9
  have jl := hJ4.lt; have j0 := hJ4.cell (j := 0) rfl; have j1 := hJ4.cell (j := 1) rfl; have j2 := hJ4.cell (j := 2) rfl; have j3 := hJ4.cell (j := 3) rfl; have j4 := hJ4.cell (j := 4) rfl
  go_wp2_with fail
  refine wp_loop_rounds 2 ?_
  rw [rounds_succ]
  go_wp2_with (at_builtin; refine wpList_append_nil rfl _ _ 286 rfl 39 _ 1 24 Tryz.underlying286 info_rg rfl (w4.heap.size + 1) 0 1 1 [.slice (some ⟨rb4, 0, none⟩) 1 rc4] rfl rfl rfl (by intro j v hj; rw [Nat.zero_add]; exact (Block.cell (btop (cs := [.slice (some ⟨rb4, 0, none⟩) 1 rc4]) (by simp)) j).trans hj) (by omega) (by unfold maxLen; omega) (by omega) ?_; intro J k hJ hk)
  rw [rounds_succ]
  go_wp2_with fail
  refine at_world (fun W => Below w4.heap.size w4 W ∧ w4.heap.size + 2 < W.heap.size ∧ Has W (w4.heap.size + 1 + 1) [.slice (some ⟨rb4, 0, none⟩) 1 rc4]) ⟨by exact sBel, by simp, (has_top (news := [.slice (some ⟨rb4, 0, none⟩) 1 rc4]) (by simp)).drew⟩ ?_
  rintro w5 ⟨bel5, z5, H5⟩
  refine (build_ix (w4.heap.size + 1 + 1) _ rb4 rc4 b4 c4 w5 c3' H5 (hR4.call bel5) (hB4.call bel5)).mono ?_
  rintro e w6 ⟨I, rfl, hI, X6, hb6⟩
  have bel6 : Below w4.heap.size w4 w6 := bel_call bel5 hb6
  have K6 := K4.call bel6
  have V6 := (V4.call bel5).all.call hb6
  have z6 := bel6.size
  have z4 := bel4.size
  have zK := K4.lt
  clear k0 k1 k2 k3 k4 k5 k6 k7 k8 kl kf K5 j0 j1 j2 j3 j4 jl hJ4 hR4 hB4 hQ4 hD4
  have K7 := K6
  obtain ⟨kl, kf, k0, k1, k2, k3, k4, k5, k6, k7, k8⟩ := K7.c9
  go_wp2_with fail
  go_returns
  have kk : Kept [w2.heap.size] w6 (w6.setCell ⟨w2.heap.size, 7, none⟩ (.pointer (some ⟨I, 0, none⟩))) := (Kept.refl _ w6).set (by simp) _
  have bel7 : Below w.heap.size w w6 := bel_call bel4 bel6
  exact ⟨w2.heap.size, rfl, ⟨_, I, w5.heap.size, K6.set 7 (.pointer (some ⟨I, 0, none⟩)), V6.keptX kk (by simp), by simpa using X6.ok3.keptX kk (by simp; omega), by omega, by omega, by simp; exact hb6.size, by simp⟩, by exact sBel⟩
end Go.Proofs.YthmhdaefkhcenaaGreatDoor
