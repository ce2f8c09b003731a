/- Lemmas for it; no condition: TChk TChk2. -/
import Derived.Test.YthmhdaefkhcenaaGreatDoorZ08
import Derived.Test.YthmhdaefkhcenaaGreatDoorZ14
import Derived.Test.YthmhdaefkhcenaaGreatDoorZ24
import Derived.Test.YthmhdaefkhcenaaGreatDoorZ30
import Derived.Test.YthmhdaefkhcenaaGreatDoorZ35
set_option linter.unusedVariables false
set_option linter.unusedSimpArgs false
namespace Go.Proofs.YthmhdaefkhcenaaGreatDoor
set_option maxRecDepth 100000
set_option maxHeartbeats 8000000
open Go.RowKit Go.Lib

theorem regions_cfg (rate : Int) (n : Nat) (v : Value) (w : World) (h : CfgV rate n w v) : Calls Tryz.prog 174 #[v] w fun e w' => e = .returned (.tuple #[.int .i64 0, .int .i64 0]) ∧ Below w.heap.size w w' := by
  obtain ⟨jb, jc, qb, qc, rb, rc, db, dc, b, c, rfl, hJ, hR, hB, hQ, hD, ⟨c1, c2, c3, c4⟩, -⟩ := h
  go_enter Tryz.func174, Tryz.ntmps174
  have jl := hJ.lt; have j0 := hJ.cell (j := 0) rfl; have j1 := hJ.cell (j := 1) rfl; have j2 := hJ.cell (j := 2) rfl; have j3 := hJ.cell (j := 3) rfl; have j4 := hJ.cell (j := 4) rfl
  go_wp2_with fail
  refine wp_loop_rounds 2 ?_
  rw [rounds_succ]
  go_wp2_with fail
  refine (gcheck_box apart_ok rb rc b c _ c3 (by exact sHas) (by exact sHas)).mono ?_
  rintro e w1 ⟨rfl, hb1⟩
  have bel1 : Below w.heap.size w w1 := bel_call (by exact sBel) hb1
  clear hb1
  go_wp2_with fail
  rw [rounds_succ]
  go_wp2_with fail
  go_returns
  exact ⟨rfl, by exact sBel⟩
theorem there_cfg (rate : Int) (n : Nat) (v : Value) (w : World) (h : CfgV rate n w v) : Calls Tryz.prog 236 #[v, .int .i64 7] w fun e w' => e = .returned (.bool true) ∧ Below w.heap.size w w' := by
  obtain ⟨jb, jc, qb, qc, rb, rc, db, dc, b, c, rfl, hJ, hR, hB, hQ, hD, ⟨c1, c2, c3, c4⟩, -⟩ := h
  go_enter Tryz.func236, Tryz.ntmps236
  have jl := hJ.lt; have j0 := hJ.cell (j := 0) rfl; have j1 := hJ.cell (j := 1) rfl; have j2 := hJ.cell (j := 2) rfl; have j3 := hJ.cell (j := 3) rfl; have j4 := hJ.cell (j := 4) rfl
  go_wp2_with fail
  refine (jfind jb jc rb rc _ (by exact sHas)).mono ?_
  rintro e w1 ⟨rfl, hb1⟩
  have bel1 : Below w.heap.size w w1 := bel_call (by exact sBel) hb1
  clear hb1
  simp only [juC]
  go_wp2_with fail
  go_returns
  exact ⟨rfl, by exact sBel⟩
theorem dcheck_one (d c : Nat) (rate : Int) (w : World) (h : Has w d [.int .i64 0, .int .i64 rate]) : Calls Tryz.prog 284 #[.slice (some ⟨d, 0, none⟩) 1 c] w fun e w' => e = .returned (.int .i64 0) ∧ Below w.heap.size w w' := by
  have kl := h.lt; have k0 := h.cell (j := 0) rfl; have k1 := h.cell (j := 1) rfl
  go_enter Tryz.func284, Tryz.ntmps284
  go_wp2
  (repeat (first | (rw [rounds_succ]; go_wp2) | (refine wp_loop_rounds 2 ?_; rw [rounds_succ]; go_wp2) | (go_quiet (fail); go_wp2)))
  exact ret_t rfl rfl rfl ⟨rfl, by exact sBel⟩
theorem rate_cfg (rate : Int) (h0 : 0 ≤ rate) (h1 : rate ≤ 1000000) (n : Nat) (v : Value) (db dc : Nat) (w : World) (h : CfgV rate n w v) (hD : Has w db [.int .i64 0, .int .i64 rate]) :
    Calls Tryz.prog 233 #[v, .agg #[.int .i64 7, .slice (some ⟨db, 0, none⟩) 1 dc], .int .i64 0] w fun e w' => e = .returned (.int .i64 0) ∧ Below w.heap.size w w' := by
  obtain ⟨jb, jc, qb, qc, rb, rc, db', dc', b, c, rfl, h'⟩ := h
  have hV : CfgV rate n w _ := ⟨jb, jc, qb, qc, rb, rc, db', dc', b, c, rfl, h'⟩
  clear h'
  go_enter Tryz.func233, Tryz.ntmps233
  go_wp2_with fail
  refine (there_cfg rate n _ _ (hV.call (by exact sBel))).mono ?_
  rintro e w1 ⟨rfl, hb1⟩
  have bel1 : Below w.heap.size w w1 := bel_call (by exact sBel) hb1
  have C1 : Block w1 w.heap.size 35 [.slice (some ⟨jb, 0, none⟩) 1 jc, .slice (some ⟨qb, 0, none⟩) 1 qc, .slice none 0 0, .slice none 0 0, .slice none 0 0, .slice none 0 0] := by exact sBlk
  have R1 : Block w1 (w.heap.size + 1) 81 [.int .i64 7, .slice (some ⟨db, 0, none⟩) 1 dc] := by exact sBlk
  have R2 := R1
  obtain ⟨rl, rf, r0, r1⟩ := R2.c2
  clear hb1
  go_wp2_with fail
  refine (dcheck_one db dc rate _ (hD.call bel1)).mono ?_
  rintro e w2 ⟨rfl, hb2⟩
  have bel2 : Below w.heap.size w w2 := bel_call bel1 hb2
  have R3 : Block w2 (w.heap.size + 1) 81 [.int .i64 7, .slice (some ⟨db, 0, none⟩) 1 dc] := by exact sBlk
  have D2 := hD.call bel2
  clear hb2 r0 r1 rl rf R2
  obtain ⟨rl, rf, r0, r1⟩ := R3.c2
  have dl := D2.lt; have d0 := D2.cell (j := 0) rfl; have d1 := D2.cell (j := 1) rfl
  have q1 : ¬ rate < 0 := by omega
  go_wp2_with fail
  (repeat (first | (rw [rounds_succ]; go_wp2_with (fail)) | (refine wp_loop_rounds 2 ?_; rw [rounds_succ]; go_wp2_with (fail)) | (go_quiet (fail); go_wp2_with (fail))))
  go_returns
  exact ⟨rfl, by exact sBel⟩
theorem rates_cfg (rate : Int) (h0 : 0 ≤ rate) (h1 : rate ≤ 1000000) (n : Nat) (v : Value) (w : World) (h : CfgV rate n w v) : Calls Tryz.prog 176 #[v] w fun e w' => e = .returned (.tuple #[.int .i64 0, .int .i64 0]) ∧ Below w.heap.size w w' := by
  obtain ⟨jb, jc, qb, qc, rb, rc, db, dc, b, c, rfl, hJ, hR, hB, hQ, hD, h'⟩ := h
  have hV : CfgV rate n w _ := ⟨jb, jc, qb, qc, rb, rc, db, dc, b, c, rfl, hJ, hR, hB, hQ, hD, h'⟩
  go_enter Tryz.func176, Tryz.ntmps176
  have ql := hQ.lt; have q0 := hQ.cell (j := 0) rfl; have q1 := hQ.cell (j := 1) rfl
  go_wp2_with fail
  refine wp_loop_rounds 2 ?_
  rw [rounds_succ]
  go_wp2_with fail
  refine (rate_cfg rate h0 h1 n _ db dc _ (hV.call (by exact sBel)) (hD.call (by exact sBel))).mono ?_
  rintro e w1 ⟨rfl, hb1⟩
  have bel1 : Below w.heap.size w w1 := bel_call (by exact sBel) hb1
  have B1 : Block w1 (w.heap.size + 1) 81 [.int .i64 7, .slice (some ⟨db, 0, none⟩) 1 dc] := by exact sBlk
  obtain ⟨rl, rf, r0, r1⟩ := B1.c2
  clear hb1
  go_wp2_with fail
  rw [rounds_succ]
  go_wp2_with fail
  go_returns
  exact ⟨rfl, by exact sBel⟩
theorem rules_none (w : World) : Calls Tryz.prog 178 #[.slice none 0 0] w fun e w' => e = .returned (.tuple #[.int .i64 0, .int .i64 0]) ∧ Below w.heap.size w w' := by
  go_enter Tryz.func178, Tryz.ntmps178
  go_wp2
  (repeat (first | (rw [rounds_succ]; go_wp2) | (refine wp_loop_rounds 1 ?_; rw [rounds_succ]; go_wp2) | (go_quiet (fail); go_wp2)))
  go_returns
  exact ⟨rfl, by exact sBel⟩
theorem certs_none (w : World) : Calls Tryz.prog 182 #[.slice none 0 0] w fun e w' => e = .returned (.tuple #[.int .i64 0, .int .i64 0]) ∧ Below w.heap.size w w' := by
  go_enter Tryz.func182, Tryz.ntmps182
  go_wp2
  (repeat (first | (rw [rounds_succ]; go_wp2) | (refine wp_loop_rounds 1 ?_; rw [rounds_succ]; go_wp2) | (go_quiet (fail); go_wp2)))
  go_returns
  exact ⟨rfl, by exact sBel⟩
theorem holidays_none (w : World) : Calls Tryz.prog 186 #[.slice none 0 0] w fun e w' => e = .returned (.tuple #[.int .i64 0, .int .i64 0]) ∧ Below w.heap.size w w' := by
  go_enter Tryz.func186, Tryz.ntmps186
  go_wp2
  (repeat (first | (rw [rounds_succ]; go_wp2) | (refine wp_loop_rounds 1 ?_; rw [rounds_succ]; go_wp2) | (go_quiet (fail); go_wp2)))
  go_returns
  exact ⟨rfl, by exact sBel⟩
theorem streets_none (w : World) : Calls Tryz.prog 190 #[.slice none 0 0] w fun e w' => ∃ t, e = .returned (.tuple #[t, .agg #[.int .i64 0, .int .i64 0]]) ∧ Below w.heap.size w w' := by
  have hmm := @run_makeMap Tryz.prog
  go_enter Tryz.func190, Tryz.ntmps190
  go_wp2
  (repeat (first | (rw [rounds_succ]; go_wp2) | (refine wp_loop_rounds 1 ?_; rw [rounds_succ]; go_wp2) | (go_quiet (fail); go_wp2)))
  refine ret_tcS rfl rfl rfl (T := 194) (cs := [.int .i64 0, .int .i64 0]) (sCls) agg_fault size_fault ?_
  exact ⟨_, rfl, by exact sBel⟩
end Go.Proofs.YthmhdaefkhcenaaGreatDoor
namespace Go.Proofs.YthmhdaefkhcenaaGreatDoor
set_option maxRecDepth 100000
set_option maxHeartbeats 8000000
open Go.RowKit Go.Lib

theorem run_store_func {P : Program} (a : Addr) (f : Fn) (x y : Array Value) (m : Mode) (w : World) : (store a (.func f x y) m).run P w = stored P w a (.func f x y) m := run_store P w a _ m rfl
def CfgB (rate : Int) (n : Nat) (W : World) (g : Nat) : Prop := ∃ v : List Value, Block W g 35 v ∧ CfgV rate n W (.agg v.toArray)
theorem CfgB.call {rate : Int} {n g : Nat} {W W' : World} (h : CfgB rate n W g) (hb : Below W.heap.size W W') : CfgB rate n W' g := by
  obtain ⟨v, h1, h2⟩ := h
  exact ⟨v, h1.call hb, h2.call hb⟩
theorem CfgB.cells {rate : Int} {n g : Nat} {W : World} (h : CfgB rate n W g) : ∃ jb jc qb qc rb rc db dc b c, Block W g 35 [.slice (some ⟨jb, 0, none⟩) 1 jc, .slice (some ⟨qb, 0, none⟩) 1 qc, .slice none 0 0, .slice none 0 0, .slice none 0 0, .slice none 0 0] ∧ CfgV rate n W (.agg #[.slice (some ⟨jb, 0, none⟩) 1 jc, .slice (some ⟨qb, 0, none⟩) 1 qc, .slice none 0 0, .slice none 0 0, .slice none 0 0, .slice none 0 0]) ∧ Has W jb (juC rb rc) ∧ Has W rb [.slice (some ⟨b, 0, none⟩) 4 c] ∧ Has W b boxC ∧ Has W qb [.int .i64 7, .slice (some ⟨db, 0, none⟩) 1 dc] ∧ Has W db [.int .i64 0, .int .i64 rate] ∧ 1 ≤ rc := by
  obtain ⟨v, h1, jb, jc, qb, qc, rb, rc, db, dc, b, c, hv, h2, h3, h4, h5, h6, h7, h8⟩ := h
  have hv2 : v = [.slice (some ⟨jb, 0, none⟩) 1 jc, .slice (some ⟨qb, 0, none⟩) 1 qc, .slice none 0 0, .slice none 0 0, .slice none 0 0, .slice none 0 0] := by injection hv with hv; simpa using congrArg Array.toList hv
  subst hv2
  exact ⟨jb, jc, qb, qc, rb, rc, db, dc, b, c, h1, ⟨jb, jc, qb, qc, rb, rc, db, dc, b, c, rfl, h2, h3, h4, h5, h6, h7, h8⟩, h2, h3, h4, h5, h6, h7.2.2.1⟩
theorem check1_cfg (rate : Int) (h0 : 0 ≤ rate) (h1 : rate ≤ 1000000) (n g : Nat) (w : World) (h : CfgB rate n w g) : Calls Tryz.prog 172 #[.pointer (some ⟨g, 0, none⟩)] w fun e w' => e = .returned (.tuple #[.int .i64 0, .int .i64 0]) ∧ Below w.heap.size w w' := by
  obtain ⟨jb, jc, qb, qc, rb, rc, db, dc, b, c, hB, hV, hJ, hR, hX, hQ, hD, hc⟩ := h.cells
  obtain ⟨kl, kf, k0, k1, k2, k3, k4, k5⟩ := hB.c6
  go_enter Tryz.func172, Tryz.ntmps172
  go_wp2_with fail
  refine (jcheck jb jc rb rc w hJ).mono ?_
  rintro e w1 ⟨rfl, hb1⟩
  go_wp2_with fail
  go_returns
  exact ⟨rfl, hb1⟩
theorem check2_cfg (rate : Int) (h0 : 0 ≤ rate) (h1 : rate ≤ 1000000) (n g : Nat) (w : World) (h : CfgB rate n w g) : Calls Tryz.prog 173 #[.pointer (some ⟨g, 0, none⟩)] w fun e w' => e = .returned (.tuple #[.int .i64 0, .int .i64 0]) ∧ Below w.heap.size w w' := by
  obtain ⟨jb, jc, qb, qc, rb, rc, db, dc, b, c, hB, hV, hJ, hR, hX, hQ, hD, hc⟩ := h.cells
  obtain ⟨kl, kf, k0, k1, k2, k3, k4, k5⟩ := hB.c6
  go_enter Tryz.func173, Tryz.ntmps173
  go_wp2_with fail
  refine (regions_cfg rate n _ w hV).mono ?_
  rintro e w1 ⟨rfl, hb1⟩
  go_wp2_with fail
  go_returns
  exact ⟨rfl, hb1⟩
theorem check3_cfg (rate : Int) (h0 : 0 ≤ rate) (h1 : rate ≤ 1000000) (n g : Nat) (w : World) (h : CfgB rate n w g) : Calls Tryz.prog 175 #[.pointer (some ⟨g, 0, none⟩)] w fun e w' => e = .returned (.tuple #[.int .i64 0, .int .i64 0]) ∧ Below w.heap.size w w' := by
  obtain ⟨jb, jc, qb, qc, rb, rc, db, dc, b, c, hB, hV, hJ, hR, hX, hQ, hD, hc⟩ := h.cells
  obtain ⟨kl, kf, k0, k1, k2, k3, k4, k5⟩ := hB.c6
  go_enter Tryz.func175, Tryz.ntmps175
  go_wp2_with fail
  refine (rates_cfg rate h0 h1 n _ w hV).mono ?_
  rintro e w1 ⟨rfl, hb1⟩
  go_wp2_with fail
  go_returns
  exact ⟨rfl, hb1⟩
theorem known_Rule (a0 a1 a2 a3 a4 a5 f : Value) (w : World) : Calls Tryz.prog 179 #[.agg #[a0, a1, a2, a3, a4, a5], .slice none 0 0, .int .i64 0, .int .i64 0, f] w fun e w' => e = .returned (.tuple #[.int .i64 0, .int .i64 0]) ∧ Below w.heap.size w w' := by
  go_enter Tryz.func179, Tryz.ntmps179
  go_wp2
  (repeat (first | (rw [rounds_succ]; go_wp2) | (refine wp_loop_rounds 1 ?_; rw [rounds_succ]; go_wp2) | (go_quiet (fail); go_wp2)))
  go_returns
  exact ⟨rfl, by exact sBel⟩
theorem check4_cfg (rate : Int) (h0 : 0 ≤ rate) (h1 : rate ≤ 1000000) (n g : Nat) (w : World) (h : CfgB rate n w g) : Calls Tryz.prog 177 #[.pointer (some ⟨g, 0, none⟩)] w fun e w' => e = .returned (.tuple #[.int .i64 0, .int .i64 0]) ∧ Below w.heap.size w w' := by
  obtain ⟨jb, jc, qb, qc, rb, rc, db, dc, b, c, hB, hV, hJ, hR, hX, hQ, hD, hc⟩ := h.cells
  obtain ⟨kl, kf, k0, k1, k2, k3, k4, k5⟩ := hB.c6
  go_enter Tryz.func177, Tryz.ntmps177
  go_wp2_with fail
  refine (rules_none w).mono ?_
  rintro e w1 ⟨rfl, hb1⟩
  have B1 := hB.call hb1
  clear k0 k1 k2 k3 k4 k5 kl kf hB
  obtain ⟨kl, kf, k0, k1, k2, k3, k4, k5⟩ := B1.c6
  go_wp2_with fail
  refine (known_Rule _ _ _ _ _ _ _ w1).mono ?_
  rintro e w2 ⟨rfl, hb2⟩
  go_wp2_with fail
  go_returns
  exact ⟨rfl, bel_call hb1 hb2⟩
theorem known_Cert (a0 a1 a2 a3 a4 a5 f : Value) (w : World) : Calls Tryz.prog 183 #[.agg #[a0, a1, a2, a3, a4, a5], .slice none 0 0, .int .i64 0, .int .i64 0, f] w fun e w' => e = .returned (.tuple #[.int .i64 0, .int .i64 0]) ∧ Below w.heap.size w w' := by
  go_enter Tryz.func183, Tryz.ntmps183
  go_wp2
  (repeat (first | (rw [rounds_succ]; go_wp2) | (refine wp_loop_rounds 1 ?_; rw [rounds_succ]; go_wp2) | (go_quiet (fail); go_wp2)))
  go_returns
  exact ⟨rfl, by exact sBel⟩
theorem check5_cfg (rate : Int) (h0 : 0 ≤ rate) (h1 : rate ≤ 1000000) (n g : Nat) (w : World) (h : CfgB rate n w g) : Calls Tryz.prog 181 #[.pointer (some ⟨g, 0, none⟩)] w fun e w' => e = .returned (.tuple #[.int .i64 0, .int .i64 0]) ∧ Below w.heap.size w w' := by
  obtain ⟨jb, jc, qb, qc, rb, rc, db, dc, b, c, hB, hV, hJ, hR, hX, hQ, hD, hc⟩ := h.cells
  obtain ⟨kl, kf, k0, k1, k2, k3, k4, k5⟩ := hB.c6
  go_enter Tryz.func181, Tryz.ntmps181
  go_wp2_with fail
  refine (certs_none w).mono ?_
  rintro e w1 ⟨rfl, hb1⟩
  have B1 := hB.call hb1
  clear k0 k1 k2 k3 k4 k5 kl kf hB
  obtain ⟨kl, kf, k0, k1, k2, k3, k4, k5⟩ := B1.c6
  go_wp2_with fail
  refine (known_Cert _ _ _ _ _ _ _ w1).mono ?_
  rintro e w2 ⟨rfl, hb2⟩
  go_wp2_with fail
  go_returns
  exact ⟨rfl, bel_call hb1 hb2⟩
theorem known_Holiday (a0 a1 a2 a3 a4 a5 f : Value) (w : World) : Calls Tryz.prog 187 #[.agg #[a0, a1, a2, a3, a4, a5], .slice none 0 0, .int .i64 0, .int .i64 0, f] w fun e w' => e = .returned (.tuple #[.int .i64 0, .int .i64 0]) ∧ Below w.heap.size w w' := by
  go_enter Tryz.func187, Tryz.ntmps187
  go_wp2
  (repeat (first | (rw [rounds_succ]; go_wp2) | (refine wp_loop_rounds 1 ?_; rw [rounds_succ]; go_wp2) | (go_quiet (fail); go_wp2)))
  go_returns
  exact ⟨rfl, by exact sBel⟩
theorem check6_cfg (rate : Int) (h0 : 0 ≤ rate) (h1 : rate ≤ 1000000) (n g : Nat) (w : World) (h : CfgB rate n w g) : Calls Tryz.prog 185 #[.pointer (some ⟨g, 0, none⟩)] w fun e w' => e = .returned (.tuple #[.int .i64 0, .int .i64 0]) ∧ Below w.heap.size w w' := by
  obtain ⟨jb, jc, qb, qc, rb, rc, db, dc, b, c, hB, hV, hJ, hR, hX, hQ, hD, hc⟩ := h.cells
  obtain ⟨kl, kf, k0, k1, k2, k3, k4, k5⟩ := hB.c6
  go_enter Tryz.func185, Tryz.ntmps185
  go_wp2_with fail
  refine (holidays_none w).mono ?_
  rintro e w1 ⟨rfl, hb1⟩
  have B1 := hB.call hb1
  clear k0 k1 k2 k3 k4 k5 kl kf hB
  obtain ⟨kl, kf, k0, k1, k2, k3, k4, k5⟩ := B1.c6
  go_wp2_with fail
  refine (known_Holiday _ _ _ _ _ _ _ w1).mono ?_
  rintro e w2 ⟨rfl, hb2⟩
  go_wp2_with fail
  go_returns
  exact ⟨rfl, bel_call hb1 hb2⟩
theorem check7_cfg (rate : Int) (h0 : 0 ≤ rate) (h1 : rate ≤ 1000000) (n g : Nat) (w : World) (h : CfgB rate n w g) : Calls Tryz.prog 189 #[.pointer (some ⟨g, 0, none⟩)] w fun e w' => e = .returned (.tuple #[.int .i64 0, .int .i64 0]) ∧ Below w.heap.size w w' := by
  obtain ⟨jb, jc, qb, qc, rb, rc, db, dc, b, c, hB, hV, hJ, hR, hX, hQ, hD, hc⟩ := h.cells
  obtain ⟨kl, kf, k0, k1, k2, k3, k4, k5⟩ := hB.c6
  go_enter Tryz.func189, Tryz.ntmps189
  go_wp2_with fail
  refine (streets_none w).mono ?_
  rintro e w1 ⟨t, rfl, hb1⟩
  go_wp2_with fail
  (repeat (first | (rw [rounds_succ]; go_wp2) | (refine wp_loop_rounds 1 ?_; rw [rounds_succ]; go_wp2) | (go_quiet (fail); go_wp2)))
  go_returns
  exact ⟨rfl, by exact sBel⟩
theorem check8_cfg (rate : Int) (h0 : 0 ≤ rate) (h1 : rate ≤ 1000000) (n g : Nat) (w : World) (h : CfgB rate n w g) : Calls Tryz.prog 191 #[.pointer (some ⟨g, 0, none⟩)] w fun e w' => e = .returned (.tuple #[.int .i64 0, .int .i64 0]) ∧ Below w.heap.size w w' := by
  obtain ⟨jb, jc, qb, qc, rb, rc, db, dc, b, c, hB, hV, hJ, hR, hX, hQ, hD, hc⟩ := h.cells
  obtain ⟨kl, kf, k0, k1, k2, k3, k4, k5⟩ := hB.c6
  go_enter Tryz.func191, Tryz.ntmps191
  go_wp2_with fail
  obtain ⟨A, hA⟩ : ∃ A, A = w := ⟨_, rfl⟩
  refine (bytes_cfg jb jc rb rc b c qb qc db dc rate w (i64r _) hJ hR hX hQ hD).mono ?_
  rintro e w1 ⟨A, c', rfl, -, hb1⟩
  go_wp2_with fail
  go_returns
  exact ⟨rfl, hb1⟩
def chkC (g : Nat) : List Value := [.int .i64 1, .func (.func 172) #[] #[.pointer (some ⟨g, 0, none⟩)], .int .i64 2, .func (.func 173) #[] #[.pointer (some ⟨g, 0, none⟩)], .int .i64 3, .func (.func 175) #[] #[.pointer (some ⟨g, 0, none⟩)], .int .i64 4, .func (.func 177) #[] #[.pointer (some ⟨g, 0, none⟩)], .int .i64 5, .func (.func 181) #[] #[.pointer (some ⟨g, 0, none⟩)], .int .i64 6, .func (.func 185) #[] #[.pointer (some ⟨g, 0, none⟩)], .int .i64 7, .func (.func 189) #[] #[.pointer (some ⟨g, 0, none⟩)], .int .i64 0, .func (.func 191) #[] #[.pointer (some ⟨g, 0, none⟩)]]
theorem check_cfg (rate : Int) (h0 : 0 ≤ rate) (h1 : rate ≤ 1000000) (n : Nat) (v : Value) (w : World) (h : CfgV rate n w v) : Calls Tryz.prog 142 #[v] w fun e w' => e = .returned (.tuple #[.int .i64 0, .int .i64 0, .int .i64 0]) ∧ Below w.heap.size w w' := by
  obtain ⟨jb, jc, qb, qc, rb, rc, db, dc, b, c, rfl, h'⟩ := h
  have hV : CfgV rate n w _ := ⟨jb, jc, qb, qc, rb, rc, db, dc, b, c, rfl, h'⟩
  clear h'
  have hsf := @run_store_func Tryz.prog
  go_enter Tryz.func142, Tryz.ntmps142
  go_wp2_with fail
  refine at_code (fun W => Below w.heap.size w W ∧ CfgB rate n W w.heap.size ∧ Block W (w.heap.size + 1) 326 (chkC w.heap.size)) ⟨by exact sBel, ⟨[.slice (some ⟨jb, 0, none⟩) 1 jc, .slice (some ⟨qb, 0, none⟩) 1 qc, .slice none 0 0, .slice none 0 0, .slice none 0 0, .slice none 0 0], by exact sBlk, hV.call (by exact sBel)⟩, btop (by simp)⟩ ?_
  clear hV
  generalize hg : w.heap.size = g at *
  rintro w0 ⟨bel0, B0, L0⟩
  refine wp_loop_rounds 9 ?_
  rw [rounds_succ]
  have L : Block w0 (g + 1) _ [.int .i64 1, .func (.func 172) #[] #[.pointer (some ⟨g, 0, none⟩)], .int .i64 2, .func (.func 173) #[] #[.pointer (some ⟨g, 0, none⟩)], .int .i64 3, .func (.func 175) #[] #[.pointer (some ⟨g, 0, none⟩)], .int .i64 4, .func (.func 177) #[] #[.pointer (some ⟨g, 0, none⟩)], .int .i64 5, .func (.func 181) #[] #[.pointer (some ⟨g, 0, none⟩)], .int .i64 6, .func (.func 185) #[] #[.pointer (some ⟨g, 0, none⟩)], .int .i64 7, .func (.func 189) #[] #[.pointer (some ⟨g, 0, none⟩)], .int .i64 0, .func (.func 191) #[] #[.pointer (some ⟨g, 0, none⟩)]] := L0
  obtain ⟨kl, kf, k0, k1, k2, k3, k4, k5, k6, k7, k8, k9, k10, k11, k12, k13, k14, k15⟩ := L.c16
  go_wp2_with fail
  refine (check1_cfg rate h0 h1 n g _ (B0.call (by exact sBel))).mono ?_
  rintro e v ⟨rfl, hb⟩
  have bv : Below w0.heap.size w0 v := bel_call (by exact sBel) hb
  have hX : Block v w0.heap.size 326 [.int .i64 1, .func (.func 172) #[] #[.pointer (some ⟨g, 0, none⟩)]] := Block.call (by exact sBlk) hb
  have hX2 := hX
  obtain ⟨xl, xf, x0, x1⟩ := hX2.c2
  clear k0 k1 k2 k3 k4 k5 k6 k7 k8 k9 k10 k11 k12 k13 k14 k15 kl kf hb L
  go_wp2_with fail
  refine at_code (fun W => Below g w W ∧ CfgB rate n W g ∧ Block W (g + 1) 326 (chkC g)) ⟨bel0.trans ((show Below w0.heap.size w0 _ from by exact sBel).mono (hg ▸ bel0.size)), B0.call (by exact sBel), L0.call (by exact sBel)⟩ ?_
  clear bv hX hX2 x0 x1 xl xf B0 L0
  rintro w1 ⟨bel1, B1, L1⟩
  have L : Block w1 (g + 1) _ [.int .i64 1, .func (.func 172) #[] #[.pointer (some ⟨g, 0, none⟩)], .int .i64 2, .func (.func 173) #[] #[.pointer (some ⟨g, 0, none⟩)], .int .i64 3, .func (.func 175) #[] #[.pointer (some ⟨g, 0, none⟩)], .int .i64 4, .func (.func 177) #[] #[.pointer (some ⟨g, 0, none⟩)], .int .i64 5, .func (.func 181) #[] #[.pointer (some ⟨g, 0, none⟩)], .int .i64 6, .func (.func 185) #[] #[.pointer (some ⟨g, 0, none⟩)], .int .i64 7, .func (.func 189) #[] #[.pointer (some ⟨g, 0, none⟩)], .int .i64 0, .func (.func 191) #[] #[.pointer (some ⟨g, 0, none⟩)]] := L1
  obtain ⟨kl, kf, k0, k1, k2, k3, k4, k5, k6, k7, k8, k9, k10, k11, k12, k13, k14, k15⟩ := L.c16
  go_wp2_with fail
  refine (check2_cfg rate h0 h1 n g _ (B1.call (by exact sBel))).mono ?_
  rintro e v ⟨rfl, hb⟩
  have bv : Below w1.heap.size w1 v := bel_call (by exact sBel) hb
  have hX : Block v w1.heap.size 326 [.int .i64 2, .func (.func 173) #[] #[.pointer (some ⟨g, 0, none⟩)]] := Block.call (by exact sBlk) hb
  have hX2 := hX
  obtain ⟨xl, xf, x0, x1⟩ := hX2.c2
  clear k0 k1 k2 k3 k4 k5 k6 k7 k8 k9 k10 k11 k12 k13 k14 k15 kl kf hb L
  go_wp2_with fail
  refine at_code (fun W => Below g w W ∧ CfgB rate n W g ∧ Block W (g + 1) 326 (chkC g)) ⟨bel1.trans ((show Below w1.heap.size w1 _ from by exact sBel).mono (hg ▸ bel1.size)), B1.call (by exact sBel), L1.call (by exact sBel)⟩ ?_
  clear bv hX hX2 x0 x1 xl xf B1 L1
  rintro w2 ⟨bel2, B2, L2⟩
  have L : Block w2 (g + 1) _ [.int .i64 1, .func (.func 172) #[] #[.pointer (some ⟨g, 0, none⟩)], .int .i64 2, .func (.func 173) #[] #[.pointer (some ⟨g, 0, none⟩)], .int .i64 3, .func (.func 175) #[] #[.pointer (some ⟨g, 0, none⟩)], .int .i64 4, .func (.func 177) #[] #[.pointer (some ⟨g, 0, none⟩)], .int .i64 5, .func (.func 181) #[] #[.pointer (some ⟨g, 0, none⟩)], .int .i64 6, .func (.func 185) #[] #[.pointer (some ⟨g, 0, none⟩)], .int .i64 7, .func (.func 189) #[] #[.pointer (some ⟨g, 0, none⟩)], .int .i64 0, .func (.func 191) #[] #[.pointer (some ⟨g, 0, none⟩)]] := L2
  obtain ⟨kl, kf, k0, k1, k2, k3, k4, k5, k6, k7, k8, k9, k10, k11, k12, k13, k14, k15⟩ := L.c16
  go_wp2_with fail
  refine (check3_cfg rate h0 h1 n g _ (B2.call (by exact sBel))).mono ?_
  rintro e v ⟨rfl, hb⟩
  have bv : Below w2.heap.size w2 v := bel_call (by exact sBel) hb
  have hX : Block v w2.heap.size 326 [.int .i64 3, .func (.func 175) #[] #[.pointer (some ⟨g, 0, none⟩)]] := Block.call (by exact sBlk) hb
  have hX2 := hX
  obtain ⟨xl, xf, x0, x1⟩ := hX2.c2
  clear k0 k1 k2 k3 k4 k5 k6 k7 k8 k9 k10 k11 k12 k13 k14 k15 kl kf hb L
  go_wp2_with fail
  refine at_code (fun W => Below g w W ∧ CfgB rate n W g ∧ Block W (g + 1) 326 (chkC g)) ⟨bel2.trans ((show Below w2.heap.size w2 _ from by exact sBel).mono (hg ▸ bel2.size)), B2.call (by exact sBel), L2.call (by exact sBel)⟩ ?_
  clear bv hX hX2 x0 x1 xl xf B2 L2
  rintro w3 ⟨bel3, B3, L3⟩
  have L : Block w3 (g + 1) _ [.int .i64 1, .func (.func 172) #[] #[.pointer (some ⟨g, 0, none⟩)], .int .i64 2, .func (.func 173) #[] #[.pointer (some ⟨g, 0, none⟩)], .int .i64 3, .func (.func 175) #[] #[.pointer (some ⟨g, 0, none⟩)], .int .i64 4, .func (.func 177) #[] #[.pointer (some ⟨g, 0, none⟩)], .int .i64 5, .func (.func 181) #[] #[.pointer (some ⟨g, 0, none⟩)], .int .i64 6, .func (.func 185) #[] #[.pointer (some ⟨g, 0, none⟩)], .int .i64 7, .func (.func 189) #[] #[.pointer (some ⟨g, 0, none⟩)], .int .i64 0, .func (.func 191) #[] #[.pointer (some ⟨g, 0, none⟩)]] := L3
  obtain ⟨kl, kf, k0, k1, k2, k3, k4, k5, k6, k7, k8, k9, k10, k11, k12, k13, k14, k15⟩ := L.c16
  go_wp2_with fail
  refine (check4_cfg rate h0 h1 n g _ (B3.call (by exact sBel))).mono ?_
  rintro e v ⟨rfl, hb⟩
  have bv : Below w3.heap.size w3 v := bel_call (by exact sBel) hb
  have hX : Block v w3.heap.size 326 [.int .i64 4, .func (.func 177) #[] #[.pointer (some ⟨g, 0, none⟩)]] := Block.call (by exact sBlk) hb
  have hX2 := hX
  obtain ⟨xl, xf, x0, x1⟩ := hX2.c2
  clear k0 k1 k2 k3 k4 k5 k6 k7 k8 k9 k10 k11 k12 k13 k14 k15 kl kf hb L
  go_wp2_with fail
  refine at_code (fun W => Below g w W ∧ CfgB rate n W g ∧ Block W (g + 1) 326 (chkC g)) ⟨bel3.trans ((show Below w3.heap.size w3 _ from by exact sBel).mono (hg ▸ bel3.size)), B3.call (by exact sBel), L3.call (by exact sBel)⟩ ?_
  clear bv hX hX2 x0 x1 xl xf B3 L3
  rintro w4 ⟨bel4, B4, L4⟩
  have L : Block w4 (g + 1) _ [.int .i64 1, .func (.func 172) #[] #[.pointer (some ⟨g, 0, none⟩)], .int .i64 2, .func (.func 173) #[] #[.pointer (some ⟨g, 0, none⟩)], .int .i64 3, .func (.func 175) #[] #[.pointer (some ⟨g, 0, none⟩)], .int .i64 4, .func (.func 177) #[] #[.pointer (some ⟨g, 0, none⟩)], .int .i64 5, .func (.func 181) #[] #[.pointer (some ⟨g, 0, none⟩)], .int .i64 6, .func (.func 185) #[] #[.pointer (some ⟨g, 0, none⟩)], .int .i64 7, .func (.func 189) #[] #[.pointer (some ⟨g, 0, none⟩)], .int .i64 0, .func (.func 191) #[] #[.pointer (some ⟨g, 0, none⟩)]] := L4
  obtain ⟨kl, kf, k0, k1, k2, k3, k4, k5, k6, k7, k8, k9, k10, k11, k12, k13, k14, k15⟩ := L.c16
  go_wp2_with fail
  refine (check5_cfg rate h0 h1 n g _ (B4.call (by exact sBel))).mono ?_
  rintro e v ⟨rfl, hb⟩
  have bv : Below w4.heap.size w4 v := bel_call (by exact sBel) hb
  have hX : Block v w4.heap.size 326 [.int .i64 5, .func (.func 181) #[] #[.pointer (some ⟨g, 0, none⟩)]] := Block.call (by exact sBlk) hb
  have hX2 := hX
  obtain ⟨xl, xf, x0, x1⟩ := hX2.c2
  clear k0 k1 k2 k3 k4 k5 k6 k7 k8 k9 k10 k11 k12 k13 k14 k15 kl kf hb L
  go_wp2_with fail
  refine at_code (fun W => Below g w W ∧ CfgB rate n W g ∧ Block W (g + 1) 326 (chkC g)) ⟨bel4.trans ((show Below w4.heap.size w4 _ from by exact sBel).mono (hg ▸ bel4.size)), B4.call (by exact sBel), L4.call (by exact sBel)⟩ ?_
  clear bv hX hX2 x0 x1 xl xf B4 L4
  rintro w5 ⟨bel5, B5, L5⟩
  have L : Block w5 (g + 1) _ [.int .i64 1, .func (.func 172) #[] #[.pointer (some ⟨g, 0, none⟩)], .int .i64 2, .func (.func 173) #[] #[.pointer (some ⟨g, 0, none⟩)], .int .i64 3, .func (.func 175) #[] #[.pointer (some ⟨g, 0, none⟩)], .int .i64 4, .func (.func 177) #[] #[.pointer (some ⟨g, 0, none⟩)], .int .i64 5, .func (.func 181) #[] #[.pointer (some ⟨g, 0, none⟩)], .int .i64 6, .func (.func 185) #[] #[.pointer (some ⟨g, 0, none⟩)], .int .i64 7, .func (.func 189) #[] #[.pointer (some ⟨g, 0, none⟩)], .int .i64 0, .func (.func 191) #[] #[.pointer (some ⟨g, 0, none⟩)]] := L5
  obtain ⟨kl, kf, k0, k1, k2, k3, k4, k5, k6, k7, k8, k9, k10, k11, k12, k13, k14, k15⟩ := L.c16
  go_wp2_with fail
  refine (check6_cfg rate h0 h1 n g _ (B5.call (by exact sBel))).mono ?_
  rintro e v ⟨rfl, hb⟩
  have bv : Below w5.heap.size w5 v := bel_call (by exact sBel) hb
  have hX : Block v w5.heap.size 326 [.int .i64 6, .func (.func 185) #[] #[.pointer (some ⟨g, 0, none⟩)]] := Block.call (by exact sBlk) hb
  have hX2 := hX
  obtain ⟨xl, xf, x0, x1⟩ := hX2.c2
  clear k0 k1 k2 k3 k4 k5 k6 k7 k8 k9 k10 k11 k12 k13 k14 k15 kl kf hb L
  go_wp2_with fail
  refine at_code (fun W => Below g w W ∧ CfgB rate n W g ∧ Block W (g + 1) 326 (chkC g)) ⟨bel5.trans ((show Below w5.heap.size w5 _ from by exact sBel).mono (hg ▸ bel5.size)), B5.call (by exact sBel), L5.call (by exact sBel)⟩ ?_
  clear bv hX hX2 x0 x1 xl xf B5 L5
  rintro w6 ⟨bel6, B6, L6⟩
  have L : Block w6 (g + 1) _ [.int .i64 1, .func (.func 172) #[] #[.pointer (some ⟨g, 0, none⟩)], .int .i64 2, .func (.func 173) #[] #[.pointer (some ⟨g, 0, none⟩)], .int .i64 3, .func (.func 175) #[] #[.pointer (some ⟨g, 0, none⟩)], .int .i64 4, .func (.func 177) #[] #[.pointer (some ⟨g, 0, none⟩)], .int .i64 5, .func (.func 181) #[] #[.pointer (some ⟨g, 0, none⟩)], .int .i64 6, .func (.func 185) #[] #[.pointer (some ⟨g, 0, none⟩)], .int .i64 7, .func (.func 189) #[] #[.pointer (some ⟨g, 0, none⟩)], .int .i64 0, .func (.func 191) #[] #[.pointer (some ⟨g, 0, none⟩)]] := L6
  obtain ⟨kl, kf, k0, k1, k2, k3, k4, k5, k6, k7, k8, k9, k10, k11, k12, k13, k14, k15⟩ := L.c16
  go_wp2_with fail
  refine (check7_cfg rate h0 h1 n g _ (B6.call (by exact sBel))).mono ?_
  rintro e v ⟨rfl, hb⟩
  have bv : Below w6.heap.size w6 v := bel_call (by exact sBel) hb
  have hX : Block v w6.heap.size 326 [.int .i64 7, .func (.func 189) #[] #[.pointer (some ⟨g, 0, none⟩)]] := Block.call (by exact sBlk) hb
  have hX2 := hX
  obtain ⟨xl, xf, x0, x1⟩ := hX2.c2
  clear k0 k1 k2 k3 k4 k5 k6 k7 k8 k9 k10 k11 k12 k13 k14 k15 kl kf hb L
  go_wp2_with fail
  refine at_code (fun W => Below g w W ∧ CfgB rate n W g ∧ Block W (g + 1) 326 (chkC g)) ⟨bel6.trans ((show Below w6.heap.size w6 _ from by exact sBel).mono (hg ▸ bel6.size)), B6.call (by exact sBel), L6.call (by exact sBel)⟩ ?_
  clear bv hX hX2 x0 x1 xl xf B6 L6
  rintro w7 ⟨bel7, B7, L7⟩
  have L : Block w7 (g + 1) _ [.int .i64 1, .func (.func 172) #[] #[.pointer (some ⟨g, 0, none⟩)], .int .i64 2, .func (.func 173) #[] #[.pointer (some ⟨g, 0, none⟩)], .int .i64 3, .func (.func 175) #[] #[.pointer (some ⟨g, 0, none⟩)], .int .i64 4, .func (.func 177) #[] #[.pointer (some ⟨g, 0, none⟩)], .int .i64 5, .func (.func 181) #[] #[.pointer (some ⟨g, 0, none⟩)], .int .i64 6, .func (.func 185) #[] #[.pointer (some ⟨g, 0, none⟩)], .int .i64 7, .func (.func 189) #[] #[.pointer (some ⟨g, 0, none⟩)], .int .i64 0, .func (.func 191) #[] #[.pointer (some ⟨g, 0, none⟩)]] := L7
  obtain ⟨kl, kf, k0, k1, k2, k3, k4, k5, k6, k7, k8, k9, k10, k11, k12, k13, k14, k15⟩ := L.c16
  go_wp2_with fail
  refine (check8_cfg rate h0 h1 n g _ (B7.call (by exact sBel))).mono ?_
  rintro e v ⟨rfl, hb⟩
  have bv : Below w7.heap.size w7 v := bel_call (by exact sBel) hb
  have hX : Block v w7.heap.size 326 [.int .i64 0, .func (.func 191) #[] #[.pointer (some ⟨g, 0, none⟩)]] := Block.call (by exact sBlk) hb
  have hX2 := hX
  obtain ⟨xl, xf, x0, x1⟩ := hX2.c2
  clear k0 k1 k2 k3 k4 k5 k6 k7 k8 k9 k10 k11 k12 k13 k14 k15 kl kf hb L
  go_wp2_with fail
  refine at_code (fun W => Below g w W ∧ CfgB rate n W g ∧ Block W (g + 1) 326 (chkC g)) ⟨bel7.trans ((show Below w7.heap.size w7 _ from by exact sBel).mono (hg ▸ bel7.size)), B7.call (by exact sBel), L7.call (by exact sBel)⟩ ?_
  clear bv hX hX2 x0 x1 xl xf B7 L7
  rintro w8 ⟨bel8, B8, L8⟩
  have L : Block w8 (g + 1) _ [.int .i64 1, .func (.func 172) #[] #[.pointer (some ⟨g, 0, none⟩)], .int .i64 2, .func (.func 173) #[] #[.pointer (some ⟨g, 0, none⟩)], .int .i64 3, .func (.func 175) #[] #[.pointer (some ⟨g, 0, none⟩)], .int .i64 4, .func (.func 177) #[] #[.pointer (some ⟨g, 0, none⟩)], .int .i64 5, .func (.func 181) #[] #[.pointer (some ⟨g, 0, none⟩)], .int .i64 6, .func (.func 185) #[] #[.pointer (some ⟨g, 0, none⟩)], .int .i64 7, .func (.func 189) #[] #[.pointer (some ⟨g, 0, none⟩)], .int .i64 0, .func (.func 191) #[] #[.pointer (some ⟨g, 0, none⟩)]] := L8
  obtain ⟨kl, kf, k0⟩ := L.c1
  go_wp2_with fail
  go_returns
  exact ⟨rfl, bel8⟩
end Go.Proofs.YthmhdaefkhcenaaGreatDoor
