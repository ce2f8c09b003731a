/- Lemmas for it; no condition: TTax2 TTax3 TTax4 TTax5 TTax6 TOrd. -/
import Derived.Test.YthmhdaefkhcenaaGreatDoorZ08
import Derived.Test.YthmhdaefkhcenaaGreatDoorZ22
import Derived.Test.YthmhdaefkhcenaaGreatDoorZ41
set_option linter.unusedVariables false
set_option linter.unusedSimpArgs false
namespace Go.Proofs.YthmhdaefkhcenaaGreatDoor
set_option maxRecDepth 100000
set_option maxHeartbeats 8000000
open Go.RowKit Go.Lib

theorem dated_cmp (db dc g h : Nat) (rate day : Int) (hd0 : 0 ≤ day) (w : World) (hD : Has w db [.int .i64 0, .int .i64 rate]) (hg : Block w g 79 [.slice (some ⟨db, 0, none⟩) 1 dc]) (hh : Block w h 3 [.int .i64 day]) :
    Calls Tryz.prog 367 #[.int .i64 0, .pointer (some ⟨g, 0, none⟩), .pointer (some ⟨h, 0, none⟩)] w fun e w' => e = .returned (.bool false) ∧ Below w.heap.size w w' := by
  have dl := hD.lt; have d0 := hD.cell (j := 0) rfl; have d1 := hD.cell (j := 1) rfl
  obtain ⟨gl, gf, g0⟩ := hg.c1
  obtain ⟨hl, hf, h0⟩ := hh.c1
  have q : ¬ day < 0 := by omega
  go_enter Tryz.func367, Tryz.ntmps367
  go_wp2_with fail
  go_quiet (fail)
  go_wp2_with fail
  exact ret_t rfl rfl (by simp [q]) ⟨rfl, by exact sBel⟩
theorem behind_one (db dc : Nat) (rate day : Int) (hd0 : 0 ≤ day) (w : World) (hD : Has w db [.int .i64 0, .int .i64 rate]) :
    Calls Tryz.prog 318 #[.slice (some ⟨db, 0, none⟩) 1 dc, .int .i64 day] w fun e w' => e = .returned (.int .i64 1) ∧ Below w.heap.size w w' := by
  go_enter Tryz.func318, Tryz.ntmps318
  go_wp2_with fail
  refine at_world (fun W => Below w.heap.size w W ∧ Block W w.heap.size 79 [.slice (some ⟨db, 0, none⟩) 1 dc] ∧ Block W (w.heap.size + 1) 3 [.int .i64 day]) ⟨by exact sBel, by exact sBlk, by exact sBlk⟩ ?_
  rintro w0 ⟨bel, B0, B1⟩
  have hD0 := hD.call bel
  obtain ⟨g, hg⟩ : ∃ g, w.heap.size = g := ⟨_, rfl⟩
  rw [hg] at B0 B1 ⊢
  go_in
  go_wp2_with fail
  refine wp_loop_rounds 2 ?_
  rw [rounds_succ]
  go_wp2_with (refine (dated_cmp db dc g (g + 1) rate day hd0 w0 hD0 B0 B1).mono ?_; rintro e w1 ⟨rfl, hb1⟩)
  rw [rounds_succ]
  go_wp2_with fail
  exact ret_t rfl rfl rfl ⟨rfl, bel_call bel hb1⟩
theorem dated_at (db dc : Nat) (rate day : Int) (hd0 : 0 ≤ day) (hd1 : day ≤ 3652058) (w : World) (hD : Has w db [.int .i64 0, .int .i64 rate]) :
    Calls Tryz.prog 269 #[.slice (some ⟨db, 0, none⟩) 1 dc, .int .i64 day] w fun e w' => e = .returned (.tuple #[.int .i64 rate, .bool true]) ∧ Below w.heap.size w w' := by
  go_enter Tryz.func269, Tryz.ntmps269
  go_wp2_with fail
  refine (dcheck_one db dc rate w hD).mono ?_
  rintro e w1 ⟨rfl, hb1⟩
  go_wp2_with (first | (refine (behind_one db dc rate day hd0 w1 (hD.call hb1)).mono ?_; rintro e w2 ⟨rfl, hb2⟩; have hD2 := (hD.call hb1).call hb2; have dl := hD2.lt; have d0 := hD2.cell (j := 0) rfl; have d1 := hD2.cell (j := 1) rfl) | go_in)
  go_returns
  exact ⟨rfl, bel_call hb1 hb2⟩
theorem rate_of (rate : Int) (n : Nat) (v : Value) (day : Int) (hd0 : 0 ≤ day) (hd1 : day ≤ 3652058) (w : World) (h : CfgV rate n w v) : Calls Tryz.prog 204 #[v, .int .i64 7, .int .i64 day] w fun e w' => e = .returned (.tuple #[.int .i64 rate, .bool true]) ∧ Below w.heap.size w w' := by
  obtain ⟨jb, jc, qb, qc, rb, rc, db, dc, b, c, rfl, hJ, hR, hB, hQ, hD, -, -⟩ := h
  have ql := hQ.lt; have q0 := hQ.cell (j := 0) rfl; have q1 := hQ.cell (j := 1) rfl
  go_enter Tryz.func204, Tryz.ntmps204
  go_wp2_with fail
  refine wp_loop_rounds 2 ?_
  rw [rounds_succ]
  go_wp2_with fail
  refine (dated_at db dc rate day hd0 hd1 _ (hD.call (by exact sBel))).mono ?_
  rintro e w1 ⟨rfl, hb1⟩
  have bel1 : Below w.heap.size w w1 := bel_call (by exact sBel) hb1
  clear hb1
  go_wp2_with fail
  go_returns
  exact ⟨rfl, bel1⟩
theorem agg_part (w : World) : (isAgg 366).run Tryz.prog w = .ok true w := by kernel_rfl
theorem size_part (w : World) : (sizeOf 366).run Tryz.prog w = .ok 9 w := by kernel_rfl
theorem agg_rule (w : World) : (isAgg 175).run Tryz.prog w = .ok true w := by kernel_rfl
theorem size_rule (w : World) : (sizeOf 175).run Tryz.prog w = .ok 6 w := by kernel_rfl
theorem agg_hol (w : World) : (isAgg 185).run Tryz.prog w = .ok true w := by kernel_rfl
theorem size_hol (w : World) : (sizeOf 185).run Tryz.prog w = .ok 6 w := by kernel_rfl
def six0 : List Value := [.int .i64 0, .int .i64 0, .int .i64 0, .int .i64 0, .int .i64 0, .int .i64 0]
theorem mof_none (a b c : Int) (w : World) : Calls Tryz.prog 319 #[.slice none 0 0, .int .i64 a, .int .i64 b, .int .i64 c] w fun e w' => e = .returned (.tuple #[.agg six0.toArray, .bool false]) ∧ Below w.heap.size w w' := by
  go_enter Tryz.func319, Tryz.ntmps319
  go_wp2
  (repeat (first | (rw [rounds_succ]; go_wp2) | (refine wp_loop_rounds 1 ?_; rw [rounds_succ]; go_wp2) | (go_quiet (fail); go_wp2)))
  exact ret_ctS rfl rfl rfl (T := 175) (cs := six0) (by unfold six0; exact sCls) agg_rule size_rule ⟨rfl, by exact sBel⟩
theorem rule_none (a b c : Int) (w : World) : Calls Tryz.prog 270 #[.slice none 0 0, .int .i64 a, .int .i64 b, .int .i64 c] w fun e w' => e = .returned (.tuple #[.agg six0.toArray, .bool false]) ∧ Below w.heap.size w w' := by
  go_enter Tryz.func270, Tryz.ntmps270
  go_wp2_with fail
  refine (rules_none _).mono ?_
  rintro e w1 ⟨rfl, hb1⟩
  have bel1 : Below w.heap.size w w1 := bel_call (by exact sBel) hb1
  have B1 : Block w1 w.heap.size 175 six0 := Block.call (btop rfl) hb1
  clear hb1
  go_wp2_with fail
  refine (mof_none a b c _).mono ?_
  rintro e w2 ⟨rfl, hb2⟩
  have bel2 : Below w.heap.size w w2 := bel_call bel1 hb2
  have B2 := B1.call hb2
  clear hb2
  simp only [six0]
  go_wp2_with fail
  refine (mof_none a 0 c _).mono ?_
  rintro e w3 ⟨rfl, hb3⟩
  have bel3 : Below w.heap.size w w3 := bel_call (by exact sBel) hb3
  have B3 : Block w3 w.heap.size 175 six0 := Block.call (by exact sBlk) hb3
  have B4 : Block w3 w.heap.size 175 [.int .i64 0, .int .i64 0, .int .i64 0, .int .i64 0, .int .i64 0, .int .i64 0] := B3
  obtain ⟨kl, kf, k0, k1, k2, k3, k4, k5⟩ := B4.c6
  clear hb3
  simp only [six0]
  go_wp2_with fail
  exact ret_ctS rfl rfl rfl (T := 175) (cs := six0) (by unfold six0; exact sCls) agg_rule size_rule ⟨rfl, by exact sBel⟩
theorem hof_none (a b c : Int) (w : World) : Calls Tryz.prog 373 #[.slice none 0 0, .int .i64 a, .int .i64 b, .int .i64 c] w fun e w' => e = .returned (.tuple #[.agg six0.toArray, .bool false]) ∧ Below w.heap.size w w' := by
  go_enter Tryz.func373, Tryz.ntmps373
  go_wp2
  (repeat (first | (rw [rounds_succ]; go_wp2) | (refine wp_loop_rounds 1 ?_; rw [rounds_succ]; go_wp2) | (go_quiet (fail); go_wp2)))
  exact ret_ctS rfl rfl rfl (T := 185) (cs := six0) (by unfold six0; exact sCls) agg_hol size_hol ⟨rfl, by exact sBel⟩
theorem has_none (a b c : Int) (w : World) : Calls Tryz.prog 321 #[.slice none 0 0, .int .i64 a, .int .i64 b, .int .i64 c] w fun e w' => e = .returned (.tuple #[.agg six0.toArray, .bool false]) ∧ Below w.heap.size w w' := by
  go_enter Tryz.func321, Tryz.ntmps321
  go_wp2_with fail
  refine (holidays_none _).mono ?_
  rintro e w1 ⟨rfl, hb1⟩
  have bel1 : Below w.heap.size w w1 := bel_call (by exact sBel) hb1
  have B1 : Block w1 w.heap.size 185 six0 := Block.call (btop rfl) hb1
  clear hb1
  go_wp2_with fail
  refine at_code (fun W => Below w.heap.size w W ∧ Block W w.heap.size 185 six0 ∧ Block W w1.heap.size 3 [.int .i64 b, .int .i64 0]) ⟨by exact sBel, by exact sBlk, by exact sBlk⟩ ?_
  rintro w2 ⟨bel2, B2, C2⟩
  have C3 := C2
  obtain ⟨cl, cf, c0, c1⟩ := C3.c2
  refine wp_loop_rounds 3 ?_
  rw [rounds_succ]
  go_wp2_with fail
  refine (hof_none a b c _).mono ?_
  rintro e w3 ⟨rfl, hb3⟩
  have bel3 : Below w.heap.size w w3 := bel_call bel2 hb3
  have B3 := B2.call hb3
  have D3 := C2.call hb3
  clear hb3 c0 c1 cl cf C3
  have C3 := D3
  obtain ⟨cl, cf, c0, c1⟩ := C3.c2
  simp only [six0]
  go_wp2_with fail
  rw [rounds_succ]
  go_wp2_with fail
  refine (hof_none a 0 c _).mono ?_
  rintro e w4 ⟨rfl, hb4⟩
  have bel4 : Below w.heap.size w w4 := bel_call (by exact sBel) hb4
  have B4 : Block w4 w.heap.size 185 six0 := Block.call (by exact sBlk) hb4
  simp only [six0]
  go_wp2_with fail
  rw [rounds_succ]
  go_upto_region 11 with (fail)
  refine at_code (fun W => Below w.heap.size w W ∧ Block W w.heap.size 185 six0) ⟨by exact sBel, by exact sBlk⟩ ?_
  rintro w5 ⟨bel5, B5'⟩
  have B5 : Block w5 w.heap.size 185 [.int .i64 0, .int .i64 0, .int .i64 0, .int .i64 0, .int .i64 0, .int .i64 0] := B5'
  obtain ⟨kl, kf, k0, k1, k2, k3, k4, k5⟩ := B5.c6
  go_wp2_with fail
  exact ret_ctS rfl rfl rfl (T := 185) (cs := six0) (by unfold six0; exact sCls) agg_hol size_hol ⟨rfl, by exact sBel⟩
theorem holiday_none (a b c n : Int) (h0 : 0 ≤ n) (h1 : n ≤ 1099511627775) (w : World) : Calls Tryz.prog 273 #[.slice none 0 0, .int .i64 a, .int .i64 b, .int .i64 c, .int .i64 n] w fun e w' => e = .returned (.tuple #[.int .i64 n, .int .i64 0]) ∧ Below w.heap.size w w' := by
  go_enter Tryz.func273, Tryz.ntmps273
  go_wp2_with fail
  refine (holidays_none _).mono ?_
  rintro e w1 ⟨rfl, hb1⟩
  go_wp2_with (first | (refine (has_none a b c w1).mono ?_; rintro e w2 ⟨rfl, hb2⟩; simp only [six0]) | go_in)
  go_returns
  have := bel_call hb1 hb2
  exact ⟨rfl, by exact sBel⟩
theorem cert_none (a b c d : Int) (w : World) : Calls Tryz.prog 274 #[.slice none 0 0, .int .i64 a, .int .i64 b, .int .i64 c, .int .i64 d] w fun e w' => e = .returned (.bool false) ∧ Below w.heap.size w w' := by
  go_enter Tryz.func274, Tryz.ntmps274
  go_wp2_with fail
  refine (certs_none _).mono ?_
  rintro e w1 ⟨rfl, hb1⟩
  go_wp2
  (repeat (first | (rw [rounds_succ]; go_wp2) | (refine wp_loop_rounds 1 ?_; rw [rounds_succ]; go_wp2) | (go_quiet (fail); go_wp2)))
  exact ret_t rfl rfl rfl ⟨rfl, by exact sBel⟩
end Go.Proofs.YthmhdaefkhcenaaGreatDoor
namespace Go.Proofs.YthmhdaefkhcenaaGreatDoor
open Go.RowKit Go.Lib

section
variable {P : Program} {ops : Array Oper} {Q : Exit → Act → World → Prop} {md : Region.Mode} {S : World → Prop} {t : Nat}
theorem AnyBut.two {i j : Nat} {o o' : Oper} {f : Nat} {l : Array Bool} {a : Act} {w : World} (ho0 : (ops.toList.drop i).head? = some o) (ho0' : (ops.toList.drop j).head? = some o') (hr : Region.ready md ops l = [i, j]) (hg : o.guard = none) (hg' : o'.guard = none)
    (h : ∀ K : Act → World → Prop, (∀ a w, S w → (S w → AnyBut P md ops Q S t f (l.setIfInBounds i true) a w) → K a w) → Oper.wp P o a w K Q)
    (h' : ∀ K : Act → World → Prop, (∀ a w, S w → (S w → AnyBut P md ops Q S t f (l.setIfInBounds j true) a w) → K a w) → Oper.wp P o' a w K Q) : AnyBut P md ops Q S t (f + 1) l a w := by
  have ho := op_at ho0
  have ho' := op_at ho0'
  refine ⟨fun h0 => (by rw [h0] at hr; cases hr), fun k hk => ?_⟩
  rw [hr] at hk
  rcases List.mem_cons.1 hk with e | hk
  · subst e
    unfold wpOp
    simp only [ho, Region.wanted, hg, if_true]
    exact .inl (h _ fun a w h1 h2 => ⟨fun _ => h1, h2 h1⟩)
  · have e : k = j := by simpa using hk
    subst e
    unfold wpOp
    simp only [ho', Region.wanted, hg', if_true]
    exact .inl (h' _ fun a w h1 h2 => ⟨fun _ => h1, h2 h1⟩)
end
def partC (kc : Nat) (id c n cu d b r y : Int) : List Value := [.pointer (some ⟨kc, 0, none⟩), .int .i64 id, .int .i64 c, .int .i64 n, .int .i64 cu, .int .i64 d, .int .i64 b, .int .i64 r, .int .i64 y]
set_option maxRecDepth 100000 in
set_option maxHeartbeats 8000000 in
theorem by_rule (rate : Int) (E kc : Nat) (id c n cu d b r y : Int) (w : World) (h : CalcAt rate E w kc) : Calls Tryz.prog 205 #[.agg (partC kc id c n cu d b r y).toArray] w fun e w' => e = .returned (.agg (partC kc id c n cu d n r 1).toArray) ∧ Below w.heap.size w w' := by
  obtain ⟨v, i, p, nb, hK0, hV, -⟩ := h
  obtain ⟨jb, jc, qb, qc, rb, rc, db, dc, bb, bc, hv, -⟩ := hV
  have hv2 : v = [.slice (some ⟨jb, 0, none⟩) 1 jc, .slice (some ⟨qb, 0, none⟩) 1 qc, .slice none 0 0, .slice none 0 0, .slice none 0 0, .slice none 0 0] := by injection hv with hv; simpa using congrArg Array.toList hv
  subst hv2
  clear hv
  replace hK0 : Block w kc 285 [.bool true, .slice (some ⟨jb, 0, none⟩) 1 jc, .slice (some ⟨qb, 0, none⟩) 1 qc, .slice none 0 0, .slice none 0 0, .slice none 0 0, .slice none 0 0, i, p] := hK0
  go_enter Tryz.func205, Tryz.ntmps205
  simp only [partC]
  go_upto_region 1 with (fail)
  refine at_code (fun W => Below w.heap.size w W ∧ Block W w.heap.size 366 (partC kc id c n cu d b r y) ∧ Block W (w.heap.size + 1) 366 [.pointer none, .int .i64 0, .int .i64 0, .int .i64 0, .int .i64 0, .int .i64 0, .int .i64 0, .int .i64 0, .int .i64 0]) ⟨by exact sBel, by unfold partC; exact sBlk, by exact sBlk⟩ ?_
  rintro w0 ⟨bel0, X0, Y0⟩
  generalize hg : w.heap.size = g at *
  have hkl := hK0.lt
  rw [hg] at hkl
  have K0 : Block w0 kc _ _ := hK0.below bel0 (by omega)
  have X1 := X0
  unfold partC at X1
  obtain ⟨xl, xf, x0, x1, x2, x3, x4, x5, x6, x7, x8⟩ := X1.c9
  obtain ⟨kl, kf, k0, k1, k2, k3, k4, k5, k6⟩ := K0.c7
  go_upto_region 2 with (fail)
  refine at_code (fun W => Below g w W ∧ Block W g 366 (partC kc id c n cu d n r 1) ∧ Block W (g + 1) 366 [.pointer none, .int .i64 0, .int .i64 0, .int .i64 0, .int .i64 0, .int .i64 0, .int .i64 0, .int .i64 0, .int .i64 0]) ⟨(bel0.setCell (Nat.le_refl _) _).setCell (Nat.le_refl _) _, (X0.set 6 _).set 8 _, (Y0.far (by simp) _).far (by simp) _⟩ ?_
  clear x0 x1 x2 x3 x4 x5 x6 x7 x8 xl xf X1 X0 Y0 k0 k1 k2 k3 k4 k5 k6 kl kf K0 bel0
  rintro w1 ⟨bel1, X1, Y1⟩
  have K1 : Block w1 kc _ _ := hK0.below bel1 (by omega)
  have X2 := X1
  unfold partC at X2
  obtain ⟨xl, xf, x0, x1, x2, x3, x4, x5, x6, x7, x8⟩ := X2.c9
  obtain ⟨kl, kf, k0, k1, k2, k3, k4, k5, k6⟩ := K1.c7
  refine AnyBut.region (S := fun w' => w'.cell? ⟨g, 0, none⟩ = some (.pointer (some ⟨kc, 0, none⟩)) ∧ w'.cell? ⟨g, 1, none⟩ = some (.int .i64 id) ∧ w'.cell? ⟨g, 2, none⟩ = some (.int .i64 c) ∧ w'.cell? ⟨g, 5, none⟩ = some (.int .i64 d) ∧ w'.cell? ⟨kc, 3, none⟩ = some (.slice none 0 0)) (t := 99) 19 rfl (by kernel_rfl) ?_ ?_
  · refine ⟨?_, ?_, ?_, ?_, ?_⟩ <;> go_simp
  intro hS
  refine AnyBut.tk0 0 hS rfl (h := ?_); refine AnyBut.tk0 1 hS rfl (h := ?_); refine AnyBut.tk0 2 hS rfl (h := ?_); refine AnyBut.tk0 3 hS rfl (h := ?_); refine AnyBut.tk0 4 hS rfl (h := ?_); refine AnyBut.tk0 5 hS rfl (h := ?_); refine AnyBut.tk0 6 hS rfl (h := ?_); refine AnyBut.tk0 7 hS rfl (h := ?_); refine AnyBut.tk0 8 hS rfl (h := ?_); refine AnyBut.tk0 9 hS rfl (h := ?_); refine AnyBut.tk0 10 hS rfl (h := ?_); refine AnyBut.tk0 11 hS rfl (h := ?_)
  refine AnyBut.two (i := 12) (j := 16) rfl rfl (by kernel_rfl) rfl rfl ?_ ?_
  · intro K hK
    go_wp2_with fail
    refine (rule_none id c d _).mono ?_
    rintro e w2 ⟨rfl, hb2⟩
    have B2 : Below g w w2 := bel1.trans (Below.mono (show Below w1.heap.size w1 w2 from bel_call (by exact sBel) hb2) (by have := X1.lt; omega))
    have X3 : Block w2 g 366 (partC kc id c n cu d n r 1) := X1.drew.call hb2
    have Y3 : Block w2 (g + 1) _ _ := Y1.drew.call hb2
    have K2 : Block w2 kc _ _ := K1.drew.call hb2
    clear x0 x1 x2 x3 x4 x5 x6 x7 x8 xl xf X2 k0 k1 k2 k3 k4 k5 k6 kl kf hb2
    have X2 := X3
    unfold partC at X2
    obtain ⟨xl, xf, x0, x1, x2, x3, x4, x5, x6, x7, x8⟩ := X2.c9
    obtain ⟨kl, kf, k0, k1, k2, k3, k4, k5, k6⟩ := K2.c7
    refine hK _ _ ?_ ?_ <;> clear hK K; rotate_left; intro hS; rotate_left
    · refine ⟨?_, ?_, ?_, ?_, ?_⟩ <;> go_simp
    simp only [six0]
    refine AnyBut.tk0 13 hS rfl (h := ?_); refine AnyBut.tk0 14 hS rfl (h := ?_); refine AnyBut.tk0 15 hS rfl (h := ?_)
    refine AnyBut.one (i := 16) rfl (by kernel_rfl) rfl ?_; intro K hK; go_simp; refine hK _ _ ?_ ?_ <;> clear hK K; rotate_left; intro hS; rotate_left
    · refine ⟨?_, ?_, ?_, ?_, ?_⟩ <;> go_simp
    refine AnyBut.one (i := 17) rfl (by kernel_rfl) rfl ?_; intro K hK; go_simp; refine hK _ _ ?_ ?_ <;> clear hK K; rotate_left; intro hS; rotate_left
    · refine ⟨?_, ?_, ?_, ?_, ?_⟩ <;> go_simp
    (refine AnyBut.one (i := 18) rfl (by kernel_rfl) rfl ?_; intro K hK; go_simp; refine hK _ _ hS ?_; clear hK K; intro _)
    refine AnyBut.done (by kernel_rfl) ?_
    go_upto_region 4 with (fail)
    refine at_code (fun W => Below g w W ∧ Block W g 366 (partC kc id c n cu d n r 1) ∧ Block W (g + 1) 366 [.pointer none, .int .i64 0, .int .i64 0, .int .i64 0, .int .i64 0, .int .i64 0, .int .i64 0, .int .i64 0, .int .i64 0]) ⟨B2.trans (Below.mono (show Below w2.heap.size w2 _ from by exact sBel) (by have := X3.lt; omega)), by exact sBlk, by exact sBlk⟩ ?_
    clear hS x0 x1 x2 x3 x4 x5 x6 x7 x8 xl xf X2
    rintro w5 ⟨bel5, X5, Y5⟩
    have X6 := X5
    unfold partC at X6
    obtain ⟨xl, xf, x0, x1, x2, x3, x4, x5, x6, x7, x8⟩ := X6.c9
    obtain ⟨yl, yf, y0, y1, y2, y3, y4, y5, y6, y7, y8⟩ := Y5.c9
    go_wp2_with fail
    refine ret_cS rfl rfl rfl (T := 366) (b := g + 1) (cs := partC kc id c n cu d n r 1) (by unfold partC; exact sCls) agg_part size_part ⟨rfl, ?_⟩
    rw [hg]
    repeat' (first | (with_reducible assumption) | (with_reducible refine Below.setCell ?_ (by simp) _))
  · intro K hK
    go_simp
    have bt : Below g w (w1.alloc (.cells #[.int .i64 0, .int .i64 0, .int .i64 0, .int .i64 0, .int .i64 0, .int .i64 0] 175)).drew := (bel1.alloc (by have := bel1.size; omega) _).drew
    refine hK _ _ ?_ ?_ <;> clear hK K; rotate_left; intro hS; rotate_left
    · refine ⟨?_, ?_, ?_, ?_, ?_⟩ <;> go_simp
    refine AnyBut.one (i := 12) rfl (by kernel_rfl) rfl ?_; intro K hK
    go_wp2_with fail
    refine (rule_none id c d _).mono ?_
    rintro e w2 ⟨rfl, hb2⟩
    have B2 : Below g w w2 := bt.trans (Below.mono hb2 (by have := X1.lt; simp; omega))
    have X3 : Block w2 g 366 (partC kc id c n cu d n r 1) := (X1.alloc _).drew.call hb2
    have Y3 : Block w2 (g + 1) _ _ := (Y1.alloc _).drew.call hb2
    have K2 : Block w2 kc _ _ := (K1.alloc _).drew.call hb2
    have R2 : Block w2 w1.heap.size 175 [.int .i64 0, .int .i64 0, .int .i64 0, .int .i64 0, .int .i64 0, .int .i64 0] := Block.call (Block.drew (btop rfl)) hb2
    have zx := X1.lt
    have zy := Y1.lt
    clear x0 x1 x2 x3 x4 x5 x6 x7 x8 xl xf X2 k0 k1 k2 k3 k4 k5 k6 kl kf hb2
    have X2 := X3
    unfold partC at X2
    obtain ⟨xl, xf, x0, x1, x2, x3, x4, x5, x6, x7, x8⟩ := X2.c9
    obtain ⟨kl, kf, k0, k1, k2, k3, k4, k5, k6⟩ := K2.c7
    obtain ⟨rl, rf, r0, r1, r2, r3, r4, r5⟩ := R2.c6
    refine hK _ _ ?_ ?_ <;> clear hK K; rotate_left; intro hS; rotate_left
    · refine ⟨?_, ?_, ?_, ?_, ?_⟩ <;> go_simp
    simp only [six0]
    refine AnyBut.tk0 13 hS rfl (h := ?_); refine AnyBut.tk0 14 hS rfl (h := ?_); refine AnyBut.tk0 15 hS rfl (h := ?_)
    refine AnyBut.one (i := 17) rfl (by kernel_rfl) rfl ?_; intro K hK; go_simp; refine hK _ _ ?_ ?_ <;> clear hK K; rotate_left; intro hS; rotate_left
    · refine ⟨?_, ?_, ?_, ?_, ?_⟩ <;> go_simp
    (refine AnyBut.one (i := 18) rfl (by kernel_rfl) rfl ?_; intro K hK; go_simp; refine hK _ _ hS ?_; clear hK K; intro _)
    refine AnyBut.done (by kernel_rfl) ?_
    go_upto_region 4 with (fail)
    refine at_code (fun W => Below g w W ∧ Block W g 366 (partC kc id c n cu d n r 1) ∧ Block W (g + 1) 366 [.pointer none, .int .i64 0, .int .i64 0, .int .i64 0, .int .i64 0, .int .i64 0, .int .i64 0, .int .i64 0, .int .i64 0]) ⟨by repeat' (first | (with_reducible assumption) | (with_reducible refine Below.setCell ?_ (by simp; omega) _)), ((((((X3.far (by simp; omega) _).far (by simp; omega) _).far (by simp; omega) _).far (by simp; omega) _).far (by simp; omega) _).far (by simp; omega) _), ((((((Y3.far (by simp; omega) _).far (by simp; omega) _).far (by simp; omega) _).far (by simp; omega) _).far (by simp; omega) _).far (by simp; omega) _)⟩ ?_
    clear hS x0 x1 x2 x3 x4 x5 x6 x7 x8 xl xf X2
    rintro w5 ⟨bel5, X5, Y5⟩
    have X6 := X5
    unfold partC at X6
    obtain ⟨xl, xf, x0, x1, x2, x3, x4, x5, x6, x7, x8⟩ := X6.c9
    obtain ⟨yl, yf, y0, y1, y2, y3, y4, y5, y6, y7, y8⟩ := Y5.c9
    go_wp2_with fail
    refine ret_cS rfl rfl rfl (T := 366) (b := g + 1) (cs := partC kc id c n cu d n r 1) (by unfold partC; exact sCls) agg_part size_part ⟨rfl, ?_⟩
    rw [hg]
    repeat' (first | (with_reducible assumption) | (with_reducible refine Below.setCell ?_ (by simp) _))
end Go.Proofs.YthmhdaefkhcenaaGreatDoor
namespace Go.Proofs.YthmhdaefkhcenaaGreatDoor
set_option maxRecDepth 100000
set_option maxHeartbeats 8000000
open Go.RowKit Go.Lib

theorem by_holiday (rate : Int) (E kc : Nat) (id c n cu d r y : Int) (hn0 : 0 ≤ n) (hn1 : n ≤ 1099511627775) (w : World) (h : CalcAt rate E w kc) : Calls Tryz.prog 206 #[.agg (partC kc id c n cu d n r y).toArray] w fun e w' => e = .returned (.agg (partC kc id c n cu d n r y).toArray) ∧ Below w.heap.size w w' := by
  obtain ⟨v, i, p, nb, hK0, hV, -⟩ := h
  obtain ⟨jb, jc, qb, qc, rb, rc, db, dc, bb, bc, hv, -⟩ := hV
  have hv2 : v = [.slice (some ⟨jb, 0, none⟩) 1 jc, .slice (some ⟨qb, 0, none⟩) 1 qc, .slice none 0 0, .slice none 0 0, .slice none 0 0, .slice none 0 0] := by injection hv with hv; simpa using congrArg Array.toList hv
  subst hv2
  clear hv
  replace hK0 : Block w kc 285 [.bool true, .slice (some ⟨jb, 0, none⟩) 1 jc, .slice (some ⟨qb, 0, none⟩) 1 qc, .slice none 0 0, .slice none 0 0, .slice none 0 0, .slice none 0 0, i, p] := hK0
  go_enter Tryz.func206, Tryz.ntmps206
  simp only [partC]
  go_upto_region 1 with (fail)
  refine at_code (fun W => Below w.heap.size w W ∧ Block W w.heap.size 366 (partC kc id c n cu d n r y) ∧ Block W (w.heap.size + 1) 366 [.pointer none, .int .i64 0, .int .i64 0, .int .i64 0, .int .i64 0, .int .i64 0, .int .i64 0, .int .i64 0, .int .i64 0]) ⟨by exact sBel, by unfold partC; exact sBlk, by exact sBlk⟩ ?_
  rintro w1 ⟨bel1, X1, Y1⟩
  generalize hg : w.heap.size = g at *
  have hkl := hK0.lt
  rw [hg] at hkl
  have K1 : Block w1 kc _ _ := hK0.below bel1 (by omega)
  have X2 := X1
  unfold partC at X2
  obtain ⟨xl, xf, x0, x1, x2, x3, x4, x5, x6, x7, x8⟩ := X2.c9
  obtain ⟨kl, kf, k0, k1, k2, k3, k4, k5, k6⟩ := K1.c7
  refine AnyBut.region (S := fun w' => w'.cell? ⟨g, 0, none⟩ = some (.pointer (some ⟨kc, 0, none⟩)) ∧ w'.cell? ⟨g, 1, none⟩ = some (.int .i64 id) ∧ w'.cell? ⟨g, 2, none⟩ = some (.int .i64 c) ∧ w'.cell? ⟨g, 3, none⟩ = some (.int .i64 n) ∧ w'.cell? ⟨g, 5, none⟩ = some (.int .i64 d) ∧ w'.cell? ⟨kc, 5, none⟩ = some (.slice none 0 0)) (t := 99) 20 rfl (by kernel_rfl) ?_ ?_
  · refine ⟨?_, ?_, ?_, ?_, ?_, ?_⟩ <;> go_simp
  intro hS
  refine AnyBut.tk0 0 hS rfl (h := ?_); refine AnyBut.tk0 1 hS rfl (h := ?_); refine AnyBut.tk0 2 hS rfl (h := ?_); refine AnyBut.tk0 3 hS rfl (h := ?_); refine AnyBut.tk0 4 hS rfl (h := ?_); refine AnyBut.tk0 5 hS rfl (h := ?_); refine AnyBut.tk0 6 hS rfl (h := ?_); refine AnyBut.tk0 7 hS rfl (h := ?_); refine AnyBut.tk0 8 hS rfl (h := ?_); refine AnyBut.tk0 9 hS rfl (h := ?_); refine AnyBut.tk0 10 hS rfl (h := ?_); refine AnyBut.tk0 11 hS rfl (h := ?_); refine AnyBut.tk0 12 hS rfl (h := ?_); refine AnyBut.tk0 13 hS rfl (h := ?_)
  refine AnyBut.one (i := 14) rfl (by kernel_rfl) rfl ?_; intro K hK
  go_wp2_with fail
  refine (holiday_none id c d n hn0 hn1 _).mono ?_
  rintro e w2 ⟨rfl, hb2⟩
  have B2 : Below g w w2 := bel1.trans (Below.mono (show Below w1.heap.size w1 w2 from bel_call (by exact sBel) hb2) (by have := X1.lt; omega))
  have X3 : Block w2 g 366 (partC kc id c n cu d n r y) := X1.drew.call hb2
  have Y3 : Block w2 (g + 1) _ _ := Y1.drew.call hb2
  have K2 : Block w2 kc _ _ := K1.drew.call hb2
  clear x0 x1 x2 x3 x4 x5 x6 x7 x8 xl xf X2 k0 k1 k2 k3 k4 k5 k6 kl kf hb2
  have X2 := X3
  unfold partC at X2
  obtain ⟨xl, xf, x0, x1, x2, x3, x4, x5, x6, x7, x8⟩ := X2.c9
  obtain ⟨kl, kf, k0, k1, k2, k3, k4, k5, k6⟩ := K2.c7
  obtain ⟨yl, yf, y0, y1, y2, y3, y4, y5, y6, y7, y8⟩ := Y3.c9
  refine hK _ _ ?_ ?_ <;> clear hK K; rotate_left; intro hS; rotate_left
  · refine ⟨?_, ?_, ?_, ?_, ?_, ?_⟩ <;> go_simp
  refine AnyBut.tk0 15 hS rfl (h := ?_); refine AnyBut.tk0 16 hS rfl (h := ?_); refine AnyBut.tk0 17 hS rfl (h := ?_)
  (refine AnyBut.one (i := 18) rfl (by kernel_rfl) rfl ?_; intro K hK; go_simp; refine hK _ _ hS ?_; clear hK K; intro _); (refine AnyBut.one (i := 19) rfl (by kernel_rfl) rfl ?_; intro K hK; go_simp; refine hK _ _ hS ?_; clear hK K; intro _)
  refine AnyBut.done (by kernel_rfl) ?_
  go_wp2_with fail
  refine ret_cS rfl rfl rfl (T := 366) (b := g + 1) (cs := partC kc id c n cu d n r y) (by unfold partC; exact sCls) agg_part size_part ⟨rfl, ?_⟩
  rw [hg]
  repeat' (first | (with_reducible assumption) | (with_reducible refine Below.setCell ?_ (by simp) _))
theorem by_cert (rate : Int) (E kc : Nat) (id c n cu d r y : Int) (hn0 : 0 ≤ n) (hn1 : n ≤ 1099511627775) (w : World) (h : CalcAt rate E w kc) : Calls Tryz.prog 207 #[.agg (partC kc id c n cu d n r y).toArray] w fun e w' => e = .returned (.agg (partC kc id c n cu d n r y).toArray) ∧ Below w.heap.size w w' := by
  obtain ⟨v, i, p, nb, hK0, hV, -⟩ := h
  obtain ⟨jb, jc, qb, qc, rb, rc, db, dc, bb, bc, hv, -⟩ := hV
  have hv2 : v = [.slice (some ⟨jb, 0, none⟩) 1 jc, .slice (some ⟨qb, 0, none⟩) 1 qc, .slice none 0 0, .slice none 0 0, .slice none 0 0, .slice none 0 0] := by injection hv with hv; simpa using congrArg Array.toList hv
  subst hv2
  clear hv
  replace hK0 : Block w kc 285 [.bool true, .slice (some ⟨jb, 0, none⟩) 1 jc, .slice (some ⟨qb, 0, none⟩) 1 qc, .slice none 0 0, .slice none 0 0, .slice none 0 0, .slice none 0 0, i, p] := hK0
  go_enter Tryz.func207, Tryz.ntmps207
  simp only [partC]
  go_upto_region 1 with (fail)
  refine at_code (fun W => Below w.heap.size w W ∧ Block W w.heap.size 366 (partC kc id c n cu d n r y) ∧ Block W (w.heap.size + 1) 366 [.pointer none, .int .i64 0, .int .i64 0, .int .i64 0, .int .i64 0, .int .i64 0, .int .i64 0, .int .i64 0, .int .i64 0]) ⟨by exact sBel, by unfold partC; exact sBlk, by exact sBlk⟩ ?_
  rintro w1 ⟨bel1, X1, Y1⟩
  generalize hg : w.heap.size = g at *
  have hkl := hK0.lt
  rw [hg] at hkl
  have K1 : Block w1 kc _ _ := hK0.below bel1 (by omega)
  have X2 := X1
  unfold partC at X2
  obtain ⟨xl, xf, x0, x1, x2, x3, x4, x5, x6, x7, x8⟩ := X2.c9
  obtain ⟨kl, kf, k0, k1, k2, k3, k4, k5, k6⟩ := K1.c7
  refine AnyBut.region (S := fun w' => w'.cell? ⟨g, 0, none⟩ = some (.pointer (some ⟨kc, 0, none⟩)) ∧ w'.cell? ⟨g, 4, none⟩ = some (.int .i64 cu) ∧ w'.cell? ⟨g, 1, none⟩ = some (.int .i64 id) ∧ w'.cell? ⟨g, 2, none⟩ = some (.int .i64 c) ∧ w'.cell? ⟨g, 5, none⟩ = some (.int .i64 d) ∧ w'.cell? ⟨kc, 4, none⟩ = some (.slice none 0 0)) (t := 99) 15 rfl (by kernel_rfl) ?_ ?_
  · refine ⟨?_, ?_, ?_, ?_, ?_, ?_⟩ <;> go_simp
  intro hS
  refine AnyBut.tk0 0 hS rfl (h := ?_); refine AnyBut.tk0 1 hS rfl (h := ?_); refine AnyBut.tk0 2 hS rfl (h := ?_); refine AnyBut.tk0 3 hS rfl (h := ?_); refine AnyBut.tk0 4 hS rfl (h := ?_); refine AnyBut.tk0 5 hS rfl (h := ?_); refine AnyBut.tk0 6 hS rfl (h := ?_); refine AnyBut.tk0 7 hS rfl (h := ?_); refine AnyBut.tk0 8 hS rfl (h := ?_); refine AnyBut.tk0 9 hS rfl (h := ?_); refine AnyBut.tk0 10 hS rfl (h := ?_); refine AnyBut.tk0 11 hS rfl (h := ?_); refine AnyBut.tk0 12 hS rfl (h := ?_); refine AnyBut.tk0 13 hS rfl (h := ?_)
  refine AnyBut.one (i := 14) rfl (by kernel_rfl) rfl ?_; intro K hK
  go_wp2_with fail
  refine (cert_none cu id c d _).mono ?_
  rintro e w2 ⟨rfl, hb2⟩
  have B2 : Below g w w2 := bel1.trans (Below.mono (show Below w1.heap.size w1 w2 from bel_call (by exact sBel) hb2) (by have := X1.lt; omega))
  have X3 : Block w2 g 366 (partC kc id c n cu d n r y) := X1.drew.call hb2
  have Y3 : Block w2 (g + 1) _ _ := Y1.drew.call hb2
  have K2 : Block w2 kc _ _ := K1.drew.call hb2
  clear x0 x1 x2 x3 x4 x5 x6 x7 x8 xl xf X2 k0 k1 k2 k3 k4 k5 k6 kl kf hb2
  have X2 := X3
  unfold partC at X2
  obtain ⟨xl, xf, x0, x1, x2, x3, x4, x5, x6, x7, x8⟩ := X2.c9
  obtain ⟨kl, kf, k0, k1, k2, k3, k4, k5, k6⟩ := K2.c7
  obtain ⟨yl, yf, y0, y1, y2, y3, y4, y5, y6, y7, y8⟩ := Y3.c9
  refine hK _ _ ?_ ?_ <;> clear hK K; rotate_left; intro hS; rotate_left
  · refine ⟨?_, ?_, ?_, ?_, ?_, ?_⟩ <;> go_simp
  refine AnyBut.done (by kernel_rfl) ?_
  go_wp2_with fail
  refine ret_cS rfl rfl rfl (T := 366) (b := g + 1) (cs := partC kc id c n cu d n r y) (by unfold partC; exact sCls) agg_part size_part ⟨rfl, ?_⟩
  rw [hg]
  repeat' (first | (with_reducible assumption) | (with_reducible refine Below.setCell ?_ (by simp) _))
end Go.Proofs.YthmhdaefkhcenaaGreatDoor
namespace Go.Proofs.YthmhdaefkhcenaaGreatDoor
set_option maxRecDepth 100000
set_option maxHeartbeats 8000000
open Go.RowKit Go.Lib

def taxF (n r : Nat) : Nat := evenF (n * r) 1000000
theorem agg_tl (w : World) : (isAgg 52).run Tryz.prog w = .ok true w := by kernel_rfl
theorem size_tl (w : World) : (sizeOf 52).run Tryz.prog w = .ok 6 w := by kernel_rfl
theorem info_tl : (Tryz.prog.info? 52).map (fun i => (i.zero, i.size, i.bytes)) = some (some (.agg #[.int .i64 0, .int .i64 0, .int .i64 0, .int .i64 0, .int .i64 0, .int .i64 0]), 6, 48) := by kernel_rfl
theorem mul_small {n r : Nat} (hn : n ≤ 1073741824) (hr : r ≤ 1000000) : n * r < 4611686018427387904 := Nat.lt_of_le_of_lt (Nat.mul_le_mul hn hr) (by decide)
theorem money_tax (n r : Nat) (hn : n ≤ 1073741824) (hr : r ≤ 1000000) (w : World) : Calls Tryz.prog 275 #[.int .i64 n, .int .i64 r] w fun e w' => e = .returned (.tuple #[.int .i64 (taxF n r : Nat), .int .i64 0]) ∧ Below w.heap.size w w' := by
  have q1 : ¬ (n : Int) < -1099511627775 := by omega
  have q2 : ¬ (1099511627775 : Int) < n := by omega
  have q3 : ¬ (r : Int) < 0 := by omega
  have q4 : ¬ (1000000 : Int) < r := by omega
  have he := fun w => even_any n r 1000000 (mul_small hn hr) (by omega) (by omega) (by omega) (by omega) w
  go_enter Tryz.func275, Tryz.ntmps275
  go_wp2_with (first | (refine (he _).mono ?_; rintro e w1 ⟨rfl, rfl⟩) | go_in)
  go_returns
  exact ⟨rfl, by exact sBel⟩
theorem ret_ctt {P : Program} {fn : Func} {R : Ending → World → Prop} {a : Act} {w : World} {T : TypeId} {b : Nat} {cs : List Value} {x y p : Tmp} {vx vy : Value} (hr : fn.results = #[.cell p T, .tmp x, .tmp y]) (hd : a.defers = []) (hp : a.tmps.getD p undef = .pointer (some ⟨b, 0, none⟩)) (hx : a.tmps.getD x undef = vx) (hy : a.tmps.getD y undef = vy) (hb : CellsAt w b 0 cs) (ha : ∀ w, (isAgg T).run P w = .ok true w) (hs : ∀ w, (sizeOf T).run P w = .ok cs.length w)
    (hR : R (.returned (.tuple #[.agg cs.toArray, vx, vy])) w) : bodyPost P fn R .ret a w := by
  refine bodyPost_ret (v := .tuple #[.agg cs.toArray, vx, vy]) ?_ hd hR
  simp only [results, hr]
  simp [Sem.run_bind, Result.andThen]
  rw [show a.tmps[p]?.getD undef = .pointer (some ⟨b, 0, none⟩) by rw [← hp]; simp, show a.tmps[x]?.getD undef = vx by rw [← hx]; simp, show a.tmps[y]?.getD undef = vy by rw [← hy]; simp]
  simp [asAddr, Sem.run_pure, run_loadVar_cells hb ha hs]
def tlC (n r : Nat) : List Value := [.int .i64 0, .int .i64 7, .int .i64 n, .int .i64 0, .int .i64 r, .int .i64 (taxF n r : Nat)]
theorem line_part (kc : Nat) (c cu d y : Int) (n r : Nat) (hn : n ≤ 1073741824) (hr : r ≤ 1000000) (w : World) : Calls Tryz.prog 208 #[.agg (partC kc 7 c n cu d n r y).toArray] w fun e w' => e = .returned (.agg (tlC n r).toArray) ∧ Below w.heap.size w w' := by
  go_enter Tryz.func208, Tryz.ntmps208
  simp only [partC]
  go_wp2_with fail
  refine at_world (fun W => Below w.heap.size w W ∧ Block W w.heap.size 366 (partC kc 7 c n cu d n r y) ∧ Block W (w.heap.size + 1) 52 [.int .i64 0, .int .i64 0, .int .i64 0, .int .i64 0, .int .i64 0, .int .i64 0]) ⟨by exact sBel, by unfold partC; exact sBlk, by exact sBlk⟩ ?_
  rintro w0 ⟨bel0, X0, Y0⟩
  refine (money_tax n r hn hr w0).mono ?_
  rintro e w1 ⟨rfl, hb1⟩
  have bel1 := bel_call bel0 hb1
  have X1 := X0.call hb1
  have Y1 := Y0.call hb1
  have X2 := X1
  unfold partC at X2
  obtain ⟨xl, xf, x0, x1, x2, x3, x4, x5, x6, x7, x8⟩ := X2.c9
  obtain ⟨yl, yf, y0, y1, y2, y3, y4, y5⟩ := Y1.c6
  go_wp2_with fail
  refine ret_cS rfl rfl rfl (T := 52) (b := w.heap.size + 1) (cs := tlC n r) (by unfold tlC; exact sCls) agg_tl size_tl ⟨rfl, ?_⟩
  repeat' (first | (with_reducible assumption) | (with_reducible refine Below.setCell ?_ (by simp) _))
theorem one_calc (E kc : Nat) (n r : Nat) (day : Int) (hn : n ≤ 1073741824) (hr : r ≤ 1000000) (hd0 : 0 ≤ day) (hd1 : day ≤ 3652058) (w : World) (h : CalcAt r E w kc) : Calls Tryz.prog 149 #[.pointer (some ⟨kc, 0, none⟩), .int .i64 7, .int .i64 2, .int .i64 n, .int .i64 0, .int .i64 day] w fun e w' => e = .returned (.tuple #[.agg (tlC n r).toArray, .int .i64 1, .int .i64 0]) ∧ Below w.heap.size w w' := by
  have h0 := h
  obtain ⟨v, i, p, nb, hK0, hV, -⟩ := h
  have hVV := hV.cfg
  obtain ⟨jb, jc, qb, qc, rb, rc, db, dc, bb, bc, hv, hJ, -⟩ := hV
  have hv2 : v = [.slice (some ⟨jb, 0, none⟩) 1 jc, .slice (some ⟨qb, 0, none⟩) 1 qc, .slice none 0 0, .slice none 0 0, .slice none 0 0, .slice none 0 0] := by injection hv with hv; simpa using congrArg Array.toList hv
  subst hv2
  clear hv
  replace hK0 : Block w kc 285 [.bool true, .slice (some ⟨jb, 0, none⟩) 1 jc, .slice (some ⟨qb, 0, none⟩) 1 qc, .slice none 0 0, .slice none 0 0, .slice none 0 0, .slice none 0 0, i, p] := hK0
  have K0 := hK0
  obtain ⟨kl, kf, k0, k1, k2, k3, k4, k5, k6⟩ := K0.c7
  have q1 : ¬ (n : Int) < 0 := by omega
  have q2 : (n : Int) ≤ 1099511627775 := by omega
  have q3 : ¬ day < 0 := by omega
  go_enter Tryz.func149, Tryz.ntmps149
  go_wp2_with (go_at_call 146; go_in)
  refine (jfind jb jc rb rc _ (by exact sHas)).mono ?_
  rintro e w1 ⟨rfl, hb1⟩
  have bel1 : Below w.heap.size w w1 := bel_call (by exact sBel) hb1
  have T1 : Block w1 w.heap.size 52 [.int .i64 0, .int .i64 0, .int .i64 0, .int .i64 0, .int .i64 0, .int .i64 0] := by exact sBlk
  have K1 := hK0.call bel1
  clear k0 k1 k2 k3 k4 k5 k6 kl kf K0 hb1
  obtain ⟨kl, kf, k0, k1, k2, k3, k4, k5, k6⟩ := K1.c7
  simp only [juC]
  go_wp2_with (go_at_call 203; go_in)
  refine (rate_of r _ _ day hd0 hd1 _ (hVV.call (by exact sBel))).mono ?_
  rintro e w2 ⟨rfl, hb2⟩
  have bel2 : Below w.heap.size w w2 := bel_call (by exact sBel) hb2
  have T2 : Block w2 w.heap.size 52 [.int .i64 0, .int .i64 0, .int .i64 0, .int .i64 0, .int .i64 0, .int .i64 0] := by exact sBlk
  clear hb2
  go_wp2_with fail
  refine (by_rule r E kc 7 2 n 0 day 0 r 0 _ (h0.call bel2)).mono ?_
  rintro e w3 ⟨rfl, hb3⟩
  have bel3 := bel_call bel2 hb3
  have T3 := T2.call hb3
  clear hb3
  go_wp2_with fail
  refine (by_holiday r E kc 7 2 n 0 day r 1 (by omega) (by omega) _ (h0.call bel3)).mono ?_
  rintro e w4 ⟨rfl, hb4⟩
  have bel4 := bel_call bel3 hb4
  have T4 := T3.call hb4
  clear hb4
  go_wp2_with fail
  refine (by_cert r E kc 7 2 n 0 day r 1 (by omega) (by omega) _ (h0.call bel4)).mono ?_
  rintro e w5 ⟨rfl, hb5⟩
  have bel5 := bel_call bel4 hb5
  have T5 := T4.call hb5
  clear hb5
  simp only [partC]
  go_wp2_with fail
  refine at_code (fun W => Below w.heap.size w W ∧ Block W w.heap.size 52 [.int .i64 0, .int .i64 0, .int .i64 0, .int .i64 0, .int .i64 0, .int .i64 0] ∧ Block W w5.heap.size 366 (partC kc 7 2 n 0 day n r 1)) ⟨by exact sBel, by exact sBlk, by unfold partC; exact sBlk⟩ ?_
  rintro w6 ⟨bel6, T6, X6⟩
  have X7 := X6
  unfold partC at X7
  obtain ⟨xl, xf, x0, x1, x2, x3, x4, x5, x6, x7, x8⟩ := X7.c9
  have hne1 : w5.heap.size ≠ w.heap.size := by have := T5.lt; omega
  have hne2 : w.heap.size ≠ w5.heap.size := fun e => hne1 e.symm
  refine AnyBut.region (S := fun w' => w'.cell? ⟨w5.heap.size, 0, none⟩ = some (.pointer (some ⟨kc, 0, none⟩)) ∧ w'.cell? ⟨w5.heap.size, 1, none⟩ = some (.int .i64 7) ∧ w'.cell? ⟨w5.heap.size, 2, none⟩ = some (.int .i64 2) ∧ w'.cell? ⟨w5.heap.size, 3, none⟩ = some (.int .i64 n) ∧ w'.cell? ⟨w5.heap.size, 4, none⟩ = some (.int .i64 0) ∧ w'.cell? ⟨w5.heap.size, 5, none⟩ = some (.int .i64 day) ∧ w'.cell? ⟨w5.heap.size, 6, none⟩ = some (.int .i64 n) ∧ w'.cell? ⟨w5.heap.size, 7, none⟩ = some (.int .i64 r) ∧ w'.cell? ⟨w5.heap.size, 8, none⟩ = some (.int .i64 1)) (t := 99) 7 rfl (by kernel_rfl) ?_ ?_
  · refine ⟨?_, ?_, ?_, ?_, ?_, ?_, ?_, ?_, ?_⟩ <;> go_simp
  intro hS
  refine AnyBut.tk0 0 hS rfl (h := ?_); refine AnyBut.tk0 2 hS rfl (h := ?_); refine AnyBut.tk0 3 hS rfl (h := ?_)
  refine AnyBut.one (i := 1) rfl (by kernel_rfl) rfl ?_; intro K hK
  go_wp2_with fail
  refine (line_part kc 2 0 day 1 n r hn hr _).mono ?_
  rintro e w7 ⟨rfl, hb7⟩
  have bel7 : Below w.heap.size w w7 := bel_call bel6 (bel_call (by exact sBel) hb7)
  have T7 : Block w7 w.heap.size 52 [.int .i64 0, .int .i64 0, .int .i64 0, .int .i64 0, .int .i64 0, .int .i64 0] := T6.drew.call hb7
  have X8 : Block w7 w5.heap.size 366 (partC kc 7 2 n 0 day n r 1) := X6.drew.call hb7
  clear x0 x1 x2 x3 x4 x5 x6 x7 x8 xl xf X7 hb7
  have X7 := X8
  unfold partC at X7
  obtain ⟨xl, xf, x0, x1, x2, x3, x4, x5, x6, x7, x8⟩ := X7.c9
  obtain ⟨tl, tf, t0, t1, t2, t3, t4, t5⟩ := T7.c6
  refine hK _ _ ?_ ?_ <;> clear hK K; rotate_left; intro hS; rotate_left
  · refine ⟨?_, ?_, ?_, ?_, ?_, ?_, ?_, ?_, ?_⟩ <;> go_simp
  simp only [tlC]
  refine AnyBut.one (i := 4) rfl (by kernel_rfl) rfl ?_; intro K hK; go_simp; refine hK _ _ ?_ ?_ <;> clear hK K; rotate_left; intro hS; rotate_left
  · refine ⟨?_, ?_, ?_, ?_, ?_, ?_, ?_, ?_, ?_⟩ <;> go_simp
  (refine AnyBut.one (i := 5) rfl (by kernel_rfl) rfl ?_; intro K hK; go_simp; refine hK _ _ hS ?_; clear hK K; intro _); (refine AnyBut.one (i := 6) rfl (by kernel_rfl) rfl ?_; intro K hK; go_simp; refine hK _ _ hS ?_; clear hK K; intro _)
  refine AnyBut.done (by kernel_rfl) ?_
  go_wp2_with fail
  refine ret_ctt rfl rfl rfl rfl rfl (T := 52) (b := w.heap.size) (cs := tlC n r) (by unfold tlC; exact sCls) agg_tl size_tl ⟨rfl, ?_⟩
  repeat' (first | (with_reducible assumption) | (with_reducible refine Below.drew ?_) | (with_reducible refine Below.setCell ?_ (by simp) _))
end Go.Proofs.YthmhdaefkhcenaaGreatDoor
namespace Go.Proofs.YthmhdaefkhcenaaGreatDoor
set_option maxRecDepth 100000
set_option maxHeartbeats 8000000
open Go.RowKit Go.Lib

def ordV (day : Int) (lb lc : Nat) : Value := .agg #[.int .i64 0, .int .i64 day, .int .i64 1, .int .i64 1, .slice (some ⟨lb, 0, none⟩) 1 lc]
theorem ord_check (day : Int) (lb lc n : Nat) (hd0 : 0 ≤ day) (hd1 : day ≤ 3652058) (hn : n ≤ 1073741824) (w : World) (hL : Has w lb [.int .i64 2, .int .i64 n]) : Calls Tryz.prog 147 #[ordV day lb lc] w fun e w' => e = .returned (.tuple #[.int .i64 0, .int .i64 0]) ∧ Below w.heap.size w w' := by
  have ll := hL.lt; have l0 := hL.cell (j := 0) rfl; have l1 := hL.cell (j := 1) rfl
  have q1 : ¬ (n : Int) < 0 := by omega
  have q2 : (n : Int) ≤ 1099511627775 := by omega
  have q3 : ¬ day < 0 := by omega
  go_enter Tryz.func147, Tryz.ntmps147
  simp only [ordV]
  go_wp2
  (repeat (first | (rw [rounds_succ]; go_wp2) | (refine wp_loop_rounds 2 ?_; rw [rounds_succ]; go_wp2) | (go_quiet (fail); go_wp2)))
  go_returns
  exact ⟨rfl, by exact sBel⟩
theorem lt_only {B E : Nat} {w a : World} (h : Only B E w a) : w.heap.size ≤ a.heap.size := h.size
theorem tax_calc (B E kc : Nat) (n r : Nat) (day : Int) (lb lc : Nat) (hn : n ≤ 1073741824) (hr : r ≤ 1000000) (hd0 : 0 ≤ day) (hd1 : day ≤ 3652058) (w : World) (h : CalcOk r B E w kc) (hL : Has w lb [.int .i64 2, .int .i64 n]) (hlb : lb < kc ∨ E ≤ lb) :
    Calls Tryz.prog 99 #[.pointer (some ⟨kc, 0, none⟩), ordV day lb lc] w fun e w' => ∃ g c, e = .returned (.tuple #[.slice (some ⟨g, 0, none⟩) 1 c, .int .i64 0]) ∧ 1 ≤ c ∧ w.heap.size ≤ g ∧ Has w' g (tlC n r) ∧ Only kc E w w' := by
  have h0 := h
  obtain ⟨v, I, nb, hK0, hV, hX, hBK, hKn, hnE, hEw⟩ := h
  have K0 : Block w kc 285 ([.bool true] ++ v ++ [.pointer (some ⟨I, 0, none⟩), .pointer none]) := hK0
  have k0 : w.cell? ⟨kc, 0, none⟩ = some (.bool true) := by rw [K0.cell]; rfl
  have kl := K0.lt
  have ll := hL.lt
  go_enter Tryz.func99, Tryz.ntmps99
  simp only [ordV]
  go_wp2_with (go_at_call 146; go_in)
  refine (ord_check day lb lc n hd0 hd1 hn _ (hL.call (by exact sBel))).mono ?_
  rintro e w1 ⟨rfl, hb1⟩
  have bel1 : Below w.heap.size w w1 := bel_call (by exact sBel) hb1
  have O1 : Block w1 w.heap.size 49 [.int .i64 0, .int .i64 day, .int .i64 1, .int .i64 1, .slice (some ⟨lb, 0, none⟩) 1 lc] := by exact sBlk
  have L1 := hL.call bel1
  clear k0 hb1
  have O2 := O1
  obtain ⟨ol, of, o0, o1, o2, o3, o4⟩ := O2.c5
  have ll := L1.lt; have l0 := L1.cell (j := 0) rfl; have l1 := L1.cell (j := 1) rfl
  go_wp2_with fail
  refine wp_loop_rounds 2 ?_
  rw [rounds_succ]
  go_wp2_with fail
  refine at_world (fun W => Below w.heap.size w W ∧ Block W w.heap.size 49 [.int .i64 0, .int .i64 day, .int .i64 1, .int .i64 1, .slice (some ⟨lb, 0, none⟩) 1 lc] ∧ Block W w1.heap.size 86 [.int .i64 2, .int .i64 n]) ⟨by exact sBel, by exact sBlk, by exact sBlk⟩ ?_
  rintro w2 ⟨bel2, O3, A3⟩
  have z1 := bel1.size
  have z2 := bel2.size
  refine (who_calc r B E kc w2 (h0.keptX (Kept.of_below (X := []) bel2) (by simp))).mono ?_
  rintro e w3 ⟨g, c', rfl, hg, hG, hC, on3⟩
  have O4 : Block w3 w.heap.size _ _ := O3.only on3 (by omega)
  have A4 : Block w3 w1.heap.size _ _ := A3.only on3 (by omega)
  have ow3 : Only kc E w w3 := (Only.of_below bel2).trans on3
  have z3 := on3.size
  clear o0 o1 o2 o3 o4 ol of O2 l0 l1 ll L1
  obtain ⟨ol, of, o0, o1, o2, o3, o4⟩ := O4.c5
  obtain ⟨al, af, a0, a1⟩ := A4.c2
  have gl := hG.lt; have g0 := hG.cell (j := 0) rfl
  go_wp2_with fail
  refine wp_loop_rounds 2 ?_
  rw [rounds_succ]
  go_wp2_with fail
  refine (one_calc E kc n r day hn hr hd0 hd1 w3 hC).mono ?_
  rintro e w4 ⟨rfl, hb4⟩
  have ow4 : Only kc E w w4 := ow3.behind hb4
  clear o0 o1 o2 o3 o4 ol of a0 a1 al af
  simp only [tlC]
  go_wp2_with (at_builtin; refine wpList_append_nil rfl _ _ 41 rfl 52 _ 6 48 Tryz.underlying41 info_tl rfl (w4.heap.size + 1) 0 1 1 (tlC n r) rfl rfl rfl (by intro j v hj; rw [Nat.zero_add]; exact (Block.cell (btop (cs := tlC n r) (by simp)) j).trans hj) (by omega) (by unfold maxLen; omega) (by omega) ?_; intro J k hJ hk)
  rw [rounds_succ]
  go_wp2_with fail
  rw [rounds_succ]
  go_wp2_with fail
  go_returns
  have z4 := ow4.size
  exact ⟨w4.heap.size + 1 + 1, 1 + k, rfl, by omega, by omega, (has_top (news := tlC n r) (by simp)).drew, (((ow4.alloc _).alloc _).alloc _).drew⟩
end Go.Proofs.YthmhdaefkhcenaaGreatDoor
namespace Go.Proofs.YthmhdaefkhcenaaGreatDoor
set_option maxRecDepth 100000
set_option maxHeartbeats 8000000
open Go.RowKit Go.Lib

def tlV (n r t : Nat) : List Value := [.int .i64 0, .int .i64 7, .int .i64 n, .int .i64 0, .int .i64 r, .int .i64 t]
theorem tlC_V (n r : Nat) : tlC n r = tlV n r (taxF n r) := rfl
theorem met_ckl (w : World) : (Instr.checkKey true 10000 446 (.agg #[.int .i64 0, .int .i64 7])).run Tryz.prog w = .ok () w := by kernel_rfl
theorem met_cku (w : World) : (Instr.checkKey false 10000 446 (.agg #[.int .i64 0, .int .i64 7])).run Tryz.prog w = .ok () w := by kernel_rfl
theorem met_fnd (w : World) : (Instr.findKey 446 (.agg #[.int .i64 0, .int .i64 7]) []).run Tryz.prog w = .ok none w := by kernel_rfl
theorem met_look {w : World} {r : Nat} (h : MapAt w r [] 0) : (Instr.lookup 314 (.map (some r)) (.agg #[.int .i64 0, .int .i64 7]) true).run Tryz.prog w = .ok (.tuple #[.agg #[], .bool false]) w := look_miss h Tryz.underlying314 met_ckl met_fnd zero_unit
theorem met_upd {w : World} {r : Nat} (h : MapAt w r [] 0) : ∃ w', (Instr.mapUpdate 314 (.map (some r)) (.agg #[.int .i64 0, .int .i64 7]) (.agg #[])).run Tryz.prog w = .ok () w' ∧ MapAt w' r [mEnt (.agg #[.int .i64 0, .int .i64 7]) (.agg #[]) 0] 1 ∧ w.grownBy w' (some r) := upd_new h Tryz.underlying314 met_cku met_fnd
theorem twice_first (m : Nat) (w : World) (h : MapAt w m [] 0) : Calls Tryz.prog 211 #[.map (some m), .int .i64 0, .int .i64 7] w fun e w' => e = .returned (.bool false) ∧ Kept [m] w w' := by
  have ml := h.lt
  go_enter Tryz.func211, Tryz.ntmps211
  go_wp2_with (first
    | (at_lookup; refine wpList_lookup_eq rfl rfl rfl rfl (met_look (by exact sMapf)) ?_)
    | (at_mapUpdate; refine wpList_update_ex _ rfl rfl rfl rfl rfl (met_upd (by exact sMapf)) ?_; rintro w' ⟨hM', hG'⟩))
  go_returns
  exact ⟨rfl, Kept.grown (Kept.of_below (by exact sBel)) hG' (by simp)⟩
theorem one_tl (n r t : Nat) (hn : n ≤ 4611686018427387904) (hr : r ≤ 1000000) (ht : t ≤ 4611686018427387904) (w : World) : Calls Tryz.prog 210 #[.agg (tlV n r t).toArray] w fun e w' => e = .returned (.bool true) ∧ Below w.heap.size w w' := by
  go_enter Tryz.func210, Tryz.ntmps210
  simp only [tlV]
  have q1 : ¬ (n : Int) < 0 := by omega
  have q2 : (n : Int) ≤ 4611686018427387904 := by omega
  have q3 : (0 : Int) ≤ 4611686018427387904 - n := by omega
  have q4 : (r : Int) ≤ 1000000 := by omega
  have q5 : (t : Int) ≤ 4611686018427387904 := by omega
  go_wp2
  go_returns
  exact ⟨rfl, by exact sBel⟩
theorem check_tl (g c n r t : Nat) (hn : n ≤ 4611686018427387904) (hr : r ≤ 1000000) (ht : t ≤ 4611686018427387904) (w : World) (h : Has w g (tlV n r t)) : Calls Tryz.prog 153 #[.slice (some ⟨g, 0, none⟩) 1 c] w fun e w' => e = .returned (.tuple #[.int .i64 0, .int .i64 0]) ∧ Below w.heap.size w w' := by
  have hmm := @run_makeMap Tryz.prog
  have hh := h
  unfold tlV at hh
  have kl := hh.lt; have k0 := hh.cell (j := 0) rfl; have k1 := hh.cell (j := 1) rfl; have k2 := hh.cell (j := 2) rfl; have k3 := hh.cell (j := 3) rfl; have k4 := hh.cell (j := 4) rfl; have k5 := hh.cell (j := 5) rfl
  go_enter Tryz.func153, Tryz.ntmps153
  go_wp2_with fail
  refine wp_loop_rounds 2 ?_
  rw [rounds_succ]
  go_wp2_with fail
  refine (one_tl n r t hn hr ht _).mono ?_
  rintro e w1 ⟨rfl, hb1⟩
  have bel1 : Below w.heap.size w w1 := bel_call (by exact sBel) hb1
  have X1 : Block w1 (w.heap.size + 1) 52 [.int .i64 0, .int .i64 7, .int .i64 n, .int .i64 0, .int .i64 r, .int .i64 t] := Block.call (by exact sBlk) hb1
  have M1 : MapAt w1 w.heap.size [] 0 := MapAt.call (by exact sMapf) hb1
  clear hb1
  obtain ⟨xl, xf, x0, x1, x2, x3, x4, x5⟩ := X1.c6
  go_wp2_with fail
  go_quiet (fail)
  go_wp2_with fail
  refine (twice_first w.heap.size _ (by exact sMapf)).mono ?_
  rintro e w2 ⟨rfl, K2⟩
  go_wp2_with fail
  rw [rounds_succ]
  go_wp2_with fail
  go_returns
  exact ⟨rfl, (show Below w.heap.size w _ from by exact sBel).trans (K2.below (by simp) (by have := bel1.size; simpa using this))⟩
theorem bytesOf_le (l : List Int) (h : ∀ x ∈ l, I64r x) : (bytesOf l).length ≤ 10 * l.length := bytesOf_short l h
theorem put_list (lb n c : Nat) (l : List Int) (w : World) (hL : Block w lb 3 (I64 l)) (hn : n = l.length) (hl : l.length ≤ 1000) (hr : ∀ x ∈ l, I64r x) :
    Calls Tryz.prog 154 #[.slice (some ⟨lb, 0, none⟩) n c] w fun e w' => ∃ A c', e = .returned (.slice A (bytesOf l).length c') ∧ w'.ownsRow w.heap.size 5 1 (.slice A (bytesOf l).length c') (bytesOf l).length (U8 (bytesOf l)) ∧ Below w.heap.size w w' := by
  subst hn
  obtain ⟨i0, hi, hz0, hz1, hz2⟩ := info_parts infoU8
  go_enter Tryz.func154, Tryz.ntmps154
  go_wp2_with fail
  go_loopw [8, 3] (fun i v wr => ∃ (j m c' : Nat) (A : Option Addr), j ≤ l.length ∧ i = .int .i64 j ∧ v = .slice A m c' ∧ m = (bytesOf (l.take j)).length ∧ wr.ownsRow w.heap.size 5 1 v m (U8 (bytesOf (l.take j))) ∧ Below w.heap.size w wr) (fun i _ _ => l.length - (intOf i).toNat)
  case atStart => exact ⟨0, 0, 0, none, by omega, rfl, rfl, rfl, own_nil, Below.refl _ _⟩
  case round =>
    obtain ⟨j, m, c', A, hj, rfl, rfl, hm, hO, hb⟩ := hrel
    have hLr := hL.call hb
    by_cases hjn : j < l.length
    · have q0 : (0 : Int) ≤ j := by omega
      have q1 : (j : Int) < l.length := by omega
      have k0 : wr.cell? ⟨lb, j, none⟩ = some (.int .i64 l[j]) := by rw [hLr.cell]; simp [I64, hjn]
      have hx := hr _ (List.getElem_mem hjn)
      have hlen := bytesOf_len hr j (by rw [List.length_take]; omega)
      rw [← hm] at hlen
      have hp := Oct.putN_len10 (Oct.zig_lt l[j] hx.1 hx.2)
      have ht := Lib.hid (bytesOf_take hjn)
      have hm2 := Lib.hid hm
      clear hm
      generalize l[j] = x at *
      go_wp2_with fail
      refine (putF_any x wr hx.1 hx.2).mono ?_
      rintro e w1 ⟨A2, c2, rfl, hF, hb1⟩
      have S1 := Shows.of_own hF.owns
      have O1 := own_below hO hb1
      have bel1 : Below w.heap.size w w1 := bel_call hb hb1
      go_wp2_with (at_builtin; refine wpList_append_shows _ rfl _ _ 71 rfl w.heap.size 5 i0 (.int .u8 0) 1 1 Tryz.underlying71 hi hz0 hz1 hz2 rfl (by decide) (.slice A m c') m (U8 (bytesOf (l.take j))) rfl O1 _ A2 _ c2 (U8 (Oct.putN (Oct.zig x))) rfl S1 (nums_one .u8 _) (by unfold maxLen; omega) (by omega) bel1.size ?_; intro A3 c3 w3 O3 G3)
      go_roundw
      case rel =>
        refine ⟨j + 1, _, c3, A3, by omega, by simp, rfl, ?_, ?_, bel1.grown G3 bel1.size (fun k hk => (O1.lt k hk).1)⟩
        · rw [ht.out, List.length_append, hm2.out]
        · rw [ht.out]; simpa [U8] using O3
      case measure => simp [intOf]; omega
    · obtain rfl : j = l.length := by omega
      rw [List.take_length] at hm hO
      subst hm
      go_wp2_with fail
      go_returns
      exact ⟨A, c', rfl, hO, hb⟩
def tlL (n r t : Nat) : List Int := [1, 0, 7, n, 0, r, t]
theorem bytes_tl (g c n r t : Nat) (hn : n ≤ 4611686018427387904) (hr : r ≤ 1000000) (ht : t ≤ 4611686018427387904) (w : World) (h : Has w g (tlV n r t)) : Calls Tryz.prog 105 #[.slice (some ⟨g, 0, none⟩) 1 c] w fun e w' =>
    ∃ A c', e = .returned (.tuple #[.slice A (bytesOf (tlL n r t)).length c', .int .i64 0]) ∧ w'.ownsRow w.heap.size 5 1 (.slice A (bytesOf (tlL n r t)).length c') (bytesOf (tlL n r t)).length (U8 (bytesOf (tlL n r t))) ∧ Below w.heap.size w w' := by
  obtain ⟨i0, hi, hz0, hz1, hz2⟩ := info_parts infoU8
  have hr2 : ∀ x ∈ [0, 7, (n : Int), 0, (r : Int), (t : Int)], I64r x := by intro x hx; simp at hx; unfold I64r; omega
  have hs1 := bytesOf_short [1] (by intro x hx; simp at hx; unfold I64r; omega)
  have hs2 := bytesOf_short _ hr2
  have e0' : bytesOf (tlL n r t) = bytesOf [1] ++ bytesOf [0, 7, (n : Int), 0, (r : Int), (t : Int)] := by rw [← bytesOf_append]; rfl
  have e0 := Lib.hid e0'
  clear e0'
  simp only [List.length_cons, List.length_nil] at hs1 hs2
  go_enter Tryz.func105, Tryz.ntmps105
  go_wp2_with fail
  refine (check_tl g c n r t hn hr ht w h).mono ?_
  rintro e w1 ⟨rfl, hb1⟩
  have h1 := h.call hb1
  go_wp2_with fail
  refine (put_list w1.heap.size 1 1 [1] _ (btop rfl) rfl (by simp) (by intro x hx; simp at hx; unfold I64r; omega)).mono ?_
  rintro e w2 ⟨A2, c2, rfl, O2, hb2⟩
  have bel2 : Below w.heap.size w w2 := bel_call hb1 (bel_call (by exact sBel) hb2)
  have O2' := own_base O2 (base' := w.heap.size) (by have := hb1.size; simp; omega)
  have H2 := h.call bel2
  unfold tlV at H2
  have kl := H2.lt; have k0 := H2.cell (j := 0) rfl; have k1 := H2.cell (j := 1) rfl; have k2 := H2.cell (j := 2) rfl; have k3 := H2.cell (j := 3) rfl; have k4 := H2.cell (j := 4) rfl; have k5 := H2.cell (j := 5) rfl
  go_wp2_with fail
  refine wp_loop_rounds 2 ?_
  rw [rounds_succ]
  go_wp2_with fail
  refine (put_list (w2.heap.size + 1) 6 6 [0, 7, n, 0, r, t] _ (btop (by simp)) rfl (by simp) hr2).mono ?_
  rintro e w3 ⟨A3, c3, rfl, O3, hb3⟩
  have bel3 : Below w.heap.size w w3 := bel_call bel2 (bel_call (by exact sBel) hb3)
  have O2' := own_below O2' (bel_call (show Below w2.heap.size w2 _ from by exact sBel) hb3)
  have S3 := Shows.of_own O3
  go_wp2_with (at_builtin; refine wpList_append_shows _ rfl _ _ 71 rfl w.heap.size 5 i0 (.int .u8 0) 1 1 Tryz.underlying71 hi hz0 hz1 hz2 rfl (by decide) (.slice A2 (bytesOf [1]).length c2) (bytesOf [1]).length (U8 (bytesOf [1])) rfl O2' _ A3 _ c3 (U8 (bytesOf [0, 7, n, 0, r, t])) rfl S3 (nums_one .u8 _) (by unfold maxLen; omega) (by omega) bel3.size ?_; intro A4 c4 w4 O4 G4)
  rw [rounds_succ]
  go_wp2_with fail
  go_returns
  have hlE : (bytesOf (tlL n r t)).length = (bytesOf [1]).length + (bytesOf [0, 7, (n : Int), 0, (r : Int), (t : Int)]).length := by rw [e0.out, List.length_append]
  rw [hlE, e0.out]
  exact ⟨A4, c4, rfl, by simpa [U8] using O4, bel3.grown G4 bel3.size (fun k hk => (O2'.lt k hk).1)⟩
end Go.Proofs.YthmhdaefkhcenaaGreatDoor
