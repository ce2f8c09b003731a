/- Lemmas for it; no condition: TDk8 TDk9 TTop TTop2 TQt TKp TKp2. -/
import Derived.Test.YthmhdaefkhcenaaGreatDoorZ08
import Derived.Test.YthmhdaefkhcenaaGreatDoorZ49
set_option linter.unusedVariables false
set_option linter.unusedSimpArgs false
namespace Go.Proofs.YthmhdaefkhcenaaGreatDoor
open Go.RowKit Go.Lib Go.MapKept

theorem agg_unit (w : World) : (isAgg 64).run Tryz.prog w = .ok true w := by kernel_rfl
theorem size_unit (w : World) : (sizeOf 64).run Tryz.prog w = .ok 0 w := by kernel_rfl
theorem cfg_bytes (rate : Int) : ∀ x ∈ bytesOf (cfgL rate), 0 ≤ x ∧ x ≤ 255 := bytesOf_byte _
def LoadR (k d md f : Nat) (rate : Int) (us : List Value) (w w' : World) : Prop := ∃ g jb jc qb qc K E F lo, Block w' k 100 ([.pointer (some ⟨d, 0, none⟩), .slice (some ⟨jb, 0, none⟩) 1 jc, .slice (some ⟨qb, 0, none⟩) 1 qc, .slice none 0 0, .slice none 0 0, .slice none 0 0, .slice none 0 0, .pointer (some ⟨K, 0, none⟩)] ++ us) ∧
  DiskAt w' d md (fs3 f g) 3 ∧ FileL w' lo g (bytesOf (cfgL rate)) ∧ CfgIn rate w.heap.size F w' (cfgA jb jc qb qc) ∧ CalcOk rate w.heap.size E w' K ∧ F ≤ K ∧ (E ≤ g ∧ E ≤ lo) ∧ Kept [d, md, k] w w'
set_option maxRecDepth 100000 in
set_option maxHeartbeats 8000000 in
theorem load_in (x0 x1 k d md f : Nat) (rate : Int) (h0 : 0 ≤ rate) (h1 : rate ≤ 1000000) (A : Option Addr) (c : Nat) (v1 v2 v3 v4 v5 v6 v7 v8 v9 v10 v11 : Value) (w : World) (hX0 : Block w x0 71 [.slice A (bytesOf (cfgL rate)).length c]) (hX1 : Block w x1 26 [.pointer (some ⟨k, 0, none⟩)])
    (hK : Block w k 100 [.pointer (some ⟨d, 0, none⟩), v1, v2, v3, v4, v5, v6, v7, v8, v9, v10, v11]) (hu : NoU8 w k) (hD : DiskAt w d md (fs1 f) 1) (hY : Shows w w.heap.size 1 A (bytesOf (cfgL rate)).length (U8 (bytesOf (cfgL rate)))) :
    Calls Tryz.prog 37 #[.pointer (some ⟨x0, 0, none⟩), .pointer (some ⟨x1, 0, none⟩)] w fun e w' => e = .returned (.tuple #[.agg #[], .int .i64 0]) ∧ LoadR k d md f rate [v8, v9, v10, v11] w w' := by
  have hmf : ∀ (fn : Fn) (first cap : Array Value) (w : World), (Instr.makeFunc fn first cap).run Tryz.prog w = .ok (.func fn first cap) w := fun _ _ _ _ => rfl
  have hcl := cfg_len rate ⟨by omega, by omega⟩
  have hcp := cfg_pos rate
  have hX0p := hX0
  have hX1p := hX1
  obtain ⟨al, af, a0⟩ := hX0p.c1
  obtain ⟨bl, bf, b0⟩ := hX1p.c1
  go_enter Tryz.func37, Tryz.ntmps37
  go_wp2_with fail
  refine (read_desk rate h0 h1 A c w.heap.size _ (hY.alloc (Nat.le_refl _) _) (by simp)).mono ?_
  rintro e w1 ⟨jb, jc, qb, qc, K, E, F, rfl, hc, hk, hFK, hb1⟩
  have bel1 : Below w.heap.size w w1 := bel_call (by exact sBel) hb1
  have Y0 := hX0.call bel1
  have Y1 := hX1.call bel1
  have hin : CfgIn rate w.heap.size F w1 (cfgA jb jc qb qc) := hc.low (by simp)
  have hcal : CalcOk rate w.heap.size E w1 K := hk.low (by simp)
  have z1 := bel1.size
  have zd := hD.lt
  have zk := hK.lt
  have zx0 := hX0.lt
  have zx1 := hX1.lt
  have hkd : k ≠ d := by
    obtain ⟨⟨st, h⟩, _⟩ := hD
    exact hK.ne_type h (by decide)
  have hkm : k ≠ md := hK.ne_map hD.2
  have h0d : x0 ≠ d := by
    obtain ⟨⟨st, h⟩, _⟩ := hD
    exact hX0.ne_type h (by decide)
  have h0m : x0 ≠ md := hX0.ne_map hD.2
  have h1d : x1 ≠ d := by
    obtain ⟨⟨st, h⟩, _⟩ := hD
    exact hX1.ne_type h (by decide)
  have h1m : x1 ≠ md := hX1.ne_map hD.2
  have h1k : x1 ≠ k := hX1.ne_type hK (by decide)
  clear hb1 a0 al af b0 bl bf hX0p hX1p hc hk
  go_wp2_with fail
  refine wp_loop_rounds 4 ?_
  refine at_code (fun W => Below w1.heap.size w1 W ∧ Block W w1.heap.size 35 [.slice (some ⟨jb, 0, none⟩) 1 jc, .slice (some ⟨qb, 0, none⟩) 1 qc, .slice none 0 0, .slice none 0 0, .slice none 0 0, .slice none 0 0] ∧ Has W (w1.heap.size + 1) [.func (.func 39) #[] #[.pointer (some ⟨x1, 0, none⟩), .pointer (some ⟨x0, 0, none⟩)], .func (.func 41) #[] #[.pointer (some ⟨x1, 0, none⟩)], .func (.func 43) #[] #[.pointer (some ⟨x1, 0, none⟩)]]) ⟨by exact sBel, by exact sBlk, Has.of_block (btop (by simp))⟩ ?_
  rintro w2 ⟨hb2, C2, Q2⟩
  have bel2 := bel_call bel1 hb2
  have Q2p := Q2
  have ql := Q2p.lt; have q0 := Q2p.cell (j := 0) rfl; have q1 := Q2p.cell (j := 1) rfl; have q2 := Q2p.cell (j := 2) rfl
  have zq := Q2.lt
  have z2 := hb2.size
  go_wp2_with fail
  refine (load1 x1 x0 k d md f A _ c _ _ _ _ _ _ _ _ _ _ _ _ w2 (hX1.call bel2) (hX0.call bel2) (hK.call bel2) (hD.call bel2) ((hY.call bel2 (Nat.le_refl _)).up bel2.size) hcp (by omega)).mono ?_
  rintro e w3 ⟨rfl, g, hg, D3, M3, kp3⟩
  have Q3 := Q2.keptX kp3 (by simp; omega)
  have C3 := C2.keptX kp3 (by simp; omega)
  have kw3 : Kept [d, md] w w3 := (Kept.of_below bel2).trans kp3 (by simp)
  clear q0 q1 q2 ql Q2p
  have Q3p := Q3
  have ql := Q3p.lt; have q0 := Q3p.cell (j := 0) rfl; have q1 := Q3p.cell (j := 1) rfl; have q2 := Q3p.cell (j := 2) rfl
  go_wp2_with fail
  rw [rounds_succ]
  go_wp2_with fail
  refine (load2 x1 k d md f g _ _ _ _ _ _ _ _ _ _ _ _ w3 (hX1.keptX kw3 (by simp; exact ⟨h1d, h1m⟩)) (hK.keptX kw3 (by simp; exact ⟨hkd, hkm⟩)) D3 M3 (by omega)).mono ?_
  rintro e w4 ⟨rfl, D4, G4, kp4⟩
  have z3 := kp3.size
  have Q4 := Q3.keptX kp4 (by simp; omega)
  have C4 := C3.keptX kp4 (by simp; omega)
  have kw4 : Kept [d, md] w w4 := kw3.trans kp4 (by simp; omega)
  have k14 : Kept [d, md] w1 w4 := ((Kept.of_below hb2).trans kp3 (by simp)).trans kp4 (by simp; omega)
  clear q0 q1 q2 ql Q3p
  have Q4p := Q4
  have ql := Q4p.lt; have q0 := Q4p.cell (j := 0) rfl; have q1 := Q4p.cell (j := 1) rfl; have q2 := Q4p.cell (j := 2) rfl
  go_wp2_with fail
  rw [rounds_succ]
  go_wp2_with fail
  refine (load3 x1 k d md f g _ _ _ _ _ _ _ _ _ _ _ _ w4 (hX1.keptX kw4 (by simp; exact ⟨h1d, h1m⟩)) (hK.keptX kw4 (by simp; exact ⟨hkd, hkm⟩)) D4 G4.file).mono ?_
  rintro e w5 ⟨rfl, D5, kp5⟩
  have z4 := kp4.size
  have zC := C4.lt
  have Q5 := Q4.keptX kp5 (by simp; omega)
  have C5 := C4.keptX kp5 (by simp; omega)
  have kw5 : Kept [d, md] w w5 := kw4.trans kp5 (by simp)
  have k15 : Kept [d, md] w1 w5 := k14.trans kp5 (by simp)
  have G5 := G4.keptX kp5 (by simp; omega) (by simp; omega)
  have K5 := hK.keptX kw5 (by simp; exact ⟨hkd, hkm⟩)
  have X5 := hX1.keptX kw5 (by simp; exact ⟨h1d, h1m⟩)
  have u5 := hu.keptX kw5 zk (by simp; exact ⟨hkd, hkm⟩)
  have z5 := kp5.size
  clear q0 q1 q2 ql Q4p
  have Q5p := Q5
  have ql := Q5p.lt; have q0 := Q5p.cell (j := 0) rfl; have q1 := Q5p.cell (j := 1) rfl; have q2 := Q5p.cell (j := 2) rfl
  go_wp2_with fail
  rw [rounds_succ]
  go_upto_region 12 with (fail)
  clear q0 q1 q2 ql Q5p
  have K5p := K5
  have C5p := C5
  have X5p := X5
  obtain ⟨kl, kf, k0, k1, k2, k3, k4, k5, k6, k7, k8, k9, k10, k11⟩ := K5p.c12
  obtain ⟨yl, yf, y0, y1, y2, y3, y4, y5⟩ := C5p.c6
  obtain ⟨al, af, a0⟩ := X5p.c1
  refine AnyBut.region (S := fun w' => w'.cell? ⟨x1, 0, none⟩ = some (.pointer (some ⟨k, 0, none⟩)) ∧ w'.cell? ⟨w1.heap.size, 0, none⟩ = some (.slice (some ⟨jb, 0, none⟩) 1 jc) ∧ w'.cell? ⟨w1.heap.size, 1, none⟩ = some (.slice (some ⟨qb, 0, none⟩) 1 qc) ∧ w'.cell? ⟨w1.heap.size, 2, none⟩ = some (.slice none 0 0) ∧ w'.cell? ⟨w1.heap.size, 3, none⟩ = some (.slice none 0 0) ∧ w'.cell? ⟨w1.heap.size, 4, none⟩ = some (.slice none 0 0) ∧ w'.cell? ⟨w1.heap.size, 5, none⟩ = some (.slice none 0 0)) (t := 99) 10 rfl (by kernel_rfl) ?_ ?_
  · exact ⟨a0, y0, y1, y2, y3, y4, y5⟩
  intro hS
  refine AnyBut.tk0 0 hS rfl (h := ?_); refine AnyBut.tk0 1 hS rfl (h := ?_); refine AnyBut.tk0 2 hS rfl (h := ?_); refine AnyBut.tk0 3 hS rfl (h := ?_); refine AnyBut.tk0 4 hS rfl (h := ?_); refine AnyBut.tk0 5 hS rfl (h := ?_)
  clear hS
  have wk : w1.heap.size ≠ k := by omega
  refine AnyBut.one (i := 6) rfl (by kernel_rfl) rfl ?_; intro K hK; go_simp; refine hK _ _ ?_ ?_ <;> clear hK K; rotate_left; intro hS; rotate_left
  · refine ⟨?_, ?_, ?_, ?_, ?_, ?_, ?_⟩ <;> go_simp
  refine AnyBut.tk0 7 hS rfl (h := ?_); refine AnyBut.tk0 8 hS rfl (h := ?_)
  clear hS
  refine AnyBut.one (i := 9) rfl (by kernel_rfl) rfl ?_; intro K hK; go_simp; refine hK _ _ ?_ ?_ <;> clear hK K; rotate_left; intro hS; rotate_left
  · refine ⟨?_, ?_, ?_, ?_, ?_, ?_, ?_⟩ <;> go_simp
  clear hS
  refine AnyBut.done (by kernel_rfl) ?_
  go_wp2_with fail
  have kp6 : Kept [k] w5 (((((((w5.setCell ⟨k, 1, none⟩ (.slice (some ⟨jb, 0, none⟩) 1 jc)).setCell ⟨k, 2, none⟩ (.slice (some ⟨qb, 0, none⟩) 1 qc)).setCell ⟨k, 3, none⟩ (.slice none 0 0)).setCell ⟨k, 4, none⟩ (.slice none 0 0)).setCell ⟨k, 5, none⟩ (.slice none 0 0)).setCell ⟨k, 6, none⟩ (.slice none 0 0)).setCell ⟨k, 7, none⟩ (.pointer (some ⟨K, 0, none⟩))).drew := (((((((Kept.refl _ _).set (by simp) _).set (by simp) _).set (by simp) _).set (by simp) _).set (by simp) _).set (by simp) _).set (by simp) _ |>.drew
  have K6 : Block (((((((w5.setCell ⟨k, 1, none⟩ (.slice (some ⟨jb, 0, none⟩) 1 jc)).setCell ⟨k, 2, none⟩ (.slice (some ⟨qb, 0, none⟩) 1 qc)).setCell ⟨k, 3, none⟩ (.slice none 0 0)).setCell ⟨k, 4, none⟩ (.slice none 0 0)).setCell ⟨k, 5, none⟩ (.slice none 0 0)).setCell ⟨k, 6, none⟩ (.slice none 0 0)).setCell ⟨k, 7, none⟩ (.pointer (some ⟨K, 0, none⟩))).drew k 100 _ := (((((((K5.set 1 (.slice (some ⟨jb, 0, none⟩) 1 jc)).set 2 (.slice (some ⟨qb, 0, none⟩) 1 qc)).set 3 (.slice none 0 0)).set 4 (.slice none 0 0)).set 5 (.slice none 0 0)).set 6 (.slice none 0 0)).set 7 (.pointer (some ⟨K, 0, none⟩))).drew
  refine ret_ctS (b := w.heap.size) (T := 64) (cs := []) rfl rfl rfl cells_nil agg_unit size_unit ?_
  have hkl := hcal.lt
  have k16 : Kept [d, md, k] w1 (((((((w5.setCell ⟨k, 1, none⟩ (.slice (some ⟨jb, 0, none⟩) 1 jc)).setCell ⟨k, 2, none⟩ (.slice (some ⟨qb, 0, none⟩) 1 qc)).setCell ⟨k, 3, none⟩ (.slice none 0 0)).setCell ⟨k, 4, none⟩ (.slice none 0 0)).setCell ⟨k, 5, none⟩ (.slice none 0 0)).setCell ⟨k, 6, none⟩ (.slice none 0 0)).setCell ⟨k, 7, none⟩ (.pointer (some ⟨K, 0, none⟩))).drew := (k15.mono (by simp)).trans kp6 (by simp)
  refine ⟨rfl, g, jb, jc, qb, qc, K, E, F, w3.heap.size, K6, D5.keptX kp6 (by simpa using hkd.symm) (by simpa using hkm.symm), G5.keptX kp6 (by simp; omega) (by simp; omega), hin.keptX k16 (by simp; omega), hcal.keptX k16 (by simp; omega), hFK, ⟨by omega, by omega⟩, (kw5.mono (by simp)).trans kp6 (by simp)⟩
end Go.Proofs.YthmhdaefkhcenaaGreatDoor
namespace Go.Proofs.YthmhdaefkhcenaaGreatDoor
open Go.RowKit Go.Lib Go.MapKept

theorem LoadR.pre {k d md f : Nat} {rate : Int} {us : List Value} {w w1 w' : World} (hb : Below w.heap.size w w1) (h : LoadR k d md f rate us w1 w') : LoadR k d md f rate us w w' := by
  obtain ⟨g, jb, jc, qb, qc, K, E, F, lo, h1, h2, h3, h4, h5, h6, h7, h8⟩ := h
  exact ⟨g, jb, jc, qb, qc, K, E, F, lo, h1, h2, h3, h4.low hb.size, h5.low hb.size, h6, h7, Kept.pre hb h8⟩
theorem LoadR.post {k d md f : Nat} {rate : Int} {us : List Value} {w w1 w' : World} (h : LoadR k d md f rate us w w1) (hb : Below w1.heap.size w1 w') : LoadR k d md f rate us w w' := by
  obtain ⟨g, jb, jc, qb, qc, K, E, F, lo, h1, h2, h3, h4, h5, h6, h7, h8⟩ := h
  exact ⟨g, jb, jc, qb, qc, K, E, F, lo, h1.call hb, h2.call hb, h3.keptX (Kept.of_below (X := []) hb) (by simp) (by simp), h4.call hb, h5.keptX (Kept.of_below (X := []) hb) (by simp), h6, h7, h8.behind hb⟩
set_option maxRecDepth 100000 in
set_option maxHeartbeats 8000000 in
theorem load_desk (k d md f l : Nat) (rate : Int) (h0 : 0 ≤ rate) (h1 : rate ≤ 1000000) (A : Option Addr) (c : Nat) (v1 v2 v3 v4 v5 v6 v7 v9 v10 : Value) (w : World)
    (hK : Block w k 100 [.pointer (some ⟨d, 0, none⟩), v1, v2, v3, v4, v5, v6, v7, .pointer (some ⟨l, 0, none⟩), v9, v10, .bool false]) (hu : NoU8 w k) (hD : DiskAt w d md (fs1 f) 1) (hY : Shows w w.heap.size 1 A (bytesOf (cfgL rate)).length (U8 (bytesOf (cfgL rate)))) :
    Calls Tryz.prog 17 #[.pointer (some ⟨k, 0, none⟩), .slice A (bytesOf (cfgL rate)).length c] w fun e w' => e = .returned (.int .i64 0) ∧ LoadR k d md f rate [.pointer (some ⟨l, 0, none⟩), v9, v10, .bool false] w w' := by
  have hmf : ∀ (fn : Fn) (first cap : Array Value) (w : World), (Instr.makeFunc fn first cap).run Tryz.prog w = .ok (.func fn first cap) w := fun _ _ _ _ => rfl
  go_enter Tryz.func17, Tryz.ntmps17
  go_wp2_with (go_at_call 36; go_in)
  refine (none_desk k l _ _ _ _ _ _ _ _ _ _ _ _ (hK.call (by exact sBel))).mono ?_
  rintro e w1 ⟨rfl, hb1⟩
  have bel1 : Below w.heap.size w w1 := bel_call (by exact sBel) hb1
  have X0 : Block w1 w.heap.size 26 [.pointer (some ⟨k, 0, none⟩)] := Block.call (by exact sBlk) hb1
  have X1 : Block w1 (w.heap.size + 1) 71 [.slice A (bytesOf (cfgL rate)).length c] := Block.call (by exact sBlk) hb1
  have K1 := hK.call bel1
  have K1p := K1
  obtain ⟨kl, kf, k0, k1, k2, k3, k4, k5, k6, k7, k8, k9, k10, k11⟩ := K1p.c12
  go_wp2_with fail
  refine (load_in _ _ k d md f rate h0 h1 A c _ _ _ _ _ _ _ _ _ _ _ w1 X1 X0 K1 (hu.keptX (Kept.of_below (X := []) bel1) hK.lt (by simp)) (hD.call bel1) ((hY.call bel1 (Nat.le_refl _)).up bel1.size)).mono ?_
  rintro e w2 ⟨rfl, hR⟩
  go_wp2
  exact ret_t rfl rfl rfl ⟨rfl, (hR.pre bel1).post (by exact sBel)⟩
end Go.Proofs.YthmhdaefkhcenaaGreatDoor
namespace Go.Proofs.YthmhdaefkhcenaaGreatDoor
set_option maxRecDepth 100000
set_option maxHeartbeats 8000000
open Go.RowKit Go.Lib Go.MapKept

theorem agg_reg (w : World) : (isAgg 39).run Tryz.prog w = .ok true w := by kernel_rfl
theorem size_reg (w : World) : (sizeOf 39).run Tryz.prog w = .ok 1 w := by kernel_rfl
theorem agg_ord (w : World) : (isAgg 49).run Tryz.prog w = .ok true w := by kernel_rfl
theorem size_ord (w : World) : (sizeOf 49).run Tryz.prog w = .ok 5 w := by kernel_rfl
theorem box_c (w : World) : Calls Tryz.prog 8 #[.int .i64 0, .int .i64 0, .int .i64 4, .int .i64 4] w fun e w' => ∃ rb b, e = .returned (.agg #[.slice (some ⟨rb, 0, none⟩) 1 1]) ∧ Has w' rb [.slice (some ⟨b, 0, none⟩) 4 4] ∧ Has w' b boxC ∧ w.heap.size ≤ rb ∧ w.heap.size ≤ b ∧ Below w.heap.size w w' := by
  go_enter Tryz.func8, Tryz.ntmps8
  go_wp2
  exact ret_cS (b := w.heap.size) (T := 39) (cs := [.slice (some ⟨w.heap.size + 1 + 1, 0, none⟩) 1 1]) rfl rfl rfl (sCls) agg_reg size_reg ⟨w.heap.size + 1 + 1, w.heap.size + 1, rfl, Has.of_block (btop (by simp)), Has.alloc (Has.of_block (btop (cs := boxC) (by simp))) _, by omega, by omega, by exact sBel⟩
theorem plain_c (rb b c : Nat) (rate : Int) (w : World) (hr : Has w rb [.slice (some ⟨b, 0, none⟩) 4 c]) (hb : Has w b boxC) : Calls Tryz.prog 7 #[.agg #[.slice (some ⟨rb, 0, none⟩) 1 1], .int .i64 rate] w fun e w' => ∃ v, e = .returned v ∧ CfgV rate 0 w' v ∧ Below w.heap.size w w' := by
  go_enter Tryz.func7, Tryz.ntmps7
  go_wp2
  refine ret_cS (b := w.heap.size + 1) (T := 35) (cs := [.slice (some ⟨w.heap.size + 1 + 1, 0, none⟩) 1 1, .slice (some ⟨w.heap.size + 1 + 1 + 1 + 1, 0, none⟩) 1 1, .slice none 0 0, .slice none 0 0, .slice none 0 0, .slice none 0 0]) rfl rfl rfl (sCls) agg_cfg2 size_cfg2 ⟨_, rfl, ⟨w.heap.size + 1 + 1, 1, w.heap.size + 1 + 1 + 1 + 1, 1, rb, 1, w.heap.size + 1 + 1 + 1, 1, b, c, rfl, ?_, ?_, ?_, ?_, ?_, ⟨by omega, by omega, by omega, by omega⟩, by omega, by omega, by omega, by omega, by omega⟩, by exact sBel⟩
  · exact Has.alloc (Has.alloc (Has.of_block (btop (by simp))) _) _
  · exact ((((hr.alloc _).alloc _).alloc _).alloc _).alloc _
  · exact ((((hb.alloc _).alloc _).alloc _).alloc _).alloc _
  · exact Has.of_block (btop (by simp))
  · exact Has.alloc (Has.of_block (btop (by simp))) _
theorem order_c (n : Nat) (w : World) : Calls Tryz.prog 10 #[.int .i64 1, .int .i64 1, .int .i64 n] w fun e w' => ∃ lb, e = .returned (ordV 10 lb 1) ∧ Has w' lb [.int .i64 2, .int .i64 n] ∧ w.heap.size ≤ lb ∧ Below w.heap.size w w' := by
  go_enter Tryz.func10, Tryz.ntmps10
  go_wp2
  exact ret_cS (b := w.heap.size) (T := 49) (cs := [.int .i64 0, .int .i64 10, .int .i64 1, .int .i64 1, .slice (some ⟨w.heap.size + 1, 0, none⟩) 1 1]) rfl rfl rfl (sCls) agg_ord size_ord ⟨w.heap.size + 1, rfl, Has.of_block (btop (cs := [.int .i64 2, .int .i64 n]) (by simp)), by omega, by exact sBel⟩
end Go.Proofs.YthmhdaefkhcenaaGreatDoor
namespace Go.Proofs.YthmhdaefkhcenaaGreatDoor
open Go.RowKit Go.Lib Go.MapKept

def OpenedR (d md : Nat) (rate : Int) (w : World) (e : Ending) (w' : World) : Prop := ∃ k l f g bb m jb jc qb qc K E F z lo, e = .returned (.pointer (some ⟨k, 0, none⟩)) ∧ (w.heap.size ≤ k ∧ w.heap.size ≤ l ∧ w.heap.size ≤ f ∧ w.heap.size ≤ g ∧ w.heap.size ≤ bb ∧ w.heap.size ≤ m ∧ w.heap.size ≤ z) ∧ (k < z ∧ l < z ∧ f < z ∧ bb < z ∧ m < z) ∧ (F ≤ K ∧ E ≤ g ∧ E ≤ lo) ∧
  Block w' k 100 [.pointer (some ⟨d, 0, none⟩), .slice (some ⟨jb, 0, none⟩) 1 jc, .slice (some ⟨qb, 0, none⟩) 1 qc, .slice none 0 0, .slice none 0 0, .slice none 0 0, .slice none 0 0, .pointer (some ⟨K, 0, none⟩), .pointer (some ⟨l, 0, none⟩), .pointer (some ⟨bb, 0, none⟩), .int .i64 0, .bool false] ∧
  DiskAt w' d md (fs3 f g) 3 ∧ File w' f [] ∧ FileL w' lo g (bytesOf (cfgL rate)) ∧ LedAt w' l d ∧ Block w' bb 137 [.slice none 0 0, .map (some m)] ∧ MapAt w' m [] 0 ∧ CfgIn rate z F w' (cfgA jb jc qb qc) ∧ CalcOk rate z E w' K ∧ Kept [d, md] w w'
set_option maxRecDepth 100000 in
set_option maxHeartbeats 8000000 in
theorem opened_c (d md : Nat) (rate : Int) (h0 : 0 ≤ rate) (h1 : rate ≤ 1000000) (v : Value) (w : World) (hD : DiskAt w d md [] 0) (hv : CfgV rate 0 w v) : Calls Tryz.prog 6 #[.pointer (some ⟨d, 0, none⟩), v] w (OpenedR d md rate w) := by
  have hdn := deskp_ne
  have hdl := hD.lt
  have hcp := cfg_pos rate
  obtain ⟨jb, jc, qb, qc, rb, rc, db, dc, b, cc, rfl, hrest⟩ := hv
  have hv : CfgV rate 0 w (cfgA jb jc qb qc) := ⟨jb, jc, qb, qc, rb, rc, db, dc, b, cc, rfl, hrest⟩
  clear hrest
  go_enter Tryz.func6, Tryz.ntmps6
  go_wp2_with fail
  have bs : Below w.heap.size w (w.alloc (.cells #[.slice (some ⟨jb, 0, none⟩) 1 jc, .slice (some ⟨qb, 0, none⟩) 1 qc, .slice none 0 0, .slice none 0 0, .slice none 0 0, .slice none 0 0] 35)) := bel_alloc (Below.refl _ _) _
  refine (bytesV rate ⟨by omega, by omega⟩ 0 (cfgA jb jc qb qc) _ (hv.call bs)).mono ?_
  rintro e w1 ⟨A, c, rfl, hA, hb1⟩
  have bel1 := bel_call bs hb1
  have hO := hA.owns
  clear hb1 hA
  go_wp2_with fail
  refine (open_new d md w1 (hD.call bel1)).mono ?_
  rintro e w2 ⟨k, l, f, bb, m, rfl, ⟨z1, z2, z3, z4, z5⟩, K2, D2, F2, L2, B2, M2, kp2⟩
  have u2 : NoU8 w2 k := NoU8.of_block K2 (by simp)
  have hY : Shows w2 w2.heap.size 1 A _ (U8 (bytesOf (cfgL rate))) := ((Shows.of_own hO).kept8 kp2 (Nat.le_refl _) (by
    intro h hh
    simp at hh
    have := (hD.call bel1).noU8
    rcases hh with rfl | rfl
    · exact this.1
    · exact this.2)).up kp2.size
  have zs := bel1.size
  go_wp2_with fail
  refine (load_desk k d md f l rate h0 h1 A c _ _ _ _ _ _ _ _ _ w2 K2 u2 D2 hY).mono ?_
  rintro e w3 ⟨rfl, g, jb, jc, qb, qc, K, E, F, lo, K3, D3, G3, c3, k3, hFK, hEg, kp3⟩
  go_wp2_with fail
  have y1 := K2.lt
  have y2 := L2.lt
  have y3 := F2.lt
  have y4 := B2.lt
  have y5 := M2.lt
  have y6 := kp2.size
  have y7 := kp3.size
  have y8 := k3.lt
  have e1 : f ≠ k := F2.ne K2 (by decide)
  have e2 : bb ≠ k := B2.ne_type K2 (by decide)
  have e3 : m ≠ k := (K2.ne_map M2).symm
  have e4 : l ≠ k := by
    obtain ⟨_, _, h⟩ := L2
    exact h.ne_type K2 (by decide)
  have hN : ∀ h ∈ [d, md, k], NoU8 w2 h := by
    intro h hh
    simp at hh
    rcases hh with rfl | rfl | rfl
    · exact D2.noU8.1
    · exact D2.noU8.2
    · exact u2
  exact ret_t rfl rfl rfl ⟨k, l, f, g, bb, m, jb, jc, qb, qc, K, E, F, w2.heap.size, lo, rfl, ⟨by omega, by omega, by omega, by omega, by omega, by omega, by omega⟩, ⟨y1, y2, y3, y4, y5⟩, ⟨hFK, hEg⟩, K3, D3, F2.kept kp3 (by simp; omega) hN, G3, L2.keptX kp3 (by simp; omega), B2.keptX kp3 (by simp; omega), M2.keptX kp3 (by simp; omega), c3, k3, ((Kept.of_below (X := [d, md]) bel1).trans kp2 (by simp)).trans kp3 (by simp; omega)⟩
end Go.Proofs.YthmhdaefkhcenaaGreatDoor
namespace Go.Proofs.YthmhdaefkhcenaaGreatDoor
set_option maxRecDepth 100000
set_option maxHeartbeats 8000000
open Go.RowKit Go.Lib Go.MapKept

theorem Only.kept {B E : Nat} {w w' : World} (h : Only B E w w') : Kept (List.range' B (E - B)) w w' := ⟨h.os, h.tape, h.output, h.size, fun k hk hX => h.blk k hk (by
  rw [List.mem_range'_1] at hX
  omega)⟩
theorem quote1 (x0 x1 k K E z r : Nat) (day : Int) (lb lc n : Nat) (v0 v1 v2 v3 v4 v5 v6 v8 v9 v10 v11 : Value) (hn : n ≤ 1073741824) (hr : r ≤ 1000000) (hd0 : 0 ≤ day) (hd1 : day ≤ 3652058) (w : World) (h0 : Block w x0 26 [.pointer (some ⟨k, 0, none⟩)]) (h1 : Block w x1 49 [.int .i64 0, .int .i64 day, .int .i64 1, .int .i64 1, .slice (some ⟨lb, 0, none⟩) 1 lc])
    (hK : Block w k 100 [v0, v1, v2, v3, v4, v5, v6, .pointer (some ⟨K, 0, none⟩), v8, v9, v10, v11]) (hC : CalcOk r z E w K) (hx0 : E ≤ x0) (hx1 : E ≤ x1) (hk : k < K) (hL : Has w lb [.int .i64 2, .int .i64 n]) (hlb : E ≤ lb) :
    Calls Tryz.prog 98 #[.pointer (some ⟨x0, 0, none⟩), .pointer (some ⟨x1, 0, none⟩)] w fun e w' => ∃ g c, e = .returned (.tuple #[.slice (some ⟨g, 0, none⟩) 1 c, .int .i64 0]) ∧ 1 ≤ c ∧ w.heap.size ≤ g ∧ Has w' g (tlC n r) ∧ Only K E w w' := by
  have h0p := h0
  have h1p := h1
  have hKp := hK
  obtain ⟨al, af, a0⟩ := h0p.c1
  obtain ⟨bl, bf, b0, b1, b2, b3, b4⟩ := h1p.c5
  obtain ⟨kl, kf, k0, k1, k2, k3, k4, k5, k6, k7, k8, k9, k10, k11⟩ := hKp.c12
  go_enter Tryz.func98, Tryz.ntmps98
  go_upto_region 1 with (fail)
  refine AnyBut.region (S := fun w' => w'.cell? ⟨x0, 0, none⟩ = some (.pointer (some ⟨k, 0, none⟩)) ∧ w'.cell? ⟨k, 7, none⟩ = some (.pointer (some ⟨K, 0, none⟩)) ∧ w'.cell? ⟨x1, 0, none⟩ = some (.int .i64 0) ∧ w'.cell? ⟨x1, 1, none⟩ = some (.int .i64 day) ∧ w'.cell? ⟨x1, 2, none⟩ = some (.int .i64 1) ∧ w'.cell? ⟨x1, 3, none⟩ = some (.int .i64 1) ∧ w'.cell? ⟨x1, 4, none⟩ = some (.slice (some ⟨lb, 0, none⟩) 1 lc)) (t := 99) 10 rfl (by kernel_rfl) ?_ ?_
  · exact ⟨a0, k7, b0, b1, b2, b3, b4⟩
  intro hS
  refine AnyBut.tk0 0 hS rfl (h := ?_); refine AnyBut.tk0 1 hS rfl (h := ?_); refine AnyBut.tk0 2 hS rfl (h := ?_); refine AnyBut.tk0 3 hS rfl (h := ?_); refine AnyBut.tk0 4 hS rfl (h := ?_)
  clear hS
  refine AnyBut.one (i := 5) rfl (by kernel_rfl) rfl ?_; intro K' hKK
  go_wp2_with fail
  refine (tax_calc z E K n r day lb lc hn hr hd0 hd1 w.drew (hC.keptX (Kept.of_below (X := []) (Below.drew (Below.refl _ _))) (by simp)) hL (.inr hlb)).mono ?_
  rintro e w1 ⟨g, c, rfl, hc, hg, hT, on⟩
  have A1 := h0.drew.only on (.inr hx0)
  have B1 := h1.drew.only on (.inr hx1)
  have K1 := hK.drew.only on (.inl hk)
  refine hKK _ _ ⟨A1.cell 0, K1.cell 7, B1.cell 0, B1.cell 1, B1.cell 2, B1.cell 3, B1.cell 4⟩ ?_
  intro hS
  clear hKK K'
  refine AnyBut.tk0 6 hS rfl (h := ?_); refine AnyBut.tk0 7 hS rfl (h := ?_); refine AnyBut.tk0 8 hS rfl (h := ?_); refine AnyBut.tk0 9 hS rfl (h := ?_)
  clear hS
  refine AnyBut.done (by kernel_rfl) ?_
  go_wp2_with fail
  go_returns
  exact ⟨g, c, by first | rfl | simp, hc, hg, hT, Only.pre (Below.drew (Below.refl _ _)) on⟩
theorem quote_c (k K E z r l : Nat) (day : Int) (lb lc n : Nat) (v0 v1 v2 v3 v4 v5 v6 v9 v10 : Value) (hn : n ≤ 1073741824) (hr : r ≤ 1000000) (hd0 : 0 ≤ day) (hd1 : day ≤ 3652058) (w : World)
    (hK : Block w k 100 [v0, v1, v2, v3, v4, v5, v6, .pointer (some ⟨K, 0, none⟩), .pointer (some ⟨l, 0, none⟩), v9, v10, .bool false]) (hC : CalcOk r z E w K) (hk : k < K) (hL : Has w lb [.int .i64 2, .int .i64 n]) (hlb : E ≤ lb) :
    Calls Tryz.prog 48 #[.pointer (some ⟨k, 0, none⟩), ordV day lb lc] w fun e w' => ∃ g c, e = .returned (.tuple #[.slice (some ⟨g, 0, none⟩) 1 c, .int .i64 0]) ∧ 1 ≤ c ∧ w.heap.size ≤ g ∧ Has w' g (tlC n r) ∧ Only K E w w' := by
  have hmf : ∀ (fn : Fn) (first cap : Array Value) (w : World), (Instr.makeFunc fn first cap).run Tryz.prog w = .ok (.func fn first cap) w := fun _ _ _ _ => rfl
  have hcn := calcp_ne
  go_enter Tryz.func48, Tryz.ntmps48
  simp only [ordV]
  go_wp2_with (go_at_call 97; go_in)
  go_wp2_with (go_at_call 18; go_in)
  refine (none_desk k l _ _ _ _ _ _ _ _ _ _ _ _ (hK.call (by exact sBel))).mono ?_
  rintro e w1 ⟨rfl, hb1⟩
  have bel1 : Below w.heap.size w w1 := bel_call (by exact sBel) hb1
  have X0 : Block w1 w.heap.size 26 [.pointer (some ⟨k, 0, none⟩)] := Block.call (by exact sBlk) hb1
  have X1 : Block w1 (w.heap.size + 1) 49 [.int .i64 0, .int .i64 day, .int .i64 1, .int .i64 1, .slice (some ⟨lb, 0, none⟩) 1 lc] := Block.call (by exact sBlk) hb1
  have X2 : Block w1 (w.heap.size + 1 + 1) 26 [.pointer (some ⟨k, 0, none⟩)] := Block.call (by exact sBlk) hb1
  have X3 : Block w1 (w.heap.size + 1 + 1 + 1) 84 [.func (.func 98) #[] #[.pointer (some ⟨w.heap.size, 0, none⟩), .pointer (some ⟨w.heap.size + 1, 0, none⟩)]] := Block.call (by exact sBlk) hb1
  have K1 := hK.call bel1
  clear hb1
  have K1p := K1
  obtain ⟨kl, kf, k0, k1, k2, k3, k4, k5, k6, k7, k8, k9, k10, k11⟩ := K1p.c12
  obtain ⟨al, af, a0⟩ := X2.c1
  obtain ⟨bl, bf, b0⟩ := X3.c1
  go_wp2_with (go_at_call 145; go_in)
  have hcl := hC.lt
  refine (quote1 _ _ k K E z r day lb lc n _ _ _ _ _ _ _ _ _ _ _ hn hr hd0 hd1 w1 X0 X1 K1 (hC.keptX (Kept.of_below (X := []) bel1) (by simp)) (by omega) (by omega) hk (hL.call bel1) hlb).mono ?_
  rintro e w2 ⟨g, c, rfl, hc, hg, hT, on⟩
  go_wp2
  go_returns
  exact ⟨g, c, by first | rfl | simp, hc, Nat.le_trans bel1.size hg, hT, Only.pre bel1 on⟩
end Go.Proofs.YthmhdaefkhcenaaGreatDoor
namespace Go.Proofs.YthmhdaefkhcenaaGreatDoor
open Go.RowKit Go.Lib Go.MapKept

def KeptSaleR (d md f g l bb m : Nat) (id day : Int) (n r t : Nat) (w : World) (e : Ending) (w' : World) : Prop := ∃ q c' ib gb lo, e = .returned (.tuple #[.slice (some ⟨q, 0, none⟩) 1 c', .int .i64 0]) ∧ 1 ≤ c' ∧ Has w' q (tlV n r t) ∧ w.heap.size ≤ q ∧ q ≠ ib ∧ q ≠ gb ∧ w.heap.size ≤ lo ∧ BookAt w' bb m ib gb lo id day n r t [] [] ∧
  DiskAt w' d md (fs3 f g) 3 ∧ File w' f (framesL (recsOf id day n r t [])) ∧ LedAt w' l d ∧ Kept [d, md, f, l, bb, m] w w'
set_option maxRecDepth 100000 in
set_option maxHeartbeats 8000000 in
theorem keep_sale (k d md f g l bb m : Nat) (id day : Int) (ab ac tb tc n r t : Nat) (v1 v2 v3 v4 v5 v6 v7 v10 v11 : Value) (hR : RefsOk id day n r t []) (w : World) (hK : Block w k 100 [.pointer (some ⟨d, 0, none⟩), v1, v2, v3, v4, v5, v6, v7, .pointer (some ⟨l, 0, none⟩), .pointer (some ⟨bb, 0, none⟩), v10, v11])
    (hD : DiskAt w d md (fs3 f g) 3) (hF : File w f []) (hL : LedAt w l d) (hB : Block w bb 137 [.slice none 0 0, .map (some m)]) (hM : MapAt w m [] 0) (hmm : m ≠ md) (hA : Has w ab [.int .i64 n]) (hT : Has w tb (tlV n r t)) :
    Calls Tryz.prog 22 #[.pointer (some ⟨k, 0, none⟩), .agg (saleC id day ab ac tb tc).toArray] w (KeptSaleR d md f g l bb m id day n r t w) := by
  have := hR.s0; have := hR.s1; have := hR.d0; have := hR.d1; have := hR.n0; have := hR.n1; have := hR.r1; have := hR.t1
  simp only [saleC]
  have hkd : k ≠ d := by
    obtain ⟨⟨st, h⟩, _⟩ := hD
    exact hK.ne_type h (by decide)
  have hkm : k ≠ md := hK.ne_map hD.2
  have hkf : k ≠ f := (hF.ne hK (by decide)).symm
  have hkl : k ≠ l := by
    obtain ⟨_, _, h⟩ := hL
    exact hK.ne_type h (by decide)
  have had : ab ≠ d := by
    obtain ⟨⟨st, h⟩, _⟩ := hD
    exact has_ne_block h hA (by simp)
  have ham : ab ≠ md := hA.ne_map hD.2
  have haf : ab ≠ f := by
    obtain ⟨sv, h, h2⟩ := hF
    refine has_ne_block h hA ?_
    rcases h2 with ⟨rfl, _⟩ | ⟨_, _, rfl, _⟩ <;> simp
  have hal : ab ≠ l := by
    obtain ⟨_, _, h⟩ := hL
    exact has_ne_block h hA (by simp)
  have htd : tb ≠ d := by
    obtain ⟨⟨st, h⟩, _⟩ := hD
    exact has_ne_block h hT (by simp)
  have htm : tb ≠ md := Has.ne_map (v := .int .i64 0) hT hD.2
  have htf : tb ≠ f := by
    obtain ⟨sv, h, h2⟩ := hF
    refine has_ne_block h hT ?_
    rcases h2 with ⟨rfl, _⟩ | ⟨_, _, rfl, _⟩ <;> simp
  have htl : tb ≠ l := by
    obtain ⟨_, _, h⟩ := hL
    exact has_ne_block h hT (by simp)
  have hbd : bb ≠ d := by
    obtain ⟨⟨st, h⟩, _⟩ := hD
    exact hB.ne_type h (by decide)
  have hbm : bb ≠ md := hB.ne_map hD.2
  have hbf : bb ≠ f := (hF.ne hB (by decide)).symm
  have hbl : bb ≠ l := by
    obtain ⟨_, _, h⟩ := hL
    exact hB.ne_type h (by decide)
  have hmd : m ≠ d := by
    obtain ⟨⟨st, h⟩, _⟩ := hD
    exact (h.ne_map hM).symm
  have hmf : m ≠ f := (hF.ne_map hM).symm
  have hml : m ≠ l := by
    obtain ⟨_, _, h⟩ := hL
    exact (h.ne_map hM).symm
  have zd := hD.lt
  have zf := hF.lt
  have zl := hL.lt
  have zk := hK.lt
  have hrec := (refs_recs hR) (bytesOf (saleL id day n r t)) (by simp [recsOf])
  go_enter Tryz.func22, Tryz.ntmps22
  go_upto_region 1 with (fail)
  refine at_code (fun W => Below w.heap.size w W ∧ Block W w.heap.size 88 [.int .i64 1, .int .i64 id, .int .i64 0, .int .i64 day, .slice (some ⟨ab, 0, none⟩) 1 ac, .slice (some ⟨tb, 0, none⟩) 1 tc]) ⟨by exact sBel, btop rfl⟩ ?_
  rintro w1 ⟨bel1, E1⟩
  have K1 := hK.call bel1
  have K1p := K1
  have E1p := E1
  obtain ⟨kl, kf, k0, k1, k2, k3, k4, k5, k6, k7, k8, k9, k10, k11⟩ := K1p.c12
  obtain ⟨xl, xf, x0, x1, x2, x3, x4, x5⟩ := E1p.c6
  refine AnyBut.region (S := fun w' => w'.cell? ⟨k, 9, none⟩ = some (.pointer (some ⟨bb, 0, none⟩)) ∧ w'.cell? ⟨w.heap.size, 0, none⟩ = some (.int .i64 1) ∧ w'.cell? ⟨w.heap.size, 1, none⟩ = some (.int .i64 id) ∧ w'.cell? ⟨w.heap.size, 2, none⟩ = some (.int .i64 0) ∧ w'.cell? ⟨w.heap.size, 3, none⟩ = some (.int .i64 day) ∧ w'.cell? ⟨w.heap.size, 4, none⟩ = some (.slice (some ⟨ab, 0, none⟩) 1 ac) ∧ w'.cell? ⟨w.heap.size, 5, none⟩ = some (.slice (some ⟨tb, 0, none⟩) 1 tc)) (t := 99) 7 rfl (by kernel_rfl) ⟨k9, x0, x1, x2, x3, x4, x5⟩ ?_
  intro hS
  refine AnyBut.tk0 0 hS rfl (h := ?_); refine AnyBut.tk0 1 hS rfl (h := ?_); refine AnyBut.tk0 2 hS rfl (h := ?_); refine AnyBut.tk0 3 hS rfl (h := ?_); refine AnyBut.tk0 4 hS rfl (h := ?_)
  clear hS
  refine AnyBut.one (i := 5) rfl (by kernel_rfl) rfl ?_; intro K' hKK
  go_wp2_with fail
  have bel1d : Below w.heap.size w w1.drew := Below.drew bel1
  refine (may_sale bb m _ [] id day ab ac tb tc n r t (by omega) (by omega) (by omega) (by omega) (by omega) (by omega) (by omega) _ (hA.call bel1d) (hT.call bel1d) (hB.call bel1d) (hM.call bel1d) (by simp)).mono ?_
  rintro e w2 ⟨rfl, hb2⟩
  have bel2 := bel_call bel1d hb2
  have K2 := hK.call bel2
  have E2 := E1.drew.call hb2
  clear k0 k1 k2 k3 k4 k5 k6 k7 k8 k9 k10 k11 kl kf x0 x1 x2 x3 x4 x5 xl xf K1p E1p
  have K2p := K2
  have E2p := E2
  obtain ⟨kl, kf, k0, k1, k2, k3, k4, k5, k6, k7, k8, k9, k10, k11⟩ := K2p.c12
  obtain ⟨xl, xf, x0, x1, x2, x3, x4, x5⟩ := E2p.c6
  refine hKK _ _ ⟨k9, x0, x1, x2, x3, x4, x5⟩ ?_
  intro hS
  clear hKK K'
  (refine AnyBut.one (i := 6) rfl (by kernel_rfl) rfl ?_; intro K hK; go_simp; refine hK _ _ hS ?_; clear hK K; intro _)
  clear hS
  refine AnyBut.done (by kernel_rfl) ?_
  go_wp2_with fail
  refine (bytes_sale id day ab ac tb tc n r t (by omega) (by omega) (by omega) (by omega) (by omega) (by omega) (by omega) w2 (hA.call bel2) (hT.call bel2)).mono ?_
  rintro e w3 ⟨A, c, rfl, O3, hb3⟩
  have bel3 := bel_call bel2 hb3
  have K3 := hK.call bel3
  have E3 := E2.call hb3
  clear k0 k1 k2 k3 k4 k5 k6 k7 k8 k9 k10 k11 kl kf x0 x1 x2 x3 x4 x5 xl xf K2p E2p
  have K3p := K3
  have E3p := E3
  obtain ⟨kl, kf, k0, k1, k2, k3, k4, k5, k6, k7, k8, k9, k10, k11⟩ := K3p.c12
  obtain ⟨xl, xf, x0, x1, x2, x3, x4, x5⟩ := E3p.c6
  go_wp2_with fail
  refine (add_led d md f g l A _ c ([] : List Int) (bytesOf (saleL id day n r t)) w3 (hD.call bel3) (hF.call bel3) (hL.call bel3) (Shows.of_own O3) hrec.1 hrec.2.1 hrec.2.2 (by simp)).mono ?_
  rintro e w4 ⟨rfl, D4, F4, L4, kp4⟩
  have z3 := bel3.size
  have z4 := kp4.size
  have kw4 : Kept [d, md, f, l] w w4 := (Kept.of_below bel3).trans kp4 (by simp)
  have K4 := hK.keptX kw4 (by simp; exact ⟨hkd, hkm, hkf, hkl⟩)
  have E4 := E3.keptX kp4 (by simp; omega)
  have A4 := hA.keptX kw4 (by simp; exact ⟨had, ham, haf, hal⟩)
  have T4 := hT.keptX kw4 (by simp; exact ⟨htd, htm, htf, htl⟩)
  have B4 := hB.keptX kw4 (by simp; exact ⟨hbd, hbm, hbf, hbl⟩)
  have M4 := hM.keptX kw4 (by simp; exact ⟨hmd, hmm, hmf, hml⟩)
  clear k0 k1 k2 k3 k4 k5 k6 k7 k8 k9 k10 k11 kl kf x0 x1 x2 x3 x4 x5 xl xf K3p E3p
  have K4p := K4
  have E4p := E4
  obtain ⟨kl, kf, k0, k1, k2, k3, k4, k5, k6, k7, k8, k9, k10, k11⟩ := K4p.c12
  obtain ⟨xl, xf, x0, x1, x2, x3, x4, x5⟩ := E4p.c6
  go_upto_region 15 with (fail)
  refine AnyBut.region (S := fun w' => w'.cell? ⟨k, 9, none⟩ = some (.pointer (some ⟨bb, 0, none⟩)) ∧ w'.cell? ⟨w.heap.size, 0, none⟩ = some (.int .i64 1) ∧ w'.cell? ⟨w.heap.size, 1, none⟩ = some (.int .i64 id) ∧ w'.cell? ⟨w.heap.size, 2, none⟩ = some (.int .i64 0) ∧ w'.cell? ⟨w.heap.size, 3, none⟩ = some (.int .i64 day) ∧ w'.cell? ⟨w.heap.size, 4, none⟩ = some (.slice (some ⟨ab, 0, none⟩) 1 ac) ∧ w'.cell? ⟨w.heap.size, 5, none⟩ = some (.slice (some ⟨tb, 0, none⟩) 1 tc)) (t := 99) 10 rfl (by kernel_rfl) ⟨k9, x0, x1, x2, x3, x4, x5⟩ ?_
  intro hS
  refine AnyBut.tk0 0 hS rfl (h := ?_); refine AnyBut.tk0 1 hS rfl (h := ?_); refine AnyBut.tk0 2 hS rfl (h := ?_); refine AnyBut.tk0 3 hS rfl (h := ?_); refine AnyBut.tk0 4 hS rfl (h := ?_)
  clear hS
  refine AnyBut.one (i := 5) rfl (by kernel_rfl) rfl ?_; intro K' hKK
  go_wp2_with fail
  have bd : Below w4.heap.size w4 w4.drew := Below.drew (Below.refl _ _)
  refine (bk_sale bb m id day ab ac tb tc n r t (by omega) (by omega) (by omega) (by omega) (by omega) (by omega) (by omega) w4.drew A4 T4 B4 M4).mono ?_
  rintro e w5 ⟨q, c', ib, gb, rfl, hc, hq, hq0, hq1, hq2, hbk, kp5⟩
  have hX5 : ∀ h, h ≠ bb → h ≠ m → h ∉ [bb, m] := fun h h1 h2 => by simp; exact ⟨h1, h2⟩
  have K5 := K4.drew.keptX kp5 (hX5 _ (hK.ne_type hB (by decide)) (hK.ne_map hM))
  have E5 := E4.drew.keptX kp5 (hX5 _ (by have := hB.lt; omega) (by have := hM.lt; omega))
  clear k0 k1 k2 k3 k4 k5 k6 k7 k8 k9 k10 k11 kl kf x0 x1 x2 x3 x4 x5 xl xf K4p E4p
  have K5p := K5
  have E5p := E5
  obtain ⟨kl, kf, k0, k1, k2, k3, k4, k5, k6, k7, k8, k9, k10, k11⟩ := K5p.c12
  obtain ⟨xl, xf, x0, x1, x2, x3, x4, x5⟩ := E5p.c6
  refine hKK _ _ ⟨k9, x0, x1, x2, x3, x4, x5⟩ ?_
  intro hS
  clear hKK K'
  refine AnyBut.tk0 6 hS rfl (h := ?_); refine AnyBut.tk0 7 hS rfl (h := ?_); refine AnyBut.tk0 8 hS rfl (h := ?_); refine AnyBut.tk0 9 hS rfl (h := ?_)
  clear hS
  refine AnyBut.done (by kernel_rfl) ?_
  go_wp2_with fail
  go_returns
  have kw5 : Kept [d, md, f, l, bb, m] w w5 := ((kw4.mono (by simp)).drew).trans kp5 (by simp)
  refine ⟨q, c', ib, gb, w4.heap.size, by first | rfl | simp, hc, hq, Nat.le_trans (Nat.le_trans z3 z4) hq0, hq1, hq2, Nat.le_trans z3 z4, hbk, (D4.call bd).keptX kp5 (hX5 _ hbd.symm hmd.symm) (hX5 _ hbm.symm hmm.symm), ?_, (L4.call bd).keptX kp5 (hX5 _ hbl.symm hml.symm), kw5⟩
  have F5 := ((F4.keptX (Kept.of_below (X := []) bd) (by simp) (by simp)).keptX kp5 (hX5 _ hbf.symm hmf.symm) (by have := hB.lt; have := hM.lt; simp; omega)).file
  simpa [recsOf, framesL_one] using F5
end Go.Proofs.YthmhdaefkhcenaaGreatDoor
namespace Go.Proofs.YthmhdaefkhcenaaGreatDoor
set_option maxRecDepth 100000
set_option maxHeartbeats 8000000
open Go.RowKit Go.Lib Go.MapKept

theorem keep_much (k d l bb m ib gb lo : Nat) (sid ds : Int) (n r t : Nat) (R : List Ref) (ks : List Nat) (id day : Int) (ab ac x : Nat) (v1 v2 v3 v4 v5 v6 v7 v10 v11 : Value) (hR : RefsOk sid ds n r t R) (hid0 : 1 ≤ id) (hid1 : id ≤ 1099511627775) (hdy : day ≤ 3652058) (hx0 : x ≠ 0) (hxm : x ≤ 2147483648) (hbig : n < backs R + x) (hnew : id ∉ sid :: R.map (·.id)) (hds : ds ≤ day) (w : World) (hK : Block w k 100 [.pointer (some ⟨d, 0, none⟩), v1, v2, v3, v4, v5, v6, v7, .pointer (some ⟨l, 0, none⟩), .pointer (some ⟨bb, 0, none⟩), v10, v11])
    (hBk : BookAt w bb m ib gb lo sid ds n r t R ks) (hA : Has w ab [.int .i64 x]) :
    Calls Tryz.prog 22 #[.pointer (some ⟨k, 0, none⟩), .agg (refC id sid day ab ac).toArray] w fun e w' => e = .returned (.tuple #[.slice none 0 0, .int .i64 5]) ∧ Below w.heap.size w w' := by
  have := hR.s0; have := hR.s1; have := hR.d0; have := hR.d1; have := hR.n0; have := hR.n1; have := hR.r1; have := hR.t1; have := hR.sum; have := hR.few
  have hnd := hR.nodup
  simp only [refC]
  go_enter Tryz.func22, Tryz.ntmps22
  go_upto_region 1 with (fail)
  refine at_code (fun W => Below w.heap.size w W ∧ Block W w.heap.size 88 [.int .i64 2, .int .i64 id, .int .i64 sid, .int .i64 day, .slice (some ⟨ab, 0, none⟩) 1 ac, .slice none 0 0]) ⟨by exact sBel, btop rfl⟩ ?_
  rintro w1 ⟨bel1, E1⟩
  have K1 := hK.call bel1
  have K1p := K1
  have E1p := E1
  obtain ⟨kl, kf, k0, k1, k2, k3, k4, k5, k6, k7, k8, k9, k10, k11⟩ := K1p.c12
  obtain ⟨xl, xf, x0, x1, x2, x3, x4, x5⟩ := E1p.c6
  refine AnyBut.region (S := fun w' => w'.cell? ⟨k, 9, none⟩ = some (.pointer (some ⟨bb, 0, none⟩)) ∧ w'.cell? ⟨w.heap.size, 0, none⟩ = some (.int .i64 2) ∧ w'.cell? ⟨w.heap.size, 1, none⟩ = some (.int .i64 id) ∧ w'.cell? ⟨w.heap.size, 2, none⟩ = some (.int .i64 sid) ∧ w'.cell? ⟨w.heap.size, 3, none⟩ = some (.int .i64 day) ∧ w'.cell? ⟨w.heap.size, 4, none⟩ = some (.slice (some ⟨ab, 0, none⟩) 1 ac) ∧ w'.cell? ⟨w.heap.size, 5, none⟩ = some (.slice none 0 0)) (t := 99) 7 rfl (by kernel_rfl) ⟨k9, x0, x1, x2, x3, x4, x5⟩ ?_
  intro hS
  refine AnyBut.tk0 0 hS rfl (h := ?_); refine AnyBut.tk0 1 hS rfl (h := ?_); refine AnyBut.tk0 2 hS rfl (h := ?_); refine AnyBut.tk0 3 hS rfl (h := ?_); refine AnyBut.tk0 4 hS rfl (h := ?_)
  clear hS
  refine AnyBut.one (i := 5) rfl (by kernel_rfl) rfl ?_; intro K' hKK
  go_wp2_with fail
  have bel1d : Below w.heap.size w w1.drew := Below.drew bel1
  refine (bk_may bb m ib gb lo sid ds n r t R ks id day ab ac x (by omega) (by omega) (by omega) (by omega) (by omega) (by omega) hx0 (by omega) (by omega) (by omega) _ (hBk.call bel1d) hnew hnd (hA.call bel1d) hds true (by simp; omega)).mono ?_
  rintro e w2 ⟨rfl, hb2⟩
  have bel2 := bel_call bel1d hb2
  have K2 := hK.call bel2
  have E2 := E1.drew.call hb2
  clear k0 k1 k2 k3 k4 k5 k6 k7 k8 k9 k10 k11 kl kf x0 x1 x2 x3 x4 x5 xl xf K1p E1p
  have K2p := K2
  have E2p := E2
  obtain ⟨kl, kf, k0, k1, k2, k3, k4, k5, k6, k7, k8, k9, k10, k11⟩ := K2p.c12
  obtain ⟨xl, xf, x0, x1, x2, x3, x4, x5⟩ := E2p.c6
  refine hKK _ _ ⟨k9, x0, x1, x2, x3, x4, x5⟩ ?_
  intro hS
  clear hKK K'
  (refine AnyBut.one (i := 6) rfl (by kernel_rfl) rfl ?_; intro K hK; go_simp; refine hK _ _ hS ?_; clear hK K; intro _)
  clear hS
  refine AnyBut.done (by kernel_rfl) ?_
  go_wp2_with fail
  go_returns
  exact ⟨by first | rfl | simp, bel2⟩
def KeptRefR (d md f g l bb m ib gb lo : Nat) (sid ds : Int) (n r t : Nat) (R : List Ref) (ks : List Nat) (id day : Int) (x : Nat) (w : World) (e : Ending) (w' : World) : Prop := ∃ q c' ib2 kr, e = .returned (.tuple #[.slice (some ⟨q, 0, none⟩) 1 c', .int .i64 0]) ∧ 1 ≤ c' ∧ Has w' q (tlV x r (backF t n (backs R) (backs R + x))) ∧ w.heap.size ≤ q ∧ (ib2 = ib ∨ w.heap.size ≤ ib2) ∧ BookAt w' bb m ib2 gb lo sid ds n r t (R ++ [⟨id, day, x⟩]) (ks ++ [kr]) ∧
  DiskAt w' d md (fs3 f g) 3 ∧ File w' f (framesL (recsOf sid ds n r t (R ++ [⟨id, day, x⟩]))) ∧ LedAt w' l d ∧ Kept [d, md, f, l, bb, m, ib, gb] w w'
theorem keep_ref (k d md f g l bb m ib gb lo : Nat) (sid ds : Int) (n r t : Nat) (R : List Ref) (ks : List Nat) (id day : Int) (ab ac x : Nat) (v1 v2 v3 v4 v5 v6 v7 v10 v11 : Value) (hR : RefsOk sid ds n r t R) (hR2 : RefsOk sid ds n r t (R ++ [⟨id, day, x⟩])) (w : World) (hK : Block w k 100 [.pointer (some ⟨d, 0, none⟩), v1, v2, v3, v4, v5, v6, v7, .pointer (some ⟨l, 0, none⟩), .pointer (some ⟨bb, 0, none⟩), v10, v11])
    (hD : DiskAt w d md (fs3 f g) 3) (hF : File w f (framesL (recsOf sid ds n r t R))) (hfl : (framesL (recsOf sid ds n r t R)).length ≤ 400000) (hL : LedAt w l d) (hBk : BookAt w bb m ib gb lo sid ds n r t R ks) (hmm : m ≠ md) (low : d < lo ∧ md < lo ∧ f < lo ∧ l < lo ∧ k < lo ∧ bb < lo ∧ m < lo) (hA : Has w ab [.int .i64 x]) :
    Calls Tryz.prog 22 #[.pointer (some ⟨k, 0, none⟩), .agg (refC id sid day ab ac).toArray] w (KeptRefR d md f g l bb m ib gb lo sid ds n r t R ks id day x w) := by
  have := hR.s0; have := hR.s1; have := hR.d0; have := hR.d1; have := hR.n0; have := hR.n1; have := hR.r1; have := hR.t1; have := hR.few
  have he := hR2.each ⟨id, day, x⟩ (by simp)
  have hsum := hR2.sum
  rw [backs_snoc] at hsum
  dsimp only at he hsum
  have hid0 := he.1
  have hid1 := he.2.1
  have hds := he.2.2.1
  have hdy := he.2.2.2.1
  have hx0 := he.2.2.2.2
  have hnd2 := hR2.nodup
  rw [List.map_append, ← List.cons_append] at hnd2
  have hnd3 := List.nodup_append.1 hnd2
  have hnd := hnd3.1
  have hnew : id ∉ sid :: R.map (·.id) := fun hm => hnd3.2.2 _ hm _ (by simp) rfl
  obtain ⟨bic, hBb⟩ : ∃ bic, Block w bb 137 [.slice (some ⟨ib, 0, none⟩) (R.length + 1) bic, .map (some m)] := by
    obtain ⟨_, ⟨_, ic, _, _, _, _, b1, _⟩, _⟩ := hBk
    exact ⟨ic, b1⟩
  obtain ⟨mes, mcl, hMm⟩ : ∃ es cl, MapAt w m es cl := by
    obtain ⟨_, ⟨_, _, _, _, _, _, _, _, b3, _⟩, _⟩ := hBk
    exact ⟨_, _, b3⟩
  have hkb : k ≠ bb := hK.ne_type hBb (by decide)
  have hkmm : k ≠ m := hK.ne_map hMm
  have hbd : bb ≠ d := by
    obtain ⟨⟨st, h⟩, _⟩ := hD
    exact hBb.ne_type h (by decide)
  have hbm : bb ≠ md := hBb.ne_map hD.2
  have hbf : bb ≠ f := (hF.ne hBb (by decide)).symm
  have hbl : bb ≠ l := by
    obtain ⟨_, _, h⟩ := hL
    exact hBb.ne_type h (by decide)
  have hmd : m ≠ d := by
    obtain ⟨⟨st, h⟩, _⟩ := hD
    exact (h.ne_map hMm).symm
  have hmf : m ≠ f := (hF.ne_map hMm).symm
  have hml : m ≠ l := by
    obtain ⟨_, _, h⟩ := hL
    exact (h.ne_map hMm).symm
  simp only [refC]
  have hkd : k ≠ d := by
    obtain ⟨⟨st, h⟩, _⟩ := hD
    exact hK.ne_type h (by decide)
  have hkm : k ≠ md := hK.ne_map hD.2
  have hkf : k ≠ f := (hF.ne hK (by decide)).symm
  have hkl : k ≠ l := by
    obtain ⟨_, _, h⟩ := hL
    exact hK.ne_type h (by decide)
  have had : ab ≠ d := by
    obtain ⟨⟨st, h⟩, _⟩ := hD
    exact has_ne_block h hA (by simp)
  have ham : ab ≠ md := hA.ne_map hD.2
  have haf : ab ≠ f := by
    obtain ⟨sv, h, h2⟩ := hF
    refine has_ne_block h hA ?_
    rcases h2 with ⟨rfl, _⟩ | ⟨_, _, rfl, _⟩ <;> simp
  have hal : ab ≠ l := by
    obtain ⟨_, _, h⟩ := hL
    exact has_ne_block h hA (by simp)
  have hlow := low
  have hbt := hBk.lt
  have zd := hD.lt
  have zf := hF.lt
  have zl := hL.lt
  have zk := hK.lt
  have hrec := (refs_recs hR2) (bytesOf (refL id sid day x)) (by simp [recsOf])
  go_enter Tryz.func22, Tryz.ntmps22
  go_upto_region 1 with (fail)
  refine at_code (fun W => Below w.heap.size w W ∧ Block W w.heap.size 88 [.int .i64 2, .int .i64 id, .int .i64 sid, .int .i64 day, .slice (some ⟨ab, 0, none⟩) 1 ac, .slice none 0 0]) ⟨by exact sBel, btop rfl⟩ ?_
  rintro w1 ⟨bel1, E1⟩
  have K1 := hK.call bel1
  have K1p := K1
  have E1p := E1
  obtain ⟨kl, kf, k0, k1, k2, k3, k4, k5, k6, k7, k8, k9, k10, k11⟩ := K1p.c12
  obtain ⟨xl, xf, x0, x1, x2, x3, x4, x5⟩ := E1p.c6
  refine AnyBut.region (S := fun w' => w'.cell? ⟨k, 9, none⟩ = some (.pointer (some ⟨bb, 0, none⟩)) ∧ w'.cell? ⟨w.heap.size, 0, none⟩ = some (.int .i64 2) ∧ w'.cell? ⟨w.heap.size, 1, none⟩ = some (.int .i64 id) ∧ w'.cell? ⟨w.heap.size, 2, none⟩ = some (.int .i64 sid) ∧ w'.cell? ⟨w.heap.size, 3, none⟩ = some (.int .i64 day) ∧ w'.cell? ⟨w.heap.size, 4, none⟩ = some (.slice (some ⟨ab, 0, none⟩) 1 ac) ∧ w'.cell? ⟨w.heap.size, 5, none⟩ = some (.slice none 0 0)) (t := 99) 7 rfl (by kernel_rfl) ⟨k9, x0, x1, x2, x3, x4, x5⟩ ?_
  intro hS
  refine AnyBut.tk0 0 hS rfl (h := ?_); refine AnyBut.tk0 1 hS rfl (h := ?_); refine AnyBut.tk0 2 hS rfl (h := ?_); refine AnyBut.tk0 3 hS rfl (h := ?_); refine AnyBut.tk0 4 hS rfl (h := ?_)
  clear hS
  refine AnyBut.one (i := 5) rfl (by kernel_rfl) rfl ?_; intro K' hKK
  go_wp2_with fail
  have bel1d : Below w.heap.size w w1.drew := Below.drew bel1
  refine (bk_may bb m ib gb lo sid ds n r t R ks id day ab ac x (by omega) (by omega) (by omega) (by omega) (by omega) (by omega) hx0 (by omega) (by omega) (by omega) _ (hBk.call bel1d) hnew hnd (hA.call bel1d) hds false (by simp; omega)).mono ?_
  rintro e w2 ⟨rfl, hb2⟩
  have bel2 := bel_call bel1d hb2
  have K2 := hK.call bel2
  have E2 := E1.drew.call hb2
  clear k0 k1 k2 k3 k4 k5 k6 k7 k8 k9 k10 k11 kl kf x0 x1 x2 x3 x4 x5 xl xf K1p E1p
  have K2p := K2
  have E2p := E2
  obtain ⟨kl, kf, k0, k1, k2, k3, k4, k5, k6, k7, k8, k9, k10, k11⟩ := K2p.c12
  obtain ⟨xl, xf, x0, x1, x2, x3, x4, x5⟩ := E2p.c6
  refine hKK _ _ ⟨k9, x0, x1, x2, x3, x4, x5⟩ ?_
  intro hS
  clear hKK K'
  (refine AnyBut.one (i := 6) rfl (by kernel_rfl) rfl ?_; intro K hK; go_simp; refine hK _ _ hS ?_; clear hK K; intro _)
  clear hS
  refine AnyBut.done (by kernel_rfl) ?_
  go_wp2_with fail
  refine (bytes_ref id sid day ab ac x (by omega) (by omega) (by omega) (by omega) (by omega) (by omega) hx0 (by omega) w2 (hA.call bel2)).mono ?_
  rintro e w3 ⟨A, c, rfl, O3, hb3⟩
  have bel3 := bel_call bel2 hb3
  have K3 := hK.call bel3
  have E3 := E2.call hb3
  clear k0 k1 k2 k3 k4 k5 k6 k7 k8 k9 k10 k11 kl kf x0 x1 x2 x3 x4 x5 xl xf K2p E2p
  have K3p := K3
  have E3p := E3
  obtain ⟨kl, kf, k0, k1, k2, k3, k4, k5, k6, k7, k8, k9, k10, k11⟩ := K3p.c12
  obtain ⟨xl, xf, x0, x1, x2, x3, x4, x5⟩ := E3p.c6
  go_wp2_with fail
  refine (add_led d md f g l A _ c (framesL (recsOf sid ds n r t R)) (bytesOf (refL id sid day x)) w3 (hD.call bel3) (hF.call bel3) (hL.call bel3) (Shows.of_own O3) hrec.1 hrec.2.1 hrec.2.2 (hfl)).mono ?_
  rintro e w4 ⟨rfl, D4, F4, L4, kp4⟩
  have z3 := bel3.size
  have z4 := kp4.size
  have kw4 : Kept [d, md, f, l] w w4 := (Kept.of_below bel3).trans kp4 (by simp)
  have K4 := hK.keptX kw4 (by simp; exact ⟨hkd, hkm, hkf, hkl⟩)
  have E4 := E3.keptX kp4 (by simp; omega)
  have A4 := hA.keptX kw4 (by simp; exact ⟨had, ham, haf, hal⟩)
  have B4 := hBk.keptX kw4 (by simp; omega) (by simp; exact ⟨hbd, hbm, hbf, hbl⟩) (by simp; exact ⟨hmd, hmm, hmf, hml⟩)
  clear k0 k1 k2 k3 k4 k5 k6 k7 k8 k9 k10 k11 kl kf x0 x1 x2 x3 x4 x5 xl xf K3p E3p
  have K4p := K4
  have E4p := E4
  obtain ⟨kl, kf, k0, k1, k2, k3, k4, k5, k6, k7, k8, k9, k10, k11⟩ := K4p.c12
  obtain ⟨xl, xf, x0, x1, x2, x3, x4, x5⟩ := E4p.c6
  go_upto_region 15 with (fail)
  refine AnyBut.region (S := fun w' => w'.cell? ⟨k, 9, none⟩ = some (.pointer (some ⟨bb, 0, none⟩)) ∧ w'.cell? ⟨w.heap.size, 0, none⟩ = some (.int .i64 2) ∧ w'.cell? ⟨w.heap.size, 1, none⟩ = some (.int .i64 id) ∧ w'.cell? ⟨w.heap.size, 2, none⟩ = some (.int .i64 sid) ∧ w'.cell? ⟨w.heap.size, 3, none⟩ = some (.int .i64 day) ∧ w'.cell? ⟨w.heap.size, 4, none⟩ = some (.slice (some ⟨ab, 0, none⟩) 1 ac) ∧ w'.cell? ⟨w.heap.size, 5, none⟩ = some (.slice none 0 0)) (t := 99) 10 rfl (by kernel_rfl) ⟨k9, x0, x1, x2, x3, x4, x5⟩ ?_
  intro hS
  refine AnyBut.tk0 0 hS rfl (h := ?_); refine AnyBut.tk0 1 hS rfl (h := ?_); refine AnyBut.tk0 2 hS rfl (h := ?_); refine AnyBut.tk0 3 hS rfl (h := ?_); refine AnyBut.tk0 4 hS rfl (h := ?_)
  clear hS
  refine AnyBut.one (i := 5) rfl (by kernel_rfl) rfl ?_; intro K' hKK
  go_wp2_with fail
  have bd : Below w4.heap.size w4 w4.drew := Below.drew (Below.refl _ _)
  refine (bk_ref bb m ib gb lo sid ds n r t R ks id day ab ac x (by omega) (by omega) (by omega) (by omega) (by omega) (by omega) hx0 (by omega) (by omega) (by omega) (by omega) (by omega) w4.drew (B4.call bd) (by omega) hnew hnd A4 hds).mono ?_
  rintro e w5 ⟨q, c', ib2, kr, rfl, hc, hq, hq0, hib, hbk, kp5⟩
  have hX5 : ∀ h, h ≠ bb → h ≠ m → h ≠ ib → h ≠ gb → h ∉ [bb, m, ib, gb] := fun h h1 h2 h3 h4 => by simp; exact ⟨h1, h2, h3, h4⟩
  have hgl := hBk.glo
  have K5 := K4.drew.keptX kp5 (hX5 _ hkb hkmm (by omega) (by omega))
  have E5 := E4.drew.keptX kp5 (hX5 _ (by omega) (by omega) (by omega) (by omega))
  clear k0 k1 k2 k3 k4 k5 k6 k7 k8 k9 k10 k11 kl kf x0 x1 x2 x3 x4 x5 xl xf K4p E4p
  have K5p := K5
  have E5p := E5
  obtain ⟨kl, kf, k0, k1, k2, k3, k4, k5, k6, k7, k8, k9, k10, k11⟩ := K5p.c12
  obtain ⟨xl, xf, x0, x1, x2, x3, x4, x5⟩ := E5p.c6
  refine hKK _ _ ⟨k9, x0, x1, x2, x3, x4, x5⟩ ?_
  intro hS
  clear hKK K'
  refine AnyBut.tk0 6 hS rfl (h := ?_); refine AnyBut.tk0 7 hS rfl (h := ?_); refine AnyBut.tk0 8 hS rfl (h := ?_); refine AnyBut.tk0 9 hS rfl (h := ?_)
  clear hS
  refine AnyBut.done (by kernel_rfl) ?_
  go_wp2_with fail
  go_returns
  have kw5 : Kept [d, md, f, l, bb, m, ib, gb] w w5 := ((kw4.mono (by simp)).drew).trans kp5 (by simp)
  refine ⟨q, c', ib2, kr, by first | rfl | simp, hc, hq, Nat.le_trans (Nat.le_trans z3 z4) hq0, hib.imp (fun h => h) (fun h => Nat.le_trans (Nat.le_trans z3 z4) h), hbk, (D4.call bd).keptX kp5 (hX5 _ hbd.symm hmd.symm (by omega) (by omega)) (hX5 _ hbm.symm hmm.symm (by omega) (by omega)), ?_, (L4.call bd).keptX kp5 (hX5 _ hbl.symm hml.symm (by omega) (by omega)), kw5⟩
  have F5 := ((F4.keptX (Kept.of_below (X := []) bd) (by simp) (by simp)).keptX kp5 (hX5 _ hbf.symm hmf.symm (by omega) (by omega)) (by simp; omega)).file
  have e1 : framesL (recsOf sid ds n r t (R ++ [⟨id, day, x⟩])) = framesL (recsOf sid ds n r t R) ++ frameL (bytesOf (refL id sid day x)) := by
    rw [show recsOf sid ds n r t (R ++ [(⟨id, day, x⟩ : Ref)]) = recsOf sid ds n r t R ++ [bytesOf (refL id sid day x)] by simp [recsOf], framesL_app, framesL_one]
  rw [e1]
  exact F5
end Go.Proofs.YthmhdaefkhcenaaGreatDoor
