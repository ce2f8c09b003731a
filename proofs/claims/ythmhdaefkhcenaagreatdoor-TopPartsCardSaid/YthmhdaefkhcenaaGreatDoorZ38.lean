/- Lemmas for it; no condition: TLed2 TLed3. -/
import Derived.Test.YthmhdaefkhcenaaGreatDoorZ08
import Derived.Test.YthmhdaefkhcenaaGreatDoorZ31
import Derived.Test.YthmhdaefkhcenaaGreatDoorZ33
set_option linter.unusedVariables false
set_option linter.unusedSimpArgs false
namespace Go.Proofs.YthmhdaefkhcenaaGreatDoor
set_option maxRecDepth 100000
set_option maxHeartbeats 8000000
open Go.RowKit Go.Lib Go.MapKept

theorem o1_fresh (x0 x1 x2 x3 d md : Nat) (w : World) (h0 : w.cell? ⟨x0, 0, none⟩ = some (.bool true)) (h1 : w.cell? ⟨x1, 0, none⟩ = some (.pointer (some ⟨d, 0, none⟩))) (h2 : w.cell? ⟨x2, 0, none⟩ = some (.string ⟨#[108, 111, 103]⟩)) (hD : DiskAt w d md [] 0) :
    Calls Tryz.prog 116 #[.pointer (some ⟨x0, 0, none⟩), .pointer (some ⟨x1, 0, none⟩), .pointer (some ⟨x2, 0, none⟩), .pointer (some ⟨x3, 0, none⟩)] w fun e w' => e = .returned (.int .i64 0) ∧ ∃ f, w.heap.size ≤ f ∧ DiskAt w' d md (fs1 f) 1 ∧ File w' f [] ∧ Kept [d, md] w w' := by
  go_enter Tryz.func116, Tryz.ntmps116
  go_wp2_with fail
  refine (append_none d md 0 [] _ w hD named_log (find0 _) (by simp)).mono ?_
  rintro e w1 ⟨rfl, f, hf, D1, F1, kp⟩
  go_wp2_with fail
  go_returns
  exact ⟨by first | rfl | simp, f, hf, D1, F1, kp⟩
theorem o1_old (x0 x1 x2 x3 : Nat) (w : World) (h0 : w.cell? ⟨x0, 0, none⟩ = some (.bool false)) (h1 : w.cell? ⟨x3, 0, none⟩ = some (.int .i64 0)) :
    Calls Tryz.prog 116 #[.pointer (some ⟨x0, 0, none⟩), .pointer (some ⟨x1, 0, none⟩), .pointer (some ⟨x2, 0, none⟩), .pointer (some ⟨x3, 0, none⟩)] w fun e w' => e = .returned (.int .i64 0) ∧ Below w.heap.size w w' := by
  go_enter Tryz.func116, Tryz.ntmps116
  go_wp2_with fail
  go_returns
  exact ⟨by first | rfl | simp, by exact sBel⟩
theorem o2_any (x0 x1 x2 x3 : Nat) (w : World) (h0 : w.cell? ⟨x0, 0, none⟩ = some (.int .i64 0)) :
    Calls Tryz.prog 117 #[.pointer (some ⟨x0, 0, none⟩), .pointer (some ⟨x1, 0, none⟩), .pointer (some ⟨x2, 0, none⟩), .pointer (some ⟨x3, 0, none⟩)] w fun e w' => e = .returned (.int .i64 0) ∧ Below w.heap.size w w' := by
  go_enter Tryz.func117, Tryz.ntmps117
  go_wp2_with fail
  go_returns
  exact ⟨by first | rfl | simp, by exact sBel⟩
theorem o3_nil (x0 x1 d md f : Nat) (w : World) (h0 : w.cell? ⟨x0, 0, none⟩ = some (.pointer (some ⟨d, 0, none⟩))) (h1 : w.cell? ⟨x1, 0, none⟩ = some (.string ⟨#[108, 111, 103]⟩)) (hD : DiskAt w d md (fs1 f) 1) (hF : File w f []) :
    Calls Tryz.prog 119 #[.pointer (some ⟨x0, 0, none⟩), .pointer (some ⟨x1, 0, none⟩)] w fun e w' => e = .returned (.int .i64 0) ∧ DiskAt w' d md (fs1 f) 1 ∧ File w' f [] ∧ Kept [d, f] w w' := by
  go_enter Tryz.func119, Tryz.ntmps119
  go_wp2_with fail
  refine (sync_nil d md f 0 1 _ _ w hD (find1_log f) hF).mono ?_
  rintro e w1 ⟨rfl, D1, F1, kp⟩
  go_wp2_with fail
  go_returns
  exact ⟨by first | rfl | simp, D1, F1, kp⟩
theorem o3_file (x0 x1 d md f g : Nat) (xs : List Int) (w : World) (h0 : w.cell? ⟨x0, 0, none⟩ = some (.pointer (some ⟨d, 0, none⟩))) (h1 : w.cell? ⟨x1, 0, none⟩ = some (.string ⟨#[108, 111, 103]⟩)) (hD : DiskAt w d md (fs3 f g) 3) (hF : File w f xs) (l0 : 0 < xs.length) (l1 : xs.length ≤ 1000000) :
    Calls Tryz.prog 119 #[.pointer (some ⟨x0, 0, none⟩), .pointer (some ⟨x1, 0, none⟩)] w fun e w' => e = .returned (.int .i64 0) ∧ DiskAt w' d md (fs3 f g) 3 ∧ File w' f xs ∧ Kept [d, f] w w' := by
  go_enter Tryz.func119, Tryz.ntmps119
  go_wp2_with fail
  refine (sync_file d md f 0 3 _ _ xs w hD (find3_log f g) hF l0 l1).mono ?_
  rintro e w1 ⟨rfl, D1, F1, kp⟩
  go_wp2_with fail
  go_returns
  exact ⟨by first | rfl | simp, D1, F1, kp⟩
theorem open_fresh (d md : Nat) (w : World) (hD : DiskAt w d md [] 0) :
    Calls Tryz.prog 58 #[.pointer (some ⟨d, 0, none⟩), (.string ⟨#[108, 111, 103]⟩)] w fun e w' => ∃ l f, e = .returned (.tuple #[.pointer (some ⟨l, 0, none⟩), .slice none 0 0, .int .i64 0]) ∧ w.heap.size ≤ l ∧ w.heap.size ≤ f ∧ DiskAt w' d md (fs1 f) 1 ∧ File w' f [] ∧ LedAt w' l d ∧ Kept [d, md] w w' := by
  go_enter Tryz.func58, Tryz.ntmps58
  go_wp2_with fail
  refine (read_none d md 0 [] _ _ (hD.call (by exact sBel)) (find0 _)).mono ?_
  rintro e w1 ⟨rfl, hb1⟩
  have bel1 : Below w.heap.size w w1 := bel_call (by exact sBel) hb1
  have X0 : Block w1 w.heap.size 24 [.pointer (some ⟨d, 0, none⟩)] := Block.call (by exact sBlk) hb1
  have X1 : Block w1 (w.heap.size + 1) 9 [(.string ⟨#[108, 111, 103]⟩)] := Block.call (by exact sBlk) hb1
  have X2 : Block w1 (w.heap.size + 1 + 1) 3 [.int .i64 0] := Block.call (by exact sBlk) hb1
  have X3 : Block w1 (w.heap.size + 1 + 1 + 1) 3 [.int .i64 0] := Block.call (by exact sBlk) hb1
  have hmf : ∀ (fn : Fn) (first cap : Array Value) (w : World), (Instr.makeFunc fn first cap).run Tryz.prog w = .ok (.func fn first cap) w := fun _ _ _ _ => rfl
  clear hb1
  have X0p := X0
  have X1p := X1
  obtain ⟨al, af, a0⟩ := X0p.c1
  obtain ⟨bl, bf, b0⟩ := X1p.c1
  have zx := X3.lt
  go_wp2_with fail
  refine wp_loop_rounds 4 ?_
  refine at_code (fun W => Below w.heap.size w W ∧ Block W w.heap.size 24 [.pointer (some ⟨d, 0, none⟩)] ∧ Block W (w.heap.size + 1) 9 [(.string ⟨#[108, 111, 103]⟩)] ∧ Block W (w.heap.size + 1 + 1) 3 [.int .i64 0] ∧ Block W (w.heap.size + 1 + 1 + 1) 3 [.int .i64 0] ∧ Block W (w1.heap.size + 1) 4 [.bool true] ∧ Has W (w1.heap.size + 1 + 1) [.func (.func 116) #[] #[.pointer (some ⟨w1.heap.size + 1, 0, none⟩), .pointer (some ⟨w.heap.size, 0, none⟩), .pointer (some ⟨w.heap.size + 1, 0, none⟩), .pointer (some ⟨w1.heap.size, 0, none⟩)], .func (.func 117) #[] #[.pointer (some ⟨w.heap.size + 1 + 1 + 1, 0, none⟩), .pointer (some ⟨w.heap.size, 0, none⟩), .pointer (some ⟨w.heap.size + 1, 0, none⟩), .pointer (some ⟨w.heap.size + 1 + 1, 0, none⟩)], .func (.func 119) #[] #[.pointer (some ⟨w.heap.size, 0, none⟩), .pointer (some ⟨w.heap.size + 1, 0, none⟩)]]) ⟨by exact sBel, by exact sBlk, by exact sBlk, by exact sBlk, by exact sBlk, by exact sBlk, Has.of_block (btop (by simp))⟩ ?_
  clear X0 X1 X2 X3 X0p X1p a0 al af b0 bl bf
  rintro w2 ⟨bel2, Y0, Y1, Y2, Y3, YB, YF⟩
  have Y0p := Y0
  have Y1p := Y1
  have YFp := YF
  have zf := YF.lt
  obtain ⟨al, af, a0⟩ := Y0p.c1
  obtain ⟨bl, bf, b0⟩ := Y1p.c1
  have ql := YFp.lt; have q0 := YFp.cell (j := 0) rfl; have q1 := YFp.cell (j := 1) rfl; have q2 := YFp.cell (j := 2) rfl
  go_wp2_with fail
  refine (o1_fresh _ _ _ _ d md w2 (YB.cell 0) a0 b0 (hD.call bel2)).mono ?_
  rintro e w3 ⟨rfl, f, hf, D3, F3, kp3⟩
  have zd := hD.lt
  have Z0 := Y0.keptX kp3 (by simp; omega)
  have Z1 := Y1.keptX kp3 (by simp; omega)
  have Z2 := Y2.keptX kp3 (by simp; omega)
  have Z3 := Y3.keptX kp3 (by simp; omega)
  have ZF := YF.keptX kp3 (by simp; omega)
  have z2 := bel2.size
  have z3 := kp3.size
  clear a0 al af b0 bl bf q0 q1 q2 ql Y0p Y1p YFp
  have Z3p := Z3
  have ZFp := ZF
  obtain ⟨al, af, a0⟩ := Z3p.c1
  have ql := ZFp.lt; have q0 := ZFp.cell (j := 0) rfl; have q1 := ZFp.cell (j := 1) rfl; have q2 := ZFp.cell (j := 2) rfl
  go_wp2_with fail
  rw [rounds_succ]
  go_wp2_with fail
  refine (o2_any _ _ _ _ w3 a0).mono ?_
  rintro e w4 ⟨rfl, hb4⟩
  have V0 := Z0.call hb4
  have V1 := Z1.call hb4
  have V2 := Z2.call hb4
  have VF := ZF.call hb4
  have D4 := D3.call hb4
  have F4 := F3.call hb4
  clear a0 al af q0 q1 q2 ql Z3p ZFp
  have V0p := V0
  have V1p := V1
  have VFp := VF
  obtain ⟨al, af, a0⟩ := V0p.c1
  obtain ⟨bl, bf, b0⟩ := V1p.c1
  have ql := VFp.lt; have q0 := VFp.cell (j := 0) rfl; have q1 := VFp.cell (j := 1) rfl; have q2 := VFp.cell (j := 2) rfl
  go_wp2_with fail
  rw [rounds_succ]
  go_wp2_with fail
  refine (o3_nil _ _ d md f w4 a0 b0 D4 F4).mono ?_
  rintro e w5 ⟨rfl, D5, F5, kp5⟩
  have z4 := hb4.size
  have U0 := V0.keptX kp5 (by simp; omega)
  have U1 := V1.keptX kp5 (by simp; omega)
  have U2 := V2.keptX kp5 (by simp; omega)
  have UF := VF.keptX kp5 (by simp; omega)
  clear a0 al af b0 bl bf q0 q1 q2 ql V0p V1p VFp
  have U0p := U0
  have U1p := U1
  have U2p := U2
  have UFp := UF
  obtain ⟨al, af, a0⟩ := U0p.c1
  obtain ⟨bl, bf, b0⟩ := U1p.c1
  obtain ⟨xl, xf, x0⟩ := U2p.c1
  have ql := UFp.lt; have q0 := UFp.cell (j := 0) rfl; have q1 := UFp.cell (j := 1) rfl; have q2 := UFp.cell (j := 2) rfl
  go_wp2_with fail
  rw [rounds_succ]
  go_wp2_with fail
  go_returns
  have z5 := kp5.size
  refine ⟨w5.heap.size, f, by first | rfl | simp, by omega, by omega, D5.call (by exact sBel), F5.call (by exact sBel), ⟨_, _, btop (by simp)⟩, ?_⟩
  exact (((((Kept.of_below (X := [d, md]) bel2).trans kp3 (by simp)).behind hb4).trans kp5 (by simp; right; omega)).alloc _)
theorem RowsAt.keptX {W W' : World} {lo : Nat} {X : List Nat} {v : Value} {L : List (List Int)} (h : RowsAt W lo v L) (h0 : 0 < L.length) (hK : Kept X W W') (hX : ∀ k ∈ X, k < lo) : RowsAt W' lo v L := by
  obtain ⟨cs, hO, hc⟩ := h
  obtain ⟨A, c, rfl, _⟩ := own_form hO
  obtain ⟨g, rfl, hg, _, _⟩ := own_has hO h0
  refine ⟨cs, own_kept hO hK (fun hm => by have := hX _ hm; omega), fun j r hj => ?_⟩
  obtain ⟨h0, g, c, h1, h2, h3, h4⟩ := hc j r hj
  exact ⟨h0, g, c, h1, h2, h3, h4.keptX hK (fun hm => by have := hX _ hm; omega)⟩
theorem RowsAt.low {W : World} {lo lo' : Nat} {v : Value} {L : List (List Int)} (h : RowsAt W lo v L) (hl : lo' ≤ lo) : RowsAt W lo' v L := by
  obtain ⟨cs, hO, hc⟩ := h
  refine ⟨cs, own_base hO hl, fun j r hj => ?_⟩
  obtain ⟨h0, g, c, h1, h2, h3, h4⟩ := hc j r hj
  exact ⟨h0, g, c, h1, by omega, h3, h4⟩
def RecsOk (L : List (List Int)) : Prop := ∀ r ∈ L, (∀ x ∈ r, 0 ≤ x ∧ x ≤ 255) ∧ 0 < r.length ∧ r.length ≤ 60000
end Go.Proofs.YthmhdaefkhcenaaGreatDoor
namespace Go.Proofs.YthmhdaefkhcenaaGreatDoor
open Go.RowKit Go.Lib Go.MapKept

set_option maxRecDepth 100000 in
set_option maxHeartbeats 8000000 in
theorem open_old (d md f g : Nat) (L : List (List Int)) (w : World) (hD : DiskAt w d md (fs3 f g) 3) (hF : File w f (framesL L)) (hL : RecsOk L) (h0 : 0 < L.length) (hLn : L.length ≤ 1000) (l0 : 0 < (framesL L).length) (l1 : (framesL L).length ≤ 1000000) :
    Calls Tryz.prog 58 #[.pointer (some ⟨d, 0, none⟩), (.string ⟨#[108, 111, 103]⟩)] w fun e w' => ∃ l v, e = .returned (.tuple #[.pointer (some ⟨l, 0, none⟩), v, .int .i64 0]) ∧ w.heap.size ≤ l ∧ DiskAt w' d md (fs3 f g) 3 ∧ File w' f (framesL L) ∧ LedAt w' l d ∧ RowsAt w' w.heap.size v L ∧ Kept [d, f] w w' := by
  go_enter Tryz.func58, Tryz.ntmps58
  go_wp2_with fail
  refine (read_file d md f 0 3 _ _ _ _ (hD.call (by exact sBel)) (find3_log f g) (hF.call (by exact sBel)) l1).mono ?_
  rintro e w1 ⟨A1, c1, rfl, O1, hb1⟩
  have bel1 : Below w.heap.size w w1 := bel_call (by exact sBel) hb1
  have X0 : Block w1 w.heap.size 24 [.pointer (some ⟨d, 0, none⟩)] := Block.call (by exact sBlk) hb1
  have X1 : Block w1 (w.heap.size + 1) 9 [(.string ⟨#[108, 111, 103]⟩)] := Block.call (by exact sBlk) hb1
  have X2 : Block w1 (w.heap.size + 1 + 1) 3 [.int .i64 0] := Block.call (by exact sBlk) hb1
  have X3 : Block w1 (w.heap.size + 1 + 1 + 1) 3 [.int .i64 0] := Block.call (by exact sBlk) hb1
  have hmf : ∀ (fn : Fn) (first cap : Array Value) (w : World), (Instr.makeFunc fn first cap).run Tryz.prog w = .ok (.func fn first cap) w := fun _ _ _ _ => rfl
  clear hb1
  have X0p := X0
  have X1p := X1
  obtain ⟨al, af, a0⟩ := X0p.c1
  obtain ⟨bl, bf, b0⟩ := X1p.c1
  have zx := X3.lt
  obtain ⟨_, _, e1, hcc⟩ := own_form O1
  injection e1 with e1 e2 e3
  subst e3
  subst e1
  clear e2
  obtain ⟨N, hN⟩ : ∃ N, (framesL L).length = N := ⟨_, rfl⟩
  have HN := Lib.hid hN
  rw [hN] at O1 l0 l1
  have hcN := hcc.1
  rw [hN] at hcN ⊢
  clear hN hcc
  go_wp2_with fail
  have bs : Below w1.heap.size w1 ((w1.alloc (.cells #[.int .i64 0] 42)).alloc (.cells #[.bool false] 4)) := bel_alloc (bel_alloc (Below.refl _ _) _) _
  refine (scan_any _ N _ w1.heap.size L _ hL hLn HN.out.symm hcN l1 ((Shows.of_own O1).call bs (Nat.le_refl _)) (by simp; omega)).mono ?_
  rintro e w2 ⟨v, z, rfl, R2, hb2⟩
  have z1 := bel1.size
  have zz := bs.size
  have z2 := hb2.size
  have zA : (((w1.alloc (.cells #[.int .i64 0] 42)).alloc (.cells #[.bool false] 4))).heap.size = w1.heap.size + 1 + 1 := by simp
  have bel2 : Below w.heap.size w w2 := bel_call (bel_call bel1 bs) hb2
  have Y0 := (X0.call bs).call hb2
  have Y1 := (X1.call bs).call hb2
  have Y2 := (X2.call bs).call hb2
  have Y3 := (X3.call bs).call hb2
  have YE : Block w2 w1.heap.size 42 [.int .i64 0] := Block.call ((btop (cs := [.int .i64 0]) rfl).alloc _) hb2
  have YB : Block w2 (w1.heap.size + 1) 4 [.bool false] := Block.call (btop (by simp)) hb2
  have R2' := R2
  obtain ⟨cs, hO, hc⟩ := R2'
  obtain ⟨A2, c2, rfl, _⟩ := own_form hO
  clear hO hc cs X0 X1 X2 X3 X0p X1p a0 al af b0 bl bf hb2
  have Y2p := Y2
  have Y3p := Y3
  obtain ⟨al, af, a0⟩ := Y2p.c1
  obtain ⟨bl, bf, b0⟩ := Y3p.c1
  go_upto_region 7 with (fail)
  refine at_code (fun W => Below w.heap.size w W ∧ w2.heap.size ≤ W.heap.size ∧ Block W w.heap.size 24 [.pointer (some ⟨d, 0, none⟩)] ∧ Block W (w.heap.size + 1) 9 [(.string ⟨#[108, 111, 103]⟩)] ∧ Block W (w.heap.size + 1 + 1) 3 [.int .i64 z] ∧ Block W (w.heap.size + 1 + 1 + 1) 3 [.int .i64 0] ∧ Block W w1.heap.size 42 [.int .i64 0] ∧ Block W (w1.heap.size + 1) 4 [.bool false] ∧ RowsAt W w.heap.size (.slice A2 L.length c2) L ∧ RowsAt W (w1.heap.size + 1) (.slice A2 L.length c2) L) ⟨by exact sBel, by simp [World.setCell], (Y0.far (by first | (simp; done) | (simp; omega)) _).far (by first | (simp; done) | (simp; omega)) _, (Y1.far (by first | (simp; done) | (simp; omega)) _).far (by first | (simp; done) | (simp; omega)) _, (Y2.set 0 _).far (by first | (simp; done) | (simp; omega)) _, (Y3.far (by first | (simp; done) | (simp; omega)) _).set 0 _, (YE.far (by first | (simp; done) | (simp; omega)) _).far (by first | (simp; done) | (simp; omega)) _, (YB.far (by first | (simp; done) | (simp; omega)) _).far (by first | (simp; done) | (simp; omega)) _, ?_, ?_⟩ ?_
  · exact ((R2.far (by show w.heap.size + 1 + 1 < _; omega) _).far (by show w.heap.size + 1 + 1 + 1 < _; omega) _).low (by omega)
  · exact ((R2.far (by show w.heap.size + 1 + 1 < _; omega) _).far (by show w.heap.size + 1 + 1 + 1 < _; omega) _).low (by omega)
  clear Y0 Y1 Y2 Y3 YE YB a0 al af b0 bl bf Y2p Y3p R2
  rintro w3 ⟨bel3, z3, X0, X1, X2, X3, XE, XB, R3, R3'⟩
  have X0p := X0
  have X1p := X1
  obtain ⟨al, af, a0⟩ := X0p.c1
  obtain ⟨bl, bf, b0⟩ := X1p.c1
  go_wp2_with fail
  refine wp_loop_rounds 4 ?_
  refine at_code (fun W => Below w.heap.size w W ∧ Block W w.heap.size 24 [.pointer (some ⟨d, 0, none⟩)] ∧ Block W (w.heap.size + 1) 9 [(.string ⟨#[108, 111, 103]⟩)] ∧ Block W (w.heap.size + 1 + 1) 3 [.int .i64 z] ∧ Block W (w.heap.size + 1 + 1 + 1) 3 [.int .i64 0] ∧ Block W w1.heap.size 42 [.int .i64 0] ∧ Block W (w1.heap.size + 1) 4 [.bool false] ∧ RowsAt W w.heap.size (.slice A2 L.length c2) L ∧ Has W w3.heap.size [.func (.func 116) #[] #[.pointer (some ⟨w1.heap.size + 1, 0, none⟩), .pointer (some ⟨w.heap.size, 0, none⟩), .pointer (some ⟨w.heap.size + 1, 0, none⟩), .pointer (some ⟨w1.heap.size, 0, none⟩)], .func (.func 117) #[] #[.pointer (some ⟨w.heap.size + 1 + 1 + 1, 0, none⟩), .pointer (some ⟨w.heap.size, 0, none⟩), .pointer (some ⟨w.heap.size + 1, 0, none⟩), .pointer (some ⟨w.heap.size + 1 + 1, 0, none⟩)], .func (.func 119) #[] #[.pointer (some ⟨w.heap.size, 0, none⟩), .pointer (some ⟨w.heap.size + 1, 0, none⟩)]]) ⟨by exact sBel, by exact sBlk, by exact sBlk, by exact sBlk, by exact sBlk, by exact sBlk, by exact sBlk, R3.call (by exact sBel), Has.of_block (btop (by simp))⟩ ?_
  have zx3 := XB.lt
  clear X0 X1 X2 X3 XE XB X0p X1p a0 al af b0 bl bf R3
  rintro w4 ⟨bel4, Y0, Y1, Y2, Y3, YE, YB, R4, YF⟩
  have Y0p := Y0
  have Y1p := Y1
  have YFp := YF
  have zf := YF.lt
  obtain ⟨al, af, a0⟩ := Y0p.c1
  obtain ⟨bl, bf, b0⟩ := Y1p.c1
  have ql := YFp.lt; have q0 := YFp.cell (j := 0) rfl; have q1 := YFp.cell (j := 1) rfl; have q2 := YFp.cell (j := 2) rfl
  go_wp2_with fail
  refine (o1_old _ _ _ _ w4 (YB.cell 0) (YE.cell 0)).mono ?_
  rintro e w5 ⟨rfl, hb5⟩
  have Z0 := Y0.call hb5
  have Z1 := Y1.call hb5
  have Z2 := Y2.call hb5
  have Z3 := Y3.call hb5
  have ZF := YF.call hb5
  have R5 := R4.call hb5
  clear a0 al af b0 bl bf q0 q1 q2 ql Y0p Y1p YFp Y0 Y1 Y2 Y3 YE YB YF R4
  have Z3p := Z3
  have ZFp := ZF
  obtain ⟨al, af, a0⟩ := Z3p.c1
  have ql := ZFp.lt; have q0 := ZFp.cell (j := 0) rfl; have q1 := ZFp.cell (j := 1) rfl; have q2 := ZFp.cell (j := 2) rfl
  go_wp2_with fail
  rw [rounds_succ]
  go_wp2_with fail
  refine (o2_any _ _ _ _ w5 a0).mono ?_
  rintro e w6 ⟨rfl, hb6⟩
  have V0 := Z0.call hb6
  have V1 := Z1.call hb6
  have V2 := Z2.call hb6
  have VF := ZF.call hb6
  have R6 := R5.call hb6
  have bel6 := bel_call (bel_call bel4 hb5) hb6
  clear a0 al af q0 q1 q2 ql Z3p ZFp Z0 Z1 Z2 Z3 ZF R5
  have V0p := V0
  have V1p := V1
  have VFp := VF
  obtain ⟨al, af, a0⟩ := V0p.c1
  obtain ⟨bl, bf, b0⟩ := V1p.c1
  have ql := VFp.lt; have q0 := VFp.cell (j := 0) rfl; have q1 := VFp.cell (j := 1) rfl; have q2 := VFp.cell (j := 2) rfl
  go_wp2_with fail
  rw [rounds_succ]
  go_wp2_with fail
  refine (o3_file _ _ d md f g _ w6 a0 b0 (hD.call bel6) (hF.call bel6) (by rw [HN.out]; exact l0) (by rw [HN.out]; exact l1)).mono ?_
  rintro e w7 ⟨rfl, D7, F7, kp7⟩
  have zd := hD.lt
  have zF := hF.lt
  have U0 := V0.keptX kp7 (by simp; omega)
  have U1 := V1.keptX kp7 (by simp; omega)
  have U2 := V2.keptX kp7 (by simp; omega)
  have UF := VF.keptX kp7 (by simp; omega)
  have R7 := R6.keptX h0 kp7 (by simp; omega)
  clear a0 al af b0 bl bf q0 q1 q2 ql V0p V1p VFp V0 V1 V2 VF R6
  have U0p := U0
  have U1p := U1
  have U2p := U2
  have UFp := UF
  obtain ⟨al, af, a0⟩ := U0p.c1
  obtain ⟨bl, bf, b0⟩ := U1p.c1
  obtain ⟨xl, xf, x0⟩ := U2p.c1
  have ql := UFp.lt; have q0 := UFp.cell (j := 0) rfl; have q1 := UFp.cell (j := 1) rfl; have q2 := UFp.cell (j := 2) rfl
  go_wp2_with fail
  rw [rounds_succ]
  go_wp2_with fail
  go_returns
  have z6 := bel6.size
  have z7 := kp7.size
  refine ⟨w7.heap.size, _, by first | rfl | simp, by omega, D7.call (by exact sBel), F7.call (by exact sBel), ⟨_, _, btop (by simp)⟩, R7.call (by exact sBel), ?_⟩
  exact ((Kept.of_below (X := [d, f]) bel6).trans kp7 (by simp)).alloc _
end Go.Proofs.YthmhdaefkhcenaaGreatDoor
