/- Lemmas for it; no condition: TCfr TCfr2 TCfr3 TCfg2. -/
import Derived.Test.YthmhdaefkhcenaaGreatDoorZ08
import Derived.Test.YthmhdaefkhcenaaGreatDoorZ13
import Derived.Test.YthmhdaefkhcenaaGreatDoorZ16
set_option linter.unusedVariables false
set_option linter.unusedSimpArgs false
namespace Go.Proofs.YthmhdaefkhcenaaGreatDoor
set_option maxRecDepth 100000
set_option maxHeartbeats 8000000
open Go.RowKit Go.Lib

theorem count_next (R : Nat) (A : Option Addr) (c : Nat) (xs l : List Int) (x high : Int) (B : Nat) (w : World) (h : RdL w R A c xs (x :: l) B) (hx : I64r x) (h0 : 0 ≤ x) (h1 : x ≤ high) :
    Calls Tryz.prog 122 #[.pointer (some ⟨R, 0, none⟩), .int .i64 high] w fun e w' => e = .returned (.int .i64 x) ∧ RdL w' R A c xs l B ∧ w.grownBy w' (some R) := by
  have hRl := h.lt
  obtain ⟨⟨k, fa, hR, hd⟩, hs, hle, hcap, hlen, hb⟩ := h
  have hd' : xs.drop k = Oct.putN (Oct.zig x) ++ bytesOf l := hd
  have hg := Oct.getB_at hx hd'
  have hl := congrArg List.length hd'
  have hp := Oct.putN_pos (Oct.zig x)
  simp only [List.length_drop, List.length_append] at hl
  have hst : rdN (Oct.getB xs k) k 0 fa 0 high 3 = (x, ((k + (Oct.putN (Oct.zig x)).length : Nat) : Int), 0, fa) := by
    rw [hg]
    unfold rdN nfault
    simp
    rw [if_neg (by omega), if_neg (by omega)]
    simp
  refine (count_made R A xs.length c xs k 0 fa high B w hR hs (by omega) (by unfold maxLen; omega) hcap hb (by omega) (by omega) hst).mono ?_
  rintro e w' ⟨rfl, hgr, hR'⟩
  refine ⟨rfl, ⟨⟨k + (Oct.putN (Oct.zig x)).length, fa, hR', ?_⟩, hs.kept hgr hle (by omega), hle, hcap, hlen, hb⟩, hgr⟩
  rw [← List.drop_drop, hd']
  simp
theorem number_r (qb p i R : Nat) (A : Option Addr) (c : Nat) (xs l : List Int) (x : Int) (B : Nat) (u : Value) (w : World) (h : RdL w R A c xs (x :: l) B) (hx : I64r x) (hq : Block w qb 275 [.pointer (some ⟨R, 0, none⟩)])
    (hp : w.cell? ⟨p, i, none⟩ = some u) (hf : w.frozen? ⟨p, i, none⟩ = false) (hpR : p ≠ R) :
    Calls Tryz.prog 534 #[.pointer (some ⟨qb, 0, none⟩), .pointer (some ⟨p, i, none⟩)] w fun e w' => e = .returned (.tuple #[]) ∧ ∃ w1, RdL w1 R A c xs l B ∧ w.grownBy w1 (some R) ∧ w' = w1.setCell ⟨p, i, none⟩ (.int .i64 x) := by
  have q0 := hq
  obtain ⟨ql, qf, q0⟩ := q0.c1
  have hpl := World.block_lt_of_cell? w _ hp
  go_enter Tryz.func534, Tryz.ntmps534
  go_wp2_with fail
  refine (int_next R A c xs l x (-9223372036854775808) 9223372036854775807 B w h hx hx.1 hx.2).mono ?_
  rintro e w1 ⟨rfl, h1, G⟩
  have hne : some p ≠ some R := by simpa using hpR
  have p1 : w1.cell? ⟨p, i, none⟩ = some u := (World.cell?_of_block (a := ⟨p, i, none⟩) (G.block p hpl hne)).trans hp
  have f1 : w1.frozen? ⟨p, i, none⟩ = false := (World.frozen?_of_block (a := ⟨p, i, none⟩) (G.block p hpl hne)).trans hf
  go_wp2_with fail
  go_end0
  exact ⟨rfl, w1, h1, G, rfl⟩
theorem count_r (qb R : Nat) (A : Option Addr) (c : Nat) (xs l : List Int) (x m : Int) (B : Nat) (w : World) (h : RdL w R A c xs (x :: l) B) (h0 : 0 ≤ x) (h1 : x ≤ 65536) (hq : Block w qb 275 [.pointer (some ⟨R, 0, none⟩)]) :
    Calls Tryz.prog 532 #[.pointer (some ⟨qb, 0, none⟩), .int .i64 m] w fun e w' => e = .returned (.int .i64 x) ∧ RdL w' R A c xs l B ∧ w.grownBy w' (some R) := by
  have q0 := hq
  obtain ⟨ql, qf, q0⟩ := q0.c1
  go_enter Tryz.func532, Tryz.ntmps532
  go_wp2_with fail
  refine (count_next R A c xs l x 65536 B w h ⟨by omega, by omega⟩ h0 h1).mono ?_
  rintro e w1 ⟨rfl, h2, G⟩
  go_wp2_with fail
  go_returns
  exact ⟨rfl, h2, G⟩
theorem fine_r (qb R : Nat) (A : Option Addr) (c : Nat) (xs l : List Int) (B : Nat) (w : World) (h : RdL w R A c xs l B) (hq : Block w qb 275 [.pointer (some ⟨R, 0, none⟩)]) :
    Calls Tryz.prog 533 #[.pointer (some ⟨qb, 0, none⟩)] w fun e w' => e = .returned (.bool true) ∧ Below w.heap.size w w' := by
  have q0 := hq
  obtain ⟨ql, qf, q0⟩ := q0.c1
  obtain ⟨k, fa, hR, hd⟩ := h.rd
  have hfl : ∀ w, (Instr.field 194 (.agg #[.int .i64 0, .int .i64 fa]) 0).run Tryz.prog w = .ok (.int .i64 0) w := fun _ => by kernel_rfl
  go_enter Tryz.func533, Tryz.ntmps533
  go_wp2_with fail
  refine (rfault_made R A xs.length c k 0 fa w hR).mono ?_
  rintro e w1 ⟨rfl, hb1⟩
  go_wp2_with fail
  go_returns
  exact ⟨by first | rfl | simp, hb1⟩
end Go.Proofs.YthmhdaefkhcenaaGreatDoor
namespace Go.Proofs.YthmhdaefkhcenaaGreatDoor
set_option maxRecDepth 100000
set_option maxHeartbeats 8000000
open Go.RowKit Go.Lib

theorem RdL.far {w : World} {R : Nat} {A : Option Addr} {c : Nat} {xs l : List Int} {B p i : Nat} (h : RdL w R A c xs l B) (hpR : p ≠ R) (hB : B ≤ p) (u : Value) : RdL (w.setCell ⟨p, i, none⟩ u) R A c xs l B := by
  obtain ⟨k, fa, hR, hd⟩ := h.rd
  exact ⟨⟨k, fa, Block.far hR (fun e => hpR e.symm) u, hd⟩, h.sh.same fun a ha => World.cell?_of_block (Below.heap_setCell w ⟨p, i, none⟩ u a.block (by show a.block ≠ p; omega)), h.le, h.cap, h.len, h.byt⟩
abbrev KeptR (R p : Nat) (w w' : World) : Prop := Kept [R, p] w w'
theorem KeptR.block {R p k : Nat} {t : TypeId} {cs : List Value} {w w' : World} (h : KeptR R p w w') (hB : Block w k t cs) (h1 : k ≠ R) (h2 : k ≠ p) : Block w' k t cs := hB.keptX h (by simp [h1, h2])
theorem KeptR.step {R p i : Nat} {w a b : World} (h : KeptR R p w a) (G : a.grownBy b (some R)) (u : Value) : KeptR R p w (b.setCell ⟨p, i, none⟩ u) := (h.grown G (by simp)).set (by simp) u
theorem numbers1_r (qb p i R lb : Nat) (lt tp : TypeId) (cs : List Value) (A : Option Addr) (c : Nat) (xs l : List Int) (x0 : Int) (B : Nat) (w : World) (h : RdL w R A c xs (x0 :: l) B) (h0 : I64r x0) (hq : Block w qb 275 [.pointer (some ⟨R, 0, none⟩)]) (hqR : qb ≠ R) (hqp : qb ≠ p)
    (hL : Block w lb lt [.pointer (some ⟨p, i, none⟩)]) (hlR : lb ≠ R) (hlp : lb ≠ p) (hP : Block w p tp cs) (hi : i + 0 < cs.length) (hpR : p ≠ R) (hBp : B ≤ p) :
    Calls Tryz.prog 135 #[.iface 273 (.pointer (some ⟨qb, 0, none⟩)), .slice (some ⟨lb, 0, none⟩) 1 1] w fun e w' => e = .returned (.tuple #[]) ∧ RdL w' R A c xs l B ∧ Block w' p tp (cs.set (i) (.int .i64 x0)) ∧ KeptR R p w w' := by
  have K0 := Kept.refl [R, p] w
  have P0 := hP
  have L0 := hL
  obtain ⟨kl, kf, k0⟩ := L0.c1
  go_enter Tryz.func135, Tryz.ntmps135
  go_wp2_with fail
  refine wp_loop_rounds 2 ?_
  rw [rounds_succ]
  go_wp2_with fail
  have e0 : i < cs.length := by first | omega | (simp only [List.length_set]; omega)
  refine (number_r qb p (i) R A c xs (l) x0 B cs[i] _ h h0 (KeptR.block K0 hq hqR hqp) (by rw [P0.cell]; simp) (P0.free _) hpR).mono ?_
  rintro e w' ⟨rfl, v1, hh1, G1, rfl⟩
  have K1 : KeptR R p w _ := KeptR.step K0 (i := i) G1 (.int .i64 x0)
  have P1 := (P0.grown G1 (by simpa using hpR)).set (i) (.int .i64 x0)
  replace hh1 := hh1.far (i := i) hpR hBp (.int .i64 x0)
  have M1 := KeptR.block K1 hL hlR hlp
  obtain ⟨W1, hW1⟩ : ∃ W, v1.setCell ⟨p, i, none⟩ (.int .i64 x0) = W := ⟨_, rfl⟩
  rw [hW1] at K1 P1 hh1 M1 ⊢
  clear k0 kl kf
  obtain ⟨kl, kf, k0⟩ := M1.c1
  go_wp2_with fail
  rw [rounds_succ]
  go_wp2_with fail
  go_end0
  exact ⟨rfl, hh1, P1, K1⟩
theorem numbers2_r (qb p i R lb : Nat) (lt tp : TypeId) (cs : List Value) (A : Option Addr) (c : Nat) (xs l : List Int) (x0 x1 : Int) (B : Nat) (w : World) (h : RdL w R A c xs (x0 :: x1 :: l) B) (h0 : I64r x0) (h1 : I64r x1) (hq : Block w qb 275 [.pointer (some ⟨R, 0, none⟩)]) (hqR : qb ≠ R) (hqp : qb ≠ p)
    (hL : Block w lb lt [.pointer (some ⟨p, i, none⟩), .pointer (some ⟨p, i + 1, none⟩)]) (hlR : lb ≠ R) (hlp : lb ≠ p) (hP : Block w p tp cs) (hi : i + 1 < cs.length) (hpR : p ≠ R) (hBp : B ≤ p) :
    Calls Tryz.prog 135 #[.iface 273 (.pointer (some ⟨qb, 0, none⟩)), .slice (some ⟨lb, 0, none⟩) 2 2] w fun e w' => e = .returned (.tuple #[]) ∧ RdL w' R A c xs l B ∧ Block w' p tp ((cs.set (i) (.int .i64 x0)).set (i + 1) (.int .i64 x1)) ∧ KeptR R p w w' := by
  have K0 := Kept.refl [R, p] w
  have P0 := hP
  have L0 := hL
  obtain ⟨kl, kf, k0, k1⟩ := L0.c2
  go_enter Tryz.func135, Tryz.ntmps135
  go_wp2_with fail
  refine wp_loop_rounds 3 ?_
  rw [rounds_succ]
  go_wp2_with fail
  have e0 : i < cs.length := by first | omega | (simp only [List.length_set]; omega)
  refine (number_r qb p (i) R A c xs (x1 :: l) x0 B cs[i] _ h h0 (KeptR.block K0 hq hqR hqp) (by rw [P0.cell]; simp) (P0.free _) hpR).mono ?_
  rintro e w' ⟨rfl, v1, hh1, G1, rfl⟩
  have K1 : KeptR R p w _ := KeptR.step K0 (i := i) G1 (.int .i64 x0)
  have P1 := (P0.grown G1 (by simpa using hpR)).set (i) (.int .i64 x0)
  replace hh1 := hh1.far (i := i) hpR hBp (.int .i64 x0)
  have M1 := KeptR.block K1 hL hlR hlp
  obtain ⟨W1, hW1⟩ : ∃ W, v1.setCell ⟨p, i, none⟩ (.int .i64 x0) = W := ⟨_, rfl⟩
  rw [hW1] at K1 P1 hh1 M1 ⊢
  clear k0 k1 kl kf
  obtain ⟨kl, kf, k0, k1⟩ := M1.c2
  go_wp2_with fail
  rw [rounds_succ]
  go_wp2_with fail
  have e1 : i + 1 < (cs.set (i) (.int .i64 x0)).length := by first | omega | (simp only [List.length_set]; omega)
  refine (number_r qb p (i + 1) R A c xs (l) x1 B (cs.set (i) (.int .i64 x0))[i + 1] _ hh1 h1 (KeptR.block K1 hq hqR hqp) (by rw [P1.cell]; simp) (P1.free _) hpR).mono ?_
  rintro e w' ⟨rfl, v2, hh2, G2, rfl⟩
  have K2 : KeptR R p w _ := KeptR.step K1 (i := i + 1) G2 (.int .i64 x1)
  have P2 := (P1.grown G2 (by simpa using hpR)).set (i + 1) (.int .i64 x1)
  replace hh2 := hh2.far (i := i + 1) hpR hBp (.int .i64 x1)
  have M2 := KeptR.block K2 hL hlR hlp
  obtain ⟨W2, hW2⟩ : ∃ W, v2.setCell ⟨p, i + 1, none⟩ (.int .i64 x1) = W := ⟨_, rfl⟩
  rw [hW2] at K2 P2 hh2 M2 ⊢
  clear k0 k1 kl kf
  obtain ⟨kl, kf, k0, k1⟩ := M2.c2
  go_wp2_with fail
  rw [rounds_succ]
  go_wp2_with fail
  go_end0
  exact ⟨rfl, hh2, P2, K2⟩
theorem numbers4_r (qb p i R lb : Nat) (lt tp : TypeId) (cs : List Value) (A : Option Addr) (c : Nat) (xs l : List Int) (x0 x1 x2 x3 : Int) (B : Nat) (w : World) (h : RdL w R A c xs (x0 :: x1 :: x2 :: x3 :: l) B) (h0 : I64r x0) (h1 : I64r x1) (h2 : I64r x2) (h3 : I64r x3) (hq : Block w qb 275 [.pointer (some ⟨R, 0, none⟩)]) (hqR : qb ≠ R) (hqp : qb ≠ p)
    (hL : Block w lb lt [.pointer (some ⟨p, i, none⟩), .pointer (some ⟨p, i + 1, none⟩), .pointer (some ⟨p, i + 2, none⟩), .pointer (some ⟨p, i + 3, none⟩)]) (hlR : lb ≠ R) (hlp : lb ≠ p) (hP : Block w p tp cs) (hi : i + 3 < cs.length) (hpR : p ≠ R) (hBp : B ≤ p) :
    Calls Tryz.prog 135 #[.iface 273 (.pointer (some ⟨qb, 0, none⟩)), .slice (some ⟨lb, 0, none⟩) 4 4] w fun e w' => e = .returned (.tuple #[]) ∧ RdL w' R A c xs l B ∧ Block w' p tp ((((cs.set (i) (.int .i64 x0)).set (i + 1) (.int .i64 x1)).set (i + 2) (.int .i64 x2)).set (i + 3) (.int .i64 x3)) ∧ KeptR R p w w' := by
  have K0 := Kept.refl [R, p] w
  have P0 := hP
  have L0 := hL
  obtain ⟨kl, kf, k0, k1, k2, k3⟩ := L0.c4
  go_enter Tryz.func135, Tryz.ntmps135
  go_wp2_with fail
  refine wp_loop_rounds 5 ?_
  rw [rounds_succ]
  go_wp2_with fail
  have e0 : i < cs.length := by first | omega | (simp only [List.length_set]; omega)
  refine (number_r qb p (i) R A c xs (x1 :: x2 :: x3 :: l) x0 B cs[i] _ h h0 (KeptR.block K0 hq hqR hqp) (by rw [P0.cell]; simp) (P0.free _) hpR).mono ?_
  rintro e w' ⟨rfl, v1, hh1, G1, rfl⟩
  have K1 : KeptR R p w _ := KeptR.step K0 (i := i) G1 (.int .i64 x0)
  have P1 := (P0.grown G1 (by simpa using hpR)).set (i) (.int .i64 x0)
  replace hh1 := hh1.far (i := i) hpR hBp (.int .i64 x0)
  have M1 := KeptR.block K1 hL hlR hlp
  obtain ⟨W1, hW1⟩ : ∃ W, v1.setCell ⟨p, i, none⟩ (.int .i64 x0) = W := ⟨_, rfl⟩
  rw [hW1] at K1 P1 hh1 M1 ⊢
  clear k0 k1 k2 k3 kl kf
  obtain ⟨kl, kf, k0, k1, k2, k3⟩ := M1.c4
  go_wp2_with fail
  rw [rounds_succ]
  go_wp2_with fail
  have e1 : i + 1 < (cs.set (i) (.int .i64 x0)).length := by first | omega | (simp only [List.length_set]; omega)
  refine (number_r qb p (i + 1) R A c xs (x2 :: x3 :: l) x1 B (cs.set (i) (.int .i64 x0))[i + 1] _ hh1 h1 (KeptR.block K1 hq hqR hqp) (by rw [P1.cell]; simp) (P1.free _) hpR).mono ?_
  rintro e w' ⟨rfl, v2, hh2, G2, rfl⟩
  have K2 : KeptR R p w _ := KeptR.step K1 (i := i + 1) G2 (.int .i64 x1)
  have P2 := (P1.grown G2 (by simpa using hpR)).set (i + 1) (.int .i64 x1)
  replace hh2 := hh2.far (i := i + 1) hpR hBp (.int .i64 x1)
  have M2 := KeptR.block K2 hL hlR hlp
  obtain ⟨W2, hW2⟩ : ∃ W, v2.setCell ⟨p, i + 1, none⟩ (.int .i64 x1) = W := ⟨_, rfl⟩
  rw [hW2] at K2 P2 hh2 M2 ⊢
  clear k0 k1 k2 k3 kl kf
  obtain ⟨kl, kf, k0, k1, k2, k3⟩ := M2.c4
  go_wp2_with fail
  rw [rounds_succ]
  go_wp2_with fail
  have e2 : i + 2 < ((cs.set (i) (.int .i64 x0)).set (i + 1) (.int .i64 x1)).length := by first | omega | (simp only [List.length_set]; omega)
  refine (number_r qb p (i + 2) R A c xs (x3 :: l) x2 B ((cs.set (i) (.int .i64 x0)).set (i + 1) (.int .i64 x1))[i + 2] _ hh2 h2 (KeptR.block K2 hq hqR hqp) (by rw [P2.cell]; simp) (P2.free _) hpR).mono ?_
  rintro e w' ⟨rfl, v3, hh3, G3, rfl⟩
  have K3 : KeptR R p w _ := KeptR.step K2 (i := i + 2) G3 (.int .i64 x2)
  have P3 := (P2.grown G3 (by simpa using hpR)).set (i + 2) (.int .i64 x2)
  replace hh3 := hh3.far (i := i + 2) hpR hBp (.int .i64 x2)
  have M3 := KeptR.block K3 hL hlR hlp
  obtain ⟨W3, hW3⟩ : ∃ W, v3.setCell ⟨p, i + 2, none⟩ (.int .i64 x2) = W := ⟨_, rfl⟩
  rw [hW3] at K3 P3 hh3 M3 ⊢
  clear k0 k1 k2 k3 kl kf
  obtain ⟨kl, kf, k0, k1, k2, k3⟩ := M3.c4
  go_wp2_with fail
  rw [rounds_succ]
  go_wp2_with fail
  have e3 : i + 3 < (((cs.set (i) (.int .i64 x0)).set (i + 1) (.int .i64 x1)).set (i + 2) (.int .i64 x2)).length := by first | omega | (simp only [List.length_set]; omega)
  refine (number_r qb p (i + 3) R A c xs (l) x3 B (((cs.set (i) (.int .i64 x0)).set (i + 1) (.int .i64 x1)).set (i + 2) (.int .i64 x2))[i + 3] _ hh3 h3 (KeptR.block K3 hq hqR hqp) (by rw [P3.cell]; simp) (P3.free _) hpR).mono ?_
  rintro e w' ⟨rfl, v4, hh4, G4, rfl⟩
  have K4 : KeptR R p w _ := KeptR.step K3 (i := i + 3) G4 (.int .i64 x3)
  have P4 := (P3.grown G4 (by simpa using hpR)).set (i + 3) (.int .i64 x3)
  replace hh4 := hh4.far (i := i + 3) hpR hBp (.int .i64 x3)
  have M4 := KeptR.block K4 hL hlR hlp
  obtain ⟨W4, hW4⟩ : ∃ W, v4.setCell ⟨p, i + 3, none⟩ (.int .i64 x3) = W := ⟨_, rfl⟩
  rw [hW4] at K4 P4 hh4 M4 ⊢
  clear k0 k1 k2 k3 kl kf
  obtain ⟨kl, kf, k0, k1, k2, k3⟩ := M4.c4
  go_wp2_with fail
  rw [rounds_succ]
  go_wp2_with fail
  go_end0
  exact ⟨rfl, hh4, P4, K4⟩
end Go.Proofs.YthmhdaefkhcenaaGreatDoor
namespace Go.Proofs.YthmhdaefkhcenaaGreatDoor
set_option maxRecDepth 100000
set_option maxHeartbeats 8000000
open Go.RowKit Go.Lib

theorem RdL.call {w w' : World} {R : Nat} {A : Option Addr} {c : Nat} {xs l : List Int} {B : Nat} (h : RdL w R A c xs l B) (hb : Below w.heap.size w w') : RdL w' R A c xs l B := by
  have hl := h.lt
  obtain ⟨k, fa, hR, hd⟩ := h.rd
  exact ⟨⟨k, fa, Block.call hR hb, hd⟩, h.sh.call hb (by have := h.le; omega), h.le, h.cap, h.len, h.byt⟩
theorem place_r (qb p i R : Nat) (tp : TypeId) (cs : List Value) (A : Option Addr) (c : Nat) (xs l : List Int) (x y : Int) (B : Nat) (w : World) (h : RdL w R A c xs (x :: y :: l) B) (hx : I64r x) (hy : I64r y) (hq : Block w qb 275 [.pointer (some ⟨R, 0, none⟩)]) (hqR : qb ≠ R) (hqp : qb ≠ p)
    (hP : Block w p tp cs) (hi : i + 1 < cs.length) (hpR : p ≠ R) (hBp : B ≤ p) :
    Calls Tryz.prog 140 #[.iface 273 (.pointer (some ⟨qb, 0, none⟩)), .pointer (some ⟨p, i, none⟩)] w fun e w' => e = .returned (.tuple #[]) ∧ RdL w' R A c xs l B ∧ Block w' p tp ((cs.set (i) (.int .i64 x)).set (i + 1) (.int .i64 y)) ∧ KeptR R p w w' := by
  have hRl := h.lt
  have hpl := hP.lt
  have hql := hq.lt
  have k0 : w.cell? ⟨p, i, none⟩ = some cs[i] := by rw [hP.cell]; simp
  have k1 : w.cell? ⟨p, i + 1, none⟩ = some cs[i + 1] := by rw [hP.cell]; simp
  go_enter Tryz.func140, Tryz.ntmps140
  go_wp2_with fail
  refine AnyBut.region (S := fun _ => True) (t := 99) 9 rfl (by kernel_rfl) trivial ?_
  intro hS
  refine AnyBut.tk0 0 hS rfl (h := ?_); refine AnyBut.tk0 1 hS rfl (h := ?_); refine AnyBut.tk0 2 hS rfl (h := ?_); refine AnyBut.tk0 3 hS rfl (h := ?_); refine AnyBut.tk0 4 hS rfl (h := ?_); refine AnyBut.tk0 5 hS rfl (h := ?_); refine AnyBut.tk0 6 hS rfl (h := ?_)
  refine AnyBut.one (i := 7) rfl (by kernel_rfl) rfl ?_; intro K hK; go_simp; refine hK _ _ ?_ ?_ <;> clear hK K; rotate_left; intro hS; rotate_left
  · trivial
  refine AnyBut.one (i := 8) rfl (by kernel_rfl) rfl ?_; intro K hK
  go_wp2_with fail
  refine (numbers2_r qb p i R w.heap.size 161 tp cs A c xs l x y B _ (h.call (by exact sBel)) hx hy (by exact sBlk) hqR hqp (Block.drew (btop (cs := [.pointer (some ⟨p, i, none⟩), .pointer (some ⟨p, i + 1, none⟩)]) rfl)) (by omega) (by omega) (by exact sBlk) hi hpR hBp).mono ?_
  rintro e w1 ⟨rfl, h1, hP1, hK1⟩
  refine hK _ _ trivial ?_
  intro _
  refine AnyBut.done (by kernel_rfl) ?_
  go_end0
  exact ⟨rfl, h1, hP1, Kept.pre (by exact sBel) hK1⟩
theorem day_r (qb p i R : Nat) (tp : TypeId) (cs : List Value) (A : Option Addr) (c : Nat) (xs l : List Int) (x y : Int) (B : Nat) (w : World) (h : RdL w R A c xs (x :: y :: l) B) (hx : I64r x) (hy : I64r y) (hq : Block w qb 275 [.pointer (some ⟨R, 0, none⟩)]) (hqR : qb ≠ R) (hqp : qb ≠ p)
    (hP : Block w p tp cs) (hi : i + 1 < cs.length) (hpR : p ≠ R) (hBp : B ≤ p) :
    Calls Tryz.prog 139 #[.iface 273 (.pointer (some ⟨qb, 0, none⟩)), .pointer (some ⟨p, i, none⟩)] w fun e w' => e = .returned (.tuple #[]) ∧ RdL w' R A c xs l B ∧ Block w' p tp ((cs.set (i) (.int .i64 x)).set (i + 1) (.int .i64 y)) ∧ KeptR R p w w' := by
  have hRl := h.lt
  have hpl := hP.lt
  have hql := hq.lt
  have k0 : w.cell? ⟨p, i, none⟩ = some cs[i] := by rw [hP.cell]; simp
  have k1 : w.cell? ⟨p, i + 1, none⟩ = some cs[i + 1] := by rw [hP.cell]; simp
  go_enter Tryz.func139, Tryz.ntmps139
  go_wp2_with fail
  refine AnyBut.region (S := fun _ => True) (t := 99) 9 rfl (by kernel_rfl) trivial ?_
  intro hS
  refine AnyBut.tk0 0 hS rfl (h := ?_); refine AnyBut.tk0 1 hS rfl (h := ?_); refine AnyBut.tk0 2 hS rfl (h := ?_); refine AnyBut.tk0 3 hS rfl (h := ?_); refine AnyBut.tk0 4 hS rfl (h := ?_); refine AnyBut.tk0 5 hS rfl (h := ?_); refine AnyBut.tk0 6 hS rfl (h := ?_)
  refine AnyBut.one (i := 7) rfl (by kernel_rfl) rfl ?_; intro K hK; go_simp; refine hK _ _ ?_ ?_ <;> clear hK K; rotate_left; intro hS; rotate_left
  · trivial
  refine AnyBut.one (i := 8) rfl (by kernel_rfl) rfl ?_; intro K hK
  go_wp2_with fail
  refine (numbers2_r qb p i R w.heap.size 161 tp cs A c xs l x y B _ (h.call (by exact sBel)) hx hy (by exact sBlk) hqR hqp (Block.drew (btop (cs := [.pointer (some ⟨p, i, none⟩), .pointer (some ⟨p, i + 1, none⟩)]) rfl)) (by omega) (by omega) (by exact sBlk) hi hpR hBp).mono ?_
  rintro e w1 ⟨rfl, h1, hP1, hK1⟩
  refine hK _ _ trivial ?_
  intro _
  refine AnyBut.done (by kernel_rfl) ?_
  go_end0
  exact ⟨rfl, h1, hP1, Kept.pre (by exact sBel) hK1⟩
end Go.Proofs.YthmhdaefkhcenaaGreatDoor
namespace Go.Proofs.YthmhdaefkhcenaaGreatDoor
set_option maxRecDepth 100000
set_option maxHeartbeats 8000000
open Go.RowKit Go.Lib

theorem KeptW.refl (wb : Nat) (w : World) : KeptW wb w w := ⟨Below.refl _ _, fun _ _ _ h _ _ => h⟩
theorem place_w (wb p i : Nat) (x y : Int) (xs : List Int) (w : World) (hW : WrAt w wb xs) (hx : I64r x) (hy : I64r y) (hp : ∀ W, KeptW wb w W → W.cell? ⟨p, i, none⟩ = some (.int .i64 x) ∧ W.cell? ⟨p, i + 1, none⟩ = some (.int .i64 y)) (hb : xs.length ≤ 90000) :
    Calls Tryz.prog 140 #[.iface 107 (.pointer (some ⟨wb, 0, none⟩)), .pointer (some ⟨p, i, none⟩)] w fun e w' => e = .returned (.tuple #[]) ∧ WrAt w' wb (xs ++ bytesOf [x, y]) ∧ KeptW wb w w' := by
  have wl := hW.lt
  have h0 := hp w (KeptW.refl wb w)
  obtain ⟨k0, k1⟩ := h0
  go_enter Tryz.func140, Tryz.ntmps140
  go_wp2_with fail
  refine AnyBut.region (S := fun _ => True) (t := 99) 9 rfl (by kernel_rfl) trivial ?_
  intro hS
  refine AnyBut.tk0 0 hS rfl (h := ?_); refine AnyBut.tk0 1 hS rfl (h := ?_); refine AnyBut.tk0 2 hS rfl (h := ?_); refine AnyBut.tk0 3 hS rfl (h := ?_); refine AnyBut.tk0 4 hS rfl (h := ?_); refine AnyBut.tk0 5 hS rfl (h := ?_); refine AnyBut.tk0 6 hS rfl (h := ?_)
  refine AnyBut.one (i := 7) rfl (by kernel_rfl) rfl ?_; intro K hK; go_simp; refine hK _ _ ?_ ?_ <;> clear hK K; rotate_left; intro hS; rotate_left
  · trivial
  refine AnyBut.one (i := 8) rfl (by kernel_rfl) rfl ?_; intro K hK
  go_wp2_with fail
  have hKa : ∀ W, KeptW wb ((w.alloc (.cells #[.pointer (some ⟨p, i, none⟩), .pointer (some ⟨p, i + 1, none⟩)] 161)).drew) W → KeptW wb w W := fun W h => (KeptW.of_below (by exact sBel) (Nat.le_of_lt wl)).trans h
  refine (numbers_w wb w.heap.size 2 2 161 [(p, i), (p, i + 1)] [x, y] xs _ (hW.call (by exact sBel)) (by decide) (by omega) (Block.drew (btop rfl)) rfl rfl ?_ (by simp; omega)).mono ?_
  · intro j q v hq hv
    rcases j with _ | _ | j
    · simp at hq hv
      subst hq hv
      exact ⟨hx, fun W h => (hp W (hKa W h)).1⟩
    · simp at hq hv
      subst hq hv
      exact ⟨hy, fun W h => (hp W (hKa W h)).2⟩
    · simp at hq
  rintro e w1 ⟨rfl, hW1, hK1⟩
  refine hK _ _ trivial ?_
  intro _
  refine AnyBut.done (by kernel_rfl) ?_
  go_end0
  exact ⟨rfl, hW1, hKa _ hK1⟩
theorem KeptW.pre {wb : Nat} {a b c : World} (hb : Below a.heap.size a b) (hw : wb < a.heap.size) (h : KeptW wb b c) : KeptW wb a c := (KeptW.of_below hb (Nat.le_of_lt hw)).trans h
theorem count_w (wb : Nat) (x : Int) (xs : List Int) (w : World) (hW : WrAt w wb xs) (hx : I64r x) (hb : xs.length ≤ 90000) :
    Calls Tryz.prog 521 #[.pointer (some ⟨wb, 0, none⟩), .int .i64 x] w fun e w' => e = .returned (.int .i64 x) ∧ WrAt w' wb (xs ++ bytesOf [x]) ∧ KeptW wb w w' := by
  have wl := hW.lt
  go_enter Tryz.func521, Tryz.ntmps521
  go_wp2_with fail
  have hc : (w.alloc (.cells #[.int .i64 x] 3)).cell? ⟨w.heap.size, 0, none⟩ = some (.int .i64 x) := by simp
  refine (number_w wb w.heap.size 0 x xs _ (hW.call (by exact sBel)) hc hx.1 hx.2 (by omega)).mono ?_
  rintro e w1 ⟨rfl, hW1, hK1⟩
  have hB : Block w1 w.heap.size 3 [.int .i64 x] := hK1.blk _ _ _ (btop rfl) (by decide) (by omega)
  obtain ⟨kl, kf, k0⟩ := hB.c1
  go_wp2_with fail
  go_returns
  exact ⟨rfl, by simpa [bytesOf] using hW1, KeptW.pre (by exact sBel) wl hK1⟩
theorem fine_w (wb : Nat) (w : World) : Calls Tryz.prog 522 #[.pointer (some ⟨wb, 0, none⟩)] w fun e w' => e = .returned (.bool true) ∧ w' = w := by
  go_enter Tryz.func522, Tryz.ntmps522
  go_wp2
  go_returns
  exact ⟨rfl, rfl⟩
theorem nil_count (a : Addr) (w : World) : (nilAhead 807 107 (.pointer (some a)) "apportion/config.count").run Tryz.prog w = .ok (some false) w := by kernel_rfl
end Go.Proofs.YthmhdaefkhcenaaGreatDoor
