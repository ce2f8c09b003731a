/- Plain mathematics of a reader; the walks of 'none', of the closure of 'number'. -/
import Derived.Test.YtnhiipiciondoaaOctGetL2
import Derived.Test.YtnhiipiciondoaaOctIs
import Derived.Deep.RegionHeld3
namespace Go.Proofs.Ytnhiipiciondoaa
open Go.RowKit Go.Lib

/-- The fault of a number that is read between two bounds. -/
def nfault (g : Int × Int × Int × Int) (at_ low high above : Int) : Int × Int :=
  if g.2.2.1 ≠ 0 then (g.2.2.1, g.2.2.2) else if high < g.1 then (above, at_) else if g.1 < low then (5, at_) else (0, g.2.2.2)
theorem block_top {W : World} {t : TypeId} {g : Nat} {cs : List Value} (hg : W.heap.size = g) : Block (W.alloc (.cells cs.toArray t)) g t cs := hg ▸ Block.new W t cs
/-- A reader in memory. -/
def RD (w : World) (R : Nat) (A : Option Addr) (n c : Nat) (at_ fe fa : Int) (made : Bool) : Prop :=
  Block w R 53 [.slice A n c, .int .i64 at_, .int .i64 fe, .int .i64 fa, .bool made]
set_option maxRecDepth 100000 in
set_option maxHeartbeats 1000000 in
theorem none_any (R : Nat) (A : Option Addr) (n c : Nat) (at_ fe fa : Int) (made : Bool) (w : World) (h : RD w R A n c at_ fe fa made) :
    Calls Try.prog 51 #[.pointer (some ⟨R, 0, none⟩)] w fun e w' => e = .returned (.bool (!made)) ∧ w = w' := by
  have c4 := Block.cell h 4
  simp only [List.getElem?_cons_succ, List.getElem?_cons_zero] at c4
  go_enter Try.func51, Try.ntmps51
  go_wp2_with fail
  go_ret
  exact ⟨rfl, rfl⟩
set_option maxRecDepth 100000 in
set_option maxHeartbeats 1000000 in
theorem none_nil (w : World) : Calls Try.prog 51 #[.pointer none] w fun e w' => e = .returned (.bool true) ∧ w = w' := by
  go_enter Try.func51, Try.ntmps51
  go_wp2_with fail
  go_ret
  exact ⟨rfl, rfl⟩
set_option maxRecDepth 100000 in
set_option maxHeartbeats 4000000 in
theorem number1_any (g0 g1 g2 g3 R : Nat) (A : Option Addr) (n c : Nat) (xs : List Int) (at_ fe fa low high above : Int) (made : Bool) (B : Nat) (w : World)
    (h0 : w.cell? ⟨g0, 0, none⟩ = some (.pointer (some ⟨R, 0, none⟩))) (h1 : w.cell? ⟨g1, 0, none⟩ = some (.int .i64 high)) (h2 : w.cell? ⟨g2, 0, none⟩ = some (.int .i64 above)) (h3 : w.cell? ⟨g3, 0, none⟩ = some (.int .i64 low))
    (hR : RD w R A n c at_ fe fa made) (ha : Shows w B 1 A n (U8 xs)) (hB : B ≤ w.heap.size) (hn : n ≤ maxLen) (hc : n ≤ c) (hx : ∀ x ∈ xs, 0 ≤ x ∧ x ≤ 255) (a0 : 0 ≤ at_) (a1 : at_ ≤ 9223372036854775807) {q0 q1 q2 q3 : Int} (hr : Oct.getB xs at_ = (q0, q1, q2, q3)) {f1 f2 : Int} (hf : nfault (q0, q1, q2, q3) at_ low high above = (f1, f2)) :
    Calls Try.prog 55 #[.pointer (some ⟨g0, 0, none⟩), .pointer (some ⟨g1, 0, none⟩), .pointer (some ⟨g2, 0, none⟩), .pointer (some ⟨g3, 0, none⟩)] w fun e w' =>
      e = .returned (.tuple #[.int .i64 q0, .int .i64 q1, .agg #[.int .i64 f1, .int .i64 f2]]) ∧ Below w.heap.size w w' := by
  have l0 := World.block_lt_of_cell? w _ h0
  have l1 := World.block_lt_of_cell? w _ h1
  have l2 := World.block_lt_of_cell? w _ h2
  have l3 := World.block_lt_of_cell? w _ h3
  have lR := Block.lt hR
  simp only at l0 l1 l2 l3
  have c0 : w.cell? ⟨R, 0, none⟩ = some (.slice A n c) := Block.cell hR 0
  have c1 : w.cell? ⟨R, 1, none⟩ = some (.int .i64 at_) := Block.cell hR 1
  have hg := fun w' (h : Shows w' B 1 A n (U8 xs)) (hB' : B ≤ w'.heap.size) => get_is (c := c) hr h hn hB' hc hx (by omega) a1
  have hA1 := hg ((w.alloc (.cells #[.int .i64 0, .int .i64 0] 37)).drew) ((ha.alloc hB _).drew) (by simp; omega)
  have hA2 := hg (((w.alloc (.cells #[.int .i64 0, .int .i64 0] 37)).alloc (.cells #[.int .i64 0, .int .i64 0] 37)).drew) (((ha.alloc hB _).alloc (by simp; omega) _).drew) (by simp; omega)
  have Hf := Lib.hid hf
  have n1 : ¬ g0 = w.heap.size + 1 := by omega
  have n2 : ¬ w.heap.size + 1 = g0 := by omega
  have n3 : ¬ R = w.heap.size + 1 := by omega
  have n4 : ¬ w.heap.size + 1 = R := by omega
  clear hg hr hf ha hx
  go_enter Try.func55, Try.ntmps55
  go_upto_region 1 with (fail)
  go_cut [7, 8, 9] (fun s7 s8 s9 wx => ∃ g : Nat, s7 = .int .i64 q0 ∧ s8 = .int .i64 q1 ∧ s9 = .pointer (some ⟨g, 0, none⟩) ∧ w.heap.size < g ∧ Block wx g 37 [.int .i64 q2, .int .i64 q3] ∧ Block wx w.heap.size 37 [.int .i64 0, .int .i64 0] ∧ Below w.heap.size w wx)
  case first =>
    go_region_held3 (fun w' => w'.cell? ⟨g0, 0, none⟩ = some (.pointer (some ⟨R, 0, none⟩)) ∧ w'.cell? ⟨R, 0, none⟩ = some (.slice A n c) ∧ w'.cell? ⟨R, 1, none⟩ = some (.int .i64 at_)) (go_keep) (first
      | (go_at_call 23; refine hA1.mono ?_; rintro e w1 ⟨rfl, hb1⟩; have bel1 := bel_call (w := w) (bel_drewN (bel_alloc (Below.refl _ _) _) 1) hb1; have k0 := (bel1.cell (p := ⟨g0, 0, none⟩) l0).trans h0; have k1 := (bel1.cell (p := ⟨R, 0, none⟩) lR).trans c0; have k2 := (bel1.cell (p := ⟨R, 1, none⟩) lR).trans c1)
      | (go_at_call 23; refine hA2.mono ?_; rintro e w1 ⟨rfl, hb1⟩; have bel2 := bel_call (w := w) (bel_drewN (bel_alloc (bel_alloc (Below.refl _ _) _) _) 1) hb1; have kz := Block.call (w := ((w.alloc (.cells #[.int .i64 0, .int .i64 0] 37)).alloc (.cells #[.int .i64 0, .int .i64 0] 37)).drew) (g := w.heap.size + 1) (t := 37) (cs := [.int .i64 0, .int .i64 0]) (block_top (by simp)) hb1; have z0 : w1.cell? ⟨w.heap.size + 1, 0, none⟩ = some (.int .i64 0) := kz.cell 0; have z1 : w1.cell? ⟨w.heap.size + 1, 1, none⟩ = some (.int .i64 0) := kz.cell 1; have zf := kz.free; have k0 := (bel2.cell (p := ⟨g0, 0, none⟩) l0).trans h0; have k1 := (bel2.cell (p := ⟨R, 0, none⟩) lR).trans c0; have k2 := (bel2.cell (p := ⟨R, 1, none⟩) lR).trans c1))
    · have k6 := Block.call (w := ((w.alloc (.cells #[.int .i64 0, .int .i64 0] 37)).drew)) (g := w.heap.size) (t := 37) (cs := [.int .i64 0, .int .i64 0]) (Block.new w 37 [.int .i64 0, .int .i64 0]) hb1
      have zl := bel1.size
      have zl2 := hb1.size
      go_wp2_with fail
      go_meet
      exact ⟨w1.heap.size, rfl, rfl, rfl, by simp at zl2; omega, Block.new w1 37 [.int .i64 q2, .int .i64 q3], k6.alloc _, bel_alloc bel1 _⟩
    · have k6 := Block.call (w := (((w.alloc (.cells #[.int .i64 0, .int .i64 0] 37)).alloc (.cells #[.int .i64 0, .int .i64 0] 37)).drew)) (g := w.heap.size) (t := 37) (cs := [.int .i64 0, .int .i64 0]) ((Block.new w 37 [.int .i64 0, .int .i64 0]).alloc _) hb1
      have zl := bel2.size
      go_wp2_with fail
      go_meet
      exact ⟨w.heap.size + 1, rfl, rfl, rfl, by omega, (kz.set 0 _).set 1 _, (k6.far (by simp) _).far (by simp) _, bel_set (bel_set bel2 (by simp) _) (by simp) _⟩
  case rest =>
    obtain ⟨g, rfl, rfl, rfl, hgl, hb9, hb6, bel⟩ := hcut
    have k0 := (bel.cell (p := ⟨g0, 0, none⟩) l0).trans h0
    have k1 := (bel.cell (p := ⟨g1, 0, none⟩) l1).trans h1
    have k2 := (bel.cell (p := ⟨g2, 0, none⟩) l2).trans h2
    have k3 := (bel.cell (p := ⟨g3, 0, none⟩) l3).trans h3
    have kR := (bel.cell (p := ⟨R, 1, none⟩) lR).trans c1
    have m1 : ¬ g = w.heap.size := by omega
    have m2 : ¬ w.heap.size = g := by omega
    have m3 : ¬ g = g0 := by omega
    have m4 : ¬ g0 = g := by omega
    have m5 : ¬ g = R := by omega
    have m6 : ¬ R = g := by omega
    have m7 : ¬ g = g2 := by omega
    have m8 : ¬ g2 = g := by omega
    have hfl := fun e p w => (show Calls Try.prog 44 #[.int .i64 e, .int .i64 p] w fun r w' => r = .returned (.agg #[.int .i64 e, .int .i64 p]) ∧ Below w.heap.size w w' from fault_any e p w)
    have hq := Hf.out
    unfold nfault at hq
    simp only at hq
    by_cases e2 : q2 = 0
    rotate_left
    · rw [if_pos e2] at hq
      have Hq := Lib.hid (Prod.mk.inj hq.symm)
      have k4 : (q2 == 0) = false := by simpa using e2
      have k5 : (q2 != 0) = true := by simpa using e2
      clear hq e2
      have z6a : wc.cell? ⟨w.heap.size, 0, none⟩ = some (.int .i64 0) := hb6.cell 0
      have z6b : wc.cell? ⟨w.heap.size, 1, none⟩ = some (.int .i64 0) := hb6.cell 1
      have z6f := hb6.free
      have z9a : wc.cell? ⟨g, 0, none⟩ = some (.int .i64 q2) := hb9.cell 0
      have z9b : wc.cell? ⟨g, 1, none⟩ = some (.int .i64 q3) := hb9.cell 1
      have z9f := hb9.free
      go_wp2_with fail
      go_region
      go_wp2_with fail
      exact ret_ttc (T := 37) rfl rfl rfl ((hb6.set 0 (.int .i64 q2)).set 1 (.int .i64 q3)).drew agg_fault size_fault ⟨by rw [Hq.out.1, Hq.out.2]; rfl, bel_drewN (bel_set (bel_set bel (Nat.le_refl _) _) (Nat.le_refl _) _) 1⟩
    subst e2
    rw [if_neg (by simp)] at hq
    by_cases e3 : high < q0
    · rw [if_pos e3] at hq
      have Hq := Lib.hid (Prod.mk.inj hq.symm)
      clear hq
      have z6a : wc.cell? ⟨w.heap.size, 0, none⟩ = some (.int .i64 0) := hb6.cell 0
      have z6b : wc.cell? ⟨w.heap.size, 1, none⟩ = some (.int .i64 0) := hb6.cell 1
      have z6f := hb6.free
      have z9a : wc.cell? ⟨g, 0, none⟩ = some (.int .i64 0) := hb9.cell 0
      have z9b : wc.cell? ⟨g, 1, none⟩ = some (.int .i64 q3) := hb9.cell 1
      have z9f := hb9.free
      go_wp2_with fail
      go_region_held3 (fun w' => w'.cell? ⟨g2, 0, none⟩ = some (.int .i64 above) ∧ w'.cell? ⟨g0, 0, none⟩ = some (.pointer (some ⟨R, 0, none⟩)) ∧ w'.cell? ⟨R, 1, none⟩ = some (.int .i64 at_)) (go_keep) (first
        | (go_at_call 44; refine (hfl _ _ _).mono ?_; rintro e w2 ⟨rfl, hb2⟩; have bel2 := bel_call (w := w) (bel_drewN bel 1) hb2; have y0 := (bel2.cell (p := ⟨g0, 0, none⟩) l0).trans h0; have y2 := (bel2.cell (p := ⟨g2, 0, none⟩) l2).trans h2; have yR := (bel2.cell (p := ⟨R, 1, none⟩) lR).trans c1; have b9 := Block.call (w := wc.drew) hb9 hb2; have b6 := Block.call (w := wc.drew) hb6 hb2; have x9a : w2.cell? ⟨g, 0, none⟩ = some (.int .i64 0) := b9.cell 0; have x9b : w2.cell? ⟨g, 1, none⟩ = some (.int .i64 q3) := b9.cell 1; have x9f := b9.free; have x6a : w2.cell? ⟨w.heap.size, 0, none⟩ = some (.int .i64 0) := b6.cell 0; have x6b : w2.cell? ⟨w.heap.size, 1, none⟩ = some (.int .i64 0) := b6.cell 1; have x6f := b6.free))
      go_wp2_with fail
      go_region
      go_wp2_with fail
      exact ret_ttc (T := 37) rfl rfl rfl ((((b6.far m2 _).far m2 _).set 0 (.int .i64 above)).set 1 (.int .i64 at_)).drew agg_fault size_fault ⟨by rw [Hq.out.1, Hq.out.2]; rfl, bel_drewN (bel_set (bel_set (bel_set (bel_set bel2 (Nat.le_of_lt hgl) _) (Nat.le_of_lt hgl) _) (Nat.le_refl _) _) (Nat.le_refl _) _) 1⟩
    rw [if_neg e3] at hq
    by_cases e4 : q0 < low
    · rw [if_pos e4] at hq
      have Hq := Lib.hid (Prod.mk.inj hq.symm)
      clear hq
      have z6a : wc.cell? ⟨w.heap.size, 0, none⟩ = some (.int .i64 0) := hb6.cell 0
      have z6b : wc.cell? ⟨w.heap.size, 1, none⟩ = some (.int .i64 0) := hb6.cell 1
      have z6f := hb6.free
      have z9a : wc.cell? ⟨g, 0, none⟩ = some (.int .i64 0) := hb9.cell 0
      have z9b : wc.cell? ⟨g, 1, none⟩ = some (.int .i64 q3) := hb9.cell 1
      have z9f := hb9.free
      go_wp2_with fail
      refine (hfl _ _ _).mono ?_
      rintro e w2 ⟨rfl, hb2⟩
      have bel2 := bel_call (w := w) bel hb2
      have b9 := Block.call hb9 hb2
      have b6 := Block.call hb6 hb2
      clear z6a z6b z6f z9a z9b z9f
      have x9a : w2.cell? ⟨g, 0, none⟩ = some (.int .i64 0) := b9.cell 0
      have x9b : w2.cell? ⟨g, 1, none⟩ = some (.int .i64 q3) := b9.cell 1
      have x9f := b9.free
      have x6a : w2.cell? ⟨w.heap.size, 0, none⟩ = some (.int .i64 0) := b6.cell 0
      have x6b : w2.cell? ⟨w.heap.size, 1, none⟩ = some (.int .i64 0) := b6.cell 1
      have x6f := b6.free
      go_wp2_with fail
      go_region
      go_wp2_with fail
      exact ret_ttc (T := 37) rfl rfl rfl ((((b6.far m2 _).far m2 _).set 0 (.int .i64 5)).set 1 (.int .i64 at_)).drew agg_fault size_fault ⟨by rw [Hq.out.1, Hq.out.2]; rfl, bel_drewN (bel_set (bel_set (bel_set (bel_set bel2 (Nat.le_of_lt hgl) _) (Nat.le_of_lt hgl) _) (Nat.le_refl _) _) (Nat.le_refl _) _) 1⟩
    rw [if_neg e4] at hq
    have Hq := Lib.hid (Prod.mk.inj hq.symm)
    clear hq
    have z6a : wc.cell? ⟨w.heap.size, 0, none⟩ = some (.int .i64 0) := hb6.cell 0
    have z6b : wc.cell? ⟨w.heap.size, 1, none⟩ = some (.int .i64 0) := hb6.cell 1
    have z6f := hb6.free
    have z9a : wc.cell? ⟨g, 0, none⟩ = some (.int .i64 0) := hb9.cell 0
    have z9b : wc.cell? ⟨g, 1, none⟩ = some (.int .i64 q3) := hb9.cell 1
    have z9f := hb9.free
    go_wp2_with fail
    go_region
    go_wp2_with fail
    exact ret_ttc (T := 37) rfl rfl rfl ((hb6.set 0 (.int .i64 0)).set 1 (.int .i64 q3)).drew agg_fault size_fault ⟨by rw [Hq.out.1, Hq.out.2]; rfl, bel_drewN (bel_set (bel_set bel (Nat.le_refl _) _) (Nat.le_refl _) _) 1⟩
end Go.Proofs.Ytnhiipiciondoaa
