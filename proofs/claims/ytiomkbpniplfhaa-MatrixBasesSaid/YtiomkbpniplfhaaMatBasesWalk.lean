/- The walk of the statement 'MatrixBases'. -/
import Derived.Test.YtiomkbpniplfhaaMatLaw
namespace Go.Proofs.Ytiomkbpniplfhaa
open Go.RowKit

set_option maxRecDepth 100000 in
set_option maxHeartbeats 8000000 in
theorem mbases_walk (x : S6) (_hx : x.In) (m u : Int) (w : World) (_ : -9223372036854775808 ≤ m ∧ m ≤ 9223372036854775807) (_ : -9223372036854775808 ≤ u ∧ u ≤ 9223372036854775807) :
    Calls Try.prog 4 #[(.agg #[.int .i64 x.a, .int .i64 x.b, .int .i64 x.c, .int .i64 x.d, .int .i64 x.e, .int .i64 x.f]), .int .i64 m, .int .i64 u] w fun e w' => e = .returned (.bool true) ∧ Below w.heap.size w w' := by
  have hb := fun w => base_any x m w
  have hrb := fun w => rbase_any x m w
  have hrt := fun w => rate_any x u w
  have hrrt := fun w => rrate_any x u w
  obtain ⟨V, hV⟩ : ∃ V, Mat.baseF x m = V := ⟨_, rfl⟩
  obtain ⟨R, hR⟩ : ∃ R, Mat.rateF x u = R := ⟨_, rfl⟩
  rw [hV] at hb hrb
  rw [hR] at hrt hrrt
  obtain ⟨V1, V2⟩ := V
  simp only at hb hrb
  clear hV hR
  go_enter Try.func4, Try.ntmps4
  go_wp2_with fail
  refine (hb _).mono ?_
  rintro e w1 ⟨rfl, hb1⟩
  have bel1 := bel_call (bel_alloc (Below.refl _ w) _) hb1
  have x1 : Block w1 w.heap.size 28 x.cs := (new_block (cs := x.cs) hb1).1
  obtain ⟨p1, p2, p3, p4, p5, p6⟩ := Block.six x1
  go_wp2_with fail
  refine (hrb _).mono ?_
  rintro e w2 ⟨rfl, hb2⟩
  have bel2 := bel_call bel1 hb2
  have x2 := x1.call hb2
  obtain ⟨q1, q2, q3, q4, q5, q6⟩ := Block.six x2
  clear p1 p2 p3 p4 p5 p6
  have t1 : (V1 == V1) = true := by simp
  have t2 : (V2 == V2) = true := by simp
  have t3 : (R == R) = true := by simp
  go_wp2_with fail
  go_region_held3 (fun w' => w'.cell? ⟨w.heap.size, 0, none⟩ = some (.int .i64 x.a) ∧ w'.cell? ⟨w.heap.size, 1, none⟩ = some (.int .i64 x.b) ∧ w'.cell? ⟨w.heap.size, 2, none⟩ = some (.int .i64 x.c) ∧ w'.cell? ⟨w.heap.size, 3, none⟩ = some (.int .i64 x.d) ∧ w'.cell? ⟨w.heap.size, 4, none⟩ = some (.int .i64 x.e) ∧ w'.cell? ⟨w.heap.size, 5, none⟩ = some (.int .i64 x.f)) (go_keep) (first
    | (go_at_call 18; refine (hrt _).mono ?_; rintro e w3 ⟨rfl, hb3⟩; have x3 := Block.call (w := w2.drew) x2 hb3; obtain ⟨y1, y2, y3, y4, y5, y6⟩ := Block.six x3)
    | (go_at_call 19; refine (hrrt _).mono ?_; rintro e w4 ⟨rfl, hb4⟩; have x4 := x3.call hb4; obtain ⟨z1, z2, z3, z4, z5, z6⟩ := Block.six x4)
    | (go_at_call 10; refine (awake_true _).mono ?_; rintro e w5 ⟨rfl, hb5⟩; have x5 := x4.call hb5; obtain ⟨v1, v2, v3, v4, v5, v6⟩ := Block.six x5))
  go_wp2_with fail
  go_ret
  exact ⟨rfl, bel_call (bel_call (bel_call (w := w) (bel_drewN bel2 1) hb3) hb4) hb5⟩
end Go.Proofs.Ytiomkbpniplfhaa
