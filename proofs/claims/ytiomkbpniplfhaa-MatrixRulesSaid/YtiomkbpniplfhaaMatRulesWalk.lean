/- The walks of the statements 'MatrixRules'. -/
import Derived.Test.YtiomkbpniplfhaaMatLaw
namespace Go.Proofs.Ytiomkbpniplfhaa
open Go.RowKit

set_option maxRecDepth 100000 in
set_option maxHeartbeats 8000000 in
theorem mrules_walk (A : Option Addr) (n c : Nat) (l : List S6) (jj q d : Int) (w : World) (ha : Shows w w.heap.size 6 A n (RC l)) (_hf : Fit6 l) (_ : n ≤ c) (_ : c ≤ maxLen) (_ : -9223372036854775808 ≤ jj ∧ jj ≤ 9223372036854775807) (_ : -9223372036854775808 ≤ q ∧ q ≤ 9223372036854775807) (_ : -9223372036854775808 ≤ d ∧ d ≤ 9223372036854775807) :
    Calls Try.prog 3 #[.slice A n c, .int .i64 jj, .int .i64 q, .int .i64 d] w fun e w' => e = .returned (.bool true) ∧ Below w.heap.size w w' := by
  have hB : w.heap.size ≤ w.heap.size := Nat.le_refl _
  by_cases h600 : 600 < n
  · go_enter Try.func3, Try.ntmps3
    go_wp2_with fail
    refine (awake_true _).mono ?_
    rintro e w1 ⟨rfl, hb1⟩
    go_wp2_with fail
    go_ret
    exact ⟨rfl, hb1⟩
  · obtain ⟨i0, hi, hz0, hz1, hz2⟩ := info_parts infoR
    have hm : n ≤ maxLen := by unfold maxLen; omega
    have ho : (w.alloc (.cells #[] 28)).ownsRow w.heap.size 28 6 (.slice (some ⟨w.heap.size, 0, none⟩) 0 0) 0 [] := (show Block _ _ 28 [] from Block.new w 28 []).owns (Nat.le_refl _) rfl (Nat.zero_le _)
    obtain ⟨E, hE⟩ : ∃ E, Mat.chk l = E := ⟨_, rfl⟩
    obtain ⟨x, bt, hx⟩ : ∃ x bt, Mat.hand (Mat.asF l jj q d) = (x, bt) := ⟨_, _, rfl⟩
    have hc := fun A' c' B w' h h' => check_any A' n c' l B w' h h' hm
    have hrc := fun A' c' B w' h h' => rcheck_any A' n c' l B w' h h' hm
    have has := fun A' c' B w' h h' => as_any A' n c' l jj q d B w' h h' hm hx
    have hras := fun A' c' B w' h h' => ras_any A' n c' l jj q d B w' h h' hm hx
    rw [hE] at hc hrc
    obtain ⟨E1, E2⟩ := E
    simp only at hc hrc
    clear hE hx
    go_enter Try.func3, Try.ntmps3
    go_wp2_with (at_builtin; refine wpList_append_shows _ rfl _ _ 22 rfl w.heap.size 28 i0 (.agg #[.int .i64 0, .int .i64 0, .int .i64 0, .int .i64 0, .int .i64 0, .int .i64 0]) 6 48 Try.underlying22 hi hz0 hz1 hz2 rfl (by decide) (.slice (some ⟨w.heap.size, 0, none⟩) 0 0) 0 [] rfl ho w.heap.size A n c (RC l) rfl (ha.alloc hB _) (rc_one _) (by unfold maxLen; omega) (by omega) (by simp) ?_; intro A1 c1 w1 hown1 hg1)
    have hown1 : w1.ownsRow w.heap.size 28 6 (.slice A1 (0 + n) c1) (0 + n) (RC l) := by simpa using hown1
    rw [Nat.zero_add] at hown1
    have bel1 : Below w.heap.size w w1 := bel_grown (bel_alloc (Below.refl _ _) _) hg1 (fun g hg => by simp [Value.ownBlock] at hg; omega)
    have k1 := Shows.of_own hown1
    clear hown1 hg1 ho
    go_wp2_with fail
    refine (hc _ _ _ _ k1 (Nat.le_refl _)).mono ?_
    rintro e w2 ⟨rfl, hb2⟩
    have bel2 := bel_call bel1 hb2
    have k2 := k1.call hb2 (Nat.le_refl _)
    have z2 := hb2.size
    go_wp2_with fail
    refine (hrc _ _ _ _ (ha.call bel2 hB) bel2.size).mono ?_
    rintro e w3 ⟨rfl, hb3⟩
    have bel3 := bel_call bel2 hb3
    have k3 := k2.call hb3 z2
    have z3 := Nat.le_trans z2 hb3.size
    go_wp2_with fail
    refine (has _ _ _ _ k3 z3).mono ?_
    rintro e w4 ⟨rfl, hb4⟩
    have bel4 := bel_alloc (bel_call bel3 hb4) (.cells x.cs.toArray 28)
    have k4 := (k3.call hb4 z3).alloc (Nat.le_trans z3 hb4.size) (.cells x.cs.toArray 28)
    have z4 : w1.heap.size ≤ (w4.alloc (.cells x.cs.toArray 28)).heap.size := Nat.le_trans (Nat.le_trans z3 hb4.size) (by simp)
    have x4 := Block.new w4 28 x.cs
    go_wp2_with fail
    refine (hras _ _ _ _ (ha.call bel4 hB) bel4.size).mono ?_
    rintro e w5 ⟨rfl, hb5⟩
    have bel5 := bel_alloc (bel_call bel4 hb5) (.cells x.cs.toArray 28)
    have k5 := (k4.call hb5 z4).alloc (Nat.le_trans z4 hb5.size) (.cells x.cs.toArray 28)
    have z5 : w1.heap.size ≤ (w5.alloc (.cells x.cs.toArray 28)).heap.size := Nat.le_trans (Nat.le_trans z4 hb5.size) (by simp)
    have x5 := (x4.call hb5).alloc (.cells x.cs.toArray 28)
    have y5 := Block.new w5 28 x.cs
    go_upto_region 8 with (fail)
    obtain ⟨W, hW⟩ : ∃ W, w5.alloc (.cells #[.int .i64 x.a, .int .i64 x.b, .int .i64 x.c, .int .i64 x.d, .int .i64 x.e, .int .i64 x.f] 28) = W := ⟨_, rfl⟩
    have bel5 : Below w.heap.size w W := hW ▸ bel5
    have k5 : Shows W w1.heap.size 6 A1 n (RC l) := hW ▸ k5
    have x5 : Block W w4.heap.size 28 x.cs := hW ▸ x5
    have y5 : Block W w5.heap.size 28 x.cs := hW ▸ y5
    rw [hW]
    clear hW z5
    obtain ⟨p1, p2, p3, p4, p5, p6⟩ := Block.six x5
    obtain ⟨q1, q2, q3, q4, q5, q6⟩ := Block.six y5
    clear hc hrc has hras
    go_wp2_with fail
    refine (same6_yes _ _ _ _ _ l _ _ _ k5 (ha.call bel5 hB) hm).mono ?_
    rintro e w8 ⟨rfl, m8, rfl⟩
    go_wp2_with fail
    refine (awake_true _).mono ?_
    rintro e w9 ⟨rfl, hb9⟩
    go_wp2_with fail
    go_ret
    exact ⟨rfl, bel_call (bel_drewN bel5 m8) hb9⟩
end Go.Proofs.Ytiomkbpniplfhaa
