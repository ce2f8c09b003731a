/- The walk of the kit's Pick. -/
import Derived.Test.YtkdgomalhngagaaDoorMem2
namespace Go.Proofs.YtkdgomalhngagaaDoor
open Go.RowKit

def Picked (n : Nat) (w : World) (e : Ending) (w' : World) : Prop := ∃ k : Nat, k < n ∧ e = .returned (.int .i64 k) ∧ w = w'
set_option maxRecDepth 100000 in
set_option maxHeartbeats 400000 in
theorem pick_any (x : Int) (n : Nat) (w : World) (h0 : -9223372036854775808 ≤ x) (h1 : x ≤ 9223372036854775807) (hn : 1 ≤ n) (hn2 : n ≤ 1000000) :
    Calls Tryd.prog 20 #[.int .i64 x, .int .i64 n] w (Picked n w) := by
  have hne : ((n : Int) == 0) = false := by simp; omega
  by_cases hx : 0 ≤ x
  · have hm1 := Int.emod_nonneg x (show (n : Int) ≠ 0 by omega)
    have hm2 := Int.emod_lt_of_pos x (show (0 : Int) < n by omega)
    obtain ⟨k, hk⟩ : ∃ k : Nat, x % n = k := ⟨(x % n).toNat, by omega⟩
    rw [hk] at hm1 hm2
    go_enter Tryd.func20, Tryd.ntmps20
    go_wp2
    go_ret
    exact ⟨k, by omega, by show Ending.returned (.int .i64 (x % n)) = _; rw [hk], rfl⟩
  · have hm1 : -(n : Int) < x.tmod n ∧ x.tmod n ≤ 0 := by
      have e : x.tmod n = -((-x).tmod n) := by rw [Int.neg_tmod]; simp
      have e2 : (-x).tmod n = (-x) % n := Int.tmod_eq_emod_of_nonneg (by omega)
      have h3 := Int.emod_nonneg (-x) (show (n : Int) ≠ 0 by omega)
      have h4 := Int.emod_lt_of_pos (-x) (show (0 : Int) < n by omega)
      omega
    obtain ⟨y, hy⟩ : ∃ y : Int, x.tmod n = y := ⟨_, rfl⟩
    rw [hy] at hm1
    obtain ⟨y0, y1⟩ := hm1
    by_cases hz : y < 0
    · obtain ⟨k, hk⟩ : ∃ k : Nat, y + n = k := ⟨(y + n).toNat, by omega⟩
      go_enter Tryd.func20, Tryd.ntmps20
      go_wp2
      go_ret
      exact ⟨k, by omega, rfl, rfl⟩
    · obtain rfl : y = 0 := by omega
      go_enter Tryd.func20, Tryd.ntmps20
      go_wp2
      go_ret
      exact ⟨0, by omega, rfl, rfl⟩
end Go.Proofs.YtkdgomalhngagaaDoor
