/- The walks of 'apportionkit.Pick' and 'CopyBytes'. -/
import Derived.Test.YtnhiipiciondoaaOctPut
import Derived.Test.YtnhiipiciondoaaMem2
namespace Go.Proofs.Ytnhiipiciondoaa
open Go.RowKit

def Picked (n : Nat) (w : World) (e : Ending) (w' : World) : Prop := ∃ k : Nat, k < n ∧ e = .returned (.int .i64 k) ∧ w = w'
set_option maxRecDepth 100000 in
set_option maxHeartbeats 400000 in
theorem pick_any (x : Int) (n : Nat) (w : World) (h0 : -9223372036854775808 ≤ x) (h1 : x ≤ 9223372036854775807) (hn : 1 ≤ n) (hn2 : n ≤ 1000000) :
    Calls Try.prog 32 #[.int .i64 x, .int .i64 n] w (Picked n w) := by
  have hne : ((n : Int) == 0) = false := by simp; omega
  by_cases hx : 0 ≤ x
  · have hm1 := Int.emod_nonneg x (show (n : Int) ≠ 0 by omega)
    have hm2 := Int.emod_lt_of_pos x (show (0 : Int) < n by omega)
    obtain ⟨k, hk⟩ : ∃ k : Nat, x % n = k := ⟨(x % n).toNat, by omega⟩
    rw [hk] at hm1 hm2
    go_enter Try.func32, Try.ntmps32
    go_wp2
    go_ret
    exact ⟨k, by omega, by show Ending.returned (.int .i64 (x % n)) = _; rw [hk], rfl⟩
  · have hm1 : -(n : Int) < x.tmod n ∧ x.tmod n ≤ 0 := by
      have e : x.tmod n = -((-x).tmod n) := by rw [Int.neg_tmod]; simp
      have e2 : (-x).tmod n = (-x) % n := Int.tmod_eq_emod_of_nonneg (by omega)
      have h3 := Int.emod_nonneg (-x) (show (n : Int) ≠ 0 by omega)
      have h4 := Int.emod_lt_of_pos (-x) (show (0 : Int) < n by omega)
      omega
    obtain ⟨y, hy⟩ : ∃ y : Int, x.tmod n = y := ⟨_, rfl⟩
    rw [hy] at hm1
    obtain ⟨y0, y1⟩ := hm1
    by_cases hz : y < 0
    · obtain ⟨k, hk⟩ : ∃ k : Nat, y + n = k := ⟨(y + n).toNat, by omega⟩
      go_enter Try.func32, Try.ntmps32
      go_wp2
      go_ret
      exact ⟨k, by omega, rfl, rfl⟩
    · obtain rfl : y = 0 := by omega
      go_enter Try.func32, Try.ntmps32
      go_wp2
      go_ret
      exact ⟨0, by omega, rfl, rfl⟩
set_option maxRecDepth 100000 in
set_option maxHeartbeats 400000 in
theorem copyBytes_any (A : Option Addr) (n c : Nat) (xs : List Int) (B : Nat) (w : World) (ha : Shows w B 1 A n (U8 xs)) (hB : B ≤ w.heap.size) (hn : n ≤ 1000000) :
    Calls Try.prog 31 #[.slice A n c] w (Fresh 5 1 n (U8 xs) w) := by
  obtain ⟨i0, hi, hz0, hz1, hz2⟩ := info_parts infoU8
  go_enter Try.func31, Try.ntmps31
  have hl := ha.len
  have ho : (w.alloc (.cells #[] 5)).ownsRow w.heap.size 5 1 (.slice (some ⟨w.heap.size, 0, none⟩) 0 0) 0 [] := (show Block _ _ 5 [] from Block.new w 5 []).owns (Nat.le_refl _) rfl (Nat.zero_le _)
  go_wp2_with (at_builtin; refine wpList_append_shows _ rfl _ _ 23 rfl w.heap.size 5 i0 (.int .u8 0) 1 1 Try.underlying23 hi hz0 hz1 hz2 rfl (by decide) (.slice (some ⟨w.heap.size, 0, none⟩) 0 0) 0 [] rfl ho B A n c (U8 xs) rfl (ha.alloc hB _) (nums_one _ _) (by unfold maxLen; omega) (by omega) (by simp) ?_; intro A2 c2 w2 hown2 hg2)
  go_ret
  exact ⟨A2, c2, by simp, by simpa using hown2, bel_grown (bel_alloc (Below.refl _ _) _) hg2 (fun g hg => by simp [Value.ownBlock] at hg; omega)⟩
end Go.Proofs.Ytnhiipiciondoaa
