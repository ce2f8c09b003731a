/- The walk of 'apportionlaw05.awake': it is true. -/
import Derived.Test.YtnhiipiciondoaaOctPuts
import Derived.Test.YtnhiipiciondoaaOctGet
import Derived.Test.YtnhiipiciondoaaKitSame
namespace Go.Proofs.Ytnhiipiciondoaa
open Go.RowKit Go.Lib

theorem get_is {A : Option Addr} {n c : Nat} {xs : List Int} {at_ : Int} {B : Nat} {w : World} {r0 r1 r2 r3 : Int} (hr : Oct.getB xs at_ = (r0, r1, r2, r3)) (ha : Shows w B 1 A n (U8 xs)) (hn : n ≤ maxLen) (hB : B ≤ w.heap.size)
    (hc : n ≤ c) (hx : ∀ x ∈ xs, 0 ≤ x ∧ x ≤ 255) (h0 : -9223372036854775808 ≤ at_) (h1 : at_ ≤ 9223372036854775807) :
    Calls Try.prog 23 #[.slice A n c, .int .i64 at_] w fun e w' => e = .returned (.tuple #[.int .i64 r0, .int .i64 r1, .agg #[.int .i64 r2, .int .i64 r3]]) ∧ Below w.heap.size w w' :=
  (get_any A n c xs at_ B w ha hn hB hc hx h0 h1).mono fun e w' h => by rw [hr] at h; exact h
theorem aw1 : Oct.getB [128, 1] 0 = (64, 2, 0, 0) := by decide +kernel
theorem aw2 : Oct.putN (Oct.zig (-65)) = [129, 1] := by
  rw [show Oct.zig (-65) = 129 by decide, Oct.putN_big (by omega), Oct.putN_small (by omega)]; rfl
theorem aw3 : putT ⟨#[97, 98]⟩ = [4, 97, 98] := by
  unfold putT; rw [show Oct.zig ((⟨#[97, 98]⟩ : ByteArray).size : Int) = 4 by decide, Oct.putN_small (by omega)]; rfl
set_option maxRecDepth 100000 in
set_option maxHeartbeats 800000 in
theorem awake_true (w : World) : Calls Try.prog 11 #[] w fun e w' => e = .returned (.bool true) ∧ Below w.heap.size w w' := by
  go_enter Try.func11, Try.ntmps11
  go_wp2_with fail
  refine (get_is aw1 (show Shows (w.alloc (.cells #[.int .u8 128, .int .u8 1] 5)) _ 1 _ 2 _ from shows_built w (U8 [128, 1]) 5) (by unfold maxLen; decide) (by simp) (by decide) (by decide) (by decide) (by decide)).mono ?_
  rintro e w1 ⟨rfl, hb1⟩
  go_wp2_with fail
  refine (put_any _ _ (by decide) (by decide)).mono ?_
  rw [aw2]
  rintro e w2 ⟨A2, c2, rfl, hown2, hb2⟩
  go_wp2_with fail
  refine (same_any _ _ _ _ _ _ [129, 1] [129, 1] _ _ _ ((Shows.of_own hown2).alloc (Nat.le_refl _) _) (show Shows (w2.alloc (.cells #[.int .u8 129, .int .u8 1] 5)) _ 1 _ 2 _ from shows_built w2 (U8 [129, 1]) 5) (by decide) (by decide)).mono ?_
  rw [show sameB [129, 1] [129, 1] = true by decide]
  rintro e w3 ⟨rfl, rfl⟩
  have hc2 := hb2.cell (p := ⟨w1.heap.size, 0, none⟩) (by simp)
  rw [World.cell?_alloc_new] at hc2
  have hk : (w2.alloc (.cells #[.int .u8 129, .int .u8 1] 5)).cell? ⟨w1.heap.size, 0, none⟩ = some (.int .i64 0) := by
    rw [World.cell?_alloc_lt _ _ _ (by have := hb2.size; simp at this; exact this), hc2]; rfl
  clear hc2
  go_wp2_with fail
  have hs2 := hb2.size
  refine (putText_any _ _ (by decide)).mono ?_
  rw [aw3]
  rintro e w3 ⟨A3, c3, rfl, hown3, hb3⟩
  go_wp2_with fail
  refine (same_any _ _ _ _ _ _ [4, 97, 98] [4, 97, 98] _ _ _ ((Shows.of_own hown3).alloc (Nat.le_refl _) _) (show Shows (w3.alloc (.cells #[.int .u8 4, .int .u8 97, .int .u8 98] 5)) _ 1 _ 3 _ from shows_built w3 (U8 [4, 97, 98]) 5) (by decide) (by decide)).mono ?_
  rw [show sameB [4, 97, 98] [4, 97, 98] = true by decide]
  rintro e w4 ⟨rfl, rfl⟩
  go_wp2_with fail
  go_ret
  exact ⟨rfl, bel_alloc (bel_call (bel_alloc (bel_call (bel_alloc (bel_call (bel_alloc (Below.refl _ _) _) hb1) _) hb2) _) hb3) _⟩
end Go.Proofs.Ytnhiipiciondoaa
