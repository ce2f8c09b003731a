/- Lemmas for it; no condition: OctBits OctPlain2. -/
import Derived.Test.YthmhdaefkhcenaaGreatDoorZ01
import Derived.Laws.BitsAllLaws
import Derived.Laws.BitsLemmas
import Derived.RowKit
set_option linter.unusedVariables false
set_option linter.unusedSimpArgs false
namespace Go.Proofs.YthmhdaefkhcenaaGreatDoor.Oct
open Go.RowKit

theorem nat_or128 : ∀ x : Nat, x < 256 → x ||| 128 = x % 128 + 128 := by decide +kernel
theorem u8_or128 (x : Int) (h0 : 0 ≤ x) (h1 : x < 256) : bits .or .u8 x 128 = x % 128 + 128 := by
  obtain ⟨n, rfl⟩ := Int.eq_ofNat_of_zero_le h0
  rw [show (128 : Int) = ((128 : Nat) : Int) from rfl, u8_or_nat n 128 (by omega) (by omega), nat_or128 n (by omega)]
  omega
theorem nat_xor_ones (x : Nat) (h : x < 18446744073709551616) : x ^^^ 18446744073709551615 = 18446744073709551615 - x := by
  have e : (BitVec.ofNat 64 x ^^^ BitVec.allOnes 64).toNat = (~~~ (BitVec.ofNat 64 x)).toNat := by rw [BitVec.xor_allOnes]
  rw [BitVec.toNat_xor, BitVec.toNat_not, BitVec.toNat_ofNat, BitVec.toNat_allOnes] at e
  rw [Nat.mod_eq_of_lt (by omega)] at e
  simpa using e
theorem zig_bits (n : Int) (h0 : -9223372036854775808 ≤ n) (h1 : n ≤ 9223372036854775807) :
    bits .xor .u64 (IntKind.u64.wrap (wrap64 (n * 2))) (IntKind.u64.wrap (n / 9223372036854775808)) = (zig n : Int) := by
  by_cases hn : 0 ≤ n
  · have e1 : IntKind.u64.wrap (wrap64 (n * 2)) = ((2 * n).toNat : Int) := by simp only [wrap64, IntKind.wrap_u64]; omega
    have e2 : IntKind.u64.wrap (n / 9223372036854775808) = ((0 : Nat) : Int) := by simp only [IntKind.wrap_u64]; omega
    rw [e1, e2, u64_xor_nat _ _ (by omega) (by omega), Nat.xor_zero]
    unfold zig; rw [if_pos hn]
  · have e1 : IntKind.u64.wrap (wrap64 (n * 2)) = ((18446744073709551615 - (-2 * n - 1).toNat : Nat) : Int) := by simp only [wrap64, IntKind.wrap_u64]; omega
    have e2 : IntKind.u64.wrap (n / 9223372036854775808) = ((18446744073709551615 : Nat) : Int) := by simp only [IntKind.wrap_u64]; omega
    rw [e1, e2, u64_xor_nat _ _ (by omega) (by omega), nat_xor_ones _ (by omega)]
    unfold zig; rw [if_neg hn]; omega
theorem nat_and127 : ∀ x : Nat, x < 256 → x &&& 127 = x % 128 := by decide +kernel
theorem u8_clear (x : Int) (h0 : 0 ≤ x) (h1 : x ≤ 255) : bits .andNot .u8 x 128 = x % 128 := by
  obtain ⟨n, rfl⟩ := Int.eq_ofNat_of_zero_le h0
  rw [show (128 : Int) = ((128 : Nat) : Int) from rfl, u8_andNot_nat n 128 (by omega) (by omega), nat_and127 n (by omega)]
  omega
theorem pow_or (r y j : Nat) (hr : r < 128 ^ j) : r ||| y * 128 ^ j = r + y * 128 ^ j := by
  have e : (128 : Nat) ^ j = 2 ^ (7 * j) := by rw [Nat.pow_mul]
  rw [e] at hr ⊢
  have := Nat.shiftLeft_add_eq_or_of_lt hr y
  rw [Nat.shiftLeft_eq] at this
  rw [Nat.or_comm, ← this]; omega
theorem get_small (j y rank : Nat) (hj : j ≤ 9) (hr : rank < 128 ^ j) (hy : y < 128) (h9 : ¬ (j = 9 ∧ 1 < y)) : rank + y * 128 ^ j < 18446744073709551616 := by
  rcases (by omega : j = 0 ∨ j = 1 ∨ j = 2 ∨ j = 3 ∨ j = 4 ∨ j = 5 ∨ j = 6 ∨ j = 7 ∨ j = 8 ∨ j = 9) with rfl | rfl | rfl | rfl | rfl | rfl | rfl | rfl | rfl | rfl <;> simp at hr ⊢ <;> omega
theorem get_or (rank j : Nat) (x : Int) (hj : j ≤ 9) (hr : rank < 128 ^ j) (h0 : 0 ≤ x) (h1 : x ≤ 255) (h9 : ¬ (j = 9 ∧ 1 < x)) :
    bits .or .u64 (rank : Int) (IntKind.u64.wrap (IntKind.u64.wrap (bits .andNot .u8 x 128) * 2 ^ (7 * j))) = ((rank + (x % 128).toNat * 128 ^ j : Nat) : Int) := by
  rw [u8_clear x h0 h1]
  obtain ⟨y, hy⟩ : ∃ y : Nat, x % 128 = y := ⟨(x % 128).toNat, by omega⟩
  have hs := get_small j y rank hj hr (by omega) (by omega)
  have e : (2 : Int) ^ (7 * j) = ((128 ^ j : Nat) : Int) := by rw [Int.natCast_pow, Int.pow_mul]; rfl
  rw [hy, e, show IntKind.u64.wrap (y : Int) = (y : Int) by rw [IntKind.wrap_u64]; omega, ← Int.natCast_mul]
  rw [show IntKind.u64.wrap ((y * 128 ^ j : Nat) : Int) = ((y * 128 ^ j : Nat) : Int) by rw [IntKind.wrap_u64]; omega]
  rw [u64_or_nat _ _ (by omega) (by omega), pow_or _ _ _ hr, Int.toNat_natCast]
theorem ofInt_nat (a : Nat) (ha : a < 18446744073709551616) : (BitVec.ofInt 64 (a : Int)).toNat = a := by
  rw [BitVec.ofInt_natCast, BitVec.toNat_ofNat]; exact Nat.mod_eq_of_lt (by omega)
theorem zag_bits (r : Nat) (h : r < 18446744073709551616) :
    bits .xor .i64 (wrap64 ((r : Int) / 2)) (wrap64 (-wrap64 (bits .and .u64 (r : Int) 1))) = zag r := by
  have e1 : bits .and .u64 (r : Int) 1 = ((r % 2 : Nat) : Int) := by
    rw [show (1 : Int) = ((1 : Nat) : Int) from rfl, u64_and_nat _ _ (by omega) (by omega), Nat.and_one_is_mod]
  rw [e1, show wrap64 ((r : Int) / 2) = ((r / 2 : Nat) : Int) by unfold wrap64; omega]
  unfold zag
  by_cases h2 : r % 2 = 0
  · rw [if_pos h2, h2, show wrap64 (-wrap64 ((0 : Nat) : Int)) = ((0 : Nat) : Int) by unfold wrap64; omega]
    show IntKind.i64.wrap ((BitVec.ofInt 64 ((r / 2 : Nat) : Int) ^^^ BitVec.ofInt 64 ((0 : Nat) : Int)).toNat : Int) = _
    rw [BitVec.toNat_xor, ofInt_nat _ (by omega), ofInt_nat _ (by omega), Nat.xor_zero, IntKind.wrap_i64]
    omega
  · rw [if_neg h2, show r % 2 = 1 by omega, show wrap64 (-wrap64 ((1 : Nat) : Int)) = (-1 : Int) by unfold wrap64; omega]
    show IntKind.i64.wrap ((BitVec.ofInt 64 ((r / 2 : Nat) : Int) ^^^ BitVec.ofInt 64 (-1)).toNat : Int) = _
    rw [BitVec.toNat_xor, ofInt_nat _ (by omega), show (BitVec.ofInt 64 (-1)).toNat = 18446744073709551615 from rfl, nat_xor_ones _ (by omega), IntKind.wrap_i64]
    omega
end Go.Proofs.YthmhdaefkhcenaaGreatDoor.Oct
namespace Go.Proofs.YthmhdaefkhcenaaGreatDoor.Oct
theorem zag_range (r : Nat) (h : r < 18446744073709551616) : -9223372036854775808 ≤ zag r ∧ zag r ≤ 9223372036854775807 := by unfold zag; split <;> omega
theorem getL_facts : ∀ (l : List Int) (i rank : Nat) (at_ len : Int), (∀ x ∈ l, 0 ≤ x ∧ x ≤ 255) → i ≤ 9 → rank < 128 ^ i →
    (-9223372036854775808 ≤ (getL l i rank at_ len).1 ∧ (getL l i rank at_ len).1 ≤ 9223372036854775807) ∧
    ((getL l i rank at_ len).2.2.1 = 0 → at_ + i < (getL l i rank at_ len).2.1 ∧ (getL l i rank at_ len).2.1 ≤ at_ + i + l.length) := by
  intro l
  induction l with
  | nil => intro i rank at_ len _ _ _; simp [getL]
  | cons c t ih =>
    intro i rank at_ len hx hi hr
    have hc := hx c (by simp)
    rw [getL]
    by_cases t1 : i = 9 ∧ 1 < c
    · rw [if_pos t1]; simp
    · rw [if_neg t1]
      by_cases t2 : 0 < i ∧ c = 0
      · rw [if_pos t2]; simp
      · rw [if_neg t2]
        by_cases t3 : c < 128
        · rw [if_pos t3]
          have hs := get_small i (c % 128).toNat rank hi hr (by omega) (by omega)
          have hz := zag_range _ hs
          refine ⟨hz, fun _ => ?_⟩
          simp only [List.length_cons]
          omega
        · rw [if_neg t3]
          have hi9 : i ≠ 9 := fun h => t1 ⟨h, by omega⟩
          have h := ih (i + 1) (rank + (c % 128).toNat * 128 ^ i) at_ len (fun x hx' => hx x (by simp [hx'])) (by omega) (rank_next hr (by omega))
          refine ⟨h.1, fun e => ?_⟩
          have h2 := h.2 e
          simp only [List.length_cons]
          omega
theorem getB_facts (xs : List Int) (at_ : Int) (hx : ∀ x ∈ xs, 0 ≤ x ∧ x ≤ 255) : (-9223372036854775808 ≤ (getB xs at_).1 ∧ (getB xs at_).1 ≤ 9223372036854775807) ∧
    ((getB xs at_).2.2.1 = 0 → at_ < (getB xs at_).2.1 ∧ (getB xs at_).2.1 ≤ xs.length ∧ 0 ≤ at_) := by
  unfold getB
  split
  · simp
  · rename_i h
    have hf := getL_facts (xs.drop at_.toNat) 0 0 at_ xs.length (fun x h => hx x (List.mem_of_mem_drop h)) (by omega) (by simp)
    refine ⟨hf.1, fun e => ?_⟩
    have h2 := hf.2 e
    rw [List.length_drop] at h2
    omega
end Go.Proofs.YthmhdaefkhcenaaGreatDoor.Oct
