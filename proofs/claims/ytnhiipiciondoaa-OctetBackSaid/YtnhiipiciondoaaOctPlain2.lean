/- More plain mathematics of numbers as bytes: what 'Get' answers. -/
import Derived.Test.YtnhiipiciondoaaOctBits
namespace Go.Proofs.Ytnhiipiciondoaa.Oct
theorem zag_range (r : Nat) (h : r < 18446744073709551616) : -9223372036854775808 ≤ zag r ∧ zag r ≤ 9223372036854775807 := by unfold zag; split <;> omega
theorem getL_facts : ∀ (l : List Int) (i rank : Nat) (at_ len : Int), (∀ x ∈ l, 0 ≤ x ∧ x ≤ 255) → i ≤ 9 → rank < 128 ^ i →
    (-9223372036854775808 ≤ (getL l i rank at_ len).1 ∧ (getL l i rank at_ len).1 ≤ 9223372036854775807) ∧
    ((getL l i rank at_ len).2.2.1 = 0 → at_ + i < (getL l i rank at_ len).2.1 ∧ (getL l i rank at_ len).2.1 ≤ at_ + i + l.length) := by
  intro l
  induction l with
  | nil => intro i rank at_ len _ _ _; simp [getL]
  | cons c t ih =>
    intro i rank at_ len hx hi hr
    have hc := hx c (by simp)
    rw [getL]
    by_cases t1 : i = 9 ∧ 1 < c
    · rw [if_pos t1]; simp
    · rw [if_neg t1]
      by_cases t2 : 0 < i ∧ c = 0
      · rw [if_pos t2]; simp
      · rw [if_neg t2]
        by_cases t3 : c < 128
        · rw [if_pos t3]
          have hs := get_small i (c % 128).toNat rank hi hr (by omega) (by omega)
          have hz := zag_range _ hs
          refine ⟨hz, fun _ => ?_⟩
          simp only [List.length_cons]
          omega
        · rw [if_neg t3]
          have hi9 : i ≠ 9 := fun h => t1 ⟨h, by omega⟩
          have h := ih (i + 1) (rank + (c % 128).toNat * 128 ^ i) at_ len (fun x hx' => hx x (by simp [hx'])) (by omega) (rank_next hr (by omega))
          refine ⟨h.1, fun e => ?_⟩
          have h2 := h.2 e
          simp only [List.length_cons]
          omega
theorem getB_facts (xs : List Int) (at_ : Int) (hx : ∀ x ∈ xs, 0 ≤ x ∧ x ≤ 255) : (-9223372036854775808 ≤ (getB xs at_).1 ∧ (getB xs at_).1 ≤ 9223372036854775807) ∧
    ((getB xs at_).2.2.1 = 0 → at_ < (getB xs at_).2.1 ∧ (getB xs at_).2.1 ≤ xs.length ∧ 0 ≤ at_) := by
  unfold getB
  split
  · simp
  · rename_i h
    have hf := getL_facts (xs.drop at_.toNat) 0 0 at_ xs.length (fun x h => hx x (List.mem_of_mem_drop h)) (by omega) (by simp)
    refine ⟨hf.1, fun e => ?_⟩
    have h2 := hf.2 e
    rw [List.length_drop] at h2
    omega
end Go.Proofs.Ytnhiipiciondoaa.Oct
