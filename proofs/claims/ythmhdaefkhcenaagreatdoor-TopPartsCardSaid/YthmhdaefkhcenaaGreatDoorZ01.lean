/- Lemmas for it; no condition: OctPlain. -/
set_option linter.unusedVariables false
set_option linter.unusedSimpArgs false
namespace Go.Proofs.YthmhdaefkhcenaaGreatDoor.Oct
def zig (n : Int) : Nat := if 0 ≤ n then (2 * n).toNat else (-2 * n - 1).toNat
def zag (r : Nat) : Int := if r % 2 = 0 then ((r / 2 : Nat) : Int) else -((r / 2 : Nat) : Int) - 1
theorem zag_zig (n : Int) : zag (zig n) = n := by unfold zag zig; split <;> split <;> omega
theorem zig_zag (r : Nat) : zig (zag r) = r := by unfold zag zig; split <;> split <;> omega
theorem zig_inj {n m : Int} (h : zig n = zig m) : n = m := by rw [← zag_zig n, h, zag_zig]
theorem zig_lt (n : Int) (h0 : -9223372036854775808 ≤ n) (h1 : n ≤ 9223372036854775807) : zig n < 18446744073709551616 := by unfold zig; split <;> omega
def putN (r : Nat) : List Int := if r < 128 then [(r : Int)] else ((r % 128 + 128 : Nat) : Int) :: putN (r / 128)
termination_by r
theorem putN_small {r : Nat} (h : r < 128) : putN r = [(r : Int)] := by rw [putN, if_pos h]
theorem putN_big {r : Nat} (h : ¬ r < 128) : putN r = ((r % 128 + 128 : Nat) : Int) :: putN (r / 128) := by rw [putN, if_neg h]
theorem putN_pos (r : Nat) : 1 ≤ (putN r).length := by
  by_cases h : r < 128
  · rw [putN_small h]; simp
  · rw [putN_big h]; simp
theorem putN_len (k : Nat) : ∀ r, r < 128 ^ (k + 1) → (putN r).length ≤ k + 1 := by
  induction k with
  | zero => intro r h; rw [putN_small (by simpa using h)]; simp
  | succ k ih =>
    intro r h
    by_cases h1 : r < 128
    · rw [putN_small h1]; simp
    · rw [putN_big h1]
      have := ih (r / 128) (by rw [Nat.div_lt_iff_lt_mul (by omega)]; rw [Nat.pow_succ] at h; exact h)
      simp only [List.length_cons]; omega
theorem putN_len10 {r : Nat} (h : r < 18446744073709551616) : (putN r).length ≤ 10 := putN_len 9 r (by omega)
theorem putN_mono : ∀ r s : Nat, r ≤ s → (putN r).length ≤ (putN s).length := by
  intro r
  induction r using Nat.strongRecOn with
  | ind r ih =>
    intro s hs
    by_cases h1 : r < 128
    · rw [putN_small h1]; exact putN_pos s
    · rw [putN_big h1, putN_big (show ¬ s < 128 by omega)]
      have := ih (r / 128) (by omega) (s / 128) (by omega)
      simp only [List.length_cons]; omega
theorem putN_bytes (r : Nat) : ∀ x ∈ putN r, 0 ≤ x ∧ x ≤ 255 := by
  induction r using Nat.strongRecOn with
  | ind r ih =>
    by_cases h1 : r < 128
    · rw [putN_small h1]; intro x hx; simp at hx; omega
    · rw [putN_big h1]; intro x hx
      rcases List.mem_cons.1 hx with h | h
      · subst h; omega
      · exact ih (r / 128) (by omega) x h
theorem putN_apart : ∀ r s : Nat, r ≠ s → ∀ k, k = min (putN r).length (putN s).length → (putN r).take k ≠ (putN s).take k := by
  intro r
  induction r using Nat.strongRecOn with
  | ind r ih =>
    intro s hs k hk
    by_cases h1 : r < 128
    · rw [putN_small h1] at hk ⊢
      by_cases h2 : s < 128
      · rw [putN_small h2] at hk ⊢; simp at hk; subst hk; simp; omega
      · rw [putN_big h2] at hk ⊢; simp at hk
        have : k = 1 := by omega
        subst this; simp; omega
    · by_cases h2 : s < 128
      · rw [putN_big h1, putN_small h2] at hk ⊢; simp at hk
        have : k = 1 := by omega
        subst this; simp; omega
      · rw [putN_big h1, putN_big h2] at hk ⊢
        simp only [List.length_cons] at hk
        obtain ⟨j, rfl⟩ : ∃ j, k = j + 1 := ⟨min (putN (r / 128)).length (putN (s / 128)).length, by omega⟩
        simp only [List.take_succ_cons]
        intro he
        injection he with ha hb
        exact ih (r / 128) (by omega) (s / 128) (by omega) j (by omega) hb
theorem zig_mono_pos {n m : Int} (h0 : 0 ≤ n) (h : n ≤ m) : zig n ≤ zig m := by unfold zig; split <;> split <;> omega
theorem zig_mono_neg {n m : Int} (h0 : n < 0) (h : m ≤ n) : zig n ≤ zig m := by unfold zig; split <;> split <;> omega
def getL : List Int → Nat → Nat → Int → Int → Int × Int × Int × Int
  | [], _, _, _, len => (0, 0, 4, len)
  | c :: t, i, rank, at_, len =>
    if i = 9 ∧ 1 < c then (0, 0, 5, at_ + i) else if 0 < i ∧ c = 0 then (0, 0, 4, at_ + i) else
    if c < 128 then (zag (rank + (c % 128).toNat * 128 ^ i), at_ + i + 1, 0, 0) else getL t (i + 1) (rank + (c % 128).toNat * 128 ^ i) at_ len
def getB (l : List Int) (at_ : Int) : Int × Int × Int × Int :=
  if at_ < 0 ∨ (l.length : Int) < at_ then (0, 0, 5, 0) else getL (l.drop at_.toNat) 0 0 at_ l.length
theorem drop_at {xs : List Int} {m : Nat} {x : Int} (h : xs[m]? = some x) : xs.drop m = x :: xs.drop (m + 1) := by
  obtain ⟨hm, rfl⟩ := List.getElem?_eq_some_iff.1 h
  exact List.drop_eq_getElem_cons hm
section
variable {xs : List Int} {k j rank : Nat} {x at_ len : Int}
theorem getL_end (h : xs.length ≤ k + j) : getL (xs.drop (k + j)) j rank at_ len = (0, 0, 4, len) := by rw [List.drop_eq_nil_of_le h]; rfl
theorem getL_range (h : xs[k + j]? = some x) (t1 : j = 9 ∧ 1 < x) : getL (xs.drop (k + j)) j rank at_ len = (0, 0, 5, at_ + j) := by rw [drop_at h, getL, if_pos t1]
theorem getL_zero (h : xs[k + j]? = some x) (t1 : ¬ (j = 9 ∧ 1 < x)) (t2 : 0 < j ∧ x = 0) : getL (xs.drop (k + j)) j rank at_ len = (0, 0, 4, at_ + j) := by rw [drop_at h, getL, if_neg t1, if_pos t2]
theorem getL_last (h : xs[k + j]? = some x) (t1 : ¬ (j = 9 ∧ 1 < x)) (t2 : ¬ (0 < j ∧ x = 0)) (t3 : x < 128) :
    getL (xs.drop (k + j)) j rank at_ len = (zag (rank + (x % 128).toNat * 128 ^ j), at_ + j + 1, 0, 0) := by rw [drop_at h, getL, if_neg t1, if_neg t2, if_pos t3]
theorem getL_more (h : xs[k + j]? = some x) (t1 : ¬ (j = 9 ∧ 1 < x)) (t2 : ¬ (0 < j ∧ x = 0)) (t3 : ¬ x < 128) :
    getL (xs.drop (k + j)) j rank at_ len = getL (xs.drop (k + (j + 1))) (j + 1) (rank + (x % 128).toNat * 128 ^ j) at_ len := by rw [drop_at h, getL, if_neg t1, if_neg t2, if_neg t3]; rfl
end
theorem rank_next {j rank y : Nat} (hr : rank < 128 ^ j) (hy : y < 128) : rank + y * 128 ^ j < 128 ^ (j + 1) := by
  have : y * 128 ^ j ≤ 127 * 128 ^ j := Nat.mul_le_mul_right _ (by omega)
  rw [Nat.pow_succ]; omega
end Go.Proofs.YthmhdaefkhcenaaGreatDoor.Oct
