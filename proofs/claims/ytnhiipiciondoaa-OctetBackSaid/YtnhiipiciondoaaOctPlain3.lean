/- Plain laws of numbers, texts and lists as bytes: what is put is got; what is cut short is none; what is got is put. -/
import Derived.Test.YtnhiipiciondoaaOctGetL
namespace Go.Proofs.Ytnhiipiciondoaa
open Go.Lib
namespace Oct
theorem put_get (rest : List Int) (at_ len : Int) : ∀ (r i rank : Nat), rank < 128 ^ i → i ≤ 9 → (i = 0 ∨ 0 < r) → rank + r * 128 ^ i < 18446744073709551616 →
    getL (putN r ++ rest) i rank at_ len = (zag (rank + r * 128 ^ i), at_ + i + (putN r).length, 0, 0) := by
  intro r
  induction r using Nat.strongRecOn with
  | ind r ih =>
    intro i rank hr hi h0 hb
    by_cases h : r < 128
    · rw [putN_small h, List.singleton_append, getL]
      have h9 : ¬ (i = 9 ∧ 1 < (r : Int)) := by
        rintro ⟨rfl, h1⟩
        simp at hb
        omega
      rw [if_neg h9, if_neg (by omega), if_pos (by omega)]
      have e : ((r : Int) % 128).toNat = r := by omega
      rw [e]
      rfl
    · rw [putN_big h, List.cons_append, getL]
      have hi8 : i ≤ 8 := by
        rcases Nat.lt_or_ge i 9 with h1 | h1
        · omega
        · obtain rfl : i = 9 := by omega
          simp at hb
          omega
      rw [if_neg (by omega), if_neg (by omega), if_neg (by omega)]
      have e : (((r % 128 + 128 : Nat) : Int) % 128).toNat = r % 128 := by omega
      rw [e]
      have e2 : rank + r % 128 * 128 ^ i + r / 128 * 128 ^ (i + 1) = rank + r * 128 ^ i := by
        rw [Nat.pow_succ, Nat.mul_comm (128 ^ i) 128, ← Nat.mul_assoc, Nat.add_assoc, ← Nat.add_mul]
        congr 2
        omega
      rw [ih (r / 128) (by omega) (i + 1) _ (rank_next hr (by omega)) (by omega) (by omega) (by rw [e2]; exact hb), e2]
      simp only [List.length_cons, Prod.mk.injEq, and_true, true_and]
      omega
theorem put_cut (at_ len : Int) : ∀ (r i rank k : Nat), rank < 128 ^ i → i ≤ 9 → (i = 0 ∨ 0 < r) → rank + r * 128 ^ i < 18446744073709551616 → k < (putN r).length →
    getL ((putN r).take k) i rank at_ len = (0, 0, 4, len) := by
  intro r
  induction r using Nat.strongRecOn with
  | ind r ih =>
    intro i rank k hr hi h0 hb hk
    by_cases h : r < 128
    · rw [putN_small h] at hk ⊢
      obtain rfl : k = 0 := by simpa using hk
      rfl
    · rw [putN_big h] at hk ⊢
      rcases k with _ | k
      · rfl
      · rw [List.take_succ_cons, getL]
        have hi8 : i ≤ 8 := by
          rcases Nat.lt_or_ge i 9 with h1 | h1
          · omega
          · obtain rfl : i = 9 := by omega
            simp at hb
            omega
        rw [if_neg (by omega), if_neg (by omega), if_neg (by omega)]
        have e : (((r % 128 + 128 : Nat) : Int) % 128).toNat = r % 128 := by omega
        rw [e]
        have e2 : rank + r % 128 * 128 ^ i + r / 128 * 128 ^ (i + 1) = rank + r * 128 ^ i := by
          rw [Nat.pow_succ, Nat.mul_comm (128 ^ i) 128, ← Nat.mul_assoc, Nat.add_assoc, ← Nat.add_mul]
          congr 2
          omega
        simp only [List.length_cons] at hk
        exact ih (r / 128) (by omega) (i + 1) _ k (rank_next hr (by omega)) (by omega) (by omega) (by rw [e2]; exact hb) (by omega)
theorem getB_at {xs rest : List Int} {at_ : Nat} {n : Int} (hn : -9223372036854775808 ≤ n ∧ n ≤ 9223372036854775807) (h : xs.drop at_ = putN (zig n) ++ rest) :
    getB xs at_ = (n, ((at_ + (putN (zig n)).length : Nat) : Int), 0, 0) := by
  have hl : at_ ≤ xs.length := by
    have e : (xs.drop at_).length = _ := congrArg List.length h
    have := putN_pos (zig n)
    rw [List.length_drop, List.length_append] at e
    omega
  have hz := zig_lt n hn.1 hn.2
  unfold getB
  rw [if_neg (by omega), Int.toNat_natCast, h, put_get rest at_ xs.length (zig n) 0 0 (by simp) (by omega) (.inl rfl) (by simpa using hz)]
  simp only [Nat.pow_zero, Nat.mul_one, Nat.zero_add, zag_zig, Prod.mk.injEq, and_true, true_and]
  omega
theorem getB_cut {xs : List Int} {at_ k : Nat} {n : Int} (hn : -9223372036854775808 ≤ n ∧ n ≤ 9223372036854775807) (ha : at_ ≤ xs.length) (h : xs.drop at_ = (putN (zig n)).take k) (hk : k < (putN (zig n)).length) :
    getB xs at_ = (0, 0, 4, (xs.length : Int)) := by
  have hz := zig_lt n hn.1 hn.2
  unfold getB
  rw [if_neg (by omega), Int.toNat_natCast, h, put_cut at_ xs.length (zig n) 0 0 k (by simp) (by omega) (.inl rfl) (by simpa using hz) hk]
/-- What is got is put. -/
theorem get_put (at_ len : Int) : ∀ (l : List Int) (i rank : Nat), (∀ x ∈ l, 0 ≤ x ∧ x ≤ 255) → rank < 128 ^ i → i ≤ 9 → (getL l i rank at_ len).2.2.1 = 0 →
    ∃ r m : Nat, (getL l i rank at_ len).1 = zag (rank + r * 128 ^ i) ∧ (getL l i rank at_ len).2.1 = at_ + i + m ∧ putN r = l.take m ∧ m ≤ l.length ∧ (0 < i → 0 < r) ∧ rank + r * 128 ^ i < 18446744073709551616 := by
  intro l
  induction l with
  | nil => intro i rank _ _ _ h; simp [getL] at h
  | cons c t ih =>
    intro i rank hx hr hi h
    have hc := hx c (by simp)
    rw [getL] at h ⊢
    by_cases t1 : i = 9 ∧ 1 < c
    · rw [if_pos t1] at h; simp at h
    · rw [if_neg t1] at h ⊢
      by_cases t2 : 0 < i ∧ c = 0
      · rw [if_pos t2] at h; simp at h
      · rw [if_neg t2] at h ⊢
        by_cases t3 : c < 128
        · rw [if_pos t3] at h ⊢
          obtain ⟨r, rfl⟩ : ∃ r : Nat, c = r := ⟨c.toNat, by omega⟩
          have e : ((r : Int) % 128).toNat = r := by omega
          rw [e]
          refine ⟨r, 1, rfl, rfl, ?_, by simp, by omega, get_small i r rank hi hr (by omega) (by omega)⟩
          rw [putN_small (by omega)]; simp
        · rw [if_neg t3] at h ⊢
          have hi9 : i ≠ 9 := fun e => t1 ⟨e, by omega⟩
          obtain ⟨r, m, h1, h2, h3, h4, h5, h6⟩ := ih (i + 1) _ (fun x hx' => hx x (by simp [hx'])) (rank_next hr (by omega)) (by omega) h
          have hr0 := h5 (by omega)
          have e2 : rank + (c % 128).toNat * 128 ^ i + r * 128 ^ (i + 1) = rank + ((c % 128).toNat + 128 * r) * 128 ^ i := by
            rw [Nat.pow_succ, Nat.mul_comm (128 ^ i) 128, ← Nat.mul_assoc, Nat.add_assoc, ← Nat.add_mul, Nat.mul_comm r 128]
          rw [e2] at h1 h6
          refine ⟨(c % 128).toNat + 128 * r, m + 1, h1, by omega, ?_, by simp only [List.length_cons]; omega, by omega, h6⟩
          rw [putN_big (by omega), List.take_succ_cons, ← h3]
          congr 1
          · omega
          · congr 1; omega
theorem getB_put {xs : List Int} {at_ : Int} (hx : ∀ x ∈ xs, 0 ≤ x ∧ x ≤ 255) (h : (getB xs at_).2.2.1 = 0) :
    ∃ a m : Nat, at_ = a ∧ a + m ≤ xs.length ∧ (getB xs at_).2.1 = ((a + m : Nat) : Int) ∧ putN (zig (getB xs at_).1) = (xs.drop a).take m := by
  unfold getB at h ⊢
  split at h
  · simp at h
  · rename_i h0
    rw [if_neg h0]
    obtain ⟨r, m, h1, h2, h3, h4, h5, h6⟩ := get_put at_ xs.length (xs.drop at_.toNat) 0 0 (fun x hx' => hx x (List.mem_of_mem_drop hx')) (by simp) (by omega) h
    rw [List.length_drop] at h4
    refine ⟨at_.toNat, m, by omega, by omega, by rw [h2]; omega, ?_⟩
    rw [h1, zig_zag]
    simpa using h3
end Oct
theorem len_range (k : Nat) (h : k ≤ 65536) : -9223372036854775808 ≤ (k : Int) ∧ (k : Int) ≤ 9223372036854775807 := by omega
/-- A text that was put is got. -/
theorem getT_at {xs rest : List Int} {at_ : Nat} {s : ByteArray} {most : Int} (hs : s.size ≤ 65536) (hm : (s.size : Int) ≤ most) (h : xs.drop at_ = putT s ++ rest) :
    getT xs at_ most = (nums s, ((at_ + (putT s).length : Nat) : Int), 0, 0) := by
  have hn := len_range s.size hs
  have hB := Oct.getB_at (xs := xs) (at_ := at_) (n := s.size) (rest := nums s ++ rest) hn (by rw [h]; simp [putT])
  have hl : xs.length - (at_ + (Oct.putN (Oct.zig s.size)).length) ≥ s.size := by
    have e : (xs.drop at_).length = _ := congrArg List.length h
    rw [List.length_drop, List.length_append] at e
    simp only [putT, List.length_append, nums_len] at e
    have := Oct.putN_pos (Oct.zig s.size)
    omega
  have hd : (xs.drop (at_ + (Oct.putN (Oct.zig s.size)).length)).take s.size = nums s := by
    rw [← List.drop_drop, h, putT, List.append_assoc, List.drop_left, ← nums_len s, List.take_left]
  unfold getT
  rw [if_neg (by omega), hB]
  simp only [ne_eq, not_true_eq_false, if_false, Int.toNat_natCast]
  rw [if_neg (by omega), if_neg (by omega), tail_, if_neg (by omega), hd]
  simp only [Prod.mk.injEq, and_true, true_and, putT, List.length_append, nums_len]
  omega
theorem getT_cut {xs : List Int} {s : ByteArray} {k : Nat} {most : Int} (hs : s.size ≤ 65536) (hm : (s.size : Int) ≤ most) (h : xs = (putT s).take k) (hk : k < (putT s).length) :
    (getT xs 0 most).2.2.1 = 4 := by
  have hn := len_range s.size hs
  unfold getT
  rw [if_neg (by omega)]
  by_cases h1 : k < (Oct.putN (Oct.zig s.size)).length
  · have hB := Oct.getB_cut (xs := xs) (at_ := 0) (k := k) (n := s.size) hn (by omega) (by rw [h, List.drop_zero, putT, List.take_append_of_le_length (by omega)]) h1
    rw [show ((0 : Nat) : Int) = 0 from rfl] at hB
    rw [hB]; simp
  · have hB := Oct.getB_at (xs := xs) (at_ := 0) (n := s.size) (rest := (nums s).take (k - (Oct.putN (Oct.zig s.size)).length)) hn (by rw [h, List.drop_zero, putT, List.take_append, List.take_of_length_le (by omega)])
    rw [show ((0 : Nat) : Int) = 0 from rfl] at hB
    rw [hB]
    simp only [ne_eq, not_true_eq_false, if_false, Int.toNat_natCast]
    rw [if_neg (by omega), if_neg (by omega), tail_, if_pos]
    rw [h, List.length_take]
    simp only [putT, List.length_append, nums_len] at hk ⊢
    omega
/-- Numbers that were put are got. -/
theorem getMany_at : ∀ (l : List Int) (xs rest acc : List Int) (at_ : Nat), (∀ x ∈ l, -9223372036854775808 ≤ x ∧ x ≤ 9223372036854775807) → xs.drop at_ = putAll l ++ rest →
    getMany xs l.length at_ acc = (acc ++ l, ((at_ + (putAll l).length : Nat) : Int), 0, 0) := by
  intro l
  induction l with
  | nil => intro xs rest acc at_ _ _; simp [getMany, putAll]
  | cons x l ih =>
    intro xs rest acc at_ hx h
    have e1 : putAll (x :: l) = Oct.putN (Oct.zig x) ++ putAll l := by simp [putAll]
    rw [e1, List.append_assoc] at h
    have hB := Oct.getB_at (hx x (by simp)) h
    rw [List.length_cons, getMany, hB]
    simp only [ne_eq, not_true_eq_false, if_false]
    rw [ih xs rest (acc ++ [x]) _ (fun y hy => hx y (by simp [hy])) (by rw [← List.drop_drop, h, List.drop_left]), e1]
    simp only [List.append_assoc, List.singleton_append, List.length_append, Prod.mk.injEq, and_true, true_and]
    omega
theorem getLs_at {xs rest : List Int} {at_ : Nat} {l : List Int} {most : Int} (hl : l.length ≤ 65536) (hx : ∀ x ∈ l, -9223372036854775808 ≤ x ∧ x ≤ 9223372036854775807) (hm : (l.length : Int) ≤ most) (h : xs.drop at_ = putL l ++ rest) :
    getLs xs at_ most = (l, ((at_ + (putL l).length : Nat) : Int), 0, 0) := by
  have hn := len_range l.length hl
  have hB := Oct.getB_at (xs := xs) (at_ := at_) (n := l.length) (rest := putAll l ++ rest) hn (by rw [h]; simp [putL])
  unfold getLs
  rw [if_neg (by omega), hB]
  simp only [ne_eq, not_true_eq_false, if_false, Int.toNat_natCast]
  rw [if_neg (by omega), if_neg (by omega), getMany_at l xs rest [] _ hx (by rw [← List.drop_drop, h, putL, List.append_assoc, List.drop_left])]
  simp only [List.nil_append, putL, List.length_append, Prod.mk.injEq, and_true, true_and]
  omega
theorem getMany_cut : ∀ (l : List Int) (xs acc : List Int) (at_ k : Nat), (∀ x ∈ l, -9223372036854775808 ≤ x ∧ x ≤ 9223372036854775807) → at_ ≤ xs.length → xs.drop at_ = (putAll l).take k → k < (putAll l).length →
    (getMany xs l.length at_ acc).2.2.1 = 4 := by
  intro l
  induction l with
  | nil => intro xs acc at_ k _ _ _ h; simp [putAll] at h
  | cons x l ih =>
    intro xs acc at_ k hx ha h hk
    have e1 : putAll (x :: l) = Oct.putN (Oct.zig x) ++ putAll l := by simp [putAll]
    rw [e1] at h hk
    rw [List.length_cons, getMany]
    by_cases h1 : k < (Oct.putN (Oct.zig x)).length
    · rw [List.take_append_of_le_length (by omega)] at h
      have hB := Oct.getB_cut (hx x (by simp)) ha h h1
      rw [hB]; simp
    · rw [List.take_append, List.take_of_length_le (by omega)] at h
      have hB := Oct.getB_at (hx x (by simp)) h
      rw [hB]
      simp only [ne_eq, not_true_eq_false, if_false]
      have hlen : at_ + (Oct.putN (Oct.zig x)).length ≤ xs.length := by
        have e : (xs.drop at_).length = _ := congrArg List.length h
        rw [List.length_drop, List.length_append] at e
        have := Oct.putN_pos (Oct.zig x)
        omega
      exact ih xs (acc ++ [x]) _ (k - (Oct.putN (Oct.zig x)).length) (fun y hy => hx y (by simp [hy])) hlen (by rw [← List.drop_drop, h, List.drop_left]) (by rw [List.length_append] at hk; omega)
theorem getLs_cut {xs : List Int} {l : List Int} {k : Nat} {most : Int} (hl : l.length ≤ 65536) (hx : ∀ x ∈ l, -9223372036854775808 ≤ x ∧ x ≤ 9223372036854775807) (hm : (l.length : Int) ≤ most) (h : xs = (putL l).take k) (hk : k < (putL l).length) :
    (getLs xs 0 most).2.2.1 = 4 := by
  have hn := len_range l.length hl
  unfold getLs
  rw [if_neg (by omega)]
  by_cases h1 : k < (Oct.putN (Oct.zig l.length)).length
  · have hB := Oct.getB_cut (xs := xs) (at_ := 0) (k := k) (n := l.length) hn (by omega) (by rw [h, List.drop_zero, putL, List.take_append_of_le_length (by omega)]) h1
    rw [show ((0 : Nat) : Int) = 0 from rfl] at hB
    rw [hB]; simp
  · have hd : xs.drop 0 = Oct.putN (Oct.zig l.length) ++ (putAll l).take (k - (Oct.putN (Oct.zig l.length)).length) := by rw [h, List.drop_zero, putL, List.take_append, List.take_of_length_le (by omega)]
    have hB := Oct.getB_at (xs := xs) (at_ := 0) (n := l.length) hn hd
    rw [show ((0 : Nat) : Int) = 0 from rfl] at hB
    rw [hB]
    simp only [ne_eq, not_true_eq_false, if_false, Int.toNat_natCast]
    rw [if_neg (by omega), if_neg (by omega)]
    refine getMany_cut l xs [] _ (k - (Oct.putN (Oct.zig l.length)).length) hx ?_ ?_ ?_
    · rw [h, List.length_take, putL, List.length_append]
      simp only [putL, List.length_append] at hk
      omega
    · rw [Nat.zero_add, ← List.drop_zero (l := xs), hd, List.drop_left]
    · simp only [putL, List.length_append] at hk
      omega
/-- What is got is put. -/
theorem strOfNums_take (xs : List Int) : (strOfNums xs).size = xs.length := strOfNums_size xs
theorem nums_of (xs : List Int) (hx : ∀ x ∈ xs, 0 ≤ x ∧ x ≤ 255) : nums (strOfNums xs) = xs := by
  unfold nums
  rw [strOfNums_data, List.map_map]
  conv => rhs; rw [← List.map_id xs]
  refine List.map_congr_left fun x h => ?_
  have := hx x h
  simp only [Function.comp_apply, UInt8.toNat_ofNat', id]
  omega
theorem getT_put {xs : List Int} {most : Int} (hx : ∀ x ∈ xs, 0 ≤ x ∧ x ≤ 255) (h : (getT xs 0 most).2.2.1 = 0) :
    ∃ m : Nat, (getT xs 0 most).2.1 = m ∧ m ≤ xs.length ∧ putT (strOfNums (getT xs 0 most).1) = xs.take m ∧ (∀ x ∈ (getT xs 0 most).1, 0 ≤ x ∧ x ≤ 255) := by
  unfold getT at h ⊢
  split at h
  · simp at h
  · rename_i h0
    rw [if_neg h0]
    simp only at h ⊢
    split at h
    · rename_i h1; exact absurd h h1
    · rename_i h1
      rw [if_neg h1]
      split at h
      · simp at h
      · rename_i h2
        rw [if_neg h2]
        split at h
        · simp at h
        · rename_i h3
          rw [if_neg h3]
          obtain ⟨a, m, ha, hm, hnx, hp⟩ := Oct.getB_put hx (by simpa using h1)
          obtain rfl : a = 0 := by omega
          rw [List.drop_zero] at hp
          unfold tail_ at h ⊢
          split at h
          · simp at h
          · rename_i h4
            rw [if_neg h4]
            obtain ⟨n, hn⟩ : ∃ n : Nat, (Oct.getB xs 0).1 = n := ⟨(Oct.getB xs 0).1.toNat, by omega⟩
            rw [hnx, Nat.zero_add, Int.toNat_natCast] at h4 ⊢
            rw [hn, Int.toNat_natCast] at h4 ⊢
            rw [hn] at hp
            have hx2 : ∀ x ∈ (xs.drop m).take n, 0 ≤ x ∧ x ≤ 255 := fun x h => hx x (List.mem_of_mem_drop (List.mem_of_mem_take h))
            refine ⟨m + n, rfl, by omega, ?_, hx2⟩
            have hln : (strOfNums ((xs.drop m).take n)).size = n := by rw [strOfNums_size, List.length_take, List.length_drop]; omega
            rw [putT, hln, hp, nums_of _ hx2, List.take_add]
theorem getMany_put {xs : List Int} (hx : ∀ x ∈ xs, 0 ≤ x ∧ x ≤ 255) : ∀ (k : Nat) (at_ : Nat) (acc : List Int), at_ ≤ xs.length → (getMany xs k at_ acc).2.2.1 = 0 →
    ∃ (l : List Int) (m : Nat), l.length = k ∧ (getMany xs k at_ acc).1 = acc ++ l ∧ (getMany xs k at_ acc).2.1 = ((at_ + m : Nat) : Int) ∧ at_ + m ≤ xs.length ∧ putAll l = (xs.drop at_).take m ∧ (∀ x ∈ l, -9223372036854775808 ≤ x ∧ x ≤ 9223372036854775807) := by
  intro k
  induction k with
  | zero => intro at_ acc ha _; exact ⟨[], 0, rfl, by simp [getMany], rfl, by omega, by simp [putAll], by simp⟩
  | succ k ih =>
    intro at_ acc ha h
    rw [getMany] at h ⊢
    split at h
    · rename_i h1; exact absurd h h1
    · rename_i h1
      rw [if_neg h1]
      obtain ⟨a, m, hA, hm, hnx, hp⟩ := Oct.getB_put hx (by simpa using h1)
      obtain rfl : a = at_ := by omega
      have hr := (Oct.getB_facts xs a hx).1
      rw [hnx] at h ⊢
      obtain ⟨l, m2, h2, h3, h4, h5, h6, h7⟩ := ih (a + m) (acc ++ [(Oct.getB xs a).1]) hm h
      refine ⟨(Oct.getB xs a).1 :: l, m + m2, by simp [h2], by rw [h3]; simp, by rw [h4]; congr 1; omega, by omega, ?_, ?_⟩
      · have e1 : putAll ((Oct.getB xs a).1 :: l) = Oct.putN (Oct.zig (Oct.getB xs a).1) ++ putAll l := by simp [putAll]
        rw [e1, hp, h6, List.take_add, List.drop_drop]
      · intro x hx'
        rcases List.mem_cons.1 hx' with rfl | h8
        · exact hr
        · exact h7 x h8
theorem getLs_put {xs : List Int} {most : Int} (hx : ∀ x ∈ xs, 0 ≤ x ∧ x ≤ 255) (h : (getLs xs 0 most).2.2.1 = 0) :
    ∃ m : Nat, (getLs xs 0 most).2.1 = m ∧ m ≤ xs.length ∧ putL (getLs xs 0 most).1 = xs.take m ∧ (∀ x ∈ (getLs xs 0 most).1, -9223372036854775808 ≤ x ∧ x ≤ 9223372036854775807) ∧ (((getLs xs 0 most).1.length : Int) ≤ most) := by
  unfold getLs at h ⊢
  split at h
  · simp at h
  · rename_i h0
    rw [if_neg h0]
    simp only at h ⊢
    split at h
    · rename_i h1; exact absurd h h1
    · rename_i h1
      rw [if_neg h1]
      split at h
      · simp at h
      · rename_i h2
        rw [if_neg h2]
        split at h
        · simp at h
        · rename_i h3
          rw [if_neg h3]
          obtain ⟨a, m, ha, hm, hnx, hp⟩ := Oct.getB_put hx (by simpa using h1)
          obtain rfl : a = 0 := by omega
          rw [List.drop_zero] at hp
          obtain ⟨n, hn⟩ : ∃ n : Nat, (Oct.getB xs 0).1 = n := ⟨(Oct.getB xs 0).1.toNat, by omega⟩
          rw [hnx, Nat.zero_add] at h ⊢
          rw [hn] at h hp h3 ⊢
          rw [Int.toNat_natCast] at h ⊢
          obtain ⟨l, m2, h4, h5, h6, h7, h8, h9⟩ := getMany_put hx n m [] (by omega) h
          rw [h5, h6]
          simp only [List.nil_append]
          refine ⟨m + m2, rfl, by omega, ?_, h9, by omega⟩
          rw [putL, h4, hp, h8, List.take_add]
end Go.Proofs.Ytnhiipiciondoaa
