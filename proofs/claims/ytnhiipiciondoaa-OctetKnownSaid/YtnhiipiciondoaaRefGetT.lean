/- The walks of the document's 'GetText', 'GetList'. -/
import Derived.Test.YtnhiipiciondoaaRefGets
namespace Go.Proofs.Ytnhiipiciondoaa
open Go.RowKit Go.Lib

theorem getT_len (xs : List Int) (at_ most : Int) : getT xs at_ most = if (lenB xs at_ most).2.2.1 ≠ 0 then ([], 0, (lenB xs at_ most).2.2.1, (lenB xs at_ most).2.2.2) else tail_ xs (lenB xs at_ most).1.toNat (lenB xs at_ most).2.1.toNat := by
  unfold getT lenB
  by_cases h1 : most < 0
  · simp [h1]
  · rw [if_neg h1, if_neg h1]
    simp only
    by_cases h2 : (Oct.getB xs at_).2.2.1 ≠ 0
    · rw [if_pos h2, if_pos h2]; simp [h2]
    · rw [if_neg h2, if_neg h2]
      by_cases h3 : (Oct.getB xs at_).1 < 0
      · rw [if_pos h3, if_pos h3]; simp
      · rw [if_neg h3, if_neg h3]
        by_cases h4 : most < (Oct.getB xs at_).1
        · rw [if_pos h4, if_pos h4]; simp
        · rw [if_neg h4, if_neg h4]; simp
theorem getLs_len (xs : List Int) (at_ most : Int) : getLs xs at_ most = if (lenB xs at_ most).2.2.1 ≠ 0 then ([], 0, (lenB xs at_ most).2.2.1, (lenB xs at_ most).2.2.2) else getMany xs (lenB xs at_ most).1.toNat (lenB xs at_ most).2.1 [] := by
  unfold getLs lenB
  by_cases h1 : most < 0
  · simp [h1]
  · rw [if_neg h1, if_neg h1]
    simp only
    by_cases h2 : (Oct.getB xs at_).2.2.1 ≠ 0
    · rw [if_pos h2, if_pos h2]; simp [h2]
    · rw [if_neg h2, if_neg h2]
      by_cases h3 : (Oct.getB xs at_).1 < 0
      · rw [if_pos h3, if_pos h3]; simp
      · rw [if_neg h3, if_neg h3]
        by_cases h4 : most < (Oct.getB xs at_).1
        · rw [if_pos h4, if_pos h4]; simp
        · rw [if_neg h4, if_neg h4]; simp
/-- What a length is, if it is one. -/
theorem lenB_good {xs : List Int} {at_ most : Int} (hx : ∀ x ∈ xs, 0 ≤ x ∧ x ≤ 255) (h : (lenB xs at_ most).2.2.1 = 0) : ∃ n nx : Nat, lenB xs at_ most = ((n : Int), (nx : Int), 0, (lenB xs at_ most).2.2.2) ∧ (n : Int) ≤ 9223372036854775807 ∧ nx ≤ xs.length ∧ (lenB xs at_ most).2.2.2 = 0 := by
  have hf := Oct.getB_facts xs at_ hx
  unfold lenB at h ⊢
  by_cases h1 : most < 0
  · simp [h1] at h
  · rw [if_neg h1] at h ⊢
    simp only at h ⊢
    by_cases h2 : (Oct.getB xs at_).2.2.1 ≠ 0
    · rw [if_pos h2] at h; exact absurd h h2
    · rw [if_neg h2] at h ⊢
      by_cases h3 : (Oct.getB xs at_).1 < 0
      · rw [if_pos h3] at h; simp at h
      · rw [if_neg h3] at h ⊢
        by_cases h4 : most < (Oct.getB xs at_).1
        · rw [if_pos h4] at h; simp at h
        · rw [if_neg h4]
          have hg := hf.2 (by simpa using h2)
          refine ⟨(Oct.getB xs at_).1.toNat, (Oct.getB xs at_).2.1.toNat, ?_, ?_, ?_, rfl⟩
          · rw [Int.toNat_of_nonneg (by omega), Int.toNat_of_nonneg (by omega)]
          · rw [Int.toNat_of_nonneg (by omega)]; exact hf.1.2
          · omega
set_option maxRecDepth 100000 in
set_option maxHeartbeats 2000000 in
theorem refGetText_any (A : Option Addr) (len c : Nat) (xs : List Int) (at_ most : Int) (B : Nat) (w : World) (ha : Shows w B 1 A len (U8 xs)) (hB : B ≤ w.heap.size)
    (hlen : len ≤ 70000) (hc : len ≤ c) (hx : ∀ x ∈ xs, 0 ≤ x ∧ x ≤ 255) (a0 : -9223372036854775808 ≤ at_) (a1 : at_ ≤ 9223372036854775807) :
    Calls Try.prog 26 #[.slice A len c, .int .i64 at_, .int .i64 most] w fun e w' =>
      e = .returned (tv (getT xs at_ most).1 (getT xs at_ most).2.1 (getT xs at_ most).2.2.1 (getT xs at_ most).2.2.2) ∧ Below w.heap.size w w' := by
  have hl : xs.length = len := by have := ha.len; simpa [U8] using this
  have hg := fun w' (h : Shows w' B 1 A len (U8 xs)) (hB' : B ≤ w'.heap.size) => refLength_any A len c xs at_ most B w' h hB' hlen hc hx a0 a1
  have hgood := lenB_good (at_ := at_) (most := most) hx
  rw [getT_len]
  generalize lenB xs at_ most = r at *
  obtain ⟨r0, r1, r2, r3⟩ := r
  simp only [gv, fv] at hg hgood ⊢
  by_cases t1 : r2 = 0
  · subst t1
    obtain ⟨n, nx, he, hn, hnx, hz⟩ := hgood rfl
    simp only [Prod.mk.injEq] at he hz
    obtain ⟨rfl, rfl, -⟩ := he
    subst hz
    simp only [ne_eq, not_true_eq_false, if_false, Int.toNat_natCast]
    rw [hl] at hnx
    clear hgood
    by_cases h : len - nx < n
    · have e : tail_ xs n nx = ([], 0, 4, (len : Int)) := by unfold tail_; rw [hl, if_pos h]
      rw [e]
      have h2 : (len : Int) - nx < n := by omega
      clear e hl
      go_enter Try.func26, Try.ntmps26
      go_wp2_with fail
      refine (hg _ (ha.alloc hB _) (by simp; omega)).mono ?_
      rintro e w1 ⟨rfl, hb1⟩
      obtain ⟨hblk, z1⟩ := new_block (cs := [.int .i64 0, .int .i64 0]) hb1
      have c0 := hblk.cell 0
      have c1 := hblk.cell 1
      have u0 := hblk.free 0
      have u1 := hblk.free 1
      simp only [List.getElem?_cons_zero, List.getElem?_cons_succ] at c0 c1
      go_wp2_with fail
      exact ret_ttc (T := 37) rfl rfl rfl (((hblk.set 0 (.int .i64 4)).set 1 (.int .i64 len)).alloc _) agg_fault size_fault
        ⟨by simp [tv, fv, strOfNums], bel_alloc (bel_set (bel_set (bel_call (bel_alloc (Below.refl _ _) _) hb1) (Nat.le_refl _) _) (Nat.le_refl _) _) _⟩
    · have e : tail_ xs n nx = ((xs.drop nx).take n, ((nx + n : Nat) : Int), 0, 0) := by unfold tail_; rw [hl, if_neg h]
      rw [e]
      have h2 : ¬ (len : Int) - nx < n := by omega
      obtain ⟨A2, hcut, hsh⟩ := cut_mid (P := Try.prog) 1 Try.underlying23 size_u8 A len c nx n (by omega) hc
      clear e hl
      go_enter Try.func26, Try.ntmps26
      go_wp2_with fail
      refine (hg _ (ha.alloc hB _) (by simp; omega)).mono ?_
      rintro e w1 ⟨rfl, hb1⟩
      have s2 := (hsh _ _ _ ((ha.alloc hB _).call hb1 (by simp; omega))).alloc (by have := hb1.size; simp at this; omega) (.cells #[.int .i64 0, .int .i64 0] 37)
      rw [show ((U8 xs).drop (nx * 1)).take (n * 1) = U8 ((xs.drop nx).take n) by simp [U8]] at s2
      have hconv := conv_shows (c - nx) s2
      clear s2 hsh
      obtain ⟨hblk, z1⟩ := new_block (cs := [.int .i64 0, .int .i64 0]) hb1
      have c0 := hblk.cell 0
      have c1 := hblk.cell 1
      have u0 := hblk.free 0
      have u1 := hblk.free 1
      simp only [List.getElem?_cons_zero, List.getElem?_cons_succ] at c0 c1
      go_wp2_with fail
      exact ret_ttc (T := 37) rfl rfl rfl (((hblk.set 0 (.int .i64 0)).set 1 (.int .i64 0)).alloc _) agg_fault size_fault
        ⟨by simp [tv, fv], bel_alloc (bel_set (bel_set (bel_call (bel_alloc (Below.refl _ _) _) hb1) (Nat.le_refl _) _) (Nat.le_refl _) _) _⟩
  · simp only [ne_eq, t1, not_false_eq_true, if_true]
    have t1b : (r2 == 0) = false := by simpa using t1
    have t1c : (r2 != 0) = true := by simpa using t1
    clear hgood
    go_enter Try.func26, Try.ntmps26
    go_wp2_with fail
    refine (hg _ (ha.alloc hB _) (by simp; omega)).mono ?_
    rintro e w1 ⟨rfl, hb1⟩
    obtain ⟨hblk, z1⟩ := new_block (cs := [.int .i64 0, .int .i64 0]) hb1
    have c0 := hblk.cell 0
    have c1 := hblk.cell 1
    have u0 := hblk.free 0
    have u1 := hblk.free 1
    simp only [List.getElem?_cons_zero, List.getElem?_cons_succ] at c0 c1
    go_wp2_with fail
    go_region
    go_wp2_with fail
    exact ret_ttc (T := 37) rfl rfl rfl (((hblk.set 0 (.int .i64 r2)).set 1 (.int .i64 r3)).alloc _).drew agg_fault size_fault
      ⟨by simp [tv, fv, strOfNums], (bel_alloc (bel_set (bel_set (bel_call (bel_alloc (Below.refl _ _) _) hb1) (Nat.le_refl _) _) (Nat.le_refl _) _) _).drew⟩
end Go.Proofs.Ytnhiipiciondoaa
