/- The walks of the document's 'length', 'GetText', 'GetList'. -/
import Derived.Test.YtnhiipiciondoaaRefGet
import Derived.Test.YtnhiipiciondoaaOctGetL2
namespace Go.Proofs.Ytnhiipiciondoaa
open Go.RowKit Go.Lib

theorem refGet_is {A : Option Addr} {n c : Nat} {xs : List Int} {at_ : Int} {B : Nat} {w : World} {r0 r1 r2 r3 : Int} (hr : Oct.getB xs at_ = (r0, r1, r2, r3)) (ha : Shows w B 1 A n (U8 xs)) (hn : n ≤ maxLen) (hB : B ≤ w.heap.size)
    (hc : n ≤ c) (hx : ∀ x ∈ xs, 0 ≤ x ∧ x ≤ 255) (h0 : -9223372036854775808 ≤ at_) (h1 : at_ ≤ 9223372036854775807) :
    Calls Try.prog 24 #[.slice A n c, .int .i64 at_] w fun e w' => e = .returned (.tuple #[.int .i64 r0, .int .i64 r1, .agg #[.int .i64 r2, .int .i64 r3]]) ∧ Below w.heap.size w w' :=
  (refGet_any A n c xs at_ B w ha hn hB hc hx h0 h1).mono fun e w' h => by rw [hr] at h; exact h
/-- How many follow. -/
def lenB (xs : List Int) (at_ most : Int) : Int × Int × Int × Int :=
  if most < 0 then (0, 0, 2, 0) else
  let r := Oct.getB xs at_
  if r.2.2.1 ≠ 0 then (0, 0, r.2.2.1, r.2.2.2) else if r.1 < 0 then (0, 0, 5, at_) else if most < r.1 then (0, 0, 3, at_) else (r.1, r.2.1, 0, 0)
set_option maxRecDepth 100000 in
set_option maxHeartbeats 1600000 in
theorem refLength_any (A : Option Addr) (len c : Nat) (xs : List Int) (at_ most : Int) (B : Nat) (w : World) (ha : Shows w B 1 A len (U8 xs)) (hB : B ≤ w.heap.size)
    (hlen : len ≤ 70000) (hc : len ≤ c) (hx : ∀ x ∈ xs, 0 ≤ x ∧ x ≤ 255) (a0 : -9223372036854775808 ≤ at_) (a1 : at_ ≤ 9223372036854775807) :
    Calls Try.prog 47 #[.slice A len c, .int .i64 at_, .int .i64 most] w fun e w' => e = .returned (gv (lenB xs at_ most)) ∧ Below w.heap.size w w' := by
  have hl : xs.length = len := by have := ha.len; simpa [U8] using this
  by_cases hm : most < 0
  · rw [show lenB xs at_ most = (0, 0, 2, 0) by unfold lenB; rw [if_pos hm]]
    go_enter Try.func47, Try.ntmps47
    go_wp2
    exact bodyPost_ret (v := gv (0, 0, 2, 0)) (by simp [results, Try.results47, go_sem, gv, fv]) rfl ⟨rfl, by go_grown⟩
  · obtain ⟨r0, r1, r2, r3, hr⟩ : ∃ r0 r1 r2 r3, Oct.getB xs at_ = (r0, r1, r2, r3) := ⟨_, _, _, _, rfl⟩
    have hnx := (Oct.getB_facts xs at_ hx).2
    simp only [hr] at hnx
    have Hr := Lib.hid hr
    have hg := fun w' (h : Shows w' B 1 A len (U8 xs)) (hB' : B ≤ w'.heap.size) => refGet_is (c := c) hr h (by unfold maxLen; omega) hB' hc hx a0 a1
    clear hr
    by_cases t1 : r2 = 0
    · subst t1
      obtain ⟨nx, rfl⟩ : ∃ k : Nat, r1 = k := ⟨r1.toNat, by have := (hnx rfl).1; omega⟩
      clear hnx
      have hcase : (r0 < 0 ∧ lenB xs at_ most = (0, 0, 5, at_)) ∨ (¬ r0 < 0 ∧ most < r0 ∧ lenB xs at_ most = (0, 0, 3, at_)) ∨ (¬ r0 < 0 ∧ ¬ most < r0 ∧ lenB xs at_ most = (r0, (nx : Int), 0, 0)) := by
        unfold lenB
        rw [if_neg hm, Hr.out]
        by_cases t2 : r0 < 0
        · exact .inl ⟨t2, by simp [t2]⟩
        · by_cases t3 : most < r0
          · exact .inr (.inl ⟨t2, t3, by simp [t2, t3]⟩)
          · exact .inr (.inr ⟨t2, t3, by simp [t2, t3]⟩)
      rcases hcase with ⟨t2, e⟩ | ⟨t2, t3, e⟩ | ⟨t2, t3, e⟩
      all_goals
        rw [e]
        clear e
        go_enter Try.func47, Try.ntmps47
        go_wp2_with fail
        refine (hg _ (ha.alloc hB _) (by simp; omega)).mono ?_
        rintro e w1 ⟨rfl, hb1⟩
        obtain ⟨hblk, z1⟩ := new_block (cs := [.int .i64 0, .int .i64 0]) hb1
        have c0 := hblk.cell 0
        have c1 := hblk.cell 1
        have u0 := hblk.free 0
        have u1 := hblk.free 1
        simp only [List.getElem?_cons_zero, List.getElem?_cons_succ] at c0 c1
        go_wp2_with fail
      · exact ret_ttc (T := 37) rfl rfl rfl (((hblk.set 0 (.int .i64 5)).set 1 (.int .i64 at_)).alloc _) agg_fault size_fault
          ⟨rfl, bel_alloc (bel_set (bel_set (bel_call (bel_alloc (Below.refl _ _) _) hb1) (Nat.le_refl _) _) (Nat.le_refl _) _) _⟩
      · exact ret_ttc (T := 37) rfl rfl rfl (((hblk.set 0 (.int .i64 3)).set 1 (.int .i64 at_)).alloc _) agg_fault size_fault
          ⟨rfl, bel_alloc (bel_set (bel_set (bel_call (bel_alloc (Below.refl _ _) _) hb1) (Nat.le_refl _) _) (Nat.le_refl _) _) _⟩
      · exact ret_ttc (T := 37) rfl rfl rfl (((hblk.set 0 (.int .i64 0)).set 1 (.int .i64 0)).alloc _) agg_fault size_fault
          ⟨rfl, bel_alloc (bel_set (bel_set (bel_call (bel_alloc (Below.refl _ _) _) hb1) (Nat.le_refl _) _) (Nat.le_refl _) _) _⟩
    · have e : lenB xs at_ most = (0, 0, r2, r3) := by unfold lenB; rw [if_neg hm, Hr.out]; simp [t1]
      have t1b : (r2 == 0) = false := by simpa using t1
      have t1c : (r2 != 0) = true := by simpa using t1
      rw [e]
      clear e hnx
      go_enter Try.func47, Try.ntmps47
      go_wp2_with fail
      refine (hg _ (ha.alloc hB _) (by simp; omega)).mono ?_
      rintro e w1 ⟨rfl, hb1⟩
      obtain ⟨hblk, z1⟩ := new_block (cs := [.int .i64 0, .int .i64 0]) hb1
      have c0 := hblk.cell 0
      have c1 := hblk.cell 1
      have u0 := hblk.free 0
      have u1 := hblk.free 1
      simp only [List.getElem?_cons_zero, List.getElem?_cons_succ] at c0 c1
      go_wp2_with fail
      go_region
      go_wp2_with fail
      exact ret_ttc (T := 37) rfl rfl rfl (((hblk.set 0 (.int .i64 r2)).set 1 (.int .i64 r3)).alloc _).drew agg_fault size_fault
        ⟨rfl, (bel_alloc (bel_set (bel_set (bel_call (bel_alloc (Below.refl _ _) _) hb1) (Nat.le_refl _) _) (Nat.le_refl _) _) _).drew⟩
end Go.Proofs.Ytnhiipiciondoaa
