/- The walk of 'apportionlaw05.OctetApart'. -/
import Derived.Test.YtnhiipiciondoaaOctAwake
import Derived.Test.YtnhiipiciondoaaMem2
namespace Go.Proofs.Ytnhiipiciondoaa
open Go.RowKit Go.Lib

set_option maxRecDepth 100000 in
set_option maxHeartbeats 4000000 in
theorem apart_core (n m : Int) (w : World) (xs ys : List Int) (la lb : Nat) (n0 : -9223372036854775808 ≤ n) (n1 : n ≤ 9223372036854775807) (m0 : -9223372036854775808 ≤ m) (m1 : m ≤ 9223372036854775807)
    (pn : ∀ w, Calls Try.prog 12 #[.int .i64 n] w (Fresh 5 1 la (U8 xs) w)) (pm : ∀ w, Calls Try.prog 12 #[.int .i64 m] w (Fresh 5 1 lb (U8 ys) w))
    (a1 : 1 ≤ la) (a2 : 1 ≤ lb) (b1 : la ≤ 10) (b2 : lb ≤ 10) (mono1 : 0 ≤ n ∧ n ≤ m → la ≤ lb) (mono2 : n < 0 ∧ m ≤ n → la ≤ lb) (bytes1 : ∀ x ∈ xs, 0 ≤ x ∧ x ≤ 255) (bytes2 : ∀ x ∈ ys, 0 ≤ x ∧ x ≤ 255)
    (same : n = m → sameB xs ys = true) (ap : n ≠ m → ∀ s, s = min la lb → sameB (xs.take s) (ys.take s) = false) :
    Calls Try.prog 3 #[.int .i64 n, .int .i64 m] w fun e w' => e = .returned (.bool true) ∧ Below w.heap.size w w' := by
  by_cases hnm : n = m
  · have Hs := Lib.hid (same hnm)
    subst hnm
    clear same ap
    by_cases h0 : 0 ≤ n
    all_goals
      have hab : la ≤ lb := by omega
      clear mono1 mono2
      go_enter Try.func3, Try.ntmps3
      go_wp2_with fail
      refine (awake_true _).mono ?_
      rintro e w1 ⟨rfl, hb1⟩
      go_wp2_with fail
      refine (pn _).mono ?_
      rintro e w2 ⟨A2, c2, rfl, hown2, hb2⟩
      go_wp2_with fail
      refine (pm _).mono ?_
      rintro e w3 ⟨A3, c3, rfl, hown3, hb3⟩
      go_wp2_with fail
      refine (same_is Hs.out (Shows.of_own (own_below hown2 hb3)) (Shows.of_own hown3) bytes1 bytes2).mono ?_
      rintro e w4 ⟨rfl, rfl⟩
      go_wp2_with fail
      go_ret
      exact ⟨rfl, bel_call (bel_call (bel_call (Below.refl _ _) hb1) hb2) hb3⟩
  · obtain ⟨s, hmin, hsa, hsb, Hs⟩ : ∃ s, min la lb = s ∧ s ≤ la ∧ s ≤ lb ∧ Hid (sameB (xs.take s) (ys.take s) = false) := ⟨_, rfl, by omega, by omega, ap hnm _ rfl⟩
    clear ap same
    rcases (by omega : (la ≤ lb ∧ la = s) ∨ (lb < la ∧ lb = s)) with ⟨hab, rfl⟩ | ⟨hab, rfl⟩ <;> by_cases h0 : 0 ≤ n <;> by_cases h1 : n ≤ m
    all_goals try (exfalso; omega)
    all_goals
      clear mono1 mono2
      go_enter Try.func3, Try.ntmps3
      go_wp2_with fail
      refine (awake_true _).mono ?_
      rintro e w1 ⟨rfl, hb1⟩
      go_wp2_with fail
      refine (pn _).mono ?_
      rintro e w2 ⟨A2, c2, rfl, hown2, hb2⟩
      go_wp2_with fail
      refine (pm _).mono ?_
      rintro e w3 ⟨A3, c3, rfl, hown3, hb3⟩
      obtain ⟨_, _, e2, l2, _⟩ := own_form hown2
      injection e2 with e2 e3 e4; subst e2; subst e4
      obtain ⟨_, _, e2, l3, _⟩ := own_form hown3
      injection e2 with e2 e3 e4; subst e2; subst e4
      have k2 := fun w => cut_to (P := Try.prog) 1 Try.underlying23 size_u8 A2 la c2 _ (Nat.le_trans hsa l2) w
      have k3 := fun w => cut_to (P := Try.prog) 1 Try.underlying23 size_u8 A3 lb c3 _ (Nat.le_trans hsb l3) w
      have s2 := (Shows.of_own (own_below hown2 hb3)).take hsa
      have s3 := (Shows.of_own hown3).take hsb
      rw [show ∀ s, (U8 xs).take (s * 1) = U8 (xs.take s) by intro s; simp [U8]] at s2
      rw [show ∀ s, (U8 ys).take (s * 1) = U8 (ys.take s) by intro s; simp [U8]] at s3
      go_wp2_with fail
      go_quiet ((go_at_call 13; exact quiet_l (same_is Hs.out s2 s3 (fun x hx => bytes1 x (List.mem_of_mem_take hx)) (fun x hx => bytes2 x (List.mem_of_mem_take hx)))))
      go_wp2_with fail
      go_ret
      exact ⟨rfl, bel_drewN (bel_call (bel_call (bel_call (Below.refl _ _) hb1) hb2) hb3) _⟩
theorem apart_walk (n m : Int) (hn : -9223372036854775808 ≤ n ∧ n ≤ 9223372036854775807) (hm : -9223372036854775808 ≤ m ∧ m ≤ 9223372036854775807) (w : World) :
    Calls Try.prog 3 #[.int .i64 n, .int .i64 m] w fun e w' => e = .returned (.bool true) ∧ Below w.heap.size w w' := by
  obtain ⟨n0, n1⟩ := hn
  obtain ⟨m0, m1⟩ := hm
  refine apart_core n m w (Oct.putN (Oct.zig n)) (Oct.putN (Oct.zig m)) _ _ n0 n1 m0 m1 (fun w => put_any n w n0 n1) (fun w => put_any m w m0 m1) (Oct.putN_pos _) (Oct.putN_pos _)
    (Oct.putN_len10 (Oct.zig_lt n n0 n1)) (Oct.putN_len10 (Oct.zig_lt m m0 m1)) (fun h => Oct.putN_mono _ _ (Oct.zig_mono_pos h.1 h.2)) (fun h => Oct.putN_mono _ _ (Oct.zig_mono_neg h.1 h.2))
    (Oct.putN_bytes _) (Oct.putN_bytes _) (fun h => by rw [h]; exact decide_eq_true rfl) (fun h s hs => decide_eq_false (Oct.putN_apart _ _ (fun e => h (Oct.zig_inj e)) s hs))
end Go.Proofs.Ytnhiipiciondoaa
