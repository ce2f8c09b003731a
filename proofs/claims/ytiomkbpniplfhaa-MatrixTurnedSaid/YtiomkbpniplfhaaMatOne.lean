/- The walks of 'matrix.within', 'one', of 'cmp.Compare', 'cmp.Or', 'matrix.order', of the document's 'within', 'May', 'Ahead'. -/
import Derived.Test.YtiomkbpniplfhaaMatPlain
import Derived.Deep.RegionHeld3
namespace Go.Proofs.Ytiomkbpniplfhaa
open Go.RowKit

set_option maxRecDepth 100000 in
set_option maxHeartbeats 1000000 in
theorem within_any (n lo hi : Int) (w : World) : Calls Try.prog 32 #[.int .i64 n, .int .i64 lo, .int .i64 hi] w fun e w' => e = .returned (.bool (decide (lo ≤ n ∧ n ≤ hi))) ∧ w = w' := by
  rcases (by omega : n < lo ∨ (¬ n < lo ∧ hi < n) ∨ (¬ n < lo ∧ ¬ hi < n)) with h | ⟨h1, h2⟩ | ⟨h1, h2⟩
  · rw [decide_eq_false (by omega)]
    go_enter Try.func32, Try.ntmps32
    go_wp2
    go_ret
    exact ⟨by first | rfl | (simp; omega), rfl⟩
  · rw [decide_eq_false (by omega)]
    go_enter Try.func32, Try.ntmps32
    go_wp2
    go_ret
    exact ⟨by first | rfl | (simp; omega), rfl⟩
  · rw [decide_eq_true (by omega)]
    go_enter Try.func32, Try.ntmps32
    go_wp2
    go_ret
    exact ⟨by first | rfl | (simp; omega), rfl⟩
theorem within_yes {n lo hi : Int} (h : lo ≤ n ∧ n ≤ hi) (w : World) : Calls Try.prog 32 #[.int .i64 n, .int .i64 lo, .int .i64 hi] w fun e w' => e = .returned (.bool true) ∧ w = w' := by
  have := within_any n lo hi w
  rwa [decide_eq_true h] at this
theorem within_no {n lo hi : Int} (h : ¬ (lo ≤ n ∧ n ≤ hi)) (w : World) : Calls Try.prog 32 #[.int .i64 n, .int .i64 lo, .int .i64 hi] w fun e w' => e = .returned (.bool false) ∧ w = w' := by
  have := within_any n lo hi w
  rwa [decide_eq_false h] at this
set_option maxRecDepth 100000 in
set_option maxHeartbeats 1000000 in
theorem rwithin_any (n lo hi : Int) (w : World) : Calls Try.prog 34 #[.int .i64 n, .int .i64 lo, .int .i64 hi] w fun e w' => e = .returned (.bool (decide (lo ≤ n ∧ n ≤ hi))) ∧ w = w' := by
  rcases (by omega : n < lo ∨ (¬ n < lo ∧ hi < n) ∨ (¬ n < lo ∧ ¬ hi < n)) with h | ⟨h1, h2⟩ | ⟨h1, h2⟩
  · rw [decide_eq_false (by omega)]
    go_enter Try.func34, Try.ntmps34
    go_wp2
    go_ret
    exact ⟨by first | rfl | (simp; omega), rfl⟩
  · rw [decide_eq_false (by omega)]
    go_enter Try.func34, Try.ntmps34
    go_wp2
    go_ret
    exact ⟨by first | rfl | (simp; omega), rfl⟩
  · rw [decide_eq_true (by omega)]
    go_enter Try.func34, Try.ntmps34
    go_wp2
    go_ret
    exact ⟨by first | rfl | (simp; omega), rfl⟩
theorem rwithin_yes {n lo hi : Int} (h : lo ≤ n ∧ n ≤ hi) (w : World) : Calls Try.prog 34 #[.int .i64 n, .int .i64 lo, .int .i64 hi] w fun e w' => e = .returned (.bool true) ∧ w = w' := by
  have := rwithin_any n lo hi w
  rwa [decide_eq_true h] at this
theorem rwithin_no {n lo hi : Int} (h : ¬ (lo ≤ n ∧ n ≤ hi)) (w : World) : Calls Try.prog 34 #[.int .i64 n, .int .i64 lo, .int .i64 hi] w fun e w' => e = .returned (.bool false) ∧ w = w' := by
  have := rwithin_any n lo hi w
  rwa [decide_eq_false h] at this
set_option maxRecDepth 100000 in
set_option maxHeartbeats 1000000 in
theorem isNaN_any (x : Int) (w : World) : Calls Try.prog 48 #[.int .i64 x] w fun e w' => e = .returned (.bool false) ∧ w = w' := by
  go_enter Try.func48, Try.ntmps48
  go_wp2
  go_ret
  exact ⟨by first | rfl | simp, rfl⟩
set_option maxRecDepth 100000 in
set_option maxHeartbeats 1000000 in
theorem compare_any (x y : Int) (w : World) : Calls Try.prog 41 #[.int .i64 x, .int .i64 y] w fun e w' => e = .returned (.int .i64 (Mat.cmpI x y)) ∧ w = w' := by
  rcases (by omega : x < y ∨ (¬ x < y ∧ y < x) ∨ (¬ x < y ∧ ¬ y < x)) with h | ⟨h1, h2⟩ | ⟨h1, h2⟩
  · have hr := Lib.hid (show Mat.cmpI x y = -1 by unfold Mat.cmpI; rw [if_pos h])
    go_enter Try.func41, Try.ntmps41
    go_wp2_with (go_at_call 48; refine (isNaN_any _ _).mono ?_; rintro e w1 ⟨rfl, rfl⟩)
    go_ret
    exact ⟨by rw [hr.out]; rfl, rfl⟩
  · have hr := Lib.hid (show Mat.cmpI x y = 1 by unfold Mat.cmpI; rw [if_neg h1, if_pos h2])
    go_enter Try.func41, Try.ntmps41
    go_wp2_with (go_at_call 48; refine (isNaN_any _ _).mono ?_; rintro e w1 ⟨rfl, rfl⟩)
    go_ret
    exact ⟨by rw [hr.out]; rfl, rfl⟩
  · have hr := Lib.hid (show Mat.cmpI x y = 0 by unfold Mat.cmpI; rw [if_neg h1, if_neg h2])
    go_enter Try.func41, Try.ntmps41
    go_wp2_with (go_at_call 48; refine (isNaN_any _ _).mono ?_; rintro e w1 ⟨rfl, rfl⟩)
    go_ret
    exact ⟨by rw [hr.out]; rfl, rfl⟩
set_option maxRecDepth 100000 in
set_option maxHeartbeats 2000000 in
theorem or_any (a b c : Int) (g : Nat) (w : World) (h0 : w.cell? ⟨g, 0, none⟩ = some (.int .i64 a)) (h1 : w.cell? ⟨g, 1, none⟩ = some (.int .i64 b)) (h2 : w.cell? ⟨g, 2, none⟩ = some (.int .i64 c)) :
    Calls Try.prog 40 #[.slice (some ⟨g, 0, none⟩) 3 3] w fun e w' => e = .returned (.int .i64 (Mat.or3 a b c)) ∧ w = w' := by
  rcases (by omega : a ≠ 0 ∨ (a = 0 ∧ b ≠ 0) ∨ (a = 0 ∧ b = 0 ∧ c ≠ 0) ∨ (a = 0 ∧ b = 0 ∧ c = 0)) with h | ⟨ha, h⟩ | ⟨ha, hb, h⟩ | ⟨ha, hb, hc⟩
  · have hr := Lib.hid (show Mat.or3 a b c = a by unfold Mat.or3; rw [if_pos h])
    have k1 : (a == 0) = false := by simpa using h
    have k2 : (a != 0) = true := by simpa using h
    clear h
    go_enter Try.func40, Try.ntmps40
    go_wp2_with fail
    go_loop [8] (fun i => i = .int .i64 0) (fun i => 3 - (intOf i).toNat)
    case atStart => rfl
    case round =>
      subst hrel
      go_wp2_with fail
      go_ret
      exact ⟨by rw [hr.out]; rfl, rfl⟩
  · subst ha
    have hr := Lib.hid (show Mat.or3 0 b c = b by unfold Mat.or3; rw [if_neg (by omega), if_pos h])
    have k1 : (b == 0) = false := by simpa using h
    have k2 : (b != 0) = true := by simpa using h
    clear h
    go_enter Try.func40, Try.ntmps40
    go_wp2_with fail
    go_loop [8] (fun i => ∃ k : Nat, k ≤ 1 ∧ i = .int .i64 k) (fun i => 3 - (intOf i).toNat)
    case atStart => exact ⟨0, by omega, rfl⟩
    case round =>
      obtain ⟨k, hk, rfl⟩ := hrel
      rcases (by omega : k = 0 ∨ k = 1) with rfl | rfl
      · go_wp2_with fail
        go_round
        case rel => exact ⟨1, by omega, by first | rfl | go_num⟩
        case measure => simp [intOf]
      · go_wp2_with fail
        go_ret
        exact ⟨by rw [hr.out]; rfl, rfl⟩
  · subst ha
    subst hb
    have hr := Lib.hid (show Mat.or3 0 0 c = c by unfold Mat.or3; rw [if_neg (by omega), if_neg (by omega)])
    have k1 : (c == 0) = false := by simpa using h
    have k2 : (c != 0) = true := by simpa using h
    clear h
    go_enter Try.func40, Try.ntmps40
    go_wp2_with fail
    go_loop [8] (fun i => ∃ k : Nat, k ≤ 2 ∧ i = .int .i64 k) (fun i => 3 - (intOf i).toNat)
    case atStart => exact ⟨0, by omega, rfl⟩
    case round =>
      obtain ⟨k, hk, rfl⟩ := hrel
      rcases (by omega : k = 0 ∨ k = 1 ∨ k = 2) with rfl | rfl | rfl
      · go_wp2_with fail
        go_round
        case rel => exact ⟨1, by omega, by first | rfl | go_num⟩
        case measure => simp [intOf]
      · go_wp2_with fail
        go_round
        case rel => exact ⟨2, by omega, by first | rfl | go_num⟩
        case measure => simp [intOf]
      · go_wp2_with fail
        go_ret
        exact ⟨by rw [hr.out]; rfl, rfl⟩
  · subst ha
    subst hb
    subst hc
    have hr := Lib.hid (show Mat.or3 0 0 0 = 0 by rfl)
    go_enter Try.func40, Try.ntmps40
    go_wp2_with fail
    go_loop [8] (fun i => ∃ k : Nat, k ≤ 3 ∧ i = .int .i64 k) (fun i => 3 - (intOf i).toNat)
    case atStart => exact ⟨0, by omega, rfl⟩
    case round =>
      obtain ⟨k, hk, rfl⟩ := hrel
      rcases (by omega : k = 0 ∨ k = 1 ∨ k = 2 ∨ k = 3) with rfl | rfl | rfl | rfl
      · go_wp2_with fail
        go_round
        case rel => exact ⟨1, by omega, by first | rfl | go_num⟩
        case measure => simp [intOf]
      · go_wp2_with fail
        go_round
        case rel => exact ⟨2, by omega, by first | rfl | go_num⟩
        case measure => simp [intOf]
      · go_wp2_with fail
        go_round
        case rel => exact ⟨3, by omega, by first | rfl | go_num⟩
        case measure => simp [intOf]
      · go_wp2_with fail
        go_ret
        exact ⟨by rw [hr.out]; rfl, rfl⟩
theorem cell_top {W : World} {xs : Array Value} {t : TypeId} {g i : Nat} (hg : W.heap.size = g) : (W.alloc (.cells xs t)).cell? ⟨g, i, none⟩ = xs[i]? := by
  subst hg
  exact World.cell?_alloc_new ..
set_option maxRecDepth 100000 in
set_option maxHeartbeats 4000000 in
theorem order_any (x y : S6) (w : World) : Calls Try.prog 27 #[(.agg #[.int .i64 x.a, .int .i64 x.b, .int .i64 x.c, .int .i64 x.d, .int .i64 x.e, .int .i64 x.f]), (.agg #[.int .i64 y.a, .int .i64 y.b, .int .i64 y.c, .int .i64 y.d, .int .i64 y.e, .int .i64 y.f])] w fun e w' => e = .returned (.int .i64 (Mat.ord x y)) ∧ Below w.heap.size w w' := by
  have hr := Lib.hid (show Mat.ord x y = Mat.or3 (Mat.cmpI x.a y.a) (Mat.cmpI x.b y.b) (Mat.cmpI x.c y.c) from rfl)
  go_enter Try.func27, Try.ntmps27
  go_wp2_with fail
  go_region_held3 (fun w' => w'.cell? ⟨w.heap.size, 0, none⟩ = some (.int .i64 x.a) ∧ w'.cell? ⟨w.heap.size, 1, none⟩ = some (.int .i64 x.b) ∧ w'.cell? ⟨w.heap.size, 2, none⟩ = some (.int .i64 x.c) ∧ w'.cell? ⟨w.heap.size + 1, 0, none⟩ = some (.int .i64 y.a) ∧ w'.cell? ⟨w.heap.size + 1, 1, none⟩ = some (.int .i64 y.b) ∧ w'.cell? ⟨w.heap.size + 1, 2, none⟩ = some (.int .i64 y.c)) (go_keep) (first
    | (go_at_call 41; refine (compare_any _ _ _).mono ?_; rintro e w1 ⟨rfl, rfl⟩)
    | (go_at_call 40; refine (or_any (Mat.cmpI x.a y.a) (Mat.cmpI x.b y.b) (Mat.cmpI x.c y.c) _ _ (by simp [cell_top]) (by simp [cell_top]) (by simp [cell_top])).mono ?_; rintro e w1 ⟨rfl, rfl⟩))
  go_wp2_with fail
  go_ret
  exact ⟨by rw [hr.out]; rfl, bel_alloc (bel_drewN (bel_alloc (bel_alloc (Below.refl _ _) _) _) 1) _⟩
/-- Does a rule stand ahead of another one? -/
theorem lt_dec (x y : S6) : decide (Mat.Lt x y) = if x.a ≠ y.a then decide (x.a < y.a) else if x.b ≠ y.b then decide (x.b < y.b) else decide (x.c < y.c) := by
  have h : Mat.Lt x y ↔ (x.a < y.a ∨ x.a = y.a ∧ (x.b < y.b ∨ x.b = y.b ∧ x.c < y.c)) := Iff.rfl
  by_cases h1 : x.a = y.a
  · rw [if_neg (by simpa using h1)]
    by_cases h2 : x.b = y.b
    · rw [if_neg (by simpa using h2)]
      exact decide_eq_decide.2 (by rw [h]; omega)
    · rw [if_pos h2]
      exact decide_eq_decide.2 (by rw [h]; omega)
  · rw [if_pos h1]
    exact decide_eq_decide.2 (by rw [h]; omega)
set_option maxRecDepth 100000 in
set_option maxHeartbeats 4000000 in
theorem ahead_any (x y : S6) (w : World) : Calls Try.prog 29 #[(.agg #[.int .i64 x.a, .int .i64 x.b, .int .i64 x.c, .int .i64 x.d, .int .i64 x.e, .int .i64 x.f]), (.agg #[.int .i64 y.a, .int .i64 y.b, .int .i64 y.c, .int .i64 y.d, .int .i64 y.e, .int .i64 y.f])] w fun e w' => e = .returned (.bool (decide (Mat.Lt x y))) ∧ Below w.heap.size w w' := by
  rw [lt_dec]
  by_cases h1 : x.a = y.a
  · rw [if_neg (by omega)]
    by_cases h2 : x.b = y.b
    · rw [if_neg (by omega)]
      go_enter Try.func29, Try.ntmps29
      go_wp2_with fail
      go_ret
      exact ⟨rfl, bel_alloc (bel_alloc (Below.refl _ _) _) _⟩
    · rw [if_pos h2]
      have k1 : (x.b == y.b) = false := by simpa using h2
      have k2 : (x.b != y.b) = true := by simpa using h2
      go_enter Try.func29, Try.ntmps29
      go_wp2_with fail
      go_ret
      exact ⟨rfl, bel_alloc (bel_alloc (Below.refl _ _) _) _⟩
  · rw [if_pos h1]
    have k1 : (x.a == y.a) = false := by simpa using h1
    have k2 : (x.a != y.a) = true := by simpa using h1
    go_enter Try.func29, Try.ntmps29
    go_wp2_with fail
    go_ret
    exact ⟨rfl, bel_alloc (bel_alloc (Below.refl _ _) _) _⟩
end Go.Proofs.Ytiomkbpniplfhaa
