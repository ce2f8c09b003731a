/- Lemmas for it; no condition: TShelf TWide TPoint. -/
import Derived.Test.YthmhdaefkhcenaaGreatDoorZ08
import Derived.Test.YthmhdaefkhcenaaGreatDoorZ10
import Derived.Shelf.Bits.Mul64
import Derived.Shelf.Slices.SearchI
set_option linter.unusedVariables false
set_option linter.unusedSimpArgs false
namespace Go.Proofs
open Go.Shelf
def Tryz.lays264_ren : Go.Shelf.Ren := ⟨fun | 264 => 413 | n => n, fun | 53 => 151 | 46 => 254 | n => n, fun | n => n⟩
theorem Tryz.lays264 : Go.Proofs.Lays.n264 Tryz.prog Tryz.lays264_ren := {
  mixed := by kernel_rfl
  f264 := Tryz.func413.trans (congrArg some (by kernel_rfl))
  t46 := Tryz.underlying254
  a46 := Tryz.isAgg254
  z46 := Tryz.sizeOf254
  v46 := Tryz.zeroValue254
  t53 := Tryz.underlying151
  a53 := Tryz.isAgg151
  z53 := Tryz.sizeOf151
  v53 := Tryz.zeroValue151 }
open Go.RowKit Go.Lib in
theorem Tryz.bits_Mul64 (x y : Nat) (hx : x < 18446744073709551616) (hy : y < 18446744073709551616) (w : World) :
    Calls Tryz.prog 413 #[.int .u64 x, .int .u64 y] w fun e w' => e = .returned (.tuple #[.int .u64 ((x * y / 18446744073709551616 : Nat) : Int), .int .u64 ((x * y % 18446744073709551616 : Nat) : Int)]) ∧ w' = w := Any.bits_Mul64 Tryz.lays264 x y hx hy w
namespace YthmhdaefkhcenaaGreatDoor
open Go.RowKit
theorem mul64_any (x y : Nat) (hx : x < 18446744073709551616) (hy : y < 18446744073709551616) (w : World) :
    Calls Tryz.prog 413 #[.int .u64 x, .int .u64 y] w fun e w' => e = .returned (.tuple #[.int .u64 ((x * y / 18446744073709551616 : Nat) : Int), .int .u64 ((x * y % 18446744073709551616 : Nat) : Int)]) ∧ w = w' :=
  (Tryz.bits_Mul64 x y hx hy w).mono fun _ _ h => ⟨h.1, h.2.symm⟩
end YthmhdaefkhcenaaGreatDoor
end Go.Proofs
namespace Go.Proofs.YthmhdaefkhcenaaGreatDoor
open Go.RowKit

def evenF (p c : Nat) : Nat := if c < 2 * (p % c) ∨ (2 * (p % c) = c ∧ p / c % 2 = 1) then p / c + 1 else p / c
def mH (a b : Int) : Nat := a.natAbs * b.natAbs / 18446744073709551616
def mL (a b : Int) : Nat := a.natAbs * b.natAbs % 18446744073709551616
set_option maxRecDepth 100000 in
set_option maxHeartbeats 1000000 in
theorem size_any (n : Int) (h0 : -9223372036854775807 ≤ n) (h1 : n ≤ 9223372036854775807) (w : World) : Calls Tryz.prog 377 #[.int .i64 n] w fun e w' => e = .returned (.int .u64 ((n.natAbs : Nat) : Int)) ∧ w = w' := by
  by_cases h : n < 0
  · obtain ⟨k, hk⟩ : ∃ k : Nat, n.natAbs = k := ⟨_, rfl⟩
    have e : n = -(k : Int) := by omega
    rw [hk]
    subst e
    go_enter Tryz.func377, Tryz.ntmps377
    go_wp2
    go_ret
    exact ⟨by first | rfl | (simp [IntKind.wrap_u64]; omega) | (congr 2; simp [IntKind.wrap_u64]; omega), rfl⟩
  · obtain ⟨k, hk⟩ : ∃ k : Nat, n.natAbs = k := ⟨_, rfl⟩
    have e : n = (k : Int) := by omega
    rw [hk]
    subst e
    go_enter Tryz.func377, Tryz.ntmps377
    go_wp2
    go_ret
    exact ⟨by first | rfl | (simp [IntKind.wrap_u64]; omega), rfl⟩
set_option maxRecDepth 100000 in
set_option maxHeartbeats 1000000 in
theorem sign_any (n : Int) (w : World) : Calls Tryz.prog 378 #[.int .i64 n] w fun e w' => e = .returned (.int .i64 (cmpI n 0)) ∧ w = w' := by
  go_enter Tryz.func378, Tryz.ntmps378
  go_wp2_with fail
  refine (compare_any n 0 w).mono ?_
  rintro e w1 ⟨rfl, rfl⟩
  go_wp2_with fail
  go_ret
  exact ⟨rfl, rfl⟩
set_option maxRecDepth 100000 in
set_option maxHeartbeats 1000000 in
theorem mul_any (a b : Int) (ha0 : -9223372036854775807 ≤ a) (ha1 : a ≤ 9223372036854775807) (hb0 : -9223372036854775807 ≤ b) (hb1 : b ≤ 9223372036854775807) (w : World) :
    Calls Tryz.prog 376 #[.int .i64 a, .int .i64 b] w fun e w' => e = .returned (.tuple #[.int .u64 (mH a b : Nat), .int .u64 (mL a b : Nat), .int .i64 (cmpI a 0 * cmpI b 0)]) ∧ w = w' := by
  have r1 := cmpI_range a 0
  have r2 := cmpI_range b 0
  obtain ⟨x, hx⟩ : ∃ x, cmpI a 0 = x := ⟨_, rfl⟩
  obtain ⟨y, hy⟩ : ∃ y, cmpI b 0 = y := ⟨_, rfl⟩
  obtain ⟨m, hm⟩ : ∃ m, mH a b = m := ⟨_, rfl⟩
  obtain ⟨l, hl⟩ : ∃ l, mL a b = l := ⟨_, rfl⟩
  have c1 := size_any a ha0 ha1 w
  have c2 := size_any b hb0 hb1 w
  have c3 := mul64_any a.natAbs b.natAbs (by omega) (by omega) w
  have c4 := sign_any a w
  have c5 := sign_any b w
  rw [hx] at c4 r1 ⊢
  rw [hy] at c5 r2 ⊢
  unfold mH at hm
  unfold mL at hl
  rw [show mH a b = m from hm, show mL a b = l from hl]
  rw [hm, hl] at c3
  clear hm hl hx hy ha0 ha1 hb0 hb1
  have hp : x * y = -1 ∨ x * y = 0 ∨ x * y = 1 := by
    rcases (by omega : x = -1 ∨ x = 0 ∨ x = 1) with rfl | rfl | rfl <;> rcases (by omega : y = -1 ∨ y = 0 ∨ y = 1) with rfl | rfl | rfl <;> simp
  generalize a.natAbs = p at *
  generalize b.natAbs = q at *
  go_enter Tryz.func376, Tryz.ntmps376
  go_wp2_with fail
  refine c1.mono ?_
  rintro e w1 ⟨rfl, rfl⟩
  go_wp2_with fail
  refine c2.mono ?_
  rintro e w1 ⟨rfl, rfl⟩
  go_wp2_with fail
  refine c3.mono ?_
  rintro e w1 ⟨rfl, rfl⟩
  go_wp2_with fail
  refine c4.mono ?_
  rintro e w1 ⟨rfl, rfl⟩
  go_wp2_with fail
  refine c5.mono ?_
  rintro e w1 ⟨rfl, rfl⟩
  have hw : IntKind.i64.wrap (x * y) = x * y := by rcases hp with h | h | h <;> rw [h] <;> decide
  go_wp2_with fail
  go_ret3
  exact ⟨by first | rfl | rw [hw], rfl⟩
theorem sign_plain (a b c d : Int) : (if cmpI a 0 * cmpI b 0 ≠ cmpI c 0 * cmpI d 0 then cmpI (cmpI a 0 * cmpI b 0) (cmpI c 0 * cmpI d 0)
    else cmpI a 0 * cmpI b 0 * or2 (cmpI (mH a b : Nat) (mH c d : Nat)) (cmpI (mL a b : Nat) (mL c d : Nat))) = cmpI (a * b) (c * d) := by
  have key : ∀ x y : Int, cmpI x 0 * cmpI y 0 = cmpI (x * y) 0 := by
    intro x y
    rcases (by omega : x < 0 ∨ x = 0 ∨ 0 < x) with hx | hx | hx <;> rcases (by omega : y < 0 ∨ y = 0 ∨ 0 < y) with hy | hy | hy <;> (try subst hx) <;> (try subst hy)
    · rw [cmpI_lt hx, cmpI_lt hy, cmpI_gt (Int.mul_pos_of_neg_of_neg hx hy)]; rfl
    · simp [cmpI_eq]
    · rw [cmpI_lt hx, cmpI_gt hy, cmpI_lt (Int.mul_neg_of_neg_of_pos hx hy)]; rfl
    · simp [cmpI_eq]
    · simp [cmpI_eq]
    · simp [cmpI_eq]
    · rw [cmpI_gt hx, cmpI_lt hy, cmpI_lt (Int.mul_neg_of_pos_of_neg hx hy)]; rfl
    · simp [cmpI_eq]
    · rw [cmpI_gt hx, cmpI_gt hy, cmpI_gt (Int.mul_pos hx hy)]; rfl
  rw [key a b, key c d]
  have e1 : a.natAbs * b.natAbs = (a * b).natAbs := (Int.natAbs_mul a b).symm
  have e2 : c.natAbs * d.natAbs = (c * d).natAbs := (Int.natAbs_mul c d).symm
  unfold mH mL
  rw [e1, e2]
  generalize a * b = x
  generalize c * d = y
  have ho : or2 (cmpI ((x.natAbs / 18446744073709551616 : Nat) : Int) ((y.natAbs / 18446744073709551616 : Nat) : Int)) (cmpI ((x.natAbs % 18446744073709551616 : Nat) : Int) ((y.natAbs % 18446744073709551616 : Nat) : Int)) = cmpI (x.natAbs : Int) (y.natAbs : Int) := by
    unfold or2 cmpI
    split <;> (repeat' split) <;> omega
  rw [ho]
  unfold cmpI
  (repeat' split) <;> omega
set_option maxRecDepth 100000 in
set_option maxHeartbeats 2000000 in
theorem wsign_any (a b c d : Int) (ha0 : -9223372036854775807 ≤ a) (ha1 : a ≤ 9223372036854775807) (hb0 : -9223372036854775807 ≤ b) (hb1 : b ≤ 9223372036854775807)
    (hc0 : -9223372036854775807 ≤ c) (hc1 : c ≤ 9223372036854775807) (hd0 : -9223372036854775807 ≤ d) (hd1 : d ≤ 9223372036854775807) (w : World) :
    Calls Tryz.prog 395 #[.int .i64 a, .int .i64 b, .int .i64 c, .int .i64 d] w fun e w' => e = .returned (.int .i64 (cmpI (a * b) (c * d))) ∧ Below w.heap.size w w' := by
  have hp := sign_plain a b c d
  have c1 := mul_any a b ha0 ha1 hb0 hb1 w
  have c2 := mul_any c d hc0 hc1 hd0 hd1 w
  have hs : ∀ x y : Int, -1 ≤ cmpI x 0 * cmpI y 0 ∧ cmpI x 0 * cmpI y 0 ≤ 1 := by
    intro x y
    rcases (by have := cmpI_range x 0; omega : cmpI x 0 = -1 ∨ cmpI x 0 = 0 ∨ cmpI x 0 = 1) with h | h | h <;> rcases (by have := cmpI_range y 0; omega : cmpI y 0 = -1 ∨ cmpI y 0 = 0 ∨ cmpI y 0 = 1) with k | k | k <;> rw [h, k] <;> decide
  have s1 := hs a b
  have s2 := hs c d
  generalize cmpI a 0 * cmpI b 0 = s at *
  generalize cmpI c 0 * cmpI d 0 = t at *
  generalize cmpI (a * b) (c * d) = r at *
  generalize mH a b = h1 at *
  generalize mH c d = h2 at *
  generalize mL a b = l1 at *
  generalize mL c d = l2 at *
  by_cases hst : s = t
  · rw [if_neg (by simpa using hst)] at hp
    subst hst
    have Hp := Lib.hid hp
    clear hp
    have ro : -1 ≤ or2 (cmpI (h1 : Int) h2) (cmpI (l1 : Int) l2) ∧ or2 (cmpI (h1 : Int) h2) (cmpI (l1 : Int) l2) ≤ 1 := by
      have q1 := cmpI_range (h1 : Int) h2
      have q2 := cmpI_range (l1 : Int) l2
      unfold or2
      split <;> omega
    have hw : wrap64 (s * or2 (cmpI (h1 : Int) h2) (cmpI (l1 : Int) l2)) = s * or2 (cmpI (h1 : Int) h2) (cmpI (l1 : Int) l2) := by
      generalize or2 (cmpI (h1 : Int) h2) (cmpI (l1 : Int) l2) = o at ro ⊢
      rcases (by omega : s = -1 ∨ s = 0 ∨ s = 1) with rfl | rfl | rfl <;> rcases (by omega : o = -1 ∨ o = 0 ∨ o = 1) with rfl | rfl | rfl <;> exact IntWalk.wrap64_in _ (by omega)
    have q1 := compare_u (h1 : Int) h2 w
    have q2 := compare_u (l1 : Int) l2 w
    have Hw := Lib.hid hw
    clear hw ha0 ha1 hb0 hb1 hc0 hc1 hd0 hd1 hs s1 s2 ro
    generalize cmpI (h1 : Int) h2 = x1 at *
    generalize cmpI (l1 : Int) l2 = x2 at *
    have q3 := or2_any x1 x2 w.heap.size (w.alloc (.cells #[.int .i64 x1, .int .i64 x2] 3)) (by simp [cell_top]) (by simp [cell_top])
    go_enter Tryz.func395, Tryz.ntmps395
    go_wp2_with fail
    refine c1.mono ?_
    rintro e w1 ⟨rfl, rfl⟩
    go_wp2_with fail
    refine c2.mono ?_
    rintro e w1 ⟨rfl, rfl⟩
    go_wp2_with fail
    refine q1.mono ?_
    rintro e w1 ⟨rfl, rfl⟩
    go_wp2_with fail
    refine q2.mono ?_
    rintro e w1 ⟨rfl, rfl⟩
    go_wp2_with fail
    refine q3.mono ?_
    rintro e w1 ⟨rfl, rfl⟩
    go_wp2_with fail
    go_ret
    exact ⟨(show Ending.returned (.int .i64 (wrap64 (s * or2 x1 x2))) = _ by rw [Hw.out, Hp.out]), bel_alloc (Below.refl _ _) _⟩
  · rw [if_pos hst] at hp
    have Hp := Lib.hid hp
    have k1 : (s == t) = false := by simpa using hst
    have k2 : (s != t) = true := by simpa using hst
    clear hp ha0 ha1 hb0 hb1 hc0 hc1 hd0 hd1 hs s1 s2 hst
    have q1 := compare_any s t w
    go_enter Tryz.func395, Tryz.ntmps395
    go_wp2_with fail
    refine c1.mono ?_
    rintro e w1 ⟨rfl, rfl⟩
    go_wp2_with fail
    refine c2.mono ?_
    rintro e w1 ⟨rfl, rfl⟩
    go_wp2_with fail
    refine q1.mono ?_
    rintro e w1 ⟨rfl, rfl⟩
    go_wp2_with fail
    go_ret
    exact ⟨by rw [← Hp.out]; rfl, Below.refl _ _⟩
set_option maxRecDepth 100000 in
set_option maxHeartbeats 2000000 in
theorem div64_low (l c : Nat) (hl : l < 18446744073709551616) (hc : 0 < c) (hc2 : c < 18446744073709551616) (w : World) :
    Calls Tryz.prog 379 #[.int .u64 0, .int .u64 l, .int .u64 c] w fun e w' => e = .returned (.tuple #[.int .u64 ((l / c : Nat) : Int), .int .u64 ((l % c : Nat) : Int)]) ∧ w.drewN 1 = w' := by
  have k0 : ((c : Int) == 0) = false := by simp; omega
  have k1 : ¬ (c : Int) ≤ 0 := by omega
  have k2 : (l : Int) / c ≤ l := by have := Nat.div_le_self l c; have e : ((l / c : Nat) : Int) = (l : Int) / c := by simp
                                    omega
  have k3 : 0 ≤ (l : Int) / c := Int.ediv_nonneg (by omega) (by omega)
  have hq := Lib.hid (IntWalk.u64_in ((l : Int) / c) ⟨k3, by omega⟩)
  clear k2 k3
  go_enter Tryz.func379, Tryz.ntmps379
  go_wp2_with fail
  go_region
  go_wp2_with fail
  go_ret2
  exact ⟨by first | rfl | (simp; exact hq.out) | (simp; done), rfl⟩
set_option maxRecDepth 100000 in
set_option maxHeartbeats 2000000 in
theorem even1_any (q r c : Nat) (below : Bool) (hr : r < c) (hc : c < 18446744073709551616) (hq : q < 18446744073709551616) (w : World) :
    Calls Tryz.prog 327 #[.int .u64 q, .int .u64 r, .int .u64 c, .bool below] w fun e w' => e = .returned (.bool (decide (c < 2 * r ∨ (2 * r = c ∧ q % 2 = 1)))) ∧ w = w' := by
  rcases (by omega : c < 2 * r ∨ (¬ c < 2 * r ∧ 2 * r = c) ∨ (¬ c < 2 * r ∧ ¬ 2 * r = c)) with h | ⟨h1, h2⟩ | ⟨h1, h2⟩
  · rw [decide_eq_true (by omega)]
    have k1 : (c : Int) - r < r := by omega
    go_enter Tryz.func327, Tryz.ntmps327
    go_wp2
    go_ret
    exact ⟨by first | rfl | simp, rfl⟩
  · obtain rfl : c = r + r := by omega
    have k1 : ((r + r : Nat) : Int) - r = r := by omega
    have hm := Nat.mod_two_eq_zero_or_one q
    rcases hm with hm | hm
    · rw [decide_eq_false (by omega)]
      have k2 : (q : Int) % 2 = 0 := by omega
      go_enter Tryz.func327, Tryz.ntmps327
      go_wp2
      go_ret
      exact ⟨by first | rfl | simp, rfl⟩
    · rw [decide_eq_true (by omega)]
      have k2 : (q : Int) % 2 = 1 := by omega
      go_enter Tryz.func327, Tryz.ntmps327
      go_wp2
      go_ret
      exact ⟨by first | rfl | simp, rfl⟩
  · rw [decide_eq_false (by omega)]
    have k1 : ¬ (c : Int) - r < r := by omega
    have k2 : ((r : Int) == (c : Int) - r) = false := by simp; omega
    go_enter Tryz.func327, Tryz.ntmps327
    go_wp2
    go_ret
    exact ⟨by first | rfl | simp, rfl⟩
set_option maxRecDepth 100000 in
set_option maxHeartbeats 2000000 in
theorem signed_pos (n : Nat) (hn : n < 9223372036854775808) (w : World) : Calls Tryz.prog 380 #[.int .u64 n, .bool false] w fun e w' => e = .returned (.tuple #[.int .i64 n, .int .i64 0]) ∧ w = w' := by
  have k1 : (n : Int) < 9223372036854775808 := by omega
  have hw := Lib.hid (IntWalk.i64_in (n : Int) ⟨by omega, by omega⟩)
  clear hn
  go_enter Tryz.func380, Tryz.ntmps380
  go_wp2
  go_ret2
  exact ⟨by first | rfl | (simp; exact hw.out) | simp, rfl⟩
theorem mul_nat (a b : Nat) (h : a * b < 9223372036854775808) (ha : a < 9223372036854775808) (hb : b < 9223372036854775808) (w : World) :
    ∃ s : Int, (s = 0 ∨ s = 1) ∧ Calls Tryz.prog 376 #[.int .i64 a, .int .i64 b] w fun e w' => e = .returned (.tuple #[.int .u64 0, .int .u64 ((a * b : Nat) : Int), .int .i64 s]) ∧ w = w' := by
  have c := mul_any a b (by omega) (by omega) (by omega) (by omega) w
  have e1 : mH a b = 0 := by unfold mH; rw [Int.natAbs_natCast, Int.natAbs_natCast]; omega
  have e2 : mL a b = a * b := by unfold mL; rw [Int.natAbs_natCast, Int.natAbs_natCast]; omega
  rw [e1, e2] at c
  refine ⟨_, ?_, c⟩
  rcases Nat.eq_zero_or_pos a with h0 | h0 <;> rcases Nat.eq_zero_or_pos b with h1 | h1
  · subst h0; left; simp [cmpI_eq]
  · subst h0; left; simp [cmpI_eq]
  · subst h1; left; simp [cmpI_eq]
  · right; rw [cmpI_gt (by omega), cmpI_gt (by omega)]; rfl
theorem even_le (p c : Nat) : evenF p c ≤ p / c + 1 := by unfold evenF; split <;> omega
set_option maxRecDepth 100000 in
set_option maxHeartbeats 4000000 in
theorem divide_even (a b c : Nat) (h : a * b < 4611686018427387904) (ha : a < 9223372036854775808) (hb : b < 9223372036854775808) (hc : 0 < c) (hc2 : c < 9223372036854775808) (w : World) :
    Calls Tryz.prog 326 #[.int .i64 a, .int .i64 b, .int .i64 c, .func (.func 327) #[] #[]] w fun e w' => e = .returned (.tuple #[.int .i64 (evenF (a * b) c : Nat), .int .i64 0]) ∧ w.drewN 1 = w' := by
  obtain ⟨s, hs, c1⟩ := mul_nat a b (by omega) ha hb w
  have c2 := size_any (c : Int) (by omega) (by omega) w
  rw [Int.natAbs_natCast] at c2
  have c3 := sign_any (c : Int) w
  rw [cmpI_gt (show (0 : Int) < c by omega)] at c3
  have c4 := div64_low (a * b) c (by omega) hc (by omega) w
  have hq : a * b / c < 4611686018427387904 := Nat.lt_of_le_of_lt (Nat.div_le_self _ _) h
  have c5 := even1_any (a * b / c) (a * b % c) c false (Nat.mod_lt _ hc) (by omega) (by omega) (w.drewN 1)
  have he : evenF (a * b) c = if c < 2 * (a * b % c) ∨ (2 * (a * b % c) = c ∧ a * b / c % 2 = 1) then a * b / c + 1 else a * b / c := rfl
  generalize evenF (a * b) c = E at he ⊢
  generalize hQ : a * b / c = q at *
  generalize hR : a * b % c = r at *
  generalize a * b = p at *
  have k0 : ((c : Int) == 0) = false := by simp; omega
  have k3 : ((q : Int) == 18446744073709551615) = false := by simp; omega
  have c6 := signed_pos E (by rw [he]; split <;> omega) (w.drewN 1)
  by_cases hd : c < 2 * r ∨ (2 * r = c ∧ q % 2 = 1)
  · rw [if_pos hd] at he
    rw [decide_eq_true hd] at c5
    subst he
    clear hQ hR hd h
    rcases hs with rfl | rfl
    · go_enter Tryz.func326, Tryz.ntmps326
      go_wp2_with fail
      refine c1.mono ?_
      rintro e w1 ⟨rfl, rfl⟩
      go_wp2_with fail
      refine c2.mono ?_
      rintro e w1 ⟨rfl, rfl⟩
      go_wp2_with fail
      refine c3.mono ?_
      rintro e w1 ⟨rfl, rfl⟩
      go_wp2_with fail
      refine c4.mono ?_
      rintro e w1 ⟨rfl, rfl⟩
      go_wp2_with fail
      refine c5.mono ?_
      rintro e w1 ⟨rfl, rfl⟩
      go_wp2_with fail
      refine (show Calls Tryz.prog 380 #[.int .u64 ((q : Int) + 1), .bool false] _ _ from c6).mono ?_
      rintro e w1 ⟨rfl, rfl⟩
      go_wp2_with fail
      go_ret2
      exact ⟨rfl, rfl⟩
    · go_enter Tryz.func326, Tryz.ntmps326
      go_wp2_with fail
      refine c1.mono ?_
      rintro e w1 ⟨rfl, rfl⟩
      go_wp2_with fail
      refine c2.mono ?_
      rintro e w1 ⟨rfl, rfl⟩
      go_wp2_with fail
      refine c3.mono ?_
      rintro e w1 ⟨rfl, rfl⟩
      go_wp2_with fail
      refine c4.mono ?_
      rintro e w1 ⟨rfl, rfl⟩
      go_wp2_with fail
      refine c5.mono ?_
      rintro e w1 ⟨rfl, rfl⟩
      go_wp2_with fail
      refine (show Calls Tryz.prog 380 #[.int .u64 ((q : Int) + 1), .bool false] _ _ from c6).mono ?_
      rintro e w1 ⟨rfl, rfl⟩
      go_wp2_with fail
      go_ret2
      exact ⟨rfl, rfl⟩
  · rw [if_neg hd] at he
    rw [decide_eq_false hd] at c5
    subst he
    clear hQ hR hd h
    rcases hs with rfl | rfl
    · go_enter Tryz.func326, Tryz.ntmps326
      go_wp2_with fail
      refine c1.mono ?_
      rintro e w1 ⟨rfl, rfl⟩
      go_wp2_with fail
      refine c2.mono ?_
      rintro e w1 ⟨rfl, rfl⟩
      go_wp2_with fail
      refine c3.mono ?_
      rintro e w1 ⟨rfl, rfl⟩
      go_wp2_with fail
      refine c4.mono ?_
      rintro e w1 ⟨rfl, rfl⟩
      go_wp2_with fail
      refine c5.mono ?_
      rintro e w1 ⟨rfl, rfl⟩
      go_wp2_with fail
      refine c6.mono ?_
      rintro e w1 ⟨rfl, rfl⟩
      go_wp2_with fail
      go_ret2
      exact ⟨rfl, rfl⟩
    · go_enter Tryz.func326, Tryz.ntmps326
      go_wp2_with fail
      refine c1.mono ?_
      rintro e w1 ⟨rfl, rfl⟩
      go_wp2_with fail
      refine c2.mono ?_
      rintro e w1 ⟨rfl, rfl⟩
      go_wp2_with fail
      refine c3.mono ?_
      rintro e w1 ⟨rfl, rfl⟩
      go_wp2_with fail
      refine c4.mono ?_
      rintro e w1 ⟨rfl, rfl⟩
      go_wp2_with fail
      refine c5.mono ?_
      rintro e w1 ⟨rfl, rfl⟩
      go_wp2_with fail
      refine c6.mono ?_
      rintro e w1 ⟨rfl, rfl⟩
      go_wp2_with fail
      go_ret2
      exact ⟨rfl, rfl⟩
set_option maxRecDepth 100000 in
set_option maxHeartbeats 2000000 in
theorem even_any (a b c : Nat) (h : a * b < 4611686018427387904) (ha : a < 9223372036854775808) (hb : b < 9223372036854775808) (hc : 0 < c) (hc2 : c < 9223372036854775808) (w : World) :
    Calls Tryz.prog 276 #[.int .i64 a, .int .i64 b, .int .i64 c] w fun e w' => e = .returned (.tuple #[.int .i64 (evenF (a * b) c : Nat), .int .i64 0]) ∧ w.drewN 1 = w' := by
  have c1 := divide_even a b c h ha hb hc hc2 w
  go_enter Tryz.func276, Tryz.ntmps276
  go_wp2_with fail
  refine c1.mono ?_
  rintro e w1 ⟨rfl, rfl⟩
  go_wp2_with fail
  go_ret2
  exact ⟨rfl, rfl⟩
end Go.Proofs.YthmhdaefkhcenaaGreatDoor
namespace Go.Proofs.YthmhdaefkhcenaaGreatDoor
set_option maxRecDepth 100000
set_option maxHeartbeats 8000000
open Go.RowKit

def Fit (n : Int) : Prop := -1099511627775 ≤ n ∧ n ≤ 1099511627775
def ptV (x y : Int) : Value := .agg #[.int .i64 x, .int .i64 y]
def turnZ (ax ay bx by_ cx cy : Int) : Int := cmpI ((bx - ax) * (cy - ay)) ((by_ - ay) * (cx - ax))
theorem valid_any (x y : Int) (h0 : -1099511627775 ≤ x) (h1 : x ≤ 1099511627775) (h2 : -1099511627775 ≤ y) (h3 : y ≤ 1099511627775) (w : World) :
    Calls Tryz.prog 290 #[.agg #[.int .i64 x, .int .i64 y]] w fun e w' => e = .returned (.bool true) ∧ Below w.heap.size w w' := by
  go_enter Tryz.func290, Tryz.ntmps290
  go_wp2
  go_ret
  exact ⟨rfl, by exact sBel⟩
theorem valid3_any (g : Nat) (ax ay bx by_ cx cy : Int) (w : World) (h1 : -1099511627775 ≤ ax ∧ ax ≤ 1099511627775) (h2 : -1099511627775 ≤ ay ∧ ay ≤ 1099511627775) (h3 : -1099511627775 ≤ bx ∧ bx ≤ 1099511627775) (h4 : -1099511627775 ≤ by_ ∧ by_ ≤ 1099511627775)
    (h5 : -1099511627775 ≤ cx ∧ cx ≤ 1099511627775) (h6 : -1099511627775 ≤ cy ∧ cy ≤ 1099511627775)
    (hb : Block w g 46 [.int .i64 ax, .int .i64 ay, .int .i64 bx, .int .i64 by_, .int .i64 cx, .int .i64 cy]) :
    Calls Tryz.prog 304 #[.slice (some ⟨g, 0, none⟩) 3 3] w fun e w' => e = .returned (.bool true) ∧ Below w.heap.size w w' := by
  have c0 := hb.cell 0
  have c1 := hb.cell 1
  have c2 := hb.cell 2
  have c3 := hb.cell 3
  have c4 := hb.cell 4
  have c5 := hb.cell 5
  simp only [List.getElem?_cons_zero, List.getElem?_cons_succ] at c0 c1 c2 c3 c4 c5
  have hl := hb.lt
  have v1 := valid_any ax ay h1.1 h1.2 h2.1 h2.2
  have v2 := valid_any bx by_ h3.1 h3.2 h4.1 h4.2
  have v3 := valid_any cx cy h5.1 h5.2 h6.1 h6.2
  clear h1 h2 h3 h4 h5 h6 hb
  go_enter Tryz.func304, Tryz.ntmps304
  go_wp2_with fail
  refine wp_loop_rounds 4 ?_
  rw [rounds_succ]
  go_wp2_with fail
  refine (v1 _).mono ?_
  rintro e w1 ⟨rfl, hb1⟩
  have bel1 := bel_call (bel_alloc (Below.refl w.heap.size w) _) hb1
  have d2 := (bel1.cell (p := ⟨g, 2, none⟩) hl).trans c2
  have d3 := (bel1.cell (p := ⟨g, 3, none⟩) hl).trans c3
  have d4 := (bel1.cell (p := ⟨g, 4, none⟩) hl).trans c4
  have d5 := (bel1.cell (p := ⟨g, 5, none⟩) hl).trans c5
  go_wp2_with fail
  rw [rounds_succ]
  go_wp2_with fail
  refine (v2 _).mono ?_
  rintro e w2 ⟨rfl, hb2⟩
  have bel2 := bel_call (bel_alloc bel1 _) hb2
  have e4 := (bel2.cell (p := ⟨g, 4, none⟩) hl).trans c4
  have e5 := (bel2.cell (p := ⟨g, 5, none⟩) hl).trans c5
  go_wp2_with fail
  rw [rounds_succ]
  go_wp2_with fail
  refine (v3 _).mono ?_
  rintro e w3 ⟨rfl, hb3⟩
  have bel3 := bel_call (bel_alloc bel2 _) hb3
  go_wp2_with fail
  rw [rounds_succ]
  go_wp2_with fail
  go_ret
  exact ⟨rfl, bel3⟩
theorem turn_any (ax ay bx by_ cx cy : Int) (w : World) (h1 : -1099511627775 ≤ ax ∧ ax ≤ 1099511627775) (h2 : -1099511627775 ≤ ay ∧ ay ≤ 1099511627775) (h3 : -1099511627775 ≤ bx ∧ bx ≤ 1099511627775) (h4 : -1099511627775 ≤ by_ ∧ by_ ≤ 1099511627775)
    (h5 : -1099511627775 ≤ cx ∧ cx ≤ 1099511627775) (h6 : -1099511627775 ≤ cy ∧ cy ≤ 1099511627775) :
    Calls Tryz.prog 342 #[.agg #[.int .i64 ax, .int .i64 ay], .agg #[.int .i64 bx, .int .i64 by_], .agg #[.int .i64 cx, .int .i64 cy]] w fun e w' => e = .returned (.int .i64 (turnZ ax ay bx by_ cx cy)) ∧ Below w.heap.size w w' := by
  have v := fun W hb => valid3_any (w.heap.size + 1 + 1 + 1) ax ay bx by_ cx cy W h1 h2 h3 h4 h5 h6 hb
  have s := fun W => wsign_any (bx - ax) (cy - ay) (by_ - ay) (cx - ax) (by omega) (by omega) (by omega) (by omega) (by omega) (by omega) (by omega) (by omega) W
  have q1 : -9223372036854775808 ≤ bx - ax ∧ bx - ax ≤ 9223372036854775807 := by omega
  have q2 : -9223372036854775808 ≤ cy - ay ∧ cy - ay ≤ 9223372036854775807 := by omega
  have q3 : -9223372036854775808 ≤ by_ - ay ∧ by_ - ay ≤ 9223372036854775807 := by omega
  have q4 : -9223372036854775808 ≤ cx - ax ∧ cx - ax ≤ 9223372036854775807 := by omega
  have u1 := IntWalk.wrap64_in _ q1
  have u2 := IntWalk.wrap64_in _ q2
  have u3 := IntWalk.wrap64_in _ q3
  have u4 := IntWalk.wrap64_in _ q4
  clear h1 h2 h3 h4 h5 h6 q1 q2 q3 q4
  go_enter Tryz.func342, Tryz.ntmps342
  go_wp2_with fail
  refine at_world (fun W => Below w.heap.size w W ∧ Block W w.heap.size 46 [.int .i64 ax, .int .i64 ay] ∧ Block W (w.heap.size + 1) 46 [.int .i64 bx, .int .i64 by_] ∧ Block W (w.heap.size + 1 + 1) 46 [.int .i64 cx, .int .i64 cy] ∧
    Block W (w.heap.size + 1 + 1 + 1) 46 [.int .i64 ax, .int .i64 ay, .int .i64 bx, .int .i64 by_, .int .i64 cx, .int .i64 cy]) ⟨by exact sBel, by exact sBlk, by exact sBlk, by exact sBlk, by exact sBlk⟩ ?_
  rintro W ⟨bel0, A0, A1, A2, A3⟩
  refine (v _ A3).mono ?_
  rintro e w1 ⟨rfl, hb1⟩
  have bel1 := bel_call bel0 hb1
  replace A0 := A0.call hb1
  replace A1 := A1.call hb1
  replace A2 := A2.call hb1
  obtain ⟨k0l, k0f, k00, k01⟩ := A0.c2
  obtain ⟨k1l, k1f, k10, k11⟩ := A1.c2
  obtain ⟨k2l, k2f, k20, k21⟩ := A2.c2
  clear A0 A1 A2 A3 v
  go_wp2_with fail
  refine (s _).mono ?_
  rintro e w2 ⟨rfl, hb2⟩
  go_wp2_with fail
  go_ret
  exact ⟨rfl, bel_call bel1 hb2⟩
end Go.Proofs.YthmhdaefkhcenaaGreatDoor
