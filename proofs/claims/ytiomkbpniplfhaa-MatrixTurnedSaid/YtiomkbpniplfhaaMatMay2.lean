/- The walk of the document's 'May'. -/
import Derived.Test.YtiomkbpniplfhaaMatOne
namespace Go.Proofs.Ytiomkbpniplfhaa
open Go.RowKit

set_option maxRecDepth 100000 in
set_option maxHeartbeats 16000000 in
theorem may_any (x : S6) (w : World) : Calls Try.prog 28 #[(.agg #[.int .i64 x.a, .int .i64 x.b, .int .i64 x.c, .int .i64 x.d, .int .i64 x.e, .int .i64 x.f])] w fun e w' => e = .returned (.int .i64 (Mat.one x)) ∧ Below w.heap.size w w' := by
  by_cases h4 : x.d = 4
  · have hm : x.d = 4 := h4
    have d4 : (x.d == 4) = true := by simpa using h4
    have d3 : (x.d == 3) = false := by simp; omega
    have d3' : (x.d != 3) = true := by simp; omega
    clear h4
    by_cases h0 : 1 ≤ x.a ∧ x.a ≤ 1099511627775
    rotate_left
    · have hr := Lib.hid (show Mat.one x = 5 by unfold Mat.one; rw [if_pos (by omega)])
      have k0 := fun w => rwithin_no (n := x.a) (lo := 1) (hi := 1099511627775) (by omega) w
      clear h0 hm
      go_enter Try.func28, Try.ntmps28
      go_wp2_with fail
      refine (k0 _).mono ?_
      rintro e w0 ⟨rfl, rfl⟩
      go_wp2_with fail
      go_ret
      exact ⟨by rw [hr.out]; rfl, bel_alloc (Below.refl _ _) _⟩
    by_cases h1 : 0 ≤ x.b ∧ x.b ≤ 1099511627775
    rotate_left
    · have hr := Lib.hid (show Mat.one x = 5 by unfold Mat.one; rw [if_pos (by omega)])
      have k0 := fun w => rwithin_yes (n := x.a) (lo := 1) (hi := 1099511627775) (by omega) w
      have k1 := fun w => rwithin_no (n := x.b) (lo := 0) (hi := 1099511627775) (by omega) w
      clear h0 h1 hm
      go_enter Try.func28, Try.ntmps28
      go_wp2_with fail
      refine (k0 _).mono ?_
      rintro e w0 ⟨rfl, rfl⟩
      go_wp2_with fail
      refine (k1 _).mono ?_
      rintro e w1 ⟨rfl, rfl⟩
      go_wp2_with fail
      go_ret
      exact ⟨by rw [hr.out]; rfl, bel_alloc (Below.refl _ _) _⟩
    by_cases h2 : 0 ≤ x.c ∧ x.c ≤ 3652058
    rotate_left
    · have hr := Lib.hid (show Mat.one x = 5 by unfold Mat.one; rw [if_pos (by omega)])
      have k0 := fun w => rwithin_yes (n := x.a) (lo := 1) (hi := 1099511627775) (by omega) w
      have k1 := fun w => rwithin_yes (n := x.b) (lo := 0) (hi := 1099511627775) (by omega) w
      have k2 := fun w => rwithin_no (n := x.c) (lo := 0) (hi := 3652058) (by omega) w
      clear h0 h1 h2 hm
      go_enter Try.func28, Try.ntmps28
      go_wp2_with fail
      refine (k0 _).mono ?_
      rintro e w0 ⟨rfl, rfl⟩
      go_wp2_with fail
      refine (k1 _).mono ?_
      rintro e w1 ⟨rfl, rfl⟩
      go_wp2_with fail
      refine (k2 _).mono ?_
      rintro e w2 ⟨rfl, rfl⟩
      go_wp2_with fail
      go_ret
      exact ⟨by rw [hr.out]; rfl, bel_alloc (Below.refl _ _) _⟩
    by_cases h3 : 0 ≤ x.e ∧ x.e ≤ 1000000
    rotate_left
    · have hr := Lib.hid (show Mat.one x = 5 by unfold Mat.one; rw [if_pos (by omega)])
      have k0 := fun w => rwithin_yes (n := x.a) (lo := 1) (hi := 1099511627775) (by omega) w
      have k1 := fun w => rwithin_yes (n := x.b) (lo := 0) (hi := 1099511627775) (by omega) w
      have k2 := fun w => rwithin_yes (n := x.c) (lo := 0) (hi := 3652058) (by omega) w
      have k3 := fun w => rwithin_no (n := x.e) (lo := 0) (hi := 1000000) (by omega) w
      clear h0 h1 h2 h3 hm
      go_enter Try.func28, Try.ntmps28
      go_wp2_with fail
      refine (k0 _).mono ?_
      rintro e w0 ⟨rfl, rfl⟩
      go_wp2_with fail
      refine (k1 _).mono ?_
      rintro e w1 ⟨rfl, rfl⟩
      go_wp2_with fail
      refine (k2 _).mono ?_
      rintro e w2 ⟨rfl, rfl⟩
      go_wp2_with fail
      refine (k3 _).mono ?_
      rintro e w3 ⟨rfl, rfl⟩
      go_wp2_with fail
      go_ret
      exact ⟨by rw [hr.out]; rfl, bel_alloc (Below.refl _ _) _⟩
    by_cases h4 : 0 ≤ x.f ∧ x.f ≤ 1099511627775
    rotate_left
    · have hr := Lib.hid (show Mat.one x = 5 by unfold Mat.one; rw [if_pos (by omega)])
      have k0 := fun w => rwithin_yes (n := x.a) (lo := 1) (hi := 1099511627775) (by omega) w
      have k1 := fun w => rwithin_yes (n := x.b) (lo := 0) (hi := 1099511627775) (by omega) w
      have k2 := fun w => rwithin_yes (n := x.c) (lo := 0) (hi := 3652058) (by omega) w
      have k3 := fun w => rwithin_yes (n := x.e) (lo := 0) (hi := 1000000) (by omega) w
      have k4 := fun w => rwithin_no (n := x.f) (lo := 0) (hi := 1099511627775) (by omega) w
      clear h0 h1 h2 h3 h4 hm
      go_enter Try.func28, Try.ntmps28
      go_wp2_with fail
      refine (k0 _).mono ?_
      rintro e w0 ⟨rfl, rfl⟩
      go_wp2_with fail
      refine (k1 _).mono ?_
      rintro e w1 ⟨rfl, rfl⟩
      go_wp2_with fail
      refine (k2 _).mono ?_
      rintro e w2 ⟨rfl, rfl⟩
      go_wp2_with fail
      refine (k3 _).mono ?_
      rintro e w3 ⟨rfl, rfl⟩
      go_wp2_with fail
      refine (k4 _).mono ?_
      rintro e w4 ⟨rfl, rfl⟩
      go_wp2_with fail
      go_ret
      exact ⟨by rw [hr.out]; rfl, bel_alloc (Below.refl _ _) _⟩
    by_cases he : x.e = 0
    · have e1 : (x.e == 0) = true := by simpa using he
      have e2 : (x.e != 0) = false := by simpa using he
      by_cases hf : x.f = 0
      · have f1 : (x.f == 0) = true := by simpa using hf
        have f2 : (x.f != 0) = false := by simpa using hf
        · have hr := Lib.hid (show Mat.one x = 0 by unfold Mat.one; rw [if_neg (by omega), if_neg (by omega)])
          have k0 := fun w => rwithin_yes (n := x.a) (lo := 1) (hi := 1099511627775) (by omega) w
          have k1 := fun w => rwithin_yes (n := x.b) (lo := 0) (hi := 1099511627775) (by omega) w
          have k2 := fun w => rwithin_yes (n := x.c) (lo := 0) (hi := 3652058) (by omega) w
          have k3 := fun w => rwithin_yes (n := x.e) (lo := 0) (hi := 1000000) (by omega) w
          have k4 := fun w => rwithin_yes (n := x.f) (lo := 0) (hi := 1099511627775) (by omega) w
          have k5 := fun w => rwithin_yes (n := x.d) (lo := 1) (hi := 5) (by omega) w
          clear h0 h1 h2 h3 h4 hm he hf
          go_enter Try.func28, Try.ntmps28
          go_wp2_with fail
          refine (k0 _).mono ?_
          rintro e w0 ⟨rfl, rfl⟩
          go_wp2_with fail
          refine (k1 _).mono ?_
          rintro e w1 ⟨rfl, rfl⟩
          go_wp2_with fail
          refine (k2 _).mono ?_
          rintro e w2 ⟨rfl, rfl⟩
          go_wp2_with fail
          refine (k3 _).mono ?_
          rintro e w3 ⟨rfl, rfl⟩
          go_wp2_with fail
          refine (k4 _).mono ?_
          rintro e w4 ⟨rfl, rfl⟩
          go_wp2_with fail
          refine (k5 _).mono ?_
          rintro e w5 ⟨rfl, rfl⟩
          go_wp2_with fail
          go_ret
          exact ⟨by rw [hr.out]; rfl, bel_alloc (Below.refl _ _) _⟩
      · have f1 : (x.f == 0) = false := by simpa using hf
        have f2 : (x.f != 0) = true := by simpa using hf
        · have hr := Lib.hid (show Mat.one x = 0 by unfold Mat.one; rw [if_neg (by omega), if_neg (by omega)])
          have k0 := fun w => rwithin_yes (n := x.a) (lo := 1) (hi := 1099511627775) (by omega) w
          have k1 := fun w => rwithin_yes (n := x.b) (lo := 0) (hi := 1099511627775) (by omega) w
          have k2 := fun w => rwithin_yes (n := x.c) (lo := 0) (hi := 3652058) (by omega) w
          have k3 := fun w => rwithin_yes (n := x.e) (lo := 0) (hi := 1000000) (by omega) w
          have k4 := fun w => rwithin_yes (n := x.f) (lo := 0) (hi := 1099511627775) (by omega) w
          have k5 := fun w => rwithin_yes (n := x.d) (lo := 1) (hi := 5) (by omega) w
          clear h0 h1 h2 h3 h4 hm he hf
          go_enter Try.func28, Try.ntmps28
          go_wp2_with fail
          refine (k0 _).mono ?_
          rintro e w0 ⟨rfl, rfl⟩
          go_wp2_with fail
          refine (k1 _).mono ?_
          rintro e w1 ⟨rfl, rfl⟩
          go_wp2_with fail
          refine (k2 _).mono ?_
          rintro e w2 ⟨rfl, rfl⟩
          go_wp2_with fail
          refine (k3 _).mono ?_
          rintro e w3 ⟨rfl, rfl⟩
          go_wp2_with fail
          refine (k4 _).mono ?_
          rintro e w4 ⟨rfl, rfl⟩
          go_wp2_with fail
          refine (k5 _).mono ?_
          rintro e w5 ⟨rfl, rfl⟩
          go_wp2_with fail
          go_ret
          exact ⟨by rw [hr.out]; rfl, bel_alloc (Below.refl _ _) _⟩
    · have e1 : (x.e == 0) = false := by simpa using he
      have e2 : (x.e != 0) = true := by simpa using he
      skip
      · have hr := Lib.hid (show Mat.one x = 2 by unfold Mat.one; rw [if_neg (by omega), if_pos (by omega)])
        have k0 := fun w => rwithin_yes (n := x.a) (lo := 1) (hi := 1099511627775) (by omega) w
        have k1 := fun w => rwithin_yes (n := x.b) (lo := 0) (hi := 1099511627775) (by omega) w
        have k2 := fun w => rwithin_yes (n := x.c) (lo := 0) (hi := 3652058) (by omega) w
        have k3 := fun w => rwithin_yes (n := x.e) (lo := 0) (hi := 1000000) (by omega) w
        have k4 := fun w => rwithin_yes (n := x.f) (lo := 0) (hi := 1099511627775) (by omega) w
        have k5 := fun w => rwithin_yes (n := x.d) (lo := 1) (hi := 5) (by omega) w
        clear h0 h1 h2 h3 h4 hm he
        go_enter Try.func28, Try.ntmps28
        go_wp2_with fail
        refine (k0 _).mono ?_
        rintro e w0 ⟨rfl, rfl⟩
        go_wp2_with fail
        refine (k1 _).mono ?_
        rintro e w1 ⟨rfl, rfl⟩
        go_wp2_with fail
        refine (k2 _).mono ?_
        rintro e w2 ⟨rfl, rfl⟩
        go_wp2_with fail
        refine (k3 _).mono ?_
        rintro e w3 ⟨rfl, rfl⟩
        go_wp2_with fail
        refine (k4 _).mono ?_
        rintro e w4 ⟨rfl, rfl⟩
        go_wp2_with fail
        refine (k5 _).mono ?_
        rintro e w5 ⟨rfl, rfl⟩
        go_wp2_with fail
        go_ret
        exact ⟨by rw [hr.out]; rfl, bel_alloc (Below.refl _ _) _⟩
  by_cases h5' : x.d = 5
  · have hm : x.d = 5 := h5'
    have d4 : (x.d == 4) = false := by simp; omega
    have d5 : (x.d == 5) = true := by simpa using h5'
    have d3 : (x.d == 3) = false := by simp; omega
    have d3' : (x.d != 3) = true := by simp; omega
    clear h4 h5'
    by_cases h0 : 1 ≤ x.a ∧ x.a ≤ 1099511627775
    rotate_left
    · have hr := Lib.hid (show Mat.one x = 5 by unfold Mat.one; rw [if_pos (by omega)])
      have k0 := fun w => rwithin_no (n := x.a) (lo := 1) (hi := 1099511627775) (by omega) w
      clear h0 hm
      go_enter Try.func28, Try.ntmps28
      go_wp2_with fail
      refine (k0 _).mono ?_
      rintro e w0 ⟨rfl, rfl⟩
      go_wp2_with fail
      go_ret
      exact ⟨by rw [hr.out]; rfl, bel_alloc (Below.refl _ _) _⟩
    by_cases h1 : 0 ≤ x.b ∧ x.b ≤ 1099511627775
    rotate_left
    · have hr := Lib.hid (show Mat.one x = 5 by unfold Mat.one; rw [if_pos (by omega)])
      have k0 := fun w => rwithin_yes (n := x.a) (lo := 1) (hi := 1099511627775) (by omega) w
      have k1 := fun w => rwithin_no (n := x.b) (lo := 0) (hi := 1099511627775) (by omega) w
      clear h0 h1 hm
      go_enter Try.func28, Try.ntmps28
      go_wp2_with fail
      refine (k0 _).mono ?_
      rintro e w0 ⟨rfl, rfl⟩
      go_wp2_with fail
      refine (k1 _).mono ?_
      rintro e w1 ⟨rfl, rfl⟩
      go_wp2_with fail
      go_ret
      exact ⟨by rw [hr.out]; rfl, bel_alloc (Below.refl _ _) _⟩
    by_cases h2 : 0 ≤ x.c ∧ x.c ≤ 3652058
    rotate_left
    · have hr := Lib.hid (show Mat.one x = 5 by unfold Mat.one; rw [if_pos (by omega)])
      have k0 := fun w => rwithin_yes (n := x.a) (lo := 1) (hi := 1099511627775) (by omega) w
      have k1 := fun w => rwithin_yes (n := x.b) (lo := 0) (hi := 1099511627775) (by omega) w
      have k2 := fun w => rwithin_no (n := x.c) (lo := 0) (hi := 3652058) (by omega) w
      clear h0 h1 h2 hm
      go_enter Try.func28, Try.ntmps28
      go_wp2_with fail
      refine (k0 _).mono ?_
      rintro e w0 ⟨rfl, rfl⟩
      go_wp2_with fail
      refine (k1 _).mono ?_
      rintro e w1 ⟨rfl, rfl⟩
      go_wp2_with fail
      refine (k2 _).mono ?_
      rintro e w2 ⟨rfl, rfl⟩
      go_wp2_with fail
      go_ret
      exact ⟨by rw [hr.out]; rfl, bel_alloc (Below.refl _ _) _⟩
    by_cases h3 : 0 ≤ x.e ∧ x.e ≤ 1000000
    rotate_left
    · have hr := Lib.hid (show Mat.one x = 5 by unfold Mat.one; rw [if_pos (by omega)])
      have k0 := fun w => rwithin_yes (n := x.a) (lo := 1) (hi := 1099511627775) (by omega) w
      have k1 := fun w => rwithin_yes (n := x.b) (lo := 0) (hi := 1099511627775) (by omega) w
      have k2 := fun w => rwithin_yes (n := x.c) (lo := 0) (hi := 3652058) (by omega) w
      have k3 := fun w => rwithin_no (n := x.e) (lo := 0) (hi := 1000000) (by omega) w
      clear h0 h1 h2 h3 hm
      go_enter Try.func28, Try.ntmps28
      go_wp2_with fail
      refine (k0 _).mono ?_
      rintro e w0 ⟨rfl, rfl⟩
      go_wp2_with fail
      refine (k1 _).mono ?_
      rintro e w1 ⟨rfl, rfl⟩
      go_wp2_with fail
      refine (k2 _).mono ?_
      rintro e w2 ⟨rfl, rfl⟩
      go_wp2_with fail
      refine (k3 _).mono ?_
      rintro e w3 ⟨rfl, rfl⟩
      go_wp2_with fail
      go_ret
      exact ⟨by rw [hr.out]; rfl, bel_alloc (Below.refl _ _) _⟩
    by_cases h4 : 0 ≤ x.f ∧ x.f ≤ 1099511627775
    rotate_left
    · have hr := Lib.hid (show Mat.one x = 5 by unfold Mat.one; rw [if_pos (by omega)])
      have k0 := fun w => rwithin_yes (n := x.a) (lo := 1) (hi := 1099511627775) (by omega) w
      have k1 := fun w => rwithin_yes (n := x.b) (lo := 0) (hi := 1099511627775) (by omega) w
      have k2 := fun w => rwithin_yes (n := x.c) (lo := 0) (hi := 3652058) (by omega) w
      have k3 := fun w => rwithin_yes (n := x.e) (lo := 0) (hi := 1000000) (by omega) w
      have k4 := fun w => rwithin_no (n := x.f) (lo := 0) (hi := 1099511627775) (by omega) w
      clear h0 h1 h2 h3 h4 hm
      go_enter Try.func28, Try.ntmps28
      go_wp2_with fail
      refine (k0 _).mono ?_
      rintro e w0 ⟨rfl, rfl⟩
      go_wp2_with fail
      refine (k1 _).mono ?_
      rintro e w1 ⟨rfl, rfl⟩
      go_wp2_with fail
      refine (k2 _).mono ?_
      rintro e w2 ⟨rfl, rfl⟩
      go_wp2_with fail
      refine (k3 _).mono ?_
      rintro e w3 ⟨rfl, rfl⟩
      go_wp2_with fail
      refine (k4 _).mono ?_
      rintro e w4 ⟨rfl, rfl⟩
      go_wp2_with fail
      go_ret
      exact ⟨by rw [hr.out]; rfl, bel_alloc (Below.refl _ _) _⟩
    by_cases he : x.e = 0
    · have e1 : (x.e == 0) = true := by simpa using he
      have e2 : (x.e != 0) = false := by simpa using he
      by_cases hf : x.f = 0
      · have f1 : (x.f == 0) = true := by simpa using hf
        have f2 : (x.f != 0) = false := by simpa using hf
        · have hr := Lib.hid (show Mat.one x = 0 by unfold Mat.one; rw [if_neg (by omega), if_neg (by omega)])
          have k0 := fun w => rwithin_yes (n := x.a) (lo := 1) (hi := 1099511627775) (by omega) w
          have k1 := fun w => rwithin_yes (n := x.b) (lo := 0) (hi := 1099511627775) (by omega) w
          have k2 := fun w => rwithin_yes (n := x.c) (lo := 0) (hi := 3652058) (by omega) w
          have k3 := fun w => rwithin_yes (n := x.e) (lo := 0) (hi := 1000000) (by omega) w
          have k4 := fun w => rwithin_yes (n := x.f) (lo := 0) (hi := 1099511627775) (by omega) w
          have k5 := fun w => rwithin_yes (n := x.d) (lo := 1) (hi := 5) (by omega) w
          clear h0 h1 h2 h3 h4 hm he hf
          go_enter Try.func28, Try.ntmps28
          go_wp2_with fail
          refine (k0 _).mono ?_
          rintro e w0 ⟨rfl, rfl⟩
          go_wp2_with fail
          refine (k1 _).mono ?_
          rintro e w1 ⟨rfl, rfl⟩
          go_wp2_with fail
          refine (k2 _).mono ?_
          rintro e w2 ⟨rfl, rfl⟩
          go_wp2_with fail
          refine (k3 _).mono ?_
          rintro e w3 ⟨rfl, rfl⟩
          go_wp2_with fail
          refine (k4 _).mono ?_
          rintro e w4 ⟨rfl, rfl⟩
          go_wp2_with fail
          refine (k5 _).mono ?_
          rintro e w5 ⟨rfl, rfl⟩
          go_wp2_with fail
          go_ret
          exact ⟨by rw [hr.out]; rfl, bel_alloc (Below.refl _ _) _⟩
      · have f1 : (x.f == 0) = false := by simpa using hf
        have f2 : (x.f != 0) = true := by simpa using hf
        · have hr := Lib.hid (show Mat.one x = 0 by unfold Mat.one; rw [if_neg (by omega), if_neg (by omega)])
          have k0 := fun w => rwithin_yes (n := x.a) (lo := 1) (hi := 1099511627775) (by omega) w
          have k1 := fun w => rwithin_yes (n := x.b) (lo := 0) (hi := 1099511627775) (by omega) w
          have k2 := fun w => rwithin_yes (n := x.c) (lo := 0) (hi := 3652058) (by omega) w
          have k3 := fun w => rwithin_yes (n := x.e) (lo := 0) (hi := 1000000) (by omega) w
          have k4 := fun w => rwithin_yes (n := x.f) (lo := 0) (hi := 1099511627775) (by omega) w
          have k5 := fun w => rwithin_yes (n := x.d) (lo := 1) (hi := 5) (by omega) w
          clear h0 h1 h2 h3 h4 hm he hf
          go_enter Try.func28, Try.ntmps28
          go_wp2_with fail
          refine (k0 _).mono ?_
          rintro e w0 ⟨rfl, rfl⟩
          go_wp2_with fail
          refine (k1 _).mono ?_
          rintro e w1 ⟨rfl, rfl⟩
          go_wp2_with fail
          refine (k2 _).mono ?_
          rintro e w2 ⟨rfl, rfl⟩
          go_wp2_with fail
          refine (k3 _).mono ?_
          rintro e w3 ⟨rfl, rfl⟩
          go_wp2_with fail
          refine (k4 _).mono ?_
          rintro e w4 ⟨rfl, rfl⟩
          go_wp2_with fail
          refine (k5 _).mono ?_
          rintro e w5 ⟨rfl, rfl⟩
          go_wp2_with fail
          go_ret
          exact ⟨by rw [hr.out]; rfl, bel_alloc (Below.refl _ _) _⟩
    · have e1 : (x.e == 0) = false := by simpa using he
      have e2 : (x.e != 0) = true := by simpa using he
      skip
      · have hr := Lib.hid (show Mat.one x = 2 by unfold Mat.one; rw [if_neg (by omega), if_pos (by omega)])
        have k0 := fun w => rwithin_yes (n := x.a) (lo := 1) (hi := 1099511627775) (by omega) w
        have k1 := fun w => rwithin_yes (n := x.b) (lo := 0) (hi := 1099511627775) (by omega) w
        have k2 := fun w => rwithin_yes (n := x.c) (lo := 0) (hi := 3652058) (by omega) w
        have k3 := fun w => rwithin_yes (n := x.e) (lo := 0) (hi := 1000000) (by omega) w
        have k4 := fun w => rwithin_yes (n := x.f) (lo := 0) (hi := 1099511627775) (by omega) w
        have k5 := fun w => rwithin_yes (n := x.d) (lo := 1) (hi := 5) (by omega) w
        clear h0 h1 h2 h3 h4 hm he
        go_enter Try.func28, Try.ntmps28
        go_wp2_with fail
        refine (k0 _).mono ?_
        rintro e w0 ⟨rfl, rfl⟩
        go_wp2_with fail
        refine (k1 _).mono ?_
        rintro e w1 ⟨rfl, rfl⟩
        go_wp2_with fail
        refine (k2 _).mono ?_
        rintro e w2 ⟨rfl, rfl⟩
        go_wp2_with fail
        refine (k3 _).mono ?_
        rintro e w3 ⟨rfl, rfl⟩
        go_wp2_with fail
        refine (k4 _).mono ?_
        rintro e w4 ⟨rfl, rfl⟩
        go_wp2_with fail
        refine (k5 _).mono ?_
        rintro e w5 ⟨rfl, rfl⟩
        go_wp2_with fail
        go_ret
        exact ⟨by rw [hr.out]; rfl, bel_alloc (Below.refl _ _) _⟩
  have hm : ¬ (x.d = 4 ∨ x.d = 5) := by omega
  have d4 : (x.d == 4) = false := by simpa using h4
  have d5 : (x.d == 5) = false := by simpa using h5'
  clear h4 h5'
  by_cases h0 : 1 ≤ x.a ∧ x.a ≤ 1099511627775
  rotate_left
  · have hr := Lib.hid (show Mat.one x = 5 by unfold Mat.one; rw [if_pos (by omega)])
    have k0 := fun w => rwithin_no (n := x.a) (lo := 1) (hi := 1099511627775) (by omega) w
    clear h0 hm
    go_enter Try.func28, Try.ntmps28
    go_wp2_with fail
    refine (k0 _).mono ?_
    rintro e w0 ⟨rfl, rfl⟩
    go_wp2_with fail
    go_ret
    exact ⟨by rw [hr.out]; rfl, bel_alloc (Below.refl _ _) _⟩
  by_cases h1 : 0 ≤ x.b ∧ x.b ≤ 1099511627775
  rotate_left
  · have hr := Lib.hid (show Mat.one x = 5 by unfold Mat.one; rw [if_pos (by omega)])
    have k0 := fun w => rwithin_yes (n := x.a) (lo := 1) (hi := 1099511627775) (by omega) w
    have k1 := fun w => rwithin_no (n := x.b) (lo := 0) (hi := 1099511627775) (by omega) w
    clear h0 h1 hm
    go_enter Try.func28, Try.ntmps28
    go_wp2_with fail
    refine (k0 _).mono ?_
    rintro e w0 ⟨rfl, rfl⟩
    go_wp2_with fail
    refine (k1 _).mono ?_
    rintro e w1 ⟨rfl, rfl⟩
    go_wp2_with fail
    go_ret
    exact ⟨by rw [hr.out]; rfl, bel_alloc (Below.refl _ _) _⟩
  by_cases h2 : 0 ≤ x.c ∧ x.c ≤ 3652058
  rotate_left
  · have hr := Lib.hid (show Mat.one x = 5 by unfold Mat.one; rw [if_pos (by omega)])
    have k0 := fun w => rwithin_yes (n := x.a) (lo := 1) (hi := 1099511627775) (by omega) w
    have k1 := fun w => rwithin_yes (n := x.b) (lo := 0) (hi := 1099511627775) (by omega) w
    have k2 := fun w => rwithin_no (n := x.c) (lo := 0) (hi := 3652058) (by omega) w
    clear h0 h1 h2 hm
    go_enter Try.func28, Try.ntmps28
    go_wp2_with fail
    refine (k0 _).mono ?_
    rintro e w0 ⟨rfl, rfl⟩
    go_wp2_with fail
    refine (k1 _).mono ?_
    rintro e w1 ⟨rfl, rfl⟩
    go_wp2_with fail
    refine (k2 _).mono ?_
    rintro e w2 ⟨rfl, rfl⟩
    go_wp2_with fail
    go_ret
    exact ⟨by rw [hr.out]; rfl, bel_alloc (Below.refl _ _) _⟩
  by_cases h3 : 0 ≤ x.e ∧ x.e ≤ 1000000
  rotate_left
  · have hr := Lib.hid (show Mat.one x = 5 by unfold Mat.one; rw [if_pos (by omega)])
    have k0 := fun w => rwithin_yes (n := x.a) (lo := 1) (hi := 1099511627775) (by omega) w
    have k1 := fun w => rwithin_yes (n := x.b) (lo := 0) (hi := 1099511627775) (by omega) w
    have k2 := fun w => rwithin_yes (n := x.c) (lo := 0) (hi := 3652058) (by omega) w
    have k3 := fun w => rwithin_no (n := x.e) (lo := 0) (hi := 1000000) (by omega) w
    clear h0 h1 h2 h3 hm
    go_enter Try.func28, Try.ntmps28
    go_wp2_with fail
    refine (k0 _).mono ?_
    rintro e w0 ⟨rfl, rfl⟩
    go_wp2_with fail
    refine (k1 _).mono ?_
    rintro e w1 ⟨rfl, rfl⟩
    go_wp2_with fail
    refine (k2 _).mono ?_
    rintro e w2 ⟨rfl, rfl⟩
    go_wp2_with fail
    refine (k3 _).mono ?_
    rintro e w3 ⟨rfl, rfl⟩
    go_wp2_with fail
    go_ret
    exact ⟨by rw [hr.out]; rfl, bel_alloc (Below.refl _ _) _⟩
  by_cases h4 : 0 ≤ x.f ∧ x.f ≤ 1099511627775
  rotate_left
  · have hr := Lib.hid (show Mat.one x = 5 by unfold Mat.one; rw [if_pos (by omega)])
    have k0 := fun w => rwithin_yes (n := x.a) (lo := 1) (hi := 1099511627775) (by omega) w
    have k1 := fun w => rwithin_yes (n := x.b) (lo := 0) (hi := 1099511627775) (by omega) w
    have k2 := fun w => rwithin_yes (n := x.c) (lo := 0) (hi := 3652058) (by omega) w
    have k3 := fun w => rwithin_yes (n := x.e) (lo := 0) (hi := 1000000) (by omega) w
    have k4 := fun w => rwithin_no (n := x.f) (lo := 0) (hi := 1099511627775) (by omega) w
    clear h0 h1 h2 h3 h4 hm
    go_enter Try.func28, Try.ntmps28
    go_wp2_with fail
    refine (k0 _).mono ?_
    rintro e w0 ⟨rfl, rfl⟩
    go_wp2_with fail
    refine (k1 _).mono ?_
    rintro e w1 ⟨rfl, rfl⟩
    go_wp2_with fail
    refine (k2 _).mono ?_
    rintro e w2 ⟨rfl, rfl⟩
    go_wp2_with fail
    refine (k3 _).mono ?_
    rintro e w3 ⟨rfl, rfl⟩
    go_wp2_with fail
    refine (k4 _).mono ?_
    rintro e w4 ⟨rfl, rfl⟩
    go_wp2_with fail
    go_ret
    exact ⟨by rw [hr.out]; rfl, bel_alloc (Below.refl _ _) _⟩
  by_cases h5 : 1 ≤ x.d ∧ x.d ≤ 5
  rotate_left
  · have hr := Lib.hid (show Mat.one x = 2 by unfold Mat.one; rw [if_neg (by omega), if_pos (by omega)])
    have k0 := fun w => rwithin_yes (n := x.a) (lo := 1) (hi := 1099511627775) (by omega) w
    have k1 := fun w => rwithin_yes (n := x.b) (lo := 0) (hi := 1099511627775) (by omega) w
    have k2 := fun w => rwithin_yes (n := x.c) (lo := 0) (hi := 3652058) (by omega) w
    have k3 := fun w => rwithin_yes (n := x.e) (lo := 0) (hi := 1000000) (by omega) w
    have k4 := fun w => rwithin_yes (n := x.f) (lo := 0) (hi := 1099511627775) (by omega) w
    have k5 := fun w => rwithin_no (n := x.d) (lo := 1) (hi := 5) (by omega) w
    clear h0 h1 h2 h3 h4 h5 hm
    go_enter Try.func28, Try.ntmps28
    go_wp2_with fail
    refine (k0 _).mono ?_
    rintro e w0 ⟨rfl, rfl⟩
    go_wp2_with fail
    refine (k1 _).mono ?_
    rintro e w1 ⟨rfl, rfl⟩
    go_wp2_with fail
    refine (k2 _).mono ?_
    rintro e w2 ⟨rfl, rfl⟩
    go_wp2_with fail
    refine (k3 _).mono ?_
    rintro e w3 ⟨rfl, rfl⟩
    go_wp2_with fail
    refine (k4 _).mono ?_
    rintro e w4 ⟨rfl, rfl⟩
    go_wp2_with fail
    refine (k5 _).mono ?_
    rintro e w5 ⟨rfl, rfl⟩
    go_wp2_with fail
    go_ret
    exact ⟨by rw [hr.out]; rfl, bel_alloc (Below.refl _ _) _⟩
  by_cases he : x.e = 0
  · have e1 : (x.e == 0) = true := by simpa using he
    have e2 : (x.e != 0) = false := by simpa using he
    by_cases hf : x.f = 0
    · have f1 : (x.f == 0) = true := by simpa using hf
      have f2 : (x.f != 0) = false := by simpa using hf
      · have hr := Lib.hid (show Mat.one x = 0 by unfold Mat.one; rw [if_neg (by omega), if_neg (by omega)])
        have k0 := fun w => rwithin_yes (n := x.a) (lo := 1) (hi := 1099511627775) (by omega) w
        have k1 := fun w => rwithin_yes (n := x.b) (lo := 0) (hi := 1099511627775) (by omega) w
        have k2 := fun w => rwithin_yes (n := x.c) (lo := 0) (hi := 3652058) (by omega) w
        have k3 := fun w => rwithin_yes (n := x.e) (lo := 0) (hi := 1000000) (by omega) w
        have k4 := fun w => rwithin_yes (n := x.f) (lo := 0) (hi := 1099511627775) (by omega) w
        have k5 := fun w => rwithin_yes (n := x.d) (lo := 1) (hi := 5) (by omega) w
        clear h0 h1 h2 h3 h4 h5 hm he hf
        go_enter Try.func28, Try.ntmps28
        go_wp2_with fail
        refine (k0 _).mono ?_
        rintro e w0 ⟨rfl, rfl⟩
        go_wp2_with fail
        refine (k1 _).mono ?_
        rintro e w1 ⟨rfl, rfl⟩
        go_wp2_with fail
        refine (k2 _).mono ?_
        rintro e w2 ⟨rfl, rfl⟩
        go_wp2_with fail
        refine (k3 _).mono ?_
        rintro e w3 ⟨rfl, rfl⟩
        go_wp2_with fail
        refine (k4 _).mono ?_
        rintro e w4 ⟨rfl, rfl⟩
        go_wp2_with fail
        refine (k5 _).mono ?_
        rintro e w5 ⟨rfl, rfl⟩
        go_wp2_with fail
        go_ret
        exact ⟨by rw [hr.out]; rfl, bel_alloc (Below.refl _ _) _⟩
    · have f1 : (x.f == 0) = false := by simpa using hf
      have f2 : (x.f != 0) = true := by simpa using hf
      · have hr := Lib.hid (show Mat.one x = 2 by unfold Mat.one; rw [if_neg (by omega), if_pos (by omega)])
        have k0 := fun w => rwithin_yes (n := x.a) (lo := 1) (hi := 1099511627775) (by omega) w
        have k1 := fun w => rwithin_yes (n := x.b) (lo := 0) (hi := 1099511627775) (by omega) w
        have k2 := fun w => rwithin_yes (n := x.c) (lo := 0) (hi := 3652058) (by omega) w
        have k3 := fun w => rwithin_yes (n := x.e) (lo := 0) (hi := 1000000) (by omega) w
        have k4 := fun w => rwithin_yes (n := x.f) (lo := 0) (hi := 1099511627775) (by omega) w
        have k5 := fun w => rwithin_yes (n := x.d) (lo := 1) (hi := 5) (by omega) w
        clear h0 h1 h2 h3 h4 h5 hm he hf
        go_enter Try.func28, Try.ntmps28
        go_wp2_with fail
        refine (k0 _).mono ?_
        rintro e w0 ⟨rfl, rfl⟩
        go_wp2_with fail
        refine (k1 _).mono ?_
        rintro e w1 ⟨rfl, rfl⟩
        go_wp2_with fail
        refine (k2 _).mono ?_
        rintro e w2 ⟨rfl, rfl⟩
        go_wp2_with fail
        refine (k3 _).mono ?_
        rintro e w3 ⟨rfl, rfl⟩
        go_wp2_with fail
        refine (k4 _).mono ?_
        rintro e w4 ⟨rfl, rfl⟩
        go_wp2_with fail
        refine (k5 _).mono ?_
        rintro e w5 ⟨rfl, rfl⟩
        go_wp2_with fail
        go_ret
        exact ⟨by rw [hr.out]; rfl, bel_alloc (Below.refl _ _) _⟩
  · have e1 : (x.e == 0) = false := by simpa using he
    have e2 : (x.e != 0) = true := by simpa using he
    by_cases g3 : x.d = 3
    rotate_left
    · have e3 : (x.d == 3) = false := by simpa using g3
      have e4 : (x.d != 3) = true := by simpa using g3
      · have hr := Lib.hid (show Mat.one x = 2 by unfold Mat.one; rw [if_neg (by omega), if_pos (by omega)])
        have k0 := fun w => rwithin_yes (n := x.a) (lo := 1) (hi := 1099511627775) (by omega) w
        have k1 := fun w => rwithin_yes (n := x.b) (lo := 0) (hi := 1099511627775) (by omega) w
        have k2 := fun w => rwithin_yes (n := x.c) (lo := 0) (hi := 3652058) (by omega) w
        have k3 := fun w => rwithin_yes (n := x.e) (lo := 0) (hi := 1000000) (by omega) w
        have k4 := fun w => rwithin_yes (n := x.f) (lo := 0) (hi := 1099511627775) (by omega) w
        have k5 := fun w => rwithin_yes (n := x.d) (lo := 1) (hi := 5) (by omega) w
        clear h0 h1 h2 h3 h4 h5 hm he g3
        go_enter Try.func28, Try.ntmps28
        go_wp2_with fail
        refine (k0 _).mono ?_
        rintro e w0 ⟨rfl, rfl⟩
        go_wp2_with fail
        refine (k1 _).mono ?_
        rintro e w1 ⟨rfl, rfl⟩
        go_wp2_with fail
        refine (k2 _).mono ?_
        rintro e w2 ⟨rfl, rfl⟩
        go_wp2_with fail
        refine (k3 _).mono ?_
        rintro e w3 ⟨rfl, rfl⟩
        go_wp2_with fail
        refine (k4 _).mono ?_
        rintro e w4 ⟨rfl, rfl⟩
        go_wp2_with fail
        refine (k5 _).mono ?_
        rintro e w5 ⟨rfl, rfl⟩
        go_wp2_with fail
        go_ret
        exact ⟨by rw [hr.out]; rfl, bel_alloc (Below.refl _ _) _⟩
    have e3 : (x.d == 3) = true := by simpa using g3
    have e4 : (x.d != 3) = false := by simpa using g3
    by_cases hf : x.f = 0
    · have f1 : (x.f == 0) = true := by simpa using hf
      have f2 : (x.f != 0) = false := by simpa using hf
      · have hr := Lib.hid (show Mat.one x = 0 by unfold Mat.one; rw [if_neg (by omega), if_neg (by omega)])
        have k0 := fun w => rwithin_yes (n := x.a) (lo := 1) (hi := 1099511627775) (by omega) w
        have k1 := fun w => rwithin_yes (n := x.b) (lo := 0) (hi := 1099511627775) (by omega) w
        have k2 := fun w => rwithin_yes (n := x.c) (lo := 0) (hi := 3652058) (by omega) w
        have k3 := fun w => rwithin_yes (n := x.e) (lo := 0) (hi := 1000000) (by omega) w
        have k4 := fun w => rwithin_yes (n := x.f) (lo := 0) (hi := 1099511627775) (by omega) w
        have k5 := fun w => rwithin_yes (n := x.d) (lo := 1) (hi := 5) (by omega) w
        clear h0 h1 h2 h3 h4 h5 hm he hf g3
        go_enter Try.func28, Try.ntmps28
        go_wp2_with fail
        refine (k0 _).mono ?_
        rintro e w0 ⟨rfl, rfl⟩
        go_wp2_with fail
        refine (k1 _).mono ?_
        rintro e w1 ⟨rfl, rfl⟩
        go_wp2_with fail
        refine (k2 _).mono ?_
        rintro e w2 ⟨rfl, rfl⟩
        go_wp2_with fail
        refine (k3 _).mono ?_
        rintro e w3 ⟨rfl, rfl⟩
        go_wp2_with fail
        refine (k4 _).mono ?_
        rintro e w4 ⟨rfl, rfl⟩
        go_wp2_with fail
        refine (k5 _).mono ?_
        rintro e w5 ⟨rfl, rfl⟩
        go_wp2_with fail
        go_ret
        exact ⟨by rw [hr.out]; rfl, bel_alloc (Below.refl _ _) _⟩
    · have f1 : (x.f == 0) = false := by simpa using hf
      have f2 : (x.f != 0) = true := by simpa using hf
      · have hr := Lib.hid (show Mat.one x = 2 by unfold Mat.one; rw [if_neg (by omega), if_pos (by omega)])
        have k0 := fun w => rwithin_yes (n := x.a) (lo := 1) (hi := 1099511627775) (by omega) w
        have k1 := fun w => rwithin_yes (n := x.b) (lo := 0) (hi := 1099511627775) (by omega) w
        have k2 := fun w => rwithin_yes (n := x.c) (lo := 0) (hi := 3652058) (by omega) w
        have k3 := fun w => rwithin_yes (n := x.e) (lo := 0) (hi := 1000000) (by omega) w
        have k4 := fun w => rwithin_yes (n := x.f) (lo := 0) (hi := 1099511627775) (by omega) w
        have k5 := fun w => rwithin_yes (n := x.d) (lo := 1) (hi := 5) (by omega) w
        clear h0 h1 h2 h3 h4 h5 hm he hf g3
        go_enter Try.func28, Try.ntmps28
        go_wp2_with fail
        refine (k0 _).mono ?_
        rintro e w0 ⟨rfl, rfl⟩
        go_wp2_with fail
        refine (k1 _).mono ?_
        rintro e w1 ⟨rfl, rfl⟩
        go_wp2_with fail
        refine (k2 _).mono ?_
        rintro e w2 ⟨rfl, rfl⟩
        go_wp2_with fail
        refine (k3 _).mono ?_
        rintro e w3 ⟨rfl, rfl⟩
        go_wp2_with fail
        refine (k4 _).mono ?_
        rintro e w4 ⟨rfl, rfl⟩
        go_wp2_with fail
        refine (k5 _).mono ?_
        rintro e w5 ⟨rfl, rfl⟩
        go_wp2_with fail
        go_ret
        exact ⟨by rw [hr.out]; rfl, bel_alloc (Below.refl _ _) _⟩
end Go.Proofs.Ytiomkbpniplfhaa
