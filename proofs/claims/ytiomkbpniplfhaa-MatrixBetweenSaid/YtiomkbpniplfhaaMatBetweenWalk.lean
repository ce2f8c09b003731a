/- The walk of the statement 'MatrixBetween'. -/
import Derived.Test.YtiomkbpniplfhaaMatKnownWalk
namespace Go.Proofs.Ytiomkbpniplfhaa
open Go.RowKit

set_option maxRecDepth 100000 in
set_option maxHeartbeats 16000000 in
theorem mbetween_walk (x : S6) (_hx : x.In) (a b : Int) (w : World) (_ : -9223372036854775808 ≤ a ∧ a ≤ 9223372036854775807) (_ : -9223372036854775808 ≤ b ∧ b ≤ 9223372036854775807) :
    Calls Try.prog 6 #[(.agg #[.int .i64 x.a, .int .i64 x.b, .int .i64 x.c, .int .i64 x.d, .int .i64 x.e, .int .i64 x.f]), .int .i64 a, .int .i64 b] w fun e w' => e = .returned (.bool true) ∧ Below w.heap.size w w' := by
  by_cases p1 : a < 0
  · go_enter Try.func6, Try.ntmps6
    go_wp2_with fail
    refine (mknown_walk _).mono ?_
    rintro e w1 ⟨rfl, hb1⟩
    go_wp2_with fail
    go_ret
    exact ⟨rfl, bel_call (bel_alloc (Below.refl _ _) _) hb1⟩
  by_cases p2 : b < a
  · go_enter Try.func6, Try.ntmps6
    go_wp2_with fail
    refine (mknown_walk _).mono ?_
    rintro e w1 ⟨rfl, hb1⟩
    go_wp2_with fail
    go_ret
    exact ⟨rfl, bel_call (bel_alloc (Below.refl _ _) _) hb1⟩
  by_cases p3 : 1099511627775 < b
  · go_enter Try.func6, Try.ntmps6
    go_wp2_with fail
    refine (mknown_walk _).mono ?_
    rintro e w1 ⟨rfl, hb1⟩
    go_wp2_with fail
    go_ret
    exact ⟨rfl, bel_call (bel_alloc (Below.refl _ _) _) hb1⟩
  by_cases hv : Mat.one x = 0
  rotate_left
  · have hA := fun w => (show Calls Try.prog 16 #[(.agg #[.int .i64 x.a, .int .i64 x.b, .int .i64 x.c, .int .i64 x.d, .int .i64 x.e, .int .i64 x.f]), .int .i64 a] w fun e w' => e = .returned (.tuple #[.int .i64 0, .int .i64 2]) ∧ Below w.heap.size w w' by have := base_any x a w; rwa [show Mat.baseF x a = (0, 2) by unfold Mat.baseF; rw [if_pos hv]] at this)
    have hB := fun w => (show Calls Try.prog 16 #[(.agg #[.int .i64 x.a, .int .i64 x.b, .int .i64 x.c, .int .i64 x.d, .int .i64 x.e, .int .i64 x.f]), .int .i64 b] w fun e w' => e = .returned (.tuple #[.int .i64 0, .int .i64 2]) ∧ Below w.heap.size w w' by have := base_any x b w; rwa [show Mat.baseF x b = (0, 2) by unfold Mat.baseF; rw [if_pos hv]] at this)
    clear hv
    go_enter Try.func6, Try.ntmps6
    go_wp2_with fail
    refine (mknown_walk _).mono ?_
    rintro e w1 ⟨rfl, hb1⟩
    have bel1 := bel_call (bel_alloc (Below.refl _ w) _) hb1
    have x1 : Block w1 w.heap.size 28 [.int .i64 x.a, .int .i64 x.b, .int .i64 x.c, .int .i64 x.d, .int .i64 x.e, .int .i64 x.f] := (new_block (cs := [.int .i64 x.a, .int .i64 x.b, .int .i64 x.c, .int .i64 x.d, .int .i64 x.e, .int .i64 x.f]) hb1).1
    have q10 := x1.cell 0
    have q11 := x1.cell 1
    have q12 := x1.cell 2
    have q13 := x1.cell 3
    have q14 := x1.cell 4
    have q15 := x1.cell 5
    simp only [List.getElem?_cons_zero, List.getElem?_cons_succ] at q10 q11 q12 q13 q14 q15
    go_wp2_with fail
    refine (hA _).mono ?_
    rintro e w2 ⟨rfl, hb2⟩
    have bel2 := bel_call bel1 hb2
    have x2 := x1.call hb2
    clear q10 q11 q12 q13 q14 q15
    have q20 := x2.cell 0
    have q21 := x2.cell 1
    have q22 := x2.cell 2
    have q23 := x2.cell 3
    have q24 := x2.cell 4
    have q25 := x2.cell 5
    simp only [List.getElem?_cons_zero, List.getElem?_cons_succ] at q20 q21 q22 q23 q24 q25
    go_wp2_with fail
    refine (hB _).mono ?_
    rintro e w3 ⟨rfl, hb3⟩
    have x3 := x2.call hb3
    clear q20 q21 q22 q23 q24 q25
    have q30 := x3.cell 0
    have q31 := x3.cell 1
    have q32 := x3.cell 2
    have q33 := x3.cell 3
    have q34 := x3.cell 4
    have q35 := x3.cell 5
    simp only [List.getElem?_cons_zero, List.getElem?_cons_succ] at q30 q31 q32 q33 q34 q35
    go_wp2_with fail
    go_ret
    exact ⟨rfl, bel_call bel2 hb3⟩
  have hbf : ∀ m, 0 ≤ m → m ≤ 1099511627775 → Mat.baseF x m = (Mat.taxed x m, 0) := fun m h1 h2 => by unfold Mat.baseF; rw [if_neg (by simpa using hv), if_neg (by omega)]
  obtain ⟨_, _, _, _, ⟨f0, f1⟩, d0, d1⟩ := Mat.one_0 hv
  by_cases hd : x.d = 1
  · have hA := fun w => (show Calls Try.prog 16 #[(.agg #[.int .i64 x.a, .int .i64 x.b, .int .i64 x.c, .int .i64 1, .int .i64 x.e, .int .i64 x.f]), .int .i64 a] w fun e w' => e = .returned (.tuple #[.int .i64 (a), .int .i64 0]) ∧ Below w.heap.size w w' by have := base_any x a w; rw [hbf a (by omega) (by omega), show Mat.taxed x a = a by unfold Mat.taxed; rw [if_pos (by omega)], hd] at this; exact this)
    have hB := fun w => (show Calls Try.prog 16 #[(.agg #[.int .i64 x.a, .int .i64 x.b, .int .i64 x.c, .int .i64 1, .int .i64 x.e, .int .i64 x.f]), .int .i64 b] w fun e w' => e = .returned (.tuple #[.int .i64 (b), .int .i64 0]) ∧ Below w.heap.size w w' by have := base_any x b w; rw [hbf b (by omega) (by omega), show Mat.taxed x b = b by unfold Mat.taxed; rw [if_pos (by omega)], hd] at this; exact this)
    rw [hd]
    clear hbf hv hd d0 d1
    go_enter Try.func6, Try.ntmps6
    go_wp2_with fail
    refine (mknown_walk _).mono ?_
    rintro e w1 ⟨rfl, hb1⟩
    have bel1 := bel_call (bel_alloc (Below.refl _ w) _) hb1
    have x1 : Block w1 w.heap.size 28 [.int .i64 x.a, .int .i64 x.b, .int .i64 x.c, .int .i64 1, .int .i64 x.e, .int .i64 x.f] := (new_block (cs := [.int .i64 x.a, .int .i64 x.b, .int .i64 x.c, .int .i64 1, .int .i64 x.e, .int .i64 x.f]) hb1).1
    have q10 := x1.cell 0
    have q11 := x1.cell 1
    have q12 := x1.cell 2
    have q13 := x1.cell 3
    have q14 := x1.cell 4
    have q15 := x1.cell 5
    simp only [List.getElem?_cons_zero, List.getElem?_cons_succ] at q10 q11 q12 q13 q14 q15
    go_wp2_with fail
    refine (hA _).mono ?_
    rintro e w2 ⟨rfl, hb2⟩
    have bel2 := bel_call bel1 hb2
    have x2 := x1.call hb2
    clear q10 q11 q12 q13 q14 q15
    have q20 := x2.cell 0
    have q21 := x2.cell 1
    have q22 := x2.cell 2
    have q23 := x2.cell 3
    have q24 := x2.cell 4
    have q25 := x2.cell 5
    simp only [List.getElem?_cons_zero, List.getElem?_cons_succ] at q20 q21 q22 q23 q24 q25
    go_wp2_with fail
    refine (hB _).mono ?_
    rintro e w3 ⟨rfl, hb3⟩
    have x3 := x2.call hb3
    clear q20 q21 q22 q23 q24 q25
    have q30 := x3.cell 0
    have q31 := x3.cell 1
    have q32 := x3.cell 2
    have q33 := x3.cell 3
    have q34 := x3.cell 4
    have q35 := x3.cell 5
    simp only [List.getElem?_cons_zero, List.getElem?_cons_succ] at q30 q31 q32 q33 q34 q35
    go_wp2_with fail
    go_ret
    exact ⟨rfl, bel_call bel2 hb3⟩
  by_cases hd : x.d = 2
  · have hA := fun w => (show Calls Try.prog 16 #[(.agg #[.int .i64 x.a, .int .i64 x.b, .int .i64 x.c, .int .i64 2, .int .i64 x.e, .int .i64 x.f]), .int .i64 a] w fun e w' => e = .returned (.tuple #[.int .i64 (0), .int .i64 0]) ∧ Below w.heap.size w w' by have := base_any x a w; rw [hbf a (by omega) (by omega), show Mat.taxed x a = 0 by unfold Mat.taxed; rw [if_neg (by omega), if_neg (by omega), if_neg (by omega)], hd] at this; exact this)
    have hB := fun w => (show Calls Try.prog 16 #[(.agg #[.int .i64 x.a, .int .i64 x.b, .int .i64 x.c, .int .i64 2, .int .i64 x.e, .int .i64 x.f]), .int .i64 b] w fun e w' => e = .returned (.tuple #[.int .i64 (0), .int .i64 0]) ∧ Below w.heap.size w w' by have := base_any x b w; rw [hbf b (by omega) (by omega), show Mat.taxed x b = 0 by unfold Mat.taxed; rw [if_neg (by omega), if_neg (by omega), if_neg (by omega)], hd] at this; exact this)
    rw [hd]
    clear hbf hv hd d0 d1
    go_enter Try.func6, Try.ntmps6
    go_wp2_with fail
    refine (mknown_walk _).mono ?_
    rintro e w1 ⟨rfl, hb1⟩
    have bel1 := bel_call (bel_alloc (Below.refl _ w) _) hb1
    have x1 : Block w1 w.heap.size 28 [.int .i64 x.a, .int .i64 x.b, .int .i64 x.c, .int .i64 2, .int .i64 x.e, .int .i64 x.f] := (new_block (cs := [.int .i64 x.a, .int .i64 x.b, .int .i64 x.c, .int .i64 2, .int .i64 x.e, .int .i64 x.f]) hb1).1
    have q10 := x1.cell 0
    have q11 := x1.cell 1
    have q12 := x1.cell 2
    have q13 := x1.cell 3
    have q14 := x1.cell 4
    have q15 := x1.cell 5
    simp only [List.getElem?_cons_zero, List.getElem?_cons_succ] at q10 q11 q12 q13 q14 q15
    go_wp2_with fail
    refine (hA _).mono ?_
    rintro e w2 ⟨rfl, hb2⟩
    have bel2 := bel_call bel1 hb2
    have x2 := x1.call hb2
    clear q10 q11 q12 q13 q14 q15
    have q20 := x2.cell 0
    have q21 := x2.cell 1
    have q22 := x2.cell 2
    have q23 := x2.cell 3
    have q24 := x2.cell 4
    have q25 := x2.cell 5
    simp only [List.getElem?_cons_zero, List.getElem?_cons_succ] at q20 q21 q22 q23 q24 q25
    go_wp2_with fail
    refine (hB _).mono ?_
    rintro e w3 ⟨rfl, hb3⟩
    have x3 := x2.call hb3
    clear q20 q21 q22 q23 q24 q25
    have q30 := x3.cell 0
    have q31 := x3.cell 1
    have q32 := x3.cell 2
    have q33 := x3.cell 3
    have q34 := x3.cell 4
    have q35 := x3.cell 5
    simp only [List.getElem?_cons_zero, List.getElem?_cons_succ] at q30 q31 q32 q33 q34 q35
    go_wp2_with fail
    go_ret
    exact ⟨rfl, bel_call bel2 hb3⟩
  by_cases hd : x.d = 3
  · have hA := fun w => (show Calls Try.prog 16 #[(.agg #[.int .i64 x.a, .int .i64 x.b, .int .i64 x.c, .int .i64 3, .int .i64 x.e, .int .i64 x.f]), .int .i64 a] w fun e w' => e = .returned (.tuple #[.int .i64 (a), .int .i64 0]) ∧ Below w.heap.size w w' by have := base_any x a w; rw [hbf a (by omega) (by omega), show Mat.taxed x a = a by unfold Mat.taxed; rw [if_pos (by omega)], hd] at this; exact this)
    have hB := fun w => (show Calls Try.prog 16 #[(.agg #[.int .i64 x.a, .int .i64 x.b, .int .i64 x.c, .int .i64 3, .int .i64 x.e, .int .i64 x.f]), .int .i64 b] w fun e w' => e = .returned (.tuple #[.int .i64 (b), .int .i64 0]) ∧ Below w.heap.size w w' by have := base_any x b w; rw [hbf b (by omega) (by omega), show Mat.taxed x b = b by unfold Mat.taxed; rw [if_pos (by omega)], hd] at this; exact this)
    rw [hd]
    clear hbf hv hd d0 d1
    go_enter Try.func6, Try.ntmps6
    go_wp2_with fail
    refine (mknown_walk _).mono ?_
    rintro e w1 ⟨rfl, hb1⟩
    have bel1 := bel_call (bel_alloc (Below.refl _ w) _) hb1
    have x1 : Block w1 w.heap.size 28 [.int .i64 x.a, .int .i64 x.b, .int .i64 x.c, .int .i64 3, .int .i64 x.e, .int .i64 x.f] := (new_block (cs := [.int .i64 x.a, .int .i64 x.b, .int .i64 x.c, .int .i64 3, .int .i64 x.e, .int .i64 x.f]) hb1).1
    have q10 := x1.cell 0
    have q11 := x1.cell 1
    have q12 := x1.cell 2
    have q13 := x1.cell 3
    have q14 := x1.cell 4
    have q15 := x1.cell 5
    simp only [List.getElem?_cons_zero, List.getElem?_cons_succ] at q10 q11 q12 q13 q14 q15
    go_wp2_with fail
    refine (hA _).mono ?_
    rintro e w2 ⟨rfl, hb2⟩
    have bel2 := bel_call bel1 hb2
    have x2 := x1.call hb2
    clear q10 q11 q12 q13 q14 q15
    have q20 := x2.cell 0
    have q21 := x2.cell 1
    have q22 := x2.cell 2
    have q23 := x2.cell 3
    have q24 := x2.cell 4
    have q25 := x2.cell 5
    simp only [List.getElem?_cons_zero, List.getElem?_cons_succ] at q20 q21 q22 q23 q24 q25
    go_wp2_with fail
    refine (hB _).mono ?_
    rintro e w3 ⟨rfl, hb3⟩
    have x3 := x2.call hb3
    clear q20 q21 q22 q23 q24 q25
    have q30 := x3.cell 0
    have q31 := x3.cell 1
    have q32 := x3.cell 2
    have q33 := x3.cell 3
    have q34 := x3.cell 4
    have q35 := x3.cell 5
    simp only [List.getElem?_cons_zero, List.getElem?_cons_succ] at q30 q31 q32 q33 q34 q35
    go_wp2_with fail
    go_ret
    exact ⟨rfl, bel_call bel2 hb3⟩
  by_cases hd : x.d = 4
  · by_cases hs : a ≤ x.f
    · obtain ⟨Y, hY⟩ : ∃ Y, Mat.taxed x b = Y := ⟨_, rfl⟩
      have y0 := (Mat.taxed_bd hv (m := b) (by omega)).1
      rw [hY] at y0
      have hA := fun w => (show Calls Try.prog 16 #[(.agg #[.int .i64 x.a, .int .i64 x.b, .int .i64 x.c, .int .i64 4, .int .i64 x.e, .int .i64 x.f]), .int .i64 a] w fun e w' => e = .returned (.tuple #[.int .i64 (0), .int .i64 0]) ∧ Below w.heap.size w w' by have := base_any x a w; rw [hbf a (by omega) (by omega), show Mat.taxed x a = 0 by unfold Mat.taxed; rw [if_neg (by omega), if_pos (by omega)]; exact max_right (by omega), hd] at this; exact this)
      have hB := fun w => (show Calls Try.prog 16 #[(.agg #[.int .i64 x.a, .int .i64 x.b, .int .i64 x.c, .int .i64 4, .int .i64 x.e, .int .i64 x.f]), .int .i64 b] w fun e w' => e = .returned (.tuple #[.int .i64 Y, .int .i64 0]) ∧ Below w.heap.size w w' by have := base_any x b w; rw [hbf b (by omega) (by omega), hY, hd] at this; exact this)
      rw [hd]
      clear hbf hv hd d0 d1 hY
      go_enter Try.func6, Try.ntmps6
      go_wp2_with fail
      refine (mknown_walk _).mono ?_
      rintro e w1 ⟨rfl, hb1⟩
      have bel1 := bel_call (bel_alloc (Below.refl _ w) _) hb1
      have x1 : Block w1 w.heap.size 28 [.int .i64 x.a, .int .i64 x.b, .int .i64 x.c, .int .i64 4, .int .i64 x.e, .int .i64 x.f] := (new_block (cs := [.int .i64 x.a, .int .i64 x.b, .int .i64 x.c, .int .i64 4, .int .i64 x.e, .int .i64 x.f]) hb1).1
      have q10 := x1.cell 0
      have q11 := x1.cell 1
      have q12 := x1.cell 2
      have q13 := x1.cell 3
      have q14 := x1.cell 4
      have q15 := x1.cell 5
      simp only [List.getElem?_cons_zero, List.getElem?_cons_succ] at q10 q11 q12 q13 q14 q15
      go_wp2_with fail
      refine (hA _).mono ?_
      rintro e w2 ⟨rfl, hb2⟩
      have bel2 := bel_call bel1 hb2
      have x2 := x1.call hb2
      clear q10 q11 q12 q13 q14 q15
      have q20 := x2.cell 0
      have q21 := x2.cell 1
      have q22 := x2.cell 2
      have q23 := x2.cell 3
      have q24 := x2.cell 4
      have q25 := x2.cell 5
      simp only [List.getElem?_cons_zero, List.getElem?_cons_succ] at q20 q21 q22 q23 q24 q25
      go_wp2_with fail
      refine (hB _).mono ?_
      rintro e w3 ⟨rfl, hb3⟩
      have x3 := x2.call hb3
      clear q20 q21 q22 q23 q24 q25
      have q30 := x3.cell 0
      have q31 := x3.cell 1
      have q32 := x3.cell 2
      have q33 := x3.cell 3
      have q34 := x3.cell 4
      have q35 := x3.cell 5
      simp only [List.getElem?_cons_zero, List.getElem?_cons_succ] at q30 q31 q32 q33 q34 q35
      go_wp2_with fail
      go_ret
      exact ⟨rfl, bel_call bel2 hb3⟩
    · have hA := fun w => (show Calls Try.prog 16 #[(.agg #[.int .i64 x.a, .int .i64 x.b, .int .i64 x.c, .int .i64 4, .int .i64 x.e, .int .i64 x.f]), .int .i64 a] w fun e w' => e = .returned (.tuple #[.int .i64 (a - x.f), .int .i64 0]) ∧ Below w.heap.size w w' by have := base_any x a w; rw [hbf a (by omega) (by omega), show Mat.taxed x a = a - x.f by unfold Mat.taxed; rw [if_neg (by omega), if_pos (by omega)]; exact max_left (by omega), hd] at this; exact this)
      have hB := fun w => (show Calls Try.prog 16 #[(.agg #[.int .i64 x.a, .int .i64 x.b, .int .i64 x.c, .int .i64 4, .int .i64 x.e, .int .i64 x.f]), .int .i64 b] w fun e w' => e = .returned (.tuple #[.int .i64 (b - x.f), .int .i64 0]) ∧ Below w.heap.size w w' by have := base_any x b w; rw [hbf b (by omega) (by omega), show Mat.taxed x b = b - x.f by unfold Mat.taxed; rw [if_neg (by omega), if_pos (by omega)]; exact max_left (by omega), hd] at this; exact this)
      rw [hd]
      clear hbf hv hd d0 d1
      go_enter Try.func6, Try.ntmps6
      go_wp2_with fail
      refine (mknown_walk _).mono ?_
      rintro e w1 ⟨rfl, hb1⟩
      have bel1 := bel_call (bel_alloc (Below.refl _ w) _) hb1
      have x1 : Block w1 w.heap.size 28 [.int .i64 x.a, .int .i64 x.b, .int .i64 x.c, .int .i64 4, .int .i64 x.e, .int .i64 x.f] := (new_block (cs := [.int .i64 x.a, .int .i64 x.b, .int .i64 x.c, .int .i64 4, .int .i64 x.e, .int .i64 x.f]) hb1).1
      have q10 := x1.cell 0
      have q11 := x1.cell 1
      have q12 := x1.cell 2
      have q13 := x1.cell 3
      have q14 := x1.cell 4
      have q15 := x1.cell 5
      simp only [List.getElem?_cons_zero, List.getElem?_cons_succ] at q10 q11 q12 q13 q14 q15
      go_wp2_with fail
      refine (hA _).mono ?_
      rintro e w2 ⟨rfl, hb2⟩
      have bel2 := bel_call bel1 hb2
      have x2 := x1.call hb2
      clear q10 q11 q12 q13 q14 q15
      have q20 := x2.cell 0
      have q21 := x2.cell 1
      have q22 := x2.cell 2
      have q23 := x2.cell 3
      have q24 := x2.cell 4
      have q25 := x2.cell 5
      simp only [List.getElem?_cons_zero, List.getElem?_cons_succ] at q20 q21 q22 q23 q24 q25
      go_wp2_with fail
      refine (hB _).mono ?_
      rintro e w3 ⟨rfl, hb3⟩
      have x3 := x2.call hb3
      clear q20 q21 q22 q23 q24 q25
      have q30 := x3.cell 0
      have q31 := x3.cell 1
      have q32 := x3.cell 2
      have q33 := x3.cell 3
      have q34 := x3.cell 4
      have q35 := x3.cell 5
      simp only [List.getElem?_cons_zero, List.getElem?_cons_succ] at q30 q31 q32 q33 q34 q35
      go_wp2_with fail
      go_ret
      exact ⟨rfl, bel_call bel2 hb3⟩
  have hd : x.d = 5 := by omega
  by_cases hs : a ≤ x.f
  · obtain ⟨Y, hY⟩ : ∃ Y, Mat.taxed x b = Y := ⟨_, rfl⟩
    have y0 := (Mat.taxed_bd hv (m := b) (by omega)).1
    rw [hY] at y0
    have hA := fun w => (show Calls Try.prog 16 #[(.agg #[.int .i64 x.a, .int .i64 x.b, .int .i64 x.c, .int .i64 5, .int .i64 x.e, .int .i64 x.f]), .int .i64 a] w fun e w' => e = .returned (.tuple #[.int .i64 (0), .int .i64 0]) ∧ Below w.heap.size w w' by have := base_any x a w; rw [hbf a (by omega) (by omega), show Mat.taxed x a = 0 by unfold Mat.taxed; rw [if_neg (by omega), if_neg (by omega), if_pos (by omega)]; exact if_neg (by omega), hd] at this; exact this)
    have hB := fun w => (show Calls Try.prog 16 #[(.agg #[.int .i64 x.a, .int .i64 x.b, .int .i64 x.c, .int .i64 5, .int .i64 x.e, .int .i64 x.f]), .int .i64 b] w fun e w' => e = .returned (.tuple #[.int .i64 Y, .int .i64 0]) ∧ Below w.heap.size w w' by have := base_any x b w; rw [hbf b (by omega) (by omega), hY, hd] at this; exact this)
    rw [hd]
    clear hbf hv hd d0 d1 hY
    go_enter Try.func6, Try.ntmps6
    go_wp2_with fail
    refine (mknown_walk _).mono ?_
    rintro e w1 ⟨rfl, hb1⟩
    have bel1 := bel_call (bel_alloc (Below.refl _ w) _) hb1
    have x1 : Block w1 w.heap.size 28 [.int .i64 x.a, .int .i64 x.b, .int .i64 x.c, .int .i64 5, .int .i64 x.e, .int .i64 x.f] := (new_block (cs := [.int .i64 x.a, .int .i64 x.b, .int .i64 x.c, .int .i64 5, .int .i64 x.e, .int .i64 x.f]) hb1).1
    have q10 := x1.cell 0
    have q11 := x1.cell 1
    have q12 := x1.cell 2
    have q13 := x1.cell 3
    have q14 := x1.cell 4
    have q15 := x1.cell 5
    simp only [List.getElem?_cons_zero, List.getElem?_cons_succ] at q10 q11 q12 q13 q14 q15
    go_wp2_with fail
    refine (hA _).mono ?_
    rintro e w2 ⟨rfl, hb2⟩
    have bel2 := bel_call bel1 hb2
    have x2 := x1.call hb2
    clear q10 q11 q12 q13 q14 q15
    have q20 := x2.cell 0
    have q21 := x2.cell 1
    have q22 := x2.cell 2
    have q23 := x2.cell 3
    have q24 := x2.cell 4
    have q25 := x2.cell 5
    simp only [List.getElem?_cons_zero, List.getElem?_cons_succ] at q20 q21 q22 q23 q24 q25
    go_wp2_with fail
    refine (hB _).mono ?_
    rintro e w3 ⟨rfl, hb3⟩
    have x3 := x2.call hb3
    clear q20 q21 q22 q23 q24 q25
    have q30 := x3.cell 0
    have q31 := x3.cell 1
    have q32 := x3.cell 2
    have q33 := x3.cell 3
    have q34 := x3.cell 4
    have q35 := x3.cell 5
    simp only [List.getElem?_cons_zero, List.getElem?_cons_succ] at q30 q31 q32 q33 q34 q35
    go_wp2_with fail
    go_ret
    exact ⟨rfl, bel_call bel2 hb3⟩
  · have hA := fun w => (show Calls Try.prog 16 #[(.agg #[.int .i64 x.a, .int .i64 x.b, .int .i64 x.c, .int .i64 5, .int .i64 x.e, .int .i64 x.f]), .int .i64 a] w fun e w' => e = .returned (.tuple #[.int .i64 (a), .int .i64 0]) ∧ Below w.heap.size w w' by have := base_any x a w; rw [hbf a (by omega) (by omega), show Mat.taxed x a = a by unfold Mat.taxed; rw [if_neg (by omega), if_neg (by omega), if_pos (by omega)]; exact if_pos (by omega), hd] at this; exact this)
    have hB := fun w => (show Calls Try.prog 16 #[(.agg #[.int .i64 x.a, .int .i64 x.b, .int .i64 x.c, .int .i64 5, .int .i64 x.e, .int .i64 x.f]), .int .i64 b] w fun e w' => e = .returned (.tuple #[.int .i64 (b), .int .i64 0]) ∧ Below w.heap.size w w' by have := base_any x b w; rw [hbf b (by omega) (by omega), show Mat.taxed x b = b by unfold Mat.taxed; rw [if_neg (by omega), if_neg (by omega), if_pos (by omega)]; exact if_pos (by omega), hd] at this; exact this)
    rw [hd]
    clear hbf hv hd d0 d1
    go_enter Try.func6, Try.ntmps6
    go_wp2_with fail
    refine (mknown_walk _).mono ?_
    rintro e w1 ⟨rfl, hb1⟩
    have bel1 := bel_call (bel_alloc (Below.refl _ w) _) hb1
    have x1 : Block w1 w.heap.size 28 [.int .i64 x.a, .int .i64 x.b, .int .i64 x.c, .int .i64 5, .int .i64 x.e, .int .i64 x.f] := (new_block (cs := [.int .i64 x.a, .int .i64 x.b, .int .i64 x.c, .int .i64 5, .int .i64 x.e, .int .i64 x.f]) hb1).1
    have q10 := x1.cell 0
    have q11 := x1.cell 1
    have q12 := x1.cell 2
    have q13 := x1.cell 3
    have q14 := x1.cell 4
    have q15 := x1.cell 5
    simp only [List.getElem?_cons_zero, List.getElem?_cons_succ] at q10 q11 q12 q13 q14 q15
    go_wp2_with fail
    refine (hA _).mono ?_
    rintro e w2 ⟨rfl, hb2⟩
    have bel2 := bel_call bel1 hb2
    have x2 := x1.call hb2
    clear q10 q11 q12 q13 q14 q15
    have q20 := x2.cell 0
    have q21 := x2.cell 1
    have q22 := x2.cell 2
    have q23 := x2.cell 3
    have q24 := x2.cell 4
    have q25 := x2.cell 5
    simp only [List.getElem?_cons_zero, List.getElem?_cons_succ] at q20 q21 q22 q23 q24 q25
    go_wp2_with fail
    refine (hB _).mono ?_
    rintro e w3 ⟨rfl, hb3⟩
    have x3 := x2.call hb3
    clear q20 q21 q22 q23 q24 q25
    have q30 := x3.cell 0
    have q31 := x3.cell 1
    have q32 := x3.cell 2
    have q33 := x3.cell 3
    have q34 := x3.cell 4
    have q35 := x3.cell 5
    simp only [List.getElem?_cons_zero, List.getElem?_cons_succ] at q30 q31 q32 q33 q34 q35
    go_wp2_with fail
    go_ret
    exact ⟨rfl, bel_call bel2 hb3⟩
end Go.Proofs.Ytiomkbpniplfhaa
