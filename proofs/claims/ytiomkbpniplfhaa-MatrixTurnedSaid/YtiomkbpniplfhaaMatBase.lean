/- The walks of 'matrix.modes', 'Base', 'Rate', of the document's 'Base', 'Rate'. -/
import Derived.Test.YtiomkbpniplfhaaMatMay
import Derived.Test.YtiomkbpniplfhaaMatMay2
import Derived.Laws.EntriesVeiled
namespace Go.Proofs.Ytiomkbpniplfhaa
open Go.RowKit

set_option maxRecDepth 100000 in
set_option maxHeartbeats 1000000 in
theorem mode1_any (a b : Int) (w : World) : Calls Try.prog 43 #[.int .i64 a, .int .i64 b] w fun e w' => e = .returned (.int .i64 a) ∧ w = w' := by
  go_enter Try.func43, Try.ntmps43
  go_wp2
  go_ret
  exact ⟨rfl, rfl⟩
set_option maxRecDepth 100000 in
set_option maxHeartbeats 1000000 in
theorem mode2_any (a b : Int) (w : World) : Calls Try.prog 44 #[.int .i64 a, .int .i64 b] w fun e w' => e = .returned (.int .i64 (if b < a then a else 0)) ∧ w = w' := by
  by_cases h : b < a
  · rw [if_pos h]
    go_enter Try.func44, Try.ntmps44
    go_wp2
    go_ret
    exact ⟨rfl, rfl⟩
  · rw [if_neg h]
    go_enter Try.func44, Try.ntmps44
    go_wp2
    go_ret
    exact ⟨rfl, rfl⟩
set_option maxRecDepth 100000 in
set_option maxHeartbeats 1000000 in
theorem mode3_any (a b : Int) (w : World) : Calls Try.prog 45 #[.int .i64 a, .int .i64 b] w fun e w' => e = .returned (.int .i64 0) ∧ w = w' := by
  go_enter Try.func45, Try.ntmps45
  go_wp2
  go_ret
  exact ⟨rfl, rfl⟩
theorem max_left {a : Int} (h : 0 ≤ a) : max a 0 = a := Int.max_eq_left h
theorem max_right {a : Int} (h : a ≤ 0) : max a 0 = 0 := Int.max_eq_right h
set_option maxRecDepth 100000 in
set_option maxHeartbeats 1000000 in
theorem mode4_any (a b : Int) (w : World) (ha : 0 ≤ a ∧ a ≤ 1099511627775) (hb : 0 ≤ b ∧ b ≤ 1099511627775) : Calls Try.prog 46 #[.int .i64 a, .int .i64 b] w fun e w' => e = .returned (.int .i64 (max (a - b) 0)) ∧ w = w' := by
  obtain ⟨a0, a1⟩ := ha
  obtain ⟨b0, b1⟩ := hb
  by_cases h : 0 ≤ a - b
  · have hr := Lib.hid (max_left h)
    go_enter Try.func46, Try.ntmps46
    go_wp2
    all_goals
      first
        | (exfalso; omega)
        | (go_ret
           exact ⟨by rw [hr.out]; rfl, rfl⟩)
        | (go_ret
           exact ⟨by rw [hr.out, show a - b = 0 by omega]; rfl, rfl⟩)
  · have hr := Lib.hid (max_right (a := a - b) (by omega))
    go_enter Try.func46, Try.ntmps46
    go_wp2
    all_goals
      first
        | (exfalso; omega)
        | (go_ret
           exact ⟨by rw [hr.out]; rfl, rfl⟩)
theorem agg_modes (w : World) : (isAgg 49).run Try.prog w = .ok true w := by kernel_rfl
theorem size_modes (w : World) : (sizeOf 49).run Try.prog w = .ok 6 w := by kernel_rfl
set_option maxRecDepth 100000 in
set_option maxHeartbeats 2000000 in
theorem modes_any (w : World) : Calls Try.prog 33 #[] w fun e w' => e = .returned (.agg #[.nilFunc, .func (Fn.func 43) #[] #[], .func (Fn.func 45) #[] #[], .func (Fn.func 43) #[] #[], .func (Fn.func 46) #[] #[], .func (Fn.func 44) #[] #[]]) ∧ Below w.heap.size w w' := by
  go_enter Try.func33, Try.ntmps33
  go_wp2_with fail
  exact ret_c (T := 49) (t := 49) (cs := [.nilFunc, .func (Fn.func 43) #[] #[], .func (Fn.func 45) #[] #[], .func (Fn.func 43) #[] #[], .func (Fn.func 46) #[] #[], .func (Fn.func 44) #[] #[]]) rfl rfl rfl (Block.new w _ [.nilFunc, .func (Fn.func 43) #[] #[], .func (Fn.func 45) #[] #[], .func (Fn.func 43) #[] #[], .func (Fn.func 46) #[] #[], .func (Fn.func 44) #[] #[]]) agg_modes size_modes ⟨rfl, bel_alloc (Below.refl _ _) _⟩
theorem modes_at1 (w : World) : (Instr.index 49 (.agg #[.nilFunc, .func (Fn.func 43) #[] #[], .func (Fn.func 45) #[] #[], .func (Fn.func 43) #[] #[], .func (Fn.func 46) #[] #[], .func (Fn.func 44) #[] #[]]) (.int .i64 1)).run Try.prog w = .ok (.func (Fn.func 43) #[] #[]) w := by kernel_rfl
theorem modes_at2 (w : World) : (Instr.index 49 (.agg #[.nilFunc, .func (Fn.func 43) #[] #[], .func (Fn.func 45) #[] #[], .func (Fn.func 43) #[] #[], .func (Fn.func 46) #[] #[], .func (Fn.func 44) #[] #[]]) (.int .i64 2)).run Try.prog w = .ok (.func (Fn.func 45) #[] #[]) w := by kernel_rfl
theorem modes_at3 (w : World) : (Instr.index 49 (.agg #[.nilFunc, .func (Fn.func 43) #[] #[], .func (Fn.func 45) #[] #[], .func (Fn.func 43) #[] #[], .func (Fn.func 46) #[] #[], .func (Fn.func 44) #[] #[]]) (.int .i64 3)).run Try.prog w = .ok (.func (Fn.func 43) #[] #[]) w := by kernel_rfl
theorem modes_at4 (w : World) : (Instr.index 49 (.agg #[.nilFunc, .func (Fn.func 43) #[] #[], .func (Fn.func 45) #[] #[], .func (Fn.func 43) #[] #[], .func (Fn.func 46) #[] #[], .func (Fn.func 44) #[] #[]]) (.int .i64 4)).run Try.prog w = .ok (.func (Fn.func 46) #[] #[]) w := by kernel_rfl
theorem modes_at5 (w : World) : (Instr.index 49 (.agg #[.nilFunc, .func (Fn.func 43) #[] #[], .func (Fn.func 45) #[] #[], .func (Fn.func 43) #[] #[], .func (Fn.func 46) #[] #[], .func (Fn.func 44) #[] #[]]) (.int .i64 5)).run Try.prog w = .ok (.func (Fn.func 44) #[] #[]) w := by kernel_rfl
set_option maxRecDepth 100000 in
set_option maxHeartbeats 8000000 in
theorem base_any (x : S6) (m : Int) (w : World) : Calls Try.prog 16 #[(.agg #[.int .i64 x.a, .int .i64 x.b, .int .i64 x.c, .int .i64 x.d, .int .i64 x.e, .int .i64 x.f]), .int .i64 m] w fun e w' => e = .returned (.tuple #[.int .i64 (Mat.baseF x m).1, .int .i64 (Mat.baseF x m).2]) ∧ Below w.heap.size w w' := by
  have hq := fun w => one_any x w
  by_cases hv : Mat.one x = 0
  · rw [hv] at hq
    have h0 := Mat.one_0 hv
    by_cases hm : 0 ≤ m ∧ m ≤ 1099511627775
    · have hw := fun w => within_yes hm w
      have hbf : Mat.baseF x m = (Mat.taxed x m, 0) := by unfold Mat.baseF; rw [if_neg (by simpa using hv), if_neg (by omega)]
      rw [hbf]
      obtain ⟨_, _, _, _, hf, hd1, hd2⟩ := h0
      by_cases hd : x.d = 1
      · have hr := Lib.hid (show Mat.taxed x m = m by unfold Mat.taxed; rw [if_pos (by omega)])
        have hm0 := Lib.hid hm
        have hf0 := Lib.hid hf
        rw [hd] at hq ⊢
        clear hbf hv hd1 hd2 hd hm hf
        go_enter Try.func16, Try.ntmps16
        go_wp2_with fail
        refine (hq _).mono ?_
        rintro e w1 ⟨rfl, hb1⟩
        have kx : Block w1 w.heap.size 28 [.int .i64 x.a, .int .i64 x.b, .int .i64 x.c, .int .i64 1, .int .i64 x.e, .int .i64 x.f] := (new_block (cs := [.int .i64 x.a, .int .i64 x.b, .int .i64 x.c, .int .i64 1, .int .i64 x.e, .int .i64 x.f]) hb1).1
        have c3 := kx.cell 3
        have c5 := kx.cell 5
        go_wp2_with fail
        refine (hw _).mono ?_
        rintro e w2 ⟨rfl, rfl⟩
        go_wp2_with fail
        have ix := fun w => modes_at1 w
        go_region_held3 (fun w' => w'.cell? ⟨w.heap.size, 3, none⟩ = some (.int .i64 1) ∧ w'.cell? ⟨w.heap.size, 5, none⟩ = some (.int .i64 x.f)) (go_keep) (first
          | (go_at_call 33; refine (modes_any _).mono ?_; rintro e w3 ⟨rfl, hb3⟩; have kx3 := Block.call (w := w1.drew) kx hb3; have c3' := kx3.cell 3; have c5' := kx3.cell 5)
          | (go_at_call 43; refine (mode1_any _ _ _).mono ?_; rintro e w4 ⟨rfl, rfl⟩))
        go_wp2_with fail
        go_ret2
        exact ⟨by rw [hr.out]; rfl, bel_call (w := w) (bel_drewN (bel_call (bel_alloc (Below.refl _ _) _) hb1) 1) hb3⟩
      by_cases hd : x.d = 2
      · have hr := Lib.hid (show Mat.taxed x m = 0 by unfold Mat.taxed; rw [if_neg (by omega), if_neg (by omega), if_neg (by omega)])
        have hm0 := Lib.hid hm
        have hf0 := Lib.hid hf
        rw [hd] at hq ⊢
        clear hbf hv hd1 hd2 hd hm hf
        go_enter Try.func16, Try.ntmps16
        go_wp2_with fail
        refine (hq _).mono ?_
        rintro e w1 ⟨rfl, hb1⟩
        have kx : Block w1 w.heap.size 28 [.int .i64 x.a, .int .i64 x.b, .int .i64 x.c, .int .i64 2, .int .i64 x.e, .int .i64 x.f] := (new_block (cs := [.int .i64 x.a, .int .i64 x.b, .int .i64 x.c, .int .i64 2, .int .i64 x.e, .int .i64 x.f]) hb1).1
        have c3 := kx.cell 3
        have c5 := kx.cell 5
        go_wp2_with fail
        refine (hw _).mono ?_
        rintro e w2 ⟨rfl, rfl⟩
        go_wp2_with fail
        have ix := fun w => modes_at2 w
        go_region_held3 (fun w' => w'.cell? ⟨w.heap.size, 3, none⟩ = some (.int .i64 2) ∧ w'.cell? ⟨w.heap.size, 5, none⟩ = some (.int .i64 x.f)) (go_keep) (first
          | (go_at_call 33; refine (modes_any _).mono ?_; rintro e w3 ⟨rfl, hb3⟩; have kx3 := Block.call (w := w1.drew) kx hb3; have c3' := kx3.cell 3; have c5' := kx3.cell 5)
          | (go_at_call 45; refine (mode3_any _ _ _).mono ?_; rintro e w4 ⟨rfl, rfl⟩))
        go_wp2_with fail
        go_ret2
        exact ⟨by rw [hr.out]; rfl, bel_call (w := w) (bel_drewN (bel_call (bel_alloc (Below.refl _ _) _) hb1) 1) hb3⟩
      by_cases hd : x.d = 3
      · have hr := Lib.hid (show Mat.taxed x m = m by unfold Mat.taxed; rw [if_pos (by omega)])
        have hm0 := Lib.hid hm
        have hf0 := Lib.hid hf
        rw [hd] at hq ⊢
        clear hbf hv hd1 hd2 hd hm hf
        go_enter Try.func16, Try.ntmps16
        go_wp2_with fail
        refine (hq _).mono ?_
        rintro e w1 ⟨rfl, hb1⟩
        have kx : Block w1 w.heap.size 28 [.int .i64 x.a, .int .i64 x.b, .int .i64 x.c, .int .i64 3, .int .i64 x.e, .int .i64 x.f] := (new_block (cs := [.int .i64 x.a, .int .i64 x.b, .int .i64 x.c, .int .i64 3, .int .i64 x.e, .int .i64 x.f]) hb1).1
        have c3 := kx.cell 3
        have c5 := kx.cell 5
        go_wp2_with fail
        refine (hw _).mono ?_
        rintro e w2 ⟨rfl, rfl⟩
        go_wp2_with fail
        have ix := fun w => modes_at3 w
        go_region_held3 (fun w' => w'.cell? ⟨w.heap.size, 3, none⟩ = some (.int .i64 3) ∧ w'.cell? ⟨w.heap.size, 5, none⟩ = some (.int .i64 x.f)) (go_keep) (first
          | (go_at_call 33; refine (modes_any _).mono ?_; rintro e w3 ⟨rfl, hb3⟩; have kx3 := Block.call (w := w1.drew) kx hb3; have c3' := kx3.cell 3; have c5' := kx3.cell 5)
          | (go_at_call 43; refine (mode1_any _ _ _).mono ?_; rintro e w4 ⟨rfl, rfl⟩))
        go_wp2_with fail
        go_ret2
        exact ⟨by rw [hr.out]; rfl, bel_call (w := w) (bel_drewN (bel_call (bel_alloc (Below.refl _ _) _) hb1) 1) hb3⟩
      by_cases hd : x.d = 4
      · have hr := Lib.hid (show Mat.taxed x m = max (m - x.f) 0 by unfold Mat.taxed; rw [if_neg (by omega), if_pos (by omega)])
        have hm0 := Lib.hid hm
        have hf0 := Lib.hid hf
        rw [hd] at hq ⊢
        clear hbf hv hd1 hd2 hd hm hf
        go_enter Try.func16, Try.ntmps16
        go_wp2_with fail
        refine (hq _).mono ?_
        rintro e w1 ⟨rfl, hb1⟩
        have kx : Block w1 w.heap.size 28 [.int .i64 x.a, .int .i64 x.b, .int .i64 x.c, .int .i64 4, .int .i64 x.e, .int .i64 x.f] := (new_block (cs := [.int .i64 x.a, .int .i64 x.b, .int .i64 x.c, .int .i64 4, .int .i64 x.e, .int .i64 x.f]) hb1).1
        have c3 := kx.cell 3
        have c5 := kx.cell 5
        go_wp2_with fail
        refine (hw _).mono ?_
        rintro e w2 ⟨rfl, rfl⟩
        go_wp2_with fail
        have ix := fun w => modes_at4 w
        go_region_held3 (fun w' => w'.cell? ⟨w.heap.size, 3, none⟩ = some (.int .i64 4) ∧ w'.cell? ⟨w.heap.size, 5, none⟩ = some (.int .i64 x.f)) (go_keep) (first
          | (go_at_call 33; refine (modes_any _).mono ?_; rintro e w3 ⟨rfl, hb3⟩; have kx3 := Block.call (w := w1.drew) kx hb3; have c3' := kx3.cell 3; have c5' := kx3.cell 5)
          | (go_at_call 46; refine (mode4_any _ _ _ hm0.out hf0.out).mono ?_; rintro e w4 ⟨rfl, rfl⟩))
        go_wp2_with fail
        go_ret2
        exact ⟨by rw [hr.out]; rfl, bel_call (w := w) (bel_drewN (bel_call (bel_alloc (Below.refl _ _) _) hb1) 1) hb3⟩
      have hd : x.d = 5 := by omega
      by_cases hs : x.f < m
      · have hcl := fun w => (show Calls Try.prog 44 #[.int .i64 m, .int .i64 x.f] w fun e w' => e = .returned (.int .i64 m) ∧ w = w' by have := mode2_any m x.f w; rwa [if_pos hs] at this)
        have hr := Lib.hid (show Mat.taxed x m = m by unfold Mat.taxed; rw [if_neg (by omega), if_neg (by omega), if_pos (by omega)]; exact if_pos hs)
        have hm0 := Lib.hid hm
        have hf0 := Lib.hid hf
        rw [hd] at hq ⊢
        clear hbf hv hd1 hd2 hd hm hf
        go_enter Try.func16, Try.ntmps16
        go_wp2_with fail
        refine (hq _).mono ?_
        rintro e w1 ⟨rfl, hb1⟩
        have kx : Block w1 w.heap.size 28 [.int .i64 x.a, .int .i64 x.b, .int .i64 x.c, .int .i64 5, .int .i64 x.e, .int .i64 x.f] := (new_block (cs := [.int .i64 x.a, .int .i64 x.b, .int .i64 x.c, .int .i64 5, .int .i64 x.e, .int .i64 x.f]) hb1).1
        have c3 := kx.cell 3
        have c5 := kx.cell 5
        go_wp2_with fail
        refine (hw _).mono ?_
        rintro e w2 ⟨rfl, rfl⟩
        go_wp2_with fail
        have ix := fun w => modes_at5 w
        go_region_held3 (fun w' => w'.cell? ⟨w.heap.size, 3, none⟩ = some (.int .i64 5) ∧ w'.cell? ⟨w.heap.size, 5, none⟩ = some (.int .i64 x.f)) (go_keep) (first
          | (go_at_call 33; refine (modes_any _).mono ?_; rintro e w3 ⟨rfl, hb3⟩; have kx3 := Block.call (w := w1.drew) kx hb3; have c3' := kx3.cell 3; have c5' := kx3.cell 5)
          | (go_at_call 44; refine (hcl _).mono ?_; rintro e w4 ⟨rfl, rfl⟩))
        go_wp2_with fail
        go_ret2
        exact ⟨by rw [hr.out]; rfl, bel_call (w := w) (bel_drewN (bel_call (bel_alloc (Below.refl _ _) _) hb1) 1) hb3⟩
      · have hcl := fun w => (show Calls Try.prog 44 #[.int .i64 m, .int .i64 x.f] w fun e w' => e = .returned (.int .i64 0) ∧ w = w' by have := mode2_any m x.f w; rwa [if_neg hs] at this)
        have hr := Lib.hid (show Mat.taxed x m = 0 by unfold Mat.taxed; rw [if_neg (by omega), if_neg (by omega), if_pos (by omega)]; exact if_neg hs)
        have hm0 := Lib.hid hm
        have hf0 := Lib.hid hf
        rw [hd] at hq ⊢
        clear hbf hv hd1 hd2 hd hm hf
        go_enter Try.func16, Try.ntmps16
        go_wp2_with fail
        refine (hq _).mono ?_
        rintro e w1 ⟨rfl, hb1⟩
        have kx : Block w1 w.heap.size 28 [.int .i64 x.a, .int .i64 x.b, .int .i64 x.c, .int .i64 5, .int .i64 x.e, .int .i64 x.f] := (new_block (cs := [.int .i64 x.a, .int .i64 x.b, .int .i64 x.c, .int .i64 5, .int .i64 x.e, .int .i64 x.f]) hb1).1
        have c3 := kx.cell 3
        have c5 := kx.cell 5
        go_wp2_with fail
        refine (hw _).mono ?_
        rintro e w2 ⟨rfl, rfl⟩
        go_wp2_with fail
        have ix := fun w => modes_at5 w
        go_region_held3 (fun w' => w'.cell? ⟨w.heap.size, 3, none⟩ = some (.int .i64 5) ∧ w'.cell? ⟨w.heap.size, 5, none⟩ = some (.int .i64 x.f)) (go_keep) (first
          | (go_at_call 33; refine (modes_any _).mono ?_; rintro e w3 ⟨rfl, hb3⟩; have kx3 := Block.call (w := w1.drew) kx hb3; have c3' := kx3.cell 3; have c5' := kx3.cell 5)
          | (go_at_call 44; refine (hcl _).mono ?_; rintro e w4 ⟨rfl, rfl⟩))
        go_wp2_with fail
        go_ret2
        exact ⟨by rw [hr.out]; rfl, bel_call (w := w) (bel_drewN (bel_call (bel_alloc (Below.refl _ _) _) hb1) 1) hb3⟩
    · have hw := fun w => within_no hm w
      have hr := Lib.hid (show Mat.baseF x m = (0, 5) by unfold Mat.baseF; rw [if_neg (by simpa using hv), if_pos hm])
      clear hv h0 hm
      go_enter Try.func16, Try.ntmps16
      go_wp2_with fail
      refine (hq _).mono ?_
      rintro e w1 ⟨rfl, hb1⟩
      go_wp2_with fail
      refine (hw _).mono ?_
      rintro e w2 ⟨rfl, rfl⟩
      go_wp2_with fail
      go_ret2
      exact ⟨by rw [hr.out]; rfl, bel_call (bel_alloc (Below.refl _ _) _) hb1⟩
  · have hr := Lib.hid (show Mat.baseF x m = (0, 2) by unfold Mat.baseF; rw [if_pos hv])
    generalize Mat.one x = E at *
    have h1 : (E == 0) = false := by simpa using hv
    have h2 : (E != 0) = true := by simpa using hv
    go_enter Try.func16, Try.ntmps16
    go_wp2_with fail
    refine (hq _).mono ?_
    rintro e w1 ⟨rfl, hb1⟩
    go_wp2_with fail
    go_ret2
    exact ⟨by rw [hr.out]; rfl, bel_call (bel_alloc (Below.refl _ _) _) hb1⟩
set_option maxRecDepth 100000 in
set_option maxHeartbeats 8000000 in
theorem rbase_any (x : S6) (m : Int) (w : World) : Calls Try.prog 17 #[(.agg #[.int .i64 x.a, .int .i64 x.b, .int .i64 x.c, .int .i64 x.d, .int .i64 x.e, .int .i64 x.f]), .int .i64 m] w fun e w' => e = .returned (.tuple #[.int .i64 (Mat.baseF x m).1, .int .i64 (Mat.baseF x m).2]) ∧ Below w.heap.size w w' := by
  have hq := fun w => may_any x w
  by_cases hv : Mat.one x = 0
  · rw [hv] at hq
    have h0 := Mat.one_0 hv
    by_cases hm : 0 ≤ m ∧ m ≤ 1099511627775
    · have hw := fun w => rwithin_yes hm w
      have hbf : Mat.baseF x m = (Mat.taxed x m, 0) := by unfold Mat.baseF; rw [if_neg (by simpa using hv), if_neg (by omega)]
      rw [hbf]
      obtain ⟨_, _, _, _, hf, hd1, hd2⟩ := h0
      obtain ⟨m0, m1⟩ := hm
      obtain ⟨f0, f1⟩ := hf
      by_cases hd : x.d = 1
      · have hr := Lib.hid (show Mat.taxed x m = m by unfold Mat.taxed; rw [if_pos (by omega)])
        rw [hd] at hq ⊢
        clear hbf hv hd1 hd2 hd
        go_enter Try.func17, Try.ntmps17
        go_wp2_with fail
        refine (hq _).mono ?_
        rintro e w1 ⟨rfl, hb1⟩
        have kx : Block w1 w.heap.size 28 [.int .i64 x.a, .int .i64 x.b, .int .i64 x.c, .int .i64 1, .int .i64 x.e, .int .i64 x.f] := (new_block (cs := [.int .i64 x.a, .int .i64 x.b, .int .i64 x.c, .int .i64 1, .int .i64 x.e, .int .i64 x.f]) hb1).1
        have c3 := kx.cell 3
        have c5 := kx.cell 5
        go_wp2_with fail
        refine (hw _).mono ?_
        rintro e w2 ⟨rfl, rfl⟩
        go_wp2_with fail
        all_goals
          first
            | (exfalso; omega)
            | (go_ret2
               exact ⟨by rw [hr.out]; rfl, bel_call (bel_alloc (Below.refl _ _) _) hb1⟩)
            | (go_ret2
               exact ⟨by rw [hr.out, show m - x.f = 0 by omega]; rfl, bel_call (bel_alloc (Below.refl _ _) _) hb1⟩)
      by_cases hd : x.d = 2
      · have hr := Lib.hid (show Mat.taxed x m = 0 by unfold Mat.taxed; rw [if_neg (by omega), if_neg (by omega), if_neg (by omega)])
        rw [hd] at hq ⊢
        clear hbf hv hd1 hd2 hd
        go_enter Try.func17, Try.ntmps17
        go_wp2_with fail
        refine (hq _).mono ?_
        rintro e w1 ⟨rfl, hb1⟩
        have kx : Block w1 w.heap.size 28 [.int .i64 x.a, .int .i64 x.b, .int .i64 x.c, .int .i64 2, .int .i64 x.e, .int .i64 x.f] := (new_block (cs := [.int .i64 x.a, .int .i64 x.b, .int .i64 x.c, .int .i64 2, .int .i64 x.e, .int .i64 x.f]) hb1).1
        have c3 := kx.cell 3
        have c5 := kx.cell 5
        go_wp2_with fail
        refine (hw _).mono ?_
        rintro e w2 ⟨rfl, rfl⟩
        go_wp2_with fail
        all_goals
          first
            | (exfalso; omega)
            | (go_ret2
               exact ⟨by rw [hr.out]; rfl, bel_call (bel_alloc (Below.refl _ _) _) hb1⟩)
            | (go_ret2
               exact ⟨by rw [hr.out, show m - x.f = 0 by omega]; rfl, bel_call (bel_alloc (Below.refl _ _) _) hb1⟩)
      by_cases hd : x.d = 3
      · have hr := Lib.hid (show Mat.taxed x m = m by unfold Mat.taxed; rw [if_pos (by omega)])
        rw [hd] at hq ⊢
        clear hbf hv hd1 hd2 hd
        go_enter Try.func17, Try.ntmps17
        go_wp2_with fail
        refine (hq _).mono ?_
        rintro e w1 ⟨rfl, hb1⟩
        have kx : Block w1 w.heap.size 28 [.int .i64 x.a, .int .i64 x.b, .int .i64 x.c, .int .i64 3, .int .i64 x.e, .int .i64 x.f] := (new_block (cs := [.int .i64 x.a, .int .i64 x.b, .int .i64 x.c, .int .i64 3, .int .i64 x.e, .int .i64 x.f]) hb1).1
        have c3 := kx.cell 3
        have c5 := kx.cell 5
        go_wp2_with fail
        refine (hw _).mono ?_
        rintro e w2 ⟨rfl, rfl⟩
        go_wp2_with fail
        all_goals
          first
            | (exfalso; omega)
            | (go_ret2
               exact ⟨by rw [hr.out]; rfl, bel_call (bel_alloc (Below.refl _ _) _) hb1⟩)
            | (go_ret2
               exact ⟨by rw [hr.out, show m - x.f = 0 by omega]; rfl, bel_call (bel_alloc (Below.refl _ _) _) hb1⟩)
      by_cases hd : x.d = 4
      · by_cases hs : 0 ≤ m - x.f
        · have hr := Lib.hid (show Mat.taxed x m = m - x.f by unfold Mat.taxed; rw [if_neg (by omega), if_pos (by omega)]; exact max_left hs)
          rw [hd] at hq ⊢
          clear hbf hv hd1 hd2 hd
          go_enter Try.func17, Try.ntmps17
          go_wp2_with fail
          refine (hq _).mono ?_
          rintro e w1 ⟨rfl, hb1⟩
          have kx : Block w1 w.heap.size 28 [.int .i64 x.a, .int .i64 x.b, .int .i64 x.c, .int .i64 4, .int .i64 x.e, .int .i64 x.f] := (new_block (cs := [.int .i64 x.a, .int .i64 x.b, .int .i64 x.c, .int .i64 4, .int .i64 x.e, .int .i64 x.f]) hb1).1
          have c3 := kx.cell 3
          have c5 := kx.cell 5
          go_wp2_with fail
          refine (hw _).mono ?_
          rintro e w2 ⟨rfl, rfl⟩
          go_wp2_with fail
          all_goals
            first
              | (exfalso; omega)
              | (go_ret2
                 exact ⟨by rw [hr.out]; rfl, bel_call (bel_alloc (Below.refl _ _) _) hb1⟩)
              | (go_ret2
                 exact ⟨by rw [hr.out, show m - x.f = 0 by omega]; rfl, bel_call (bel_alloc (Below.refl _ _) _) hb1⟩)
        · have hr := Lib.hid (show Mat.taxed x m = 0 by unfold Mat.taxed; rw [if_neg (by omega), if_pos (by omega)]; exact max_right (by omega))
          rw [hd] at hq ⊢
          clear hbf hv hd1 hd2 hd
          go_enter Try.func17, Try.ntmps17
          go_wp2_with fail
          refine (hq _).mono ?_
          rintro e w1 ⟨rfl, hb1⟩
          have kx : Block w1 w.heap.size 28 [.int .i64 x.a, .int .i64 x.b, .int .i64 x.c, .int .i64 4, .int .i64 x.e, .int .i64 x.f] := (new_block (cs := [.int .i64 x.a, .int .i64 x.b, .int .i64 x.c, .int .i64 4, .int .i64 x.e, .int .i64 x.f]) hb1).1
          have c3 := kx.cell 3
          have c5 := kx.cell 5
          go_wp2_with fail
          refine (hw _).mono ?_
          rintro e w2 ⟨rfl, rfl⟩
          go_wp2_with fail
          all_goals
            first
              | (exfalso; omega)
              | (go_ret2
                 exact ⟨by rw [hr.out]; rfl, bel_call (bel_alloc (Below.refl _ _) _) hb1⟩)
              | (go_ret2
                 exact ⟨by rw [hr.out, show m - x.f = 0 by omega]; rfl, bel_call (bel_alloc (Below.refl _ _) _) hb1⟩)
      have hd : x.d = 5 := by omega
      by_cases hs : x.f < m
      · have hr := Lib.hid (show Mat.taxed x m = m by unfold Mat.taxed; rw [if_neg (by omega), if_neg (by omega), if_pos (by omega)]; exact if_pos hs)
        rw [hd] at hq ⊢
        clear hbf hv hd1 hd2 hd
        go_enter Try.func17, Try.ntmps17
        go_wp2_with fail
        refine (hq _).mono ?_
        rintro e w1 ⟨rfl, hb1⟩
        have kx : Block w1 w.heap.size 28 [.int .i64 x.a, .int .i64 x.b, .int .i64 x.c, .int .i64 5, .int .i64 x.e, .int .i64 x.f] := (new_block (cs := [.int .i64 x.a, .int .i64 x.b, .int .i64 x.c, .int .i64 5, .int .i64 x.e, .int .i64 x.f]) hb1).1
        have c3 := kx.cell 3
        have c5 := kx.cell 5
        go_wp2_with fail
        refine (hw _).mono ?_
        rintro e w2 ⟨rfl, rfl⟩
        go_wp2_with fail
        all_goals
          first
            | (exfalso; omega)
            | (go_ret2
               exact ⟨by rw [hr.out]; rfl, bel_call (bel_alloc (Below.refl _ _) _) hb1⟩)
            | (go_ret2
               exact ⟨by rw [hr.out, show m - x.f = 0 by omega]; rfl, bel_call (bel_alloc (Below.refl _ _) _) hb1⟩)
      · have hr := Lib.hid (show Mat.taxed x m = 0 by unfold Mat.taxed; rw [if_neg (by omega), if_neg (by omega), if_pos (by omega)]; exact if_neg hs)
        rw [hd] at hq ⊢
        clear hbf hv hd1 hd2 hd
        go_enter Try.func17, Try.ntmps17
        go_wp2_with fail
        refine (hq _).mono ?_
        rintro e w1 ⟨rfl, hb1⟩
        have kx : Block w1 w.heap.size 28 [.int .i64 x.a, .int .i64 x.b, .int .i64 x.c, .int .i64 5, .int .i64 x.e, .int .i64 x.f] := (new_block (cs := [.int .i64 x.a, .int .i64 x.b, .int .i64 x.c, .int .i64 5, .int .i64 x.e, .int .i64 x.f]) hb1).1
        have c3 := kx.cell 3
        have c5 := kx.cell 5
        go_wp2_with fail
        refine (hw _).mono ?_
        rintro e w2 ⟨rfl, rfl⟩
        go_wp2_with fail
        all_goals
          first
            | (exfalso; omega)
            | (go_ret2
               exact ⟨by rw [hr.out]; rfl, bel_call (bel_alloc (Below.refl _ _) _) hb1⟩)
            | (go_ret2
               exact ⟨by rw [hr.out, show m - x.f = 0 by omega]; rfl, bel_call (bel_alloc (Below.refl _ _) _) hb1⟩)
    · have hw := fun w => rwithin_no hm w
      have hr := Lib.hid (show Mat.baseF x m = (0, 5) by unfold Mat.baseF; rw [if_neg (by simpa using hv), if_pos hm])
      clear hv h0 hm
      go_enter Try.func17, Try.ntmps17
      go_wp2_with fail
      refine (hq _).mono ?_
      rintro e w1 ⟨rfl, hb1⟩
      go_wp2_with fail
      refine (hw _).mono ?_
      rintro e w2 ⟨rfl, rfl⟩
      go_wp2_with fail
      go_ret2
      exact ⟨by rw [hr.out]; rfl, bel_call (bel_alloc (Below.refl _ _) _) hb1⟩
  · have hr := Lib.hid (show Mat.baseF x m = (0, 2) by unfold Mat.baseF; rw [if_pos hv])
    generalize Mat.one x = E at *
    have h1 : (E == 0) = false := by simpa using hv
    have h2 : (E != 0) = true := by simpa using hv
    go_enter Try.func17, Try.ntmps17
    go_wp2_with fail
    refine (hq _).mono ?_
    rintro e w1 ⟨rfl, hb1⟩
    go_wp2_with fail
    go_ret2
    exact ⟨by rw [hr.out]; rfl, bel_call (bel_alloc (Below.refl _ _) _) hb1⟩
set_option maxRecDepth 100000 in
set_option maxHeartbeats 2000000 in
theorem rate_any (x : S6) (u : Int) (w : World) : Calls Try.prog 18 #[(.agg #[.int .i64 x.a, .int .i64 x.b, .int .i64 x.c, .int .i64 x.d, .int .i64 x.e, .int .i64 x.f]), .int .i64 u] w fun e w' => e = .returned (.int .i64 (Mat.rateF x u)) ∧ Below w.heap.size w w' := by
  unfold Mat.rateF
  by_cases h : x.d = 3
  · rw [if_pos h]
    have e1 : (x.d == 3) = true := by simpa using h
    clear h
    go_enter Try.func18, Try.ntmps18
    go_wp2
    go_ret
    exact ⟨rfl, bel_alloc (Below.refl _ _) _⟩
  · rw [if_neg h]
    have e1 : (x.d == 3) = false := by simpa using h
    clear h
    go_enter Try.func18, Try.ntmps18
    go_wp2
    go_ret
    exact ⟨rfl, bel_alloc (Below.refl _ _) _⟩
set_option maxRecDepth 100000 in
set_option maxHeartbeats 2000000 in
theorem rrate_any (x : S6) (u : Int) (w : World) : Calls Try.prog 19 #[(.agg #[.int .i64 x.a, .int .i64 x.b, .int .i64 x.c, .int .i64 x.d, .int .i64 x.e, .int .i64 x.f]), .int .i64 u] w fun e w' => e = .returned (.int .i64 (Mat.rateF x u)) ∧ Below w.heap.size w w' := by
  unfold Mat.rateF
  by_cases h : x.d = 3
  · rw [if_pos h]
    have e1 : (x.d == 3) = true := by simpa using h
    clear h
    go_enter Try.func19, Try.ntmps19
    go_wp2
    go_ret
    exact ⟨rfl, bel_alloc (Below.refl _ _) _⟩
  · rw [if_neg h]
    have e1 : (x.d == 3) = false := by simpa using h
    clear h
    go_enter Try.func19, Try.ntmps19
    go_wp2
    go_ret
    exact ⟨rfl, bel_alloc (Below.refl _ _) _⟩
end Go.Proofs.Ytiomkbpniplfhaa
