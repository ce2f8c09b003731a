/- The walks of 'matrix.Check'. -/
import Derived.Test.YtiomkbpniplfhaaMatMay
namespace Go.Proofs.Ytiomkbpniplfhaa
open Go.RowKit

set_option maxRecDepth 100000 in
set_option maxHeartbeats 8000000 in
theorem check_any (A : Option Addr) (n c : Nat) (l : List S6) (B : Nat) (w : World) (ha : Shows w B 6 A n (RC l)) (hB : B ≤ w.heap.size) (hn : n ≤ maxLen) :
    Calls Try.prog 11 #[.slice A n c] w fun e w' => e = .returned (.tuple #[.int .i64 (Mat.chk l).1, .int .i64 (Mat.chk l).2]) ∧ Below w.heap.size w w' := by
  have hl := ha.num6
  unfold maxLen at hn
  by_cases h2 : 500 < n
  · rw [show Mat.chk l = (3, 0) by unfold Mat.chk; rw [if_pos (by omega)]]
    clear hl
    go_enter Try.func11, Try.ntmps11
    go_wp2_with fail
    go_ret2
    exact ⟨rfl, Below.refl _ _⟩
  · rw [show Mat.chk l = Mat.chkFrom none 0 l by unfold Mat.chk; rw [if_neg (by omega)]]
    have Hl := Lib.hid hl
    clear hl
    go_enter Try.func11, Try.ntmps11
    go_wp2_with fail
    go_loopw [12] (fun i wr => ∃ j : Nat, j ≤ n ∧ i = .int .i64 j ∧ Mat.chkFrom none 0 l = Mat.chkFrom (Mat.prev l j) j (l.drop j) ∧ Below w.heap.size w wr) (fun i _ => n - (intOf i).toNat)
    case atStart => exact ⟨0, by omega, rfl, rfl, Below.refl _ _⟩
    case round =>
      obtain ⟨j, hj, rfl, hres, hbel⟩ := hrel
      have Hres := Lib.hid hres
      clear hres
      by_cases hlt : j < n
      · obtain ⟨x, hxe⟩ : ∃ x, l[j]? = some x := ⟨l[j]'(by rw [Hl.out]; exact hlt), List.getElem?_eq_getElem _⟩
        obtain ⟨b, off, rfl, hb, g⟩ := ha.six hxe
        have hbw : b < w.heap.size := by omega
        have g := g.below hbel hbw
        obtain ⟨c1, c2, c3, c4, c5, c6⟩ := g
        have hbel2 := bel_alloc hbel (.cells #[.int .i64 x.a, .int .i64 x.b, .int .i64 x.c, .int .i64 x.d, .int .i64 x.e, .int .i64 x.f] 28)
        by_cases hv : Mat.one x = 0
        · have hq := fun w => one_any x w
          rw [hv] at hq
          by_cases h0 : j = 0
          · subst h0
            have hr := Lib.hid (Hres.out.trans (Mat.chk_step_ok hxe hv rfl))
            simp only [Nat.zero_mul, Nat.add_zero] at c1 c2 c3 c4 c5 c6
            clear hv hxe
            go_wp2_with fail
            refine (hq _).mono ?_
            rintro e w1 ⟨rfl, hb1⟩
            have hbel3 := bel_call hbel2 hb1
            go_wp2_with fail
            go_quiet (fail)
            go_wp2_with fail
            go_roundw
            case rel => exact ⟨1, by omega, rfl, hr.out, bel_drewN hbel3 _⟩
            case measure => simp [intOf]; omega
          · obtain ⟨i, rfl⟩ : ∃ i, j = i + 1 := ⟨j - 1, by omega⟩
            obtain ⟨y, hye⟩ : ∃ y, l[i]? = some y := ⟨l[i]'(by rw [Hl.out]; omega), List.getElem?_eq_getElem _⟩
            obtain ⟨b', off', hA, hb', g'⟩ := ha.six hye
            injection hA with hA
            injection hA with hA1 hA2
            subst hA1; subst hA2
            have g' := g'.below hbel hbw
            have zb : b < wr.heap.size := by have := hbel.size; omega
            have hp := Mat.prev_succ hye
            have q1 : IntKind.i64.wrap ((i : Int) + 1 - 1) = (i : Int) := by rw [IntWalk.i64_in _ (by omega)]; omega
            have q2 : IntKind.i64.wrap (i : Int) = (i : Int) := IntWalk.i64_in _ (by omega)
            have q3 : (0 : Int) ≤ (i : Int) := by omega
            have q5 : decide ((0 : Int) < (i : Int) + 1) = true := decide_eq_true (by omega)
            have q6 : (0 : Int) < (i : Int) + 1 := by omega
            have q4 : (i : Int) < (n : Int) := by omega
            have hcall := fun w => order_any y x w
            have hlt' := Mat.ord_lt y x
            obtain ⟨r, hr⟩ : ∃ r, Mat.ord y x = r := ⟨_, rfl⟩
            rw [hr] at hcall hlt'
            clear hr
            by_cases hneg : r < 0
            · have hr := Lib.hid (Hres.out.trans (Mat.chk_step_ok hxe hv (by rw [hp]; unfold Mat.bad; simpa using hlt'.1 hneg)))
              clear hp hxe hye hlt' hv
              go_wp2_with fail
              refine (hq _).mono ?_
              rintro e w1 ⟨rfl, hb1⟩
              have hbel3 := bel_call hbel2 hb1
              have ky : Cells6 w1 b (off + i * 6) y := (g'.alloc _).call hb1
              have kx : Cells6 w1 wr.heap.size 0 x := Block.six (new_block (cs := x.cs) hb1).1
              have ky0 := ky
              obtain ⟨y1, y2, y3, y4, y5, y6⟩ := ky0
              have kx0 := kx
              obtain ⟨x1, x2, x3, x4, x5, x6⟩ := kx0
              go_wp2_with fail
              go_region_held3 (fun w' => w'.cell? ⟨b, off + i * 6, none⟩ = some (.int .i64 y.a) ∧ w'.cell? ⟨b, off + i * 6 + 1, none⟩ = some (.int .i64 y.b) ∧ w'.cell? ⟨b, off + i * 6 + 2, none⟩ = some (.int .i64 y.c) ∧ w'.cell? ⟨b, off + i * 6 + 3, none⟩ = some (.int .i64 y.d) ∧ w'.cell? ⟨b, off + i * 6 + 4, none⟩ = some (.int .i64 y.e) ∧ w'.cell? ⟨b, off + i * 6 + 5, none⟩ = some (.int .i64 y.f) ∧ w'.cell? ⟨wr.heap.size, 0, none⟩ = some (.int .i64 x.a) ∧ w'.cell? ⟨wr.heap.size, 1, none⟩ = some (.int .i64 x.b) ∧ w'.cell? ⟨wr.heap.size, 2, none⟩ = some (.int .i64 x.c) ∧ w'.cell? ⟨wr.heap.size, 3, none⟩ = some (.int .i64 x.d) ∧ w'.cell? ⟨wr.heap.size, 4, none⟩ = some (.int .i64 x.e) ∧ w'.cell? ⟨wr.heap.size, 5, none⟩ = some (.int .i64 x.f)) (go_keep) (first
                | (go_at_call 27; refine (hcall _).mono ?_; rintro e w2 ⟨rfl, hb2⟩; have ky2 := Cells6.call (w := w1.drew) ky hb2; obtain ⟨z1, z2, z3, z4, z5, z6⟩ := ky2; have kx2 := Cells6.call (w := w1.drew) kx hb2; obtain ⟨v1, v2, v3, v4, v5, v6⟩ := kx2))
              go_wp2_with fail
              go_roundw
              case rel => exact ⟨i + 1 + 1, by omega, by go_num, hr.out, bel_call (w := w) (bel_drewN hbel3 1) hb2⟩
              case measure => simp [intOf]; omega
            · have hr := Lib.hid (Hres.out.trans (Mat.chk_step_bad hxe hv (by rw [hp]; unfold Mat.bad; simpa using fun h => hneg (hlt'.2 h))))
              clear hp hxe hye hlt' hv
              go_wp2_with fail
              refine (hq _).mono ?_
              rintro e w1 ⟨rfl, hb1⟩
              have hbel3 := bel_call hbel2 hb1
              have ky : Cells6 w1 b (off + i * 6) y := (g'.alloc _).call hb1
              have kx : Cells6 w1 wr.heap.size 0 x := Block.six (new_block (cs := x.cs) hb1).1
              have ky0 := ky
              obtain ⟨y1, y2, y3, y4, y5, y6⟩ := ky0
              have kx0 := kx
              obtain ⟨x1, x2, x3, x4, x5, x6⟩ := kx0
              go_wp2_with fail
              go_region_held3 (fun w' => w'.cell? ⟨b, off + i * 6, none⟩ = some (.int .i64 y.a) ∧ w'.cell? ⟨b, off + i * 6 + 1, none⟩ = some (.int .i64 y.b) ∧ w'.cell? ⟨b, off + i * 6 + 2, none⟩ = some (.int .i64 y.c) ∧ w'.cell? ⟨b, off + i * 6 + 3, none⟩ = some (.int .i64 y.d) ∧ w'.cell? ⟨b, off + i * 6 + 4, none⟩ = some (.int .i64 y.e) ∧ w'.cell? ⟨b, off + i * 6 + 5, none⟩ = some (.int .i64 y.f) ∧ w'.cell? ⟨wr.heap.size, 0, none⟩ = some (.int .i64 x.a) ∧ w'.cell? ⟨wr.heap.size, 1, none⟩ = some (.int .i64 x.b) ∧ w'.cell? ⟨wr.heap.size, 2, none⟩ = some (.int .i64 x.c) ∧ w'.cell? ⟨wr.heap.size, 3, none⟩ = some (.int .i64 x.d) ∧ w'.cell? ⟨wr.heap.size, 4, none⟩ = some (.int .i64 x.e) ∧ w'.cell? ⟨wr.heap.size, 5, none⟩ = some (.int .i64 x.f)) (go_keep) (first
                | (go_at_call 27; refine (hcall _).mono ?_; rintro e w2 ⟨rfl, hb2⟩; have ky2 := Cells6.call (w := w1.drew) ky hb2; obtain ⟨z1, z2, z3, z4, z5, z6⟩ := ky2; have kx2 := Cells6.call (w := w1.drew) kx hb2; obtain ⟨v1, v2, v3, v4, v5, v6⟩ := kx2))
              go_wp2_with fail
              go_ret2
              exact ⟨by rw [hr.out]; rfl, bel_call (w := w) (bel_drewN hbel3 1) hb2⟩
        · have hr := Lib.hid (Hres.out.trans (Mat.chk_step_one hxe hv))
          have hq := fun w => one_any x w
          obtain ⟨E, hE⟩ : ∃ E, Mat.one x = E := ⟨_, rfl⟩
          rw [hE] at hq hr hv
          have k1 : (E == 0) = false := by simpa using hv
          have k2 : (E != 0) = true := by simpa using hv
          clear hE hv hxe
          go_wp2_with fail
          refine (hq _).mono ?_
          rintro e w1 ⟨rfl, hb1⟩
          go_wp2_with fail
          go_ret2
          exact ⟨by rw [hr.out]; rfl, bel_call hbel2 hb1⟩
      · obtain rfl : j = n := by omega
        have hr := Lib.hid (Hres.out.trans (by rw [List.drop_of_length_le (by rw [Hl.out]; exact Nat.le_refl _)]; rfl : _ = ((0 : Int), (0 : Int))))
        go_wp2_with fail
        go_ret2
        exact ⟨by rw [hr.out]; rfl, hbel⟩
end Go.Proofs.Ytiomkbpniplfhaa
