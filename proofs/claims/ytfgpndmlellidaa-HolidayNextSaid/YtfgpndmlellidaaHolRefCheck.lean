/- The walk of the document's 'Check'. -/
import Derived.Test.YtfgpndmlellidaaHolCheck
namespace Go.Proofs.Ytfgpndmlellidaa
open Go.RowKit

set_option maxRecDepth 100000 in
set_option maxHeartbeats 16000000 in
theorem rcheck_any (A : Option Addr) (n c : Nat) (l : List S6) (B : Nat) (w : World) (ha : Shows w B 6 A n (RC l)) (hB : B ≤ w.heap.size) (hn : n ≤ maxLen) :
    Calls Try.prog 11 #[.slice A n c] w fun e w' => e = .returned (.tuple #[.int .i64 (Hol.chk l).1, .int .i64 (Hol.chk l).2]) ∧ Below w.heap.size w w' := by
  have hl := ha.num6
  unfold maxLen at hn
  by_cases h2 : 200 < n
  · rw [show Hol.chk l = (3, 0) by unfold Hol.chk; rw [if_pos (by omega)]]
    clear hl
    go_enter Try.func11, Try.ntmps11
    go_wp2_with fail
    go_ret2
    exact ⟨rfl, Below.refl _ _⟩
  · rw [show Hol.chk l = Hol.chkFrom none 0 l by unfold Hol.chk; rw [if_neg (by omega)]]
    have Hl := Lib.hid hl
    clear hl
    go_enter Try.func11, Try.ntmps11
    go_wp2_with fail
    go_loopw [4] (fun i wr => ∃ j : Nat, j ≤ n ∧ i = .int .i64 j ∧ Hol.chkFrom none 0 l = Hol.chkFrom (Hol.prev l j) j (l.drop j) ∧ Below w.heap.size w wr) (fun i _ => n - (intOf i).toNat)
    case atStart => exact ⟨0, by omega, rfl, rfl, Below.refl _ _⟩
    case round =>
      obtain ⟨j, hj, rfl, hres, hbel⟩ := hrel
      have Hres := Lib.hid hres
      clear hres
      by_cases hlt : j < n
      · obtain ⟨x, hxe⟩ : ∃ x, l[j]? = some x := ⟨l[j]'(by rw [Hl.out]; exact hlt), List.getElem?_eq_getElem _⟩
        obtain ⟨b, off, rfl, hb, g⟩ := ha.six hxe
        have hbw : b < w.heap.size := by omega
        have g := g.below hbel hbw
        obtain ⟨c1, c2, c3, c4, c5, c6⟩ := g
        have hbel2 := bel_alloc hbel (.cells #[.int .i64 x.a, .int .i64 x.b, .int .i64 x.c, .int .i64 x.d, .int .i64 x.e, .int .i64 x.f] 28)
        by_cases h0 : 1 ≤ x.a ∧ x.a ≤ 1099511627775
        rotate_left
        · have hv : Hol.one x = 5 := by unfold Hol.one; rw [if_pos (by omega)]
          have hr := Lib.hid (Hres.out.trans (Hol.chk_step_one hxe (by rw [hv]; decide)))
          rw [hv] at hr
          have k0 := fun w => rwithin_no (n := x.a) (lo := 1) (hi := 1099511627775) (by omega) w
          clear hv hxe h0
          go_wp2_with fail
          refine (k0 _).mono ?_
          rintro e w0 ⟨rfl, rfl⟩
          go_wp2_with fail
          go_ret2
          exact ⟨by rw [hr.out]; rfl, hbel2⟩
        by_cases h1 : 0 ≤ x.b ∧ x.b ≤ 1099511627775
        rotate_left
        · have hv : Hol.one x = 5 := by unfold Hol.one; rw [if_pos (by omega)]
          have hr := Lib.hid (Hres.out.trans (Hol.chk_step_one hxe (by rw [hv]; decide)))
          rw [hv] at hr
          have k0 := fun w => rwithin_yes (n := x.a) (lo := 1) (hi := 1099511627775) (by omega) w
          have k1 := fun w => rwithin_no (n := x.b) (lo := 0) (hi := 1099511627775) (by omega) w
          clear hv hxe h0 h1
          go_wp2_with fail
          refine (k0 _).mono ?_
          rintro e w0 ⟨rfl, rfl⟩
          go_wp2_with fail
          refine (k1 _).mono ?_
          rintro e w1 ⟨rfl, rfl⟩
          go_wp2_with fail
          go_ret2
          exact ⟨by rw [hr.out]; rfl, hbel2⟩
        by_cases h2 : 0 ≤ x.c ∧ x.c ≤ 3652058
        rotate_left
        · have hv : Hol.one x = 5 := by unfold Hol.one; rw [if_pos (by omega)]
          have hr := Lib.hid (Hres.out.trans (Hol.chk_step_one hxe (by rw [hv]; decide)))
          rw [hv] at hr
          have k0 := fun w => rwithin_yes (n := x.a) (lo := 1) (hi := 1099511627775) (by omega) w
          have k1 := fun w => rwithin_yes (n := x.b) (lo := 0) (hi := 1099511627775) (by omega) w
          have k2 := fun w => rwithin_no (n := x.c) (lo := 0) (hi := 3652058) (by omega) w
          clear hv hxe h0 h1 h2
          go_wp2_with fail
          refine (k0 _).mono ?_
          rintro e w0 ⟨rfl, rfl⟩
          go_wp2_with fail
          refine (k1 _).mono ?_
          rintro e w1 ⟨rfl, rfl⟩
          go_wp2_with fail
          refine (k2 _).mono ?_
          rintro e w2 ⟨rfl, rfl⟩
          go_wp2_with fail
          go_ret2
          exact ⟨by rw [hr.out]; rfl, hbel2⟩
        by_cases h3 : 0 ≤ x.d ∧ x.d ≤ 3652058
        rotate_left
        · have hv : Hol.one x = 5 := by unfold Hol.one; rw [if_pos (by omega)]
          have hr := Lib.hid (Hres.out.trans (Hol.chk_step_one hxe (by rw [hv]; decide)))
          rw [hv] at hr
          have k0 := fun w => rwithin_yes (n := x.a) (lo := 1) (hi := 1099511627775) (by omega) w
          have k1 := fun w => rwithin_yes (n := x.b) (lo := 0) (hi := 1099511627775) (by omega) w
          have k2 := fun w => rwithin_yes (n := x.c) (lo := 0) (hi := 3652058) (by omega) w
          have k3 := fun w => rwithin_no (n := x.d) (lo := 0) (hi := 3652058) (by omega) w
          clear hv hxe h0 h1 h2 h3
          go_wp2_with fail
          refine (k0 _).mono ?_
          rintro e w0 ⟨rfl, rfl⟩
          go_wp2_with fail
          refine (k1 _).mono ?_
          rintro e w1 ⟨rfl, rfl⟩
          go_wp2_with fail
          refine (k2 _).mono ?_
          rintro e w2 ⟨rfl, rfl⟩
          go_wp2_with fail
          refine (k3 _).mono ?_
          rintro e w3 ⟨rfl, rfl⟩
          go_wp2_with fail
          go_ret2
          exact ⟨by rw [hr.out]; rfl, hbel2⟩
        by_cases h4 : 0 ≤ x.f ∧ x.f ≤ 1099511627775
        rotate_left
        · have hv : Hol.one x = 5 := by unfold Hol.one; rw [if_pos (by omega)]
          have hr := Lib.hid (Hres.out.trans (Hol.chk_step_one hxe (by rw [hv]; decide)))
          rw [hv] at hr
          have k0 := fun w => rwithin_yes (n := x.a) (lo := 1) (hi := 1099511627775) (by omega) w
          have k1 := fun w => rwithin_yes (n := x.b) (lo := 0) (hi := 1099511627775) (by omega) w
          have k2 := fun w => rwithin_yes (n := x.c) (lo := 0) (hi := 3652058) (by omega) w
          have k3 := fun w => rwithin_yes (n := x.d) (lo := 0) (hi := 3652058) (by omega) w
          have k4 := fun w => rwithin_no (n := x.f) (lo := 0) (hi := 1099511627775) (by omega) w
          clear hv hxe h0 h1 h2 h3 h4
          go_wp2_with fail
          refine (k0 _).mono ?_
          rintro e w0 ⟨rfl, rfl⟩
          go_wp2_with fail
          refine (k1 _).mono ?_
          rintro e w1 ⟨rfl, rfl⟩
          go_wp2_with fail
          refine (k2 _).mono ?_
          rintro e w2 ⟨rfl, rfl⟩
          go_wp2_with fail
          refine (k3 _).mono ?_
          rintro e w3 ⟨rfl, rfl⟩
          go_wp2_with fail
          refine (k4 _).mono ?_
          rintro e w4 ⟨rfl, rfl⟩
          go_wp2_with fail
          go_ret2
          exact ⟨by rw [hr.out]; rfl, hbel2⟩
        by_cases h5 : x.d < x.c
        · have hv : Hol.one x = 2 := by unfold Hol.one; rw [if_neg (by omega), if_pos (by omega)]
          have hr := Lib.hid (Hres.out.trans (Hol.chk_step_one hxe (by rw [hv]; decide)))
          rw [hv] at hr
          have k0 := fun w => rwithin_yes (n := x.a) (lo := 1) (hi := 1099511627775) (by omega) w
          have k1 := fun w => rwithin_yes (n := x.b) (lo := 0) (hi := 1099511627775) (by omega) w
          have k2 := fun w => rwithin_yes (n := x.c) (lo := 0) (hi := 3652058) (by omega) w
          have k3 := fun w => rwithin_yes (n := x.d) (lo := 0) (hi := 3652058) (by omega) w
          have k4 := fun w => rwithin_yes (n := x.f) (lo := 0) (hi := 1099511627775) (by omega) w
          have d5 : decide (x.d < x.c) = true := decide_eq_true h5
          clear hv hxe h0 h1 h2 h3 h4
          go_wp2_with fail
          refine (k0 _).mono ?_
          rintro e w0 ⟨rfl, rfl⟩
          go_wp2_with fail
          refine (k1 _).mono ?_
          rintro e w1 ⟨rfl, rfl⟩
          go_wp2_with fail
          refine (k2 _).mono ?_
          rintro e w2 ⟨rfl, rfl⟩
          go_wp2_with fail
          refine (k3 _).mono ?_
          rintro e w3 ⟨rfl, rfl⟩
          go_wp2_with fail
          refine (k4 _).mono ?_
          rintro e w4 ⟨rfl, rfl⟩
          go_wp2_with fail
          go_quiet (fail)
          go_wp2_with fail
          go_ret2
          exact ⟨by rw [hr.out]; rfl, bel_drewN hbel2 _⟩
        have d5 : decide (x.d < x.c) = false := decide_eq_false h5
        by_cases h6 : 1 ≤ x.e ∧ x.e ≤ 2
        rotate_left
        · have hv : Hol.one x = 2 := by unfold Hol.one; rw [if_neg (by omega), if_pos (by omega)]
          have hr := Lib.hid (Hres.out.trans (Hol.chk_step_one hxe (by rw [hv]; decide)))
          rw [hv] at hr
          have k0 := fun w => rwithin_yes (n := x.a) (lo := 1) (hi := 1099511627775) (by omega) w
          have k1 := fun w => rwithin_yes (n := x.b) (lo := 0) (hi := 1099511627775) (by omega) w
          have k2 := fun w => rwithin_yes (n := x.c) (lo := 0) (hi := 3652058) (by omega) w
          have k3 := fun w => rwithin_yes (n := x.d) (lo := 0) (hi := 3652058) (by omega) w
          have k4 := fun w => rwithin_yes (n := x.f) (lo := 0) (hi := 1099511627775) (by omega) w
          have k5 := fun w => rwithin_no (n := x.e) (lo := 1) (hi := 2) (by omega) w
          clear hv hxe h6 h0 h1 h2 h3 h4
          go_wp2_with fail
          refine (k0 _).mono ?_
          rintro e w0 ⟨rfl, rfl⟩
          go_wp2_with fail
          refine (k1 _).mono ?_
          rintro e w1 ⟨rfl, rfl⟩
          go_wp2_with fail
          refine (k2 _).mono ?_
          rintro e w2 ⟨rfl, rfl⟩
          go_wp2_with fail
          refine (k3 _).mono ?_
          rintro e w3 ⟨rfl, rfl⟩
          go_wp2_with fail
          refine (k4 _).mono ?_
          rintro e w4 ⟨rfl, rfl⟩
          go_wp2_with fail
          go_quiet ((go_at_call 25; exact Calls.quiet_of_same ((k5 _).mono fun _ _ h => ⟨h.1, h.2.symm⟩)))
          go_wp2_with fail
          go_ret2
          exact ⟨by rw [hr.out]; rfl, bel_drewN hbel2 _⟩
        have hv : Hol.one x = 0 := by unfold Hol.one; rw [if_neg (by omega), if_neg (by omega)]
        have k0 := fun w => rwithin_yes (n := x.a) (lo := 1) (hi := 1099511627775) (by omega) w
        have k1 := fun w => rwithin_yes (n := x.b) (lo := 0) (hi := 1099511627775) (by omega) w
        have k2 := fun w => rwithin_yes (n := x.c) (lo := 0) (hi := 3652058) (by omega) w
        have k3 := fun w => rwithin_yes (n := x.d) (lo := 0) (hi := 3652058) (by omega) w
        have k4 := fun w => rwithin_yes (n := x.f) (lo := 0) (hi := 1099511627775) (by omega) w
        have k5 := fun w => rwithin_yes (n := x.e) (lo := 1) (hi := 2) (by omega) w
        clear h6 h0 h1 h2 h3 h4
        by_cases h0 : j = 0
        · subst h0
          have hr := Lib.hid (Hres.out.trans (Hol.chk_step_ok hxe hv rfl))
          simp only [Nat.zero_mul, Nat.add_zero] at c1 c2 c3 c4 c5 c6
          clear hv hxe
          go_wp2_with fail
          refine (k0 _).mono ?_
          rintro e w0 ⟨rfl, rfl⟩
          go_wp2_with fail
          refine (k1 _).mono ?_
          rintro e w1 ⟨rfl, rfl⟩
          go_wp2_with fail
          refine (k2 _).mono ?_
          rintro e w2 ⟨rfl, rfl⟩
          go_wp2_with fail
          refine (k3 _).mono ?_
          rintro e w3 ⟨rfl, rfl⟩
          go_wp2_with fail
          refine (k4 _).mono ?_
          rintro e w4 ⟨rfl, rfl⟩
          go_wp2_with fail
          go_quiet ((go_at_call 25; exact Calls.quiet_of_same ((k5 _).mono fun _ _ h => ⟨h.1, h.2.symm⟩)))
          go_wp2_with fail
          go_roundw
          case rel => exact ⟨1, by omega, rfl, hr.out, bel_drewN hbel2 _⟩
          case measure => simp [intOf]; omega
        · obtain ⟨i, rfl⟩ : ∃ i, j = i + 1 := ⟨j - 1, by omega⟩
          obtain ⟨y, hye⟩ : ∃ y, l[i]? = some y := ⟨l[i]'(by rw [Hl.out]; omega), List.getElem?_eq_getElem _⟩
          obtain ⟨b', off', hA, hb', g'⟩ := ha.six hye
          injection hA with hA
          injection hA with hA1 hA2
          subst hA1; subst hA2
          have g' := g'.below hbel hbw
          have zb : b < wr.heap.size := by have := hbel.size; omega
          have hp := Hol.prev_succ hye
          have q1 : IntKind.i64.wrap ((i : Int) + 1 - 1) = (i : Int) := by rw [IntWalk.i64_in _ (by omega)]; omega
          have q2 : IntKind.i64.wrap (i : Int) = (i : Int) := IntWalk.i64_in _ (by omega)
          have q3 : (0 : Int) ≤ (i : Int) := by omega
          have q5 : decide ((0 : Int) < (i : Int) + 1) = true := decide_eq_true (by omega)
          have q6 : (0 : Int) < (i : Int) + 1 := by omega
          have q4 : (i : Int) < (n : Int) := by omega
          have q7 : (i : Int) + 1 < (n : Int) := by omega
          have hcall := fun w => rbehind_any y x w
          have ky : Cells6 (wr.alloc (.cells #[.int .i64 x.a, .int .i64 x.b, .int .i64 x.c, .int .i64 x.d, .int .i64 x.e, .int .i64 x.f] 28)) b (off + i * 6) y := g'.alloc _
          have kx : Cells6 (wr.alloc (.cells #[.int .i64 x.a, .int .i64 x.b, .int .i64 x.c, .int .i64 x.d, .int .i64 x.e, .int .i64 x.f] 28)) wr.heap.size 0 x := Block.six (Block.new wr _ x.cs)
          have ky0 := ky
          obtain ⟨y1, y2, y3, y4, y5, y6⟩ := ky0
          have kx0 := kx
          obtain ⟨x1, x2, x3, x4, x5, x6⟩ := kx0
          by_cases hbf : Hol.Before y x
          · have hcall := fun w => (show Calls Try.prog 26 #[(.agg #[.int .i64 y.a, .int .i64 y.b, .int .i64 y.c, .int .i64 y.d, .int .i64 y.e, .int .i64 y.f]), (.agg #[.int .i64 x.a, .int .i64 x.b, .int .i64 x.c, .int .i64 x.d, .int .i64 x.e, .int .i64 x.f])] w fun e w' => e = .returned (.bool true) ∧ Below w.heap.size w w' by have := hcall w; rwa [decide_eq_true hbf] at this)
            have hr := Lib.hid (Hres.out.trans (Hol.chk_step_ok hxe hv (by rw [hp]; unfold Hol.bad; simpa [Hol.Before] using hbf)))
            clear hp hxe hye hbf hv
            go_wp2_with fail
            refine (k0 _).mono ?_
            rintro e w0 ⟨rfl, rfl⟩
            go_wp2_with fail
            refine (k1 _).mono ?_
            rintro e w1 ⟨rfl, rfl⟩
            go_wp2_with fail
            refine (k2 _).mono ?_
            rintro e w2 ⟨rfl, rfl⟩
            go_wp2_with fail
            refine (k3 _).mono ?_
            rintro e w3 ⟨rfl, rfl⟩
            go_wp2_with fail
            refine (k4 _).mono ?_
            rintro e w4 ⟨rfl, rfl⟩
            go_wp2_with fail
            go_region_held3 (fun w' => w'.cell? ⟨b, off + i * 6, none⟩ = some (.int .i64 y.a) ∧ w'.cell? ⟨b, off + i * 6 + 1, none⟩ = some (.int .i64 y.b) ∧ w'.cell? ⟨b, off + i * 6 + 2, none⟩ = some (.int .i64 y.c) ∧ w'.cell? ⟨b, off + i * 6 + 3, none⟩ = some (.int .i64 y.d) ∧ w'.cell? ⟨b, off + i * 6 + 4, none⟩ = some (.int .i64 y.e) ∧ w'.cell? ⟨b, off + i * 6 + 5, none⟩ = some (.int .i64 y.f) ∧ w'.cell? ⟨wr.heap.size, 0, none⟩ = some (.int .i64 x.a) ∧ w'.cell? ⟨wr.heap.size, 1, none⟩ = some (.int .i64 x.b) ∧ w'.cell? ⟨wr.heap.size, 2, none⟩ = some (.int .i64 x.c) ∧ w'.cell? ⟨wr.heap.size, 3, none⟩ = some (.int .i64 x.d) ∧ w'.cell? ⟨wr.heap.size, 4, none⟩ = some (.int .i64 x.e) ∧ w'.cell? ⟨wr.heap.size, 5, none⟩ = some (.int .i64 x.f)) (go_keep) (first
              | (go_at_call 25; refine (k5 _).mono ?_; rintro e w8 ⟨rfl, rfl⟩)
              | (go_at_call 26; refine (hcall _).mono ?_; rintro e w2 ⟨rfl, hb2⟩; have ky2 := Cells6.call (w := (wr.alloc (.cells #[.int .i64 x.a, .int .i64 x.b, .int .i64 x.c, .int .i64 x.d, .int .i64 x.e, .int .i64 x.f] 28)).drew) ky hb2; obtain ⟨z1, z2, z3, z4, z5, z6⟩ := ky2; have kx2 := Cells6.call (w := (wr.alloc (.cells #[.int .i64 x.a, .int .i64 x.b, .int .i64 x.c, .int .i64 x.d, .int .i64 x.e, .int .i64 x.f] 28)).drew) kx hb2; obtain ⟨v1, v2, v3, v4, v5, v6⟩ := kx2))
            go_wp2_with fail
            go_roundw
            case rel => exact ⟨i + 1 + 1, by omega, by go_num, hr.out, bel_call (w := w) (bel_drewN hbel2 1) hb2⟩
            case measure => simp [intOf]; omega
          · have hcall := fun w => (show Calls Try.prog 26 #[(.agg #[.int .i64 y.a, .int .i64 y.b, .int .i64 y.c, .int .i64 y.d, .int .i64 y.e, .int .i64 y.f]), (.agg #[.int .i64 x.a, .int .i64 x.b, .int .i64 x.c, .int .i64 x.d, .int .i64 x.e, .int .i64 x.f])] w fun e w' => e = .returned (.bool false) ∧ Below w.heap.size w w' by have := hcall w; rwa [decide_eq_false hbf] at this)
            have hr := Lib.hid (Hres.out.trans (Hol.chk_step_bad hxe hv (by rw [hp]; unfold Hol.bad; simpa [Hol.Before] using hbf)))
            clear hp hxe hye hbf hv
            go_wp2_with fail
            refine (k0 _).mono ?_
            rintro e w0 ⟨rfl, rfl⟩
            go_wp2_with fail
            refine (k1 _).mono ?_
            rintro e w1 ⟨rfl, rfl⟩
            go_wp2_with fail
            refine (k2 _).mono ?_
            rintro e w2 ⟨rfl, rfl⟩
            go_wp2_with fail
            refine (k3 _).mono ?_
            rintro e w3 ⟨rfl, rfl⟩
            go_wp2_with fail
            refine (k4 _).mono ?_
            rintro e w4 ⟨rfl, rfl⟩
            go_wp2_with fail
            go_region_held3 (fun w' => w'.cell? ⟨b, off + i * 6, none⟩ = some (.int .i64 y.a) ∧ w'.cell? ⟨b, off + i * 6 + 1, none⟩ = some (.int .i64 y.b) ∧ w'.cell? ⟨b, off + i * 6 + 2, none⟩ = some (.int .i64 y.c) ∧ w'.cell? ⟨b, off + i * 6 + 3, none⟩ = some (.int .i64 y.d) ∧ w'.cell? ⟨b, off + i * 6 + 4, none⟩ = some (.int .i64 y.e) ∧ w'.cell? ⟨b, off + i * 6 + 5, none⟩ = some (.int .i64 y.f) ∧ w'.cell? ⟨wr.heap.size, 0, none⟩ = some (.int .i64 x.a) ∧ w'.cell? ⟨wr.heap.size, 1, none⟩ = some (.int .i64 x.b) ∧ w'.cell? ⟨wr.heap.size, 2, none⟩ = some (.int .i64 x.c) ∧ w'.cell? ⟨wr.heap.size, 3, none⟩ = some (.int .i64 x.d) ∧ w'.cell? ⟨wr.heap.size, 4, none⟩ = some (.int .i64 x.e) ∧ w'.cell? ⟨wr.heap.size, 5, none⟩ = some (.int .i64 x.f)) (go_keep) (first
              | (go_at_call 25; refine (k5 _).mono ?_; rintro e w8 ⟨rfl, rfl⟩)
              | (go_at_call 26; refine (hcall _).mono ?_; rintro e w2 ⟨rfl, hb2⟩; have ky2 := Cells6.call (w := (wr.alloc (.cells #[.int .i64 x.a, .int .i64 x.b, .int .i64 x.c, .int .i64 x.d, .int .i64 x.e, .int .i64 x.f] 28)).drew) ky hb2; obtain ⟨z1, z2, z3, z4, z5, z6⟩ := ky2; have kx2 := Cells6.call (w := (wr.alloc (.cells #[.int .i64 x.a, .int .i64 x.b, .int .i64 x.c, .int .i64 x.d, .int .i64 x.e, .int .i64 x.f] 28)).drew) kx hb2; obtain ⟨v1, v2, v3, v4, v5, v6⟩ := kx2))
            go_wp2_with fail
            go_ret2
            exact ⟨by rw [hr.out]; rfl, bel_call (w := w) (bel_drewN hbel2 1) hb2⟩
      · obtain rfl : j = n := by omega
        have hr := Lib.hid (Hres.out.trans (by rw [List.drop_of_length_le (by rw [Hl.out]; exact Nat.le_refl _)]; rfl : _ = ((0 : Int), (0 : Int))))
        go_wp2_with fail
        go_ret2
        exact ⟨by rw [hr.out]; rfl, hbel⟩
end Go.Proofs.Ytfgpndmlellidaa
