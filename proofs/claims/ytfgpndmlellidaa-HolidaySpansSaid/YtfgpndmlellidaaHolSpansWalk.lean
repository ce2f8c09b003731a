/- The walk of the statement 'HolidaySpans'. -/
import Derived.Test.YtfgpndmlellidaaHolLaw
namespace Go.Proofs.Ytfgpndmlellidaa
open Go.RowKit

set_option maxRecDepth 100000 in
set_option maxHeartbeats 8000000 in
theorem hspans_walk (A : Option Addr) (n c : Nat) (l : List S6) (jj q a z m : Int) (w : World) (ha : Shows w w.heap.size 6 A n (RC l)) (_hf : Fit6 l) (_ : n ≤ c) (_ : c ≤ maxLen) (_ : -9223372036854775808 ≤ jj ∧ jj ≤ 9223372036854775807) (_ : -9223372036854775808 ≤ q ∧ q ≤ 9223372036854775807) (_ : -9223372036854775808 ≤ a ∧ a ≤ 9223372036854775807) (_ : -9223372036854775808 ≤ z ∧ z ≤ 9223372036854775807) (_ : -9223372036854775808 ≤ m ∧ m ≤ 9223372036854775807) :
    Calls Try.prog 7 #[.slice A n c, .int .i64 jj, .int .i64 q, .int .i64 a, .int .i64 z, .int .i64 m] w fun e w' => e = .returned (.bool true) ∧ Below w.heap.size w w' := by
  have hB : w.heap.size ≤ w.heap.size := Nat.le_refl _
  have hc := fun (w' : World) (h : Shows w' w.heap.size 6 A n (RC l)) (h' : w.heap.size ≤ w'.heap.size) => check_any A n c l w.heap.size w' h h' (by omega)
  by_cases hbig : 30 < n
  · obtain ⟨E, hE⟩ : ∃ E, Hol.chk l = E := ⟨_, rfl⟩
    rw [hE] at hc
    clear hE
    go_enter Try.func7, Try.ntmps7
    go_wp2_with fail
    refine (awake_true _).mono ?_
    rintro e w1 ⟨rfl, hb1⟩
    go_wp2_with fail
    refine (hc _ (ha.call hb1 hB) hb1.size).mono ?_
    rintro e w2 ⟨rfl, hb2⟩
    go_wp2_with fail
    go_ret
    exact ⟨rfl, bel_call hb1 hb2⟩
  have hm : n ≤ maxLen := by omega
  by_cases h0 : (Hol.chk l).1 = 0
  rotate_left
  · generalize (Hol.chk l).1 = E at *
    generalize (Hol.chk l).2 = E2 at *
    have h1 : (E == 0) = false := by simpa using h0
    have h2 : (E != 0) = true := by simpa using h0
    go_enter Try.func7, Try.ntmps7
    go_wp2_with fail
    refine (awake_true _).mono ?_
    rintro e w1 ⟨rfl, hb1⟩
    go_wp2_with fail
    refine (hc _ (ha.call hb1 hB) hb1.size).mono ?_
    rintro e w2 ⟨rfl, hb2⟩
    go_wp2_with fail
    go_ret
    exact ⟨rfl, bel_call hb1 hb2⟩
  rw [Hol.chk_00 h0] at hc
  by_cases p1 : a < 0
  · clear h0
    go_enter Try.func7, Try.ntmps7
    go_wp2_with fail
    refine (awake_true _).mono ?_
    rintro e w1 ⟨rfl, hb1⟩
    go_wp2_with fail
    refine (hc _ (ha.call hb1 hB) hb1.size).mono ?_
    rintro e w2 ⟨rfl, hb2⟩
    go_wp2_with fail
    go_ret
    exact ⟨rfl, bel_call hb1 hb2⟩
  by_cases p2 : z < a
  · clear h0
    go_enter Try.func7, Try.ntmps7
    go_wp2_with fail
    refine (awake_true _).mono ?_
    rintro e w1 ⟨rfl, hb1⟩
    go_wp2_with fail
    refine (hc _ (ha.call hb1 hB) hb1.size).mono ?_
    rintro e w2 ⟨rfl, hb2⟩
    go_wp2_with fail
    go_ret
    exact ⟨rfl, bel_call hb1 hb2⟩
  by_cases p3 : 3652058 < z
  · clear h0
    go_enter Try.func7, Try.ntmps7
    go_wp2_with fail
    refine (awake_true _).mono ?_
    rintro e w1 ⟨rfl, hb1⟩
    go_wp2_with fail
    refine (hc _ (ha.call hb1 hB) hb1.size).mono ?_
    rintro e w2 ⟨rfl, hb2⟩
    go_wp2_with fail
    go_ret
    exact ⟨rfl, bel_call hb1 hb2⟩
  by_cases p4 : 100 < z - a
  · clear h0
    go_enter Try.func7, Try.ntmps7
    go_wp2_with fail
    refine (awake_true _).mono ?_
    rintro e w1 ⟨rfl, hb1⟩
    go_wp2_with fail
    refine (hc _ (ha.call hb1 hB) hb1.size).mono ?_
    rintro e w2 ⟨rfl, hb2⟩
    go_wp2_with fail
    go_ret
    exact ⟨rfl, bel_call hb1 hb2⟩
  by_cases p5 : m < a
  · clear h0
    go_enter Try.func7, Try.ntmps7
    go_wp2_with fail
    refine (awake_true _).mono ?_
    rintro e w1 ⟨rfl, hb1⟩
    go_wp2_with fail
    refine (hc _ (ha.call hb1 hB) hb1.size).mono ?_
    rintro e w2 ⟨rfl, hb2⟩
    go_wp2_with fail
    go_ret
    exact ⟨rfl, bel_call hb1 hb2⟩
  by_cases p6 : z ≤ m
  · clear h0
    go_enter Try.func7, Try.ntmps7
    go_wp2_with fail
    refine (awake_true _).mono ?_
    rintro e w1 ⟨rfl, hb1⟩
    go_wp2_with fail
    refine (hc _ (ha.call hb1 hB) hb1.size).mono ?_
    rintro e w2 ⟨rfl, hb2⟩
    go_wp2_with fail
    go_ret
    exact ⟨rfl, bel_call hb1 hb2⟩
  have hsp : Hol.daysF l jj q a z = Hol.span (Hol.cov l jj q) a z := by unfold Hol.daysF; rw [if_pos (by omega)]
  have hsp1 : Hol.daysF l jj q a m = Hol.span (Hol.cov l jj q) a m := by unfold Hol.daysF; rw [if_pos (by omega)]
  have hsp2 : Hol.daysF l jj q (m + 1) z = Hol.span (Hol.cov l jj q) (m + 1) z := by unfold Hol.daysF; rw [if_pos (by omega)]
  have hspl := Hol.span_split (Hol.cov l jj q) (a := a) (m := m) (b := z) (by omega) (by omega)
  obtain ⟨b1, b2⟩ := Hol.span_bd (Hol.cov l jj q) a m (by omega)
  obtain ⟨b3, b4⟩ := Hol.span_bd (Hol.cov l jj q) (m + 1) z (by omega)
  have hd := fun (w' : World) (h : Shows w' w.heap.size 6 A n (RC l)) (h' : w.heap.size ≤ w'.heap.size) => days_any A n c l jj q a z w.heap.size w' h h' hm
  have hd1 := fun (w' : World) (h : Shows w' w.heap.size 6 A n (RC l)) (h' : w.heap.size ≤ w'.heap.size) => days_any A n c l jj q a m w.heap.size w' h h' hm
  have hd2 := fun (w' : World) (h : Shows w' w.heap.size 6 A n (RC l)) (h' : w.heap.size ≤ w'.heap.size) => days_any A n c l jj q (m + 1) z w.heap.size w' h h' hm
  have has := fun (w' : World) (h : Shows w' w.heap.size 6 A n (RC l)) (h' : w.heap.size ≤ w'.heap.size) d x b hr => as_any A n c l jj q d w.heap.size w' h h' hm (xr := x) (bt := b) hr
  rw [hsp, hspl] at hd
  rw [hsp1] at hd1
  rw [hsp2] at hd2
  have Hspl := Lib.hid hspl
  obtain ⟨T1, hT1⟩ : ∃ T, Hol.span (Hol.cov l jj q) a m = T := ⟨_, rfl⟩
  obtain ⟨T2, hT2⟩ : ∃ T, Hol.span (Hol.cov l jj q) (m + 1) z = T := ⟨_, rfl⟩
  rw [hT1, hT2] at hd Hspl
  rw [hT1] at hd1 b1 b2
  rw [hT2] at hd2 b3 b4
  clear hsp hsp1 hsp2 hspl hT1 hT2 h0
  go_enter Try.func7, Try.ntmps7
  go_wp2_with fail
  refine (awake_true _).mono ?_
  rintro e w1 ⟨rfl, hb1⟩
  go_wp2_with fail
  refine (hc _ (ha.call hb1 hB) hb1.size).mono ?_
  rintro e w2 ⟨rfl, hb2⟩
  have bel2 := bel_call hb1 hb2
  go_wp2_with fail
  go_loopw [17, 16] (fun s17 s16 wr => ∃ (f t : Int), s17 = .int .i64 f ∧ s16 = .int .i64 t ∧ a ≤ f ∧ f ≤ z + 1 ∧ t = Hol.span (Hol.cov l jj q) a (f - 1) ∧ 0 ≤ t ∧ t ≤ f - a ∧ Below w.heap.size w wr) (fun s17 _ _ => (z + 1 - intOf s17).toNat)
  case atStart => exact ⟨a, 0, rfl, rfl, Int.le_refl _, by omega, (Hol.span_zero _ (by omega)).symm, Int.le_refl _, by omega, bel2⟩
  case round =>
    obtain ⟨f, t, rfl, rfl, f0, f1, ht, t0, t1, hbel⟩ := hrel
    have Ht := Lib.hid ht
    clear ht
    have har := ha.call hbel hB
    by_cases hfz : f ≤ z
    · have hstep := Hol.span_split (Hol.cov l jj q) (a := a) (m := f - 1) (b := f) (by omega) (by omega)
      rw [← Ht.out, show f - 1 + 1 = f by omega, Hol.span_one] at hstep
      rcases hA : Hol.asF l jj q f with _ | x
      · rw [if_neg (by unfold Hol.cov; rw [hA]; simp)] at hstep
        have Hst := Lib.hid hstep
        have HA := Lib.hid (show Hol.hand (Hol.asF l jj q f) = (S6.zero, false) by rw [hA]; rfl)
        clear hstep hA
        go_wp2_with fail
        refine (has _ har hbel.size f _ _ HA.out).mono ?_
        rintro e w3 ⟨rfl, hb3⟩
        go_wp2_with fail
        go_roundw
        case rel => exact ⟨f + 1, t, rfl, rfl, by omega, by omega, by rw [show f + 1 - 1 = f by omega, Hst.out]; omega, t0, by omega, bel_alloc (bel_call hbel hb3) _⟩
        case measure => simp [intOf]; omega
      · rw [if_pos (by unfold Hol.cov; rw [hA]; rfl)] at hstep
        have Hst := Lib.hid hstep
        have HA := Lib.hid (show Hol.hand (Hol.asF l jj q f) = (x, true) by rw [hA]; rfl)
        clear hstep hA
        go_wp2_with fail
        refine (has _ har hbel.size f _ _ HA.out).mono ?_
        rintro e w3 ⟨rfl, hb3⟩
        go_wp2_with fail
        go_roundw
        case rel => exact ⟨f + 1, t + 1, rfl, rfl, by omega, by omega, by rw [show f + 1 - 1 = f by omega, Hst.out], by omega, by omega, bel_alloc (bel_call hbel hb3) _⟩
        case measure => simp [intOf]; omega
    · obtain rfl : f = z + 1 := by omega
      have htt := Ht.out
      rw [show z + 1 - 1 = z by omega, Hspl.out] at htt
      subst htt
      have e1 : (T1 + T2 == T1 + T2) = true := by simp
      go_wp2_with fail
      refine (hd _ har hbel.size).mono ?_
      rintro e w3 ⟨rfl, hb3⟩
      have bel3 := bel_call hbel hb3
      go_wp2_with fail
      refine (hd1 _ (ha.call bel3 hB) bel3.size).mono ?_
      rintro e w4 ⟨rfl, hb4⟩
      have bel4 := bel_call bel3 hb4
      go_wp2_with fail
      refine (hd2 _ (ha.call bel4 hB) bel4.size).mono ?_
      rintro e w5 ⟨rfl, hb5⟩
      go_wp2_with fail
      go_ret
      exact ⟨rfl, bel_call bel4 hb5⟩
end Go.Proofs.Ytfgpndmlellidaa
