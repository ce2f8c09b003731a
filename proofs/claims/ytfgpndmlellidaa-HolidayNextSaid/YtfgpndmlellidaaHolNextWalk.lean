/- The walk of the statement 'HolidayNext'. -/
import Derived.Test.YtfgpndmlellidaaHolLaw
namespace Go.Proofs.Ytfgpndmlellidaa
open Go.RowKit

set_option maxRecDepth 100000 in
set_option maxHeartbeats 8000000 in
theorem hnext_walk (A : Option Addr) (n c : Nat) (l : List S6) (jj q d : Int) (w : World) (ha : Shows w w.heap.size 6 A n (RC l)) (_hf : Fit6 l) (_ : n ≤ c) (_ : c ≤ maxLen) (_ : -9223372036854775808 ≤ jj ∧ jj ≤ 9223372036854775807) (_ : -9223372036854775808 ≤ q ∧ q ≤ 9223372036854775807) (_ : -9223372036854775808 ≤ d ∧ d ≤ 9223372036854775807) :
    Calls Try.prog 8 #[.slice A n c, .int .i64 jj, .int .i64 q, .int .i64 d] w fun e w' => e = .returned (.bool true) ∧ Below w.heap.size w w' := by
  have hB : w.heap.size ≤ w.heap.size := Nat.le_refl _
  have hc := fun (w' : World) (h : Shows w' w.heap.size 6 A n (RC l)) (h' : w.heap.size ≤ w'.heap.size) => check_any A n c l w.heap.size w' h h' (by omega)
  by_cases h30 : 30 < n
  · obtain ⟨E, hE⟩ : ∃ E, Hol.chk l = E := ⟨_, rfl⟩
    rw [hE] at hc
    clear hE
    go_enter Try.func8, Try.ntmps8
    go_wp2_with fail
    refine (awake_true _).mono ?_
    rintro e w1 ⟨rfl, hb1⟩
    go_wp2_with fail
    refine (hc _ (ha.call hb1 hB) hb1.size).mono ?_
    rintro e w2 ⟨rfl, hb2⟩
    go_wp2_with fail
    go_ret
    exact ⟨rfl, bel_call hb1 hb2⟩
  by_cases h0 : (Hol.chk l).1 = 0
  · have hm : n ≤ maxLen := by omega
    by_cases hd : 0 ≤ d ∧ d ≤ 3652058
    · have hi := Hol.nextF_is (l := l) (j := jj) (c := q) hd
      rw [Hol.chk_00 h0] at hc
      rcases hN : Hol.nextF l jj q d with _ | g
      · rw [hN] at hi
        have hnx := fun (w' : World) (h : Shows w' w.heap.size 6 A n (RC l)) (h' : w.heap.size ≤ w'.heap.size) => next_any A n c l jj q d w.heap.size w' h h' hm (vr := 0) (bt := false) (by rw [hN]; rfl)
        have hdy := fun (w' : World) (h : Shows w' w.heap.size 6 A n (RC l)) (h' : w.heap.size ≤ w'.heap.size) => days_any A n c l jj q d 3652058 w.heap.size w' h h' hm
        have hz : Hol.daysF l jj q d 3652058 = 0 := by
          unfold Hol.daysF
          rw [if_pos (by omega)]
          exact Hol.span_none fun m h1 h2 => hi m h1 h2
        rw [hz] at hdy
        obtain ⟨d0, d1⟩ := hd
        clear hi hN hz h0
        go_enter Try.func8, Try.ntmps8
        go_wp2_with fail
        refine (awake_true _).mono ?_
        rintro e w1 ⟨rfl, hb1⟩
        go_wp2_with fail
        refine (hc _ (ha.call hb1 hB) hb1.size).mono ?_
        rintro e w2 ⟨rfl, hb2⟩
        have bel2 := bel_call hb1 hb2
        go_wp2_with fail
        refine (hnx _ (ha.call bel2 hB) bel2.size).mono ?_
        rintro e w3 ⟨rfl, hb3⟩
        have bel3 := bel_call bel2 hb3
        go_wp2_with fail
        refine (hdy _ (ha.call bel3 hB) bel3.size).mono ?_
        rintro e w4 ⟨rfl, hb4⟩
        go_wp2_with fail
        go_ret
        exact ⟨rfl, bel_call bel3 hb4⟩
      · rw [hN] at hi
        obtain ⟨g0, g1, g2, g3⟩ := hi
        have hnx := fun (w' : World) (h : Shows w' w.heap.size 6 A n (RC l)) (h' : w.heap.size ≤ w'.heap.size) => next_any A n c l jj q d w.heap.size w' h h' hm (vr := g) (bt := true) (by rw [hN]; rfl)
        rcases hA : Hol.asF l jj q g with _ | x
        · exfalso
          unfold Hol.cov at g2
          rw [hA] at g2
          cases g2
        have has := fun (w' : World) (h : Shows w' w.heap.size 6 A n (RC l)) (h' : w.heap.size ≤ w'.heap.size) => as_any A n c l jj q g w.heap.size w' h h' hm (xr := x) (bt := true) (by rw [hA]; rfl)
        obtain ⟨d0, d1⟩ := hd
        by_cases hgd : g = d
        · subst hgd
          clear g2 g3 hN hA h0
          go_enter Try.func8, Try.ntmps8
          go_wp2_with fail
          refine (awake_true _).mono ?_
          rintro e w1 ⟨rfl, hb1⟩
          go_wp2_with fail
          refine (hc _ (ha.call hb1 hB) hb1.size).mono ?_
          rintro e w2 ⟨rfl, hb2⟩
          have bel2 := bel_call hb1 hb2
          go_wp2_with fail
          refine (hnx _ (ha.call bel2 hB) bel2.size).mono ?_
          rintro e w3 ⟨rfl, hb3⟩
          have bel3 := bel_call bel2 hb3
          go_wp2_with fail
          refine (has _ (ha.call bel3 hB) bel3.size).mono ?_
          rintro e w4 ⟨rfl, hb4⟩
          go_wp2_with fail
          go_ret
          exact ⟨rfl, bel_alloc (bel_call bel3 hb4) _⟩
        · have hdy := fun (w' : World) (h : Shows w' w.heap.size 6 A n (RC l)) (h' : w.heap.size ≤ w'.heap.size) => days_any A n c l jj q d (g - 1) w.heap.size w' h h' hm
          have hz : Hol.daysF l jj q d (g - 1) = 0 := by
            unfold Hol.daysF
            rw [if_pos (by omega)]
            exact Hol.span_none fun m h1 h2 => g3 m h1 (by omega)
          rw [hz] at hdy
          have e1 : (g == d) = false := by simpa using hgd
          clear g2 g3 hN hA h0 hz hgd
          go_enter Try.func8, Try.ntmps8
          go_wp2_with fail
          refine (awake_true _).mono ?_
          rintro e w1 ⟨rfl, hb1⟩
          go_wp2_with fail
          refine (hc _ (ha.call hb1 hB) hb1.size).mono ?_
          rintro e w2 ⟨rfl, hb2⟩
          have bel2 := bel_call hb1 hb2
          go_wp2_with fail
          refine (hnx _ (ha.call bel2 hB) bel2.size).mono ?_
          rintro e w3 ⟨rfl, hb3⟩
          have bel3 := bel_call bel2 hb3
          go_wp2_with fail
          refine (has _ (ha.call bel3 hB) bel3.size).mono ?_
          rintro e w4 ⟨rfl, hb4⟩
          have bel4 := bel_alloc (bel_call bel3 hb4) (.cells x.cs.toArray 28)
          go_wp2_with fail
          refine (hdy _ (ha.call bel4 hB) bel4.size).mono ?_
          rintro e w5 ⟨rfl, hb5⟩
          go_wp2_with fail
          go_ret
          exact ⟨rfl, bel_call bel4 hb5⟩
    · rw [Hol.chk_00 h0] at hc
      rcases (by omega : d < 0 ∨ (¬ d < 0 ∧ 3652058 < d)) with h | ⟨h1, h2⟩
      all_goals
        clear h0 hd
        go_enter Try.func8, Try.ntmps8
        go_wp2_with fail
        refine (awake_true _).mono ?_
        rintro e w1 ⟨rfl, hb1⟩
        go_wp2_with fail
        refine (hc _ (ha.call hb1 hB) hb1.size).mono ?_
        rintro e w2 ⟨rfl, hb2⟩
        go_wp2_with fail
        go_ret
        exact ⟨rfl, bel_call hb1 hb2⟩
  · generalize (Hol.chk l).1 = E at *
    generalize (Hol.chk l).2 = E2 at *
    have h1 : (E == 0) = false := by simpa using h0
    have h2 : (E != 0) = true := by simpa using h0
    go_enter Try.func8, Try.ntmps8
    go_wp2_with fail
    refine (awake_true _).mono ?_
    rintro e w1 ⟨rfl, hb1⟩
    go_wp2_with fail
    refine (hc _ (ha.call hb1 hB) hb1.size).mono ?_
    rintro e w2 ⟨rfl, hb2⟩
    go_wp2_with fail
    go_ret
    exact ⟨rfl, bel_call hb1 hb2⟩
end Go.Proofs.Ytfgpndmlellidaa
