/- The walk of 'holiday.Days'. -/
import Derived.Test.YtfgpndmlellidaaHolNext
namespace Go.Proofs.Ytfgpndmlellidaa
open Go.RowKit

set_option maxRecDepth 100000 in
set_option maxHeartbeats 8000000 in
theorem days_any (A : Option Addr) (n c : Nat) (l : List S6) (jj q a z : Int) (B : Nat) (w : World) (ha : Shows w B 6 A n (RC l)) (hB : B ≤ w.heap.size) (hn : n ≤ maxLen) :
    Calls Try.prog 19 #[.slice A n c, .int .i64 jj, .int .i64 q, .int .i64 a, .int .i64 z] w fun e w' => e = .returned (.int .i64 (Hol.daysF l jj q a z)) ∧ Below w.heap.size w w' := by
  have hc := fun (w' : World) (h : Shows w' B 6 A n (RC l)) (h' : B ≤ w'.heap.size) => check_any A n c l B w' h h' hn
  by_cases h0 : (Hol.chk l).1 = 0
  · rw [Hol.chk_00 h0] at hc
    by_cases h1 : 0 ≤ a ∧ a ≤ 3652058
    · have hw1 := fun w => within_yes h1 w
      by_cases h2 : 0 ≤ z ∧ z ≤ 3652058
      · have hw2 := fun w => within_yes h2 w
        have hdy := Lib.hid (show Hol.daysF l jj q a z = Hol.span (Hol.cov l jj q) a z by unfold Hol.daysF; rw [if_pos (by omega)])
        have hnx := fun (w' : World) (h : Shows w' B 6 A n (RC l)) (h' : B ≤ w'.heap.size) d v b hr => next_any A n c l jj q d B w' h h' hn (vr := v) (bt := b) hr
        have has := fun (w' : World) (h : Shows w' B 6 A n (RC l)) (h' : B ≤ w'.heap.size) d x b hr => as_any A n c l jj q d B w' h h' hn (xr := x) (bt := b) hr
        have hok := Lib.hid ((Hol.chk_ok l).1 h0)
        obtain ⟨a0, a1⟩ := h1
        obtain ⟨z0, z1⟩ := h2
        clear h0
        go_enter Try.func19, Try.ntmps19
        go_wp2_with fail
        refine (hc _ ha hB).mono ?_
        rintro e w1 ⟨rfl, hb1⟩
        go_wp2_with fail
        refine (hw1 _).mono ?_
        rintro e w1' ⟨rfl, rfl⟩
        go_wp2_with fail
        refine (hw2 _).mono ?_
        rintro e w1' ⟨rfl, rfl⟩
        go_wp2_with fail
        go_loopw [3, 13] (fun s3 s13 wr => ∃ f t : Int, s3 = .int .i64 f ∧ s13 = .int .i64 t ∧ a ≤ f ∧ (f ≤ z + 1 ∨ f = a) ∧ f ≤ 3652058 ∧ t = Hol.span (Hol.cov l jj q) a (f - 1) ∧ 0 ≤ t ∧ t ≤ f - a ∧ Below w.heap.size w wr) (fun s3 _ _ => (z + 1 - intOf s3).toNat)
        case atStart => exact ⟨a, 0, rfl, rfl, Int.le_refl _, .inr rfl, a1, (Hol.span_zero _ (by omega)).symm, Int.le_refl _, by omega, hb1⟩
        case round =>
          obtain ⟨f, t, rfl, rfl, f0, f1, f2, ht, t0, t1, hbel⟩ := hrel
          have Ht := Lib.hid ht
          clear ht
          have har := ha.call hbel hB
          by_cases hfz : f ≤ z
          · have hi := Hol.nextF_is (l := l) (j := jj) (c := q) (d := f) (by omega)
            rcases hN : Hol.nextF l jj q f with _ | g
            · rw [hN] at hi
              have HN := Lib.hid (show Hol.hand2 (Hol.nextF l jj q f) = (0, false) by rw [hN]; rfl)
              have Hres := Lib.hid (show Hol.daysF l jj q a z = t by
                rw [hdy.out, Hol.span_split _ (m := f - 1) (by omega) (by omega), ← Ht.out, show f - 1 + 1 = f by omega, Hol.span_none (fun m h1 h2 => hi m h1 (by omega))]; omega)
              clear hN hi
              go_wp2_with fail
              refine (hnx _ har (Nat.le_trans hB hbel.size) f _ _ HN.out).mono ?_
              rintro e w2 ⟨rfl, hb2⟩
              go_wp2_with fail
              go_ret
              exact ⟨by rw [Hres.out]; rfl, bel_call hbel hb2⟩
            · rw [hN] at hi
              obtain ⟨g0, g1, g2, g3⟩ := hi
              have HN := Lib.hid (show Hol.hand2 (Hol.nextF l jj q f) = (g, true) by rw [hN]; rfl)
              by_cases hgz : z < g
              · have Hres := Lib.hid (show Hol.daysF l jj q a z = t by
                  rw [hdy.out, Hol.span_split _ (m := f - 1) (by omega) (by omega), ← Ht.out, show f - 1 + 1 = f by omega, Hol.span_none (fun m h1 h2 => g3 m h1 (by omega))]; omega)
                clear hN g2 g3
                go_wp2_with fail
                refine (hnx _ har (Nat.le_trans hB hbel.size) f _ _ HN.out).mono ?_
                rintro e w2 ⟨rfl, hb2⟩
                go_wp2_with fail
                go_ret
                exact ⟨by rw [Hres.out]; rfl, bel_call hbel hb2⟩
              · rcases hA : Hol.asF l jj q g with _ | x
                · exfalso
                  unfold Hol.cov at g2
                  rw [hA] at g2
                  cases g2
                · have HA := Lib.hid (show Hol.hand (Hol.asF l jj q g) = (x, true) by rw [hA]; rfl)
                  have hrun := Hol.cov_run hA
                  obtain ⟨_, x1, _, _, x4, x5⟩ := Hol.as_some hA
                  obtain ⟨_, _, _, ⟨d0, d1⟩, _⟩ := Hol.one_0 (hok.out.2.1 x x1)
                  have hspan : ∀ lst, g ≤ lst → lst ≤ x.d → lst ≤ z → Hol.span (Hol.cov l jj q) a lst = t + (lst - g + 1) := by
                    intro lst l1 l2 l3
                    rw [Hol.span_split _ (m := f - 1) (by omega) (by omega), ← Ht.out, show f - 1 + 1 = f by omega]
                    rw [Hol.span_split _ (a := f) (m := g - 1) (b := lst) (by omega) (by omega), show g - 1 + 1 = g by omega, Hol.span_none (fun m h1 h2 => g3 m h1 (by omega)), Hol.span_all (by omega) (fun m h1 h2 => hrun m h1 (by omega))]
                    omega
                  have Hspan := Lib.hid hspan
                  clear hN g2 g3 hA hrun hspan x1
                  obtain ⟨dd, hdd⟩ : ∃ dd, x.d = dd := ⟨_, rfl⟩
                  have q1 : (dd - g + 1) ≤ 3652059 := by omega
                  rw [hdd] at Hspan
                  clear x4
                  by_cases hdz : dd ≤ z
                  · by_cases hend : 3652058 < dd + 1
                    · have Hres := Lib.hid (show Hol.daysF l jj q a z = t + (dd - g + 1) by rw [hdy.out, show z = dd by omega]; exact Hspan.out dd (by omega) (by omega) (by omega))
                      go_wp2_with fail
                      refine (hnx _ har (Nat.le_trans hB hbel.size) f _ _ HN.out).mono ?_
                      rintro e w2 ⟨rfl, hb2⟩
                      go_wp2_with fail
                      refine (has _ (har.call hb2 (Nat.le_trans hB hbel.size)) (Nat.le_trans (Nat.le_trans hB hbel.size) hb2.size) g _ _ HA.out).mono ?_
                      rintro e w3 ⟨rfl, hb3⟩
                      go_wp2_with fail
                      all_goals
                        first
                          | (exfalso; omega)
                          | (go_ret
                             exact ⟨by rw [Hres.out, ← hdd]; rfl, bel_alloc (bel_call (bel_call hbel hb2) hb3) _⟩)
                          | (go_ret
                             exact ⟨by rw [Hres.out, show dd = z by omega]; rfl, bel_alloc (bel_call (bel_call hbel hb2) hb3) _⟩)
                    · have Hs := Lib.hid (Hspan.out dd (by omega) (by omega) (by omega))
                      go_wp2_with fail
                      refine (hnx _ har (Nat.le_trans hB hbel.size) f _ _ HN.out).mono ?_
                      rintro e w2 ⟨rfl, hb2⟩
                      go_wp2_with fail
                      refine (has _ (har.call hb2 (Nat.le_trans hB hbel.size)) (Nat.le_trans (Nat.le_trans hB hbel.size) hb2.size) g _ _ HA.out).mono ?_
                      rintro e w3 ⟨rfl, hb3⟩
                      go_wp2_with fail
                      all_goals
                        first
                          | (exfalso; omega)
                          | (go_roundw
                             case rel => exact ⟨dd + 1, t + (dd - g + 1), by rw [← hdd], by rw [← hdd], by omega, .inl (by omega), by omega, by rw [show dd + 1 - 1 = dd by omega, Hs.out], by omega, by omega, bel_alloc (bel_call (bel_call hbel hb2) hb3) _⟩
                             case measure => simp [intOf]; omega)
                          | (go_roundw
                             case rel => exact ⟨dd + 1, t + (dd - g + 1), by rw [show dd = z by omega], by rw [show dd = z by omega], by omega, .inl (by omega), by omega, by rw [show dd + 1 - 1 = dd by omega, Hs.out], by omega, by omega, bel_alloc (bel_call (bel_call hbel hb2) hb3) _⟩
                             case measure => simp [intOf]; omega)
                  · by_cases hend : 3652058 < z + 1
                    · have Hres := Lib.hid (show Hol.daysF l jj q a z = t + (z - g + 1) by rw [hdy.out]; exact Hspan.out z (by omega) (by omega) (by omega))
                      exfalso
                      omega
                    · have Hs := Lib.hid (Hspan.out z (by omega) (by omega) (by omega))
                      go_wp2_with fail
                      refine (hnx _ har (Nat.le_trans hB hbel.size) f _ _ HN.out).mono ?_
                      rintro e w2 ⟨rfl, hb2⟩
                      go_wp2_with fail
                      refine (has _ (har.call hb2 (Nat.le_trans hB hbel.size)) (Nat.le_trans (Nat.le_trans hB hbel.size) hb2.size) g _ _ HA.out).mono ?_
                      rintro e w3 ⟨rfl, hb3⟩
                      go_wp2_with fail
                      all_goals
                        first
                          | (exfalso; omega)
                          | (go_roundw
                             case rel => exact ⟨z + 1, t + (z - g + 1), rfl, rfl, by omega, .inl (by omega), by omega, by rw [show z + 1 - 1 = z by omega, Hs.out], by omega, by omega, bel_alloc (bel_call (bel_call hbel hb2) hb3) _⟩
                             case measure => simp [intOf]; omega)
          · have Hres := Lib.hid (show Hol.daysF l jj q a z = t by
              rw [hdy.out]
              rcases f1 with f1 | f1
              · obtain rfl : z = f - 1 := by omega
                exact Ht.out.symm
              · subst f1
                rw [Hol.span_zero _ (by omega), Ht.out, Hol.span_zero _ (by omega)])
            go_wp2_with fail
            go_ret
            exact ⟨by rw [Hres.out]; rfl, hbel⟩
      · have hw2 := fun w => within_no h2 w
        have hr := Lib.hid (show Hol.daysF l jj q a z = 0 by unfold Hol.daysF; rw [if_neg (by omega)])
        clear h0 h1 h2
        go_enter Try.func19, Try.ntmps19
        go_wp2_with fail
        refine (hc _ ha hB).mono ?_
        rintro e w1 ⟨rfl, hb1⟩
        go_wp2_with fail
        refine (hw1 _).mono ?_
        rintro e w1' ⟨rfl, rfl⟩
        go_wp2_with fail
        refine (hw2 _).mono ?_
        rintro e w1' ⟨rfl, rfl⟩
        go_wp2_with fail
        go_ret
        exact ⟨by rw [hr.out]; rfl, hb1⟩
    · have hw1 := fun w => within_no h1 w
      have hr := Lib.hid (show Hol.daysF l jj q a z = 0 by unfold Hol.daysF; rw [if_neg (by omega)])
      clear h0 h1
      go_enter Try.func19, Try.ntmps19
      go_wp2_with fail
      refine (hc _ ha hB).mono ?_
      rintro e w1 ⟨rfl, hb1⟩
      go_wp2_with fail
      refine (hw1 _).mono ?_
      rintro e w1' ⟨rfl, rfl⟩
      go_wp2_with fail
      go_ret
      exact ⟨by rw [hr.out]; rfl, hb1⟩
  · have hr := Lib.hid (Hol.daysF_bad (j := jj) (c := q) (a := a) (b := z) h0)
    generalize (Hol.chk l).1 = E at *
    generalize (Hol.chk l).2 = E2 at *
    have h1 : (E == 0) = false := by simpa using h0
    have h2 : (E != 0) = true := by simpa using h0
    go_enter Try.func19, Try.ntmps19
    go_wp2_with fail
    refine (hc _ ha hB).mono ?_
    rintro e w1 ⟨rfl, hb1⟩
    go_wp2_with fail
    go_ret
    exact ⟨by rw [hr.out]; rfl, hb1⟩
end Go.Proofs.Ytfgpndmlellidaa
