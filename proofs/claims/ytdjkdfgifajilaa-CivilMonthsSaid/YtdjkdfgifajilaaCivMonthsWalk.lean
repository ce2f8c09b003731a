/- The walk of 'apportionlaw03.CivilMonths'. -/
import Derived.Test.YtdjkdfgifajilaaCivAddsWalk
import Derived.Deep.RegionHeld3
namespace Go.Proofs.Ytdjkdfgifajilaa
open Go.RowKit

def AddW (n months p e : Int) : Prop := ∀ w, Calls Try.prog 25 #[.int .i64 n, .int .i64 months] w fun r w' => r = .returned (.tuple #[.int .i64 p, .int .i64 e]) ∧ Below w.heap.size w w'
theorem near_add (n months y d : Int) (m : Nat) (hd : IsDate n y m d) (m1 : -200000 ≤ months) (m2 : months ≤ 200000) (h0 : 0 ≤ 12 * (y - 1) + m - 1 + months) (h1 : 12 * (y - 1) + m - 1 + months < 119988) :
    ∃ (Y : Int) (M : Nat), 12 * (Y - 1) + M - 1 = 12 * (y - 1) + m - 1 + months ∧ IsDate (Civ.num Y M (min d (Civ.dim Y M))) Y M (min d (Civ.dim Y M)) ∧ AddW n months (Civ.num Y M (min d (Civ.dim Y M))) 0 := by
  have hm := hd.1.2.2.1
  obtain ⟨M, hM⟩ : ∃ M : Nat, (12 * (y - 1) + m - 1 + months) % 12 + 1 = (M : Int) := ⟨((12 * (y - 1) + m - 1 + months) % 12 + 1).toNat, by omega⟩
  refine ⟨(12 * (y - 1) + m - 1 + months) / 12 + 1, M, by omega, ⟨quiet_days _ _ _ (by omega) (by omega) (by omega) (by omega) hd.1.2.2.2.2.1, rfl⟩, fun w => ?_⟩
  exact (add_near n months y d _ m M hd m1 m2 (by omega) (by omega) rfl hM w).mono fun r w' ⟨hr, w1, hb, k, hk⟩ => ⟨hr, hk ▸ bel_drewN hb k⟩
def MonthsYes (a months more : Int) (w : World) : Prop := Calls Try.prog 5 #[.int .i64 a, .int .i64 months, .int .i64 more] w fun e w' => e = .returned (.bool true) ∧ Below w.heap.size w w'
set_option maxRecDepth 100000 in
set_option maxHeartbeats 2000000 in
theorem months_early (a months more : Int) (w : World) (h : a < 0 ∨ 3652058 < a ∨ months < -100000 ∨ 100000 < months ∨ more < -100000 ∨ 100000 < more) : MonthsYes a months more w := by
  rcases (by omega : a < 0 ∨ (¬ a < 0 ∧ 3652058 < a) ∨ (¬ a < 0 ∧ ¬ 3652058 < a ∧ months < -100000) ∨ (¬ a < 0 ∧ ¬ 3652058 < a ∧ ¬ months < -100000 ∧ 100000 < months) ∨ (¬ a < 0 ∧ ¬ 3652058 < a ∧ ¬ months < -100000 ∧ ¬ 100000 < months ∧ more < -100000) ∨ (¬ a < 0 ∧ ¬ 3652058 < a ∧ ¬ months < -100000 ∧ ¬ 100000 < months ∧ ¬ more < -100000 ∧ 100000 < more)) with h1 | ⟨h1, h2⟩ | ⟨h1, h2, h3⟩ | ⟨h1, h2, h3, h4⟩ | ⟨h1, h2, h3, h4, h5⟩ | ⟨h1, h2, h3, h4, h5, h6⟩
  all_goals
    clear h
    unfold MonthsYes
    go_enter Try.func5, Try.ntmps5
    go_wp2_with fail
    refine (civ_awake _).mono ?_
    rintro e w1 ⟨rfl, hb1⟩
    go_wp2_with fail
    go_ret
    exact ⟨rfl, hb1⟩
set_option maxRecDepth 100000 in
set_option maxHeartbeats 2000000 in
theorem months_far (a months more y d : Int) (m : Nat) (w : World) (h1 : ¬ a < 0) (h2 : ¬ 3652058 < a) (h3 : ¬ months < -100000) (h4 : ¬ 100000 < months) (h5 : ¬ more < -100000) (h6 : ¬ 100000 < more)
    (hd : IsDate a y m d) (hA : AddW a months 0 5) (hf : 12 * y + m - 1 + months < 12 ∨ 120000 ≤ 12 * y + m - 1 + months) : MonthsYes a months more w := by
  have hc := fun w => date_is hd w
  obtain ⟨⟨y1, y2, k1, k2, e1, e2⟩, -⟩ := hd
  unfold MonthsYes
  rcases (by omega : 12 * y + m - 1 + months < 12 ∨ (¬ 12 * y + m - 1 + months < 12 ∧ 120000 ≤ 12 * y + m - 1 + months)) with g1 | ⟨g1, g2⟩
  all_goals
    clear hf
    go_enter Try.func5, Try.ntmps5
    go_wp2_with fail
    refine (civ_awake _).mono ?_
    rintro e w1 ⟨rfl, hb1⟩
    go_wp2_with fail
    refine (hc _).mono ?_
    rintro e w2 ⟨rfl, hb2⟩
    have u2 := Block.new w2 26 [.int .i64 y, .int .i64 m, .int .i64 d]
    go_wp2_with fail
    refine (hA _).mono ?_
    rintro e w3 ⟨rfl, hb3⟩
    have u3 := u2.call hb3
    have c0 := u3.cell 0
    have c1 := u3.cell 1
    have c2 := u3.cell 2
    have y3 := u3.lt
    simp only [List.getElem?_cons_zero, List.getElem?_cons_succ] at c0 c1 c2
    go_wp2_with fail
    go_ret
    exact ⟨rfl, bel_call (bel_alloc (bel_call hb1 hb2) _) hb3⟩
set_option maxRecDepth 100000 in
set_option maxHeartbeats 4000000 in
theorem months_near (a b c p g months more y d Y L D : Int) (m M : Nat) (w : World) (h1 : ¬ a < 0) (h2 : ¬ 3652058 < a) (h3 : ¬ months < -100000) (h4 : ¬ 100000 < months) (h5 : ¬ more < -100000) (h6 : ¬ 100000 < more)
    (hd : IsDate a y m d) (hA : AddW a months b 0) (hn : 12 * Y + M - 1 = 12 * y + m - 1 + months) (hB : IsDate b Y M D) (hL : Civ.dim Y M = L) (hD : D = min d L)
    (hC : AddW b more c g) (hE : AddW a (months + more) p g) (hg : g = 0 ∨ g = 5) (hle : c ≤ p) (heq : d ≤ L → c = p) : MonthsYes a months more w := by
  have hc := fun w => date_is hd w
  have hq := fun w => date_is hB w
  obtain ⟨⟨y1, y2, k1, k2, e1, e2⟩, -⟩ := hd
  obtain ⟨⟨y1', y2', k1', k2', e1', e2'⟩, -⟩ := hB
  have hlen := fun w => length_any Y M w (by omega) (by omega) (by omega) (by omega)
  rw [hL] at hlen e2'
  clear hL
  unfold MonthsYes
  have hcp : ¬ p < c := by omega
  rcases (by omega : (d ≤ L ∧ d = D ∧ c = p) ∨ (¬ d ≤ L ∧ L < d ∧ D = L ∧ ¬ L = d)) with ⟨q1, rfl, rfl⟩ | ⟨q1, q2, rfl, q3⟩ <;> rcases hg with rfl | rfl
  all_goals clear hD hle heq
  · go_enter Try.func5, Try.ntmps5
    go_wp2_with fail
    refine (civ_awake _).mono ?_
    rintro e w1 ⟨rfl, hb1⟩
    go_wp2_with fail
    refine (hc _).mono ?_
    rintro e w2 ⟨rfl, hb2⟩
    have u2 := Block.new w2 26 [.int .i64 y, .int .i64 m, .int .i64 d]
    go_wp2_with fail
    refine (hA _).mono ?_
    rintro e w3 ⟨rfl, hb3⟩
    have u3 := u2.call hb3
    have c0 := u3.cell 0
    have c1 := u3.cell 1
    have c2 := u3.cell 2
    have y3 := u3.lt
    simp only [List.getElem?_cons_zero, List.getElem?_cons_succ] at c0 c1 c2
    go_wp2_with fail
    refine (hq _).mono ?_
    rintro e w4 ⟨rfl, hb4⟩
    have u4 := (u3.call hb4).alloc (.cells #[.int .i64 Y, .int .i64 M, .int .i64 d] 26)
    have v4 := Block.new w4 26 [.int .i64 Y, .int .i64 M, .int .i64 d]
    have c0 := u4.cell 0
    have c1 := u4.cell 1
    have c2 := u4.cell 2
    have y4 := u4.lt
    have d0 := v4.cell 0
    have d1 := v4.cell 1
    have d2 := v4.cell 2
    have z4 := v4.lt
    simp only [List.getElem?_cons_zero, List.getElem?_cons_succ] at c0 c1 c2 d0 d1 d2
    go_wp2_with fail
    go_quiet ((go_at_call 20; exact quiet_l (hlen _)))
    go_wp2_with fail
    refine (hC _).mono ?_
    rintro e w5 ⟨rfl, hb5⟩
    go_wp2_with fail
    refine (hE _).mono ?_
    rintro e w6 ⟨rfl, hb6⟩
    have u6 := ((u4.drewN nq).call hb5).call hb6
    have v6 := ((v4.drewN nq).call hb5).call hb6
    have f2 := u6.cell 2
    have y6 := u6.lt
    have g2 := v6.cell 2
    have z6 := v6.lt
    simp only [List.getElem?_cons_zero, List.getElem?_cons_succ] at f2 g2
    clear u2 u3 u4 v4 u6 v6
    go_wp2_with fail
    try go_quiet (fail)
    try go_wp2_with fail
    go_ret
    exact ⟨rfl, bel_call (bel_call (bel_drewN (bel_alloc (bel_call (bel_call (bel_alloc (bel_call hb1 hb2) _) hb3) hb4) _) nq) hb5) hb6⟩
  · go_enter Try.func5, Try.ntmps5
    go_wp2_with fail
    refine (civ_awake _).mono ?_
    rintro e w1 ⟨rfl, hb1⟩
    go_wp2_with fail
    refine (hc _).mono ?_
    rintro e w2 ⟨rfl, hb2⟩
    have u2 := Block.new w2 26 [.int .i64 y, .int .i64 m, .int .i64 d]
    go_wp2_with fail
    refine (hA _).mono ?_
    rintro e w3 ⟨rfl, hb3⟩
    have u3 := u2.call hb3
    have c0 := u3.cell 0
    have c1 := u3.cell 1
    have c2 := u3.cell 2
    have y3 := u3.lt
    simp only [List.getElem?_cons_zero, List.getElem?_cons_succ] at c0 c1 c2
    go_wp2_with fail
    refine (hq _).mono ?_
    rintro e w4 ⟨rfl, hb4⟩
    have u4 := (u3.call hb4).alloc (.cells #[.int .i64 Y, .int .i64 M, .int .i64 d] 26)
    have v4 := Block.new w4 26 [.int .i64 Y, .int .i64 M, .int .i64 d]
    have c0 := u4.cell 0
    have c1 := u4.cell 1
    have c2 := u4.cell 2
    have y4 := u4.lt
    have d0 := v4.cell 0
    have d1 := v4.cell 1
    have d2 := v4.cell 2
    have z4 := v4.lt
    simp only [List.getElem?_cons_zero, List.getElem?_cons_succ] at c0 c1 c2 d0 d1 d2
    go_wp2_with fail
    go_quiet ((go_at_call 20; exact quiet_l (hlen _)))
    go_wp2_with fail
    refine (hC _).mono ?_
    rintro e w5 ⟨rfl, hb5⟩
    go_wp2_with fail
    refine (hE _).mono ?_
    rintro e w6 ⟨rfl, hb6⟩
    have u6 := ((u4.drewN nq).call hb5).call hb6
    have v6 := ((v4.drewN nq).call hb5).call hb6
    have f2 := u6.cell 2
    have y6 := u6.lt
    have g2 := v6.cell 2
    have z6 := v6.lt
    simp only [List.getElem?_cons_zero, List.getElem?_cons_succ] at f2 g2
    clear u2 u3 u4 v4 u6 v6
    go_wp2_with fail
    try go_quiet (fail)
    try go_wp2_with fail
    go_ret
    exact ⟨rfl, bel_call (bel_call (bel_drewN (bel_alloc (bel_call (bel_call (bel_alloc (bel_call hb1 hb2) _) hb3) hb4) _) nq) hb5) hb6⟩
  · go_enter Try.func5, Try.ntmps5
    go_wp2_with fail
    refine (civ_awake _).mono ?_
    rintro e w1 ⟨rfl, hb1⟩
    go_wp2_with fail
    refine (hc _).mono ?_
    rintro e w2 ⟨rfl, hb2⟩
    have u2 := Block.new w2 26 [.int .i64 y, .int .i64 m, .int .i64 d]
    go_wp2_with fail
    refine (hA _).mono ?_
    rintro e w3 ⟨rfl, hb3⟩
    have u3 := u2.call hb3
    have c0 := u3.cell 0
    have c1 := u3.cell 1
    have c2 := u3.cell 2
    have y3 := u3.lt
    simp only [List.getElem?_cons_zero, List.getElem?_cons_succ] at c0 c1 c2
    go_wp2_with fail
    refine (hq _).mono ?_
    rintro e w4 ⟨rfl, hb4⟩
    have u4 := (u3.call hb4).alloc (.cells #[.int .i64 Y, .int .i64 M, .int .i64 D] 26)
    have v4 := Block.new w4 26 [.int .i64 Y, .int .i64 M, .int .i64 D]
    have c0 := u4.cell 0
    have c1 := u4.cell 1
    have c2 := u4.cell 2
    have y4 := u4.lt
    have d0 := v4.cell 0
    have d1 := v4.cell 1
    have d2 := v4.cell 2
    have z4 := v4.lt
    simp only [List.getElem?_cons_zero, List.getElem?_cons_succ] at c0 c1 c2 d0 d1 d2
    go_wp2_with fail
    go_quiet ((go_at_call 20; exact quiet_l (hlen _)))
    go_wp2_with fail
    refine (hC _).mono ?_
    rintro e w5 ⟨rfl, hb5⟩
    go_wp2_with fail
    refine (hE _).mono ?_
    rintro e w6 ⟨rfl, hb6⟩
    have u6 := ((u4.drewN nq).call hb5).call hb6
    have v6 := ((v4.drewN nq).call hb5).call hb6
    have f2 := u6.cell 2
    have y6 := u6.lt
    have g2 := v6.cell 2
    have z6 := v6.lt
    simp only [List.getElem?_cons_zero, List.getElem?_cons_succ] at f2 g2
    clear u2 u3 u4 v4 u6 v6
    go_wp2_with fail
    try go_quiet (fail)
    try go_wp2_with fail
    go_ret
    exact ⟨rfl, bel_call (bel_call (bel_drewN (bel_alloc (bel_call (bel_call (bel_alloc (bel_call hb1 hb2) _) hb3) hb4) _) nq) hb5) hb6⟩
  · go_enter Try.func5, Try.ntmps5
    go_wp2_with fail
    refine (civ_awake _).mono ?_
    rintro e w1 ⟨rfl, hb1⟩
    go_wp2_with fail
    refine (hc _).mono ?_
    rintro e w2 ⟨rfl, hb2⟩
    have u2 := Block.new w2 26 [.int .i64 y, .int .i64 m, .int .i64 d]
    go_wp2_with fail
    refine (hA _).mono ?_
    rintro e w3 ⟨rfl, hb3⟩
    have u3 := u2.call hb3
    have c0 := u3.cell 0
    have c1 := u3.cell 1
    have c2 := u3.cell 2
    have y3 := u3.lt
    simp only [List.getElem?_cons_zero, List.getElem?_cons_succ] at c0 c1 c2
    go_wp2_with fail
    refine (hq _).mono ?_
    rintro e w4 ⟨rfl, hb4⟩
    have u4 := (u3.call hb4).alloc (.cells #[.int .i64 Y, .int .i64 M, .int .i64 D] 26)
    have v4 := Block.new w4 26 [.int .i64 Y, .int .i64 M, .int .i64 D]
    have c0 := u4.cell 0
    have c1 := u4.cell 1
    have c2 := u4.cell 2
    have y4 := u4.lt
    have d0 := v4.cell 0
    have d1 := v4.cell 1
    have d2 := v4.cell 2
    have z4 := v4.lt
    simp only [List.getElem?_cons_zero, List.getElem?_cons_succ] at c0 c1 c2 d0 d1 d2
    go_wp2_with fail
    go_quiet ((go_at_call 20; exact quiet_l (hlen _)))
    go_wp2_with fail
    refine (hC _).mono ?_
    rintro e w5 ⟨rfl, hb5⟩
    go_wp2_with fail
    refine (hE _).mono ?_
    rintro e w6 ⟨rfl, hb6⟩
    have u6 := ((u4.drewN nq).call hb5).call hb6
    have v6 := ((v4.drewN nq).call hb5).call hb6
    have f2 := u6.cell 2
    have y6 := u6.lt
    have g2 := v6.cell 2
    have z6 := v6.lt
    simp only [List.getElem?_cons_zero, List.getElem?_cons_succ] at f2 g2
    clear u2 u3 u4 v4 u6 v6
    go_wp2_with fail
    try go_quiet (fail)
    try go_wp2_with fail
    go_ret
    exact ⟨rfl, bel_call (bel_call (bel_drewN (bel_alloc (bel_call (bel_call (bel_alloc (bel_call hb1 hb2) _) hb3) hb4) _) nq) hb5) hb6⟩
theorem months_walk (a months more : Int) (w : World) (_ : -9223372036854775808 ≤ a ∧ a ≤ 9223372036854775807) (_ : -9223372036854775808 ≤ months ∧ months ≤ 9223372036854775807) (_ : -9223372036854775808 ≤ more ∧ more ≤ 9223372036854775807) : MonthsYes a months more w := by
  by_cases h : a < 0 ∨ 3652058 < a ∨ months < -100000 ∨ 100000 < months ∨ more < -100000 ∨ 100000 < more
  · exact months_early a months more w h
  · obtain ⟨y, m, d, hd⟩ := exists_date a (by omega) (by omega)
    have hd1 := hd.1.2.2.2.2.1
    by_cases hf : 12 * y + m - 1 + months < 12 ∨ 120000 ≤ 12 * y + m - 1 + months
    · exact months_far a months more y d m w (by omega) (by omega) (by omega) (by omega) (by omega) (by omega) hd (fun w => add_far a months y d m hd (by omega) (by omega) (by omega) w) hf
    · obtain ⟨Y, M, hn, hB, hA⟩ := near_add a months y d m hd (by omega) (by omega) (by omega) (by omega)
      by_cases hg : 12 * (Y - 1) + M - 1 + more < 0 ∨ 119988 ≤ 12 * (Y - 1) + M - 1 + more
      · exact months_near a _ 0 0 5 months more y d Y _ _ m M w (by omega) (by omega) (by omega) (by omega) (by omega) (by omega) hd hA (by omega) hB rfl rfl (fun w => add_far _ more Y _ M hB (by omega) (by omega) hg w) (fun w => add_far a (months + more) y d m hd (by omega) (by omega) (by omega) w) (Or.inr rfl) (by omega) (fun _ => rfl)
      · obtain ⟨Y2, M2, hn2, hB2, hA2⟩ := near_add _ more Y _ M hB (by omega) (by omega) (by omega) (by omega)
        obtain ⟨Y3, M3, hn3, hB3, hA3⟩ := near_add a (months + more) y d m hd (by omega) (by omega) (by omega) (by omega)
        have k1 := hB2.1.2.2.1
        have k2 := hB2.1.2.2.2.1
        have k3 := hB3.1.2.2.1
        have k4 := hB3.1.2.2.2.1
        obtain rfl : Y2 = Y3 := by omega
        obtain rfl : M2 = M3 := by omega
        refine months_near a _ _ _ 0 months more y d Y _ _ m M w (by omega) (by omega) (by omega) (by omega) (by omega) (by omega) hd hA (by omega) hB rfl rfl hA2 hA3 (Or.inl rfl) ?_ ?_
        · unfold Civ.num; omega
        · intro hle; rw [show min d (Civ.dim Y M) = d by omega]
end Go.Proofs.Ytdjkdfgifajilaa
