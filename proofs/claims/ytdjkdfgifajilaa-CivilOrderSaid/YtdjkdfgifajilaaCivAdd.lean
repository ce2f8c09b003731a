/- The walks of 'civil.Add' and the document's own 'Add'. -/
import Derived.Test.YtdjkdfgifajilaaCivDaysWalk
namespace Go.Proofs.Ytdjkdfgifajilaa
open Go.RowKit

theorem quiet_days (y d : Int) (m : Nat) (h1 : 1 ≤ y) (h2 : y ≤ 9999) (h3 : 1 ≤ m) (h4 : m ≤ 12) (h5 : 1 ≤ d) : Civ.IsD y m (min d (Civ.dim y m)) := by
  have := Civ.dim_pos y m h1 h2 h3 h4
  exact ⟨h1, h2, h3, h4, by omega, by omega⟩
set_option maxRecDepth 100000 in
set_option maxHeartbeats 2000000 in
theorem add_out (n months : Int) (w : World) (h : ¬ (0 ≤ n ∧ n ≤ 3652058) ∨ months < -200000 ∨ 200000 < months) :
    Calls Try.prog 25 #[.int .i64 n, .int .i64 months] w fun r w' => r = .returned (.tuple #[.int .i64 0, .int .i64 5]) ∧ Below w.heap.size w w' := by
  by_cases hn : 0 ≤ n ∧ n ≤ 3652058
  · obtain ⟨y, m, d, hd⟩ := exists_date n hn.1 hn.2
    rcases (by omega : months < -200000 ∨ (¬ months < -200000 ∧ 200000 < months)) with h1 | ⟨h1, h2⟩
    all_goals
      clear h hn
      go_enter Try.func25, Try.ntmps25
      go_wp2_with fail
      refine (date_is hd _).mono ?_
      rintro e w1 ⟨rfl, hb1⟩
      go_wp2_with fail
      go_ret2
      exact ⟨rfl, bel_alloc hb1 _⟩
  · clear h
    go_enter Try.func25, Try.ntmps25
    go_wp2_with fail
    refine (date_not hn _).mono ?_
    rintro e w1 ⟨rfl, hb1⟩
    go_wp2_with fail
    go_ret2
    exact ⟨rfl, bel_alloc hb1 _⟩
set_option maxRecDepth 100000 in
set_option maxHeartbeats 2000000 in
theorem add_far (n months y d : Int) (m : Nat) (hd : IsDate n y m d) (m1 : -200000 ≤ months) (m2 : months ≤ 200000) (h : 12 * (y - 1) + m - 1 + months < 0 ∨ 119988 ≤ 12 * (y - 1) + m - 1 + months) (w : World) :
    Calls Try.prog 25 #[.int .i64 n, .int .i64 months] w fun r w' => r = .returned (.tuple #[.int .i64 0, .int .i64 5]) ∧ Below w.heap.size w w' := by
  have hc := fun w => date_is hd w
  obtain ⟨⟨y1, y2, k1, k2, e1, e2⟩, -⟩ := hd
  rcases (by omega : 12 * (y - 1) + m - 1 + months < 0 ∨ (¬ 12 * (y - 1) + m - 1 + months < 0 ∧ 119988 ≤ 12 * (y - 1) + m - 1 + months)) with h1 | ⟨h1, h2⟩
  all_goals
    clear h
    go_enter Try.func25, Try.ntmps25
    go_wp2_with fail
    refine (hc _).mono ?_
    rintro e w1 ⟨rfl, hb1⟩
    go_wp2_with fail
    go_ret2
    exact ⟨rfl, bel_alloc hb1 _⟩
set_option maxRecDepth 100000 in
set_option maxHeartbeats 2000000 in
theorem add_near (n months y d Y : Int) (m M : Nat) (hd : IsDate n y m d) (m1 : -200000 ≤ months) (m2 : months ≤ 200000) (h0 : 0 ≤ 12 * (y - 1) + m - 1 + months) (h1 : 12 * (y - 1) + m - 1 + months < 119988)
    (hY : (12 * (y - 1) + m - 1 + months) / 12 + 1 = Y) (hM : (12 * (y - 1) + m - 1 + months) % 12 + 1 = (M : Int)) (w : World) :
    Calls Try.prog 25 #[.int .i64 n, .int .i64 months] w fun r w' => r = .returned (.tuple #[.int .i64 (Civ.num Y M (min d (Civ.dim Y M))), .int .i64 0]) ∧ ∃ w1, Below w.heap.size w w1 ∧ ∃ k, w' = w1.drewN k := by
  have hc := fun w => date_is hd w
  obtain ⟨⟨y1, y2, k1, k2, e1, e2⟩, -⟩ := hd
  have hI := quiet_days Y d M (by omega) (by omega) (by omega) (by omega) e1
  have hday := fun w => day_good Y (min d (Civ.dim Y M)) M w hI
  have hlen := fun w => length_any Y M w (by omega) (by omega) (by omega) (by omega)
  generalize Civ.num Y M (min d (Civ.dim Y M)) = p at *
  generalize Civ.dim Y M = L at *
  clear hI
  by_cases hdl : d ≤ L
  · rw [show min d L = d by omega] at hday
    go_enter Try.func25, Try.ntmps25
    go_wp2_with fail
    refine (hc _).mono ?_
    rintro e w1 ⟨rfl, hb1⟩
    go_wp2_with fail
    go_quiet ((first | (go_at_call 20; exact quiet_l (hlen _)) | (go_at_call 16; exact quiet_l (hday _))))
    go_wp2_with fail
    go_ret2
    exact ⟨rfl, _, bel_alloc hb1 _, _, rfl⟩
  · rw [show min d L = L by omega] at hday
    have hdl2 : L ≤ d := by omega
    go_enter Try.func25, Try.ntmps25
    go_wp2_with fail
    refine (hc _).mono ?_
    rintro e w1 ⟨rfl, hb1⟩
    go_wp2_with fail
    go_quiet ((first | (go_at_call 20; exact quiet_l (hlen _)) | (go_at_call 16; exact quiet_l (hday _))))
    go_wp2_with fail
    go_ret2
    exact ⟨rfl, _, bel_alloc hb1 _, _, rfl⟩
end Go.Proofs.Ytdjkdfgifajilaa
