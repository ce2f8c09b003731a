/- The walk of the document's own 'Add'; the walk of 'apportionlaw03.CivilAdds'. -/
import Derived.Test.YtdjkdfgifajilaaCivAdd
namespace Go.Proofs.Ytdjkdfgifajilaa
open Go.RowKit

set_option maxRecDepth 100000 in
set_option maxHeartbeats 2000000 in
theorem refAdd_out (n months : Int) (w : World) (h : ¬ (0 ≤ n ∧ n ≤ 3652058) ∨ months < -200000 ∨ 200000 < months) :
    Calls Try.prog 26 #[.int .i64 n, .int .i64 months] w fun r w' => r = .returned (.tuple #[.int .i64 0, .int .i64 5]) ∧ Below w.heap.size w w' := by
  by_cases hn : 0 ≤ n ∧ n ≤ 3652058
  · obtain ⟨y, m, d, hd⟩ := exists_date n hn.1 hn.2
    rcases (by omega : months < -200000 ∨ (¬ months < -200000 ∧ 200000 < months)) with h1 | ⟨h1, h2⟩
    all_goals
      clear h hn
      go_enter Try.func26, Try.ntmps26
      go_wp2_with fail
      refine (refDate_is hd _).mono ?_
      rintro e w1 ⟨rfl, hb1⟩
      go_wp2_with fail
      go_ret2
      exact ⟨rfl, bel_alloc hb1 _⟩
  · clear h
    go_enter Try.func26, Try.ntmps26
    go_wp2_with fail
    refine (refDate_not hn _).mono ?_
    rintro e w1 ⟨rfl, hb1⟩
    go_wp2_with fail
    go_ret2
    exact ⟨rfl, bel_alloc hb1 _⟩
set_option maxRecDepth 100000 in
set_option maxHeartbeats 2000000 in
theorem refAdd_far (n months y d : Int) (m : Nat) (hd : IsDate n y m d) (m1 : -200000 ≤ months) (m2 : months ≤ 200000) (h : 12 * y + m - 1 + months < 12 ∨ 120000 ≤ 12 * y + m - 1 + months) (w : World) :
    Calls Try.prog 26 #[.int .i64 n, .int .i64 months] w fun r w' => r = .returned (.tuple #[.int .i64 0, .int .i64 5]) ∧ Below w.heap.size w w' := by
  have hc := fun w => refDate_is hd w
  obtain ⟨⟨y1, y2, k1, k2, e1, e2⟩, -⟩ := hd
  rcases (by omega : 12 * y + m - 1 + months < 12 ∨ (¬ 12 * y + m - 1 + months < 12 ∧ 120000 ≤ 12 * y + m - 1 + months)) with h1 | ⟨h1, h2⟩
  all_goals
    clear h
    go_enter Try.func26, Try.ntmps26
    go_wp2_with fail
    refine (hc _).mono ?_
    rintro e w1 ⟨rfl, hb1⟩
    go_wp2_with fail
    go_ret2
    exact ⟨rfl, bel_alloc hb1 _⟩
set_option maxRecDepth 100000 in
set_option maxHeartbeats 2000000 in
theorem refAdd_near (n months y d Y : Int) (m M : Nat) (hd : IsDate n y m d) (m1 : -200000 ≤ months) (m2 : months ≤ 200000) (h0 : 12 ≤ 12 * y + m - 1 + months) (h1 : 12 * y + m - 1 + months < 120000)
    (hY : (12 * y + m - 1 + months) / 12 = Y) (hM : (12 * y + m - 1 + months) % 12 + 1 = (M : Int)) (w : World) :
    Calls Try.prog 26 #[.int .i64 n, .int .i64 months] w fun r w' => r = .returned (.tuple #[.int .i64 (Civ.num Y M (min d (Civ.dim Y M))), .int .i64 0]) ∧ ∃ w1, Below w.heap.size w w1 ∧ ∃ k, w' = w1.drewN k := by
  have hc := fun w => refDate_is hd w
  obtain ⟨⟨y1, y2, k1, k2, e1, e2⟩, -⟩ := hd
  have hI := quiet_days Y d M (by omega) (by omega) (by omega) (by omega) e1
  have hday := fun w => refDay_good Y (min d (Civ.dim Y M)) M w hI
  have hlen := fun w => refLength_any Y M w (by omega) (by omega) (by omega) (by omega)
  generalize Civ.num Y M (min d (Civ.dim Y M)) = p at *
  generalize Civ.dim Y M = L at *
  clear hI
  by_cases hdl : d ≤ L
  · rw [show min d L = d by omega] at hday
    go_enter Try.func26, Try.ntmps26
    go_wp2_with fail
    refine (hc _).mono ?_
    rintro e w1 ⟨rfl, hb1⟩
    go_wp2_with fail
    go_quiet ((first | (go_at_call 21; exact quiet_l (hlen _)) | (go_at_call 17; exact quiet_l (hday _))))
    go_wp2_with fail
    go_ret2
    exact ⟨rfl, _, bel_alloc hb1 _, _, rfl⟩
  · rw [show min d L = L by omega] at hday
    have hdl2 : L ≤ d := by omega
    go_enter Try.func26, Try.ntmps26
    go_wp2_with fail
    refine (hc _).mono ?_
    rintro e w1 ⟨rfl, hb1⟩
    go_wp2_with fail
    go_quiet ((first | (go_at_call 21; exact quiet_l (hlen _)) | (go_at_call 17; exact quiet_l (hday _))))
    go_wp2_with fail
    go_ret2
    exact ⟨rfl, _, bel_alloc hb1 _, _, rfl⟩
def AddR (n months p e : Int) : Prop := (∀ w, Calls Try.prog 25 #[.int .i64 n, .int .i64 months] w fun r w' => r = .returned (.tuple #[.int .i64 p, .int .i64 e]) ∧ Below w.heap.size w w') ∧
  (∀ w, Calls Try.prog 26 #[.int .i64 n, .int .i64 months] w fun r w' => r = .returned (.tuple #[.int .i64 p, .int .i64 e]) ∧ Below w.heap.size w w')
theorem both_add (n months : Int) : ∃ p e : Int, AddR n months p e := by
  by_cases h : 0 ≤ n ∧ n ≤ 3652058 ∧ -200000 ≤ months ∧ months ≤ 200000
  · obtain ⟨h0, h1, m1, m2⟩ := h
    obtain ⟨y, m, d, hd⟩ := exists_date n h0 h1
    have hm := hd.1.2.2.1
    by_cases hf : 12 * (y - 1) + m - 1 + months < 0 ∨ 119988 ≤ 12 * (y - 1) + m - 1 + months
    · exact ⟨0, 5, fun w => add_far n months y d m hd m1 m2 hf w, fun w => refAdd_far n months y d m hd m1 m2 (by omega) w⟩
    · obtain ⟨M, hM⟩ : ∃ M : Nat, (12 * (y - 1) + m - 1 + months) % 12 + 1 = (M : Int) := ⟨((12 * (y - 1) + m - 1 + months) % 12 + 1).toNat, by omega⟩
      refine ⟨Civ.num ((12 * (y - 1) + m - 1 + months) / 12 + 1) M (min d (Civ.dim ((12 * (y - 1) + m - 1 + months) / 12 + 1) M)), 0, ?_⟩
      refine And.intro (fun w => ?_) (fun w => ?_)
      · exact (add_near n months y d _ m M hd m1 m2 (by omega) (by omega) rfl hM w).mono fun r w' ⟨hr, w1, hb, k, hk⟩ => ⟨hr, hk ▸ bel_drewN hb k⟩
      · exact (refAdd_near n months y d _ m M hd m1 m2 (by omega) (by omega) (by omega) (by omega) w).mono fun r w' ⟨hr, w1, hb, k, hk⟩ => ⟨hr, hk ▸ bel_drewN hb k⟩
  · exact ⟨0, 5, fun w => add_out n months w (by omega), fun w => refAdd_out n months w (by omega)⟩
set_option maxRecDepth 100000 in
set_option maxHeartbeats 2000000 in
theorem adds_walk (n months : Int) (w : World) (_ : -9223372036854775808 ≤ n ∧ n ≤ 9223372036854775807) (_ : -9223372036854775808 ≤ months ∧ months ≤ 9223372036854775807) :
    Calls Try.prog 4 #[.int .i64 n, .int .i64 months] w fun e w' => e = .returned (.bool true) ∧ Below w.heap.size w w' := by
  obtain ⟨p, e, hp, hp'⟩ := both_add n months
  go_enter Try.func4, Try.ntmps4
  go_wp2_with fail
  refine (hp _).mono ?_
  rintro e w1 ⟨rfl, hb1⟩
  go_wp2_with fail
  refine (hp' _).mono ?_
  rintro e w2 ⟨rfl, hb2⟩
  go_wp2_with fail
  refine (civ_awake _).mono ?_
  rintro e w3 ⟨rfl, hb3⟩
  go_wp2_with fail
  go_ret
  exact ⟨rfl, bel_call (bel_call hb1 hb2) hb3⟩
end Go.Proofs.Ytdjkdfgifajilaa
