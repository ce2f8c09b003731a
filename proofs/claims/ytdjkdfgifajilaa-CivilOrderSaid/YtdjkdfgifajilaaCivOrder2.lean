/- The walk of 'apportionlaw03.CivilOrder', of any two numbers. -/
import Derived.Test.YtdjkdfgifajilaaCivOrderWalk
namespace Go.Proofs.Ytdjkdfgifajilaa
open Go.RowKit

set_option maxRecDepth 100000 in
set_option maxHeartbeats 4000000 in
theorem order_walk (a b : Int) (w : World) (_ : -9223372036854775808 ≤ a ∧ a ≤ 9223372036854775807) (_ : -9223372036854775808 ≤ b ∧ b ≤ 9223372036854775807) :
    Calls Try.prog 9 #[.int .i64 a, .int .i64 b] w fun e w' => e = .returned (.bool true) ∧ Below w.heap.size w w' := by
  by_cases h : (0 ≤ a ∧ a ≤ 3652058) ∧ (0 ≤ b ∧ b ≤ 3652058)
  · obtain ⟨y, m, d, h1⟩ := exists_date a h.1.1 h.1.2
    obtain ⟨y', m', d', h2⟩ := exists_date b h.2.1 h.2.2
    exact order_main a b y d y' d' m m' w h1 h2
  · rcases (by omega : a < 0 ∨ (¬ a < 0 ∧ b < 0) ∨ (¬ a < 0 ∧ ¬ b < 0 ∧ 3652058 < a) ∨ (¬ a < 0 ∧ ¬ b < 0 ∧ ¬ 3652058 < a ∧ 3652058 < b)) with h1 | ⟨h1, h2⟩ | ⟨h1, h2, h3⟩ | ⟨h1, h2, h3, h4⟩
    all_goals
      clear h
      go_enter Try.func9, Try.ntmps9
      go_wp2_with fail
      refine (known_walk _).mono ?_
      rintro e w1 ⟨rfl, hb1⟩
      go_wp2_with fail
      go_ret
      exact ⟨rfl, hb1⟩
end Go.Proofs.Ytdjkdfgifajilaa
