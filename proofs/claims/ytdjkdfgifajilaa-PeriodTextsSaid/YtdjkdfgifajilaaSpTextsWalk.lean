/- The walk of the statement 'PeriodTexts'. -/
import Derived.Test.YtdjkdfgifajilaaSpAwake
import Derived.Test.YtdjkdfgifajilaaSpRefText
import Derived.Test.YtdjkdfgifajilaaSpRefParse
import Derived.Test.YtdjkdfgifajilaaSpBackFacts
namespace Go.Proofs.Ytdjkdfgifajilaa
open Go.RowKit Go.Lib

theorem both_ptext (k p : Int) (h0 : -9223372036854775808 ≤ k) (h1 : k ≤ 9223372036854775807) : ∃ (T : ByteArray) (x : Int), (∀ w : World, Calls Try.prog 33 #[.int .i64 k, .int .i64 p] w fun r w' => r = .returned (.tuple #[.string T, .int .i64 x]) ∧ Below w.heap.size w w') ∧
    (∀ w : World, Calls Try.prog 34 #[.int .i64 k, .int .i64 p] w fun r w' => r = .returned (.tuple #[.string T, .int .i64 x]) ∧ Below w.heap.size w w') := by
  rcases kind_or k with ⟨n, h⟩ | h
  · by_cases hp : 0 ≤ p ∧ p * n < 119988
    · have hq : 0 ≤ p * n / 12 + 1 ∧ 0 ≤ p * n % 12 / n + 1 := by rcases h with ⟨rfl, rfl⟩ | ⟨rfl, rfl⟩ | ⟨rfl, rfl⟩ | ⟨rfl, rfl⟩ <;> omega
      obtain ⟨y, hy⟩ := Int.eq_ofNat_of_zero_le hq.1
      obtain ⟨a, ha⟩ := Int.eq_ofNat_of_zero_le hq.2
      exact ⟨_, _, fun w => ptext_is h hp.1 hp.2 hy ha w, fun w => rtext_is h hp.1 hp.2 hy ha w⟩
    · have hp : p < 0 ∨ 119988 ≤ p * n := by omega
      exact ⟨_, _, fun w => ptext_out h hp w, fun w => rtext_out h hp w⟩
  · exact ⟨_, _, fun w => ptext_not h h0 h1 p w, fun w => rtext_not h p w⟩
set_option maxRecDepth 100000 in
set_option maxHeartbeats 4000000 in
theorem ptexts_walk (k n : Int) (s : ByteArray) (w : World) (hk : -9223372036854775808 ≤ k ∧ k ≤ 9223372036854775807) (_ : -9223372036854775808 ≤ n ∧ n ≤ 9223372036854775807) (hs : s.size ≤ 9223372036854775807) :
    Calls Try.prog 10 #[.int .i64 k, .int .i64 n, .string s] w fun e w' => e = .returned (.bool true) ∧ Below w.heap.size w w' := by
  by_cases hl : 100 < s.size
  · go_enter Try.func10, Try.ntmps10
    go_wp2_with fail
    refine (per_awake _).mono ?_
    rintro e w1 ⟨rfl, hb1⟩
    go_wp2_with fail
    go_ret
    exact ⟨rfl, hb1⟩
  · obtain ⟨T, E, ht, ht'⟩ := both_ptext k n hk.1 hk.2
    go_enter Try.func10, Try.ntmps10
    go_wp2_with fail
    refine (ht _).mono ?_
    rintro e w1 ⟨rfl, hb1⟩
    go_wp2_with fail
    refine (ht' _).mono ?_
    rintro e w2 ⟨rfl, hb2⟩
    go_wp2_with fail
    refine (pparse_any s hs _).mono ?_
    rintro e w3 ⟨k', n', x', p', hr, rfl, hb3⟩
    have hp' := fun w => rparse_any s hs hr w
    clear hr
    unfold RParseR at hp'
    unfold pV at hp' ⊢
    go_wp2_with fail
    refine (hp' _).mono ?_
    rintro e w4 ⟨rfl, hb4⟩
    obtain ⟨bk, z1⟩ := new_block (cs := [_, _]) hb4
    have c0 := bk.cell 0
    have c1 := bk.cell 1
    simp only [List.getElem?_cons_zero, List.getElem?_cons_succ] at c0 c1
    go_wp2_with fail
    refine (per_awake _).mono ?_
    rintro e w5 ⟨rfl, hb5⟩
    go_wp2_with fail
    go_ret
    exact ⟨rfl, bel_call (bel_alloc (bel_call (bel_alloc (bel_call (bel_call hb1 hb2) hb3) _) hb4) _) hb5⟩
end Go.Proofs.Ytdjkdfgifajilaa
