/- The walk of 'apportionlaw03.CivilTexts'. -/
import Derived.Test.YtdjkdfgifajilaaCivRefText
import Derived.Test.YtdjkdfgifajilaaCivRefParse
namespace Go.Proofs.Ytdjkdfgifajilaa
open Go.RowKit

theorem both_text (n : Int) : ∃ (T : ByteArray) (E : Int), (∀ w, Calls Try.prog 27 #[.int .i64 n] w fun r w' => r = .returned (.tuple #[.string T, .int .i64 E]) ∧ Below w.heap.size w w') ∧
      (∀ w, Calls Try.prog 28 #[.int .i64 n] w fun r w' => r = .returned (.tuple #[.string T, .int .i64 E]) ∧ Below w.heap.size w w') := by
  by_cases h : 0 ≤ n ∧ n ≤ 3652058
  · obtain ⟨y, m, d, hd⟩ := exists_date n h.1 h.2
    obtain ⟨yn, rfl⟩ := Int.eq_ofNat_of_zero_le (show 0 ≤ y by have := hd.1.1; omega)
    obtain ⟨dn, rfl⟩ := Int.eq_ofNat_of_zero_le (show 0 ≤ d by have := hd.1.2.2.2.2.1; omega)
    exact ⟨_, 0, fun w => text_is hd w, fun w => refText_is hd w⟩
  · exact ⟨_, 5, fun w => text_not h w, fun w => refText_not h w⟩
set_option maxRecDepth 100000 in
set_option maxHeartbeats 4000000 in
theorem texts_walk (n : Int) (s : ByteArray) (w : World) (_ : -9223372036854775808 ≤ n ∧ n ≤ 9223372036854775807) (hs : s.size ≤ 9223372036854775807) :
    Calls Try.prog 6 #[.int .i64 n, .string s] w fun e w' => e = .returned (.bool true) ∧ Below w.heap.size w w' := by
  by_cases hl : 100 < s.size
  · go_enter Try.func6, Try.ntmps6
    go_wp2_with fail
    refine (civ_awake _).mono ?_
    rintro e w1 ⟨rfl, hb1⟩
    go_wp2_with fail
    go_ret
    exact ⟨rfl, hb1⟩
  · obtain ⟨T, E, ht, ht'⟩ := both_text n
    have hp := fun w => parse_any s w hs
    have hp' := fun w => refParse_any s w hs
    generalize Civ.parseF (nums s) = r at *
    obtain ⟨D, F, P⟩ := r
    simp only [parseV] at hp hp'
    go_enter Try.func6, Try.ntmps6
    go_wp2_with fail
    refine (ht _).mono ?_
    rintro e w1 ⟨rfl, hb1⟩
    go_wp2_with fail
    refine (ht' _).mono ?_
    rintro e w2 ⟨rfl, hb2⟩
    go_wp2_with fail
    refine (hp _).mono ?_
    rintro e w3 ⟨rfl, hb3⟩
    go_wp2_with fail
    refine (hp' _).mono ?_
    rintro e w4 ⟨rfl, hb4⟩
    obtain ⟨bk, z1⟩ := new_block (cs := [_, _]) hb4
    have c0 := bk.cell 0
    have c1 := bk.cell 1
    simp only [List.getElem?_cons_zero, List.getElem?_cons_succ] at c0 c1
    go_wp2_with fail
    refine (civ_awake _).mono ?_
    rintro e w5 ⟨rfl, hb5⟩
    go_wp2_with fail
    go_ret
    exact ⟨rfl, bel_call (bel_alloc (bel_call (bel_alloc (bel_call (bel_call hb1 hb2) hb3) _) hb4) _) hb5⟩
end Go.Proofs.Ytdjkdfgifajilaa
