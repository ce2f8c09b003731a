/- The walk of 'apportionlaw03.CivilBack'. -/
import Derived.Test.YtdjkdfgifajilaaCivBackFacts
namespace Go.Proofs.Ytdjkdfgifajilaa
open Go.RowKit

set_option maxRecDepth 100000 in
set_option maxHeartbeats 16000000 in
theorem back_walk (a b : Int) (s : ByteArray) (w : World) (_ : -9223372036854775808 ≤ a ∧ a ≤ 9223372036854775807) (_ : -9223372036854775808 ≤ b ∧ b ≤ 9223372036854775807) (hs : s.size ≤ 9223372036854775807) :
    Calls Try.prog 7 #[.int .i64 a, .int .i64 b, .string s] w fun e w' => e = .returned (.bool true) ∧ Below w.heap.size w w' := by
  -- the text that is handed in
  have hp := fun w => parse_any s w hs
  have hback := parse_facts s
  have herr := Civ.parse_err (xs := nums s)
  rw [nums_len] at herr
  generalize Civ.parseF (nums s) = r at *
  obtain ⟨D, F, P⟩ := r
  simp only [parseV] at hp hback herr
  have H : Hid ((F = 0 ∧ ∀ w, Calls Try.prog 27 #[.int .i64 D] w fun r w' => r = .returned (.tuple #[.string s, .int .i64 0]) ∧ Below w.heap.size w w') ∨
      ((F == 0) = false ∧ (F != 0) = true ∧ D = 0 ∧ 0 ≤ P ∧ P ≤ s.size ∧ P ≤ 10)) := by
    by_cases h : F = 0
    · exact .inl ⟨h, hback h⟩
    · obtain ⟨h1, h2, h3, h4⟩ := herr h
      exact .inr ⟨by simpa using h, by simpa using h, h1, h2, h3, h4⟩
  clear hback herr
  have Hb : Hid (∃ (U : ByteArray) (f : Int), (∀ w, Calls Try.prog 27 #[.int .i64 b] w fun r w' => r = .returned (.tuple #[.string U, .int .i64 f]) ∧ Below w.heap.size w w')) := by
    by_cases h : 0 ≤ b ∧ b ≤ 3652058
    · obtain ⟨U, hU, -⟩ := text_facts b h
      exact ⟨U, 0, hU⟩
    · exact ⟨_, 5, fun w => text_not h w⟩
  rcases (by omega : a < 0 ∨ (¬ a < 0 ∧ 3652058 < a) ∨ (0 ≤ a ∧ a ≤ 3652058)) with h1 | ⟨h1, h2⟩ | ⟨h1, h2⟩
  · obtain ⟨U, f, hU⟩ := Hb.out
    have hT := fun w => text_not (n := a) (by omega) w
    clear Hb
    go_enter Try.func7, Try.ntmps7
    go_wp2_with fail
    refine (civ_awake _).mono ?_
    rintro e w1 ⟨rfl, hb1⟩
    go_wp2_with fail
    refine (hT _).mono ?_
    rintro e w2 ⟨rfl, hb2⟩
    go_wp2_with fail
    refine (hU _).mono ?_
    rintro e w3 ⟨rfl, hb3⟩
    have hbel := bel_call (bel_call hb1 hb2) hb3
    clear hT hU

    by_cases hl : 100 < s.size
    · go_wp2_with fail
      go_ret
      exact ⟨rfl, hbel⟩
    · rcases H.out with ⟨rfl, ht⟩ | ⟨f1, f2, rfl, p0, p1, p2⟩
      · go_wp2_with fail
        refine (hp _).mono ?_
        rintro e wp ⟨rfl, hbp⟩
        go_wp2_with fail
        refine (ht _).mono ?_
        rintro e wq ⟨rfl, hbq⟩
        go_wp2_with fail
        go_ret
        exact ⟨rfl, bel_call (bel_alloc (bel_call hbel hbp) _) hbq⟩
      · go_wp2_with fail
        refine (hp _).mono ?_
        rintro e wp ⟨rfl, hbp⟩
        go_wp2_with fail
        all_goals
          go_ret
          exact ⟨rfl, bel_alloc (bel_call hbel hbp) _⟩
  · obtain ⟨U, f, hU⟩ := Hb.out
    have hT := fun w => text_not (n := a) (by omega) w
    clear Hb
    go_enter Try.func7, Try.ntmps7
    go_wp2_with fail
    refine (civ_awake _).mono ?_
    rintro e w1 ⟨rfl, hb1⟩
    go_wp2_with fail
    refine (hT _).mono ?_
    rintro e w2 ⟨rfl, hb2⟩
    go_wp2_with fail
    refine (hU _).mono ?_
    rintro e w3 ⟨rfl, hb3⟩
    have hbel := bel_call (bel_call hb1 hb2) hb3
    clear hT hU
    by_cases hl : 100 < s.size
    · go_wp2_with fail
      go_ret
      exact ⟨rfl, hbel⟩
    · rcases H.out with ⟨rfl, ht⟩ | ⟨f1, f2, rfl, p0, p1, p2⟩
      · go_wp2_with fail
        refine (hp _).mono ?_
        rintro e wp ⟨rfl, hbp⟩
        go_wp2_with fail
        refine (ht _).mono ?_
        rintro e wq ⟨rfl, hbq⟩
        go_wp2_with fail
        go_ret
        exact ⟨rfl, bel_call (bel_alloc (bel_call hbel hbp) _) hbq⟩
      · go_wp2_with fail
        refine (hp _).mono ?_
        rintro e wp ⟨rfl, hbp⟩
        go_wp2_with fail
        all_goals
          go_ret
          exact ⟨rfl, bel_alloc (bel_call hbel hbp) _⟩
  · have K : Hid (∃ (T U : ByteArray) (f : Int), (∀ w, Calls Try.prog 27 #[.int .i64 a] w fun r w' => r = .returned (.tuple #[.string T, .int .i64 0]) ∧ Below w.heap.size w w') ∧
        (∀ w, Calls Try.prog 27 #[.int .i64 b] w fun r w' => r = .returned (.tuple #[.string U, .int .i64 f]) ∧ Below w.heap.size w w') ∧
        Civ.parseF (nums T) = (a, 0, 0) ∧ T.size = 10 ∧ (f = 5 ∨ (f = 0 ∧ ((a < b ∧ Op.bytesLess T.toList U.toList = true) ∨ (¬ a < b ∧ Op.bytesLess T.toList U.toList = false))))) := by
      by_cases h : 0 ≤ b ∧ b ≤ 3652058
      · obtain ⟨T, U, hT, hU, h3, h4, h5⟩ := text_order a b ⟨h1, h2⟩ h
        refine ⟨T, U, 0, hT, hU, h3, h4, .inr ⟨rfl, ?_⟩⟩
        by_cases hab : a < b
        · exact .inl ⟨hab, by simpa [hab] using h5⟩
        · exact .inr ⟨hab, by simpa [hab] using h5⟩
      · obtain ⟨T, hT, h3, h4⟩ := text_facts a ⟨h1, h2⟩
        exact ⟨T, _, 5, hT, fun w => text_not h w, h3, h4, .inl rfl⟩
    clear Hb
    obtain ⟨T, U, f, hT, hU, h3, h4, h5⟩ := K.out
    have hq := fun w => parse_any T w (by rw [h4]; unfold maxLen; omega)
    rw [h3] at hq
    simp only [parseV] at hq
    have Hlt := Lib.hid h5
    clear K h3 h5
    go_enter Try.func7, Try.ntmps7
    go_wp2_with fail
    refine (civ_awake _).mono ?_
    rintro e w1 ⟨rfl, hb1⟩
    go_wp2_with fail
    refine (hT _).mono ?_
    rintro e w2 ⟨rfl, hb2⟩
    go_wp2_with fail
    refine (hU _).mono ?_
    rintro e w3 ⟨rfl, hb3⟩
    have hb4 := bel_call (bel_call hb1 hb2) hb3
    clear hT hU
    go_upto_if 39 with fail
    go_cut [7] (fun ok wx => ok = .bool true ∧ Below w.heap.size w wx)
    case first =>
      rcases Hlt.out with rfl | ⟨rfl, ⟨hab, hlt⟩ | ⟨hab, hlt⟩⟩
      all_goals
        go_wp2_with fail
        refine (hq _).mono ?_
        rintro e w4 ⟨rfl, hb5⟩
        go_wp2_with fail
        go_meet
        exact ⟨rfl, bel_alloc (bel_call hb4 hb5) _⟩
    case rest =>
      obtain ⟨rfl, hbel⟩ := hcut
      clear hq h4 Hlt
      by_cases hl : 100 < s.size
      · go_wp2_with fail
        go_ret
        exact ⟨rfl, hbel⟩
      · rcases H.out with ⟨rfl, ht⟩ | ⟨f1, f2, rfl, p0, p1, p2⟩
        · go_wp2_with fail
          refine (hp _).mono ?_
          rintro e wp ⟨rfl, hbp⟩
          go_wp2_with fail
          refine (ht _).mono ?_
          rintro e wq ⟨rfl, hbq⟩
          go_wp2_with fail
          go_ret
          exact ⟨rfl, bel_call (bel_alloc (bel_call hbel hbp) _) hbq⟩
        · go_wp2_with fail
          refine (hp _).mono ?_
          rintro e wp ⟨rfl, hbp⟩
          go_wp2_with fail
          all_goals
            go_ret
            exact ⟨rfl, bel_alloc (bel_call hbel hbp) _⟩
end Go.Proofs.Ytdjkdfgifajilaa
