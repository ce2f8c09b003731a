/- The walks of the document's letter, digit, joins, sound, word, Upper, kind. -/
import Derived.Test.YtkdgomalhngagaaDoorTkWithin
import Derived.Test.YtkdgomalhngagaaDoorTokPlain2
namespace Go.Proofs.YtkdgomalhngagaaDoor
open Go.RowKit Go.Lib

set_option maxRecDepth 100000 in
theorem letter_is (c : Int) (w : World) : Calls Tryd.prog 47 #[.int .u8 c] w fun e w' => e = .returned (.bool (decide (Tok.isL c))) ∧ w = w' := by
  rcases (by omega : c < 65 ∨ (65 ≤ c ∧ c ≤ 90) ∨ (65 ≤ c ∧ 90 < c ∧ c < 97) ∨ (65 ≤ c ∧ 90 < c ∧ 97 ≤ c ∧ c ≤ 122) ∨ (65 ≤ c ∧ 90 < c ∧ 97 ≤ c ∧ 122 < c)) with h | ⟨h1, h2⟩ | ⟨h1, h2, h3⟩ | ⟨h1, h2, h3, h4⟩ | ⟨h1, h2, h3, h4⟩
  · rw [decide_eq_false (by unfold Tok.isL; omega)]
    have t1 : decide (c ≥ 65) = false := decide_eq_false (by omega)
    have t3 : decide (c ≥ 97) = false := decide_eq_false (by omega)
    go_enter Tryd.func47, Tryd.ntmps47
    go_wp2_with fail
    go_ret
    exact ⟨rfl, rfl⟩
  · rw [decide_eq_true (by unfold Tok.isL; omega)]
    have t1 : decide (c ≥ 65) = true := decide_eq_true (by omega)
    have t2 : decide (c ≤ 90) = true := decide_eq_true (by omega)
    go_enter Tryd.func47, Tryd.ntmps47
    go_wp2_with fail
    go_ret
    exact ⟨rfl, rfl⟩
  · rw [decide_eq_false (by unfold Tok.isL; omega)]
    have t1 : decide (c ≥ 65) = true := decide_eq_true (by omega)
    have t2 : decide (c ≤ 90) = false := decide_eq_false (by omega)
    have t3 : decide (c ≥ 97) = false := decide_eq_false (by omega)
    go_enter Tryd.func47, Tryd.ntmps47
    go_wp2_with fail
    go_ret
    exact ⟨rfl, rfl⟩
  · rw [decide_eq_true (by unfold Tok.isL; omega)]
    have t1 : decide (c ≥ 65) = true := decide_eq_true (by omega)
    have t2 : decide (c ≤ 90) = false := decide_eq_false (by omega)
    have t3 : decide (c ≥ 97) = true := decide_eq_true (by omega)
    have t4 : decide (c ≤ 122) = true := decide_eq_true (by omega)
    go_enter Tryd.func47, Tryd.ntmps47
    go_wp2_with fail
    go_ret
    exact ⟨rfl, rfl⟩
  · rw [decide_eq_false (by unfold Tok.isL; omega)]
    have t1 : decide (c ≥ 65) = true := decide_eq_true (by omega)
    have t2 : decide (c ≤ 90) = false := decide_eq_false (by omega)
    have t3 : decide (c ≥ 97) = true := decide_eq_true (by omega)
    have t4 : decide (c ≤ 122) = false := decide_eq_false (by omega)
    go_enter Tryd.func47, Tryd.ntmps47
    go_wp2_with fail
    go_ret
    exact ⟨rfl, rfl⟩
set_option maxRecDepth 100000 in
theorem rdigit_is (c : Int) (w : World) : Calls Tryd.prog 48 #[.int .u8 c] w fun e w' => e = .returned (.bool (decide (Tok.isD c))) ∧ w = w' := by
  rcases (by omega : c < 48 ∨ (48 ≤ c ∧ c ≤ 57) ∨ (48 ≤ c ∧ 57 < c)) with h | ⟨h1, h2⟩ | ⟨h1, h2⟩
  · rw [decide_eq_false (by unfold Tok.isD; omega)]
    have t1 : decide (c ≥ 48) = false := decide_eq_false (by omega)
    go_enter Tryd.func48, Tryd.ntmps48
    go_wp2_with fail
    go_ret
    exact ⟨rfl, rfl⟩
  · rw [decide_eq_true (by unfold Tok.isD; omega)]
    have t1 : decide (c ≥ 48) = true := decide_eq_true (by omega)
    have t2 : decide (c ≤ 57) = true := decide_eq_true (by omega)
    go_enter Tryd.func48, Tryd.ntmps48
    go_wp2_with fail
    go_ret
    exact ⟨rfl, rfl⟩
  · rw [decide_eq_false (by unfold Tok.isD; omega)]
    have t1 : decide (c ≥ 48) = true := decide_eq_true (by omega)
    have t2 : decide (c ≤ 57) = false := decide_eq_false (by omega)
    go_enter Tryd.func48, Tryd.ntmps48
    go_wp2_with fail
    go_ret
    exact ⟨rfl, rfl⟩
set_option maxRecDepth 100000 in
theorem joins_is (c : Int) (w : World) : Calls Tryd.prog 46 #[.int .u8 c] w fun e w' => e = .returned (.bool (decide (Tok.isJ c))) ∧ w = w' := by
  rcases (by omega : c = 45 ∨ (c ≠ 45 ∧ c = 47) ∨ (c ≠ 45 ∧ c ≠ 47 ∧ c = 39) ∨ (c ≠ 45 ∧ c ≠ 47 ∧ c ≠ 39 ∧ c = 46) ∨ (c ≠ 45 ∧ c ≠ 47 ∧ c ≠ 39 ∧ c ≠ 46)) with rfl | ⟨-, rfl⟩ | ⟨-, -, rfl⟩ | ⟨-, -, -, rfl⟩ | ⟨h1, h2, h3, h4⟩
  · rw [decide_eq_true (by decide)]
    go_enter Tryd.func46, Tryd.ntmps46
    go_wp2_with fail
    go_ret
    exact ⟨rfl, rfl⟩
  · rw [decide_eq_true (by decide)]
    go_enter Tryd.func46, Tryd.ntmps46
    go_wp2_with fail
    go_ret
    exact ⟨rfl, rfl⟩
  · rw [decide_eq_true (by decide)]
    go_enter Tryd.func46, Tryd.ntmps46
    go_wp2_with fail
    go_ret
    exact ⟨rfl, rfl⟩
  · rw [decide_eq_true (by decide)]
    go_enter Tryd.func46, Tryd.ntmps46
    go_wp2_with fail
    go_ret
    exact ⟨rfl, rfl⟩
  · rw [decide_eq_false (by unfold Tok.isJ; omega)]
    have t1 : (c == 45) = false := by simpa using h1
    have t2 : (c == 47) = false := by simpa using h2
    have t3 : (c == 39) = false := by simpa using h3
    have t4 : (c == 46) = false := by simpa using h4
    clear h1 h2 h3 h4
    go_enter Tryd.func46, Tryd.ntmps46
    go_wp2_with fail
    go_ret
    exact ⟨rfl, rfl⟩
set_option maxRecDepth 100000 in
theorem rsound_is (c : Int) (w : World) : Calls Tryd.prog 45 #[.int .u8 c] w fun e w' => e = .returned (.bool (decide (Tok.snd c))) ∧ w = w' := by
  have h1 := fun w => letter_is c w
  have h2 := fun w => rdigit_is c w
  by_cases hL : Tok.isL c
  · rw [decide_eq_true (show Tok.snd c from .inl hL)]
    rw [decide_eq_true hL] at h1
    clear hL
    go_enter Tryd.func45, Tryd.ntmps45
    go_wp2_with fail
    refine (h1 _).mono ?_
    rintro e w1 ⟨rfl, rfl⟩
    go_wp2_with fail
    go_ret
    exact ⟨rfl, rfl⟩
  · have e : decide (Tok.snd c) = decide (Tok.isD c) := by
      rw [Bool.eq_iff_iff]; simp only [decide_eq_true_eq]
      exact ⟨fun h => h.resolve_left hL, .inr⟩
    rw [e]
    rw [decide_eq_false hL] at h1
    generalize decide (Tok.isD c) = b at *
    clear hL e
    go_enter Tryd.func45, Tryd.ntmps45
    go_wp2_with fail
    refine (h1 _).mono ?_
    rintro e w1 ⟨rfl, rfl⟩
    go_wp2_with fail
    refine (h2 _).mono ?_
    rintro e w1 ⟨rfl, rfl⟩
    go_wp2_with fail
    go_ret
    exact ⟨rfl, rfl⟩
theorem j_not {c : Int} (h : Tok.isJ c) : ¬ Tok.snd c := by unfold Tok.isJ at h; unfold Tok.snd Tok.isL Tok.isD; omega
theorem goes_zero {s : ByteArray} (hx : ¬ Tok.snd (cAt s 0)) : ¬ goesOn s 0 := by
  rintro (h | ⟨h1, h2, -⟩)
  · exact hx h
  · exact hx h2
set_option maxRecDepth 100000 in
set_option maxHeartbeats 2000000 in
theorem word_is (s : ByteArray) (hs : s.size ≤ 1000000) (i : Nat) (hi : i < s.size) (w : World) : Calls Tryd.prog 37 #[.string s, .int .i64 (i : Int)] w fun e w' => e = .returned (.bool (decide (goesOn s i))) ∧ w = w' := by
  have hS := fun w => rsound_is (cAt s i) w
  have hJ := fun w => joins_is (cAt s i) w
  have gi := cAt_get s i hi
  rw [gi] at hS hJ
  by_cases hx : Tok.snd (cAt s i)
  · rw [decide_eq_true (show goesOn s i from .inl hx)]
    rw [gi] at hx
    rw [decide_eq_true hx] at hS
    clear hx gi
    go_enter Tryd.func37, Tryd.ntmps37
    go_wp2_with fail
    refine (hS _).mono ?_
    rintro e w1 ⟨rfl, rfl⟩
    go_wp2_with fail
    go_ret
    exact ⟨rfl, rfl⟩
  · by_cases hj : Tok.isJ (cAt s i)
    · rcases Nat.eq_zero_or_pos i with h0 | h0
      · subst h0
        rw [decide_eq_false (goes_zero hx)]
        rw [gi] at hx hj
        rw [decide_eq_false hx] at hS
        rw [decide_eq_true hj] at hJ
        clear hx hj gi
        go_enter Tryd.func37, Tryd.ntmps37
        go_wp2_with fail
        refine (hS _).mono ?_
        rintro e w1 ⟨rfl, rfl⟩
        go_wp2_with fail
        refine (hJ _).mono ?_
        rintro e w1 ⟨rfl, rfl⟩
        go_wp2_with fail
        go_ret
        exact ⟨rfl, rfl⟩
      · have t0 : decide ((i : Int) > 0) = true := decide_eq_true (by omega)
        rcases Nat.lt_or_ge (i + 1) s.size with h1 | h1
        · have t1 : decide ((i : Int) + 1 < (s.size : Int)) = true := decide_eq_true (by omega)
          have gm := cAt_get s (i - 1) (by omega)
          have gp := cAt_get s (i + 1) h1
          have hM := fun w => rsound_is (cAt s (i - 1)) w
          have hP := fun w => rsound_is (cAt s (i + 1)) w
          rw [gm] at hM
          rw [gp] at hP
          obtain ⟨j, rfl⟩ : ∃ j, i = j + 1 := ⟨i - 1, by omega⟩
          simp only [Nat.add_sub_cancel] at hM gm
          by_cases hm : Tok.snd (cAt s j)
          · have e : decide (goesOn s (j + 1)) = decide (Tok.snd (cAt s (j + 1 + 1))) := by
              rw [Bool.eq_iff_iff]; simp only [decide_eq_true_eq]
              exact ⟨fun h => (h.resolve_left hx).2.2, fun h => .inr ⟨hj, hm, h⟩⟩
            rw [e]
            rw [gi] at hx hj
            rw [gm] at hm
            rw [gp]
            rw [decide_eq_false hx] at hS
            rw [decide_eq_true hj] at hJ
            rw [decide_eq_true hm] at hM
            generalize decide (Tok.snd (s[j + 1 + 1].toNat : Int)) = b at *
            clear hx hj hm gi gm gp e
            go_enter Tryd.func37, Tryd.ntmps37
            go_wp2_with fail
            refine (hS _).mono ?_
            rintro e w1 ⟨rfl, rfl⟩
            go_wp2_with fail
            refine (hJ _).mono ?_
            rintro e w1 ⟨rfl, rfl⟩
            go_wp2_with fail
            refine (hM _).mono ?_
            rintro e w1 ⟨rfl, rfl⟩
            go_wp2_with fail
            refine (hP _).mono ?_
            rintro e w1 ⟨rfl, rfl⟩
            go_wp2_with fail
            go_ret
            exact ⟨rfl, rfl⟩
          · have e : ¬ goesOn s (j + 1) := fun h => hm (h.resolve_left hx).2.1
            rw [decide_eq_false e]
            rw [gi] at hx hj
            rw [gm] at hm
            rw [decide_eq_false hx] at hS
            rw [decide_eq_true hj] at hJ
            rw [decide_eq_false hm] at hM
            clear hx hj hm gi gm gp e
            go_enter Tryd.func37, Tryd.ntmps37
            go_wp2_with fail
            refine (hS _).mono ?_
            rintro e w1 ⟨rfl, rfl⟩
            go_wp2_with fail
            refine (hJ _).mono ?_
            rintro e w1 ⟨rfl, rfl⟩
            go_wp2_with fail
            refine (hM _).mono ?_
            rintro e w1 ⟨rfl, rfl⟩
            go_wp2_with fail
            go_ret
            exact ⟨rfl, rfl⟩
        · have t1 : decide ((i : Int) + 1 < (s.size : Int)) = false := decide_eq_false (by omega)
          have e : ¬ goesOn s i := fun h => by
            have h2 := (h.resolve_left hx).2.2
            rw [cAt_out s (i + 1) h1] at h2
            exact absurd h2 (by decide)
          rw [decide_eq_false e]
          rw [gi] at hx hj
          rw [decide_eq_false hx] at hS
          rw [decide_eq_true hj] at hJ
          clear hx hj gi e
          go_enter Tryd.func37, Tryd.ntmps37
          go_wp2_with fail
          refine (hS _).mono ?_
          rintro e w1 ⟨rfl, rfl⟩
          go_wp2_with fail
          refine (hJ _).mono ?_
          rintro e w1 ⟨rfl, rfl⟩
          go_wp2_with fail
          go_ret
          exact ⟨rfl, rfl⟩
    · have e : ¬ goesOn s i := fun h => hj (h.resolve_left hx).1
      rw [decide_eq_false e]
      rw [gi] at hx hj
      rw [decide_eq_false hx] at hS
      rw [decide_eq_false hj] at hJ
      clear hx hj gi e
      go_enter Tryd.func37, Tryd.ntmps37
      go_wp2_with fail
      refine (hS _).mono ?_
      rintro e w1 ⟨rfl, rfl⟩
      go_wp2_with fail
      refine (hJ _).mono ?_
      rintro e w1 ⟨rfl, rfl⟩
      go_wp2_with fail
      go_ret
      exact ⟨rfl, rfl⟩
end Go.Proofs.YtkdgomalhngagaaDoor
