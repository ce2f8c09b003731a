/- The walk of the statement 'DatedSpans'. -/
import Derived.Test.YtoedhcenmbpeeaaDatBetween
namespace Go.Proofs.Ytoedhcenmbpeeaa
open Go.RowKit

set_option maxRecDepth 100000 in
set_option maxHeartbeats 8000000 in
theorem dspans_walk (A : Option Addr) (n c : Nat) (l : List (Int × Int)) (f t day : Int) (w : World) (ha : Shows w w.heap.size 2 A n (DC l)) (hx : Fits l) (hnc : n ≤ c) (_ : c ≤ maxLen) (_ : -9223372036854775808 ≤ f ∧ f ≤ 9223372036854775807) (_ : -9223372036854775808 ≤ t ∧ t ≤ 9223372036854775807) (_ : -9223372036854775808 ≤ day ∧ day ≤ 9223372036854775807) :
    Calls Try.prog 5 #[.slice A n c, .int .i64 f, .int .i64 t, .int .i64 day] w fun e w' => e = .returned (.bool true) ∧ Below w.heap.size w w' := by
  have hB : w.heap.size ≤ w.heap.size := Nat.le_refl _
  have hl := ha.num
  by_cases h60 : 60 < n
  · clear hl
    go_enter Try.func5, Try.ntmps5
    go_wp2_with fail
    refine (awake_true _).mono ?_
    rintro e w1 ⟨rfl, hb1⟩
    go_wp2_with fail
    go_ret
    exact ⟨rfl, hb1⟩
  have hc := fun (w' : World) (h : Shows w' w.heap.size 2 A n (DC l)) (h' : w.heap.size ≤ w'.heap.size) => check_any A n c l w.heap.size w' h h' (by unfold maxLen; omega) hx
  by_cases h0 : Dat.chk l = 0
  · rw [h0] at hc
    by_cases hgood : 0 ≤ f ∧ f ≤ t ∧ t ≤ 3652058 ∧ f ≤ day ∧ day ≤ t
    · have hok := (Dat.chk_ok l).1 h0
      have hvf : Dat.Valid f := ⟨by omega, by omega⟩
      have hvt : Dat.Valid t := ⟨by omega, by omega⟩
      have hs := fun (w' : World) (h : Shows w' w.heap.size 2 A n (DC l)) (h' : w.heap.size ≤ w'.heap.size) => between_any A n c l f t w.heap.size w' h h' (by unfold maxLen; omega) hx hnc
      have ht := fun (w' : World) (h : Shows w' w.heap.size 2 A n (DC l)) (h' : w.heap.size ≤ w'.heap.size) => at_any A n c l day w.heap.size w' h h' (by unfold maxLen; omega) hx
      have k1 := Dat.betF_le l f t
      have k2 := Dat.bet_ok (t := t) hok hvf (by omega)
      have k3 := Dat.at_bet (day := day) hok hvf hvt (by omega) (by omega) (by omega)
      have k5 := Dat.bet_within (l := l) (f := f) (t := t) (by omega)
      have k6 : ∀ (i : Nat) (x y : Int × Int), (Dat.betF l f t)[i]? = some y → (Dat.betF l f t)[i + 1]? = some x → x.2 ≠ y.2 := fun i x y => Dat.bet_adj
      generalize Dat.betF l f t = s at hs k1 k2 k3 k5 k6
      rw [← k3] at ht
      have k4 := (Dat.chk_ok s).2 k2
      have k7 : Fits s := fun x hx => by have := k2.2.1 x hx; unfold Dat.Valid at this; omega
      have ht2 := fun A' c' B w' h h' => at_any A' s.length c' s day B w' h h' (by unfold maxLen; omega) k7
      have hc2 := fun A' c' B w' h h' => check_any A' s.length c' s B w' h h' (by unfold maxLen; omega) k7
      rw [k4] at hc2
      obtain ⟨v, b, hvb⟩ : ∃ v b, Dat.atF s day = (v, b) := ⟨_, _, rfl⟩
      rw [hvb] at ht ht2
      obtain ⟨k, hk⟩ : ∃ k, s.length = k := ⟨_, rfl⟩
      rw [hk] at hs ht2 hc2 k1
      have Hk := Lib.hid hk
      have K6 := Lib.hid k6
      have K5 := Lib.hid k5
      obtain ⟨g1, g2, g3, g4, g5⟩ := hgood
      have k61 : k ≤ 61 := by omega
      clear hl hk hvb k1 k2 k3 k4 k5 k6 k7 hok h0 hvf hvt
      go_enter Try.func5, Try.ntmps5
      go_wp2_with fail
      refine (awake_true _).mono ?_
      rintro e w1 ⟨rfl, hb1⟩
      have bel1 := hb1
      go_wp2_with fail
      refine (hc _ (ha.call bel1 hB) bel1.size).mono ?_
      rintro e w2 ⟨rfl, hb2⟩
      have bel2 := bel_call bel1 hb2
      go_wp2_with fail
      refine (hs _ (ha.call bel2 hB) bel2.size).mono ?_
      rintro e w3 ⟨A3, c3, rfl, ho3, hb3⟩
      have bel3 := bel_call bel2 hb3
      have s3 := Shows.of_own ho3
      go_wp2_with fail
      refine (ht _ (ha.call bel3 hB) bel3.size).mono ?_
      rintro e w4 ⟨rfl, hb4⟩
      have bel4 := bel_call bel3 hb4
      have s4 := s3.call hb4 (Nat.le_refl _)
      go_wp2_with fail
      refine (ht2 _ _ _ _ s4 hb4.size).mono ?_
      rintro e w5 ⟨rfl, hb5⟩
      have bel5 := bel_call bel4 hb5
      have s5 := s4.call hb5 hb4.size
      have z5 := Nat.le_trans hb4.size hb5.size
      clear hc hs ht ht2
      go_wp2_with fail
      go_loopw [15] (fun i wr => ∃ j : Nat, i = .int .i64 (j : Int) ∧ j ≤ k ∧ ∃ m, wr = w5.drewN m) (fun i _ => k - (intOf i).toNat)
      case atStart => exact ⟨0, rfl, by omega, 0, rfl⟩
      case round =>
        obtain ⟨j, rfl, hjk, m', rfl⟩ := hrel
        by_cases hlt : j < k
        · obtain ⟨x, hx2⟩ : ∃ x, s[j]? = some x := ⟨s[j]'(by rw [Hk.out]; omega), List.getElem?_eq_getElem _⟩
          obtain ⟨u1, u2⟩ := K5.out x (List.mem_of_getElem? hx2)
          obtain ⟨b7, off7, rfl, _, c1, c2⟩ := s5.two hx2
          have d1 : decide (x.1 < f) = false := decide_eq_false (by omega)
          have d2 : decide (t < x.1) = false := decide_eq_false (by omega)
          have q4 : (j : Int) < (k : Int) := by omega
          rcases j with _ | i
          · simp only [Nat.zero_mul, Nat.add_zero] at c1 c2
            clear hx2
            go_wp2_with fail
            go_quiet (fail)
            go_wp2_with fail
            go_roundw
            case rel => exact ⟨1, rfl, by omega, _, rfl⟩
            case measure => simp [intOf]; omega
          · obtain ⟨y, hy⟩ : ∃ y, s[i]? = some y := ⟨s[i]'(by rw [Hk.out]; omega), List.getElem?_eq_getElem _⟩
            have hne : (x.2 == y.2) = false := by simpa using K6.out i x y hy hx2
            obtain ⟨b', off', hA, _, c3, c4⟩ := s5.two hy
            injection hA with hA
            injection hA with hA1 hA2
            subst hA1; subst hA2
            have q1 : IntKind.i64.wrap ((i : Int) + 1 - 1) = (i : Int) := by rw [IntWalk.i64_in _ (by omega)]; omega
            have q2 : IntKind.i64.wrap (i : Int) = (i : Int) := IntWalk.i64_in _ (by omega)
            have q3 : (0 : Int) ≤ (i : Int) := by omega
            have q5 : decide ((0 : Int) < (i : Int) + 1) = true := decide_eq_true (by omega)
            have q6 : (i : Int) < (k : Int) := by omega
            have q7 : (i : Int) + 1 < (k : Int) := by omega
            have q8 : (0 : Int) ≤ (i : Int) + 1 := by omega
            clear hy hx2
            go_wp2_with fail
            go_quiet (fail)
            go_wp2_with fail
            go_roundw
            case rel => exact ⟨i + 1 + 1, by go_num, by omega, _, rfl⟩
            case measure => simp [intOf]; omega
        · have q7 : ¬ (j : Int) < (k : Int) := by omega
          go_wp2_with fail
          refine (hc2 _ _ _ _ (s5.drewN m') z5).mono ?_
          rintro e w6 ⟨rfl, hb6⟩
          go_wp2_with fail
          go_ret
          exact ⟨rfl, bel_call (bel_drewN bel5 m') hb6⟩
    · rcases (by omega : f < 0 ∨ (¬ f < 0 ∧ t < f) ∨ (¬ f < 0 ∧ ¬ t < f ∧ 3652058 < t) ∨ (¬ f < 0 ∧ ¬ t < f ∧ ¬ 3652058 < t ∧ day < f) ∨ (¬ f < 0 ∧ ¬ t < f ∧ ¬ 3652058 < t ∧ ¬ day < f ∧ t < day)) with h | ⟨h1, h2⟩ | ⟨h1, h2, h3⟩ | ⟨h1, h2, h3, h4⟩ | ⟨h1, h2, h3, h4, h5⟩
      all_goals
        clear hl h0 hgood
        go_enter Try.func5, Try.ntmps5
        go_wp2_with fail
        refine (awake_true _).mono ?_
        rintro e w1 ⟨rfl, hb1⟩
        go_wp2_with fail
        refine (hc _ (ha.call hb1 hB) hb1.size).mono ?_
        rintro e w2 ⟨rfl, hb2⟩
        go_wp2_with fail
        go_ret
        exact ⟨rfl, bel_call hb1 hb2⟩
  · generalize Dat.chk l = E at *
    have h1 : (E == 0) = false := by simpa using h0
    have h2 : (E != 0) = true := by simpa using h0
    clear hl
    go_enter Try.func5, Try.ntmps5
    go_wp2_with fail
    refine (awake_true _).mono ?_
    rintro e w1 ⟨rfl, hb1⟩
    go_wp2_with fail
    refine (hc _ (ha.call hb1 hB) hb1.size).mono ?_
    rintro e w2 ⟨rfl, hb2⟩
    go_wp2_with fail
    go_ret
    exact ⟨rfl, bel_call hb1 hb2⟩
end Go.Proofs.Ytoedhcenmbpeeaa
