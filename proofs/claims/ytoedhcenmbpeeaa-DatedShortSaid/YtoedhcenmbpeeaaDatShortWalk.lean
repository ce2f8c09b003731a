/- The walk of the statement 'DatedShort'. -/
import Derived.Test.YtoedhcenmbpeeaaDatAwake
namespace Go.Proofs.Ytoedhcenmbpeeaa
open Go.RowKit

theorem fits_sub {l m : List (Int × Int)} (h : m.Sublist l) (hx : Fits l) : Fits m := fun x hm => hx x (h.subset hm)
set_option maxRecDepth 100000 in
set_option maxHeartbeats 4000000 in
theorem dshort_walk (A : Option Addr) (n c : Nat) (l : List (Int × Int)) (day : Int) (w : World) (ha : Shows w w.heap.size 2 A n (DC l)) (hx : Fits l) (hnc : n ≤ c) (_ : c ≤ maxLen) (_ : -9223372036854775808 ≤ day ∧ day ≤ 9223372036854775807) :
    Calls Try.prog 3 #[.slice A n c, .int .i64 day] w fun e w' => e = .returned (.bool true) ∧ Below w.heap.size w w' := by
  have hB : w.heap.size ≤ w.heap.size := Nat.le_refl _
  have hl := ha.num
  by_cases h60 : 60 < n
  · clear hl
    go_enter Try.func3, Try.ntmps3
    go_wp2_with fail
    refine (awake_true _).mono ?_
    rintro e w1 ⟨rfl, hb1⟩
    go_wp2_with fail
    go_ret
    exact ⟨rfl, hb1⟩
  have hc := fun (w' : World) (h : Shows w' w.heap.size 2 A n (DC l)) (h' : w.heap.size ≤ w'.heap.size) => check_any A n c l w.heap.size w' h h' (by unfold maxLen; omega) hx
  by_cases h0 : Dat.chk l = 0
  · rw [h0] at hc
    have hok := (Dat.chk_ok l).1 h0
    have hs := fun (w' : World) (h : Shows w' w.heap.size 2 A n (DC l)) (h' : w.heap.size ≤ w'.heap.size) => short_any A n c l w.heap.size w' h h' (by omega) hx
    have ht := fun (w' : World) (h : Shows w' w.heap.size 2 A n (DC l)) (h' : w.heap.size ≤ w'.heap.size) => at_any A n c l day w.heap.size w' h h' (by unfold maxLen; omega) hx
    rw [Dat.shortF_ok hok] at hs
    rw [← Dat.at_short hok day] at ht
    have k1 := Dat.dd_le l
    have k2 := Dat.dd_nil l
    have k3 : Fits (Dat.dd l) := fits_sub (Dat.dd_sub l) hx
    have k4 := (Dat.chk_ok (Dat.dd l)).2 (Dat.dd_ok hok)
    have k5 : Dat.shortF (Dat.dd l) = Dat.dd l := by rw [Dat.shortF_ok (Dat.dd_ok hok), Dat.dd_dd]
    have k6 : ∀ (i : Nat) (x y : Int × Int), (Dat.dd l)[i]? = some y → (Dat.dd l)[i + 1]? = some x → x.2 ≠ y.2 := fun i x y => Dat.dd_adj
    generalize Dat.dd l = s at hs ht k1 k2 k3 k4 k5 k6
    have ht2 := fun A' c' B w' h h' => at_any A' s.length c' s day B w' h h' (by unfold maxLen; omega) k3
    have hc2 := fun A' c' B w' h h' => check_any A' s.length c' s B w' h h' (by unfold maxLen; omega) k3
    have hs2 := fun A' c' B w' h h' => short_any A' s.length c' s B w' h h' (by omega) k3
    rw [k4] at hc2
    rw [k5] at hs2
    obtain ⟨v, b, hvb⟩ : ∃ v b, Dat.atF s day = (v, b) := ⟨_, _, rfl⟩
    rw [hvb] at ht ht2
    obtain ⟨k, hk⟩ : ∃ k, s.length = k := ⟨_, rfl⟩
    rw [hk] at hs ht2 hc2 hs2 k1 k2
    have Hk := Lib.hid hk
    have K6 := Lib.hid k6
    rw [hl] at k1 k2
    clear hl hk hvb k4 k5 k6 hok h0
    have k60 : k ≤ 60 := by omega
    rcases (by omega : (k = 0 ∧ n = 0) ∨ (k ≠ 0 ∧ n ≠ 0)) with ⟨e1, e2⟩ | ⟨e1, e2⟩
    · subst e1
      subst e2
      clear k2 k1
      go_enter Try.func3, Try.ntmps3
      go_wp2_with fail
      refine (awake_true _).mono ?_
      rintro e w1 ⟨rfl, hb1⟩
      have bel1 := hb1
      go_wp2_with fail
      refine (hc _ (ha.call bel1 hB) bel1.size).mono ?_
      rintro e w2 ⟨rfl, hb2⟩
      have bel2 := bel_call bel1 hb2
      go_wp2_with fail
      refine (hs _ (ha.call bel2 hB) bel2.size).mono ?_
      rintro e w3 ⟨A3, c3, rfl, ho3, hb3⟩
      have bel3 := bel_call bel2 hb3
      have s3 := Shows.of_own ho3
      go_wp2_with fail
      refine (ht _ (ha.call bel3 hB) bel3.size).mono ?_
      rintro e w4 ⟨rfl, hb4⟩
      have bel4 := bel_call bel3 hb4
      have s4 := s3.call hb4 (Nat.le_refl _)
      go_wp2_with fail
      refine (ht2 _ _ _ _ s4 hb4.size).mono ?_
      rintro e w5 ⟨rfl, hb5⟩
      have bel5 := bel_call bel4 hb5
      have s5 := s4.call hb5 hb4.size
      have z5 := Nat.le_trans hb4.size hb5.size
      go_wp2_with fail
      refine (hc2 _ _ _ _ s5 z5).mono ?_
      rintro e w6 ⟨rfl, hb6⟩
      have bel6 := bel_call bel5 hb6
      have s6 := s5.call hb6 z5
      have z6 := Nat.le_trans z5 hb6.size
      go_wp2_with fail
      refine (hs2 _ _ _ _ s6 z6).mono ?_
      rintro e w7 ⟨A7, c7, rfl, ho7, hb7⟩
      have bel7 := bel_call bel6 hb7
      have s7 := s6.call hb7 z6
      go_wp2_with fail
      refine (sameDated_eq (Shows.of_own ho7) s7 rfl (by unfold maxLen; omega)).mono ?_
      rintro e w8 ⟨rfl, m, rfl⟩
      go_wp2_with fail
      go_loopw [11] (fun i wr => i = .int .i64 1 ∧ ∃ m, wr = w7.drewN m) (fun i _ => 0)
      case atStart => exact ⟨rfl, m, rfl⟩
      case round =>
        obtain ⟨rfl, m', rfl⟩ := hrel
        go_wp2_with fail
        go_ret
        exact ⟨rfl, bel_drewN bel7 _⟩
    · have d1 : ((k : Int) == 0) = false := by simp; omega
      have d2 : ((n : Int) == 0) = false := by simp; omega
      clear k2 k1
      go_enter Try.func3, Try.ntmps3
      go_wp2_with fail
      refine (awake_true _).mono ?_
      rintro e w1 ⟨rfl, hb1⟩
      have bel1 := hb1
      go_wp2_with fail
      refine (hc _ (ha.call bel1 hB) bel1.size).mono ?_
      rintro e w2 ⟨rfl, hb2⟩
      have bel2 := bel_call bel1 hb2
      go_wp2_with fail
      refine (hs _ (ha.call bel2 hB) bel2.size).mono ?_
      rintro e w3 ⟨A3, c3, rfl, ho3, hb3⟩
      have bel3 := bel_call bel2 hb3
      have s3 := Shows.of_own ho3
      go_wp2_with fail
      refine (ht _ (ha.call bel3 hB) bel3.size).mono ?_
      rintro e w4 ⟨rfl, hb4⟩
      have bel4 := bel_call bel3 hb4
      have s4 := s3.call hb4 (Nat.le_refl _)
      go_wp2_with fail
      refine (ht2 _ _ _ _ s4 hb4.size).mono ?_
      rintro e w5 ⟨rfl, hb5⟩
      have bel5 := bel_call bel4 hb5
      have s5 := s4.call hb5 hb4.size
      have z5 := Nat.le_trans hb4.size hb5.size
      go_wp2_with fail
      refine (hc2 _ _ _ _ s5 z5).mono ?_
      rintro e w6 ⟨rfl, hb6⟩
      have bel6 := bel_call bel5 hb6
      have s6 := s5.call hb6 z5
      have z6 := Nat.le_trans z5 hb6.size
      go_wp2_with fail
      refine (hs2 _ _ _ _ s6 z6).mono ?_
      rintro e w7 ⟨A7, c7, rfl, ho7, hb7⟩
      have bel7 := bel_call bel6 hb7
      have s7 := s6.call hb7 z6
      go_wp2_with fail
      refine (sameDated_eq (Shows.of_own ho7) s7 rfl (by unfold maxLen; omega)).mono ?_
      rintro e w8 ⟨rfl, m, rfl⟩
      go_wp2_with fail
      go_loopw [11] (fun i wr => ∃ j : Nat, i = .int .i64 ((j : Int) + 1) ∧ j + 1 ≤ k ∧ ∃ m, wr = w7.drewN m) (fun i _ => k - (intOf i).toNat)
      case atStart => exact ⟨0, rfl, by omega, m, rfl⟩
      case round =>
        obtain ⟨i, rfl, hik, m', rfl⟩ := hrel
        by_cases hlt : i + 1 < k
        · obtain ⟨y, hy⟩ : ∃ y, s[i]? = some y := ⟨s[i]'(by rw [Hk.out]; omega), List.getElem?_eq_getElem _⟩
          obtain ⟨x, hx2⟩ : ∃ x, s[i + 1]? = some x := ⟨s[i + 1]'(by rw [Hk.out]; omega), List.getElem?_eq_getElem _⟩
          have hne : (x.2 == y.2) = false := by simpa using K6.out i x y hy hx2
          obtain ⟨b7, off7, rfl, _, g1, g2⟩ := s7.two hx2
          obtain ⟨b', off', hA, _, g3, g4⟩ := s7.two hy
          injection hA with hA
          injection hA with hA1 hA2
          subst hA1; subst hA2
          have q1 : IntKind.i64.wrap ((i : Int) + 1 - 1) = (i : Int) := by rw [IntWalk.i64_in _ (by omega)]; omega
          have q2 : IntKind.i64.wrap (i : Int) = (i : Int) := IntWalk.i64_in _ (by omega)
          have q3 : (0 : Int) ≤ (i : Int) := by omega
          have q4 : (i : Int) < (k : Int) := by omega
          have q7 : (i : Int) + 1 < (k : Int) := by omega
          have q8 : (0 : Int) ≤ (i : Int) + 1 := by omega
          clear hy hx2
          go_wp2_with fail
          go_quiet (fail)
          go_wp2_with fail
          go_roundw
          case rel => exact ⟨i + 1, by go_num, by omega, _, rfl⟩
          case measure => simp [intOf]; omega
        · have q7 : ¬ (i : Int) + 1 < (k : Int) := by omega
          go_wp2_with fail
          go_ret
          exact ⟨rfl, bel_drewN bel7 _⟩
  · generalize Dat.chk l = E at *
    have h1 : (E == 0) = false := by simpa using h0
    have h2 : (E != 0) = true := by simpa using h0
    clear hl
    go_enter Try.func3, Try.ntmps3
    go_wp2_with fail
    refine (awake_true _).mono ?_
    rintro e w1 ⟨rfl, hb1⟩
    go_wp2_with fail
    refine (hc _ (ha.call hb1 hB) hb1.size).mono ?_
    rintro e w2 ⟨rfl, hb2⟩
    go_wp2_with fail
    go_ret
    exact ⟨rfl, bel_call hb1 hb2⟩
end Go.Proofs.Ytoedhcenmbpeeaa
