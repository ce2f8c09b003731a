/- The walk of the statement 'DatedHolds'. -/
import Derived.Test.YtoedhcenmbpeeaaDatKnownWalk
import Derived.Test.YtoedhcenmbpeeaaDatPlain4
namespace Go.Proofs.Ytoedhcenmbpeeaa.Dat
theorem next_gt {l : List (Int × Int)} {day : Int} (hd : Valid day) : day < next l day := by
  unfold next
  unfold Valid at hd
  rcases hl : l.filter (fun x => decide (day < x.1)) with _ | ⟨y, t⟩
  · rw [hl]
    show day < 3652059
    omega
  · have := (List.mem_filter.1 (show y ∈ l.filter (fun x => decide (day < x.1)) by rw [hl]; simp)).2
    rw [hl]
    show day < y.1
    simpa using this
theorem next_step {l : List (Int × Int)} {day : Int} {i : Nat} {x : Int × Int} (hx : l[i]? = some x) : next (l.drop i) day = if day < x.1 then x.1 else next (l.drop (i + 1)) day := by
  rw [drop_at hx]
  unfold next
  by_cases h : day < x.1
  · rw [if_pos h, List.filter_cons_of_pos (by simpa using h)]; rfl
  · rw [if_neg h, List.filter_cons_of_neg (by simpa using h)]
end Go.Proofs.Ytoedhcenmbpeeaa.Dat
namespace Go.Proofs.Ytoedhcenmbpeeaa
open Go.RowKit

set_option maxRecDepth 100000 in
set_option maxHeartbeats 8000000 in
theorem dholds_walk (A : Option Addr) (n c : Nat) (l : List (Int × Int)) (day v o : Int) (w : World) (ha : Shows w w.heap.size 2 A n (DC l)) (hx : Fits l) (_ : n ≤ c) (_ : c ≤ maxLen) (_ : -9223372036854775808 ≤ day ∧ day ≤ 9223372036854775807) (_ : -9223372036854775808 ≤ v ∧ v ≤ 9223372036854775807) (_ : -9223372036854775808 ≤ o ∧ o ≤ 9223372036854775807) :
    Calls Try.prog 8 #[.slice A n c, .int .i64 day, .int .i64 v, .int .i64 o] w fun e w' => e = .returned (.bool true) ∧ Below w.heap.size w w' := by
  have hB : w.heap.size ≤ w.heap.size := Nat.le_refl _
  have hl := ha.num
  by_cases h60 : 60 < n
  · clear hl
    go_enter Try.func8, Try.ntmps8
    go_wp2_with fail
    refine (dknown_walk _).mono ?_
    rintro e w1 ⟨rfl, hb1⟩
    go_wp2_with fail
    go_ret
    exact ⟨rfl, hb1⟩
  have hc := fun (w' : World) (h : Shows w' w.heap.size 2 A n (DC l)) (h' : w.heap.size ≤ w'.heap.size) => check_any A n c l w.heap.size w' h h' (by unfold maxLen; omega) hx
  by_cases h0 : Dat.chk l = 0
  · rw [h0] at hc
    by_cases hgood : 0 ≤ day ∧ day ≤ 3652058 ∧ 0 ≤ o ∧ o ≤ 3652058
    · have hok := (Dat.chk_ok l).1 h0
      obtain ⟨g1, g2, g3, g4⟩ := hgood
      have hvd : Dat.Valid day := ⟨g1, g2⟩
      have hvo : Dat.Valid o := ⟨g3, g4⟩
      have hs := fun (w' : World) (h : Shows w' w.heap.size 2 A n (DC l)) (h' : w.heap.size ≤ w'.heap.size) => put_any A n c l day v w.heap.size w' h h' (by omega) hx
      rw [Dat.putF_is hok hvd (by omega) v] at hs
      unfold FreshE at hs
      simp only at hs
      have ht := fun (w' : World) (h : Shows w' w.heap.size 2 A n (DC l)) (h' : w.heap.size ≤ w'.heap.size) => at_any A n c l o w.heap.size w' h h' (by unfold maxLen; omega) hx
      have k2 := Dat.putL_ok hok hvd (by omega) v
      have k3 := Dat.at_put_in (v := v) hok hvd hvd (by omega) (Int.le_refl _) (Dat.next_gt hvd)
      have k5 : day ≤ o → o < Dat.next l day → Dat.atF (Dat.putL l day v) o = (v, true) := fun h1 h2 => Dat.at_put_in hok hvd hvo (by omega) h1 h2
      have k6 : ¬ (day ≤ o ∧ o < Dat.next l day) → Dat.atF (Dat.putL l day v) o = Dat.atF l o := Dat.at_put_out hok hvd hvo (by omega)
      generalize Dat.putL l day v = s at hs k2 k3 k5 k6
      have k4 := (Dat.chk_ok s).2 k2
      have k7 : Fits s := fun x hx => by have := k2.2.1 x hx; unfold Dat.Valid at this; omega
      have hk200 := k2.1
      obtain ⟨k, hk⟩ : ∃ k, s.length = k := ⟨_, rfl⟩
      have ht2 := fun A' c' B w' h h' => at_any A' s.length c' s o B w' h h' (by unfold maxLen; omega) k7
      have hc2 := fun A' c' B w' h h' => check_any A' s.length c' s B w' h h' (by unfold maxLen; omega) k7
      have hy1 := fun A' c' B w' h h' => lawat_yes A' s.length c' s day v B w' h h' (by unfold maxLen; omega) k7 k3
      have hy2 := fun A' c' B w' h h' k => lawat_yes A' s.length c' s o v B w' h h' (by unfold maxLen; omega) k7 k
      rw [k4] at hc2
      rw [hk] at hs ht2 hc2 hy1 hy2
      have K5 := Lib.hid k5
      have K6 := Lib.hid k6
      have Hl := Lib.hid hl
      clear hl hk k2 k3 k4 k5 k6 hok h0 hvd hvo hk200
      go_enter Try.func8, Try.ntmps8
      go_wp2_with fail
      refine (dknown_walk _).mono ?_
      rintro e w1 ⟨rfl, hb1⟩
      have bel1 := hb1
      go_wp2_with fail
      refine (hc _ (ha.call bel1 hB) bel1.size).mono ?_
      rintro e w2 ⟨rfl, hb2⟩
      have bel2 := bel_call bel1 hb2
      go_wp2_with fail
      refine (hs _ (ha.call bel2 hB) bel2.size).mono ?_
      rintro e w3 ⟨A3, c3, rfl, ho3, hb3⟩
      have bel3 := bel_call bel2 hb3
      have s3 := Shows.of_own ho3
      go_wp2_with fail
      refine (hc2 _ _ _ _ s3 (Nat.le_refl _)).mono ?_
      rintro e w4 ⟨rfl, hb4⟩
      have bel4 := bel_call bel3 hb4
      have s4 := s3.call hb4 (Nat.le_refl _)
      go_wp2_with fail
      refine (hy1 _ _ _ _ s4 hb4.size).mono ?_
      rintro e w5 ⟨rfl, hb5⟩
      have bel5 := bel_call bel4 hb5
      have s5 := s4.call hb5 hb4.size
      have z5 := Nat.le_trans hb4.size hb5.size
      clear hc hs hc2 hy1
      have a5 := ha.call bel5 hB
      go_wp2_with fail
      go_loopw [13, 12] (fun i nx wr => ∃ (z y : Int) (j : Nat), i = .int .i64 z ∧ z + 1 = (j : Int) ∧ j ≤ n ∧ nx = .int .i64 y ∧ Dat.next (l.drop j) day = y ∧ w5 = wr) (fun i _ _ => (intOf i + 1).toNat)
      case atStart => exact ⟨(n : Int) - 1, 3652059, n, by first | rfl | go_num, by omega, Nat.le_refl _, rfl, by rw [List.drop_of_length_le (by rw [Hl.out]; exact Nat.le_refl _)]; rfl, rfl⟩
      case round =>
        obtain ⟨z, y, j, rfl, hz, hjn, rfl, hnx, rfl⟩ := hrel
        rcases j with _ | i
        · obtain rfl : z = -1 := by omega
          rw [List.drop_zero] at hnx
          rw [hnx] at K5 K6
          clear hnx
          by_cases h1 : day ≤ o
          · by_cases h2 : o < y
            · have hq := hy2 _ c3 _ w5 s5 z5 (K5.out h1 h2)
              go_wp2_with fail
              refine hq.mono ?_
              rintro e w6 ⟨rfl, hb6⟩
              go_wp2_with fail
              go_ret
              exact ⟨rfl, bel_call bel5 hb6⟩
            · have he := K6.out (by omega)
              have hq2 := fun w' h h' => ht2 A3 c3 w3.heap.size w' h h'
              rw [he] at hq2
              obtain ⟨v1, b1, hvb⟩ : ∃ v1 b1, Dat.atF l o = (v1, b1) := ⟨_, _, rfl⟩
              rw [hvb] at hq2 ht
              clear he hvb
              go_wp2_with fail
              refine (ht _ a5 bel5.size).mono ?_
              rintro e w6 ⟨rfl, hb6⟩
              go_wp2_with fail
              refine (hq2 _ (s5.call hb6 z5) (Nat.le_trans z5 hb6.size)).mono ?_
              rintro e w7 ⟨rfl, hb7⟩
              go_wp2_with fail
              go_ret
              exact ⟨rfl, bel_call (bel_call bel5 hb6) hb7⟩
          · have he := K6.out (by omega)
            have hq2 := fun w' h h' => ht2 A3 c3 w3.heap.size w' h h'
            rw [he] at hq2
            obtain ⟨v1, b1, hvb⟩ : ∃ v1 b1, Dat.atF l o = (v1, b1) := ⟨_, _, rfl⟩
            rw [hvb] at hq2 ht
            clear he hvb
            go_wp2_with fail
            refine (ht _ a5 bel5.size).mono ?_
            rintro e w6 ⟨rfl, hb6⟩
            go_wp2_with fail
            refine (hq2 _ (s5.call hb6 z5) (Nat.le_trans z5 hb6.size)).mono ?_
            rintro e w7 ⟨rfl, hb7⟩
            go_wp2_with fail
            go_ret
            exact ⟨rfl, bel_call (bel_call bel5 hb6) hb7⟩
        · obtain rfl : z = (i : Int) := by omega
          obtain ⟨x, hxe⟩ : ∃ x, l[i]? = some x := ⟨l[i]'(by rw [Hl.out]; omega), List.getElem?_eq_getElem _⟩
          have hst := Dat.next_step (day := day) hxe
          rw [hnx] at hst
          obtain ⟨b, off, rfl, _, c1, c2⟩ := a5.two hxe
          have q3 : (0 : Int) ≤ (i : Int) := by omega
          have q4 : (i : Int) < (n : Int) := by omega
          clear hxe hnx
          by_cases hd : day < x.1
          · rw [if_pos hd] at hst
            have Hst := Lib.hid hst
            clear hst
            go_wp2_with fail
            go_roundw
            case rel => exact ⟨(i : Int) - 1, x.1, i, by first | rfl | go_num, by omega, by omega, rfl, Hst.out, trivial⟩
            case measure => first | (simp [intOf]; done) | (simp [intOf]; omega)
          · rw [if_neg hd] at hst
            have Hst := Lib.hid hst
            clear hst
            go_wp2_with fail
            go_roundw
            case rel => exact ⟨(i : Int) - 1, y, i, by first | rfl | go_num, by omega, by omega, rfl, Hst.out, trivial⟩
            case measure => first | (simp [intOf]; done) | (simp [intOf]; omega)
    · rcases (by omega : day < 0 ∨ (¬ day < 0 ∧ 3652058 < day) ∨ (¬ day < 0 ∧ ¬ 3652058 < day ∧ o < 0) ∨ (¬ day < 0 ∧ ¬ 3652058 < day ∧ ¬ o < 0 ∧ 3652058 < o)) with h | ⟨h1, h2⟩ | ⟨h1, h2, h3⟩ | ⟨h1, h2, h3, h4⟩
      all_goals
        clear hl h0 hgood
        go_enter Try.func8, Try.ntmps8
        go_wp2_with fail
        refine (dknown_walk _).mono ?_
        rintro e w1 ⟨rfl, hb1⟩
        go_wp2_with fail
        refine (hc _ (ha.call hb1 hB) hb1.size).mono ?_
        rintro e w2 ⟨rfl, hb2⟩
        go_wp2_with fail
        go_ret
        exact ⟨rfl, bel_call hb1 hb2⟩
  · generalize Dat.chk l = E at *
    have h1 : (E == 0) = false := by simpa using h0
    have h2 : (E != 0) = true := by simpa using h0
    clear hl
    go_enter Try.func8, Try.ntmps8
    go_wp2_with fail
    refine (dknown_walk _).mono ?_
    rintro e w1 ⟨rfl, hb1⟩
    go_wp2_with fail
    refine (hc _ (ha.call hb1 hB) hb1.size).mono ?_
    rintro e w2 ⟨rfl, hb2⟩
    go_wp2_with fail
    go_ret
    exact ⟨rfl, bel_call hb1 hb2⟩
end Go.Proofs.Ytoedhcenmbpeeaa
