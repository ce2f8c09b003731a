/- The walk of the statement 'MatrixSorts'. -/
import Derived.Test.YtiomkbpniplfhaaMatRefSort
namespace Go.Proofs.Ytiomkbpniplfhaa
open Go.RowKit

set_option maxRecDepth 100000 in
set_option maxHeartbeats 8000000 in
theorem msorts_walk (A : Option Addr) (n c : Nat) (l : List S6) (w : World) (ha : Shows w w.heap.size 6 A n (RC l)) (_hf : Fit6 l) (_ : n ≤ c) (_ : c ≤ maxLen) :
    Calls Try.prog 7 #[.slice A n c] w fun e w' => e = .returned (.bool true) ∧ Below w.heap.size w w' := by
  have hB : w.heap.size ≤ w.heap.size := Nat.le_refl _
  by_cases h200 : 200 < n
  · go_enter Try.func7, Try.ntmps7
    go_wp2_with fail
    refine (awake_true _).mono ?_
    rintro e w1 ⟨rfl, hb1⟩
    go_wp2_with fail
    go_ret
    exact ⟨rfl, hb1⟩
  · obtain ⟨i0, hi, hz0, hz1, hz2⟩ := info_parts infoR
    have hm : n ≤ maxLen := by unfold maxLen; omega
    have ho : (w.alloc (.cells #[] 28)).ownsRow w.heap.size 28 6 (.slice (some ⟨w.heap.size, 0, none⟩) 0 0) 0 [] := (show Block _ _ 28 [] from Block.new w 28 []).owns (Nat.le_refl _) rfl (Nat.zero_le _)
    have hms := fun A' c' B w' h h' => msort_any A' n c' l B w' h h' (by omega)
    have hrs := fun A' c' B w' h h' => rsort_any A' n c' l B w' h h' (by omega)
    have hlen : (Mat.srt l).length ≤ n := by
      have : ∀ (t s : List S6), (List.foldl Mat.put s t).length ≤ s.length + t.length := by
        intro t
        induction t with
        | nil => intro s; simp
        | cons x t ih =>
          intro s
          rw [List.foldl_cons]
          have h1 := ih (Mat.put s x)
          have h2 := Mat.put_len (s := s) (x := x)
          simp only [List.length_cons]; omega
      have := this l []
      have hl := ha.num6
      unfold Mat.srt
      simp only [List.length_nil] at this
      omega
    generalize Mat.srt l = s at hms hrs hlen
    obtain ⟨m, hsm⟩ : ∃ m, s.length = m := ⟨_, rfl⟩
    rw [hsm] at hms hrs hlen
    have Hsm := Lib.hid hsm
    have hmm : m ≤ maxLen := by unfold maxLen; omega
    clear hsm
    go_enter Try.func7, Try.ntmps7
    go_wp2_with (at_builtin; refine wpList_append_shows _ rfl _ _ 22 rfl w.heap.size 28 i0 (.agg #[.int .i64 0, .int .i64 0, .int .i64 0, .int .i64 0, .int .i64 0, .int .i64 0]) 6 48 Try.underlying22 hi hz0 hz1 hz2 rfl (by decide) (.slice (some ⟨w.heap.size, 0, none⟩) 0 0) 0 [] rfl ho w.heap.size A n c (RC l) rfl (ha.alloc hB _) (rc_one _) (by unfold maxLen; omega) (by omega) (by simp) ?_; intro A1 c1 w1 hown1 hg1)
    have hown1 : w1.ownsRow w.heap.size 28 6 (.slice A1 (0 + n) c1) (0 + n) (RC l) := by simpa using hown1
    rw [Nat.zero_add] at hown1
    have bel1 : Below w.heap.size w w1 := bel_grown (bel_alloc (Below.refl _ _) _) hg1 (fun g hg => by simp [Value.ownBlock] at hg; omega)
    have k1 := Shows.of_own hown1
    clear hown1 hg1 ho
    go_wp2_with fail
    refine (hms _ _ _ _ k1 (Nat.le_refl _)).mono ?_
    rintro e w2 ⟨A2, c2, rfl, ho2, hb2⟩
    have bel2 := bel_call bel1 hb2
    have k2 := k1.call hb2 (Nat.le_refl _)
    have z2 := hb2.size
    have s2 := Shows.of_own ho2
    go_wp2_with fail
    refine (hrs _ _ _ _ (ha.call bel2 hB) bel2.size).mono ?_
    rintro e w3 ⟨A3, c3, rfl, ho3, hb3⟩
    have bel3 := bel_call bel2 hb3
    have k3 := k2.call hb3 z2
    have s3 := s2.call hb3 (Nat.le_refl _)
    have t3 := Shows.of_own ho3
    have z3 := hb3.size
    have hb23 : Below w1.heap.size w1 w3 := bel_call hb2 hb3
    go_wp2_with fail
    refine (same6_yes _ _ _ _ _ s _ _ _ s3 t3 hmm).mono ?_
    rintro e w4 ⟨rfl, m4, rfl⟩
    have bel4 := bel_drewN bel3 m4
    clear hms hrs t3 ho3 s3 s2 k2
    rcases own_row ho2 with ⟨rfl, hn0, rfl, hl0⟩ | ⟨g, junk, rfl, hg1, hg2, hrow, hnc, hcm, hj⟩
    · subst hn0
      go_wp2_with fail
      refine wp_loop_rounds 1 ?_
      rw [rounds_succ]
      go_wp2_with fail
      refine (same6_yes _ _ _ _ _ l _ _ _ (k3.drewN m4) (ha.call bel4 hB) hm).mono ?_
      rintro e w5 ⟨rfl, m5, rfl⟩
      go_wp2_with fail
      refine (awake_true _).mono ?_
      rintro e w6 ⟨rfl, hb6⟩
      go_wp2_with fail
      go_ret
      exact ⟨rfl, bel_call (bel_drewN bel3 (m4 + m5)) hb6⟩
    · have hrow3 : RowS (w3.drewN m4) g s junk := hrow.call (bel_drewN hb3 m4)
      have hb4 : Below w1.heap.size w1 (w3.drewN m4) := bel_drewN hb23 m4
      have hzw : w.heap.size ≤ w1.heap.size := bel1.size
      generalize w3.drewN m4 = w4 at hrow3 hb4 bel4
      go_wp2_with fail
      go_loopw [5] (fun i wr => ∃ (j : Nat) (t : List S6), j ≤ m ∧ i = .int .i64 j ∧ Hid (t.length = m) ∧ RowS wr g t junk ∧ Below w1.heap.size w1 wr) (fun i _ => m - (intOf i).toNat)
      case atStart => exact ⟨0, s, by omega, rfl, Hsm, hrow3, hb4⟩
      case round =>
        obtain ⟨j, t, hj2, rfl, ht, hrw, hbr⟩ := hrel
        by_cases hlt : j < m
        · obtain ⟨y, hy⟩ : ∃ y, t[j]? = some y := ⟨t[j]'(by rw [ht.out]; exact hlt), List.getElem?_eq_getElem _⟩
          obtain ⟨v1, v2, v3, v4, v5, v6⟩ := hrw.six hy
          have hf0 := Block.free hrw
          have hnx := Lib.hid (hrw.set (by rw [ht.out]; exact hlt) S6.zero)
          have hset : Hid ((t.set j S6.zero).length = m) := by show _ = _; rw [List.length_set]; exact ht.out
          have q2 : (0 : Int) ≤ (j : Int) := by omega
          have q3 : (j : Int) < (m : Int) := by omega
          clear hy
          go_wp2_with fail
          go_roundw
          case rel => exact ⟨j + 1, _, by omega, by go_num, hset, hnx.out, bel_set (bel_set (bel_set (bel_set (bel_set (bel_set hbr hg1 _) hg1 _) hg1 _) hg1 _) hg1 _) hg1 _⟩
          case measure => simp [intOf]; omega
        · obtain rfl : j = m := by omega
          have k5 : Shows wr w1.heap.size 6 A1 n (RC l) := k1.below hbr
          have bel5 : Below w.heap.size w wr := bel1.trans (hbr.mono hzw)
          go_wp2_with fail
          refine (same6_yes _ _ _ _ _ l _ _ _ k5 (ha.call bel5 hB) hm).mono ?_
          rintro e w5 ⟨rfl, m5, rfl⟩
          go_wp2_with fail
          refine (awake_true _).mono ?_
          rintro e w6 ⟨rfl, hb6⟩
          go_wp2_with fail
          go_ret
          exact ⟨rfl, bel_call (bel_drewN bel5 m5) hb6⟩
end Go.Proofs.Ytiomkbpniplfhaa
