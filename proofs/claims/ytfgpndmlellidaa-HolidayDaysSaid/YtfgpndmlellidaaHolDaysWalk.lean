/- The walk of the statement 'HolidayDays'. -/
import Derived.Test.YtfgpndmlellidaaHolLaw
import Derived.Test.YtfgpndmlellidaaHolRefDays
namespace Go.Proofs.Ytfgpndmlellidaa
open Go.RowKit

set_option maxRecDepth 100000 in
set_option maxHeartbeats 8000000 in
theorem hdays_walk (A : Option Addr) (n c : Nat) (l : List S6) (jj q a z : Int) (w : World) (ha : Shows w w.heap.size 6 A n (RC l)) (hf : Fit6 l) (_ : n ≤ c) (_ : c ≤ maxLen) (_ : -9223372036854775808 ≤ jj ∧ jj ≤ 9223372036854775807) (_ : -9223372036854775808 ≤ q ∧ q ≤ 9223372036854775807) (_ : -9223372036854775808 ≤ a ∧ a ≤ 9223372036854775807) (_ : -9223372036854775808 ≤ z ∧ z ≤ 9223372036854775807) :
    Calls Try.prog 4 #[.slice A n c, .int .i64 jj, .int .i64 q, .int .i64 a, .int .i64 z] w fun e w' => e = .returned (.bool true) ∧ Below w.heap.size w w' := by
  have hB : w.heap.size ≤ w.heap.size := Nat.le_refl _
  by_cases h60 : 60 < n
  · go_enter Try.func4, Try.ntmps4
    go_wp2_with fail
    refine (awake_true _).mono ?_
    rintro e w1 ⟨rfl, hb1⟩
    go_wp2_with fail
    go_ret
    exact ⟨rfl, hb1⟩
  · obtain ⟨i0, hi, hz0, hz1, hz2⟩ := info_parts infoH
    have hm : n ≤ maxLen := by unfold maxLen; omega
    have ho : (w.alloc (.cells #[] 28)).ownsRow w.heap.size 28 6 (.slice (some ⟨w.heap.size, 0, none⟩) 0 0) 0 [] := (show Block _ _ 28 [] from Block.new w 28 []).owns (Nat.le_refl _) rfl (Nat.zero_le _)
    obtain ⟨E, hE⟩ : ∃ E, Hol.daysF l jj q a z = E := ⟨_, rfl⟩
    obtain ⟨x, bt, hx⟩ : ∃ x bt, Hol.hand2 (Hol.nextF l jj q a) = (x, bt) := ⟨_, _, rfl⟩
    have hd := fun A' c' B w' h h' => days_any A' n c' l jj q a z B w' h h' hm
    have hrd := fun A' c' B w' h h' => rdays_any A' n c' l jj q a z B w' h h' hm hf
    have hx1 := fun A' c' B w' h h' => next_any A' n c' l jj q a B w' h h' hm hx
    have hrx := fun A' c' B w' h h' => rnext_any A' n c' l jj q a B w' h h' hm hf hx
    rw [hE] at hd hrd
    clear hE hx
    go_enter Try.func4, Try.ntmps4
    go_wp2_with (at_builtin; refine wpList_append_shows _ rfl _ _ 22 rfl w.heap.size 28 i0 (.agg #[.int .i64 0, .int .i64 0, .int .i64 0, .int .i64 0, .int .i64 0, .int .i64 0]) 6 48 Try.underlying22 hi hz0 hz1 hz2 rfl (by decide) (.slice (some ⟨w.heap.size, 0, none⟩) 0 0) 0 [] rfl ho w.heap.size A n c (RC l) rfl (ha.alloc hB _) (rc_one _) (by unfold maxLen; omega) (by omega) (by simp) ?_; intro A1 c1 w1 hown1 hg1)
    have hown1 : w1.ownsRow w.heap.size 28 6 (.slice A1 (0 + n) c1) (0 + n) (RC l) := by simpa using hown1
    rw [Nat.zero_add] at hown1
    have bel1 : Below w.heap.size w w1 := bel_grown (bel_alloc (Below.refl _ _) _) hg1 (fun g hg => by simp [Value.ownBlock] at hg; omega)
    have k1 := Shows.of_own hown1
    clear hown1 hg1 ho
    go_wp2_with fail
    refine (hx1 _ _ _ _ k1 (Nat.le_refl _)).mono ?_
    rintro e w2 ⟨rfl, hb2⟩
    have bel2 := bel_call bel1 hb2
    have k2 := k1.call hb2 (Nat.le_refl _)
    have z2 := hb2.size
    go_wp2_with fail
    refine (hrx _ _ _ _ (ha.call bel2 hB) bel2.size).mono ?_
    rintro e w3 ⟨rfl, hb3⟩
    have bel3 := bel_call bel2 hb3
    have k3 := k2.call hb3 z2
    have z3 := Nat.le_trans z2 hb3.size
    go_wp2_with fail
    refine (hd _ _ _ _ k3 z3).mono ?_
    rintro e w4 ⟨rfl, hb4⟩
    have bel4 := bel_call bel3 hb4
    go_wp2_with fail
    refine (hrd _ _ _ _ (ha.call bel4 hB) bel4.size).mono ?_
    rintro e w5 ⟨rfl, hb5⟩
    have bel5 := bel_call bel4 hb5
    go_wp2_with fail
    refine (awake_true _).mono ?_
    rintro e w6 ⟨rfl, hb6⟩
    go_wp2_with fail
    go_ret
    exact ⟨rfl, bel_call bel5 hb6⟩
end Go.Proofs.Ytfgpndmlellidaa
