/- The walk of the statement 'DatedTells'. -/
import Derived.Test.YtoedhcenmbpeeaaDatBetween
import Derived.Test.YtoedhcenmbpeeaaDatRefBetween
namespace Go.Proofs.Ytoedhcenmbpeeaa
open Go.RowKit

set_option maxRecDepth 100000 in
set_option maxHeartbeats 8000000 in
theorem dtells_walk (A : Option Addr) (n c : Nat) (l : List (Int × Int)) (day till : Int) (w : World) (ha : Shows w w.heap.size 2 A n (DC l)) (hx : Fits l) (hnc : n ≤ c) (_ : c ≤ maxLen) (_ : -9223372036854775808 ≤ day ∧ day ≤ 9223372036854775807) (_ : -9223372036854775808 ≤ till ∧ till ≤ 9223372036854775807) :
    Calls Try.prog 4 #[.slice A n c, .int .i64 day, .int .i64 till] w fun e w' => e = .returned (.bool true) ∧ Below w.heap.size w w' := by
  have hB : w.heap.size ≤ w.heap.size := Nat.le_refl _
  by_cases h300 : 300 < n
  · go_enter Try.func4, Try.ntmps4
    go_wp2_with fail
    refine (awake_true _).mono ?_
    rintro e w1 ⟨rfl, hb1⟩
    go_wp2_with fail
    go_ret
    exact ⟨rfl, hb1⟩
  · have hm : n ≤ maxLen := by unfold maxLen; omega
    have hbl : (Dat.betF l day till).length ≤ maxLen := by have := Dat.betF_le l day till; have := ha.num; unfold maxLen; omega
    have hsl : (Dat.shortF l).length ≤ maxLen := by
      have h1 := Dat.dd_le l
      have h2 := ha.num
      unfold Dat.shortF maxLen
      split
      · simp
      · omega
    obtain ⟨bet, hbet⟩ : ∃ s, Dat.betF l day till = s := ⟨_, rfl⟩
    obtain ⟨sho, hsho⟩ : ∃ s, Dat.shortF l = s := ⟨_, rfl⟩
    obtain ⟨v, b, hvb⟩ : ∃ v b, Dat.atF l day = (v, b) := ⟨_, _, rfl⟩
    obtain ⟨E, hE⟩ : ∃ E, Dat.chk l = E := ⟨_, rfl⟩
    have hat := fun A' c' B w' h h' => at_any A' n c' l day B w' h h' hm hx
    have hrat := fun A' c' B w' h h' => refAt_any A' n c' l day B w' h h' hm hx
    have hch := fun A' c' B w' h h' => check_any A' n c' l B w' h h' hm hx
    have hrch := fun A' c' B w' h h' => refCheck_any A' n c' l B w' h h' hm hx
    have hbe := fun A' c' B w' h h' hc' => between_any A' n c' l day till B w' h h' hm hx hc'
    have hrbe := fun A' c' B w' h h' hc' => refBetween_any A' n c' l day till B w' h h' hm hx hc'
    have hsh := fun A' c' B w' h h' => short_any A' n c' l B w' h h' (by omega) hx
    have hrsh := fun A' c' B w' h h' => refShort_any A' n c' l B w' h h' hm hx
    rw [hvb] at hat hrat
    rw [hE] at hch hrch
    rw [hbet] at hbe hrbe hbl
    rw [hsho] at hsh hrsh hsl
    clear hvb hE hbet hsho
    have hcd := copyDated_any A n c l w.heap.size w ha hB (by omega)
    go_enter Try.func4, Try.ntmps4
    go_wp2_with fail
    refine hcd.mono ?_
    rintro e w1 ⟨Ai, ci, rfl, ho1, hb1⟩
    have bel1 := hb1
    have k1 := Shows.of_own ho1
    have nci : n ≤ ci := by
      obtain ⟨A0, c0, hv, h0, _⟩ := own_form ho1
      injection hv with _ _ h3
      omega
    go_wp2_with fail
    refine (hat _ _ _ _ k1 (Nat.le_refl _)).mono ?_
    rintro e w2 ⟨rfl, hb2⟩
    have bel2 := bel_call bel1 hb2
    have k2 := k1.call hb2 (Nat.le_refl _)
    have z2 := hb2.size
    go_wp2_with fail
    refine (hrat _ _ _ _ (ha.call bel2 hB) bel2.size).mono ?_
    rintro e w3 ⟨rfl, hb3⟩
    have bel3 := bel_call bel2 hb3
    have k3 := k2.call hb3 z2
    have z3 := Nat.le_trans z2 hb3.size
    go_wp2_with fail
    refine (hbe _ _ _ _ k3 z3 nci).mono ?_
    rintro e w4 ⟨Ax, cx, rfl, ho4, hb4⟩
    have bel4 := bel_call bel3 hb4
    have k4 := k3.call hb4 z3
    have z4 := Nat.le_trans z3 hb4.size
    go_wp2_with fail
    refine (hsh _ _ _ _ k4 z4).mono ?_
    rintro e w5 ⟨Ay, cy, rfl, ho5, hb5⟩
    have bel5 := bel_call bel4 hb5
    have k5 := k4.call hb5 z4
    have z5 := Nat.le_trans z4 hb5.size
    go_wp2_with fail
    refine (hch _ _ _ _ k5 z5).mono ?_
    rintro e w6 ⟨rfl, hb6⟩
    have bel6 := bel_call bel5 hb6
    have k6 := k5.call hb6 z5
    have z6 := Nat.le_trans z5 hb6.size
    go_wp2_with fail
    refine (hrch _ _ _ _ (ha.call bel6 hB) bel6.size).mono ?_
    rintro e w7 ⟨rfl, hb7⟩
    have bel7 := bel_call bel6 hb7
    have k7 := k6.call hb7 z6
    have z7 := Nat.le_trans z6 hb7.size
    go_wp2_with fail
    refine (hrbe _ _ _ _ (ha.call bel7 hB) bel7.size hnc).mono ?_
    rintro e w8 ⟨Az, cz, rfl, ho8, hb8⟩
    have bel8 := bel_call bel7 hb8
    have k8 := k7.call hb8 z7
    have z8 := Nat.le_trans z7 hb8.size
    have o4 := own_below (own_below (own_below (own_below ho4 hb5) hb6) hb7) hb8
    have o5 := own_below (own_below (own_below ho5 hb6) hb7) hb8
    go_wp2_with fail
    refine (sameDated_eq (Shows.of_own o4) (Shows.of_own ho8) rfl hbl).mono ?_
    rintro e w9 ⟨rfl, m9, rfl⟩
    have bel9 := bel_drewN bel8 m9
    go_wp2_with fail
    refine (hrsh _ _ _ _ (ha.call bel9 hB) bel9.size).mono ?_
    rintro e w10 ⟨Au, cu, rfl, ho10, hb10⟩
    have bel10 := bel_call bel9 hb10
    have k10 := (k8.drewN m9).call hb10 z8
    have z10 := Nat.le_trans z8 hb10.size
    have o5b := own_below (w := World.drewN w8 m9) o5 hb10
    have o4b := own_below (w := World.drewN w8 m9) o4 hb10
    go_wp2_with fail
    refine (sameDated_eq (Shows.of_own o5b) (Shows.of_own ho10) rfl hsl).mono ?_
    rintro e w11 ⟨rfl, m11, rfl⟩
    have bel11 := bel_drewN bel10 m11
    go_wp2_with fail
    have o5c : (World.drewN w10 m11).ownsRow w4.heap.size 31 2 (.slice Ay sho.length cy) sho.length (DC sho) := o5b
    have o4c : (World.drewN w10 m11).ownsRow w3.heap.size 31 2 (.slice Ax bet.length cx) bet.length (DC bet) := o4b
    have k11 := k10.drewN m11
    refine (over_any _ _ _ _ bet _ o4c).mono ?_
    rintro e w12 ⟨rfl, hg12⟩
    have bel12 := bel_grown bel11 hg12 (fun k hk => by have := (ho4.lt k hk).1; have := bel3.size; omega)
    have k12 := k11.below (below_grown (Below.refl _ _) hg12 z10 (fun k hk => by have := (ho4.lt k hk).1; omega))
    have o5d := own_grown o5c hg12 (fun k hk => (ho4.lt k hk).2)
    have z12 : w1.heap.size ≤ w12.heap.size := Nat.le_trans z10 hg12.size
    clear o4 o4b o4c o5 o5b o5c ho8 ho10
    go_wp2_with fail
    refine (over_any _ _ _ _ sho _ o5d).mono ?_
    rintro e w13 ⟨rfl, hg13⟩
    have bel13 := bel_grown bel12 hg13 (fun k hk => by have := (ho5.lt k hk).1; have := bel4.size; omega)
    have k13 := k12.below (below_grown (Below.refl _ _) hg13 z12 (fun k hk => by have := (ho5.lt k hk).1; omega))
    go_wp2_with fail
    refine (sameDated_eq k13 (ha.call bel13 hB) rfl hm).mono ?_
    rintro e w14 ⟨rfl, m14, rfl⟩
    have bel14 := bel_drewN bel13 m14
    go_wp2_with fail
    refine (awake_true _).mono ?_
    rintro e w15 ⟨rfl, hb15⟩
    go_wp2_with fail
    go_ret
    exact ⟨rfl, bel_call bel14 hb15⟩
end Go.Proofs.Ytoedhcenmbpeeaa
