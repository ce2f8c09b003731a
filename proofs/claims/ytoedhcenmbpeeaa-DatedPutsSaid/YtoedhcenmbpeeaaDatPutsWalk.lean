/- The walk of the statement 'DatedPuts'. -/
import Derived.Test.YtoedhcenmbpeeaaDatRefPut2
namespace Go.Proofs.Ytoedhcenmbpeeaa
open Go.RowKit

set_option maxRecDepth 100000 in
set_option maxHeartbeats 8000000 in
theorem dputs_walk (A : Option Addr) (n c : Nat) (l : List (Int × Int)) (day v : Int) (w : World) (ha : Shows w w.heap.size 2 A n (DC l)) (hx : Fits l) (_ : n ≤ c) (_ : c ≤ maxLen) (_ : -9223372036854775808 ≤ day ∧ day ≤ 9223372036854775807) (_ : -9223372036854775808 ≤ v ∧ v ≤ 9223372036854775807) :
    Calls Try.prog 6 #[.slice A n c, .int .i64 day, .int .i64 v] w fun e w' => e = .returned (.bool true) ∧ Below w.heap.size w w' := by
  have hB : w.heap.size ≤ w.heap.size := Nat.le_refl _
  by_cases h300 : 300 < n
  · go_enter Try.func6, Try.ntmps6
    go_wp2_with fail
    refine (awake_true _).mono ?_
    rintro e w1 ⟨rfl, hb1⟩
    go_wp2_with fail
    go_ret
    exact ⟨rfl, hb1⟩
  · have hm : n ≤ maxLen := by unfold maxLen; omega
    have hpl : (Dat.putF l day v).1.length ≤ maxLen := by
      have h1 := (Dat.dropF_sub l day).length_le
      have h2 := ha.num
      unfold Dat.putF maxLen
      split
      · simp
      · split
        · simp
        · rw [ins_len _ _ _ (Dat.cnt_le _ _)]; omega
    have hdl : (Dat.dropF l day).1.length ≤ maxLen := by
      have h1 := (Dat.dropF_sub l day).length_le
      have h2 := ha.num
      unfold maxLen
      omega
    obtain ⟨P, hP⟩ : ∃ s, Dat.putF l day v = s := ⟨_, rfl⟩
    obtain ⟨D, hD⟩ : ∃ s, Dat.dropF l day = s := ⟨_, rfl⟩
    have hpu := fun A' c' B w' h h' => put_any A' n c' l day v B w' h h' (by omega) hx
    have hrpu := fun A' c' B w' h h' => refPut_any A' n c' l day v B w' h h' (by omega) hx
    have hdr := fun A' c' B w' h h' => drop_any A' n c' l day B w' h h' (by omega) hx
    have hrdr := fun A' c' B w' h h' => refDrop_any A' n c' l day B w' h h' (by omega) hx
    rw [hP] at hpu hrpu hpl
    rw [hD] at hdr hrdr hdl
    clear hP hD
    obtain ⟨pl, pe⟩ := P
    obtain ⟨dl, de⟩ := D
    unfold FreshE at hpu hrpu hdr hrdr
    simp only at hpu hrpu hdr hrdr hpl hdl
    have hcd := copyDated_any A n c l w.heap.size w ha hB (by omega)
    go_enter Try.func6, Try.ntmps6
    go_wp2_with fail
    refine hcd.mono ?_
    rintro e w1 ⟨Ai, ci, rfl, ho1, hb1⟩
    have bel1 := hb1
    have k1 := Shows.of_own ho1
    go_wp2_with fail
    refine (hpu _ _ _ _ k1 (Nat.le_refl _)).mono ?_
    rintro e w2 ⟨Ax, cx, rfl, ho2, hb2⟩
    have bel2 := bel_call bel1 hb2
    have k2 := k1.call hb2 (Nat.le_refl _)
    have z2 := hb2.size
    go_wp2_with fail
    refine (hrpu _ _ _ _ (ha.call bel2 hB) bel2.size).mono ?_
    rintro e w3 ⟨Ay, cy, rfl, ho3, hb3⟩
    have bel3 := bel_call bel2 hb3
    have k3 := k2.call hb3 z2
    have z3 := Nat.le_trans z2 hb3.size
    go_wp2_with fail
    refine (hdr _ _ _ _ k3 z3).mono ?_
    rintro e w4 ⟨Az, cz, rfl, ho4, hb4⟩
    have bel4 := bel_call bel3 hb4
    have k4 := k3.call hb4 z3
    have z4 := Nat.le_trans z3 hb4.size
    go_wp2_with fail
    refine (hrdr _ _ _ _ (ha.call bel4 hB) bel4.size).mono ?_
    rintro e w5 ⟨Au, cu, rfl, ho5, hb5⟩
    have bel5 := bel_call bel4 hb5
    have k5 := k4.call hb5 z4
    have z5 := Nat.le_trans z4 hb5.size
    have x5 := own_below (own_below (own_below ho2 hb3) hb4) hb5
    have y5 := own_below (own_below ho3 hb4) hb5
    have u5 := own_below ho4 hb5
    go_wp2_with fail
    refine (sameDated_eq (Shows.of_own x5) (Shows.of_own y5) rfl hpl).mono ?_
    rintro e w6 ⟨rfl, m6, rfl⟩
    have bel6 := bel_drewN bel5 m6
    go_wp2_with fail
    refine (sameDated_eq (Shows.of_own (show (World.drewN w5 m6).ownsRow _ _ _ _ _ _ from u5)) (Shows.of_own (show (World.drewN w5 m6).ownsRow _ _ _ _ _ _ from ho5)) rfl hdl).mono ?_
    rintro e w7 ⟨rfl, m7, rfl⟩
    have bel7 := bel_drewN bel6 m7
    go_wp2_with fail
    refine (over_any _ _ _ _ pl _ (by exact x5)).mono ?_
    rintro e w8 ⟨rfl, hg8⟩
    have bel8 := bel_grown (w := w) (by first | exact bel7 | exact bel_drewN bel5 _) hg8 (fun k hk => by have := (ho2.lt k hk).1; have := bel1.size; omega)
    have k8 : Shows w8 w1.heap.size 2 Ai n (DC l) := Shows.below (by exact k5) (below_grown (Below.refl w1.heap.size _) hg8 (by exact z5) (fun k hk => (ho2.lt k hk).1))
    have u8 := own_grown (base := w3.heap.size) (by exact u5) hg8 (fun k hk => by have := (ho2.lt k hk).2; have := hb3.size; omega)
    have z8 : w1.heap.size ≤ w8.heap.size := Nat.le_trans z5 hg8.size
    go_wp2_with fail
    refine (over_any _ _ _ _ dl _ u8).mono ?_
    rintro e w9 ⟨rfl, hg9⟩
    have bel9 := bel_grown bel8 hg9 (fun k hk => by have := (ho4.lt k hk).1; have := bel3.size; omega)
    have k9 := k8.below (below_grown (Below.refl _ _) hg9 z8 (fun k hk => by have := (ho4.lt k hk).1; omega))
    go_wp2_with fail
    refine (sameDated_eq k9 (ha.call bel9 hB) rfl hm).mono ?_
    rintro e w10 ⟨rfl, m10, rfl⟩
    have bel10 := bel_drewN bel9 m10
    go_wp2_with fail
    refine (awake_true _).mono ?_
    rintro e w11 ⟨rfl, hb11⟩
    go_wp2_with fail
    go_ret
    exact ⟨rfl, bel_call bel10 hb11⟩
end Go.Proofs.Ytoedhcenmbpeeaa
