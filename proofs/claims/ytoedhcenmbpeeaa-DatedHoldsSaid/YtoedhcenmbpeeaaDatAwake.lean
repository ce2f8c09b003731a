/- The walks of chapter 19's 'sample', 'at', 'awake'. -/
import Derived.Test.YtoedhcenmbpeeaaDatShort2
namespace Go.Proofs.Ytoedhcenmbpeeaa
open Go.RowKit

def smp : List (Int × Int) := [(10, 5), (20, 7), (30, 7)]
theorem smp_fits : Fits smp := by unfold Fits smp; decide
set_option maxRecDepth 100000 in
set_option maxHeartbeats 1000000 in
theorem sample_any (w : World) : Calls Try.prog 25 #[] w fun e w' => e = .returned (.slice (some ⟨w.heap.size, 0, none⟩) 3 3) ∧ w' = w.alloc (.cells #[.int .i64 10, .int .i64 5, .int .i64 20, .int .i64 7, .int .i64 30, .int .i64 7] 31) := by
  go_enter Try.func25, Try.ntmps25
  go_wp2_with fail
  go_ret
  exact ⟨rfl, rfl⟩
theorem smp_shows (w : World) : Shows (w.alloc (.cells #[.int .i64 10, .int .i64 5, .int .i64 20, .int .i64 7, .int .i64 30, .int .i64 7] 31)) (w.heap.size + 1) 2 (some ⟨w.heap.size, 0, none⟩) 3 (DC smp) :=
  (show Block _ w.heap.size 31 (DC smp) from Block.new w _ (DC smp)).shows rfl
set_option maxRecDepth 100000 in
set_option maxHeartbeats 1000000 in
theorem lawat_yes (A : Option Addr) (n c : Nat) (l : List (Int × Int)) (day want : Int) (B : Nat) (w : World) (ha : Shows w B 2 A n (DC l)) (hB : B ≤ w.heap.size) (hn : n ≤ maxLen) (hx : Fits l) (h : Dat.atF l day = (want, true)) :
    Calls Try.prog 26 #[.slice A n c, .int .i64 day, .int .i64 want] w fun e w' => e = .returned (.bool true) ∧ Below w.heap.size w w' := by
  have hat := at_any A n c l day B w ha hB hn hx
  rw [h] at hat
  clear h ha
  go_enter Try.func26, Try.ntmps26
  go_wp2_with fail
  refine hat.mono ?_
  rintro e w1 ⟨rfl, hb1⟩
  go_wp2_with fail
  go_ret
  exact ⟨rfl, hb1⟩
theorem sa1 : Dat.atF smp 9 = (0, false) := by decide +kernel
theorem sa2 : Dat.atF smp 10 = (5, true) := by decide +kernel
theorem sa3 : Dat.atF smp 25 = (7, true) := by decide +kernel
theorem sa4 : Dat.chk smp = 0 := by decide +kernel
theorem sa5 : Dat.shortF smp = smp.take 2 := by decide +kernel
set_option maxRecDepth 100000 in
set_option maxHeartbeats 4000000 in
theorem awake_true (w : World) : Calls Try.prog 9 #[] w fun e w' => e = .returned (.bool true) ∧ Below w.heap.size w w' := by
  have hm : (3 : Nat) ≤ maxLen := by unfold maxLen; omega
  have hcut := fun (g : Nat) (w : World) => cut_to (P := Try.prog) 2 Try.underlying22 size_dated (some ⟨g, 0, none⟩) 3 3 2 (by omega) w
  go_enter Try.func9, Try.ntmps9
  go_wp2_with fail
  refine (sample_any _).mono ?_
  rintro e w1 ⟨rfl, rfl⟩
  go_wp2_with fail
  have ha := at_any (some ⟨w.heap.size, 0, none⟩) 3 3 smp 9 _ _ (smp_shows w) (by simp) hm smp_fits
  rw [sa1] at ha
  refine ha.mono ?_
  rintro e w2 ⟨rfl, hb2⟩
  have bel2 := bel_call (bel_alloc (Below.refl _ w) _) hb2
  clear ha hb2
  go_wp2_with fail
  refine (sample_any _).mono ?_
  rintro e w3 ⟨rfl, rfl⟩
  go_wp2_with fail
  refine (lawat_yes _ 3 3 smp 10 5 _ _ (smp_shows w2) (by simp) hm smp_fits sa2).mono ?_
  rintro e w4 ⟨rfl, hb4⟩
  have bel4 := bel_call (bel_alloc bel2 _) hb4
  go_wp2_with fail
  refine (sample_any _).mono ?_
  rintro e w5 ⟨rfl, rfl⟩
  go_wp2_with fail
  refine (lawat_yes _ 3 3 smp 25 7 _ _ (smp_shows w4) (by simp) hm smp_fits sa3).mono ?_
  rintro e w6 ⟨rfl, hb6⟩
  have bel6 := bel_call (bel_alloc bel4 _) hb6
  go_wp2_with fail
  refine (sample_any _).mono ?_
  rintro e w7 ⟨rfl, rfl⟩
  go_wp2_with fail
  have hc := check_any (some ⟨w6.heap.size, 0, none⟩) 3 3 smp _ _ (smp_shows w6) (by simp) hm smp_fits
  rw [sa4] at hc
  refine hc.mono ?_
  rintro e w8 ⟨rfl, hb8⟩
  have bel8 := bel_call (bel_alloc bel6 _) hb8
  clear hc
  go_wp2_with fail
  refine (sample_any _).mono ?_
  rintro e w9 ⟨rfl, rfl⟩
  go_wp2_with fail
  have hs := short_any (some ⟨w8.heap.size, 0, none⟩) 3 3 smp _ _ (smp_shows w8) (by simp) (by omega) smp_fits
  rw [sa5] at hs
  refine hs.mono ?_
  rintro e w10 ⟨A10, c10, rfl, ho10, hb10⟩
  have bel10 := bel_call (bel_alloc bel8 _) hb10
  clear hs
  go_wp2_with fail
  refine (sample_any _).mono ?_
  rintro e w11 ⟨rfl, rfl⟩
  have hx1 := (Shows.of_own ho10).alloc (Nat.le_refl _) (.cells #[.int .i64 10, .int .i64 5, .int .i64 20, .int .i64 7, .int .i64 30, .int .i64 7] 31)
  have hx2 := (smp_shows w10).take (h := 2) (by omega)
  rw [dc_take] at hx2
  go_wp2_with fail
  refine (sameDated_eq hx1 hx2 rfl (by unfold maxLen; decide)).mono ?_
  rintro e w12 ⟨rfl, m, rfl⟩
  go_wp2_with fail
  go_ret
  exact ⟨rfl, bel_drewN (bel_alloc bel10 _) m⟩
end Go.Proofs.Ytoedhcenmbpeeaa
