/- The walk of the statement 'HolidayKnown'. -/
import Derived.Test.YtfgpndmlellidaaHolLaw
namespace Go.Proofs.Ytfgpndmlellidaa
open Go.RowKit

theorem sk1 : Hol.hand2 (Hol.nextF smp 1 7 0) = (10, true) := by decide +kernel
theorem sk2 : Hol.hand2 (Hol.nextF smp 1 7 13) = (0, false) := by decide +kernel
def smp2 : List S6 := [S6.mk 1 0 10 12 2 50, S6.mk 1 0 12 13 1 0]
def smp3 : List S6 := [S6.mk 1 0 0 0 3 0]
theorem sk3 : Hol.chk smp2 = (2, 1) := by decide +kernel
theorem sk4 : Hol.chk smp3 = (2, 0) := by decide +kernel
theorem sk5 : Hol.baseF smp 1 7 11 (-1) = (0, 5) := by decide +kernel
theorem sk6 : Hol.baseF smp 1 8 13 80 = (80, 0) := by decide +kernel
theorem sk7 : Hol.baseF smp 2 7 11 5 = (5, 0) := by decide +kernel
theorem shows_blk {w : World} {g : Nat} {l : List S6} {k : Nat} (h : Block w g 28 (RC l)) (hl : l.length = k) : Shows w (g + 1) 6 (some ⟨g, 0, none⟩) k (RC l) := h.shows (by rw [rc_len, hl])
set_option maxRecDepth 100000 in
set_option maxHeartbeats 8000000 in
theorem hknown_walk (w : World) : Calls Try.prog 5 #[] w fun e w' => e = .returned (.bool true) ∧ Below w.heap.size w w' := by
  have hm : (2 : Nat) ≤ maxLen := by unfold maxLen; omega
  have hm1 : (1 : Nat) ≤ maxLen := by unfold maxLen; omega
  go_enter Try.func5, Try.ntmps5
  go_wp2_with fail
  refine (sample_any _).mono ?_
  rintro e w1 ⟨rfl, rfl⟩
  go_wp2_with fail
  refine (next_any _ 2 2 smp 1 7 0 _ _ (smp_shows w) (by simp) hm sk1).mono ?_
  rintro e w2 ⟨rfl, hb2⟩
  have bel2 := bel_call (bel_alloc (Below.refl _ w) _) hb2
  go_wp2_with fail
  refine (sample_any _).mono ?_
  rintro e w3 ⟨rfl, rfl⟩
  go_wp2_with fail
  refine (next_any _ 2 2 smp 1 7 13 _ _ (smp_shows w2) (by simp) hm sk2).mono ?_
  rintro e w4 ⟨rfl, hb4⟩
  have bel4 := bel_call (bel_alloc bel2 _) hb4
  go_wp2_with fail
  refine (sample_any _).mono ?_
  rintro e w5 ⟨rfl, rfl⟩
  have hsm : Block (w4.alloc (.cells smpCells 28)) w4.heap.size 28 (RC smp) := Block.new w4 _ (RC smp)
  have c0 : (w4.alloc (.cells smpCells 28)).cell? ⟨w4.heap.size, 0, none⟩ = some (.int .i64 1) := hsm.cell 0
  have c1 : (w4.alloc (.cells smpCells 28)).cell? ⟨w4.heap.size, 1, none⟩ = some (.int .i64 0) := hsm.cell 1
  have c2 : (w4.alloc (.cells smpCells 28)).cell? ⟨w4.heap.size, 2, none⟩ = some (.int .i64 10) := hsm.cell 2
  have c3 : (w4.alloc (.cells smpCells 28)).cell? ⟨w4.heap.size, 3, none⟩ = some (.int .i64 12) := hsm.cell 3
  have c4 : (w4.alloc (.cells smpCells 28)).cell? ⟨w4.heap.size, 4, none⟩ = some (.int .i64 2) := hsm.cell 4
  have c5 : (w4.alloc (.cells smpCells 28)).cell? ⟨w4.heap.size, 5, none⟩ = some (.int .i64 50) := hsm.cell 5
  have bel5 := bel_alloc bel4 (.cells smpCells 28)
  generalize w4.alloc (.cells smpCells 28) = w5 at *
  clear hsm
  go_wp2_with fail
  have k6 := Block.new w5 28 (RC smp2)
  have hc := check_any _ 2 2 smp2 _ _ (shows_blk k6 rfl) (by simp) hm
  rw [sk3] at hc
  refine hc.mono ?_
  rintro e w7 ⟨rfl, hb7⟩
  have bel7 := bel_call (bel_alloc bel5 _) hb7
  clear hc k6
  go_wp2_with fail
  have k8 := Block.new w7 28 (RC smp3)
  have hc := check_any _ 1 1 smp3 _ _ (shows_blk k8 rfl) (by simp) hm1
  rw [sk4] at hc
  refine hc.mono ?_
  rintro e w9 ⟨rfl, hb9⟩
  have bel9 := bel_call (bel_alloc bel7 _) hb9
  clear hc k8
  go_wp2_with fail
  refine (sample_any _).mono ?_
  rintro e w10 ⟨rfl, rfl⟩
  have hb := base_any _ 2 2 smp 1 7 11 (-1) _ _ (smp_shows w9) (by simp) hm
  rw [sk5] at hb
  go_wp2_with fail
  refine hb.mono ?_
  rintro e w11 ⟨rfl, hb11⟩
  have bel11 := bel_call (bel_alloc bel9 _) hb11
  clear hb
  go_wp2_with fail
  refine (awake_true _).mono ?_
  rintro e w12 ⟨rfl, hb12⟩
  have bel12 := bel_call bel11 hb12
  go_wp2_with fail
  refine (lawbase_yes 1 8 13 80 80 _ sk6).mono ?_
  rintro e w13 ⟨rfl, hb13⟩
  have bel13 := bel_call bel12 hb13
  go_wp2_with fail
  refine (lawbase_yes 2 7 11 5 5 _ sk7).mono ?_
  rintro e w14 ⟨rfl, hb14⟩
  have bel14 := bel_call bel13 hb14
  go_wp2_with fail
  go_ret
  exact ⟨rfl, bel14⟩
end Go.Proofs.Ytfgpndmlellidaa
