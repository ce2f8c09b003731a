/- The walk of the statement 'MatrixKnown'. -/
import Derived.Test.YtiomkbpniplfhaaMatLaw
namespace Go.Proofs.Ytiomkbpniplfhaa
open Go.RowKit

theorem sample_lit (w : World) : Calls Try.prog 20 #[] w fun e w' => e = .returned (.slice (some ⟨w.heap.size, 0, none⟩) 3 3) ∧ w' = w.alloc (.cells #[.int .i64 1, .int .i64 0, .int .i64 10, .int .i64 1, .int .i64 0, .int .i64 0, .int .i64 1, .int .i64 7, .int .i64 10, .int .i64 4, .int .i64 0, .int .i64 100, .int .i64 1, .int .i64 7, .int .i64 20, .int .i64 2, .int .i64 0, .int .i64 0] 28) := sample_any w
def smp0 : S6 := S6.mk 1 0 10 1 0 0
def over : S6 := S6.mk 1 0 0 5 0 100
def own5 : S6 := S6.mk 0 0 0 3 5 0
def bad1 : S6 := S6.mk 1 0 0 1 1 0
theorem sk1 : Mat.baseF smp0 (-1) = (0, 5) := by decide +kernel
theorem sk2 : Mat.chk [smp1, smp1] = (2, 1) := by decide +kernel
theorem sk3 : Mat.chk [bad1] = (2, 0) := by decide +kernel
theorem sk4 : (match Mat.asF smp 2 7 15 with | some x => x.d | none => 0) = 0 := by decide +kernel
theorem sk5 : Mat.baseF smp1 80 = (0, 0) := by decide +kernel
theorem sk6 : Mat.baseF over 100 = (0, 0) := by decide +kernel
theorem sk7 : Mat.baseF over 101 = (101, 0) := by decide +kernel
theorem sk8 : Mat.rateF own5 9 = 5 := by decide +kernel
theorem sk9 : Mat.rateF smp0 9 = 9 := by decide +kernel
theorem shows_blk {w : World} {g : Nat} {l : List S6} {k : Nat} (h : Block w g 28 (RC l)) (hl : l.length = k) : Shows w (g + 1) 6 (some ⟨g, 0, none⟩) k (RC l) := h.shows (by rw [rc_len, hl])
theorem chk_two (g : Nat) (w : World) (h : Block w g 28 (RC [smp1, smp1])) : Calls Try.prog 11 #[.slice (some ⟨g, 0, none⟩) 2 2] w fun e w' => e = .returned (.tuple #[.int .i64 2, .int .i64 1]) ∧ Below w.heap.size w w' := by
  have hc := check_any _ 2 2 [smp1, smp1] _ w (shows_blk h rfl) h.lt (by unfold maxLen; omega)
  rw [sk2] at hc
  exact hc
set_option maxRecDepth 100000 in
set_option maxHeartbeats 8000000 in
theorem mknown_walk (w : World) : Calls Try.prog 5 #[] w fun e w' => e = .returned (.bool true) ∧ Below w.heap.size w w' := by
  have hm1 : (1 : Nat) ≤ maxLen := by unfold maxLen; omega
  go_enter Try.func5, Try.ntmps5
  go_wp2_with fail
  refine (sample_any _).mono ?_
  rintro e w1 ⟨rfl, rfl⟩
  have bel1 := bel_alloc (bel_alloc (Below.refl _ w) (.cells over.cs.toArray 28)) (.cells smpCells 28)
  have ko1 : Block ((w.alloc (.cells over.cs.toArray 28)).alloc (.cells smpCells 28)) w.heap.size 28 over.cs := (Block.new w 28 over.cs).alloc _
  have ks1 := smp_block (w.alloc (.cells over.cs.toArray 28))
  obtain ⟨w1, hw1⟩ : ∃ w1, (w.alloc (.cells #[.int .i64 1, .int .i64 0, .int .i64 0, .int .i64 5, .int .i64 0, .int .i64 100] 28)).alloc (.cells smpCells 28) = w1 := ⟨_, rfl⟩
  have bel1 : Below w.heap.size w w1 := hw1 ▸ bel1
  have ko1 : Block w1 w.heap.size 28 over.cs := hw1 ▸ ko1
  have ks1 : Block w1 (w.heap.size + 1) 28 (RC smp) := by
    have := hw1 ▸ ks1
    simpa using this
  rw [hw1]
  clear hw1
  have c0 : w1.cell? ⟨w.heap.size + 1, 0, none⟩ = some (.int .i64 1) := (ks1).cell 0
  have c1 : w1.cell? ⟨w.heap.size + 1, 1, none⟩ = some (.int .i64 0) := (ks1).cell 1
  have c2 : w1.cell? ⟨w.heap.size + 1, 2, none⟩ = some (.int .i64 10) := (ks1).cell 2
  have c3 : w1.cell? ⟨w.heap.size + 1, 3, none⟩ = some (.int .i64 1) := (ks1).cell 3
  have c4 : w1.cell? ⟨w.heap.size + 1, 4, none⟩ = some (.int .i64 0) := (ks1).cell 4
  have c5 : w1.cell? ⟨w.heap.size + 1, 5, none⟩ = some (.int .i64 0) := (ks1).cell 5
  go_wp2_with fail
  have hb := fun w => base_any smp0 (-1) w
  rw [sk1] at hb
  refine (hb _).mono ?_
  rintro e w2 ⟨rfl, hb2⟩
  have bel2 := bel_call bel1 hb2
  have ko2 := ko1.call hb2
  clear hb c0 c1 c2 c3 c4 c5 ks1 ko1
  go_upto_region 3 with (fail)
  go_cut [4, 5] (fun s4 s5 wx => s4 = .int .i64 2 ∧ s5 = .int .i64 1 ∧ Block wx w.heap.size 28 over.cs ∧ Below w.heap.size w wx)
  case first =>
    go_region_with (first
      | (go_at_call 20; refine (sample_lit _).mono ?_; rintro e w3 ⟨rfl, rfl⟩)
      | (go_at_call 11; refine (chk_two _ _ (Block.drew (block_top (by simp)))).mono ?_; rintro e w5 ⟨rfl, hb5⟩))
    all_goals
      go_wp2_with fail
      go_meet
      exact ⟨rfl, rfl, Block.call (Block.drew (Block.alloc (Block.alloc (Block.alloc ko2 _) _) _)) hb5, bel_call (bel_drewN (bel_alloc (bel_alloc (bel_alloc bel2 _) _) _) 1) hb5⟩
  case rest =>
    obtain ⟨rfl, rfl, kox, belx⟩ := hcut
    go_wp2_with fail
    have k6 := Block.new wc 28 (RC [bad1])
    have hc := check_any _ 1 1 [bad1] _ _ (shows_blk k6 rfl) (by simp) hm1
    rw [sk3] at hc
    refine hc.mono ?_
    rintro e w6 ⟨rfl, hb6⟩
    have bel6 := bel_call (bel_alloc belx _) hb6
    have ko6 := (kox.alloc _).call hb6
    clear hc k6
    go_wp2_with fail
    refine (mode_any 2 7 15 0 _ sk4).mono ?_
    rintro e w7 ⟨rfl, hb7⟩
    have bel7 := bel_call bel6 hb7
    have ko7 := ko6.call hb7
    go_wp2_with fail
    refine (sample_any _).mono ?_
    rintro e wz ⟨rfl, rfl⟩
    have bel8 := bel_alloc bel7 (.cells smpCells 28)
    have ko8 := (ko7).alloc (.cells smpCells 28)
    have ks := smp_block w7
    obtain ⟨w8, hw⟩ : ∃ w', w7.alloc (.cells smpCells 28) = w' := ⟨_, rfl⟩
    rw [hw] at bel8 ko8 ks ⊢
    clear hw
    have c0 : w8.cell? ⟨w7.heap.size, 6, none⟩ = some (.int .i64 1) := (ks).cell 6
    have c1 : w8.cell? ⟨w7.heap.size, 7, none⟩ = some (.int .i64 7) := (ks).cell 7
    have c2 : w8.cell? ⟨w7.heap.size, 8, none⟩ = some (.int .i64 10) := (ks).cell 8
    have c3 : w8.cell? ⟨w7.heap.size, 9, none⟩ = some (.int .i64 4) := (ks).cell 9
    have c4 : w8.cell? ⟨w7.heap.size, 10, none⟩ = some (.int .i64 0) := (ks).cell 10
    have c5 : w8.cell? ⟨w7.heap.size, 11, none⟩ = some (.int .i64 100) := (ks).cell 11
    go_wp2_with fail
    refine (lawbase_yes smp1 80 0 _ sk5).mono ?_
    rintro e w9 ⟨rfl, hb9⟩
    have bel9 := bel_call bel8 hb9
    have ko9 := ko8.call hb9
    clear c0 c1 c2 c3 c4 c5 ks
    obtain ⟨o0, o1, o2, o3, o4, o5⟩ := Block.six ko9
    have o0 : w9.cell? ⟨w.heap.size, 0, none⟩ = some (.int .i64 1) := o0
    have o1 : w9.cell? ⟨w.heap.size, 1, none⟩ = some (.int .i64 0) := o1
    have o2 : w9.cell? ⟨w.heap.size, 2, none⟩ = some (.int .i64 0) := o2
    have o3 : w9.cell? ⟨w.heap.size, 3, none⟩ = some (.int .i64 5) := o3
    have o4 : w9.cell? ⟨w.heap.size, 4, none⟩ = some (.int .i64 0) := o4
    have o5 : w9.cell? ⟨w.heap.size, 5, none⟩ = some (.int .i64 100) := o5
    go_wp2_with fail
    refine (lawbase_yes over 100 0 _ sk6).mono ?_
    rintro e w10 ⟨rfl, hb10⟩
    have bel10 := bel_call bel9 hb10
    have ko10 := ko9.call hb10
    clear o0 o1 o2 o3 o4 o5
    obtain ⟨o0, o1, o2, o3, o4, o5⟩ := Block.six ko10
    have o0 : w10.cell? ⟨w.heap.size, 0, none⟩ = some (.int .i64 1) := o0
    have o1 : w10.cell? ⟨w.heap.size, 1, none⟩ = some (.int .i64 0) := o1
    have o2 : w10.cell? ⟨w.heap.size, 2, none⟩ = some (.int .i64 0) := o2
    have o3 : w10.cell? ⟨w.heap.size, 3, none⟩ = some (.int .i64 5) := o3
    have o4 : w10.cell? ⟨w.heap.size, 4, none⟩ = some (.int .i64 0) := o4
    have o5 : w10.cell? ⟨w.heap.size, 5, none⟩ = some (.int .i64 100) := o5
    go_wp2_with fail
    refine (lawbase_yes over 101 101 _ sk7).mono ?_
    rintro e w11 ⟨rfl, hb11⟩
    have bel11 := bel_call bel10 hb11
    have ko11 := ko10.call hb11
    clear o0 o1 o2 o3 o4 o5
    go_wp2_with fail
    refine (awake_true _).mono ?_
    rintro e w12 ⟨rfl, hb12⟩
    have bel12 := bel_call bel11 hb12
    have ko12 := ko11.call hb12
    go_wp2_with fail
    have hrt := fun w => rate_any own5 9 w
    rw [sk8] at hrt
    refine (hrt _).mono ?_
    rintro e w13 ⟨rfl, hb13⟩
    have bel13 := bel_call bel12 hb13
    have ko13 := ko12.call hb13
    clear hrt
    go_wp2_with fail
    refine (sample_any _).mono ?_
    rintro e wz ⟨rfl, rfl⟩
    have bel14 := bel_alloc bel13 (.cells smpCells 28)
    have ko14 := (ko13).alloc (.cells smpCells 28)
    have ks := smp_block w13
    obtain ⟨w14, hw⟩ : ∃ w', w13.alloc (.cells smpCells 28) = w' := ⟨_, rfl⟩
    rw [hw] at bel14 ko14 ks ⊢
    clear hw
    have c0 : w14.cell? ⟨w13.heap.size, 0, none⟩ = some (.int .i64 1) := (ks).cell 0
    have c1 : w14.cell? ⟨w13.heap.size, 1, none⟩ = some (.int .i64 0) := (ks).cell 1
    have c2 : w14.cell? ⟨w13.heap.size, 2, none⟩ = some (.int .i64 10) := (ks).cell 2
    have c3 : w14.cell? ⟨w13.heap.size, 3, none⟩ = some (.int .i64 1) := (ks).cell 3
    have c4 : w14.cell? ⟨w13.heap.size, 4, none⟩ = some (.int .i64 0) := (ks).cell 4
    have c5 : w14.cell? ⟨w13.heap.size, 5, none⟩ = some (.int .i64 0) := (ks).cell 5
    go_wp2_with fail
    have hrt := fun w => rate_any smp0 9 w
    rw [sk9] at hrt
    refine (hrt _).mono ?_
    rintro e w15 ⟨rfl, hb15⟩
    go_wp2_with fail
    go_ret
    exact ⟨rfl, bel_call bel14 hb15⟩
end Go.Proofs.Ytiomkbpniplfhaa
