/- The walk of the statement 'OctetNone'. -/
import Derived.Test.YtnhiipiciondoaaRdNone
import Derived.Test.YtnhiipiciondoaaOctAwake
namespace Go.Proofs.Ytnhiipiciondoaa
open Go.RowKit Go.Lib

set_option maxRecDepth 100000 in
set_option maxHeartbeats 8000000 in
theorem onone_walk (low high : Int) (w : World) (_ : -9223372036854775808 ≤ low ∧ low ≤ 9223372036854775807) (_ : -9223372036854775808 ≤ high ∧ high ≤ 9223372036854775807) :
    Calls Try.prog 9 #[.int .i64 low, .int .i64 high] w fun e w' => e = .returned (.bool true) ∧ Below w.heap.size w w' := by
  have hN0 : NoRd none ((w.alloc (.cells #[.slice none 0 0, .int .i64 0, .int .i64 0, .int .i64 0, .bool false] 53)).alloc (.cells #[.pointer none, .pointer (some ⟨w.heap.size, 0, none⟩)] 48)) := NoRd.nil _
  have hN1 : NoRd (some ⟨w.heap.size, 0, none⟩) ((w.alloc (.cells #[.slice none 0 0, .int .i64 0, .int .i64 0, .int .i64 0, .bool false] 53)).alloc (.cells #[.pointer none, .pointer (some ⟨w.heap.size, 0, none⟩)] 48)) := NoRd.zero (A := none) (n := 0) (c := 0) (at_ := 0) (fe := 0) (fa := 0) ((Block.new w 53 [.slice none 0 0, .int .i64 0, .int .i64 0, .int .i64 0, .bool false]).alloc _)
  have hS : Block ((w.alloc (.cells #[.slice none 0 0, .int .i64 0, .int .i64 0, .int .i64 0, .bool false] 53)).alloc (.cells #[.pointer none, .pointer (some ⟨w.heap.size, 0, none⟩)] 48)) (w.heap.size + 1) 48 [.pointer none, .pointer (some ⟨w.heap.size, 0, none⟩)] := block_top (by simp)
  have bel0 := bel_alloc (bel_alloc (Below.refl _ w) (.cells #[.slice none 0 0, .int .i64 0, .int .i64 0, .int .i64 0, .bool false] 53)) (.cells #[.pointer none, .pointer (some ⟨w.heap.size, 0, none⟩)] 48)
  go_enter Try.func9, Try.ntmps9
  go_wp2_with fail
  go_loopw [6] (fun i wr => ∃ k : Nat, k ≤ 2 ∧ i = .int .i64 k ∧ Below (World.heap ((w.alloc (.cells #[.slice none 0 0, .int .i64 0, .int .i64 0, .int .i64 0, .bool false] 53)).alloc (.cells #[.pointer none, .pointer (some ⟨w.heap.size, 0, none⟩)] 48))).size ((w.alloc (.cells #[.slice none 0 0, .int .i64 0, .int .i64 0, .int .i64 0, .bool false] 53)).alloc (.cells #[.pointer none, .pointer (some ⟨w.heap.size, 0, none⟩)] 48)) wr) (fun i _ => 3 - (intOf i).toNat)
  case atStart => exact ⟨0, by omega, rfl, Below.refl _ _⟩
  case round =>
    obtain ⟨k, hk, rfl, hbel⟩ := hrel
    have hs := hS.call hbel
    have s0 : wr.cell? ⟨w.heap.size + 1, 0, none⟩ = some (.pointer none) := hs.cell 0
    have s1 : wr.cell? ⟨w.heap.size + 1, 1, none⟩ = some (.pointer (some ⟨w.heap.size, 0, none⟩)) := hs.cell 1
    rcases (by omega : k = 0 ∨ k = 1 ∨ k = 2) with rfl | rfl | rfl
    · have hN : NoRd none (World.drew (wr.alloc (.cells #[.int .i64 1, .int .i64 0] 37))) := NoRd.call hN0 (bel_drewN (bel_call hbel (bel_alloc (Below.refl _ _) _)) 1)
      have h8 : Block (World.drew (wr.alloc (.cells #[.int .i64 1, .int .i64 0] 37))) wr.heap.size 37 [.int .i64 1, .int .i64 0] := Block.new wr _ _
      go_wp2_with fail
      go_region_held3 (fun w' => w'.cell? ⟨wr.heap.size, 0, none⟩ = some (.int .i64 1) ∧ w'.cell? ⟨wr.heap.size, 1, none⟩ = some (.int .i64 0)) (go_keep) (first
        | (go_at_call 34; refine (int_none none _ _ _ hN).mono ?_; rintro e w2 ⟨rfl, hb2⟩; have n2 := hN.call hb2; have b2 := h8.call hb2; have x2 : w2.cell? ⟨wr.heap.size, 0, none⟩ = some (.int .i64 1) := b2.cell 0; have y2 : w2.cell? ⟨wr.heap.size, 1, none⟩ = some (.int .i64 0) := b2.cell 1)
        | (go_at_call 37; refine (text_none none _ _ n2).mono ?_; rintro e w3 ⟨rfl, hb3⟩; have n3 := n2.call hb3; have b3 := b2.call hb3; have x3 : w3.cell? ⟨wr.heap.size, 0, none⟩ = some (.int .i64 1) := b3.cell 0; have y3 : w3.cell? ⟨wr.heap.size, 1, none⟩ = some (.int .i64 0) := b3.cell 1)
        | (go_at_call 38; refine (count_none none _ _ n3).mono ?_; rintro e w4 ⟨rfl, hb4⟩; have n4 := n3.call hb4; have b4 := b3.call hb4; have x4 : w4.cell? ⟨wr.heap.size, 0, none⟩ = some (.int .i64 1) := b4.cell 0; have y4 : w4.cell? ⟨wr.heap.size, 1, none⟩ = some (.int .i64 0) := b4.cell 1)
        | (go_at_call 35; refine (at_none none _ n4).mono ?_; rintro e w4' ⟨rfl, rfl⟩)
        | (go_at_call 36; refine (rfault_none none _ n4).mono ?_; rintro e w5 ⟨rfl, hb5⟩; have n5 := n4.call hb5; have b5 := b4.call hb5; have x5 : w5.cell? ⟨wr.heap.size, 0, none⟩ = some (.int .i64 1) := b5.cell 0; have y5 : w5.cell? ⟨wr.heap.size, 1, none⟩ = some (.int .i64 0) := b5.cell 1)
        | (go_at_call 39; refine (end_none none _ n5).mono ?_; rintro e w6 ⟨rfl, hb6⟩; have b6 := b5.call hb6; have x6 : w6.cell? ⟨wr.heap.size, 0, none⟩ = some (.int .i64 1) := b6.cell 0; have y6 : w6.cell? ⟨wr.heap.size, 1, none⟩ = some (.int .i64 0) := b6.cell 1))
      go_wp2_with fail
      go_roundw
      case rel => exact ⟨1, by omega, by first | rfl | go_num, bel_call (bel_call (bel_call (bel_call (bel_call (bel_drewN (bel_call hbel (bel_alloc (Below.refl _ _) _)) 1) hb2) hb3) hb4) hb5) hb6⟩
      case measure => simp [intOf]
    · have hN : NoRd (some ⟨w.heap.size, 0, none⟩) (World.drew (wr.alloc (.cells #[.int .i64 1, .int .i64 0] 37))) := NoRd.call hN1 (bel_drewN (bel_call hbel (bel_alloc (Below.refl _ _) _)) 1)
      have h8 : Block (World.drew (wr.alloc (.cells #[.int .i64 1, .int .i64 0] 37))) wr.heap.size 37 [.int .i64 1, .int .i64 0] := Block.new wr _ _
      go_wp2_with fail
      go_region_held3 (fun w' => w'.cell? ⟨wr.heap.size, 0, none⟩ = some (.int .i64 1) ∧ w'.cell? ⟨wr.heap.size, 1, none⟩ = some (.int .i64 0)) (go_keep) (first
        | (go_at_call 34; refine (int_none (some ⟨w.heap.size, 0, none⟩) _ _ _ hN).mono ?_; rintro e w2 ⟨rfl, hb2⟩; have n2 := hN.call hb2; have b2 := h8.call hb2; have x2 : w2.cell? ⟨wr.heap.size, 0, none⟩ = some (.int .i64 1) := b2.cell 0; have y2 : w2.cell? ⟨wr.heap.size, 1, none⟩ = some (.int .i64 0) := b2.cell 1)
        | (go_at_call 37; refine (text_none (some ⟨w.heap.size, 0, none⟩) _ _ n2).mono ?_; rintro e w3 ⟨rfl, hb3⟩; have n3 := n2.call hb3; have b3 := b2.call hb3; have x3 : w3.cell? ⟨wr.heap.size, 0, none⟩ = some (.int .i64 1) := b3.cell 0; have y3 : w3.cell? ⟨wr.heap.size, 1, none⟩ = some (.int .i64 0) := b3.cell 1)
        | (go_at_call 38; refine (count_none (some ⟨w.heap.size, 0, none⟩) _ _ n3).mono ?_; rintro e w4 ⟨rfl, hb4⟩; have n4 := n3.call hb4; have b4 := b3.call hb4; have x4 : w4.cell? ⟨wr.heap.size, 0, none⟩ = some (.int .i64 1) := b4.cell 0; have y4 : w4.cell? ⟨wr.heap.size, 1, none⟩ = some (.int .i64 0) := b4.cell 1)
        | (go_at_call 35; refine (at_none (some ⟨w.heap.size, 0, none⟩) _ n4).mono ?_; rintro e w4' ⟨rfl, rfl⟩)
        | (go_at_call 36; refine (rfault_none (some ⟨w.heap.size, 0, none⟩) _ n4).mono ?_; rintro e w5 ⟨rfl, hb5⟩; have n5 := n4.call hb5; have b5 := b4.call hb5; have x5 : w5.cell? ⟨wr.heap.size, 0, none⟩ = some (.int .i64 1) := b5.cell 0; have y5 : w5.cell? ⟨wr.heap.size, 1, none⟩ = some (.int .i64 0) := b5.cell 1)
        | (go_at_call 39; refine (end_none (some ⟨w.heap.size, 0, none⟩) _ n5).mono ?_; rintro e w6 ⟨rfl, hb6⟩; have b6 := b5.call hb6; have x6 : w6.cell? ⟨wr.heap.size, 0, none⟩ = some (.int .i64 1) := b6.cell 0; have y6 : w6.cell? ⟨wr.heap.size, 1, none⟩ = some (.int .i64 0) := b6.cell 1))
      go_wp2_with fail
      go_roundw
      case rel => exact ⟨2, by omega, by first | rfl | go_num, bel_call (bel_call (bel_call (bel_call (bel_call (bel_drewN (bel_call hbel (bel_alloc (Below.refl _ _) _)) 1) hb2) hb3) hb4) hb5) hb6⟩
      case measure => simp [intOf]
    · go_wp2_with fail
      refine (awake_true _).mono ?_
      rintro e w1 ⟨rfl, hb1⟩
      go_wp2_with fail
      go_ret
      exact ⟨rfl, bel_call (bel_call bel0 hbel) hb1⟩
end Go.Proofs.Ytnhiipiciondoaa
