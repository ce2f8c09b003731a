/- The walks of 'apportionkit.LentBytes', 'KeptBytes'. -/
import Derived.Test.YtnhiipiciondoaaMem2
import Derived.Test.YtnhiipiciondoaaKitSame
import Derived.Test.YtnhiipiciondoaaKitInts
import Derived.Test.YtnhiipiciondoaaOctPut
import Derived.Deep.RegionWith
import Derived.Deep.RegionHeld3
namespace Go.Proofs.Ytnhiipiciondoaa
open Go.RowKit

/-- What stands behind a lent list of n numbers once j marks are laid. -/
def markB (n j : Nat) : List Int := [if 0 < j then 160 + (n : Int) % 90 else 0, if 1 < j then 160 + ((n : Int) + 1) % 90 else 0, if 2 < j then 160 + ((n : Int) + 2) % 90 else 0]
def lentB (l : List Int) : List Int := l ++ markB l.length 3
theorem lentB_bytes (l : List Int) (h : ∀ x ∈ l, 0 ≤ x ∧ x ≤ 255) : ∀ x ∈ lentB l, 0 ≤ x ∧ x ≤ 255 := by
  intro x hx
  rcases List.mem_append.1 hx with h1 | h1
  · exact h x h1
  · simp only [markB, List.mem_cons, List.not_mem_nil, or_false] at h1
    simp at h1
    omega
theorem markB_step (l : List Int) (n j : Nat) (hn : l.length = n) (hj : j < 3) : (U8 (l ++ markB n j)).set (n + j) (.int .u8 (160 + ((n : Int) + j) % 90)) = U8 (l ++ markB n (j + 1)) := by
  subst hn
  unfold U8
  rw [List.map_append, List.set_append_right _ _ (by simp), List.map_append]
  congr 1
  rw [List.length_map, Nat.add_sub_cancel_left]
  rcases (by omega : j = 0 ∨ j = 1 ∨ j = 2) with rfl | rfl | rfl <;> simp [markB]
theorem madeB8 (k : Nat) : (madeCells (Value.int .u8 0).cells (k * 1)).toList = List.replicate k (.int .u8 0) := by
  simp [Value.cells, toList_madeCells_one]
theorem splice_madeB (l : List Int) (n : Nat) (hn : l.length = n) : splice (List.replicate (n + 3) (Value.int .u8 0)) 0 (U8 l) = U8 (l ++ markB n 0) := by
  subst hn
  rw [show splice (List.replicate (l.length + 3) (Value.int .u8 0)) 0 (U8 l) = U8 l ++ List.replicate 3 (.int .u8 0) by simp [splice, U8]]
  simp [U8, markB, List.replicate_succ]
theorem markB_has (l : List Int) (n j k : Nat) (hn : l.length = n) (hj : j < 3) : ∃ x, (U8 (l ++ markB n k))[n + j]? = some (.int .u8 x) := by
  subst hn
  unfold U8
  rw [List.getElem?_map, List.getElem?_append_right (by omega), Nat.add_sub_cancel_left]
  rcases (by omega : j = 0 ∨ j = 1 ∨ j = 2) with rfl | rfl | rfl <;> exact ⟨_, rfl⟩
set_option maxRecDepth 100000 in
set_option maxHeartbeats 800000 in
theorem lentBytes_any (A : Option Addr) (n c : Nat) (l : List Int) (B : Nat) (w : World) (ha : Shows w B 1 A n (U8 l)) (hB : B ≤ w.heap.size) (hn : n ≤ 65536) :
    Calls Try.prog 22 #[.slice A n c] w fun e w' => ∃ g, e = .returned (.slice (some ⟨g, 0, none⟩) n (n + 3)) ∧ w.heap.size ≤ g ∧ Block w' g 5 (U8 (lentB l)) ∧ Below w.heap.size w w' := by
  obtain ⟨i0, hi, hz0, hz1, hz2⟩ := info_parts infoU8
  have hl : l.length = n := by have := ha.len; simpa [U8] using this
  have Hl := Lib.hid hl
  clear hl
  go_enter Try.func22, Try.ntmps22
  go_wp2_with (first
    | (at_make; refine wpList_make_full _ rfl _ _ 23 rfl w.heap.size 5 i0 _ 1 Try.underlying23 hi hz0 hz1 .i64 .i64 _ _ (n + 3) rfl rfl (by omega) (by omega) (by rw [hz2]; omega) (by unfold maxLen; omega) (Nat.le_refl _) ?_; intro w1 hown hg1; rw [madeB8] at hown; have hblk := own_block hown; have hb1 : Below w.heap.size w w1 := (Below.refl _ _).grown hg1 (Nat.le_refl _) (by simp); clear hown hg1)
    | (refine wpList_copy_splice rfl _ _ _ _ rfl 5 Try.underlying23 (by kernel_rfl) (some ⟨w.heap.size, 0, none⟩) A (n + 3) (n + 3) n c rfl rfl w.heap.size 0 _ 5 hblk (U8 l) ?c1 ?c2 ?c3 (nums_one _ _) w.heap.size w hb1 (Nat.le_refl _) ?_))
  case c1 => have := ha.len; show (U8 l).length = min n (n + 3); omega
  case c2 => exact (ha.below (hb1.mono hB)).source
  case c3 => have := ha.len; simp; omega
  intro w2 hblk2 hb2
  replace hblk2 : Block w2 w.heap.size 5 (U8 (l ++ markB n 0)) := by rw [← splice_madeB l n Hl.out]; exact hblk2.out
  clear hblk hb1 ha
  go_wp2_with fail
  go_loopw [4] (fun i wr => ∃ j, j ≤ 3 ∧ i = .int .i64 ((n + j : Nat) : Int) ∧ Block wr w.heap.size 5 (U8 (l ++ markB n j)) ∧ Below w.heap.size w wr) (fun i _ => n + 3 - (intOf i).toNat)
  case atStart => exact ⟨0, by omega, rfl, hblk2, hb2⟩
  case round =>
    obtain ⟨j, hj, rfl, hbk, hbw⟩ := hrel
    by_cases hlt : j < 3
    · obtain ⟨x, hcell⟩ := markB_has l n j j Hl.out hlt
      rw [← hbk.cell] at hcell
      have hfree := hbk.free (n + j)
      have hs := hbk.set (n + j) (.int .u8 (160 + ((n : Int) + j) % 90))
      rw [markB_step l n j Hl.out hlt] at hs
      have hbs := bel_set hbw (p := ⟨w.heap.size, n + j, none⟩) (Nat.le_refl _) (.int .u8 (160 + ((n : Int) + j) % 90))
      go_wp2_with fail
      go_roundw
      case rel => exact ⟨j + 1, by omega, by go_num, hs, hbs⟩
      case measure => simp [intOf]; omega
    · obtain rfl : j = 3 := by omega
      have k1 := fun w1 => cut_to (P := Try.prog) 1 Try.underlying23 size_u8 (some ⟨w.heap.size, 0, none⟩) (n + 3) (n + 3) n (by omega) w1
      go_wp2_with fail
      go_ret
      exact ⟨w.heap.size, rfl, Nat.le_refl _, by rw [lentB, Hl.out]; exact hbk, hbw⟩
set_option maxRecDepth 100000 in
set_option maxHeartbeats 800000 in
/-- A lent list that was kept. -/
theorem keptBytes_yes (A A' : Option Addr) (n c d : Nat) (l : List Int) (B B' : Nat) (w : World) (hc : c = n + 3) (ha : Shows w B 1 A c (U8 (lentB l))) (hb : Shows w B' 1 A' n (U8 l)) (hB : B ≤ w.heap.size) (hB' : B' ≤ w.heap.size) (hn : n ≤ 65536) (hx : ∀ x ∈ l, 0 ≤ x ∧ x ≤ 255) :
    Calls Try.prog 30 #[.slice A n c, .slice A' n d] w fun e w' => e = .returned (.bool true) ∧ Below w.heap.size w w' := by
  have Hc := Lib.hid hc
  have hcn : c ≤ 65600 := by omega
  clear hc
  have Hsame : Hid (sameB (lentB l) (lentB l) = true) := decide_eq_true rfl
  have Hx := Lib.hid (lentB_bytes l hx)
  clear hx
  have k1 := fun w1 => cut_to (P := Try.prog) 1 Try.underlying23 size_u8 A n c c (Nat.le_refl _) w1
  have k2 := fun g w1 => cut_to (P := Try.prog) 1 Try.underlying23 size_u8 (some ⟨g, 0, none⟩) n (n + 3) (n + 3) (Nat.le_refl _) w1
  simp only [Int.natCast_add, Int.cast_ofNat_Int] at k2
  go_enter Try.func30, Try.ntmps30
  go_wp2_with fail
  have hw := IntWalk.i64_in ((n : Int) + 3) (by omega)
  go_region_held3 (fun _ => True) (exact trivial) (first
    | (go_at_call 22; refine (lentBytes_any _ _ _ l B' _ ?_ ?_ hn).mono ?_; exact hb.drew; exact hB'; rintro e w1 ⟨g, rfl, hg, hblk, hb1⟩)
    | (go_at_call 13; refine (same_is Hsame.out (ha.drew.below (hb1.mono hB)) (hblk.shows (n := n + 3) (by have := hb.len; simp [U8, lentB, markB] at this ⊢; omega)) Hx.out Hx.out).mono ?_; rintro e w2 ⟨rfl, rfl⟩))
  go_wp2_with fail
  go_ret
  exact ⟨rfl, bel_call (w := w) (Below.refl _ _).drew hb1⟩
end Go.Proofs.Ytnhiipiciondoaa
