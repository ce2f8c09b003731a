/- The walks of 'apportionkit.LentInts', 'SameInts', 'KeptInts'. -/
import Derived.Test.YtnhiipiciondoaaMem2
import Derived.Deep.RegionWith
import Derived.Deep.RegionHeld3
namespace Go.Proofs.Ytnhiipiciondoaa
open Go.RowKit

theorem infoI64 : (Try.prog.info? 3).map (fun i => (i.zero, i.size, i.bytes)) = some (some (.int .i64 0), 1, 8) := by kernel_rfl
theorem size_i64 (w : World) : (sizeOf 3).run Try.prog w = .ok 1 w := by kernel_rfl
/-- What stands behind a lent list of n numbers once j marks are laid. -/
def markI (n j : Nat) : List Int := [if 0 < j then -77 - (n : Int) else 0, if 1 < j then -77 - ((n : Int) + 1) else 0, if 2 < j then -77 - ((n : Int) + 2) else 0]
def lentI (l : List Int) : List Int := l ++ markI l.length 3
theorem markI_step (l : List Int) (n j : Nat) (hn : l.length = n) (hj : j < 3) : (I64 (l ++ markI n j)).set (n + j) (.int .i64 (-77 - ((n : Int) + j))) = I64 (l ++ markI n (j + 1)) := by
  subst hn
  unfold I64
  rw [List.map_append, List.set_append_right _ _ (by simp), List.map_append]
  congr 1
  rw [List.length_map, Nat.add_sub_cancel_left]
  rcases (by omega : j = 0 ∨ j = 1 ∨ j = 2) with rfl | rfl | rfl <;> simp [markI]
theorem madeI (k : Nat) : (madeCells (Value.int .i64 0).cells (k * 1)).toList = List.replicate k (.int .i64 0) := by
  simp [Value.cells, toList_madeCells_one]
theorem splice_made (l : List Int) (n : Nat) (hn : l.length = n) : splice (List.replicate (n + 3) (Value.int .i64 0)) 0 (I64 l) = I64 (l ++ markI n 0) := by
  subst hn
  rw [show splice (List.replicate (l.length + 3) (Value.int .i64 0)) 0 (I64 l) = I64 l ++ List.replicate 3 (.int .i64 0) by simp [splice, I64]]
  simp [I64, markI, List.replicate_succ]
theorem mark_has (l : List Int) (n j k : Nat) (hn : l.length = n) (hj : j < 3) : ∃ x, (I64 (l ++ markI n k))[n + j]? = some (.int .i64 x) := by
  subst hn
  unfold I64
  rw [List.getElem?_map, List.getElem?_append_right (by omega), Nat.add_sub_cancel_left]
  rcases (by omega : j = 0 ∨ j = 1 ∨ j = 2) with rfl | rfl | rfl <;> exact ⟨_, rfl⟩
/-- The cells of what is shown, where they lie. -/
theorem Shows.source {w : World} {B n : Nat} {A : Option Addr} {xs : List Value} (h : Shows w B 1 A n xs) (h0 : 0 < xs.length) : ∃ ad, A = some ad ∧ ∀ (j : Nat) (v : Value), xs[j]? = some v → w.cell? (ad.add j) = some v := by
  obtain ⟨b, off, rfl, _, hc⟩ := h.at_ (by have := h.len; omega)
  refine ⟨_, rfl, fun j v hj => ?_⟩
  have hjl := (List.getElem?_eq_some_iff.1 hj).1
  have e1 : (⟨b, off, none⟩ : Addr).add j = ⟨b, off + j, none⟩ := by unfold Addr.add; split <;> simp_all
  rw [e1, hc j hjl, List.getD, hj]; rfl
set_option maxRecDepth 100000 in
set_option maxHeartbeats 800000 in
theorem lentInts_any (A : Option Addr) (n c : Nat) (l : List Int) (B : Nat) (w : World) (ha : Shows w B 1 A n (I64 l)) (hB : B ≤ w.heap.size) (hn : n ≤ 65536) :
    Calls Try.prog 14 #[.slice A n c] w fun e w' => ∃ g, e = .returned (.slice (some ⟨g, 0, none⟩) n (n + 3)) ∧ w.heap.size ≤ g ∧ Block w' g 3 (I64 (lentI l)) ∧ Below w.heap.size w w' := by
  obtain ⟨i0, hi, hz0, hz1, hz2⟩ := info_parts infoI64
  have hl : l.length = n := by have := ha.len; simpa [I64] using this
  have Hl := Lib.hid hl
  clear hl
  go_enter Try.func14, Try.ntmps14
  go_wp2_with (first
    | (at_make; refine wpList_make_full _ rfl _ _ 27 rfl w.heap.size 3 i0 _ 1 Try.underlying27 hi hz0 hz1 .i64 .i64 _ _ (n + 3) rfl rfl (by omega) (by omega) (by rw [hz2]; omega) (by unfold maxLen; omega) (Nat.le_refl _) ?_; intro w1 hown hg1; rw [madeI] at hown; have hblk := own_block hown; have hb1 : Below w.heap.size w w1 := (Below.refl _ _).grown hg1 (Nat.le_refl _) (by simp); clear hown hg1)
    | (refine wpList_copy_splice rfl _ _ _ _ rfl 3 Try.underlying27 (by kernel_rfl) (some ⟨w.heap.size, 0, none⟩) A (n + 3) (n + 3) n c rfl rfl w.heap.size 0 _ 3 hblk (I64 l) ?c1 ?c2 ?c3 (nums_one _ _) w.heap.size w hb1 (Nat.le_refl _) ?_))
  case c1 => have := ha.len; show (I64 l).length = min n (n + 3); omega
  case c2 => exact (ha.below (hb1.mono hB)).source
  case c3 => have := ha.len; simp; omega
  intro w2 hblk2 hb2
  replace hblk2 : Block w2 w.heap.size 3 (I64 (l ++ markI n 0)) := by rw [← splice_made l n Hl.out]; exact hblk2.out
  clear hblk hb1 ha
  go_wp2_with fail
  go_loopw [4] (fun i wr => ∃ j, j ≤ 3 ∧ i = .int .i64 ((n + j : Nat) : Int) ∧ Block wr w.heap.size 3 (I64 (l ++ markI n j)) ∧ Below w.heap.size w wr) (fun i _ => n + 3 - (intOf i).toNat)
  case atStart => exact ⟨0, by omega, rfl, hblk2, hb2⟩
  case round =>
    obtain ⟨j, hj, rfl, hbk, hbw⟩ := hrel
    by_cases hlt : j < 3
    · obtain ⟨x, hcell⟩ := mark_has l n j j Hl.out hlt
      rw [← hbk.cell] at hcell
      have hfree := hbk.free (n + j)
      have hs := hbk.set (n + j) (.int .i64 (-77 - ((n : Int) + j)))
      rw [markI_step l n j Hl.out hlt] at hs
      have hbs := bel_set hbw (p := ⟨w.heap.size, n + j, none⟩) (Nat.le_refl _) (.int .i64 (-77 - ((n : Int) + j)))
      go_wp2_with fail
      go_roundw
      case rel => exact ⟨j + 1, by omega, by go_num, hs, hbs⟩
      case measure => simp [intOf]; omega
    · obtain rfl : j = 3 := by omega
      have k1 := fun w1 => cut_to (P := Try.prog) 1 Try.underlying27 size_i64 (some ⟨w.heap.size, 0, none⟩) (n + 3) (n + 3) n (by omega) w1
      go_wp2_with fail
      go_ret
      exact ⟨w.heap.size, rfl, Nat.le_refl _, by rw [lentI, Hl.out]; exact hbk, hbw⟩
set_option maxRecDepth 100000 in
set_option maxHeartbeats 800000 in
/-- Two lists of numbers that are the same. -/
theorem sameInts_yes (A A' : Option Addr) (n c d : Nat) (l : List Int) (B B' : Nat) (w : World) (ha : Shows w B 1 A n (I64 l)) (hb : Shows w B' 1 A' n (I64 l)) (hn : n ≤ 65600) :
    Calls Try.prog 29 #[.slice A n c, .slice A' n d] w fun e w' => e = .returned (.bool true) ∧ ∃ m, w' = w.drewN m := by
  have hl : l.length = n := by have := ha.len; simpa [I64] using this
  have Hl := Lib.hid hl
  clear hl
  go_enter Try.func29, Try.ntmps29
  go_wp2_with fail
  go_loopw [5] (fun i wr => ∃ j : Nat, j ≤ n ∧ i = .int .i64 j ∧ ∃ m, wr = w.drewN m) (fun i _ => n - (intOf i).toNat)
  case atStart => exact ⟨0, by omega, rfl, 0, rfl⟩
  case round =>
    obtain ⟨j, hj, rfl, m, rfl⟩ := hrel
    by_cases hlt : j < n
    · obtain ⟨b, off, rfl, _, hc⟩ := ha.at_ (by omega)
      obtain ⟨b', off', rfl, _, hc'⟩ := hb.at_ (by omega)
      obtain ⟨x, hx⟩ : ∃ x, l[j]? = some x := ⟨l[j]'(by rw [Hl.out]; exact hlt), List.getElem?_eq_getElem _⟩
      have h1 : w.cell? ⟨b, off + j, none⟩ = some (.int .i64 x) := by
        rw [hc j (by simp [I64, Hl.out]; omega)]; simp [I64, hx]
      have h2 : w.cell? ⟨b', off' + j, none⟩ = some (.int .i64 x) := by
        rw [hc' j (by simp [I64, Hl.out]; omega)]; simp [I64, hx]
      clear hc hc' hx
      go_wp2_with fail
      go_quiet (fail)
      go_wp2_with fail
      go_roundw
      case rel => exact ⟨j + 1, by omega, by go_num, _, rfl⟩
      case measure => simp [intOf]; omega
    · obtain rfl : j = n := by omega
      go_wp2_with fail
      go_ret
      exact ⟨rfl, m, rfl⟩
theorem sameInts_eq {A A' : Option Addr} {n m c d : Nat} {l l' : List Int} {B B' : Nat} {w : World} (ha : Shows w B 1 A n (I64 l)) (hb : Shows w B' 1 A' m (I64 l')) (he : l = l') (hn : n ≤ 65600) :
    Calls Try.prog 29 #[.slice A n c, .slice A' m d] w fun e w' => e = .returned (.bool true) ∧ ∃ m, w' = w.drewN m := by
  subst he
  obtain rfl : n = m := by rw [← ha.len, hb.len]
  exact sameInts_yes A A' n c d l B B' w ha hb hn
set_option maxRecDepth 100000 in
set_option maxHeartbeats 800000 in
/-- A lent list that was kept. -/
theorem keptInts_yes (A A' : Option Addr) (n c d : Nat) (l : List Int) (B B' : Nat) (w : World) (hc : c = n + 3) (ha : Shows w B 1 A c (I64 (lentI l))) (hb : Shows w B' 1 A' n (I64 l)) (hB : B ≤ w.heap.size) (hB' : B' ≤ w.heap.size) (hn : n ≤ 65536) :
    Calls Try.prog 20 #[.slice A n c, .slice A' n d] w fun e w' => e = .returned (.bool true) ∧ Below w.heap.size w w' := by
  have Hc := Lib.hid hc
  have hcn : c ≤ 65600 := by omega
  clear hc
  have k1 := fun w1 => cut_to (P := Try.prog) 1 Try.underlying27 size_i64 A n c c (Nat.le_refl _) w1
  have k2 := fun g w1 => cut_to (P := Try.prog) 1 Try.underlying27 size_i64 (some ⟨g, 0, none⟩) n (n + 3) (n + 3) (Nat.le_refl _) w1
  simp only [Int.natCast_add, Int.cast_ofNat_Int] at k2
  go_enter Try.func20, Try.ntmps20
  go_wp2_with fail
  have hw := IntWalk.i64_in ((n : Int) + 3) (by omega)
  go_region_held3 (fun _ => True) (exact trivial) (first
    | (go_at_call 14; refine (lentInts_any _ _ _ l B' _ ?_ ?_ hn).mono ?_; exact hb.drew; exact hB'; rintro e w1 ⟨g, rfl, hg, hblk, hb1⟩)
    | (go_at_call 29; refine (sameInts_eq (ha.drew.below (hb1.mono hB)) (hblk.shows (n := n + 3) (by have := hb.len; simp [I64, lentI, markI] at this ⊢; omega)) rfl hcn).mono ?_; rintro e w2 ⟨rfl, m, rfl⟩))
  go_wp2_with fail
  go_ret
  exact ⟨rfl, bel_drewN (bel_call (w := w) (Below.refl _ _).drew hb1) m⟩
end Go.Proofs.Ytnhiipiciondoaa
