/- The walk of 'apportionkit.OverBytes': it writes over the whole room of the list that it is handed, and over nothing else. -/
import Derived.Test.YtnhiipiciondoaaOctFull
namespace Go.Proofs.Ytnhiipiciondoaa
open Go.RowKit

theorem over_byte (x : Int) (h0 : 0 ≤ x) (h1 : x ≤ 255) : ∃ y : Int, bits .xor .u8 x 90 = y ∧ 0 ≤ y ∧ y ≤ 255 := by
  obtain ⟨n, rfl⟩ := Int.eq_ofNat_of_zero_le h0
  refine ⟨_, rfl, ?_⟩
  rw [show (90 : Int) = ((90 : Nat) : Int) from rfl, u8_xor_nat n 90 (by omega) (by omega)]
  have : n ^^^ 90 < 2 ^ 8 := Nat.xor_lt_two_pow (by omega) (by omega)
  omega
theorem only_set {w wr : World} {g : Nat} (h : w.grownBy wr (some g)) (j : Nat) (u : Value) : w.grownBy (wr.setCell ⟨g, j, none⟩ u) (some g) :=
  ⟨h.os, h.tape, h.output, by simpa [World.setCell] using h.size, fun i hi hne => (Below.heap_setCell wr ⟨g, j, none⟩ u i (by rintro rfl; exact hne rfl)).trans (h.block i hi hne)⟩
set_option maxRecDepth 100000 in
set_option maxHeartbeats 800000 in
theorem overBytes_any (A : Option Addr) (n c : Nat) (l : List Int) (base : Nat) (w : World) (hf : Full IsB w base 5 1 A n c (U8 l)) (hl : ∀ x ∈ l, 0 ≤ x ∧ x ≤ 255) :
    Calls Try.prog 21 #[.slice A n c] w fun e w' => e = .returned (.tuple #[]) ∧ w.grownBy w' (Value.ownBlock (.slice A n c)) := by
  have hcm : c ≤ 9223372036854775807 := by
    rcases hf.2 with ⟨_, _, rfl⟩ | ⟨g, zs, _, _, _, _, hm, _⟩
    · omega
    · simp only [maxLen] at hm; omega
  have hblk : 0 < c → ∃ g cs, A = some ⟨g, 0, none⟩ ∧ Block w g 5 cs ∧ cs.length = c ∧ ∀ v ∈ cs, IsB v := by
    intro h0
    rcases hf.2 with ⟨_, _, rfl⟩ | ⟨g, zs, rfl, _, hg, _, _, hlen, hz⟩
    · omega
    · refine ⟨g, _, rfl, hg, by omega, fun v hv => ?_⟩
      rcases List.mem_append.1 hv with h | h
      · simp only [U8, List.mem_map] at h
        obtain ⟨x, hx, rfl⟩ := h
        exact ⟨x, rfl, hl x hx⟩
      · exact hz v h
  clear hf hl
  rcases Nat.eq_zero_or_pos c with h0 | h0
  · subst h0
    have k1 := fun w1 => cut_to (P := Try.prog) 1 Try.underlying23 size_u8 A n 0 0 (Nat.le_refl _) w1
    clear hblk
    go_enter Try.func21, Try.ntmps21
    go_wp2_with fail
    go_loopw [3] (fun i wr => i = .int .i64 0 ∧ wr = w) (fun _ _ => 0)
    case atStart => exact ⟨rfl, rfl⟩
    case round =>
      obtain ⟨rfl, rfl⟩ := hrel
      go_wp2_with fail
      go_end0
      exact ⟨rfl, World.grownBy.refl _ _⟩
  · obtain ⟨g, cs, rfl, hb, hcs, hT⟩ := hblk h0
    have k1 := fun w1 => cut_to (P := Try.prog) 1 Try.underlying23 size_u8 (some ⟨g, 0, none⟩) n c c (Nat.le_refl _) w1
    go_enter Try.func21, Try.ntmps21
    go_wp2_with fail
    go_loopw [3] (fun i wr => ∃ (j : Nat) (ds : List Value), j ≤ c ∧ i = .int .i64 j ∧ Block wr g 5 ds ∧ ds.length = c ∧ (∀ v ∈ ds, IsB v) ∧ w.grownBy wr (some g)) (fun i _ => c - (intOf i).toNat)
    case atStart => exact ⟨0, cs, by omega, rfl, hb, hcs, hT, World.grownBy.refl _ _⟩
    case round =>
      obtain ⟨j, ds, hj, rfl, hb2, hds, hT2, hgr⟩ := hrel
      clear hb hcs hT k1
      by_cases hlt : j < c
      · have hdj : ds[j]? = some (ds[j]'(by omega)) := List.getElem?_eq_getElem _
        obtain ⟨x, hx, x0, x1⟩ := hT2 _ (List.getElem_mem (show j < ds.length by omega))
        rw [hx] at hdj
        obtain ⟨y, hy, y0, y1⟩ := over_byte x x0 x1
        have hcell := (hb2.cell j).trans hdj
        have hfree := hb2.free j
        have hset := hb2.set j (.int .u8 y)
        have hgr2 := only_set hgr j (.int .u8 y)
        have Hds := Lib.hid hds
        have HT2 := Lib.hid hT2
        clear hds hT2 hx hdj hb2
        go_wp2_with fail
        go_roundw
        case rel =>
          refine ⟨j + 1, ds.set j (.int .u8 y), by omega, by go_num, hset, by rw [List.length_set]; exact Hds.out, fun v hv => ?_, hgr2⟩
          rcases List.mem_or_eq_of_mem_set hv with h | h
          · exact HT2.out v h
          · subst h; exact ⟨y, rfl, y0, y1⟩
        case measure => simp [intOf]; omega
      · go_wp2_with fail
        go_end0
        exact ⟨rfl, hgr⟩
end Go.Proofs.Ytnhiipiciondoaa
