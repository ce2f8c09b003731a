/- The walk of period.Parse. -/
import Derived.Test.YtdjkdfgifajilaaSpLetter2
namespace Go.Proofs.Ytdjkdfgifajilaa
open Go.RowKit Go.Lib

theorem Block.kept {w w' : World} {g R : Nat} {t : TypeId} {cs : List Value} (h : Block w g t cs) (hg : w.grownBy w' (some R)) (hne : g ≠ R) : Block w' g t cs := (hg.block g h.lt (by intro e; injection e with e; exact hne e)).trans h
/-- The year of the first digits. -/
def yr (s : ByteArray) : Nat → Int
  | 0 => 0
  | a + 1 => 10 * yr s a + ((nums s).getD a 0 - 48)
theorem yr_lo {s : ByteArray} (hd : ∀ q, q < 4 → 48 ≤ (nums s).getD q 0 ∧ (nums s).getD q 0 ≤ 57) (a : Nat) (ha : a ≤ 4) : 0 ≤ yr s a ∧ yr s a < 10000 := by
  have k : ∀ a, a ≤ 4 → 0 ≤ yr s a ∧ yr s a < (10 : Int) ^ a := by
    intro a
    induction a with
    | zero => intro _; simp [yr]
    | succ a ih =>
      intro h
      have i := ih (by omega)
      have d := hd a (by omega)
      rw [Int.pow_succ]
      unfold yr
      omega
  have := k a ha
  have : (10 : Int) ^ a ≤ 10000 := by
    rcases (by omega : a = 0 ∨ a = 1 ∨ a = 2 ∨ a = 3 ∨ a = 4) with rfl | rfl | rfl | rfl | rfl <;> decide
  omega
set_option maxRecDepth 100000 in
set_option maxHeartbeats 4000000 in
theorem parse_year (s : ByteArray) (h4 : s.size = 4) (hd : ∀ q, q < 4 → 48 ≤ (nums s).getD q 0 ∧ (nums s).getD q 0 ≤ 57) (hy : 1 ≤ yr s 4) (w : World) :
    Calls Try.prog 35 #[.string s] w fun e w' => e = .returned (.tuple #[.int .i64 4, .int .i64 (yr s 4 - 1), .agg #[.int .i64 0, .int .i64 0]]) ∧ Below w.heap.size w w' := by
  have Hd := Lib.hid hd
  have Hy := Lib.hid (fun a ha => yr_lo hd a ha)
  have Hg := Lib.hid (nums_get s)
  have hlong := fun w => long_is (k := 4) (n := 12) (.inr (.inr (.inr ⟨rfl, rfl⟩))) w
  clear hd
  go_enter Try.func35, Try.ntmps35
  go_wp2_with fail
  go_loopw [6, 14] (fun y i wr => ∃ (a : Nat), a ≤ 4 ∧ i = .int .i64 a ∧ y = .int .i64 (yr s a) ∧ RdS wr (w.heap.size + 1) s a true ∧ Block wr w.heap.size 39 [.int .i64 0, .int .i64 0] ∧ Below w.heap.size w wr) (fun _ i _ => 4 - (intOf i).toNat)
  case atStart =>
    refine ⟨0, by omega, rfl, rfl, ?_, ?_, ?_⟩
    · have := Block.new (w.alloc (.cells #[.int .i64 0, .int .i64 0] 39)) 61 [.string s, .int .i64 0, .bool true]
      unfold RdS
      simpa using this
    · exact (Block.new w 39 [.int .i64 0, .int .i64 0]).alloc _
    · exact bel_alloc (bel_alloc (Below.refl _ _) _) _
  case round =>
    obtain ⟨a, ha, rfl, rfl, hRr, hF, hbel⟩ := hrel
    by_cases hlt : a < 4
    · have hja : a < s.size := by omega
      have hda := Hd.out a hlt
      have hga := Hg.out a hja
      rw [hga] at hda
      have hdig := digit_ok (w.heap.size + 1) s a hja (by omega) 48 57 wr hRr (by omega) (by omega) (by omega)
      have hya := Hy.out a ha
      go_wp2_with fail
      refine hdig.mono ?_
      rintro e w1 ⟨rfl, hR1, hg1⟩
      have hF1 := Block.kept hF hg1 (by omega)
      have hb1 := bel_grown hbel hg1 (fun k hk => by injection hk with hk; omega)
      clear hdig
      go_wp2_with fail
      go_roundw
      case rel => exact ⟨a + 1, by omega, by go_num, by show _ = Value.int .i64 (10 * yr s a + ((nums s).getD a 0 - 48)); rw [hga], hR1, hF1, hb1⟩
      case measure => simp [intOf]; omega
    · obtain rfl : a = 4 := by omega
      have c1 : wr.cell? ⟨w.heap.size + 1, 1, none⟩ = some (.int .i64 4) := Block.cell hRr 1
      have c2 : wr.cell? ⟨w.heap.size + 1, 2, none⟩ = some (.bool true) := Block.cell hRr 2
      have hz : (s.size : Int) = 4 := by omega
      have y0 : (yr s 4 == 0) = false := by simp; omega
      go_wp2_with fail
      refine (hlong _).mono ?_
      rintro e w1 ⟨rfl, hb1⟩
      have hF1 := Block.call hF hb1
      have cR : w1.cell? ⟨w.heap.size, 0, none⟩ = some (.int .i64 0) := hF1.cell 0
      have cS : w1.cell? ⟨w.heap.size, 1, none⟩ = some (.int .i64 0) := hF1.cell 1
      have fR : w1.frozen? ⟨w.heap.size, 0, none⟩ = false := hF1.free 0
      have fS : w1.frozen? ⟨w.heap.size, 1, none⟩ = false := hF1.free 1
      go_wp2_with fail
      have hyv := Hy.out 4 (Nat.le_refl _)
      go_region
      go_wp2_with fail
      refine ret_ttc (T := 39) rfl rfl rfl ((hF1.set 0 (.int .i64 0)).set 1 (.int .i64 0)) agg_fault size_fault ⟨?_, (bel_set (p := ⟨w.heap.size, 1, none⟩) (bel_set (p := ⟨w.heap.size, 0, none⟩) (bel_call hbel hb1) (Nat.le_refl _) _) (Nat.le_refl _) _).drew⟩
      have hv : yr s 4 - 1 + 1 - 1 = yr s 4 - 1 := by omega
      first
      | rfl
      | (show Ending.returned (.tuple #[.int .i64 4, .int .i64 (yr s 4 - 1 + 1 - 1), .agg #[.int .i64 0, .int .i64 0]]) = _; rw [hv])
end Go.Proofs.Ytdjkdfgifajilaa
