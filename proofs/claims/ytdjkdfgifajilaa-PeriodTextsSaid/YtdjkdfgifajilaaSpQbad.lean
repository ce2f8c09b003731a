/- The walk of period.Parse at a quarter that is none. -/
import Derived.Test.YtdjkdfgifajilaaSpParse
namespace Go.Proofs.Ytdjkdfgifajilaa
open Go.RowKit Go.Lib

set_option maxRecDepth 100000 in
set_option maxHeartbeats 4000000 in
theorem parse_qbad (s : ByteArray) (h7 : 7 ≤ s.size) (hs : s.size ≤ 9223372036854775807) (hd : ∀ q, q < 4 → 48 ≤ (nums s).getD q 0 ∧ (nums s).getD q 0 ≤ 57) (h45 : (nums s).getD 4 0 = 45) (h81 : (nums s).getD 5 0 = 81) (h52 : 52 < (nums s).getD 6 0) (w : World) :
    Calls Try.prog 35 #[.string s] w fun e w' => e = .returned (.tuple #[.int .i64 0, .int .i64 0, .agg #[.int .i64 4, .int .i64 6]]) ∧ Below w.heap.size w w' := by
  have Hd := Lib.hid hd
  have Hy := Lib.hid (fun a ha => yr_lo hd a ha)
  have Hg := Lib.hid (nums_get s)
  have H7 := Lib.hid h7
  have H45 := Lib.hid h45
  have H81 := Lib.hid h81
  have H52 := Lib.hid h52
  clear h45 h81 h52
  clear hd
  go_enter Try.func35, Try.ntmps35
  go_wp2_with fail
  go_loopw [6, 14] (fun y i wr => ∃ (a : Nat), a ≤ 4 ∧ i = .int .i64 a ∧ y = .int .i64 (yr s a) ∧ RdS wr (w.heap.size + 1) s a true ∧ Block wr w.heap.size 39 [.int .i64 0, .int .i64 0] ∧ Below w.heap.size w wr) (fun _ i _ => 4 - (intOf i).toNat)
  case atStart =>
    refine ⟨0, by omega, rfl, rfl, ?_, ?_, ?_⟩
    · have := Block.new (w.alloc (.cells #[.int .i64 0, .int .i64 0] 39)) 61 [.string s, .int .i64 0, .bool true]
      unfold RdS
      simpa using this
    · exact (Block.new w 39 [.int .i64 0, .int .i64 0]).alloc _
    · exact bel_alloc (bel_alloc (Below.refl _ _) _) _
  case round =>
    obtain ⟨a, ha, rfl, rfl, hRr, hF, hbel⟩ := hrel
    by_cases hlt : a < 4
    · have hja : a < s.size := by omega
      have hda := Hd.out a hlt
      have hga := Hg.out a hja
      rw [hga] at hda
      have hdig := digit_ok (w.heap.size + 1) s a hja (by omega) 48 57 wr hRr (by omega) (by omega) (by omega)
      have hya := Hy.out a ha
      go_wp2_with fail
      refine hdig.mono ?_
      rintro e w1 ⟨rfl, hR1, hg1⟩
      have hF1 := Block.kept hF hg1 (by omega)
      have hb1 := bel_grown hbel hg1 (fun k hk => by injection hk with hk; omega)
      clear hdig
      go_wp2_with fail
      go_roundw
      case rel => exact ⟨a + 1, by omega, by go_num, by show _ = Value.int .i64 (10 * yr s a + ((nums s).getD a 0 - 48)); rw [hga], hR1, hF1, hb1⟩
      case measure => simp [intOf]; omega
    · obtain rfl : a = 4 := by omega
      have c1 : wr.cell? ⟨w.heap.size + 1, 1, none⟩ = some (.int .i64 4) := Block.cell hRr 1
      have c2 : wr.cell? ⟨w.heap.size + 1, 2, none⟩ = some (.bool true) := Block.cell hRr 2
      have hz : decide ((4 : Int) < (s.size : Int)) = true := decide_eq_true (by omega)
      have l4 : 4 < s.size := by omega
      have l5 : 5 < s.size := by omega
      have l6 : 6 < s.size := by omega
      have g4 : (s[4].toNat : Int) = 45 := by rw [← Hg.out 4 l4]; exact H45.out
      have g5 : (s[5].toNat : Int) = 81 := by rw [← Hg.out 5 l5]; exact H81.out
      have g6 : 52 < (s[6].toNat : Int) := by rw [← Hg.out 6 l6]; exact H52.out
      have k1 := letter_ok (w.heap.size + 1) s ⟨#[45]⟩ 4 0 l4 hs (by decide) (by decide) wr hRr (show 45 = s[4].toNat by omega) (fun i h => absurd h (by omega))
      have k2 := fun (w1 : World) (h : RdS w1 (w.heap.size + 1) s 5 true) => letter_ok (w.heap.size + 1) s ⟨#[77, 81, 72]⟩ 5 1 l5 hs (by decide) (by decide) w1 h (show 81 = s[5].toNat by omega) (fun i h => by obtain rfl : i = 0 := (by omega); show 77 ≠ s[5].toNat; omega)
      have k3 := fun (w1 : World) (h : RdS w1 (w.heap.size + 1) s 6 true) => digit_high (w.heap.size + 1) s 6 l6 hs 49 52 w1 h (by omega) g6
      rw [g4] at k1
      rw [g5] at k2
      clear g4 g5 g6
      go_wp2_with fail
      refine k1.mono ?_
      rintro e w1 ⟨rfl, hR1, hg1⟩
      have hF1 := Block.kept hF hg1 (by omega)
      have hb1 := bel_grown hbel hg1 (fun k hk => by injection hk with hk; omega)
      go_wp2_with fail
      refine (k2 _ hR1).mono ?_
      rintro e w2 ⟨rfl, hR2, hg2⟩
      have hF2 := Block.kept hF1 hg2 (by omega)
      have hb2 := bel_grown hb1 hg2 (fun k hk => by injection hk with hk; omega)
      go_wp2_with fail
      refine (k3 _ hR2).mono ?_
      rintro e w3 ⟨rfl, hR3, hg3⟩
      have hF3 := Block.kept hF2 hg3 (by omega)
      have hb3 := bel_grown hb2 hg3 (fun k hk => by injection hk with hk; omega)
      have d1 : w3.cell? ⟨w.heap.size + 1, 1, none⟩ = some (.int .i64 6) := Block.cell hR3 1
      have d2 : w3.cell? ⟨w.heap.size + 1, 2, none⟩ = some (.bool false) := Block.cell hR3 2
      have cR : w3.cell? ⟨w.heap.size, 0, none⟩ = some (.int .i64 0) := hF3.cell 0
      have cS : w3.cell? ⟨w.heap.size, 1, none⟩ = some (.int .i64 0) := hF3.cell 1
      have fR : w3.frozen? ⟨w.heap.size, 0, none⟩ = false := hF3.free 0
      have fS : w3.frozen? ⟨w.heap.size, 1, none⟩ = false := hF3.free 1
      clear k1 k2 k3 c1 c2
      go_wp2_with fail
      go_region
      go_wp2_with fail
      exact ret_ttc (T := 39) rfl rfl rfl ((hF3.set 0 (.int .i64 4)).set 1 (.int .i64 6)) agg_fault size_fault ⟨rfl, (bel_set (p := ⟨w.heap.size, 1, none⟩) (bel_set (p := ⟨w.heap.size, 0, none⟩) hb3 (Nat.le_refl _) _) (Nat.le_refl _) _).drew⟩
end Go.Proofs.Ytdjkdfgifajilaa
