/- The walks of chapter 23's 'sample', 'base', 'awake', of 'apportionkit.SameHolidays'. -/
import Derived.Test.YtfgpndmlellidaaHolDays
namespace Go.Proofs.Ytfgpndmlellidaa
open Go.RowKit

def smp : List S6 := [S6.mk 1 0 10 12 2 50, S6.mk 1 7 11 11 1 100]
theorem smp_fit : Fit6 smp := by
  intro x hx
  simp only [smp, List.mem_cons, List.not_mem_nil, or_false] at hx
  rcases hx with rfl | rfl <;> simp [S6.In, S6.mk, S6.a, S6.b, S6.c, S6.d, S6.e, S6.f]
def smpCells : Array Value := #[.int .i64 1, .int .i64 0, .int .i64 10, .int .i64 12, .int .i64 2, .int .i64 50, .int .i64 1, .int .i64 7, .int .i64 11, .int .i64 11, .int .i64 1, .int .i64 100]
set_option maxRecDepth 100000 in
set_option maxHeartbeats 1000000 in
theorem sample_any (w : World) : Calls Try.prog 21 #[] w fun e w' => e = .returned (.slice (some ⟨w.heap.size, 0, none⟩) 2 2) ∧ w' = w.alloc (.cells smpCells 28) := by
  go_enter Try.func21, Try.ntmps21
  go_wp2_with fail
  go_ret
  exact ⟨rfl, rfl⟩
theorem smp_shows (w : World) : Shows (w.alloc (.cells smpCells 28)) (w.heap.size + 1) 6 (some ⟨w.heap.size, 0, none⟩) 2 (RC smp) :=
  (show Block _ w.heap.size 28 (RC smp) from Block.new w _ (RC smp)).shows rfl
set_option maxRecDepth 100000 in
set_option maxHeartbeats 2000000 in
theorem lawbase_yes (jj q d m want : Int) (w : World) (h : Hol.baseF smp jj q d m = (want, 0)) :
    Calls Try.prog 22 #[.int .i64 jj, .int .i64 q, .int .i64 d, .int .i64 m, .int .i64 want] w fun e w' => e = .returned (.bool true) ∧ Below w.heap.size w w' := by
  have hb := base_any (some ⟨w.heap.size, 0, none⟩) 2 2 smp jj q d m _ _ (smp_shows w) (by simp) (by unfold maxLen; omega)
  rw [h] at hb
  clear h
  go_enter Try.func22, Try.ntmps22
  go_wp2_with fail
  refine (sample_any _).mono ?_
  rintro e w1 ⟨rfl, rfl⟩
  go_wp2_with fail
  refine hb.mono ?_
  rintro e w2 ⟨rfl, hb2⟩
  go_wp2_with fail
  go_ret
  exact ⟨rfl, bel_call (bel_alloc (Below.refl _ _) _) hb2⟩
theorem sa1 : Hol.baseF smp 1 7 11 100 = (0, 0) := by decide +kernel
theorem sa2 : Hol.baseF smp 1 7 11 101 = (101, 0) := by decide +kernel
theorem sa3 : Hol.baseF smp 1 7 12 80 = (30, 0) := by decide +kernel
theorem sa4 : Hol.daysF smp 1 7 0 99 = 3 := by decide +kernel
set_option maxRecDepth 100000 in
set_option maxHeartbeats 4000000 in
theorem awake_true (w : World) : Calls Try.prog 9 #[] w fun e w' => e = .returned (.bool true) ∧ Below w.heap.size w w' := by
  have hm : (2 : Nat) ≤ maxLen := by unfold maxLen; omega
  go_enter Try.func9, Try.ntmps9
  go_wp2_with fail
  refine (lawbase_yes 1 7 11 100 0 _ sa1).mono ?_
  rintro e w1 ⟨rfl, hb1⟩
  go_wp2_with fail
  refine (lawbase_yes 1 7 11 101 101 _ sa2).mono ?_
  rintro e w2 ⟨rfl, hb2⟩
  have bel2 := bel_call hb1 hb2
  go_wp2_with fail
  refine (lawbase_yes 1 7 12 80 30 _ sa3).mono ?_
  rintro e w3 ⟨rfl, hb3⟩
  have bel3 := bel_call bel2 hb3
  go_wp2_with fail
  refine (sample_any _).mono ?_
  rintro e w4 ⟨rfl, rfl⟩
  have hd := days_any (some ⟨w3.heap.size, 0, none⟩) 2 2 smp 1 7 0 99 _ _ (smp_shows w3) (by simp) hm
  rw [sa4] at hd
  go_wp2_with fail
  refine hd.mono ?_
  rintro e w5 ⟨rfl, hb5⟩
  go_wp2_with fail
  go_ret
  exact ⟨rfl, bel_call (bel_alloc bel3 _) hb5⟩
set_option maxRecDepth 100000 in
set_option maxHeartbeats 2000000 in
/-- Two lists that are the same. -/
theorem same6_yes (A A' : Option Addr) (n c d : Nat) (l : List S6) (B B' : Nat) (w : World) (ha : Shows w B 6 A n (RC l)) (hb : Shows w B' 6 A' n (RC l)) (hn : n ≤ maxLen) :
    Calls Try.prog 16 #[.slice A n c, .slice A' n d] w fun e w' => e = .returned (.bool true) ∧ ∃ m, w' = w.drewN m := by
  have Hl := Lib.hid ha.num6
  unfold maxLen at hn
  go_enter Try.func16, Try.ntmps16
  go_wp2_with fail
  go_loopw [5] (fun i wr => ∃ j : Nat, j ≤ n ∧ i = .int .i64 j ∧ ∃ m, wr = w.drewN m) (fun i _ => n - (intOf i).toNat)
  case atStart => exact ⟨0, by omega, rfl, 0, rfl⟩
  case round =>
    obtain ⟨j, hj, rfl, m, rfl⟩ := hrel
    by_cases hlt : j < n
    · obtain ⟨x, hx⟩ : ∃ x, l[j]? = some x := ⟨l[j]'(by rw [Hl.out]; exact hlt), List.getElem?_eq_getElem _⟩
      obtain ⟨b, off, rfl, _, h1, h2, h3, h4, h5, h6⟩ := ha.six hx
      obtain ⟨b', off', rfl, _, g1, g2, g3, g4, g5, g6⟩ := hb.six hx
      clear hx
      go_wp2_with fail
      go_quiet (fail)
      go_wp2_with fail
      go_roundw
      case rel => exact ⟨j + 1, by omega, by go_num, _, rfl⟩
      case measure => simp [intOf]; omega
    · obtain rfl : j = n := by omega
      go_wp2_with fail
      go_ret
      exact ⟨rfl, m, rfl⟩
theorem infoH : (Try.prog.info? 28).map (fun i => (i.zero, i.size, i.bytes)) = some (some (.agg #[.int .i64 0, .int .i64 0, .int .i64 0, .int .i64 0, .int .i64 0, .int .i64 0]), 6, 48) := by kernel_rfl
end Go.Proofs.Ytfgpndmlellidaa
