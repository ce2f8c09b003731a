/- The walks of chapter 21's 'sample', 'mode', 'base', 'awake', of 'apportionkit.SameRules'. -/
import Derived.Test.YtiomkbpniplfhaaMatBase
import Derived.Test.YtiomkbpniplfhaaMatAs
namespace Go.Proofs.Ytiomkbpniplfhaa
open Go.RowKit

def smp : List S6 := [S6.mk 1 0 10 1 0 0, S6.mk 1 7 10 4 0 100, S6.mk 1 7 20 2 0 0]
def smpCells : Array Value := #[.int .i64 1, .int .i64 0, .int .i64 10, .int .i64 1, .int .i64 0, .int .i64 0, .int .i64 1, .int .i64 7, .int .i64 10, .int .i64 4, .int .i64 0, .int .i64 100, .int .i64 1, .int .i64 7, .int .i64 20, .int .i64 2, .int .i64 0, .int .i64 0]
set_option maxRecDepth 100000 in
set_option maxHeartbeats 1000000 in
theorem sample_any (w : World) : Calls Try.prog 20 #[] w fun e w' => e = .returned (.slice (some ⟨w.heap.size, 0, none⟩) 3 3) ∧ w' = w.alloc (.cells smpCells 28) := by
  go_enter Try.func20, Try.ntmps20
  go_wp2_with fail
  go_ret
  exact ⟨rfl, rfl⟩
theorem smp_block (w : World) : Block (w.alloc (.cells smpCells 28)) w.heap.size 28 (RC smp) := Block.new w _ (RC smp)
theorem smp_shows (w : World) : Shows (w.alloc (.cells smpCells 28)) (w.heap.size + 1) 6 (some ⟨w.heap.size, 0, none⟩) 3 (RC smp) := (smp_block w).shows rfl
/-- The second one's cells. -/
theorem smp_at {w : World} {g : Nat} (h : Block w g 28 (RC smp)) {i : Nat} {x : S6} (hx : smp[i]? = some x) : Cells6 w g (i * 6) x := by
  have := (show Shows w (g + 1) 6 (some ⟨g, 0, none⟩) 3 (RC smp) from h.shows rfl).six hx
  obtain ⟨b, off, e, _, hc⟩ := this
  injection e with e
  injection e with e1 e2
  subst e1; subst e2
  rwa [Nat.zero_add] at hc
set_option maxRecDepth 100000 in
set_option maxHeartbeats 2000000 in
theorem mode_any (jj q d m : Int) (w : World) (h : (match Mat.asF smp jj q d with | some x => x.d | none => 0) = m) :
    Calls Try.prog 21 #[.int .i64 jj, .int .i64 q, .int .i64 d] w fun e w' => e = .returned (.int .i64 m) ∧ Below w.heap.size w w' := by
  have hm : (3 : Nat) ≤ maxLen := by unfold maxLen; omega
  rcases hA : Mat.asF smp jj q d with _ | x
  · rw [hA] at h
    have h : (0 : Int) = m := h
    subst h
    have has := as_any (some ⟨w.heap.size, 0, none⟩) 3 3 smp jj q d _ _ (smp_shows w) (by simp) hm (xr := S6.zero) (bt := false) (by rw [hA]; rfl)
    clear hA
    go_enter Try.func21, Try.ntmps21
    go_wp2_with fail
    refine (sample_any _).mono ?_
    rintro e w1 ⟨rfl, rfl⟩
    go_wp2_with fail
    refine has.mono ?_
    rintro e w2 ⟨rfl, hb2⟩
    go_wp2_with fail
    go_ret
    exact ⟨rfl, bel_alloc (bel_call (bel_alloc (Below.refl _ _) _) hb2) _⟩
  · rw [hA] at h
    have h : x.d = m := h
    subst h
    have has := as_any (some ⟨w.heap.size, 0, none⟩) 3 3 smp jj q d _ _ (smp_shows w) (by simp) hm (xr := x) (bt := true) (by rw [hA]; rfl)
    clear hA
    go_enter Try.func21, Try.ntmps21
    go_wp2_with fail
    refine (sample_any _).mono ?_
    rintro e w1 ⟨rfl, rfl⟩
    go_wp2_with fail
    refine has.mono ?_
    rintro e w2 ⟨rfl, hb2⟩
    go_wp2_with fail
    go_ret
    exact ⟨rfl, bel_alloc (bel_call (bel_alloc (Below.refl _ _) _) hb2) _⟩
set_option maxRecDepth 100000 in
set_option maxHeartbeats 2000000 in
theorem lawbase_yes (x : S6) (m want : Int) (w : World) (h : Mat.baseF x m = (want, 0)) :
    Calls Try.prog 22 #[(.agg #[.int .i64 x.a, .int .i64 x.b, .int .i64 x.c, .int .i64 x.d, .int .i64 x.e, .int .i64 x.f]), .int .i64 m, .int .i64 want] w fun e w' => e = .returned (.bool true) ∧ Below w.heap.size w w' := by
  have hb := fun w => base_any x m w
  rw [h] at hb
  clear h
  go_enter Try.func22, Try.ntmps22
  go_wp2_with fail
  refine (hb _).mono ?_
  rintro e w2 ⟨rfl, hb2⟩
  go_wp2_with fail
  go_ret
  exact ⟨rfl, bel_call (bel_alloc (Below.refl _ _) _) hb2⟩
def smp1 : S6 := S6.mk 1 7 10 4 0 100
theorem sa0 : smp[1]? = some smp1 := rfl
theorem sa1 : (match Mat.asF smp 1 7 15 with | some x => x.d | none => 0) = 4 := by decide +kernel
theorem sa2 : (match Mat.asF smp 1 7 20 with | some x => x.d | none => 0) = 2 := by decide +kernel
theorem sa3 : (match Mat.asF smp 1 8 15 with | some x => x.d | none => 0) = 1 := by decide +kernel
theorem sa4 : (match Mat.asF smp 1 7 9 with | some x => x.d | none => 0) = 0 := by decide +kernel
theorem sa5 : Mat.baseF smp1 150 = (50, 0) := by decide +kernel
set_option maxRecDepth 100000 in
set_option maxHeartbeats 4000000 in
theorem awake_true (w : World) : Calls Try.prog 10 #[] w fun e w' => e = .returned (.bool true) ∧ Below w.heap.size w w' := by
  go_enter Try.func10, Try.ntmps10
  go_wp2_with fail
  refine (mode_any 1 7 15 4 _ sa1).mono ?_
  rintro e w1 ⟨rfl, hb1⟩
  go_wp2_with fail
  refine (mode_any 1 7 20 2 _ sa2).mono ?_
  rintro e w2 ⟨rfl, hb2⟩
  have bel2 := bel_call hb1 hb2
  go_wp2_with fail
  refine (mode_any 1 8 15 1 _ sa3).mono ?_
  rintro e w3 ⟨rfl, hb3⟩
  have bel3 := bel_call bel2 hb3
  go_wp2_with fail
  refine (mode_any 1 7 9 0 _ sa4).mono ?_
  rintro e w4 ⟨rfl, hb4⟩
  have bel4 := bel_call bel3 hb4
  go_wp2_with fail
  refine (sample_any _).mono ?_
  rintro e w5 ⟨rfl, rfl⟩
  have bel5 := bel_alloc bel4 (.cells smpCells 28)
  obtain ⟨c1, c2, c3, c4, c5, c6⟩ := smp_at (smp_block w4) sa0
  generalize w4.alloc (.cells smpCells 28) = w5 at *
  simp only [Nat.one_mul, Nat.reduceMul, Nat.reduceAdd] at c1 c2 c3 c4 c5 c6
  go_wp2_with fail
  refine (lawbase_yes smp1 150 50 _ sa5).mono ?_
  rintro e w6 ⟨rfl, hb6⟩
  go_wp2_with fail
  go_ret
  exact ⟨rfl, bel_call bel5 hb6⟩
set_option maxRecDepth 100000 in
set_option maxHeartbeats 2000000 in
/-- Two lists that are the same. -/
theorem same6_yes (A A' : Option Addr) (n c d : Nat) (l : List S6) (B B' : Nat) (w : World) (ha : Shows w B 6 A n (RC l)) (hb : Shows w B' 6 A' n (RC l)) (hn : n ≤ maxLen) :
    Calls Try.prog 15 #[.slice A n c, .slice A' n d] w fun e w' => e = .returned (.bool true) ∧ ∃ m, w' = w.drewN m := by
  have Hl := Lib.hid ha.num6
  unfold maxLen at hn
  go_enter Try.func15, Try.ntmps15
  go_wp2_with fail
  go_loopw [5] (fun i wr => ∃ j : Nat, j ≤ n ∧ i = .int .i64 j ∧ ∃ m, wr = w.drewN m) (fun i _ => n - (intOf i).toNat)
  case atStart => exact ⟨0, by omega, rfl, 0, rfl⟩
  case round =>
    obtain ⟨j, hj, rfl, m, rfl⟩ := hrel
    by_cases hlt : j < n
    · obtain ⟨x, hx⟩ : ∃ x, l[j]? = some x := ⟨l[j]'(by rw [Hl.out]; exact hlt), List.getElem?_eq_getElem _⟩
      obtain ⟨b, off, rfl, _, h1, h2, h3, h4, h5, h6⟩ := ha.six hx
      obtain ⟨b', off', rfl, _, g1, g2, g3, g4, g5, g6⟩ := hb.six hx
      clear hx
      go_wp2_with fail
      go_quiet (fail)
      go_wp2_with fail
      go_roundw
      case rel => exact ⟨j + 1, by omega, by go_num, _, rfl⟩
      case measure => simp [intOf]; omega
    · obtain rfl : j = n := by omega
      go_wp2_with fail
      go_ret
      exact ⟨rfl, m, rfl⟩
theorem infoR : (Try.prog.info? 28).map (fun i => (i.zero, i.size, i.bytes)) = some (some (.agg #[.int .i64 0, .int .i64 0, .int .i64 0, .int .i64 0, .int .i64 0, .int .i64 0]), 6, 48) := by kernel_rfl
end Go.Proofs.Ytiomkbpniplfhaa
