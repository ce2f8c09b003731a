/- The walk of 'period.long' (a map literal), of the document's 'months'. -/
import Derived.Test.YtdjkdfgifajilaaMem2
import Derived.Maps.OwnSet
namespace Go.Proofs.Ytdjkdfgifajilaa
open Go.RowKit Go.Lib Go.Maps

/-- How many months a kind's period has; 0: there is no such kind. -/
def longN (k : Int) : Int := if k = 1 then 1 else if k = 2 then 3 else if k = 3 then 6 else if k = 4 then 12 else 0
def longB (k : Int) : Bool := decide (1 ≤ k ∧ k ≤ 4)
theorem lawI : Keyed Try.prog 3 := int_keyed Try.underlying3
theorem zeroI (w : World) : (zeroValue 3).run Try.prog w = .ok (.int .i64 0) w := by kernel_rfl
def D4 : DataW Unit := ((((DataW.map []).put (.int .i64 1) (.lit (.int .i64 1))).put (.int .i64 2) (.lit (.int .i64 3))).put (.int .i64 3) (.lit (.int .i64 6))).put (.int .i64 4) (.lit (.int .i64 12))
theorem d4_has (k : Int) : has D4 (.int .i64 k) = longB k := by
  by_cases h1 : k = 1
  · subst h1; rfl
  by_cases h2 : k = 2
  · subst h2; rfl
  by_cases h3 : k = 3
  · subst h3; rfl
  by_cases h4 : k = 4
  · subst h4; rfl
  unfold D4
  rw [has_put_other (by simpa using h4), has_put_other (by simpa using h3), has_put_other (by simpa using h2), has_put_other (by simpa using h1)]
  unfold longB
  rw [decide_eq_false (by omega)]
  rfl
theorem d4_at (k : Int) : D4.atKey (.int .i64 k) (.lit (.int .i64 0)) = .lit (.int .i64 (longN k)) := by
  unfold longN
  by_cases h1 : k = 1
  · subst h1; rfl
  by_cases h2 : k = 2
  · subst h2; rfl
  by_cases h3 : k = 3
  · subst h3; rfl
  by_cases h4 : k = 4
  · subst h4; rfl
  rw [if_neg h1, if_neg h2, if_neg h3, if_neg h4]
  unfold D4
  rw [atKey_put_other (by simpa using h4), atKey_put_other (by simpa using h3), atKey_put_other (by simpa using h2), atKey_put_other (by simpa using h1)]
  rfl
set_option maxRecDepth 100000 in
set_option maxHeartbeats 4000000 in
theorem long_any (k : Int) (w : World) (h0 : -9223372036854775808 ≤ k) (h1 : k ≤ 9223372036854775807) : Calls Try.prog 58 #[.int .i64 k] w fun e w' => e = .returned (.tuple #[.int .i64 (longN k), .bool (longB k)]) ∧ Below w.heap.size w w' := by
  have hmm := @run_makeMap Try.prog
  have own0 := World.ownsMap_made (H := Unit) w Try.prog 3 (plainElem Try.prog 3)
  have hkey : keyOf Try.prog 3 (.int .i64 k) = some (.int .i64 k) := keyOf_int_mk Try.underlying3 (WalkArith.wf_i64 (by omega))
  obtain ⟨w1, r1, own1, hg1⟩ := own0.update (t := 67) lawI Try.underlying67 (by unfold maxLen; omega) (key := .int .i64 1) (val := .int .i64 1) (keyOf_int_mk (a := 1) Try.underlying3 (by decide)) (plainElem_int (a := 1) Try.underlying3 (by decide))
  obtain ⟨w2, r2, own2, hg2⟩ := own1.update (t := 67) lawI Try.underlying67 (by unfold maxLen; omega) (key := .int .i64 2) (val := .int .i64 3) (keyOf_int_mk (a := 2) Try.underlying3 (by decide)) (plainElem_int (a := 3) Try.underlying3 (by decide))
  obtain ⟨w3, r3, own3, hg3⟩ := own2.update (t := 67) lawI Try.underlying67 (by unfold maxLen; omega) (key := .int .i64 3) (val := .int .i64 6) (keyOf_int_mk (a := 3) Try.underlying3 (by decide)) (plainElem_int (a := 6) Try.underlying3 (by decide))
  obtain ⟨w4, r4, own4, hg4⟩ := own3.update (t := 67) lawI Try.underlying67 (by unfold maxLen; omega) (key := .int .i64 4) (val := .int .i64 12) (keyOf_int_mk (a := 4) Try.underlying3 (by decide)) (plainElem_int (a := 12) Try.underlying3 (by decide))
  obtain ⟨v, ps, hrun, hv⟩ := own4.look_ok (t := 67) lawI Try.underlying67 (zeroI _) (plainElem_int (q := .i64) (a := 0) Try.underlying3 (by decide)) hkey
  obtain ⟨c, rfl, hpc, hwc⟩ := plainElem_int_inv Try.underlying3 hv
  have hat : D4.atKey (.int .i64 k) (.lit (.int .i64 0)) = .lit (.int .i64 c) := congrArg Prod.fst hpc
  have hc : c = longN k := by
    have := d4_at k
    rw [hat] at this
    simpa using this
  subst hc
  replace hrun : (Instr.lookup 67 (.map (some w.heap.size)) (.int .i64 k) true).run Try.prog w4 = .ok (.tuple #[.int .i64 (longN k), .bool (longB k)]) w4 := by rw [← d4_has k]; exact hrun
  have q : ∀ j, some w.heap.size = some j → w.heap.size ≤ j := fun j hj => by cases hj; exact Nat.le_refl _
  have hb := bel_grown (bel_grown (bel_grown (bel_grown (bel_alloc (Below.refl _ _) _) hg1 q) hg2 q) hg3 q) hg4 q
  clear own0 own1 own2 own3 own4 hg1 hg2 hg3 hg4 hv hpc hwc hat hkey q
  go_enter Try.func58, Try.ntmps58
  go_wp2_with fail
  go_ret2
  exact ⟨rfl, hb⟩
end Go.Proofs.Ytdjkdfgifajilaa
