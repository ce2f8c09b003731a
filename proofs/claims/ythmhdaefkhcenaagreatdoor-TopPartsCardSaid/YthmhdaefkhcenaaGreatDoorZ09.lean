/- Lemmas for it; no condition: TOct SpLong Open. -/
import Derived.Test.YthmhdaefkhcenaaGreatDoorZ02
import Derived.Test.YthmhdaefkhcenaaGreatDoorZ08
import Derived.Maps.OwnSet
import Derived.ProofKit
import Derived.OpenShut
import Derived.ChangeOld
set_option linter.unusedVariables false
set_option linter.unusedSimpArgs false
namespace Go.Proofs.YthmhdaefkhcenaaGreatDoor
open Go.RowKit Go.Lib
theorem infoU8 : (Tryz.prog.info? 5).map (fun i => (i.zero, i.size, i.bytes)) = some (some (.int .u8 0), 1, 1) := by kernel_rfl
theorem put_step (acc : List Int) (k rank : Nat) (hk : acc ++ Oct.putN rank = Oct.putN k) (h : ¬ rank < 128) : (acc ++ [(rank : Int) % 128 + 128]) ++ Oct.putN (rank / 128) = Oct.putN k := by
  rw [← hk, Oct.putN_big h]
  have : ((rank % 128 + 128 : Nat) : Int) = (rank : Int) % 128 + 128 := by omega
  rw [this]; simp
set_option maxRecDepth 100000 in
set_option maxHeartbeats 400000 in
theorem put_any (n : Int) (w : World) (h0 : -9223372036854775808 ≤ n) (h1 : n ≤ 9223372036854775807) :
    Calls Tryz.prog 104 #[.int .i64 n] w (Fresh 5 1 (Oct.putN (Oct.zig n)).length (U8 (Oct.putN (Oct.zig n))) w) := by
  obtain ⟨i0, hi, hz0, hz1, hz2⟩ := info_parts infoU8
  have hx := Oct.zig_bits n h0 h1
  have hlt := Oct.zig_lt n h0 h1
  obtain ⟨k, hk⟩ : ∃ k, Oct.zig n = k := ⟨_, rfl⟩
  rw [hk] at hx hlt ⊢
  clear hk
  have hl10 := Oct.putN_len10 hlt
  go_enter Tryz.func104, Tryz.ntmps104
  go_wp2_with fail
  clear hx hlt h0 h1
  go_loopw [4, 3] (fun v r wr => ∃ (acc : List Int) (rank : Nat), acc ++ Oct.putN rank = Oct.putN k ∧ r = .int .u64 rank ∧ wr.ownsRow w.heap.size 5 1 v acc.length (U8 acc) ∧ Below w.heap.size w wr)
    (fun _ r _ => (intOf r).toNat)
  case atStart => 
    exact ⟨[], k, rfl, rfl, World.ownsRow_nil _ _ _ _, Below.refl _ _⟩
  case round =>
    obtain ⟨acc, rank, hacc, rfl, hown, hbel⟩ := hrel
    have Hacc := Lib.hid hacc; clear hacc
    have hal : acc.length + (Oct.putN rank).length = (Oct.putN k).length := by rw [← Hacc.out]; simp
    have hp1 := Oct.putN_pos rank
    by_cases hr : rank < 128
    · go_wp2_with (at_builtin; refine wpList_append_own _ rfl _ _ 71 rfl w.heap.size 5 i0 (.int .u8 0) 1 1 Tryz.underlying71 hi hz0 hz1 hz2 rfl (by decide) _ _ _ rfl (hown.alloc _) ⟨wr.heap.size, 0, none⟩ 1 1 [.int .u8 rank] rfl rfl ?c1 ?c2 ?c3 ?c4 ?c5 ?_)
      case c1 => exact (cell_one_new _ _ _)
      case c2 => exact one_is _ _
      case c3 => unfold maxLen; omega
      case c4 => omega
      case c5 => have := hbel.size; simp; omega
      intro v' w1 hown' hgrow _
      go_wp2
      go_ret
      have e := Hacc.out
      rw [Oct.putN_small hr] at e
      obtain ⟨A, c, rfl, _⟩ := own_form hown'
      rw [← e]
      refine ⟨A, c, by simp, ?_, ?_⟩
      · simpa [U8] using hown'
      · exact (hbel.alloc hbel.size _).grown hgrow (by have := hbel.size; simp; omega) (fun g hg => (hown.lt g hg).1)
    · have hb8 := Oct.u8_or128 ((rank : Int) % 256) (by omega) (by omega)
      rw [show (rank : Int) % 256 % 128 = (rank : Int) % 128 by omega] at hb8
      go_wp2_with (at_builtin; refine wpList_append_own _ rfl _ _ 71 rfl w.heap.size 5 i0 (.int .u8 0) 1 1 Tryz.underlying71 hi hz0 hz1 hz2 rfl (by decide) _ _ _ rfl (hown.alloc _) ⟨wr.heap.size, 0, none⟩ 1 1 [.int .u8 ((rank : Int) % 128 + 128)] rfl rfl ?c1 ?c2 ?c3 ?c4 ?c5 ?_)
      case c1 => exact (cell_one_new _ _ _)
      case c2 => exact one_is _ _
      case c3 => unfold maxLen; omega
      case c4 => omega
      case c5 => have := hbel.size; simp; omega
      intro v' w1 hown' hgrow _
      have hb' := (hbel.alloc hbel.size (.cells #[.int .u8 ((rank : Int) % 128 + 128)] 5)).grown hgrow (by have := hbel.size; simp; omega) (fun g hg => (hown.lt g hg).1)
      have hs := Lib.hid (put_step acc k rank Hacc.out hr)
      clear hgrow hown hb8
      go_wp2
      go_roundw
      case rel => exact ⟨acc ++ [(rank : Int) % 128 + 128], rank / 128, hs.out, by simp, by simpa [U8] using hown', hb'⟩
      case measure => simp [intOf]; omega

def IsB (v : Value) : Prop := ∃ x : Int, v = .int .u8 x ∧ 0 ≤ x ∧ x ≤ 255
theorem isB_zero : ∀ j (h : j < (Value.int .u8 0).cells.size), IsB (Value.int .u8 0).cells[j] := by
  intro j h
  have : j = 0 := by simp [Value.cells] at h; omega
  subst this
  exact ⟨0, rfl, by omega, by omega⟩
def FreshB (n : Nat) (xs : List Value) (w : World) (r : Ending) (w' : World) : Prop :=
  ∃ A c, r = .returned (.slice A n c) ∧ Full IsB w' w.heap.size 5 1 A n c xs ∧ Below w.heap.size w w'
theorem full_rows {w w' : World} {A : Option Addr} {n c : Nat} {base e size : Nat} {T : Value → Prop} {xs : List Value} (h : Full T w base e size A n c xs) (hg : w.grownBy w' (Value.ownBlock (.slice A n c))) {B : Nat} {a : World} (hb : Below B a w) (hB : B ≤ w.heap.size) (hbase : B ≤ base) : Below B a w' :=
  hb.grown hg hB fun g hgb => by
    have := (h.owns.lt g hgb).1
    omega
set_option maxRecDepth 100000 in
set_option maxHeartbeats 400000 in
theorem putF_any (n : Int) (w : World) (h0 : -9223372036854775808 ≤ n) (h1 : n ≤ 9223372036854775807) :
    Calls Tryz.prog 104 #[.int .i64 n] w (FreshB (Oct.putN (Oct.zig n)).length (U8 (Oct.putN (Oct.zig n))) w) := by
  obtain ⟨i0, hi, hz0, hz1, hz2⟩ := info_parts infoU8
  have hx := Oct.zig_bits n h0 h1
  have hlt := Oct.zig_lt n h0 h1
  obtain ⟨k, hk⟩ : ∃ k, Oct.zig n = k := ⟨_, rfl⟩
  rw [hk] at hx hlt ⊢
  clear hk
  have hl10 := Oct.putN_len10 hlt
  go_enter Tryz.func104, Tryz.ntmps104
  go_wp2_with fail
  clear hx hlt h0 h1
  go_loopw [4, 3] (fun v r wr => ∃ (acc : List Int) (rank m : Nat) (A : Option Addr) (c : Nat), acc ++ Oct.putN rank = Oct.putN k ∧ m = acc.length ∧ r = .int .u64 rank ∧ v = .slice A m c ∧ Full IsB wr w.heap.size 5 1 A m c (U8 acc) ∧ Below w.heap.size w wr)
    (fun _ r _ => (intOf r).toNat)
  case atStart => exact ⟨[], k, 0, none, 0, rfl, rfl, rfl, rfl, Full.nil _ _ _ _ _, Below.refl _ _⟩
  case round =>
    obtain ⟨acc, rank, m, A, c, hacc, hm, rfl, rfl, hf, hbel⟩ := hrel
    have Hacc := Lib.hid hacc; clear hacc
    have hal : m + (Oct.putN rank).length = (Oct.putN k).length := by rw [← Hacc.out, hm]; simp
    have Hm := Lib.hid hm; clear hm
    have hp1 := Oct.putN_pos rank
    by_cases hr : rank < 128
    · go_wp2_with (at_builtin; refine wpList_append_full _ rfl _ _ 71 rfl w.heap.size 5 i0 (.int .u8 0) 1 1 Tryz.underlying71 hi hz0 hz1 hz2 rfl (by decide) isB_zero A m c _ rfl (hf.alloc _) _ (some ⟨wr.heap.size, 0, none⟩) 1 1 [.int .u8 rank] rfl (shows_built wr [.int .u8 rank] 5) (one_is _ _) (by unfold maxLen; omega) (by omega) (by have := hbel.size; simp; omega) ?_; intro A' c' w1 hf' hgrow)
      go_ret
      have e := Hacc.out
      rw [Oct.putN_small hr] at e
      rw [← e]
      refine ⟨A', c', by simp [Hm.out], ?_, full_rows (hf.alloc _) hgrow (bel_alloc hbel _) (by have := hbel.size; simp; omega) (Nat.le_refl _)⟩
      simpa [U8, Hm.out] using hf'
    · have hb8 := Oct.u8_or128 ((rank : Int) % 256) (by omega) (by omega)
      rw [show (rank : Int) % 256 % 128 = (rank : Int) % 128 by omega] at hb8
      go_wp2_with (at_builtin; refine wpList_append_full _ rfl _ _ 71 rfl w.heap.size 5 i0 (.int .u8 0) 1 1 Tryz.underlying71 hi hz0 hz1 hz2 rfl (by decide) isB_zero A m c _ rfl (hf.alloc _) _ (some ⟨wr.heap.size, 0, none⟩) 1 1 [.int .u8 ((rank : Int) % 128 + 128)] rfl (shows_built wr [.int .u8 ((rank : Int) % 128 + 128)] 5) (one_is _ _) (by unfold maxLen; omega) (by omega) (by have := hbel.size; simp; omega) ?_; intro A' c' w1 hf' hgrow)
      have hb' := full_rows (hf.alloc _) hgrow (bel_alloc hbel _) (by have := hbel.size; simp; omega) (Nat.le_refl _)
      have hs := Lib.hid (put_step acc k rank Hacc.out hr)
      clear hgrow hf hb8
      go_roundw
      case rel => exact ⟨acc ++ [(rank : Int) % 128 + 128], rank / 128, m + 1, A', c', hs.out, by simp [Hm.out], by simp, rfl, by simpa [U8] using hf', hb'⟩
      case measure => simp [intOf]; omega
end Go.Proofs.YthmhdaefkhcenaaGreatDoor
namespace Go.Proofs.YthmhdaefkhcenaaGreatDoor
open Go.RowKit Go.Lib Go.Maps

def longN (k : Int) : Int := if k = 1 then 1 else if k = 2 then 3 else if k = 3 then 6 else if k = 4 then 12 else 0
def longB (k : Int) : Bool := decide (1 ≤ k ∧ k ≤ 4)
theorem lawI : Keyed Tryz.prog 3 := int_keyed Tryz.underlying3
theorem zeroI (w : World) : (zeroValue 3).run Tryz.prog w = .ok (.int .i64 0) w := by kernel_rfl
def D4 : DataW Unit := ((((DataW.map []).put (.int .i64 1) (.lit (.int .i64 1))).put (.int .i64 2) (.lit (.int .i64 3))).put (.int .i64 3) (.lit (.int .i64 6))).put (.int .i64 4) (.lit (.int .i64 12))
theorem d4_has (k : Int) : has D4 (.int .i64 k) = longB k := by
  by_cases h1 : k = 1
  · subst h1; rfl
  by_cases h2 : k = 2
  · subst h2; rfl
  by_cases h3 : k = 3
  · subst h3; rfl
  by_cases h4 : k = 4
  · subst h4; rfl
  unfold D4
  rw [has_put_other (by simpa using h4), has_put_other (by simpa using h3), has_put_other (by simpa using h2), has_put_other (by simpa using h1)]
  unfold longB
  rw [decide_eq_false (by omega)]
  rfl
theorem d4_at (k : Int) : D4.atKey (.int .i64 k) (.lit (.int .i64 0)) = .lit (.int .i64 (longN k)) := by
  unfold longN
  by_cases h1 : k = 1
  · subst h1; rfl
  by_cases h2 : k = 2
  · subst h2; rfl
  by_cases h3 : k = 3
  · subst h3; rfl
  by_cases h4 : k = 4
  · subst h4; rfl
  rw [if_neg h1, if_neg h2, if_neg h3, if_neg h4]
  unfold D4
  rw [atKey_put_other (by simpa using h4), atKey_put_other (by simpa using h3), atKey_put_other (by simpa using h2), atKey_put_other (by simpa using h1)]
  rfl
set_option maxRecDepth 100000 in
set_option maxHeartbeats 4000000 in
theorem long_any (k : Int) (w : World) (h0 : -9223372036854775808 ≤ k) (h1 : k ≤ 9223372036854775807) : Calls Tryz.prog 131 #[.int .i64 k] w fun e w' => e = .returned (.tuple #[.int .i64 (longN k), .bool (longB k)]) ∧ Below w.heap.size w w' := by
  have hmm := @run_makeMap Tryz.prog
  have own0 := World.ownsMap_made (H := Unit) w Tryz.prog 3 (plainElem Tryz.prog 3)
  have hkey : keyOf Tryz.prog 3 (.int .i64 k) = some (.int .i64 k) := keyOf_int_mk Tryz.underlying3 (WalkArith.wf_i64 (by omega))
  obtain ⟨w1, r1, own1, hg1⟩ := own0.update (t := 319) lawI Tryz.underlying319 (by unfold maxLen; omega) (key := .int .i64 1) (val := .int .i64 1) (keyOf_int_mk (a := 1) Tryz.underlying3 (by decide)) (plainElem_int (a := 1) Tryz.underlying3 (by decide))
  obtain ⟨w2, r2, own2, hg2⟩ := own1.update (t := 319) lawI Tryz.underlying319 (by unfold maxLen; omega) (key := .int .i64 2) (val := .int .i64 3) (keyOf_int_mk (a := 2) Tryz.underlying3 (by decide)) (plainElem_int (a := 3) Tryz.underlying3 (by decide))
  obtain ⟨w3, r3, own3, hg3⟩ := own2.update (t := 319) lawI Tryz.underlying319 (by unfold maxLen; omega) (key := .int .i64 3) (val := .int .i64 6) (keyOf_int_mk (a := 3) Tryz.underlying3 (by decide)) (plainElem_int (a := 6) Tryz.underlying3 (by decide))
  obtain ⟨w4, r4, own4, hg4⟩ := own3.update (t := 319) lawI Tryz.underlying319 (by unfold maxLen; omega) (key := .int .i64 4) (val := .int .i64 12) (keyOf_int_mk (a := 4) Tryz.underlying3 (by decide)) (plainElem_int (a := 12) Tryz.underlying3 (by decide))
  obtain ⟨v, ps, hrun, hv⟩ := own4.look_ok (t := 319) lawI Tryz.underlying319 (zeroI _) (plainElem_int (q := .i64) (a := 0) Tryz.underlying3 (by decide)) hkey
  obtain ⟨c, rfl, hpc, hwc⟩ := plainElem_int_inv Tryz.underlying3 hv
  have hat : D4.atKey (.int .i64 k) (.lit (.int .i64 0)) = .lit (.int .i64 c) := congrArg Prod.fst hpc
  have hc : c = longN k := by
    have := d4_at k
    rw [hat] at this
    simpa using this
  subst hc
  replace hrun : (Instr.lookup 319 (.map (some w.heap.size)) (.int .i64 k) true).run Tryz.prog w4 = .ok (.tuple #[.int .i64 (longN k), .bool (longB k)]) w4 := by rw [← d4_has k]; exact hrun
  have q : ∀ j, some w.heap.size = some j → w.heap.size ≤ j := fun j hj => by cases hj; exact Nat.le_refl _
  have hb := bel_grown (bel_grown (bel_grown (bel_grown (bel_alloc (Below.refl _ _) _) hg1 q) hg2 q) hg3 q) hg4 q
  clear own0 own1 own2 own3 own4 hg1 hg2 hg3 hg4 hv hpc hwc hat hkey q
  go_enter Tryz.func131, Tryz.ntmps131
  go_wp2_with fail
  go_ret2
  exact ⟨rfl, hb⟩
end Go.Proofs.YthmhdaefkhcenaaGreatDoor
namespace Go.Proofs.YthmhdaefkhcenaaGreatDoor
open Go.RowKit

theorem block_lt {W : World} {p : Addr} {v : Value} (h : W.cell? p = some v) : p.block < W.heap.size := by
  rcases Nat.lt_or_ge p.block W.heap.size with hlt | hge
  · exact hlt
  · simp [World.cell?, Array.getElem?_eq_none hge] at h
theorem shows_ints {W : World} {k : IntKind} {x : Addr} {len cap : Nat} {zs : List Int} (hl : len ≤ cap) (hz : zs.length = cap) (hcell : ∀ i, i < zs.length → W.cell? (x.add i) = some (.int k (zs.getD i 0))) :
    Shows W W.heap.size 1 (some x) len ((zs.take len).map (Value.int k)) := by
  refine ⟨by simp; omega, fun h0 => ?_⟩
  obtain ⟨b, off, spot⟩ := x
  have hc := hcell 0 (by omega)
  have hspot : spot = none := by simpa [Addr.add] using World.cell?_spot hc
  subst hspot
  refine ⟨b, off, rfl, by simpa [Addr.add] using block_lt hc, fun j hj => ?_⟩
  have hj' : j < len := by simp at hj; omega
  have h1 := hcell j (by omega)
  have e1 : (⟨b, off, none⟩ : Addr).add j = ⟨b, off + j, none⟩ := by unfold Addr.add; split <;> simp_all
  rw [e1] at h1
  rw [h1]
  have hj2 : j < zs.length := by omega
  simp [List.getD, hj', List.getElem?_eq_getElem hj2]
theorem wf_all {k : IntKind} {zs : List Int} (len : Nat) (h : ∀ n ∈ zs, (Lit.int k n).wf = true) : ∀ n ∈ zs.take len, (Lit.int k n).wf = true := fun n hn => h n (List.mem_of_mem_take hn)
end Go.Proofs.YthmhdaefkhcenaaGreatDoor
