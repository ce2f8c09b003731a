/- The walk of 'octet.GetList'. -/
import Derived.Test.YtnhiipiciondoaaOctGetT
import Derived.Test.YtnhiipiciondoaaKitInts
namespace Go.Proofs.Ytnhiipiciondoaa
open Go.RowKit Go.Lib

def getMany (xs : List Int) : Nat → Int → List Int → List Int × Int × Int × Int
  | 0, at_, acc => (acc, at_, 0, 0)
  | k + 1, at_, acc => if (Oct.getB xs at_).2.2.1 ≠ 0 then ([], 0, (Oct.getB xs at_).2.2.1, (Oct.getB xs at_).2.2.2) else getMany xs k (Oct.getB xs at_).2.1 (acc ++ [(Oct.getB xs at_).1])
def getLs (xs : List Int) (at_ most : Int) : List Int × Int × Int × Int :=
  if most < 0 then ([], 0, 2, 0) else
  let r := Oct.getB xs at_
  if r.2.2.1 ≠ 0 then ([], 0, r.2.2.1, r.2.2.2) else if r.1 < 0 then ([], 0, 5, at_) else if most < r.1 then ([], 0, 3, at_) else getMany xs r.1.toNat r.2.1 []
/-- A list's answer: in new memory, or nil. -/
def LV (r : List Int × Int × Int × Int) (w : World) (e : Ending) (w' : World) : Prop :=
  ∃ A c, e = .returned (.tuple #[.slice A r.1.length c, .int .i64 r.2.1, .agg #[.int .i64 r.2.2.1, .int .i64 r.2.2.2]]) ∧ w'.ownsRow w.heap.size 3 1 (.slice A r.1.length c) r.1.length (I64 r.1) ∧ Below w.heap.size w w'
set_option maxRecDepth 100000 in
set_option maxHeartbeats 1600000 in
theorem listTail_any (A : Option Addr) (len c : Nat) (xs : List Int) (n at_ gb B : Nat) (w : World) (hbox : w.cell? ⟨gb, 0, none⟩ = some (.slice A len c)) (hgb : gb < w.heap.size) (ha : Shows w B 1 A len (U8 xs)) (hB : B ≤ w.heap.size)
    (hlen : len ≤ 70000) (hc : len ≤ c) (hn : n ≤ 9223372036854775807) (hat : at_ ≤ len) (hx : ∀ x ∈ xs, 0 ≤ x ∧ x ≤ 255) :
    Calls Try.prog 49 #[.int .i64 n, .int .i64 at_, .pointer (some ⟨gb, 0, none⟩)] w (LV (getMany xs n at_ []) w) := by
  obtain ⟨i0, hi, hz0, hz1, hz2⟩ := info_parts infoI64
  have hl : xs.length = len := by have := ha.len; simpa [U8] using this
  have Hl := Lib.hid hl
  have Hx := Lib.hid hx
  clear hl hx
  go_enter Try.func49, Try.ntmps49
  go_wp2_with fail
  go_loopw [8, 1, 13] (fun v p i wr => ∃ (j a : Nat) (Aj : Option Addr) (cj : Nat) (acc : List Int), j ≤ n ∧ j + at_ ≤ a ∧ a ≤ len ∧ v = .slice Aj j cj ∧ p = .int .i64 a ∧ i = .int .i64 j ∧ acc.length = j ∧
      getMany xs n at_ [] = getMany xs (n - j) a acc ∧ wr.ownsRow (w.heap.size + 1) 3 1 (.slice Aj j cj) j (I64 acc) ∧ Block wr w.heap.size 37 [.int .i64 0, .int .i64 0] ∧ Below w.heap.size w wr)
    (fun _ _ i _ => n - (intOf i).toNat)
  case atStart => exact ⟨0, at_, none, 0, [], by omega, by omega, hat, rfl, rfl, rfl, rfl, rfl, World.ownsRow_nil _ _ _ _, Block.new w _ [.int .i64 0, .int .i64 0], bel_alloc (Below.refl _ _) _⟩
  case round =>
    obtain ⟨j, a, Aj, cj, acc, hj, hja, hal, rfl, rfl, rfl, hacc, hmany, hown, hblk, hbel⟩ := hrel
    have Hacc := Lib.hid hacc
    have Hmany := Lib.hid hmany
    clear hacc hmany
    have hz := hbel.size
    have hzb := hblk.lt
    by_cases hlt : j < n
    · have hbx : wr.cell? ⟨gb, 0, none⟩ = some (.slice A len c) := (hbel.cell (p := ⟨gb, 0, none⟩) hgb).trans hbox
      obtain ⟨r0, r1, r2, r3, hr⟩ : ∃ r0 r1 r2 r3, Oct.getB xs a = (r0, r1, r2, r3) := ⟨_, _, _, _, rfl⟩
      have hf := Oct.getB_facts xs a Hx.out
      simp only [hr] at hf
      obtain ⟨⟨f0, f1⟩, f2⟩ := hf
      have Hr := Lib.hid hr
      have hg := get_is (c := c) hr (ha.below (hbel.mono hB)) (by unfold maxLen; omega) (by omega) hc Hx.out (by omega) (by omega)
      clear hr
      by_cases t1 : r2 = 0
      · subst t1
        obtain ⟨nx, rfl⟩ : ∃ k : Nat, r1 = k := ⟨r1.toNat, by have := (f2 rfl).1; omega⟩
        have h1 := (f2 rfl).1
        have h2 : (nx : Int) ≤ len := by have := (f2 rfl).2.1; rw [Hl.out] at this; exact this
        clear f2
        go_wp2_with fail
        refine hg.mono ?_
        rintro e w1 ⟨rfl, hb1⟩
        go_wp2_with (at_builtin; refine wpList_append_shows _ rfl _ _ 27 rfl (w.heap.size + 1) 3 i0 (.int .i64 0) 1 8 Try.underlying27 hi hz0 hz1 hz2 rfl (by decide) _ _ _ rfl (((own_below hown hb1).alloc _).alloc _) _ (some ⟨w1.heap.size + 1, 0, none⟩) 1 1 [.int .i64 r0] rfl (shows_at _ [.int .i64 r0] 3 _ (by simp)) (one_is _ _) (by unfold maxLen; omega) (by omega) (by have := hb1.size; simp; omega) ?_; intro A3 c3 w3 hown3 hg3)
        have hm2 : getMany xs (n - j) a acc = getMany xs (n - (j + 1)) nx (acc ++ [r0]) := by
          rw [show n - j = (n - (j + 1)) + 1 by omega, getMany, Hr.out]; simp
        have Hm2 := Lib.hid (Hmany.out.trans hm2)
        have b3 : Below w.heap.size w w3 := bel_grown (bel_alloc (bel_alloc (bel_call hbel hb1) _) _) hg3 (fun g hg => by have := (hown.lt g hg).1; omega)
        have k3 : Block w3 w.heap.size 37 [.int .i64 0, .int .i64 0] := by
          have hk := ((hblk.call hb1).alloc (.cells #[.int .i64 0, .int .i64 r3] 37)).alloc (.cells #[.int .i64 r0] 3)
          exact (hg3.block _ hk.lt (fun e => by have := (hown.lt _ e.symm).1; omega)).trans hk
        clear hm2 hg3 hg
        go_roundw
        case rel => exact ⟨j + 1, nx, A3, c3, acc ++ [r0], by omega, by omega, by omega, rfl, rfl, by go_num, by simp [Hacc.out], Hm2.out, by simpa [I64] using hown3, k3, b3⟩
        case measure => simp [intOf]; omega
      · have t1b : (r2 == 0) = false := by simpa using t1
        have t1c : (r2 != 0) = true := by simpa using t1
        clear f2
        go_wp2_with fail
        refine hg.mono ?_
        rintro e w1 ⟨rfl, hb1⟩
        have hblk1 := hblk.call hb1
        have z1 := hb1.size
        have c0 := hblk1.cell 0
        have c1 := hblk1.cell 1
        have u0 := hblk1.free 0
        have u1 := hblk1.free 1
        simp only [List.getElem?_cons_zero, List.getElem?_cons_succ] at c0 c1
        go_wp2_with fail
        have z2 : w.heap.size < w1.heap.size := by omega
        have hm2 : getMany xs (n - j) a acc = ([], 0, r2, r3) := by
          rw [show n - j = (n - (j + 1)) + 1 by omega, getMany, Hr.out]; simp [t1]
        have Hm2 := Lib.hid (Hmany.out.trans hm2)
        clear hm2
        go_region
        go_wp2_with fail
        refine ret_ttc (T := 37) rfl rfl rfl (((hblk1.set 0 (.int .i64 r2)).set 1 (.int .i64 r3)).alloc _).drew agg_fault size_fault ?_
        unfold LV
        rw [Hm2.out]
        exact ⟨none, 0, rfl, World.ownsRow_nil _ _ _ _, (bel_alloc (bel_set (bel_set (bel_call hbel hb1) (Nat.le_refl _) _) (Nat.le_refl _) _) _).drew⟩
    · obtain rfl : j = n := by omega
      have c0 := hblk.cell 0
      have c1 := hblk.cell 1
      have u0 := hblk.free 0
      have u1 := hblk.free 1
      simp only [List.getElem?_cons_zero, List.getElem?_cons_succ] at c0 c1
      have hm2 : getMany xs j at_ [] = (acc, (a : Int), 0, 0) := by rw [Hmany.out, Nat.sub_self]; rfl
      have Hm2 := Lib.hid hm2
      clear hm2
      go_wp2_with fail
      refine ret_ttc (T := 37) rfl rfl rfl ((hblk.set 0 (.int .i64 0)).set 1 (.int .i64 0)) agg_fault size_fault ?_
      unfold LV
      rw [Hm2.out]
      have ho := ownsRow_setCell_below (ownsRow_setCell_below hown (a := ⟨w.heap.size, 0, none⟩) (Nat.lt_succ_self _) (.int .i64 0)) (a := ⟨w.heap.size, 1, none⟩) (Nat.lt_succ_self _) (.int .i64 0)
      exact ⟨Aj, cj, by simp [Hacc.out], by simpa [Hacc.out] using own_base ho (Nat.le_succ _), bel_set (bel_set hbel (Nat.le_refl _) _) (Nat.le_refl _) _⟩
end Go.Proofs.Ytnhiipiciondoaa
