/- Lemmas for it; no condition: TRd. -/
import Derived.Test.YthmhdaefkhcenaaGreatDoorZ09
import Derived.Deep.RegionHeld3
import Derived.Defers
import Derived.Recover
set_option linter.unusedVariables false
set_option linter.unusedSimpArgs false
namespace Go.Proofs.YthmhdaefkhcenaaGreatDoor
set_option maxRecDepth 100000
set_option maxHeartbeats 8000000
open Go.RowKit Go.Lib
def fv (e at_ : Int) : Value := .agg #[.int .i64 e, .int .i64 at_]
def gv (r : Int × Int × Int × Int) : Value := .tuple #[.int .i64 r.1, .int .i64 r.2.1, fv r.2.2.1 r.2.2.2]
set_option maxRecDepth 100000 in
set_option maxHeartbeats 400000 in
theorem fault_any (e at_ : Int) (w : World) :
    Calls Tryz.prog 165 #[.int .i64 e, .int .i64 at_] w fun r w' => r = .returned (fv e at_) ∧ Below w.heap.size w w' := by
  go_enter Tryz.func165, Tryz.ntmps165
  go_wp2_with fail
  exact bodyPost_ret (v := fv e at_) (by simp [results, Tryz.results165, go_sem, fv]) rfl ⟨rfl, ((Below.refl _ _).alloc (Nat.le_refl _) _)⟩
set_option maxRecDepth 100000 in
set_option maxHeartbeats 1600000 in
theorem get_any (A : Option Addr) (n c : Nat) (xs : List Int) (at_ : Int) (B : Nat) (w : World) (ha : Shows w B 1 A n (U8 xs)) (hn : n ≤ maxLen) (hB : B ≤ w.heap.size)
    (hc : n ≤ c) (hx : ∀ x ∈ xs, 0 ≤ x ∧ x ≤ 255) (h0 : -9223372036854775808 ≤ at_) (h1 : at_ ≤ 9223372036854775807) :
    Calls Tryz.prog 229 #[.slice A n c, .int .i64 at_] w fun e w' => e = .returned (gv (Oct.getB xs at_)) ∧ Below w.heap.size w w' := by
  have hl : xs.length = n := by have := ha.len; simpa [U8] using this
  unfold maxLen at hn
  by_cases hr : at_ < 0 ∨ (n : Int) < at_
  · have e : Oct.getB xs at_ = (0, 0, 5, 0) := by unfold Oct.getB; rw [if_pos (by omega)]
    rw [e]
    rcases hr with hr | hr
    · go_enter Tryz.func229, Tryz.ntmps229
      go_wp2
      exact bodyPost_ret (v := gv (0, 0, 5, 0)) (by simp [results, Tryz.results229, go_sem, gv, fv]) rfl ⟨rfl, by go_grown⟩
    · have h2 : ¬ at_ < 0 := by omega
      go_enter Tryz.func229, Tryz.ntmps229
      go_wp2
      exact bodyPost_ret (v := gv (0, 0, 5, 0)) (by simp [results, Tryz.results229, go_sem, gv, fv]) rfl ⟨rfl, by go_grown⟩
  · obtain ⟨k, rfl⟩ : ∃ k : Nat, at_ = k := ⟨at_.toNat, by omega⟩
    have hk : k ≤ n := by omega
    have e : Oct.getB xs k = Oct.getL (xs.drop k) 0 0 k xs.length := by unfold Oct.getB; rw [if_neg (by omega)]; simp
    rw [e]
    have Hl := Lib.hid hl; clear hl e hr
    obtain ⟨A2, hcut, hsh⟩ := cut_from (P := Tryz.prog) 1 Tryz.underlying71 size_u8 A n c k hk hc
    have ha2 := hsh _ _ _ ha
    clear hsh ha
    have d1 : decide ((k : Int) < 0) = false := by simp
    have d2 : decide (n < k) = false := by simp; omega
    go_enter Tryz.func229, Tryz.ntmps229
    go_wp2_with fail
    clear hcut
    go_loop [7, 23] (fun r i => ∃ j rank : Nat, j ≤ 9 ∧ rank < 128 ^ j ∧ i = .int .i64 j ∧ r = .int .u64 rank ∧ k + j ≤ n ∧ Oct.getL (xs.drop (k + j)) j rank k n = Oct.getL (xs.drop k) 0 0 k n)
      (fun _ i => n - (intOf i).toNat)
    case atStart => exact ⟨0, 0, by omega, by simp, rfl, rfl, by omega, by simp⟩
    case round =>
      obtain ⟨j, rank, hj, hrank, rfl, rfl, hjn, hres⟩ := hrel
      have Hres := Lib.hid hres; clear hres
      have Hrank := Lib.hid hrank; clear hrank
      by_cases hlt : k + j < n
      · obtain ⟨b, off, rfl, hb, hcell⟩ := ha2.at_ (by omega)
        have hcx := hcell j (by simp [U8, Hl.out]; omega)
        obtain ⟨x, hxe⟩ : ∃ x, xs[k + j]? = some x := ⟨xs[k + j]'(by rw [Hl.out]; exact hlt), List.getElem?_eq_getElem _⟩
        have hx1 := hx x (List.mem_of_getElem? hxe)
        have hcx : (w.alloc (Obj.cells #[Value.int IntKind.i64 0, Value.int IntKind.i64 0] 194)).cell? ⟨b, off + j, none⟩ = some (.int .u8 x) := by
          rw [World.cell?_alloc_lt _ _ _ (show b < w.heap.size by omega), hcx]
          simp [U8, hxe]
        have Hxe := Lib.hid hxe
        clear hxe hcell hx ha2
        by_cases t1 : j = 9 ∧ 1 < x
        · have Hr := Lib.hid ((Hres.out).symm.trans (Oct.getL_range Hxe.out t1))
          obtain ⟨t1a, t1b⟩ := t1
          subst t1a
          clear Hres Hrank
          go_wp2
          refine bodyPost_ret (v := gv (0, 0, 5, (k : Int) + (9 : Nat))) (by simp [results, Tryz.results229, go_sem, gv, fv]) rfl ⟨by rw [Hl.out, Hr.out], by go_grown⟩
        · by_cases t2 : 0 < j ∧ x = 0
          · have Hr := Lib.hid ((Hres.out).symm.trans (Oct.getL_zero Hxe.out t1 t2))
            obtain ⟨t2a, t2b⟩ := t2
            subst t2b
            clear Hres Hrank t1
            by_cases h9 : j = 9
            · subst h9
              go_wp2
              refine bodyPost_ret (v := gv (0, 0, 4, (k : Int) + (9 : Nat))) (by simp [results, Tryz.results229, go_sem, gv, fv]) rfl ⟨by rw [Hl.out, Hr.out], by go_grown⟩
            · go_wp2
              refine bodyPost_ret (v := gv (0, 0, 4, (k : Int) + j)) (by simp [results, Tryz.results229, go_sem, gv, fv]) rfl ⟨by rw [Hl.out, Hr.out], by go_grown⟩
          · have hr2 := Oct.get_or rank j x hj Hrank.out hx1.1 hx1.2 t1
            have hlt2 := Oct.get_small j (x % 128).toNat rank hj Hrank.out (by omega) (by omega)
            have hnx := Oct.rank_next (j := j) (rank := rank) (y := (x % 128).toNat) Hrank.out (by omega)
            have hzag := Oct.zag_bits _ hlt2
            by_cases t3 : x < 128
            · have Hr := Lib.hid ((Hres.out).symm.trans (Oct.getL_last Hxe.out t1 t2 t3))
              generalize hg : rank + (x % 128).toNat * 128 ^ j = r2 at *
              clear Hres Hrank hg hlt2 hnx
              by_cases h9 : j = 9
              · subst h9
                have t1b : ¬ 1 < x := by omega
                have t2b : (x == 0) = false := by simp; omega
                simp only [Nat.reduceMul, Int.reducePow] at hr2
                clear t1 t2
                go_wp2
                refine bodyPost_ret (v := gv (Oct.zag r2, (k : Int) + (9 : Nat) + 1, 0, 0)) (by simp [results, Tryz.results229, go_sem, gv, fv]) rfl ⟨by rw [Hl.out, Hr.out], by go_grown⟩
              · by_cases h00 : j = 0
                · subst h00
                  simp only [Nat.add_zero, Nat.mul_zero, Int.mul_one, Int.pow_zero] at hr2 hcx
                  clear t1 t2 h9
                  go_wp2
                  refine bodyPost_ret (v := gv (Oct.zag r2, (k : Int) + (0 : Nat) + 1, 0, 0)) (by simp [results, Tryz.results229, go_sem, gv, fv]) rfl ⟨by rw [Hl.out, Hr.out], by go_grown⟩
                · have t2b : (x == 0) = false := by simp; omega
                  clear t1 t2
                  go_wp2
                  refine bodyPost_ret (v := gv (Oct.zag r2, (k : Int) + j + 1, 0, 0)) (by simp [results, Tryz.results229, go_sem, gv, fv]) rfl ⟨by rw [Hl.out, Hr.out], by go_grown⟩
            · have Hr := Lib.hid ((Oct.getL_more Hxe.out t1 t2 t3).symm.trans Hres.out)
              generalize hg : rank + (x % 128).toNat * 128 ^ j = r2 at *
              have Hnx := Lib.hid hnx
              have h9 : ¬ j = 9 := by omega
              have t2b : (x == 0) = false := by simp; omega
              clear Hres Hrank hg hlt2 hnx hzag t1 t2
              by_cases h00 : j = 0
              · subst h00
                simp only [Nat.add_zero, Nat.mul_zero, Int.mul_one, Int.pow_zero] at hr2 hcx
                go_wp2
                go_round
                case rel => exact ⟨1, r2, by omega, by simpa using Hnx.out, rfl, rfl, by omega, Hr.out⟩
                case measure => simp [intOf]; omega
              · go_wp2
                go_round
                case rel => exact ⟨j + 1, r2, by omega, Hnx.out, by go_num, rfl, by omega, Hr.out⟩
                case measure => simp [intOf]; omega
      · have hk2 : k + j = n := by omega
        have Hr := Lib.hid ((Hres.out).symm.trans (Oct.getL_end (by rw [Hl.out]; omega)))
        go_wp2
        refine bodyPost_ret (v := gv (0, 0, 4, (n : Int))) (by simp [results, Tryz.results229, go_sem, gv, fv]) rfl ⟨by rw [Hl.out, Hr.out], by go_grown⟩

theorem get_is {A : Option Addr} {n c : Nat} {xs : List Int} {at_ : Int} {B : Nat} {w : World} {r0 r1 r2 r3 : Int} (hr : Oct.getB xs at_ = (r0, r1, r2, r3)) (ha : Shows w B 1 A n (U8 xs)) (hn : n ≤ maxLen) (hB : B ≤ w.heap.size)
    (hc : n ≤ c) (hx : ∀ x ∈ xs, 0 ≤ x ∧ x ≤ 255) (h0 : -9223372036854775808 ≤ at_) (h1 : at_ ≤ 9223372036854775807) :
    Calls Tryz.prog 229 #[.slice A n c, .int .i64 at_] w fun e w' => e = .returned (.tuple #[.int .i64 r0, .int .i64 r1, .agg #[.int .i64 r2, .int .i64 r3]]) ∧ Below w.heap.size w w' :=
  (get_any A n c xs at_ B w ha hn hB hc hx h0 h1).mono fun e w' h => by rw [hr] at h; exact h
theorem agg_fault (w : World) : (isAgg 194).run Tryz.prog w = .ok true w := by kernel_rfl
theorem size_fault (w : World) : (sizeOf 194).run Tryz.prog w = .ok 2 w := by kernel_rfl
def nfault (g : Int × Int × Int × Int) (at_ low high above : Int) : Int × Int :=
  if g.2.2.1 ≠ 0 then (g.2.2.1, g.2.2.2) else if high < g.1 then (above, at_) else if g.1 < low then (5, at_) else (0, g.2.2.2)
theorem block_top {W : World} {t : TypeId} {g : Nat} {cs : List Value} (hg : W.heap.size = g) : Block (W.alloc (.cells cs.toArray t)) g t cs := hg ▸ Block.new W t cs
def RD (w : World) (R : Nat) (A : Option Addr) (n c : Nat) (at_ fe fa : Int) (made : Bool) : Prop :=
  Block w R 310 [.slice A n c, .int .i64 at_, .int .i64 fe, .int .i64 fa, .bool made]
set_option maxRecDepth 100000 in
set_option maxHeartbeats 1000000 in
theorem none_any (R : Nat) (A : Option Addr) (n c : Nat) (at_ fe fa : Int) (made : Bool) (w : World) (h : RD w R A n c at_ fe fa made) :
    Calls Tryz.prog 164 #[.pointer (some ⟨R, 0, none⟩)] w fun e w' => e = .returned (.bool (!made)) ∧ w = w' := by
  have c4 := Block.cell h 4
  simp only [List.getElem?_cons_succ, List.getElem?_cons_zero] at c4
  go_enter Tryz.func164, Tryz.ntmps164
  go_wp2_with fail
  go_ret
  exact ⟨rfl, rfl⟩
set_option maxRecDepth 100000 in
set_option maxHeartbeats 1000000 in
theorem none_nil (w : World) : Calls Tryz.prog 164 #[.pointer none] w fun e w' => e = .returned (.bool true) ∧ w = w' := by
  go_enter Tryz.func164, Tryz.ntmps164
  go_wp2_with fail
  go_ret
  exact ⟨rfl, rfl⟩
set_option maxRecDepth 100000 in
set_option maxHeartbeats 4000000 in
theorem number1_any (g0 g1 g2 g3 R : Nat) (A : Option Addr) (n c : Nat) (xs : List Int) (at_ fe fa low high above : Int) (made : Bool) (B : Nat) (w : World)
    (h0 : w.cell? ⟨g0, 0, none⟩ = some (.pointer (some ⟨R, 0, none⟩))) (h1 : w.cell? ⟨g1, 0, none⟩ = some (.int .i64 high)) (h2 : w.cell? ⟨g2, 0, none⟩ = some (.int .i64 above)) (h3 : w.cell? ⟨g3, 0, none⟩ = some (.int .i64 low))
    (hR : RD w R A n c at_ fe fa made) (ha : Shows w B 1 A n (U8 xs)) (hB : B ≤ w.heap.size) (hn : n ≤ maxLen) (hc : n ≤ c) (hx : ∀ x ∈ xs, 0 ≤ x ∧ x ≤ 255) (a0 : 0 ≤ at_) (a1 : at_ ≤ 9223372036854775807) {q0 q1 q2 q3 : Int} (hr : Oct.getB xs at_ = (q0, q1, q2, q3)) {f1 f2 : Int} (hf : nfault (q0, q1, q2, q3) at_ low high above = (f1, f2)) :
    Calls Tryz.prog 228 #[.pointer (some ⟨g0, 0, none⟩), .pointer (some ⟨g1, 0, none⟩), .pointer (some ⟨g2, 0, none⟩), .pointer (some ⟨g3, 0, none⟩)] w fun e w' =>
      e = .returned (.tuple #[.int .i64 q0, .int .i64 q1, .agg #[.int .i64 f1, .int .i64 f2]]) ∧ Below w.heap.size w w' := by
  have l0 := World.block_lt_of_cell? w _ h0
  have l1 := World.block_lt_of_cell? w _ h1
  have l2 := World.block_lt_of_cell? w _ h2
  have l3 := World.block_lt_of_cell? w _ h3
  have lR := Block.lt hR
  simp only at l0 l1 l2 l3
  have c0 : w.cell? ⟨R, 0, none⟩ = some (.slice A n c) := Block.cell hR 0
  have c1 : w.cell? ⟨R, 1, none⟩ = some (.int .i64 at_) := Block.cell hR 1
  have hg := fun w' (h : Shows w' B 1 A n (U8 xs)) (hB' : B ≤ w'.heap.size) => get_is (c := c) hr h hn hB' hc hx (by omega) a1
  have hA1 := hg ((w.alloc (.cells #[.int .i64 0, .int .i64 0] 194)).drew) ((ha.alloc hB _).drew) (by simp; omega)
  have hA2 := hg (((w.alloc (.cells #[.int .i64 0, .int .i64 0] 194)).alloc (.cells #[.int .i64 0, .int .i64 0] 194)).drew) (((ha.alloc hB _).alloc (by simp; omega) _).drew) (by simp; omega)
  have Hf := Lib.hid hf
  have n1 : ¬ g0 = w.heap.size + 1 := by omega
  have n2 : ¬ w.heap.size + 1 = g0 := by omega
  have n3 : ¬ R = w.heap.size + 1 := by omega
  have n4 : ¬ w.heap.size + 1 = R := by omega
  clear hg hr hf ha hx
  go_enter Tryz.func228, Tryz.ntmps228
  go_upto_region 1 with (fail)
  go_cut [7, 8, 9] (fun s7 s8 s9 wx => ∃ g : Nat, s7 = .int .i64 q0 ∧ s8 = .int .i64 q1 ∧ s9 = .pointer (some ⟨g, 0, none⟩) ∧ w.heap.size < g ∧ Block wx g 194 [.int .i64 q2, .int .i64 q3] ∧ Block wx w.heap.size 194 [.int .i64 0, .int .i64 0] ∧ Below w.heap.size w wx)
  case first =>
    go_region_held3 (fun w' => w'.cell? ⟨g0, 0, none⟩ = some (.pointer (some ⟨R, 0, none⟩)) ∧ w'.cell? ⟨R, 0, none⟩ = some (.slice A n c) ∧ w'.cell? ⟨R, 1, none⟩ = some (.int .i64 at_)) (go_keep) (first
      | (go_at_call 229; refine hA1.mono ?_; rintro e w1 ⟨rfl, hb1⟩; have bel1 := bel_call (w := w) (bel_drewN (bel_alloc (Below.refl _ _) _) 1) hb1; have k0 := (bel1.cell (p := ⟨g0, 0, none⟩) l0).trans h0; have k1 := (bel1.cell (p := ⟨R, 0, none⟩) lR).trans c0; have k2 := (bel1.cell (p := ⟨R, 1, none⟩) lR).trans c1)
      | (go_at_call 229; refine hA2.mono ?_; rintro e w1 ⟨rfl, hb1⟩; have bel2 := bel_call (w := w) (bel_drewN (bel_alloc (bel_alloc (Below.refl _ _) _) _) 1) hb1; have kz := Block.call (w := ((w.alloc (.cells #[.int .i64 0, .int .i64 0] 194)).alloc (.cells #[.int .i64 0, .int .i64 0] 194)).drew) (g := w.heap.size + 1) (t := 194) (cs := [.int .i64 0, .int .i64 0]) (block_top (by simp)) hb1; have z0 : w1.cell? ⟨w.heap.size + 1, 0, none⟩ = some (.int .i64 0) := kz.cell 0; have z1 : w1.cell? ⟨w.heap.size + 1, 1, none⟩ = some (.int .i64 0) := kz.cell 1; have zf := kz.free; have k0 := (bel2.cell (p := ⟨g0, 0, none⟩) l0).trans h0; have k1 := (bel2.cell (p := ⟨R, 0, none⟩) lR).trans c0; have k2 := (bel2.cell (p := ⟨R, 1, none⟩) lR).trans c1))
    · have k6 := Block.call (w := ((w.alloc (.cells #[.int .i64 0, .int .i64 0] 194)).drew)) (g := w.heap.size) (t := 194) (cs := [.int .i64 0, .int .i64 0]) (Block.new w 194 [.int .i64 0, .int .i64 0]) hb1
      have zl := bel1.size
      have zl2 := hb1.size
      go_wp2_with fail
      go_meet
      exact ⟨w1.heap.size, rfl, rfl, rfl, by simp at zl2; omega, Block.new w1 194 [.int .i64 q2, .int .i64 q3], k6.alloc _, bel_alloc bel1 _⟩
    · have k6 := Block.call (w := (((w.alloc (.cells #[.int .i64 0, .int .i64 0] 194)).alloc (.cells #[.int .i64 0, .int .i64 0] 194)).drew)) (g := w.heap.size) (t := 194) (cs := [.int .i64 0, .int .i64 0]) ((Block.new w 194 [.int .i64 0, .int .i64 0]).alloc _) hb1
      have zl := bel2.size
      go_wp2_with fail
      go_meet
      exact ⟨w.heap.size + 1, rfl, rfl, rfl, by omega, (kz.set 0 _).set 1 _, (k6.far (by simp) _).far (by simp) _, bel_set (bel_set bel2 (by simp) _) (by simp) _⟩
  case rest =>
    obtain ⟨g, rfl, rfl, rfl, hgl, hb9, hb6, bel⟩ := hcut
    have k0 := (bel.cell (p := ⟨g0, 0, none⟩) l0).trans h0
    have k1 := (bel.cell (p := ⟨g1, 0, none⟩) l1).trans h1
    have k2 := (bel.cell (p := ⟨g2, 0, none⟩) l2).trans h2
    have k3 := (bel.cell (p := ⟨g3, 0, none⟩) l3).trans h3
    have kR := (bel.cell (p := ⟨R, 1, none⟩) lR).trans c1
    have m1 : ¬ g = w.heap.size := by omega
    have m2 : ¬ w.heap.size = g := by omega
    have m3 : ¬ g = g0 := by omega
    have m4 : ¬ g0 = g := by omega
    have m5 : ¬ g = R := by omega
    have m6 : ¬ R = g := by omega
    have m7 : ¬ g = g2 := by omega
    have m8 : ¬ g2 = g := by omega
    have hfl := fun e p w => (show Calls Tryz.prog 165 #[.int .i64 e, .int .i64 p] w fun r w' => r = .returned (.agg #[.int .i64 e, .int .i64 p]) ∧ Below w.heap.size w w' from fault_any e p w)
    have hq := Hf.out
    unfold nfault at hq
    simp only at hq
    by_cases e2 : q2 = 0
    rotate_left
    · rw [if_pos e2] at hq
      have Hq := Lib.hid (Prod.mk.inj hq.symm)
      have k4 : (q2 == 0) = false := by simpa using e2
      have k5 : (q2 != 0) = true := by simpa using e2
      clear hq e2
      have z6a : wc.cell? ⟨w.heap.size, 0, none⟩ = some (.int .i64 0) := hb6.cell 0
      have z6b : wc.cell? ⟨w.heap.size, 1, none⟩ = some (.int .i64 0) := hb6.cell 1
      have z6f := hb6.free
      have z9a : wc.cell? ⟨g, 0, none⟩ = some (.int .i64 q2) := hb9.cell 0
      have z9b : wc.cell? ⟨g, 1, none⟩ = some (.int .i64 q3) := hb9.cell 1
      have z9f := hb9.free
      go_wp2_with fail
      go_region
      go_wp2_with fail
      exact ret_ttc (T := 194) rfl rfl rfl ((hb6.set 0 (.int .i64 q2)).set 1 (.int .i64 q3)).drew agg_fault size_fault ⟨by rw [Hq.out.1, Hq.out.2]; rfl, bel_drewN (bel_set (bel_set bel (Nat.le_refl _) _) (Nat.le_refl _) _) 1⟩
    subst e2
    rw [if_neg (by simp)] at hq
    by_cases e3 : high < q0
    · rw [if_pos e3] at hq
      have Hq := Lib.hid (Prod.mk.inj hq.symm)
      clear hq
      have z6a : wc.cell? ⟨w.heap.size, 0, none⟩ = some (.int .i64 0) := hb6.cell 0
      have z6b : wc.cell? ⟨w.heap.size, 1, none⟩ = some (.int .i64 0) := hb6.cell 1
      have z6f := hb6.free
      have z9a : wc.cell? ⟨g, 0, none⟩ = some (.int .i64 0) := hb9.cell 0
      have z9b : wc.cell? ⟨g, 1, none⟩ = some (.int .i64 q3) := hb9.cell 1
      have z9f := hb9.free
      go_wp2_with fail
      go_region_held3 (fun w' => w'.cell? ⟨g2, 0, none⟩ = some (.int .i64 above) ∧ w'.cell? ⟨g0, 0, none⟩ = some (.pointer (some ⟨R, 0, none⟩)) ∧ w'.cell? ⟨R, 1, none⟩ = some (.int .i64 at_)) (go_keep) (first
        | (go_at_call 165; refine (hfl _ _ _).mono ?_; rintro e w2 ⟨rfl, hb2⟩; have bel2 := bel_call (w := w) (bel_drewN bel 1) hb2; have y0 := (bel2.cell (p := ⟨g0, 0, none⟩) l0).trans h0; have y2 := (bel2.cell (p := ⟨g2, 0, none⟩) l2).trans h2; have yR := (bel2.cell (p := ⟨R, 1, none⟩) lR).trans c1; have b9 := Block.call (w := wc.drew) hb9 hb2; have b6 := Block.call (w := wc.drew) hb6 hb2; have x9a : w2.cell? ⟨g, 0, none⟩ = some (.int .i64 0) := b9.cell 0; have x9b : w2.cell? ⟨g, 1, none⟩ = some (.int .i64 q3) := b9.cell 1; have x9f := b9.free; have x6a : w2.cell? ⟨w.heap.size, 0, none⟩ = some (.int .i64 0) := b6.cell 0; have x6b : w2.cell? ⟨w.heap.size, 1, none⟩ = some (.int .i64 0) := b6.cell 1; have x6f := b6.free))
      go_wp2_with fail
      go_region
      go_wp2_with fail
      exact ret_ttc (T := 194) rfl rfl rfl ((((b6.far m2 _).far m2 _).set 0 (.int .i64 above)).set 1 (.int .i64 at_)).drew agg_fault size_fault ⟨by rw [Hq.out.1, Hq.out.2]; rfl, bel_drewN (bel_set (bel_set (bel_set (bel_set bel2 (Nat.le_of_lt hgl) _) (Nat.le_of_lt hgl) _) (Nat.le_refl _) _) (Nat.le_refl _) _) 1⟩
    rw [if_neg e3] at hq
    by_cases e4 : q0 < low
    · rw [if_pos e4] at hq
      have Hq := Lib.hid (Prod.mk.inj hq.symm)
      clear hq
      have z6a : wc.cell? ⟨w.heap.size, 0, none⟩ = some (.int .i64 0) := hb6.cell 0
      have z6b : wc.cell? ⟨w.heap.size, 1, none⟩ = some (.int .i64 0) := hb6.cell 1
      have z6f := hb6.free
      have z9a : wc.cell? ⟨g, 0, none⟩ = some (.int .i64 0) := hb9.cell 0
      have z9b : wc.cell? ⟨g, 1, none⟩ = some (.int .i64 q3) := hb9.cell 1
      have z9f := hb9.free
      go_wp2_with fail
      refine (hfl _ _ _).mono ?_
      rintro e w2 ⟨rfl, hb2⟩
      have bel2 := bel_call (w := w) bel hb2
      have b9 := Block.call hb9 hb2
      have b6 := Block.call hb6 hb2
      clear z6a z6b z6f z9a z9b z9f
      have x9a : w2.cell? ⟨g, 0, none⟩ = some (.int .i64 0) := b9.cell 0
      have x9b : w2.cell? ⟨g, 1, none⟩ = some (.int .i64 q3) := b9.cell 1
      have x9f := b9.free
      have x6a : w2.cell? ⟨w.heap.size, 0, none⟩ = some (.int .i64 0) := b6.cell 0
      have x6b : w2.cell? ⟨w.heap.size, 1, none⟩ = some (.int .i64 0) := b6.cell 1
      have x6f := b6.free
      go_wp2_with fail
      go_region
      go_wp2_with fail
      exact ret_ttc (T := 194) rfl rfl rfl ((((b6.far m2 _).far m2 _).set 0 (.int .i64 5)).set 1 (.int .i64 at_)).drew agg_fault size_fault ⟨by rw [Hq.out.1, Hq.out.2]; rfl, bel_drewN (bel_set (bel_set (bel_set (bel_set bel2 (Nat.le_of_lt hgl) _) (Nat.le_of_lt hgl) _) (Nat.le_refl _) _) (Nat.le_refl _) _) 1⟩
    rw [if_neg e4] at hq
    have Hq := Lib.hid (Prod.mk.inj hq.symm)
    clear hq
    have z6a : wc.cell? ⟨w.heap.size, 0, none⟩ = some (.int .i64 0) := hb6.cell 0
    have z6b : wc.cell? ⟨w.heap.size, 1, none⟩ = some (.int .i64 0) := hb6.cell 1
    have z6f := hb6.free
    have z9a : wc.cell? ⟨g, 0, none⟩ = some (.int .i64 0) := hb9.cell 0
    have z9b : wc.cell? ⟨g, 1, none⟩ = some (.int .i64 q3) := hb9.cell 1
    have z9f := hb9.free
    go_wp2_with fail
    go_region
    go_wp2_with fail
    exact ret_ttc (T := 194) rfl rfl rfl ((hb6.set 0 (.int .i64 0)).set 1 (.int .i64 q3)).drew agg_fault size_fault ⟨by rw [Hq.out.1, Hq.out.2]; rfl, bel_drewN (bel_set (bel_set bel (Nat.le_refl _) _) (Nat.le_refl _) _) 1⟩

theorem grown_of_below {w w' : World} (h : Below w.heap.size w w') (row : Option Nat) : w.grownBy w' row := ⟨h.os, h.tape, h.output, h.size, fun k hk _ => h.block k hk⟩
theorem grown_set {w a : World} {g : Nat} {p : Addr} (h : w.grownBy a (some g)) (hp : p.block = g) (u : Value) : w.grownBy (a.setCell p u) (some g) :=
  ⟨h.os, h.tape, h.output, by simpa [World.setCell] using h.size, fun k hk hne => by rw [Below.heap_setCell a p u k (fun e => hne (by rw [e, hp]))]; exact h.block k hk hne⟩
theorem grown_new {w a : World} {r : Option Nat} (h : w.grownBy a r) {p : Addr} (hp : w.heap.size ≤ p.block) (u : Value) : w.grownBy (a.setCell p u) r :=
  ⟨h.os, h.tape, h.output, by simpa [World.setCell] using h.size, fun k hk hne => by rw [Below.heap_setCell a p u k (fun e => by omega)]; exact h.block k hk hne⟩
theorem res_cell {P : Program} {fn : Func} {tmps : Array Value} {w : World} {p : Tmp} {b : Nat} {v : Value} {T : TypeId} (hr : fn.results = #[.cell p T]) (hp : tmps.getD p undef = .pointer (some ⟨b, 0, none⟩)) (ha : ∀ w, (isAgg T).run P w = .ok false w) (hc : w.cell? ⟨b, 0, none⟩ = some v) : (results fn tmps).run P w = .ok v w := by
  simp only [results, hr]
  simp [Sem.run_bind, Result.andThen]
  rw [show tmps[p]?.getD undef = .pointer (some ⟨b, 0, none⟩) by rw [← hp]; simp]
  simp [asAddr, Sem.run_pure, loadVar, Sem.run_bind, ha, Result.andThen, go_sem, hc]
theorem agg_no3 (w : World) : (isAgg 3).run Tryz.prog w = .ok false w := by kernel_rfl
theorem agg_no9 (w : World) : (isAgg 9).run Tryz.prog w = .ok false w := by kernel_rfl
def RdPost (R : Nat) (A : Option Addr) (n c : Nat) (at_ fe fa : Int) (v : Value) (w : World) (e : Ending) (w' : World) : Prop := e = .returned v ∧ w.grownBy w' (some R) ∧ RD w' R A n c at_ fe fa true
set_option maxRecDepth 100000 in
set_option maxHeartbeats 2000000 in
theorem def_int_err (gf gr gx gn R : Nat) (fe fp : Int) (w : World) (h0 : w.cell? ⟨gf, 0, none⟩ = some (.int .i64 fe)) (h1 : w.cell? ⟨gf, 1, none⟩ = some (.int .i64 fp)) (h2 : w.cell? ⟨gr, 0, none⟩ = some (.pointer (some ⟨R, 0, none⟩)))
    {u2 u3 ux : Value} (h3 : w.cell? ⟨R, 2, none⟩ = some u2) (h4 : w.cell? ⟨R, 3, none⟩ = some u3) (h5 : w.cell? ⟨gx, 0, none⟩ = some ux) (hf2 : ∀ i, w.frozen? ⟨R, i, none⟩ = false) (hfx : ∀ i, w.frozen? ⟨gx, i, none⟩ = false) (_ : ¬ R = gx) (_ : ¬ gx = R) (_ : ¬ R = gf) (_ : ¬ gf = R) (h : ¬ fe = 0) :
    CallsD Tryz.prog 283 #[.pointer (some ⟨gf, 0, none⟩), .pointer (some ⟨gr, 0, none⟩), .pointer (some ⟨gx, 0, none⟩), .pointer (some ⟨gn, 0, none⟩)] .returning w fun e u' w' => u' = .returning ∧ (e = .returned (.tuple #[]) ∧ w' = ((w.setCell ⟨R, 2, none⟩ (.int .i64 fe)).setCell ⟨R, 3, none⟩ (.int .i64 fp)).setCell ⟨gx, 0, none⟩ (.int .i64 0)) := by
  have e1 : (fe == 0) = false := by simpa using h
  have e2 : (fe != 0) = true := by simpa using h
  clear h
  go_enter_d Tryz.func283, Tryz.ntmps283
  go_wp2_with fail
  first | go_end0 | refine bodyPost_ret (results_none rfl _ _ _) rfl ?_
  exact ⟨rfl, rfl⟩
set_option maxRecDepth 100000 in
set_option maxHeartbeats 2000000 in
theorem def_int_ok (gf gr gx gn R : Nat) (nx : Int) (w : World) (h0 : w.cell? ⟨gf, 0, none⟩ = some (.int .i64 0)) (h2 : w.cell? ⟨gr, 0, none⟩ = some (.pointer (some ⟨R, 0, none⟩)))
    {u1 : Value} (h3 : w.cell? ⟨R, 1, none⟩ = some u1) (h5 : w.cell? ⟨gn, 0, none⟩ = some (.int .i64 nx)) (hf2 : ∀ i, w.frozen? ⟨R, i, none⟩ = false) :
    CallsD Tryz.prog 283 #[.pointer (some ⟨gf, 0, none⟩), .pointer (some ⟨gr, 0, none⟩), .pointer (some ⟨gx, 0, none⟩), .pointer (some ⟨gn, 0, none⟩)] .returning w fun e u' w' => u' = .returning ∧ (e = .returned (.tuple #[]) ∧ w' = w.setCell ⟨R, 1, none⟩ (.int .i64 nx)) := by
  go_enter_d Tryz.func283, Tryz.ntmps283
  go_wp2_with fail
  first | go_end0 | refine bodyPost_ret (results_none rfl _ _ _) rfl ?_
  exact ⟨rfl, rfl⟩
set_option maxRecDepth 100000 in
set_option maxHeartbeats 4000000 in
theorem read_int_err (R : Nat) (A : Option Addr) (n c : Nat) (at_ fe fa : Int) (fv : Value) (w : World) (hR : RD w R A n c at_ fe fa true) (h : ¬ fe = 0) :
    Calls Tryz.prog 227 #[.pointer (some ⟨R, 0, none⟩), fv] w (RdPost R A n c at_ fe fa (.int .i64 0) w) := by
  have lR := Block.lt hR
  have hR2 : RD ((w.alloc (.cells #[.pointer (some ⟨R, 0, none⟩)] 232)).alloc (.cells #[.int .i64 0] 3)) R A n c at_ fe fa true := (Block.alloc hR _).alloc _
  have hn := none_any R A n c at_ fe fa true _ hR2
  have c2 : w.cell? ⟨R, 2, none⟩ = some (.int .i64 fe) := Block.cell hR 2
  have e1 : (fe == 0) = false := by simpa using h
  have e2 : (fe != 0) = true := by simpa using h
  clear h
  go_enter_defers Tryz.func227, Tryz.ntmps227
  go_wp2_with fail
  refine hn.mono ?_
  rintro e w1 ⟨rfl, rfl⟩
  go_wp2_with fail
  exact (show Leaves Tryz.prog Tryz.f227 _ _ [] .returning _ from ⟨.int .i64 0, by simp [results, Tryz.results227, go_sem], rfl, grown_of_below (bel_alloc (bel_alloc (Below.refl _ _) _) _) _, hR2⟩)
theorem read_int_ok (R : Nat) (A : Option Addr) (n c : Nat) (at_ fa : Int) (caps : Array Value) (v : Int) (nx f2 : Int) (w : World) (hR : RD w R A n c at_ 0 fa true)
    (hcl : ∀ w1, Below w.heap.size w w1 → Calls Tryz.prog 228 caps w1 fun e w' => e = .returned (.tuple #[.int .i64 v, .int .i64 nx, .agg #[.int .i64 0, .int .i64 f2]]) ∧ Below w1.heap.size w1 w') :
    Calls Tryz.prog 227 #[.pointer (some ⟨R, 0, none⟩), .func (Fn.func 228) #[] caps] w (RdPost R A n c nx 0 fa (.int .i64 v) w) := by
  have lR := Block.lt hR
  have hR2 : RD ((w.alloc (.cells #[.pointer (some ⟨R, 0, none⟩)] 232)).alloc (.cells #[.int .i64 0] 3)) R A n c at_ 0 fa true := (Block.alloc hR _).alloc _
  have hn := none_any R A n c at_ 0 fa true _ hR2
  have c2 : w.cell? ⟨R, 2, none⟩ = some (.int .i64 0) := Block.cell hR 2
  have hmf : ∀ (fn : Fn) (first cap : Array Value) (w : World), (Instr.makeFunc fn first cap).run Tryz.prog w = .ok (.func fn first cap) w := fun _ _ _ _ => rfl
  have hcall := hcl ((((w.alloc (.cells #[.pointer (some ⟨R, 0, none⟩)] 232)).alloc (.cells #[.int .i64 0] 3)).alloc (.cells #[.int .i64 0] 3)).alloc (.cells #[.int .i64 0, .int .i64 0] 194)) (bel_alloc (bel_alloc (bel_alloc (bel_alloc (Below.refl _ _) _) _) _) _)
  have B0 := ((((Block.new w 232 [.pointer (some ⟨R, 0, none⟩)]).alloc (.cells #[.int .i64 0] 3)).alloc (.cells #[.int .i64 0] 3)).alloc (.cells #[.int .i64 0, .int .i64 0] 194))
  have B1 : Block ((((w.alloc (.cells #[.pointer (some ⟨R, 0, none⟩)] 232)).alloc (.cells #[.int .i64 0] 3)).alloc (.cells #[.int .i64 0] 3)).alloc (.cells #[.int .i64 0, .int .i64 0] 194)) (w.heap.size + 1) 3 [.int .i64 0] := ((block_top (by simp)).alloc _).alloc _
  have B2 : Block ((((w.alloc (.cells #[.pointer (some ⟨R, 0, none⟩)] 232)).alloc (.cells #[.int .i64 0] 3)).alloc (.cells #[.int .i64 0] 3)).alloc (.cells #[.int .i64 0, .int .i64 0] 194)) (w.heap.size + 1 + 1) 3 [.int .i64 0] := (block_top (by simp)).alloc _
  have B3 : Block ((((w.alloc (.cells #[.pointer (some ⟨R, 0, none⟩)] 232)).alloc (.cells #[.int .i64 0] 3)).alloc (.cells #[.int .i64 0] 3)).alloc (.cells #[.int .i64 0, .int .i64 0] 194)) (w.heap.size + 1 + 1 + 1) 194 [.int .i64 0, .int .i64 0] := block_top (by simp)
  have BR := (((Block.alloc hR2 (.cells #[.int .i64 0] 3)).alloc (.cells #[.int .i64 0, .int .i64 0] 194)))
  clear hcl
  go_enter_defers Tryz.func227, Tryz.ntmps227
  go_wp2_with fail
  refine hn.mono ?_
  rintro e w1 ⟨rfl, rfl⟩
  go_wp2_with fail
  refine hcall.mono ?_
  rintro e w2 ⟨rfl, hb2⟩
  have bel2 := bel_call (w := w) (bel_alloc (bel_alloc (bel_alloc (bel_alloc (Below.refl _ _) _) _) _) _) hb2
  have B0 := B0.call hb2
  have B1 := B1.call hb2
  have B2 := B2.call hb2
  have B3 := B3.call hb2
  have BR := Block.call BR hb2
  have k1 : w2.cell? ⟨w.heap.size + 1, 0, none⟩ = some (.int .i64 0) := B1.cell 0
  have k2 : w2.cell? ⟨w.heap.size + 1 + 1, 0, none⟩ = some (.int .i64 0) := B2.cell 0
  have k3 : w2.cell? ⟨w.heap.size + 1 + 1 + 1, 0, none⟩ = some (.int .i64 0) := B3.cell 0
  have k4 : w2.cell? ⟨w.heap.size + 1 + 1 + 1, 1, none⟩ = some (.int .i64 0) := B3.cell 1
  have F1 := B1.free
  have F2 := B2.free
  have F3 := B3.free
  go_wp2_with fail
  refine leaves_cons (f := 283) (args := #[.pointer (some ⟨w.heap.size + 1 + 1 + 1, 0, none⟩), .pointer (some ⟨w.heap.size, 0, none⟩), .pointer (some ⟨w.heap.size + 1, 0, none⟩), .pointer (some ⟨w.heap.size + 1 + 1, 0, none⟩)]) (by simp) (by simp [go_sem]) ?_
  have D1 := ((((B1.set 0 (.int .i64 v)).far (p := ⟨w.heap.size + 1 + 1, 0, none⟩) (by dsimp only; omega) (.int .i64 nx)).far (p := ⟨w.heap.size + 1 + 1 + 1, 0, none⟩) (by dsimp only; omega) (.int .i64 0)).far (p := ⟨w.heap.size + 1 + 1 + 1, 1, none⟩) (by dsimp only; omega) (.int .i64 f2)).set 0 (.int .i64 v)
  have D2 := ((((B2.far (p := ⟨w.heap.size + 1, 0, none⟩) (by dsimp only; omega) (.int .i64 v)).set 0 (.int .i64 nx)).far (p := ⟨w.heap.size + 1 + 1 + 1, 0, none⟩) (by dsimp only; omega) (.int .i64 0)).far (p := ⟨w.heap.size + 1 + 1 + 1, 1, none⟩) (by dsimp only; omega) (.int .i64 f2)).far (p := ⟨w.heap.size + 1, 0, none⟩) (by dsimp only; omega) (.int .i64 v)
  have D3 := ((((B3.far (p := ⟨w.heap.size + 1, 0, none⟩) (by dsimp only; omega) (.int .i64 v)).far (p := ⟨w.heap.size + 1 + 1, 0, none⟩) (by dsimp only; omega) (.int .i64 nx)).set 0 (.int .i64 0)).set 1 (.int .i64 f2)).far (p := ⟨w.heap.size + 1, 0, none⟩) (by dsimp only; omega) (.int .i64 v)
  have D0 := ((((B0.far (p := ⟨w.heap.size + 1, 0, none⟩) (by dsimp only; omega) (.int .i64 v)).far (p := ⟨w.heap.size + 1 + 1, 0, none⟩) (by dsimp only; omega) (.int .i64 nx)).far (p := ⟨w.heap.size + 1 + 1 + 1, 0, none⟩) (by dsimp only; omega) (.int .i64 0)).far (p := ⟨w.heap.size + 1 + 1 + 1, 1, none⟩) (by dsimp only; omega) (.int .i64 f2)).far (p := ⟨w.heap.size + 1, 0, none⟩) (by dsimp only; omega) (.int .i64 v)
  have DR := ((((BR.far (p := ⟨w.heap.size + 1, 0, none⟩) (by dsimp only; omega) (.int .i64 v)).far (p := ⟨w.heap.size + 1 + 1, 0, none⟩) (by dsimp only; omega) (.int .i64 nx)).far (p := ⟨w.heap.size + 1 + 1 + 1, 0, none⟩) (by dsimp only; omega) (.int .i64 0)).far (p := ⟨w.heap.size + 1 + 1 + 1, 1, none⟩) (by dsimp only; omega) (.int .i64 f2)).far (p := ⟨w.heap.size + 1, 0, none⟩) (by dsimp only; omega) (.int .i64 v)
  have hgr := bel_set (p := ⟨w.heap.size + 1, 0, none⟩) (bel_set (p := ⟨w.heap.size + 1 + 1 + 1, 1, none⟩) (bel_set (p := ⟨w.heap.size + 1 + 1 + 1, 0, none⟩) (bel_set (p := ⟨w.heap.size + 1 + 1, 0, none⟩) (bel_set (p := ⟨w.heap.size + 1, 0, none⟩) bel2 (by dsimp only; omega) (.int .i64 v)) (by dsimp only; omega) (.int .i64 nx)) (by dsimp only; omega) (.int .i64 0)) (by dsimp only; omega) (.int .i64 f2)) (by dsimp only; omega) (.int .i64 v)
  have DX := D1.far (p := ⟨R, 1, none⟩) (by dsimp only; omega) (.int .i64 nx)
  have DS := DR.set 1 (.int .i64 nx)
  refine (def_int_ok _ _ (w.heap.size + 1) _ R nx _ (D3.cell 0) (D0.cell 0) (DR.cell 1) (D2.cell 0) DR.free).mono ?_
  rintro e u' w'' ⟨rfl, rfl, rfl⟩
  exact (show Leaves Tryz.prog Tryz.f227 _ _ [] .returning _ from ⟨.int .i64 v, res_cell rfl rfl agg_no3 (DX.cell 0), rfl, grown_set (p := ⟨R, 1, none⟩) (grown_of_below hgr _) rfl _, DS⟩)
theorem read_int_bad (R : Nat) (A : Option Addr) (n c : Nat) (at_ fa : Int) (caps : Array Value) (v : Int) (nx f1 f2 : Int) (w : World) (hR : RD w R A n c at_ 0 fa true)
    (h1 : ¬ f1 = 0)
    (hcl : ∀ w1, Below w.heap.size w w1 → Calls Tryz.prog 228 caps w1 fun e w' => e = .returned (.tuple #[.int .i64 v, .int .i64 nx, .agg #[.int .i64 f1, .int .i64 f2]]) ∧ Below w1.heap.size w1 w') :
    Calls Tryz.prog 227 #[.pointer (some ⟨R, 0, none⟩), .func (Fn.func 228) #[] caps] w (RdPost R A n c at_ f1 f2 (.int .i64 0) w) := by
  have lR := Block.lt hR
  have hR2 : RD ((w.alloc (.cells #[.pointer (some ⟨R, 0, none⟩)] 232)).alloc (.cells #[.int .i64 0] 3)) R A n c at_ 0 fa true := (Block.alloc hR _).alloc _
  have hn := none_any R A n c at_ 0 fa true _ hR2
  have c2 : w.cell? ⟨R, 2, none⟩ = some (.int .i64 0) := Block.cell hR 2
  have hmf : ∀ (fn : Fn) (first cap : Array Value) (w : World), (Instr.makeFunc fn first cap).run Tryz.prog w = .ok (.func fn first cap) w := fun _ _ _ _ => rfl
  have hcall := hcl ((((w.alloc (.cells #[.pointer (some ⟨R, 0, none⟩)] 232)).alloc (.cells #[.int .i64 0] 3)).alloc (.cells #[.int .i64 0] 3)).alloc (.cells #[.int .i64 0, .int .i64 0] 194)) (bel_alloc (bel_alloc (bel_alloc (bel_alloc (Below.refl _ _) _) _) _) _)
  have B0 := ((((Block.new w 232 [.pointer (some ⟨R, 0, none⟩)]).alloc (.cells #[.int .i64 0] 3)).alloc (.cells #[.int .i64 0] 3)).alloc (.cells #[.int .i64 0, .int .i64 0] 194))
  have B1 : Block ((((w.alloc (.cells #[.pointer (some ⟨R, 0, none⟩)] 232)).alloc (.cells #[.int .i64 0] 3)).alloc (.cells #[.int .i64 0] 3)).alloc (.cells #[.int .i64 0, .int .i64 0] 194)) (w.heap.size + 1) 3 [.int .i64 0] := ((block_top (by simp)).alloc _).alloc _
  have B2 : Block ((((w.alloc (.cells #[.pointer (some ⟨R, 0, none⟩)] 232)).alloc (.cells #[.int .i64 0] 3)).alloc (.cells #[.int .i64 0] 3)).alloc (.cells #[.int .i64 0, .int .i64 0] 194)) (w.heap.size + 1 + 1) 3 [.int .i64 0] := (block_top (by simp)).alloc _
  have B3 : Block ((((w.alloc (.cells #[.pointer (some ⟨R, 0, none⟩)] 232)).alloc (.cells #[.int .i64 0] 3)).alloc (.cells #[.int .i64 0] 3)).alloc (.cells #[.int .i64 0, .int .i64 0] 194)) (w.heap.size + 1 + 1 + 1) 194 [.int .i64 0, .int .i64 0] := block_top (by simp)
  have BR := (((Block.alloc hR2 (.cells #[.int .i64 0] 3)).alloc (.cells #[.int .i64 0, .int .i64 0] 194)))
  clear hcl
  go_enter_defers Tryz.func227, Tryz.ntmps227
  go_wp2_with fail
  refine hn.mono ?_
  rintro e w1 ⟨rfl, rfl⟩
  go_wp2_with fail
  refine hcall.mono ?_
  rintro e w2 ⟨rfl, hb2⟩
  have bel2 := bel_call (w := w) (bel_alloc (bel_alloc (bel_alloc (bel_alloc (Below.refl _ _) _) _) _) _) hb2
  have B0 := B0.call hb2
  have B1 := B1.call hb2
  have B2 := B2.call hb2
  have B3 := B3.call hb2
  have BR := Block.call BR hb2
  have k1 : w2.cell? ⟨w.heap.size + 1, 0, none⟩ = some (.int .i64 0) := B1.cell 0
  have k2 : w2.cell? ⟨w.heap.size + 1 + 1, 0, none⟩ = some (.int .i64 0) := B2.cell 0
  have k3 : w2.cell? ⟨w.heap.size + 1 + 1 + 1, 0, none⟩ = some (.int .i64 0) := B3.cell 0
  have k4 : w2.cell? ⟨w.heap.size + 1 + 1 + 1, 1, none⟩ = some (.int .i64 0) := B3.cell 1
  have F1 := B1.free
  have F2 := B2.free
  have F3 := B3.free
  go_wp2_with fail
  refine leaves_cons (f := 283) (args := #[.pointer (some ⟨w.heap.size + 1 + 1 + 1, 0, none⟩), .pointer (some ⟨w.heap.size, 0, none⟩), .pointer (some ⟨w.heap.size + 1, 0, none⟩), .pointer (some ⟨w.heap.size + 1 + 1, 0, none⟩)]) (by simp) (by simp [go_sem]) ?_
  have D1 := ((((B1.set 0 (.int .i64 v)).far (p := ⟨w.heap.size + 1 + 1, 0, none⟩) (by dsimp only; omega) (.int .i64 nx)).far (p := ⟨w.heap.size + 1 + 1 + 1, 0, none⟩) (by dsimp only; omega) (.int .i64 f1)).far (p := ⟨w.heap.size + 1 + 1 + 1, 1, none⟩) (by dsimp only; omega) (.int .i64 f2)).set 0 (.int .i64 v)
  have D2 := ((((B2.far (p := ⟨w.heap.size + 1, 0, none⟩) (by dsimp only; omega) (.int .i64 v)).set 0 (.int .i64 nx)).far (p := ⟨w.heap.size + 1 + 1 + 1, 0, none⟩) (by dsimp only; omega) (.int .i64 f1)).far (p := ⟨w.heap.size + 1 + 1 + 1, 1, none⟩) (by dsimp only; omega) (.int .i64 f2)).far (p := ⟨w.heap.size + 1, 0, none⟩) (by dsimp only; omega) (.int .i64 v)
  have D3 := ((((B3.far (p := ⟨w.heap.size + 1, 0, none⟩) (by dsimp only; omega) (.int .i64 v)).far (p := ⟨w.heap.size + 1 + 1, 0, none⟩) (by dsimp only; omega) (.int .i64 nx)).set 0 (.int .i64 f1)).set 1 (.int .i64 f2)).far (p := ⟨w.heap.size + 1, 0, none⟩) (by dsimp only; omega) (.int .i64 v)
  have D0 := ((((B0.far (p := ⟨w.heap.size + 1, 0, none⟩) (by dsimp only; omega) (.int .i64 v)).far (p := ⟨w.heap.size + 1 + 1, 0, none⟩) (by dsimp only; omega) (.int .i64 nx)).far (p := ⟨w.heap.size + 1 + 1 + 1, 0, none⟩) (by dsimp only; omega) (.int .i64 f1)).far (p := ⟨w.heap.size + 1 + 1 + 1, 1, none⟩) (by dsimp only; omega) (.int .i64 f2)).far (p := ⟨w.heap.size + 1, 0, none⟩) (by dsimp only; omega) (.int .i64 v)
  have DR := ((((BR.far (p := ⟨w.heap.size + 1, 0, none⟩) (by dsimp only; omega) (.int .i64 v)).far (p := ⟨w.heap.size + 1 + 1, 0, none⟩) (by dsimp only; omega) (.int .i64 nx)).far (p := ⟨w.heap.size + 1 + 1 + 1, 0, none⟩) (by dsimp only; omega) (.int .i64 f1)).far (p := ⟨w.heap.size + 1 + 1 + 1, 1, none⟩) (by dsimp only; omega) (.int .i64 f2)).far (p := ⟨w.heap.size + 1, 0, none⟩) (by dsimp only; omega) (.int .i64 v)
  have hgr := bel_set (p := ⟨w.heap.size + 1, 0, none⟩) (bel_set (p := ⟨w.heap.size + 1 + 1 + 1, 1, none⟩) (bel_set (p := ⟨w.heap.size + 1 + 1 + 1, 0, none⟩) (bel_set (p := ⟨w.heap.size + 1 + 1, 0, none⟩) (bel_set (p := ⟨w.heap.size + 1, 0, none⟩) bel2 (by dsimp only; omega) (.int .i64 v)) (by dsimp only; omega) (.int .i64 nx)) (by dsimp only; omega) (.int .i64 f1)) (by dsimp only; omega) (.int .i64 f2)) (by dsimp only; omega) (.int .i64 v)
  have DX := (((D1.far (p := ⟨R, 2, none⟩) (by dsimp only; omega) (.int .i64 f1)).far (p := ⟨R, 3, none⟩) (by dsimp only; omega) (.int .i64 f2)).set 0 (.int .i64 0))
  have DS := (((DR.set 2 (.int .i64 f1)).set 3 (.int .i64 f2)).far (p := ⟨w.heap.size + 1, 0, none⟩) (by dsimp only; omega) (.int .i64 0))
  have E3 : Block _ _ 194 [.int .i64 f1, .int .i64 f2] := D3
  have E0 : Block _ _ 232 [.pointer (some ⟨R, 0, none⟩)] := D0
  have ER : Block _ _ 310 [.slice A n c, .int .i64 at_, .int .i64 0, .int .i64 fa, .bool true] := DR
  have E1 : Block _ _ 3 [.int .i64 v] := D1
  have t0 := E3.cell 0
  have t1 := E3.cell 1
  have t2 := E0.cell 0
  have t3 := ER.cell 2
  have t4 := ER.cell 3
  have t5 := E1.cell 0
  simp only [List.getElem?_cons_zero, List.getElem?_cons_succ] at t0 t1 t2 t3 t4 t5
  refine (def_int_err _ _ (w.heap.size + 1) _ R f1 f2 _ t0 t1 t2 t3 t4 t5 DR.free D1.free (by omega) (by omega) (by omega) (by omega) h1).mono ?_
  rintro e u' w'' ⟨rfl, rfl, rfl⟩
  refine (show Leaves Tryz.prog Tryz.f227 _ _ [] .returning _ from ⟨.int .i64 0, ?_, rfl, ?_, ?_⟩)
  · exact res_cell rfl rfl agg_no3 (DX.cell 0)
  · exact grown_new (p := ⟨w.heap.size + 1, 0, none⟩) (grown_set (p := ⟨R, 3, none⟩) (grown_set (p := ⟨R, 2, none⟩) (grown_of_below hgr _) rfl _) rfl _) (by dsimp only; omega) _
  · exact DS
theorem door {P : Program} {fn : Func} {R : Ending → World → Prop} {tmps : Array Value} {w : World} {v : Value} (h1 : (results fn tmps).run P w = .ok v w) (h2 : R (.returned v) w) : bodyPostD P fn R .ret { tmps := tmps, defers := [] } w := ⟨v, h1, h2⟩
theorem mkf (fn : Fn) (first cap : Array Value) (w : World) : (Instr.makeFunc fn first cap).run Tryz.prog w = .ok (.func fn first cap) w := rfl
def rdN (g : Int × Int × Int × Int) (at_ fe fa low high above : Int) : Int × Int × Int × Int :=
  if fe ≠ 0 then (0, at_, fe, fa) else if (nfault g at_ low high above).1 = 0 then (g.1, g.2.1, 0, fa) else (0, at_, (nfault g at_ low high above).1, (nfault g at_ low high above).2)
theorem Shows.kept {w w' : World} {B R size n : Nat} {A : Option Addr} {xs : List Value} (h : Shows w B size A n xs) (hg : w.grownBy w' (some R)) (hBR : B ≤ R) (hB : B ≤ w.heap.size) : Shows w' B size A n xs := h.same fun p hp => by
  unfold World.cell?
  rw [hg.block p.block (by omega) (by intro e; injection e with e; omega)]
theorem Block.kept {w w' : World} {g R : Nat} {t : TypeId} {cs : List Value} (h : Block w g t cs) (hg : w.grownBy w' (some R)) (hne : g ≠ R) : Block w' g t cs := (hg.block g h.lt (by intro e; injection e with e; exact hne e)).trans h
theorem RdPost.low {R : Nat} {A : Option Addr} {n c : Nat} {at_ fe fa : Int} {v : Value} {w W : World} {e : Ending} {w' : World} (h : RdPost R A n c at_ fe fa v W e w') (hb : Below w.heap.size w W) : RdPost R A n c at_ fe fa v w e w' :=
  ⟨h.1, (grown_of_below hb (some R)).trans h.2.1, h.2.2⟩
set_option maxRecDepth 100000 in
set_option maxHeartbeats 4000000 in
theorem number_made (R : Nat) (A : Option Addr) (n c : Nat) (xs : List Int) (at_ fe fa low high above : Int) (B : Nat) (w : World) (hR : RD w R A n c at_ fe fa true) (ha : Shows w B 1 A n (U8 xs)) (hB : B ≤ w.heap.size) (hn : n ≤ maxLen) (hc : n ≤ c) (hx : ∀ x ∈ xs, 0 ≤ x ∧ x ≤ 255) (a0 : 0 ≤ at_) (a1 : at_ ≤ 9223372036854775807)
    {v a' e' p' : Int} (hst : rdN (Oct.getB xs at_) at_ fe fa low high above = (v, a', e', p')) :
    Calls Tryz.prog 163 #[.pointer (some ⟨R, 0, none⟩), .int .i64 low, .int .i64 high, .int .i64 above] w (RdPost R A n c a' e' p' (.int .i64 v) w) := by
  have bel := bel_alloc (bel_alloc (bel_alloc (bel_alloc (Below.refl _ w) (.cells #[.pointer (some ⟨R, 0, none⟩)] 232)) (.cells #[.int .i64 low] 3)) (.cells #[.int .i64 high] 3)) (.cells #[.int .i64 above] 42)
  have hRW : RD ((((w.alloc (.cells #[.pointer (some ⟨R, 0, none⟩)] 232)).alloc (.cells #[.int .i64 low] 3)).alloc (.cells #[.int .i64 high] 3)).alloc (.cells #[.int .i64 above] 42)) R A n c at_ fe fa true := (((Block.alloc hR _).alloc _).alloc _).alloc _
  have hmf := mkf
  by_cases h0 : fe = 0
  · subst h0
    obtain ⟨q0, q1, q2, q3, hr⟩ : ∃ q0 q1 q2 q3, Oct.getB xs at_ = (q0, q1, q2, q3) := ⟨_, _, _, _, rfl⟩
    obtain ⟨f1, f2, hf⟩ : ∃ f1 f2, nfault (q0, q1, q2, q3) at_ low high above = (f1, f2) := ⟨_, _, rfl⟩
    unfold rdN at hst
    rw [if_neg (by simp), hr, hf] at hst
    simp only at hst
    have haW : Shows ((((w.alloc (.cells #[.pointer (some ⟨R, 0, none⟩)] 232)).alloc (.cells #[.int .i64 low] 3)).alloc (.cells #[.int .i64 high] 3)).alloc (.cells #[.int .i64 above] 42)) B 1 A n (U8 xs) := ha.below (bel.mono hB)
    have K0 : Block ((((w.alloc (.cells #[.pointer (some ⟨R, 0, none⟩)] 232)).alloc (.cells #[.int .i64 low] 3)).alloc (.cells #[.int .i64 high] 3)).alloc (.cells #[.int .i64 above] 42)) w.heap.size 232 [.pointer (some ⟨R, 0, none⟩)] := (((Block.new w _ _).alloc _).alloc _).alloc _
    have K1 : Block ((((w.alloc (.cells #[.pointer (some ⟨R, 0, none⟩)] 232)).alloc (.cells #[.int .i64 low] 3)).alloc (.cells #[.int .i64 high] 3)).alloc (.cells #[.int .i64 above] 42)) (w.heap.size + 1) 3 [.int .i64 low] := ((block_top (by simp)).alloc _).alloc _
    have K2 : Block ((((w.alloc (.cells #[.pointer (some ⟨R, 0, none⟩)] 232)).alloc (.cells #[.int .i64 low] 3)).alloc (.cells #[.int .i64 high] 3)).alloc (.cells #[.int .i64 above] 42)) (w.heap.size + 1 + 1) 3 [.int .i64 high] := (block_top (by simp)).alloc _
    have K3 : Block ((((w.alloc (.cells #[.pointer (some ⟨R, 0, none⟩)] 232)).alloc (.cells #[.int .i64 low] 3)).alloc (.cells #[.int .i64 high] 3)).alloc (.cells #[.int .i64 above] 42)) (w.heap.size + 1 + 1 + 1) 42 [.int .i64 above] := block_top (by simp)
    have hsz := bel.size
    have hcl := fun (w1 : World) (hb : Below (World.heap ((((w.alloc (.cells #[.pointer (some ⟨R, 0, none⟩)] 232)).alloc (.cells #[.int .i64 low] 3)).alloc (.cells #[.int .i64 high] 3)).alloc (.cells #[.int .i64 above] 42))).size ((((w.alloc (.cells #[.pointer (some ⟨R, 0, none⟩)] 232)).alloc (.cells #[.int .i64 low] 3)).alloc (.cells #[.int .i64 high] 3)).alloc (.cells #[.int .i64 above] 42)) w1) => number1_any w.heap.size (w.heap.size + 1 + 1) (w.heap.size + 1 + 1 + 1) (w.heap.size + 1) R A n c xs at_ 0 fa low high above true B w1 ((K0.call hb).cell 0) ((K2.call hb).cell 0) ((K3.call hb).cell 0) ((K1.call hb).cell 0) (Block.call hRW hb) (haW.call hb (Nat.le_trans hB hsz)) (Nat.le_trans hB (Nat.le_trans hsz hb.size)) hn hc hx a0 a1 hr hf
    by_cases h1 : f1 = 0
    · subst h1
      rw [if_pos rfl] at hst
      have Hst := Lib.hid hst
      have hrd := read_int_ok R A n c at_ fa #[.pointer (some ⟨w.heap.size, 0, none⟩), .pointer (some ⟨w.heap.size + 1 + 1, 0, none⟩), .pointer (some ⟨w.heap.size + 1 + 1 + 1, 0, none⟩), .pointer (some ⟨w.heap.size + 1, 0, none⟩)] q0 q1 f2 _ hRW hcl
      clear hst hcl K0 K1 K2 K3 hr hf
      go_enter Tryz.func163, Tryz.ntmps163
      go_wp2_with fail
      refine hrd.mono ?_
      rintro e w1 ⟨rfl, hg, hR1⟩
      go_wp2_with fail
      go_ret
      have h := Hst.out
      simp only [Prod.mk.injEq] at h
      obtain ⟨rfl, rfl, rfl, rfl⟩ := h
      exact RdPost.low ⟨rfl, hg, hR1⟩ bel
    · rw [if_neg h1] at hst
      have Hst := Lib.hid hst
      have hrd := read_int_bad R A n c at_ fa #[.pointer (some ⟨w.heap.size, 0, none⟩), .pointer (some ⟨w.heap.size + 1 + 1, 0, none⟩), .pointer (some ⟨w.heap.size + 1 + 1 + 1, 0, none⟩), .pointer (some ⟨w.heap.size + 1, 0, none⟩)] q0 q1 f1 f2 _ hRW h1 hcl
      clear hst hcl K0 K1 K2 K3 hr hf h1
      go_enter Tryz.func163, Tryz.ntmps163
      go_wp2_with fail
      refine hrd.mono ?_
      rintro e w1 ⟨rfl, hg, hR1⟩
      go_wp2_with fail
      go_ret
      have h := Hst.out
      simp only [Prod.mk.injEq] at h
      obtain ⟨rfl, rfl, rfl, rfl⟩ := h
      exact RdPost.low ⟨rfl, hg, hR1⟩ bel
  · unfold rdN at hst
    rw [if_pos h0] at hst
    have Hst := Lib.hid hst
    have hrd := fun fv => read_int_err R A n c at_ fe fa fv _ hRW h0
    clear hst h0
    go_enter Tryz.func163, Tryz.ntmps163
    go_wp2_with fail
    refine (hrd _).mono ?_
    rintro e w1 ⟨rfl, hg, hR1⟩
    go_wp2_with fail
    go_ret
    have h := Hst.out
    simp only [Prod.mk.injEq] at h
    obtain ⟨rfl, rfl, rfl, rfl⟩ := h
    exact RdPost.low ⟨rfl, hg, hR1⟩ bel
set_option maxRecDepth 100000 in
set_option maxHeartbeats 2000000 in
theorem int_made (R : Nat) (A : Option Addr) (n c : Nat) (xs : List Int) (at_ fe fa low high : Int) (B : Nat) (w : World) (hR : RD w R A n c at_ fe fa true) (ha : Shows w B 1 A n (U8 xs)) (hB : B ≤ w.heap.size) (hn : n ≤ maxLen) (hc : n ≤ c) (hx : ∀ x ∈ xs, 0 ≤ x ∧ x ≤ 255) (a0 : 0 ≤ at_) (a1 : at_ ≤ 9223372036854775807)
    {v a' e' p' : Int} (hst : rdN (Oct.getB xs at_) at_ fe fa low high 5 = (v, a', e', p')) :
    Calls Tryz.prog 121 #[.pointer (some ⟨R, 0, none⟩), .int .i64 low, .int .i64 high] w (RdPost R A n c a' e' p' (.int .i64 v) w) := by
  have hm := number_made R A n c xs at_ fe fa low high 5 B w hR ha hB hn hc hx a0 a1 hst
  clear hst
  go_enter Tryz.func121, Tryz.ntmps121
  go_wp2_with fail
  refine hm.mono ?_
  rintro e w1 ⟨rfl, hg, hR1⟩
  go_wp2_with fail
  go_ret
  exact ⟨rfl, hg, hR1⟩
set_option maxRecDepth 100000 in
set_option maxHeartbeats 2000000 in
theorem count_made (R : Nat) (A : Option Addr) (n c : Nat) (xs : List Int) (at_ fe fa high : Int) (B : Nat) (w : World) (hR : RD w R A n c at_ fe fa true) (ha : Shows w B 1 A n (U8 xs)) (hB : B ≤ w.heap.size) (hn : n ≤ maxLen) (hc : n ≤ c) (hx : ∀ x ∈ xs, 0 ≤ x ∧ x ≤ 255) (a0 : 0 ≤ at_) (a1 : at_ ≤ 9223372036854775807)
    {v a' e' p' : Int} (hst : rdN (Oct.getB xs at_) at_ fe fa 0 high 3 = (v, a', e', p')) :
    Calls Tryz.prog 122 #[.pointer (some ⟨R, 0, none⟩), .int .i64 high] w (RdPost R A n c a' e' p' (.int .i64 v) w) := by
  have hm := number_made R A n c xs at_ fe fa 0 high 3 B w hR ha hB hn hc hx a0 a1 hst
  clear hst
  go_enter Tryz.func122, Tryz.ntmps122
  go_wp2_with fail
  refine hm.mono ?_
  rintro e w1 ⟨rfl, hg, hR1⟩
  go_wp2_with fail
  go_ret
  exact ⟨rfl, hg, hR1⟩
set_option maxRecDepth 100000 in
set_option maxHeartbeats 2000000 in
theorem at_made (R : Nat) (A : Option Addr) (n c : Nat) (at_ fe fa : Int) (w : World) (hR : RD w R A n c at_ fe fa true) : Calls Tryz.prog 125 #[.pointer (some ⟨R, 0, none⟩)] w fun e w' => e = .returned (.int .i64 at_) ∧ w = w' := by
  have hn := none_any R A n c at_ fe fa true w hR
  have c1 : w.cell? ⟨R, 1, none⟩ = some (.int .i64 at_) := Block.cell hR 1
  go_enter Tryz.func125, Tryz.ntmps125
  go_wp2_with fail
  refine hn.mono ?_
  rintro e w1 ⟨rfl, rfl⟩
  go_wp2_with fail
  go_ret
  exact ⟨rfl, rfl⟩
set_option maxRecDepth 100000 in
set_option maxHeartbeats 2000000 in
theorem rfault_made (R : Nat) (A : Option Addr) (n c : Nat) (at_ fe fa : Int) (w : World) (hR : RD w R A n c at_ fe fa true) : Calls Tryz.prog 123 #[.pointer (some ⟨R, 0, none⟩)] w fun e w' => e = .returned (.agg #[.int .i64 fe, .int .i64 fa]) ∧ Below w.heap.size w w' := by
  have lR := Block.lt hR
  have hn := none_any R A n c at_ fe fa true _ (Block.alloc hR (.cells #[.int .i64 0, .int .i64 0] 194))
  have c2 : w.cell? ⟨R, 2, none⟩ = some (.int .i64 fe) := Block.cell hR 2
  have c3 : w.cell? ⟨R, 3, none⟩ = some (.int .i64 fa) := Block.cell hR 3
  go_enter Tryz.func123, Tryz.ntmps123
  go_wp2_with fail
  refine hn.mono ?_
  rintro e w1 ⟨rfl, rfl⟩
  go_wp2_with fail
  exact ret_c (T := 194) rfl rfl rfl (Block.new w 194 [.int .i64 fe, .int .i64 fa]) agg_fault size_fault ⟨rfl, bel_alloc (Below.refl _ _) _⟩
def rdE (n : Nat) (at_ fe fa : Int) : Int × Int := if fe = 0 ∧ at_ < (n : Int) then (4, at_) else (fe, fa)

set_option maxRecDepth 100000 in
set_option maxHeartbeats 4000000 in
theorem end_made (R : Nat) (A : Option Addr) (n c : Nat) (at_ fe fa : Int) (w : World) (hR : RD w R A n c at_ fe fa true) {e1 e2 : Int} (he : rdE n at_ fe fa = (e1, e2)) : Calls Tryz.prog 141 #[.pointer (some ⟨R, 0, none⟩)] w fun e w' => e = .returned (.agg #[.int .i64 e1, .int .i64 e2]) ∧ Below w.heap.size w w' := by
  have lR := Block.lt hR
  have hfl := fun e p w => (show Calls Tryz.prog 165 #[.int .i64 e, .int .i64 p] w fun r w' => r = .returned (.agg #[.int .i64 e, .int .i64 p]) ∧ Below w.heap.size w w' from fault_any e p w)
  have hn := rfault_made R A n c at_ fe fa _ (Block.alloc hR (.cells #[.int .i64 0, .int .i64 0] 194))
  have He := Lib.hid he
  have hR2 := Block.alloc hR (.cells #[.int .i64 0, .int .i64 0] 194)
  clear he
  go_enter Tryz.func141, Tryz.ntmps141
  go_wp2_with fail
  refine hn.mono ?_
  rintro e w1 ⟨rfl, hb1⟩
  have hz := (new_block (cs := [.int .i64 0, .int .i64 0]) hb1).1
  have hR1 := hR2.call hb1
  have hzl := hz.lt
  go_upto_region 2 with (fail)
  have hz2 := hz.alloc (.cells #[.int .i64 fe, .int .i64 fa] 194)
  have hR3 := hR1.alloc (.cells #[.int .i64 fe, .int .i64 fa] 194)
  have hx2 := Block.new w1 194 [.int .i64 fe, .int .i64 fa]
  have bel2 := bel_alloc (bel_call (bel_alloc (Below.refl _ w) (.cells #[.int .i64 0, .int .i64 0] 194)) hb1) (.cells #[.int .i64 fe, .int .i64 fa] 194)
  obtain ⟨w2, hw2⟩ : ∃ w2, w1.alloc (.cells #[.int .i64 fe, .int .i64 fa] 194) = w2 := ⟨_, rfl⟩
  have hz2 : Block w2 w.heap.size 194 [.int .i64 0, .int .i64 0] := hw2 ▸ hz2
  have hx2 : Block w2 w1.heap.size 194 [.int .i64 fe, .int .i64 fa] := hw2 ▸ hx2
  have hR3 : RD w2 R A n c at_ fe fa true := hw2 ▸ hR3
  have bel2 : Below w.heap.size w w2 := hw2 ▸ bel2
  rw [hw2]
  clear hw2 hn hR2 hR1 hR
  have z0 : w2.cell? ⟨w.heap.size, 0, none⟩ = some (.int .i64 0) := hz2.cell 0
  have z1 : w2.cell? ⟨w.heap.size, 1, none⟩ = some (.int .i64 0) := hz2.cell 1
  have zf := hz2.free
  have x0 : w2.cell? ⟨w1.heap.size, 0, none⟩ = some (.int .i64 fe) := hx2.cell 0
  have x1 : w2.cell? ⟨w1.heap.size, 1, none⟩ = some (.int .i64 fa) := hx2.cell 1
  have r0 : w2.cell? ⟨R, 0, none⟩ = some (.slice A n c) := Block.cell hR3 0
  have r1 : w2.cell? ⟨R, 1, none⟩ = some (.int .i64 at_) := Block.cell hR3 1
  by_cases h0 : fe = 0
  · have t1 : (fe == 0) = true := by simpa using h0
    by_cases hlt : at_ < (n : Int)
    · have hr := Lib.hid (Prod.mk.inj (show ((4 : Int), at_) = (e1, e2) by have := He.out; unfold rdE at this; rw [if_pos ⟨h0, hlt⟩] at this; exact this))
      clear h0
      go_quiet (fail)
      go_wp2_with fail
      refine (hfl _ _ _).mono ?_
      rintro e w3 ⟨rfl, hb3⟩
      have hz3 : Block w3 w.heap.size 194 [.int .i64 0, .int .i64 0] := Block.call (Block.drewN hz2 _) hb3
      have bel3 := bel_call (bel_drewN bel2 _) hb3
      clear z0 z1 zf
      have z0 : w3.cell? ⟨w.heap.size, 0, none⟩ = some (.int .i64 0) := hz3.cell 0
      have z1 : w3.cell? ⟨w.heap.size, 1, none⟩ = some (.int .i64 0) := hz3.cell 1
      have zf := hz3.free
      go_wp2_with fail
      exact ret_c (T := 194) rfl rfl rfl ((hz3.set 0 (.int .i64 4)).set 1 (.int .i64 at_)) agg_fault size_fault ⟨by rw [← hr.out.1, ← hr.out.2]; rfl, bel_set (bel_set bel3 (Nat.le_refl _) _) (Nat.le_refl _) _⟩
    · have hr := Lib.hid (Prod.mk.inj (show (fe, fa) = (e1, e2) by have := He.out; unfold rdE at this; rw [if_neg (fun h => hlt h.2)] at this; exact this))
      clear h0
      go_quiet (fail)
      go_wp2_with fail
      exact ret_c (T := 194) rfl rfl rfl (Block.drewN ((hz2.set 0 (.int .i64 fe)).set 1 (.int .i64 fa)) _) agg_fault size_fault ⟨by rw [← hr.out.1, ← hr.out.2]; rfl, bel_drewN (bel_set (bel_set bel2 (Nat.le_refl _) _) (Nat.le_refl _) _) _⟩
  · have t1 : (fe == 0) = false := by simpa using h0
    have hr := Lib.hid (Prod.mk.inj (show (fe, fa) = (e1, e2) by have := He.out; unfold rdE at this; rw [if_neg (fun h => h0 h.1)] at this; exact this))
    clear h0
    go_quiet (fail)
    go_wp2_with fail
    exact ret_c (T := 194) rfl rfl rfl (Block.drewN ((hz2.set 0 (.int .i64 fe)).set 1 (.int .i64 fa)) _) agg_fault size_fault ⟨by rw [← hr.out.1, ← hr.out.2]; rfl, bel_drewN (bel_set (bel_set bel2 (Nat.le_refl _) _) (Nat.le_refl _) _) _⟩
def Made (xs : List Int) (n : Nat) (w : World) (e : Ending) (w' : World) : Prop := ∃ (R : Nat) (A : Option Addr) (c : Nat), e = .returned (.pointer (some ⟨R, 0, none⟩)) ∧ RD w' R A n c 0 0 0 true ∧ Shows w' R 1 A n (U8 xs) ∧ n ≤ c ∧ w.heap.size ≤ R ∧ Below w.heap.size w w'
set_option maxRecDepth 100000 in
set_option maxHeartbeats 4000000 in
theorem new_any (A : Option Addr) (n c : Nat) (xs : List Int) (B : Nat) (w : World) (ha : Shows w B 1 A n (U8 xs)) (_ : B ≤ w.heap.size) (hn : n ≤ 70000) : Calls Tryz.prog 120 #[.slice A n c] w (Made xs n w) := by
  obtain ⟨i0, hi, hz0, hz1, hz2⟩ := info_parts infoU8
  go_enter Tryz.func120, Tryz.ntmps120
  go_wp2_with (at_builtin; refine wpList_append_shows _ rfl _ _ 71 rfl w.heap.size 5 i0 (.int .u8 0) 1 1 Tryz.underlying71 hi hz0 hz1 hz2 rfl (by decide) (.slice none 0 0) 0 [] rfl (World.ownsRow_nil _ _ _ _) B A n c (U8 xs) rfl ha (nums_one .u8 xs) (by unfold maxLen; omega) (by omega) (Nat.le_refl _) ?_; intro A2 c2 w2 hown2 hg2)
  have hown2 : w2.ownsRow w.heap.size 5 1 (.slice A2 (0 + n) c2) (0 + n) (U8 xs) := by simpa using hown2
  rw [Nat.zero_add] at hown2
  have bel2 : Below w.heap.size w w2 := bel_grown (Below.refl _ _) hg2 (fun g hg => by simp [Value.ownBlock] at hg)
  have hs := Shows.of_own hown2
  obtain ⟨A3, c3, he, hnc, _⟩ := own_form hown2
  injection he with e1 e2 e3
  subst e1; subst e3
  clear hown2 hg2
  go_wp2_with fail
  go_ret
  exact ⟨w2.heap.size, A2, c2, by simp, Block.new w2 310 [.slice A2 n c2, .int .i64 0, .int .i64 0, .int .i64 0, .bool true], hs.alloc (Nat.le_refl _) _, hnc, bel2.size, bel_alloc bel2 _⟩

end Go.Proofs.YthmhdaefkhcenaaGreatDoor
