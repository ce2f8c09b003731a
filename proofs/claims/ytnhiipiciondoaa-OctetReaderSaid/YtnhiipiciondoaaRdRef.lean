/- The walks of the document's reader. -/
import Derived.Test.YtnhiipiciondoaaRdText
import Derived.Test.YtnhiipiciondoaaRefGetT
namespace Go.Proofs.Ytnhiipiciondoaa
open Go.RowKit Go.Lib

/-- The document's reader in memory. -/
def RF (w : World) (R : Nat) (A : Option Addr) (n c : Nat) (at_ fe fa : Int) : Prop :=
  Block w R 60 [.slice A n c, .int .i64 at_, .int .i64 fe, .int .i64 fa]
def RfPost (R : Nat) (A : Option Addr) (n c : Nat) (at_ fe fa : Int) (v : Value) (w : World) (e : Ending) (w' : World) : Prop := e = .returned v ∧ w.grownBy w' (some R) ∧ RF w' R A n c at_ fe fa
set_option maxRecDepth 100000 in
set_option maxHeartbeats 8000000 in
theorem rInt_any (R : Nat) (A : Option Addr) (n c : Nat) (xs : List Int) (at_ fe fa low high : Int) (B : Nat) (w : World) (hR : RF w R A n c at_ fe fa) (ha : Shows w B 1 A n (U8 xs)) (hB : B ≤ w.heap.size) (hn : n ≤ maxLen) (hc : n ≤ c) (hx : ∀ x ∈ xs, 0 ≤ x ∧ x ≤ 255) (a0 : 0 ≤ at_) (a1 : at_ ≤ 9223372036854775807)
    {v a' e' p' : Int} (hst : rdN (Oct.getB xs at_) at_ fe fa low high 5 = (v, a', e', p')) :
    Calls Try.prog 40 #[.pointer (some ⟨R, 0, none⟩), .int .i64 low, .int .i64 high] w (RfPost R A n c a' e' p' (.int .i64 v) w) := by
  have lR := Block.lt hR
  have c0 : w.cell? ⟨R, 0, none⟩ = some (.slice A n c) := Block.cell hR 0
  have c1 : w.cell? ⟨R, 1, none⟩ = some (.int .i64 at_) := Block.cell hR 1
  have c2 : w.cell? ⟨R, 2, none⟩ = some (.int .i64 fe) := Block.cell hR 2
  by_cases h0 : fe = 0
  rotate_left
  · unfold rdN at hst
    rw [if_pos h0] at hst
    have Hst := Lib.hid hst
    have e1 : (fe == 0) = false := by simpa using h0
    have e2 : (fe != 0) = true := by simpa using h0
    clear hst h0
    go_enter Try.func40, Try.ntmps40
    go_wp2_with fail
    go_ret
    have h := Hst.out
    simp only [Prod.mk.injEq] at h
    obtain ⟨rfl, rfl, rfl, rfl⟩ := h
    exact ⟨rfl, grown_of_below (Below.refl _ _) _, hR⟩
  subst h0
  obtain ⟨q0, q1, q2, q3, hr⟩ : ∃ q0 q1 q2 q3, Oct.getB xs at_ = (q0, q1, q2, q3) := ⟨_, _, _, _, rfl⟩
  unfold rdN at hst
  rw [if_neg (by simp), hr] at hst
  have hA1 := refGet_is (c := c) hr (show Shows w.drew B 1 A n (U8 xs) from ha.drew) hn (by simpa using hB) hc hx (by omega) a1
  have hA2 := refGet_is (c := c) hr (show Shows ((w.alloc (.cells #[.int .i64 0, .int .i64 0] 37)).drew) B 1 A n (U8 xs) from (ha.alloc hB _).drew) hn (by simp; omega) hc hx (by omega) a1
  have Hst := Lib.hid hst
  have n3 : ¬ R = w.heap.size := by omega
  have n4 : ¬ w.heap.size = R := by omega
  clear hr hst ha hx
  go_enter Try.func40, Try.ntmps40
  go_upto_region 3 with (fail)
  go_cut [7, 8, 9] (fun s7 s8 s9 wx => ∃ g : Nat, s7 = .int .i64 q0 ∧ s8 = .int .i64 q1 ∧ s9 = .pointer (some ⟨g, 0, none⟩) ∧ w.heap.size ≤ g ∧ Block wx g 37 [.int .i64 q2, .int .i64 q3] ∧ Below w.heap.size w wx)
  case first =>
    go_region_held3 (fun w' => w'.cell? ⟨R, 0, none⟩ = some (.slice A n c) ∧ w'.cell? ⟨R, 1, none⟩ = some (.int .i64 at_)) (go_keep) (first
      | (go_at_call 24; refine hA1.mono ?_; rintro e w1 ⟨rfl, hb1⟩; have bel1 := bel_call (w := w) (bel_drewN (Below.refl _ _) 1) hb1; have k1 := (bel1.cell (p := ⟨R, 0, none⟩) lR).trans c0; have k2 := (bel1.cell (p := ⟨R, 1, none⟩) lR).trans c1)
      | (go_at_call 24; refine hA2.mono ?_; rintro e w1 ⟨rfl, hb1⟩; have bel2 := bel_call (w := w) (bel_drewN (bel_alloc (Below.refl _ _) _) 1) hb1; have kz := Block.call (w := ((w.alloc (.cells #[.int .i64 0, .int .i64 0] 37)).drew)) (g := w.heap.size) (t := 37) (cs := [.int .i64 0, .int .i64 0]) (Block.new w 37 [.int .i64 0, .int .i64 0]) hb1; have z0 : w1.cell? ⟨w.heap.size, 0, none⟩ = some (.int .i64 0) := kz.cell 0; have z1 : w1.cell? ⟨w.heap.size, 1, none⟩ = some (.int .i64 0) := kz.cell 1; have zf := kz.free; have k1 := (bel2.cell (p := ⟨R, 0, none⟩) lR).trans c0; have k2 := (bel2.cell (p := ⟨R, 1, none⟩) lR).trans c1))
    · go_wp2_with fail
      go_meet
      exact ⟨w1.heap.size, rfl, rfl, rfl, bel1.size, Block.new w1 37 [.int .i64 q2, .int .i64 q3], bel_alloc bel1 _⟩
    · go_wp2_with fail
      go_meet
      exact ⟨w.heap.size, rfl, rfl, rfl, Nat.le_refl _, (kz.set 0 _).set 1 _, bel_set (bel_set bel2 (Nat.le_refl _) _) (Nat.le_refl _) _⟩
  case rest =>
    obtain ⟨g, rfl, rfl, rfl, hgl, hb9, bel⟩ := hcut
    have hR9 : RF wc R A n c at_ 0 fa := Block.below hR bel lR
    have r1 : wc.cell? ⟨R, 1, none⟩ = some (.int .i64 at_) := Block.cell hR9 1
    have r2 : wc.cell? ⟨R, 2, none⟩ = some (.int .i64 0) := Block.cell hR9 2
    have r3 : wc.cell? ⟨R, 3, none⟩ = some (.int .i64 fa) := Block.cell hR9 3
    have rf := Block.free hR9
    have m5 : ¬ g = R := by omega
    have m6 : ¬ R = g := by omega
    have hq := Hst.out
    clear hA1 hA2
    by_cases e2 : q2 = 0
    rotate_left
    · have hq : (if (q2, q3).1 = 0 then (q0, q1, 0, fa) else (0, at_, q2, q3)) = (v, a', e', p') := by
        unfold nfault at hq
        simp only [if_pos e2] at hq
        simpa using hq
      rw [if_neg e2] at hq
      have Hq := Lib.hid hq
      have k4 : (q2 == 0) = false := by simpa using e2
      have k5 : (q2 != 0) = true := by simpa using e2
      have z9a : wc.cell? ⟨g, 0, none⟩ = some (.int .i64 q2) := hb9.cell 0
      have z9b : wc.cell? ⟨g, 1, none⟩ = some (.int .i64 q3) := hb9.cell 1
      clear hq e2
      go_wp2_with fail
      go_ret
      have h := Hq.out
      simp only [Prod.mk.injEq] at h
      obtain ⟨rfl, rfl, rfl, rfl⟩ := h
      exact ⟨rfl, grown_set (p := ⟨R, 3, none⟩) (grown_set (p := ⟨R, 2, none⟩) (grown_of_below bel _) rfl _) rfl _, (Block.set hR9 2 (.int .i64 q2)).set 3 (.int .i64 q3)⟩
    subst e2
    have z9a : wc.cell? ⟨g, 0, none⟩ = some (.int .i64 0) := hb9.cell 0
    have z9b : wc.cell? ⟨g, 1, none⟩ = some (.int .i64 q3) := hb9.cell 1
    have z9f := hb9.free
    by_cases e3 : high < q0
    · have hq : ((0 : Int), at_, (5 : Int), at_) = (v, a', e', p') := by
        unfold nfault at hq
        simp only [ne_eq, not_true_eq_false, if_false, if_pos e3] at hq
        simpa using hq
      have Hq := Lib.hid hq
      clear hq Hst
      by_cases e5 : q0 < low
      all_goals
        go_wp2_with fail
        go_ret
        have h := Hq.out
        simp only [Prod.mk.injEq] at h
        obtain ⟨rfl, rfl, rfl, rfl⟩ := h
        have hR10 := ((Block.far hR9 (p := ⟨g, 0, none⟩) m6 (.int .i64 5)).far (p := ⟨g, 1, none⟩) m6 (.int .i64 at_))
        refine ⟨rfl, ?_, (hR10.set 2 (.int .i64 5)).set 3 (.int .i64 at_)⟩
        exact grown_set (p := ⟨R, 3, none⟩) (grown_set (p := ⟨R, 2, none⟩) (grown_new (p := ⟨g, 1, none⟩) (grown_new (p := ⟨g, 0, none⟩) (grown_of_below bel _) hgl _) hgl _) rfl _) rfl _
    by_cases e4 : q0 < low
    · have hq : ((0 : Int), at_, (5 : Int), at_) = (v, a', e', p') := by
        unfold nfault at hq
        simp only [ne_eq, not_true_eq_false, if_false, if_neg e3, if_pos e4] at hq
        simpa using hq
      have Hq := Lib.hid hq
      clear hq Hst
      go_wp2_with fail
      go_ret
      have h := Hq.out
      simp only [Prod.mk.injEq] at h
      obtain ⟨rfl, rfl, rfl, rfl⟩ := h
      have hR10 := ((Block.far hR9 (p := ⟨g, 0, none⟩) m6 (.int .i64 5)).far (p := ⟨g, 1, none⟩) m6 (.int .i64 at_))
      refine ⟨rfl, ?_, (hR10.set 2 (.int .i64 5)).set 3 (.int .i64 at_)⟩
      exact grown_set (p := ⟨R, 3, none⟩) (grown_set (p := ⟨R, 2, none⟩) (grown_new (p := ⟨g, 1, none⟩) (grown_new (p := ⟨g, 0, none⟩) (grown_of_below bel _) hgl _) hgl _) rfl _) rfl _
    · have hq : (q0, q1, (0 : Int), fa) = (v, a', e', p') := by
        unfold nfault at hq
        simp only [ne_eq, not_true_eq_false, if_false, if_neg e3, if_neg e4] at hq
        simpa using hq
      have Hq := Lib.hid hq
      clear hq
      go_wp2_with fail
      go_ret
      have h := Hq.out
      simp only [Prod.mk.injEq] at h
      obtain ⟨rfl, rfl, rfl, rfl⟩ := h
      exact ⟨rfl, grown_set (p := ⟨R, 1, none⟩) (grown_of_below bel _) rfl _, Block.set hR9 1 (.int .i64 q1)⟩
set_option maxRecDepth 100000 in
set_option maxHeartbeats 8000000 in
theorem rCount_any (R : Nat) (A : Option Addr) (n c : Nat) (xs : List Int) (at_ fe fa high : Int) (B : Nat) (w : World) (hR : RF w R A n c at_ fe fa) (ha : Shows w B 1 A n (U8 xs)) (hB : B ≤ w.heap.size) (hn : n ≤ maxLen) (hc : n ≤ c) (hx : ∀ x ∈ xs, 0 ≤ x ∧ x ≤ 255) (a0 : 0 ≤ at_) (a1 : at_ ≤ 9223372036854775807)
    {v a' e' p' : Int} (hst : rdN (Oct.getB xs at_) at_ fe fa 0 high 3 = (v, a', e', p')) :
    Calls Try.prog 42 #[.pointer (some ⟨R, 0, none⟩), .int .i64 high] w (RfPost R A n c a' e' p' (.int .i64 v) w) := by
  have lR := Block.lt hR
  have c0 : w.cell? ⟨R, 0, none⟩ = some (.slice A n c) := Block.cell hR 0
  have c1 : w.cell? ⟨R, 1, none⟩ = some (.int .i64 at_) := Block.cell hR 1
  have c2 : w.cell? ⟨R, 2, none⟩ = some (.int .i64 fe) := Block.cell hR 2
  by_cases h0 : fe = 0
  rotate_left
  · unfold rdN at hst
    rw [if_pos h0] at hst
    have Hst := Lib.hid hst
    have e1 : (fe == 0) = false := by simpa using h0
    have e2 : (fe != 0) = true := by simpa using h0
    clear hst h0
    go_enter Try.func42, Try.ntmps42
    go_wp2_with fail
    go_ret
    have h := Hst.out
    simp only [Prod.mk.injEq] at h
    obtain ⟨rfl, rfl, rfl, rfl⟩ := h
    exact ⟨rfl, grown_of_below (Below.refl _ _) _, hR⟩
  subst h0
  obtain ⟨q0, q1, q2, q3, hr⟩ : ∃ q0 q1 q2 q3, Oct.getB xs at_ = (q0, q1, q2, q3) := ⟨_, _, _, _, rfl⟩
  unfold rdN at hst
  rw [if_neg (by simp), hr] at hst
  have hA1 := refGet_is (c := c) hr (show Shows w.drew B 1 A n (U8 xs) from ha.drew) hn (by simpa using hB) hc hx (by omega) a1
  have hA2 := refGet_is (c := c) hr (show Shows ((w.alloc (.cells #[.int .i64 0, .int .i64 0] 37)).drew) B 1 A n (U8 xs) from (ha.alloc hB _).drew) hn (by simp; omega) hc hx (by omega) a1
  have Hst := Lib.hid hst
  have n3 : ¬ R = w.heap.size := by omega
  have n4 : ¬ w.heap.size = R := by omega
  clear hr hst ha hx
  go_enter Try.func42, Try.ntmps42
  go_upto_region 3 with (fail)
  go_cut [5, 6, 7] (fun s7 s8 s9 wx => ∃ g : Nat, s7 = .int .i64 q0 ∧ s8 = .int .i64 q1 ∧ s9 = .pointer (some ⟨g, 0, none⟩) ∧ w.heap.size ≤ g ∧ Block wx g 37 [.int .i64 q2, .int .i64 q3] ∧ Below w.heap.size w wx)
  case first =>
    go_region_held3 (fun w' => w'.cell? ⟨R, 0, none⟩ = some (.slice A n c) ∧ w'.cell? ⟨R, 1, none⟩ = some (.int .i64 at_)) (go_keep) (first
      | (go_at_call 24; refine hA1.mono ?_; rintro e w1 ⟨rfl, hb1⟩; have bel1 := bel_call (w := w) (bel_drewN (Below.refl _ _) 1) hb1; have k1 := (bel1.cell (p := ⟨R, 0, none⟩) lR).trans c0; have k2 := (bel1.cell (p := ⟨R, 1, none⟩) lR).trans c1)
      | (go_at_call 24; refine hA2.mono ?_; rintro e w1 ⟨rfl, hb1⟩; have bel2 := bel_call (w := w) (bel_drewN (bel_alloc (Below.refl _ _) _) 1) hb1; have kz := Block.call (w := ((w.alloc (.cells #[.int .i64 0, .int .i64 0] 37)).drew)) (g := w.heap.size) (t := 37) (cs := [.int .i64 0, .int .i64 0]) (Block.new w 37 [.int .i64 0, .int .i64 0]) hb1; have z0 : w1.cell? ⟨w.heap.size, 0, none⟩ = some (.int .i64 0) := kz.cell 0; have z1 : w1.cell? ⟨w.heap.size, 1, none⟩ = some (.int .i64 0) := kz.cell 1; have zf := kz.free; have k1 := (bel2.cell (p := ⟨R, 0, none⟩) lR).trans c0; have k2 := (bel2.cell (p := ⟨R, 1, none⟩) lR).trans c1))
    · go_wp2_with fail
      go_meet
      exact ⟨w1.heap.size, rfl, rfl, rfl, bel1.size, Block.new w1 37 [.int .i64 q2, .int .i64 q3], bel_alloc bel1 _⟩
    · go_wp2_with fail
      go_meet
      exact ⟨w.heap.size, rfl, rfl, rfl, Nat.le_refl _, (kz.set 0 _).set 1 _, bel_set (bel_set bel2 (Nat.le_refl _) _) (Nat.le_refl _) _⟩
  case rest =>
    obtain ⟨g, rfl, rfl, rfl, hgl, hb9, bel⟩ := hcut
    have hR9 : RF wc R A n c at_ 0 fa := Block.below hR bel lR
    have r1 : wc.cell? ⟨R, 1, none⟩ = some (.int .i64 at_) := Block.cell hR9 1
    have r2 : wc.cell? ⟨R, 2, none⟩ = some (.int .i64 0) := Block.cell hR9 2
    have r3 : wc.cell? ⟨R, 3, none⟩ = some (.int .i64 fa) := Block.cell hR9 3
    have rf := Block.free hR9
    have m5 : ¬ g = R := by omega
    have m6 : ¬ R = g := by omega
    have hq := Hst.out
    clear hA1 hA2
    by_cases e2 : q2 = 0
    rotate_left
    · have hq : (if (q2, q3).1 = 0 then (q0, q1, 0, fa) else (0, at_, q2, q3)) = (v, a', e', p') := by
        unfold nfault at hq
        simp only [if_pos e2] at hq
        simpa using hq
      rw [if_neg e2] at hq
      have Hq := Lib.hid hq
      have k4 : (q2 == 0) = false := by simpa using e2
      have k5 : (q2 != 0) = true := by simpa using e2
      have z9a : wc.cell? ⟨g, 0, none⟩ = some (.int .i64 q2) := hb9.cell 0
      have z9b : wc.cell? ⟨g, 1, none⟩ = some (.int .i64 q3) := hb9.cell 1
      clear hq e2
      go_wp2_with fail
      go_ret
      have h := Hq.out
      simp only [Prod.mk.injEq] at h
      obtain ⟨rfl, rfl, rfl, rfl⟩ := h
      exact ⟨rfl, grown_set (p := ⟨R, 3, none⟩) (grown_set (p := ⟨R, 2, none⟩) (grown_of_below bel _) rfl _) rfl _, (Block.set hR9 2 (.int .i64 q2)).set 3 (.int .i64 q3)⟩
    subst e2
    have z9a : wc.cell? ⟨g, 0, none⟩ = some (.int .i64 0) := hb9.cell 0
    have z9b : wc.cell? ⟨g, 1, none⟩ = some (.int .i64 q3) := hb9.cell 1
    have z9f := hb9.free
    by_cases e3 : high < q0
    · have hq : ((0 : Int), at_, (3 : Int), at_) = (v, a', e', p') := by
        unfold nfault at hq
        simp only [ne_eq, not_true_eq_false, if_false, if_pos e3] at hq
        simpa using hq
      have Hq := Lib.hid hq
      clear hq Hst
      go_wp2_with fail
      go_ret
      have h := Hq.out
      simp only [Prod.mk.injEq] at h
      obtain ⟨rfl, rfl, rfl, rfl⟩ := h
      have hR10 := ((Block.far hR9 (p := ⟨g, 0, none⟩) m6 (.int .i64 3)).far (p := ⟨g, 1, none⟩) m6 (.int .i64 at_))
      refine ⟨rfl, ?_, (hR10.set 2 (.int .i64 3)).set 3 (.int .i64 at_)⟩
      exact grown_set (p := ⟨R, 3, none⟩) (grown_set (p := ⟨R, 2, none⟩) (grown_new (p := ⟨g, 1, none⟩) (grown_new (p := ⟨g, 0, none⟩) (grown_of_below bel _) hgl _) hgl _) rfl _) rfl _
    by_cases e4 : q0 < 0
    · have hq : ((0 : Int), at_, (5 : Int), at_) = (v, a', e', p') := by
        unfold nfault at hq
        simp only [ne_eq, not_true_eq_false, if_false, if_neg e3, if_pos e4] at hq
        simpa using hq
      have Hq := Lib.hid hq
      clear hq Hst
      go_wp2_with fail
      go_ret
      have h := Hq.out
      simp only [Prod.mk.injEq] at h
      obtain ⟨rfl, rfl, rfl, rfl⟩ := h
      have hR10 := ((Block.far hR9 (p := ⟨g, 0, none⟩) m6 (.int .i64 5)).far (p := ⟨g, 1, none⟩) m6 (.int .i64 at_))
      refine ⟨rfl, ?_, (hR10.set 2 (.int .i64 5)).set 3 (.int .i64 at_)⟩
      exact grown_set (p := ⟨R, 3, none⟩) (grown_set (p := ⟨R, 2, none⟩) (grown_new (p := ⟨g, 1, none⟩) (grown_new (p := ⟨g, 0, none⟩) (grown_of_below bel _) hgl _) hgl _) rfl _) rfl _
    · have hq : (q0, q1, (0 : Int), fa) = (v, a', e', p') := by
        unfold nfault at hq
        simp only [ne_eq, not_true_eq_false, if_false, if_neg e3, if_neg e4] at hq
        simpa using hq
      have Hq := Lib.hid hq
      clear hq
      go_wp2_with fail
      go_ret
      have h := Hq.out
      simp only [Prod.mk.injEq] at h
      obtain ⟨rfl, rfl, rfl, rfl⟩ := h
      exact ⟨rfl, grown_set (p := ⟨R, 1, none⟩) (grown_of_below bel _) rfl _, Block.set hR9 1 (.int .i64 q1)⟩
end Go.Proofs.Ytnhiipiciondoaa
