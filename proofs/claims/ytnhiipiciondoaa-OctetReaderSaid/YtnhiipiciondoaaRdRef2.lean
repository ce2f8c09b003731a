/- The walks of the document's reader: 'Text', 'End'. -/
import Derived.Test.YtnhiipiciondoaaRdRef
namespace Go.Proofs.Ytnhiipiciondoaa
open Go.RowKit Go.Lib

theorem refText_is {A : Option Addr} {len c : Nat} {xs : List Int} {at_ most : Int} {B : Nat} {w : World} {s : List Int} {q1 q2 q3 : Int} (hr : getT xs at_ most = (s, q1, q2, q3)) (ha : Shows w B 1 A len (U8 xs)) (hB : B ≤ w.heap.size)
    (hlen : len ≤ 70000) (hc : len ≤ c) (hx : ∀ x ∈ xs, 0 ≤ x ∧ x ≤ 255) (a0 : -9223372036854775808 ≤ at_) (a1 : at_ ≤ 9223372036854775807) :
    Calls Try.prog 26 #[.slice A len c, .int .i64 at_, .int .i64 most] w fun e w' =>
      e = .returned (.tuple #[.string (strOfNums s), .int .i64 q1, .agg #[.int .i64 q2, .int .i64 q3]]) ∧ Below w.heap.size w w' :=
  (refGetText_any A len c xs at_ most B w ha hB hlen hc hx a0 a1).mono fun e w' h => by rw [hr] at h; exact h
set_option maxRecDepth 100000 in
set_option maxHeartbeats 8000000 in
theorem rText_any (R : Nat) (A : Option Addr) (n c : Nat) (xs : List Int) (at_ fe fa most : Int) (B : Nat) (w : World) (hR : RF w R A n c at_ fe fa) (ha : Shows w B 1 A n (U8 xs)) (hB : B ≤ w.heap.size) (hn : n ≤ 70000) (hc : n ≤ c) (hx : ∀ x ∈ xs, 0 ≤ x ∧ x ≤ 255) (a0 : 0 ≤ at_) (a1 : at_ ≤ 9223372036854775807)
    {v : List Int} {a' e' p' : Int} (hst : rdT (getT xs at_ most) at_ fe fa = (v, a', e', p')) :
    Calls Try.prog 41 #[.pointer (some ⟨R, 0, none⟩), .int .i64 most] w (RfPost R A n c a' e' p' (.string (strOfNums v)) w) := by
  have lR := Block.lt hR
  have c0 : w.cell? ⟨R, 0, none⟩ = some (.slice A n c) := Block.cell hR 0
  have c1 : w.cell? ⟨R, 1, none⟩ = some (.int .i64 at_) := Block.cell hR 1
  have c2 : w.cell? ⟨R, 2, none⟩ = some (.int .i64 fe) := Block.cell hR 2
  by_cases h0 : fe = 0
  rotate_left
  · unfold rdT at hst
    rw [if_pos h0] at hst
    have Hst := Lib.hid hst
    have e1 : (fe == 0) = false := by simpa using h0
    have e2 : (fe != 0) = true := by simpa using h0
    clear hst h0
    go_enter Try.func41, Try.ntmps41
    go_wp2_with fail
    go_ret
    have h := Hst.out
    simp only [Prod.mk.injEq] at h
    obtain ⟨rfl, rfl, rfl, rfl⟩ := h
    exact ⟨rfl, grown_of_below (Below.refl _ _) _, hR⟩
  subst h0
  obtain ⟨s, q1, q2, q3, hr⟩ : ∃ q0 q1 q2 q3, getT xs at_ most = (q0, q1, q2, q3) := ⟨_, _, _, _, rfl⟩
  unfold rdT at hst
  rw [if_neg (by simp), hr] at hst
  simp only at hst
  have hA1 := refText_is (c := c) hr (show Shows w.drew B 1 A n (U8 xs) from ha.drew) (by simpa using hB) hn hc hx (by omega) a1
  have hA2 := refText_is (c := c) hr (show Shows ((w.alloc (.cells #[.int .i64 0, .int .i64 0] 37)).drew) B 1 A n (U8 xs) from (ha.alloc hB _).drew) (by simp; omega) hn hc hx (by omega) a1
  have Hst := Lib.hid hst
  have n3 : ¬ R = w.heap.size := by omega
  have n4 : ¬ w.heap.size = R := by omega
  clear hr hst ha hx
  go_enter Try.func41, Try.ntmps41
  go_upto_region 3 with (fail)
  go_cut [5, 6, 7] (fun s7 s8 s9 wx => ∃ g : Nat, s7 = .string (strOfNums s) ∧ s8 = .int .i64 q1 ∧ s9 = .pointer (some ⟨g, 0, none⟩) ∧ w.heap.size ≤ g ∧ Block wx g 37 [.int .i64 q2, .int .i64 q3] ∧ Below w.heap.size w wx)
  case first =>
    go_region_held3 (fun w' => w'.cell? ⟨R, 0, none⟩ = some (.slice A n c) ∧ w'.cell? ⟨R, 1, none⟩ = some (.int .i64 at_)) (go_keep) (first
      | (go_at_call 26; refine hA1.mono ?_; rintro e w1 ⟨rfl, hb1⟩; have bel1 := bel_call (w := w) (bel_drewN (Below.refl _ _) 1) hb1; have k1 := (bel1.cell (p := ⟨R, 0, none⟩) lR).trans c0; have k2 := (bel1.cell (p := ⟨R, 1, none⟩) lR).trans c1)
      | (go_at_call 26; refine hA2.mono ?_; rintro e w1 ⟨rfl, hb1⟩; have bel2 := bel_call (w := w) (bel_drewN (bel_alloc (Below.refl _ _) _) 1) hb1; have kz := Block.call (w := ((w.alloc (.cells #[.int .i64 0, .int .i64 0] 37)).drew)) (g := w.heap.size) (t := 37) (cs := [.int .i64 0, .int .i64 0]) (Block.new w 37 [.int .i64 0, .int .i64 0]) hb1; have z0 : w1.cell? ⟨w.heap.size, 0, none⟩ = some (.int .i64 0) := kz.cell 0; have z1 : w1.cell? ⟨w.heap.size, 1, none⟩ = some (.int .i64 0) := kz.cell 1; have zf := kz.free; have k1 := (bel2.cell (p := ⟨R, 0, none⟩) lR).trans c0; have k2 := (bel2.cell (p := ⟨R, 1, none⟩) lR).trans c1))
    · go_wp2_with fail
      go_meet
      exact ⟨w1.heap.size, rfl, rfl, rfl, bel1.size, Block.new w1 37 [.int .i64 q2, .int .i64 q3], bel_alloc bel1 _⟩
    · go_wp2_with fail
      go_meet
      exact ⟨w.heap.size, rfl, rfl, rfl, Nat.le_refl _, (kz.set 0 _).set 1 _, bel_set (bel_set bel2 (Nat.le_refl _) _) (Nat.le_refl _) _⟩
  case rest =>
    obtain ⟨g, rfl, rfl, rfl, hgl, hb9, bel⟩ := hcut
    have hR9 : RF wc R A n c at_ 0 fa := Block.below hR bel lR
    have r1 : wc.cell? ⟨R, 1, none⟩ = some (.int .i64 at_) := Block.cell hR9 1
    have r2 : wc.cell? ⟨R, 2, none⟩ = some (.int .i64 0) := Block.cell hR9 2
    have r3 : wc.cell? ⟨R, 3, none⟩ = some (.int .i64 fa) := Block.cell hR9 3
    have rf := Block.free hR9
    have hq := Hst.out
    clear hA1 hA2
    by_cases e2 : q2 = 0
    · subst e2
      rw [if_pos rfl] at hq
      have Hq := Lib.hid hq
      have z9a : wc.cell? ⟨g, 0, none⟩ = some (.int .i64 0) := hb9.cell 0
      have z9b : wc.cell? ⟨g, 1, none⟩ = some (.int .i64 q3) := hb9.cell 1
      clear hq
      go_wp2_with fail
      go_ret
      have h := Hq.out
      simp only [Prod.mk.injEq] at h
      obtain ⟨rfl, rfl, rfl, rfl⟩ := h
      exact ⟨rfl, grown_set (p := ⟨R, 1, none⟩) (grown_of_below bel _) rfl _, Block.set hR9 1 (.int .i64 q1)⟩
    · rw [if_neg e2] at hq
      have Hq := Lib.hid hq
      have k4 : (q2 == 0) = false := by simpa using e2
      have k5 : (q2 != 0) = true := by simpa using e2
      have z9a : wc.cell? ⟨g, 0, none⟩ = some (.int .i64 q2) := hb9.cell 0
      have z9b : wc.cell? ⟨g, 1, none⟩ = some (.int .i64 q3) := hb9.cell 1
      clear hq e2
      go_wp2_with fail
      go_ret
      have h := Hq.out
      simp only [Prod.mk.injEq] at h
      obtain ⟨rfl, rfl, rfl, rfl⟩ := h
      exact ⟨rfl, grown_set (p := ⟨R, 3, none⟩) (grown_set (p := ⟨R, 2, none⟩) (grown_of_below bel _) rfl _) rfl _, (Block.set hR9 2 (.int .i64 q2)).set 3 (.int .i64 q3)⟩
set_option maxRecDepth 100000 in
set_option maxHeartbeats 4000000 in
theorem rEnd_any (R : Nat) (A : Option Addr) (n c : Nat) (at_ fe fa : Int) (w : World) (hR : RF w R A n c at_ fe fa) {e1 e2 : Int} (he : rdE n at_ fe fa = (e1, e2)) : Calls Try.prog 43 #[.pointer (some ⟨R, 0, none⟩)] w fun e w' => e = .returned (.agg #[.int .i64 e1, .int .i64 e2]) ∧ Below w.heap.size w w' := by
  have lR := Block.lt hR
  have r0 : w.cell? ⟨R, 0, none⟩ = some (.slice A n c) := Block.cell hR 0
  have r1 : w.cell? ⟨R, 1, none⟩ = some (.int .i64 at_) := Block.cell hR 1
  have r2 : w.cell? ⟨R, 2, none⟩ = some (.int .i64 fe) := Block.cell hR 2
  have r3 : w.cell? ⟨R, 3, none⟩ = some (.int .i64 fa) := Block.cell hR 3
  have He := Lib.hid he
  have n3 : ¬ R = w.heap.size := by omega
  have n4 : ¬ w.heap.size = R := by omega
  clear he
  by_cases h0 : fe = 0
  · have t1 : (fe == 0) = true := by simpa using h0
    by_cases hlt : at_ < (n : Int)
    · have hr := Lib.hid (Prod.mk.inj (show ((4 : Int), at_) = (e1, e2) by have := He.out; unfold rdE at this; rw [if_pos ⟨h0, hlt⟩] at this; exact this))
      clear h0
      go_enter Try.func43, Try.ntmps43
      go_wp2_with fail
      go_quiet (fail)
      go_wp2_with fail
      exact ret_c (T := 37) rfl rfl rfl (((Block.drewN (Block.new w 37 [.int .i64 0, .int .i64 0]) _).set 0 (.int .i64 4)).set 1 (.int .i64 at_)) agg_fault size_fault ⟨by rw [← hr.out.1, ← hr.out.2]; rfl, bel_set (bel_set (bel_drewN (bel_alloc (Below.refl _ _) _) _) (Nat.le_refl _) _) (Nat.le_refl _) _⟩
    · have hr := Lib.hid (Prod.mk.inj (show (fe, fa) = (e1, e2) by have := He.out; unfold rdE at this; rw [if_neg (fun h => hlt h.2)] at this; exact this))
      clear h0
      go_enter Try.func43, Try.ntmps43
      go_wp2_with fail
      go_quiet (fail)
      go_wp2_with fail
      exact ret_c (T := 37) rfl rfl rfl (((Block.drewN (Block.new w 37 [.int .i64 0, .int .i64 0]) _).set 0 (.int .i64 fe)).set 1 (.int .i64 fa)) agg_fault size_fault ⟨by rw [← hr.out.1, ← hr.out.2]; rfl, bel_set (bel_set (bel_drewN (bel_alloc (Below.refl _ _) _) _) (Nat.le_refl _) _) (Nat.le_refl _) _⟩
  · have t1 : (fe == 0) = false := by simpa using h0
    have hr := Lib.hid (Prod.mk.inj (show (fe, fa) = (e1, e2) by have := He.out; unfold rdE at this; rw [if_neg (fun h => h0 h.1)] at this; exact this))
    clear h0
    go_enter Try.func43, Try.ntmps43
    go_wp2_with fail
    go_quiet (fail)
    go_wp2_with fail
    exact ret_c (T := 37) rfl rfl rfl (((Block.drewN (Block.new w 37 [.int .i64 0, .int .i64 0]) _).set 0 (.int .i64 fe)).set 1 (.int .i64 fa)) agg_fault size_fault ⟨by rw [← hr.out.1, ← hr.out.2]; rfl, bel_set (bel_set (bel_drewN (bel_alloc (Below.refl _ _) _) _) (Nat.le_refl _) _) (Nat.le_refl _) _⟩
end Go.Proofs.Ytnhiipiciondoaa
