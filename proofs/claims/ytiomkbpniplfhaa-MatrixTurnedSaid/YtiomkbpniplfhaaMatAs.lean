/- The walks of 'matrix.As', of the document's 'As'. -/
import Derived.Test.YtiomkbpniplfhaaMatOf2
import Derived.Test.YtiomkbpniplfhaaMatRefCheck
namespace Go.Proofs.Ytiomkbpniplfhaa
open Go.RowKit

set_option maxRecDepth 100000 in
set_option maxHeartbeats 2000000 in
theorem ras_any (A : Option Addr) (n c : Nat) (l : List S6) (jj q d : Int) (B : Nat) (w : World) (ha : Shows w B 6 A n (RC l)) (hB : B ≤ w.heap.size) (hn : n ≤ maxLen) {xr : S6} {bt : Bool} (hr : Mat.hand (Mat.asF l jj q d) = (xr, bt)) :
    Calls Try.prog 14 #[.slice A n c, .int .i64 jj, .int .i64 q, .int .i64 d] w fun e w' => e = .returned (.tuple #[(.agg #[.int .i64 xr.a, .int .i64 xr.b, .int .i64 xr.c, .int .i64 xr.d, .int .i64 xr.e, .int .i64 xr.f]), .bool bt]) ∧ Below w.heap.size w w' := by
  have hc := fun (w' : World) (h : Shows w' B 6 A n (RC l)) (h' : B ≤ w'.heap.size) => rcheck_any A n c l B w' h h' hn
  by_cases h0 : (Mat.chk l).1 = 0
  · rw [Mat.chk_00 h0] at hc
    have ho := fun (w' : World) (h : Shows w' B 6 A n (RC l)) (h' : B ≤ w'.heap.size) q x b hr => rof_any A n c l jj q d B w' h h' hn (xr := x) (bt := b) hr
    have has : Mat.asF l jj q d = match Mat.ofF l jj q d with | some x => some x | none => Mat.ofF l jj 0 d := by unfold Mat.asF; rw [if_neg (by simpa using h0)]; rcases Mat.ofF l jj q d with _ | _ <;> rfl
    rw [has] at hr
    clear has h0
    rcases hR : Mat.ofF l jj q d with _ | x1
    · rw [hR] at hr
      have Hr := Lib.hid (show Mat.hand (Mat.ofF l jj 0 d) = (xr, bt) from hr)
      have HR := Lib.hid (show Mat.hand (Mat.ofF l jj q d) = (S6.zero, false) by rw [hR]; rfl)
      clear hr hR
      go_enter Try.func14, Try.ntmps14
      go_wp2_with fail
      refine (hc _ (ha.alloc hB _) (by simp; omega)).mono ?_
      rintro e w1 ⟨rfl, hb1⟩
      have bel1 := bel_call (bel_alloc (Below.refl _ w) _) hb1
      have hz1 := (new_block (cs := [.int .i64 0, .int .i64 0, .int .i64 0, .int .i64 0, .int .i64 0, .int .i64 0]) hb1).1
      go_wp2_with fail
      refine (ho _ (ha.call bel1 hB) (Nat.le_trans hB bel1.size) q _ _ HR.out).mono ?_
      rintro e w2 ⟨rfl, hb2⟩
      have bel2 := bel_call bel1 hb2
      have hz2 := hz1.call hb2
      go_wp2_with fail
      have bel3 := bel_alloc bel2 (.cells S6.zero.cs.toArray 28)
      refine (ho _ (ha.call bel3 hB) (Nat.le_trans hB bel3.size) 0 _ _ Hr.out).mono ?_
      rintro e w4 ⟨rfl, hb4⟩
      have bel4 := bel_call bel3 hb4
      have hz4 := (hz2.alloc _).call hb4
      have z1 := hz4.cell 0; have z2 := hz4.cell 1; have z3 := hz4.cell 2; have z4 := hz4.cell 3; have z5 := hz4.cell 4; have z6 := hz4.cell 5; have zf := hz4.free
      have hz' : Block w4 w.heap.size 28 S6.zero.cs := hz4
      go_wp2_with fail
      exact ret_ct (T := 28) rfl rfl rfl (six_stored (y := xr) hz') agg_rule size_rule ⟨rfl, six_far bel4 (Nat.le_refl _) _ _ _ _ _ _⟩
    · rw [hR] at hr
      obtain ⟨rfl, rfl⟩ := Prod.mk.inj (show (x1, true) = (xr, bt) from hr)
      have HR := Lib.hid (show Mat.hand (Mat.ofF l jj q d) = (x1, true) by rw [hR]; rfl)
      clear hr hR
      go_enter Try.func14, Try.ntmps14
      go_wp2_with fail
      refine (hc _ (ha.alloc hB _) (by simp; omega)).mono ?_
      rintro e w1 ⟨rfl, hb1⟩
      have bel1 := bel_call (bel_alloc (Below.refl _ w) _) hb1
      have hz1 := (new_block (cs := [.int .i64 0, .int .i64 0, .int .i64 0, .int .i64 0, .int .i64 0, .int .i64 0]) hb1).1
      go_wp2_with fail
      refine (ho _ (ha.call bel1 hB) (Nat.le_trans hB bel1.size) q _ _ HR.out).mono ?_
      rintro e w2 ⟨rfl, hb2⟩
      have bel2 := bel_call bel1 hb2
      go_upto_region 6 with (fail)
      have hz3 := (hz1.call hb2).alloc (.cells x1.cs.toArray 28)
      have hx3 := Block.new w2 28 x1.cs
      have bel3 := bel_alloc bel2 (.cells x1.cs.toArray 28)
      obtain ⟨w3, hw3⟩ : ∃ w3, w2.alloc (.cells #[.int .i64 x1.a, .int .i64 x1.b, .int .i64 x1.c, .int .i64 x1.d, .int .i64 x1.e, .int .i64 x1.f] 28) = w3 := ⟨_, rfl⟩
      have hz3 : Block w3 w.heap.size 28 [.int .i64 0, .int .i64 0, .int .i64 0, .int .i64 0, .int .i64 0, .int .i64 0] := hw3 ▸ hz3
      have hx3 : Block w3 w2.heap.size 28 x1.cs := hw3 ▸ hx3
      have bel3 : Below w.heap.size w w3 := hw3 ▸ bel3
      rw [hw3]
      clear hw3
      have z1 := hz3.cell 0; have z2 := hz3.cell 1; have z3 := hz3.cell 2; have z4 := hz3.cell 3; have z5 := hz3.cell 4; have z6 := hz3.cell 5; have zf := hz3.free
      obtain ⟨y1, y2, y3, y4, y5, y6⟩ := Block.six hx3
      go_wp2_with fail
      exact ret_ct (T := 28) rfl rfl rfl (six_stored (x := S6.zero) (y := x1) hz3) agg_rule size_rule ⟨rfl, six_far bel3 (Nat.le_refl _) _ _ _ _ _ _⟩
  · have has : Mat.asF l jj q d = none := by unfold Mat.asF; rw [if_pos h0]
    rw [has] at hr
    obtain ⟨rfl, rfl⟩ := Prod.mk.inj (show (S6.zero, false) = (xr, bt) from hr)
    clear has hr
    generalize (Mat.chk l).1 = E at *
    generalize (Mat.chk l).2 = E2 at *
    have h1 : (E == 0) = false := by simpa using h0
    have h2 : (E != 0) = true := by simpa using h0
    go_enter Try.func14, Try.ntmps14
    go_wp2_with fail
    refine (hc _ (ha.alloc hB _) (by simp; omega)).mono ?_
    rintro e w1 ⟨rfl, hb1⟩
    have bel1 := bel_call (bel_alloc (Below.refl _ w) _) hb1
    have hz1 := (new_block (cs := [.int .i64 0, .int .i64 0, .int .i64 0, .int .i64 0, .int .i64 0, .int .i64 0]) hb1).1
    have z1 := hz1.cell 0; have z2 := hz1.cell 1; have z3 := hz1.cell 2; have z4 := hz1.cell 3; have z5 := hz1.cell 4; have z6 := hz1.cell 5; have zf := hz1.free
    have hz' : Block w1 w.heap.size 28 S6.zero.cs := hz1
    go_wp2_with fail
    exact ret_ct (T := 28) rfl rfl rfl (six_stored (y := S6.zero) hz') agg_rule size_rule ⟨rfl, six_far bel1 (Nat.le_refl _) _ _ _ _ _ _⟩
set_option maxRecDepth 100000 in
set_option maxHeartbeats 2000000 in
theorem as_any (A : Option Addr) (n c : Nat) (l : List S6) (jj q d : Int) (B : Nat) (w : World) (ha : Shows w B 6 A n (RC l)) (hB : B ≤ w.heap.size) (hn : n ≤ maxLen) {xr : S6} {bt : Bool} (hr : Mat.hand (Mat.asF l jj q d) = (xr, bt)) :
    Calls Try.prog 13 #[.slice A n c, .int .i64 jj, .int .i64 q, .int .i64 d] w fun e w' => e = .returned (.tuple #[(.agg #[.int .i64 xr.a, .int .i64 xr.b, .int .i64 xr.c, .int .i64 xr.d, .int .i64 xr.e, .int .i64 xr.f]), .bool bt]) ∧ Below w.heap.size w w' := by
  have hc := fun (w' : World) (h : Shows w' B 6 A n (RC l)) (h' : B ≤ w'.heap.size) => check_any A n c l B w' h h' hn
  by_cases h0 : (Mat.chk l).1 = 0
  · have hok := (Mat.chk_ok l).1 h0
    rw [Mat.chk_00 h0] at hc
    have ho := fun (w' : World) (h : Shows w' B 6 A n (RC l)) (h' : B ≤ w'.heap.size) q x b hr => of_any A n c l jj q d B w' h h' hok (x := x) (bt := b) hr
    have has : Mat.asF l jj q d = match Mat.ofF l jj q d with | some x => some x | none => Mat.ofF l jj 0 d := by unfold Mat.asF; rw [if_neg (by simpa using h0)]; rcases Mat.ofF l jj q d with _ | _ <;> rfl
    rw [has] at hr
    clear has h0
    rcases hR : Mat.ofF l jj q d with _ | x1
    · rw [hR] at hr
      have Hr := Lib.hid (show Mat.hand (Mat.ofF l jj 0 d) = (xr, bt) from hr)
      have HR := Lib.hid (show Mat.hand (Mat.ofF l jj q d) = (S6.zero, false) by rw [hR]; rfl)
      clear hr hR
      go_enter Try.func13, Try.ntmps13
      go_wp2_with fail
      refine (hc _ (ha.alloc hB _) (by simp; omega)).mono ?_
      rintro e w1 ⟨rfl, hb1⟩
      have bel1 := bel_call (bel_alloc (Below.refl _ w) _) hb1
      have hz1 := (new_block (cs := [.int .i64 0, .int .i64 0, .int .i64 0, .int .i64 0, .int .i64 0, .int .i64 0]) hb1).1
      go_wp2_with fail
      refine (ho _ (ha.call bel1 hB) (Nat.le_trans hB bel1.size) q _ _ HR.out).mono ?_
      rintro e w2 ⟨rfl, hb2⟩
      have bel2 := bel_call bel1 hb2
      have hz2 := hz1.call hb2
      go_wp2_with fail
      have bel3 := bel_alloc bel2 (.cells S6.zero.cs.toArray 28)
      refine (ho _ (ha.call bel3 hB) (Nat.le_trans hB bel3.size) 0 _ _ Hr.out).mono ?_
      rintro e w4 ⟨rfl, hb4⟩
      have bel4 := bel_call bel3 hb4
      have hz4 := (hz2.alloc _).call hb4
      have z1 := hz4.cell 0; have z2 := hz4.cell 1; have z3 := hz4.cell 2; have z4 := hz4.cell 3; have z5 := hz4.cell 4; have z6 := hz4.cell 5; have zf := hz4.free
      have hz' : Block w4 w.heap.size 28 S6.zero.cs := hz4
      go_wp2_with fail
      exact ret_ct (T := 28) rfl rfl rfl (six_stored (y := xr) hz') agg_rule size_rule ⟨rfl, six_far bel4 (Nat.le_refl _) _ _ _ _ _ _⟩
    · rw [hR] at hr
      obtain ⟨rfl, rfl⟩ := Prod.mk.inj (show (x1, true) = (xr, bt) from hr)
      have HR := Lib.hid (show Mat.hand (Mat.ofF l jj q d) = (x1, true) by rw [hR]; rfl)
      clear hr hR
      go_enter Try.func13, Try.ntmps13
      go_wp2_with fail
      refine (hc _ (ha.alloc hB _) (by simp; omega)).mono ?_
      rintro e w1 ⟨rfl, hb1⟩
      have bel1 := bel_call (bel_alloc (Below.refl _ w) _) hb1
      have hz1 := (new_block (cs := [.int .i64 0, .int .i64 0, .int .i64 0, .int .i64 0, .int .i64 0, .int .i64 0]) hb1).1
      go_wp2_with fail
      refine (ho _ (ha.call bel1 hB) (Nat.le_trans hB bel1.size) q _ _ HR.out).mono ?_
      rintro e w2 ⟨rfl, hb2⟩
      have bel2 := bel_call bel1 hb2
      go_upto_region 6 with (fail)
      have hz3 := (hz1.call hb2).alloc (.cells x1.cs.toArray 28)
      have hx3 := Block.new w2 28 x1.cs
      have bel3 := bel_alloc bel2 (.cells x1.cs.toArray 28)
      obtain ⟨w3, hw3⟩ : ∃ w3, w2.alloc (.cells #[.int .i64 x1.a, .int .i64 x1.b, .int .i64 x1.c, .int .i64 x1.d, .int .i64 x1.e, .int .i64 x1.f] 28) = w3 := ⟨_, rfl⟩
      have hz3 : Block w3 w.heap.size 28 [.int .i64 0, .int .i64 0, .int .i64 0, .int .i64 0, .int .i64 0, .int .i64 0] := hw3 ▸ hz3
      have hx3 : Block w3 w2.heap.size 28 x1.cs := hw3 ▸ hx3
      have bel3 : Below w.heap.size w w3 := hw3 ▸ bel3
      rw [hw3]
      clear hw3
      have z1 := hz3.cell 0; have z2 := hz3.cell 1; have z3 := hz3.cell 2; have z4 := hz3.cell 3; have z5 := hz3.cell 4; have z6 := hz3.cell 5; have zf := hz3.free
      obtain ⟨y1, y2, y3, y4, y5, y6⟩ := Block.six hx3
      go_wp2_with fail
      exact ret_ct (T := 28) rfl rfl rfl (six_stored (x := S6.zero) (y := x1) hz3) agg_rule size_rule ⟨rfl, six_far bel3 (Nat.le_refl _) _ _ _ _ _ _⟩
  · have has : Mat.asF l jj q d = none := by unfold Mat.asF; rw [if_pos h0]
    rw [has] at hr
    obtain ⟨rfl, rfl⟩ := Prod.mk.inj (show (S6.zero, false) = (xr, bt) from hr)
    clear has hr
    generalize (Mat.chk l).1 = E at *
    generalize (Mat.chk l).2 = E2 at *
    have h1 : (E == 0) = false := by simpa using h0
    have h2 : (E != 0) = true := by simpa using h0
    go_enter Try.func13, Try.ntmps13
    go_wp2_with fail
    refine (hc _ (ha.alloc hB _) (by simp; omega)).mono ?_
    rintro e w1 ⟨rfl, hb1⟩
    have bel1 := bel_call (bel_alloc (Below.refl _ w) _) hb1
    have hz1 := (new_block (cs := [.int .i64 0, .int .i64 0, .int .i64 0, .int .i64 0, .int .i64 0, .int .i64 0]) hb1).1
    have z1 := hz1.cell 0; have z2 := hz1.cell 1; have z3 := hz1.cell 2; have z4 := hz1.cell 3; have z5 := hz1.cell 4; have z6 := hz1.cell 5; have zf := hz1.free
    have hz' : Block w1 w.heap.size 28 S6.zero.cs := hz1
    go_wp2_with fail
    exact ret_ct (T := 28) rfl rfl rfl (six_stored (y := S6.zero) hz') agg_rule size_rule ⟨rfl, six_far bel1 (Nat.le_refl _) _ _ _ _ _ _⟩
end Go.Proofs.Ytiomkbpniplfhaa
