/- The walks of the document's 'of', 'As', of 'holiday.As'. -/
import Derived.Test.YtfgpndmlellidaaHolOf2
import Derived.Test.YtfgpndmlellidaaHolRefCheck
namespace Go.Proofs.Ytfgpndmlellidaa
open Go.RowKit

theorem quiet_m {P : Program} {f : FuncId} {args : Array Value} {w : World} {m k : Nat} {v : Value}
    (h : Calls P f args (w.drewN (m + k)) fun e w' => e = .returned v ∧ w.drewN (m + k) = w') : Calls P f args (w.drewN (m + k)) fun e w'' => e = .returned v ∧ ∃ n, w'' = w.drewN (m + n) :=
  h.mono fun _ _ ⟨he, hm⟩ => ⟨he, k, hm.symm⟩
set_option maxRecDepth 100000 in
set_option maxHeartbeats 2000000 in
theorem rof_any (A : Option Addr) (n c : Nat) (l : List S6) (jj q d : Int) (B : Nat) (w : World) (ha : Shows w B 6 A n (RC l)) (hB : B ≤ w.heap.size) (hn : n ≤ maxLen) {xr : S6} {bt : Bool} (hr : Hol.hand (Hol.ofR l jj q d) = (xr, bt)) :
    Calls Try.prog 28 #[.slice A n c, .int .i64 jj, .int .i64 q, .int .i64 d] w fun e w' => e = .returned (.tuple #[(.agg #[.int .i64 xr.a, .int .i64 xr.b, .int .i64 xr.c, .int .i64 xr.d, .int .i64 xr.e, .int .i64 xr.f]), .bool bt]) ∧ Below w.heap.size w w' := by
  have Hl := Lib.hid ha.num6
  have Hr := Lib.hid hr
  unfold maxLen at hn
  clear hr
  go_enter Try.func28, Try.ntmps28
  go_wp2_with fail
  go_loopw [10] (fun i wr => ∃ (j m : Nat), j ≤ n ∧ i = .int .i64 j ∧ Hol.ofR l jj q d = (l.drop j).find? (Hol.inB jj q d) ∧ wr = (w.alloc (.cells #[.int .i64 0, .int .i64 0, .int .i64 0, .int .i64 0, .int .i64 0, .int .i64 0] 28)).drewN m) (fun i _ => n - (intOf i).toNat)
  case atStart => exact ⟨0, 0, by omega, rfl, rfl, rfl⟩
  case round =>
    obtain ⟨j, m, hj, rfl, hres, rfl⟩ := hrel
    have Hres := Lib.hid hres
    clear hres
    by_cases hlt : j < n
    · obtain ⟨x, hxe⟩ : ∃ x, l[j]? = some x := ⟨l[j]'(by rw [Hl.out]; exact hlt), List.getElem?_eq_getElem _⟩
      have ha1 := ha.alloc hB (.cells #[.int .i64 0, .int .i64 0, .int .i64 0, .int .i64 0, .int .i64 0, .int .i64 0] 28)
      obtain ⟨b, off, rfl, hb, g⟩ := ha1.six hxe
      obtain ⟨c1, c2, c3, c4, c5, c6⟩ := g
      have hne : ¬ b = w.heap.size := by omega
      have hne2 : ¬ w.heap.size = b := by omega
      have q3 : (0 : Int) ≤ (j : Int) := by omega
      have q4 : (j : Int) < (n : Int) := by omega
      by_cases h1 : x.a = jj
      · have e1 : (x.a == jj) = true := by simpa using h1
        by_cases h2 : x.b = q
        · have e2 : (x.b == q) = true := by simpa using h2
          by_cases h3 : x.c ≤ d ∧ d ≤ x.d
          · have hw := fun w => rwithin_yes h3 w
            have hfin := Lib.hid (Hres.out.trans (Hol.find_hit hxe (by unfold Hol.inB; simp; omega)))
            clear hxe h1 h2 h3
            go_wp2_with fail
            go_quiet ((go_at_call 25; exact quiet_m (hw _)))
            go_wp2_with fail
            have hr := Hr.out
            rw [hfin.out] at hr
            obtain ⟨rfl, rfl⟩ := Prod.mk.inj hr
            exact ret_ct (T := 28) rfl rfl rfl (six_stored (y := x) (Block.drewN (Block.new w _ S6.zero.cs) _)) agg_hol size_hol ⟨rfl, six_far (bel_drewN (bel_alloc (Below.refl _ w) _) _) (Nat.le_refl _) _ _ _ _ _ _⟩
          · have hw := fun w => rwithin_no h3 w
            have hfin := Lib.hid (Hres.out.trans (Hol.find_skip hxe (by unfold Hol.inB; simp; omega)))
            clear hxe h1 h2 h3
            go_wp2_with fail
            go_quiet ((go_at_call 25; exact quiet_m (hw _)))
            go_wp2_with fail
            go_roundw
            case rel => exact ⟨j + 1, _, by omega, by go_num, hfin.out, by first | rfl | (simp; done)⟩
            case measure => simp [intOf]; omega
        · have e2 : (x.b == q) = false := by simpa using h2
          have hfin := Lib.hid (Hres.out.trans (Hol.find_skip hxe (by unfold Hol.inB; simp; omega)))
          clear hxe h1 h2
          go_wp2_with fail
          go_quiet (fail)
          go_wp2_with fail
          go_roundw
          case rel => exact ⟨j + 1, _, by omega, by go_num, hfin.out, by first | rfl | (simp; done)⟩
          case measure => simp [intOf]; omega
      · have e1 : (x.a == jj) = false := by simpa using h1
        have hfin := Lib.hid (Hres.out.trans (Hol.find_skip hxe (by unfold Hol.inB; simp; omega)))
        clear hxe h1
        go_wp2_with fail
        go_quiet (fail)
        go_wp2_with fail
        go_roundw
        case rel => exact ⟨j + 1, _, by omega, by go_num, hfin.out, by first | rfl | (simp; done)⟩
        case measure => simp [intOf]; omega
    · obtain rfl : j = n := by omega
      have hfin := Lib.hid (Hres.out.trans (by rw [List.drop_of_length_le (by rw [Hl.out]; exact Nat.le_refl _)]; rfl : _ = none))
      go_wp2_with fail
      have hr := Hr.out
      rw [hfin.out] at hr
      obtain ⟨rfl, rfl⟩ := Prod.mk.inj hr
      exact ret_ct (T := 28) rfl rfl rfl (six_stored (y := S6.zero) (Block.drewN (Block.new w _ S6.zero.cs) _)) agg_hol size_hol ⟨rfl, six_far (bel_drewN (bel_alloc (Below.refl _ w) _) _) (Nat.le_refl _) _ _ _ _ _ _⟩
set_option maxRecDepth 100000 in
set_option maxHeartbeats 2000000 in
theorem ras_any (A : Option Addr) (n c : Nat) (l : List S6) (jj q d : Int) (B : Nat) (w : World) (ha : Shows w B 6 A n (RC l)) (hB : B ≤ w.heap.size) (hn : n ≤ maxLen) {xr : S6} {bt : Bool} (hr : Hol.hand (Hol.asF l jj q d) = (xr, bt)) :
    Calls Try.prog 13 #[.slice A n c, .int .i64 jj, .int .i64 q, .int .i64 d] w fun e w' => e = .returned (.tuple #[(.agg #[.int .i64 xr.a, .int .i64 xr.b, .int .i64 xr.c, .int .i64 xr.d, .int .i64 xr.e, .int .i64 xr.f]), .bool bt]) ∧ Below w.heap.size w w' := by
  have hc := fun (w' : World) (h : Shows w' B 6 A n (RC l)) (h' : B ≤ w'.heap.size) => rcheck_any A n c l B w' h h' hn
  by_cases h0 : (Hol.chk l).1 = 0
  · rw [Hol.chk_00 h0] at hc
    have ho := fun (w' : World) (h : Shows w' B 6 A n (RC l)) (h' : B ≤ w'.heap.size) q x b hr => rof_any A n c l jj q d B w' h h' hn (xr := x) (bt := b) hr
    have has : Hol.asF l jj q d = match Hol.ofR l jj q d with | some x => some x | none => Hol.ofR l jj 0 d := by unfold Hol.asF; rw [if_neg (by simpa using h0)]; rcases Hol.ofR l jj q d with _ | _ <;> rfl
    rw [has] at hr
    clear has h0
    rcases hR : Hol.ofR l jj q d with _ | x1
    · rw [hR] at hr
      have Hr := Lib.hid (show Hol.hand (Hol.ofR l jj 0 d) = (xr, bt) from hr)
      have HR := Lib.hid (show Hol.hand (Hol.ofR l jj q d) = (S6.zero, false) by rw [hR]; rfl)
      clear hr hR
      go_enter Try.func13, Try.ntmps13
      go_wp2_with fail
      refine (hc _ (ha.alloc hB _) (by simp; omega)).mono ?_
      rintro e w1 ⟨rfl, hb1⟩
      have bel1 := bel_call (bel_alloc (Below.refl _ w) _) hb1
      have hz1 := (new_block (cs := [.int .i64 0, .int .i64 0, .int .i64 0, .int .i64 0, .int .i64 0, .int .i64 0]) hb1).1
      go_wp2_with fail
      refine (ho _ (ha.call bel1 hB) (Nat.le_trans hB bel1.size) q _ _ HR.out).mono ?_
      rintro e w2 ⟨rfl, hb2⟩
      have bel2 := bel_call bel1 hb2
      have hz2 := hz1.call hb2
      go_wp2_with fail
      have bel3 := bel_alloc bel2 (.cells S6.zero.cs.toArray 28)
      refine (ho _ (ha.call bel3 hB) (Nat.le_trans hB bel3.size) 0 _ _ Hr.out).mono ?_
      rintro e w4 ⟨rfl, hb4⟩
      have bel4 := bel_call bel3 hb4
      have hz4 := (hz2.alloc _).call hb4
      have z1 := hz4.cell 0; have z2 := hz4.cell 1; have z3 := hz4.cell 2; have z4 := hz4.cell 3; have z5 := hz4.cell 4; have z6 := hz4.cell 5; have zf := hz4.free
      have hz' : Block w4 w.heap.size 28 S6.zero.cs := hz4
      go_wp2_with fail
      exact ret_ct (T := 28) rfl rfl rfl (six_stored (y := xr) hz') agg_hol size_hol ⟨rfl, six_far bel4 (Nat.le_refl _) _ _ _ _ _ _⟩
    · rw [hR] at hr
      obtain ⟨rfl, rfl⟩ := Prod.mk.inj (show (x1, true) = (xr, bt) from hr)
      have HR := Lib.hid (show Hol.hand (Hol.ofR l jj q d) = (x1, true) by rw [hR]; rfl)
      clear hr hR
      go_enter Try.func13, Try.ntmps13
      go_wp2_with fail
      refine (hc _ (ha.alloc hB _) (by simp; omega)).mono ?_
      rintro e w1 ⟨rfl, hb1⟩
      have bel1 := bel_call (bel_alloc (Below.refl _ w) _) hb1
      have hz1 := (new_block (cs := [.int .i64 0, .int .i64 0, .int .i64 0, .int .i64 0, .int .i64 0, .int .i64 0]) hb1).1
      go_wp2_with fail
      refine (ho _ (ha.call bel1 hB) (Nat.le_trans hB bel1.size) q _ _ HR.out).mono ?_
      rintro e w2 ⟨rfl, hb2⟩
      have bel2 := bel_call bel1 hb2
      go_upto_region 6 with (fail)
      have hz3 := (hz1.call hb2).alloc (.cells x1.cs.toArray 28)
      have hx3 := Block.new w2 28 x1.cs
      have bel3 := bel_alloc bel2 (.cells x1.cs.toArray 28)
      obtain ⟨w3, hw3⟩ : ∃ w3, w2.alloc (.cells #[.int .i64 x1.a, .int .i64 x1.b, .int .i64 x1.c, .int .i64 x1.d, .int .i64 x1.e, .int .i64 x1.f] 28) = w3 := ⟨_, rfl⟩
      have hz3 : Block w3 w.heap.size 28 [.int .i64 0, .int .i64 0, .int .i64 0, .int .i64 0, .int .i64 0, .int .i64 0] := hw3 ▸ hz3
      have hx3 : Block w3 w2.heap.size 28 x1.cs := hw3 ▸ hx3
      have bel3 : Below w.heap.size w w3 := hw3 ▸ bel3
      rw [hw3]
      clear hw3
      have z1 := hz3.cell 0; have z2 := hz3.cell 1; have z3 := hz3.cell 2; have z4 := hz3.cell 3; have z5 := hz3.cell 4; have z6 := hz3.cell 5; have zf := hz3.free
      obtain ⟨y1, y2, y3, y4, y5, y6⟩ := Block.six hx3
      go_wp2_with fail
      exact ret_ct (T := 28) rfl rfl rfl (six_stored (x := S6.zero) (y := x1) hz3) agg_hol size_hol ⟨rfl, six_far bel3 (Nat.le_refl _) _ _ _ _ _ _⟩
  · have has : Hol.asF l jj q d = none := by unfold Hol.asF; rw [if_pos h0]
    rw [has] at hr
    obtain ⟨rfl, rfl⟩ := Prod.mk.inj (show (S6.zero, false) = (xr, bt) from hr)
    clear has hr
    generalize (Hol.chk l).1 = E at *
    generalize (Hol.chk l).2 = E2 at *
    have h1 : (E == 0) = false := by simpa using h0
    have h2 : (E != 0) = true := by simpa using h0
    go_enter Try.func13, Try.ntmps13
    go_wp2_with fail
    refine (hc _ (ha.alloc hB _) (by simp; omega)).mono ?_
    rintro e w1 ⟨rfl, hb1⟩
    have bel1 := bel_call (bel_alloc (Below.refl _ w) _) hb1
    have hz1 := (new_block (cs := [.int .i64 0, .int .i64 0, .int .i64 0, .int .i64 0, .int .i64 0, .int .i64 0]) hb1).1
    have z1 := hz1.cell 0; have z2 := hz1.cell 1; have z3 := hz1.cell 2; have z4 := hz1.cell 3; have z5 := hz1.cell 4; have z6 := hz1.cell 5; have zf := hz1.free
    have hz' : Block w1 w.heap.size 28 S6.zero.cs := hz1
    go_wp2_with fail
    exact ret_ct (T := 28) rfl rfl rfl (six_stored (y := S6.zero) hz') agg_hol size_hol ⟨rfl, six_far bel1 (Nat.le_refl _) _ _ _ _ _ _⟩
end Go.Proofs.Ytfgpndmlellidaa
