/- The walk of 'holiday.As'. -/
import Derived.Test.YtfgpndmlellidaaHolRefAs
namespace Go.Proofs.Ytfgpndmlellidaa
open Go.RowKit

set_option maxRecDepth 100000 in
set_option maxHeartbeats 4000000 in
theorem as_any (A : Option Addr) (n c : Nat) (l : List S6) (jj q d : Int) (B : Nat) (w : World) (ha : Shows w B 6 A n (RC l)) (hB : B ≤ w.heap.size) (hn : n ≤ maxLen) {xr : S6} {bt : Bool} (hr : Hol.hand (Hol.asF l jj q d) = (xr, bt)) :
    Calls Try.prog 12 #[.slice A n c, .int .i64 jj, .int .i64 q, .int .i64 d] w fun e w' => e = .returned (.tuple #[(.agg #[.int .i64 xr.a, .int .i64 xr.b, .int .i64 xr.c, .int .i64 xr.d, .int .i64 xr.e, .int .i64 xr.f]), .bool bt]) ∧ Below w.heap.size w w' := by
  have hc := fun (w' : World) (h : Shows w' B 6 A n (RC l)) (h' : B ≤ w'.heap.size) => check_any A n c l B w' h h' hn
  by_cases h0 : (Hol.chk l).1 = 0
  · have hok := (Hol.chk_ok l).1 h0
    rw [Hol.chk_00 h0] at hc
    have ho := fun (w' : World) (h : Shows w' B 6 A n (RC l)) (h' : B ≤ w'.heap.size) q x b hr => of_any A n c l jj q d B w' h h' hok (x := x) (bt := b) hr
    have has : Hol.asF l jj q d = match Hol.ofR l jj q d with | some x => some x | none => Hol.ofR l jj 0 d := by unfold Hol.asF; rw [if_neg (by simpa using h0)]; rcases Hol.ofR l jj q d with _ | _ <;> rfl
    have Has := Lib.hid has
    have Hr := Lib.hid hr
    have Hok := Lib.hid hok
    clear has h0 hr hok
    go_enter Try.func12, Try.ntmps12
    go_wp2_with fail
    refine (hc _ (ha.alloc hB _) (by simp; omega)).mono ?_
    rintro e w1 ⟨rfl, hb1⟩
    have bel1 := bel_call (bel_alloc (Below.refl _ w) _) hb1
    have hz1 := (new_block (cs := [.int .i64 0, .int .i64 0, .int .i64 0, .int .i64 0, .int .i64 0, .int .i64 0]) hb1).1
    have hzl1 := hz1.lt
    go_wp2_with fail
    go_loopw [27] (fun i wr => ∃ k : Nat, k ≤ 2 ∧ i = .int .i64 k ∧ (1 ≤ k → Hol.ofR l jj q d = none) ∧ (2 ≤ k → Hol.ofR l jj 0 d = none) ∧ Below (w1.alloc (.cells #[.int .i64 q, .int .i64 0] 3)).heap.size (w1.alloc (.cells #[.int .i64 q, .int .i64 0] 3)) wr) (fun i _ => 3 - (intOf i).toNat)
    case atStart => exact ⟨0, by omega, rfl, fun h => by omega, fun h => by omega, Below.refl _ _⟩
    case round =>
      obtain ⟨k, hk, rfl, hk1, hk2, hbel⟩ := hrel
      have HK1 := Lib.hid hk1
      have HK2 := Lib.hid hk2
      have hsl : Block wr w1.heap.size 3 [.int .i64 q, .int .i64 0] := (Block.new w1 _ _).call hbel
      have hzr : Block wr w.heap.size 28 [.int .i64 0, .int .i64 0, .int .i64 0, .int .i64 0, .int .i64 0, .int .i64 0] := (hz1.alloc _).call hbel
      have belr := bel_call (bel_alloc bel1 (.cells #[.int .i64 q, .int .i64 0] 3)) hbel
      have har := ha.call belr hB
      have s0 := hsl.cell 0
      have s1 := hsl.cell 1
      clear hk1 hk2
      rcases (by omega : k = 0 ∨ k = 1 ∨ k = 2) with rfl | rfl | rfl
      · rcases hP : Hol.ofP l jj q d with _ | x1
        · have HP := Lib.hid (show Hol.hand (Hol.ofP l jj q d) = (S6.zero, false) by rw [hP]; rfl)
          have HR := Lib.hid (show Hol.ofR l jj q d = none by rw [Hol.ofR_is Hok.out, hP])
          clear hP
          go_wp2_with fail
          refine (ho _ har (Nat.le_trans hB belr.size) q _ _ HP.out).mono ?_
          rintro e w2 ⟨rfl, hb2⟩
          go_wp2_with fail
          go_roundw
          case rel => exact ⟨0 + 1, by omega, by first | rfl | go_num, fun _ => HR.out, fun h => by omega, bel_alloc (bel_call hbel hb2) _⟩
          case measure => simp [intOf]
        · have HP := Lib.hid (show Hol.hand (Hol.ofP l jj q d) = (x1, true) by rw [hP]; rfl)
          by_cases hle : x1.c ≤ d
          · have HR := Lib.hid (show Hol.ofR l jj q d = some x1 by rw [Hol.ofR_is Hok.out, hP]; exact if_pos hle)
            clear hP
            go_wp2_with fail
            refine (ho _ har (Nat.le_trans hB belr.size) q _ _ HP.out).mono ?_
            rintro e w2 ⟨rfl, hb2⟩
            go_upto_region 9 with (fail)
            have hz3 := (hzr.call hb2).alloc (.cells x1.cs.toArray 28)
            have hx3 := Block.new w2 28 x1.cs
            have bel3 := bel_alloc (bel_call belr hb2) (.cells x1.cs.toArray 28)
            obtain ⟨w3, hw3⟩ : ∃ w3, w2.alloc (.cells #[.int .i64 x1.a, .int .i64 x1.b, .int .i64 x1.c, .int .i64 x1.d, .int .i64 x1.e, .int .i64 x1.f] 28) = w3 := ⟨_, rfl⟩
            have hz3 : Block w3 w.heap.size 28 [.int .i64 0, .int .i64 0, .int .i64 0, .int .i64 0, .int .i64 0, .int .i64 0] := hw3 ▸ hz3
            have hx3 : Block w3 w2.heap.size 28 x1.cs := hw3 ▸ hx3
            have bel3 : Below w.heap.size w w3 := hw3 ▸ bel3
            rw [hw3]
            clear hw3
            have z1 := hz3.cell 0; have z2 := hz3.cell 1; have z3 := hz3.cell 2; have z4 := hz3.cell 3; have z5 := hz3.cell 4; have z6 := hz3.cell 5; have zf := hz3.free
            obtain ⟨y1, y2, y3, y4, y5, y6⟩ := Block.six hx3
            go_wp2_with fail
            have hr := Hr.out
            rw [Has.out, HR.out] at hr
            obtain ⟨rfl, rfl⟩ := Prod.mk.inj (show (x1, true) = (xr, bt) from hr)
            exact ret_ct (T := 28) rfl rfl rfl (six_stored (x := S6.zero) (y := x1) hz3) agg_hol size_hol ⟨rfl, six_far bel3 (Nat.le_refl _) _ _ _ _ _ _⟩
          · have HR := Lib.hid (show Hol.ofR l jj q d = none by rw [Hol.ofR_is Hok.out, hP]; exact if_neg hle)
            clear hP
            go_wp2_with fail
            refine (ho _ har (Nat.le_trans hB belr.size) q _ _ HP.out).mono ?_
            rintro e w2 ⟨rfl, hb2⟩
            go_wp2_with fail
            go_roundw
            case rel => exact ⟨0 + 1, by omega, by first | rfl | go_num, fun _ => HR.out, fun h => by omega, bel_alloc (bel_call hbel hb2) _⟩
            case measure => simp [intOf]
      · rcases hP : Hol.ofP l jj 0 d with _ | x1
        · have HP := Lib.hid (show Hol.hand (Hol.ofP l jj 0 d) = (S6.zero, false) by rw [hP]; rfl)
          have HR := Lib.hid (show Hol.ofR l jj 0 d = none by rw [Hol.ofR_is Hok.out, hP])
          clear hP
          go_wp2_with fail
          refine (ho _ har (Nat.le_trans hB belr.size) 0 _ _ HP.out).mono ?_
          rintro e w2 ⟨rfl, hb2⟩
          go_wp2_with fail
          go_roundw
          case rel => exact ⟨1 + 1, by omega, by first | rfl | go_num, fun _ => HK1.out (by omega), fun _ => HR.out, bel_alloc (bel_call hbel hb2) _⟩
          case measure => simp [intOf]
        · have HP := Lib.hid (show Hol.hand (Hol.ofP l jj 0 d) = (x1, true) by rw [hP]; rfl)
          by_cases hle : x1.c ≤ d
          · have HR := Lib.hid (show Hol.ofR l jj 0 d = some x1 by rw [Hol.ofR_is Hok.out, hP]; exact if_pos hle)
            clear hP
            go_wp2_with fail
            refine (ho _ har (Nat.le_trans hB belr.size) 0 _ _ HP.out).mono ?_
            rintro e w2 ⟨rfl, hb2⟩
            go_upto_region 9 with (fail)
            have hz3 := (hzr.call hb2).alloc (.cells x1.cs.toArray 28)
            have hx3 := Block.new w2 28 x1.cs
            have bel3 := bel_alloc (bel_call belr hb2) (.cells x1.cs.toArray 28)
            obtain ⟨w3, hw3⟩ : ∃ w3, w2.alloc (.cells #[.int .i64 x1.a, .int .i64 x1.b, .int .i64 x1.c, .int .i64 x1.d, .int .i64 x1.e, .int .i64 x1.f] 28) = w3 := ⟨_, rfl⟩
            have hz3 : Block w3 w.heap.size 28 [.int .i64 0, .int .i64 0, .int .i64 0, .int .i64 0, .int .i64 0, .int .i64 0] := hw3 ▸ hz3
            have hx3 : Block w3 w2.heap.size 28 x1.cs := hw3 ▸ hx3
            have bel3 : Below w.heap.size w w3 := hw3 ▸ bel3
            rw [hw3]
            clear hw3
            have z1 := hz3.cell 0; have z2 := hz3.cell 1; have z3 := hz3.cell 2; have z4 := hz3.cell 3; have z5 := hz3.cell 4; have z6 := hz3.cell 5; have zf := hz3.free
            obtain ⟨y1, y2, y3, y4, y5, y6⟩ := Block.six hx3
            go_wp2_with fail
            have hr := Hr.out
            rw [Has.out, HK1.out (by omega)] at hr
            have hr : Hol.hand (Hol.ofR l jj 0 d) = (xr, bt) := hr
            rw [HR.out] at hr
            obtain ⟨rfl, rfl⟩ := Prod.mk.inj (show (x1, true) = (xr, bt) from hr)
            exact ret_ct (T := 28) rfl rfl rfl (six_stored (x := S6.zero) (y := x1) hz3) agg_hol size_hol ⟨rfl, six_far bel3 (Nat.le_refl _) _ _ _ _ _ _⟩
          · have HR := Lib.hid (show Hol.ofR l jj 0 d = none by rw [Hol.ofR_is Hok.out, hP]; exact if_neg hle)
            clear hP
            go_wp2_with fail
            refine (ho _ har (Nat.le_trans hB belr.size) 0 _ _ HP.out).mono ?_
            rintro e w2 ⟨rfl, hb2⟩
            go_wp2_with fail
            go_roundw
            case rel => exact ⟨1 + 1, by omega, by first | rfl | go_num, fun _ => HK1.out (by omega), fun _ => HR.out, bel_alloc (bel_call hbel hb2) _⟩
            case measure => simp [intOf]
      · have z1 := hzr.cell 0; have z2 := hzr.cell 1; have z3 := hzr.cell 2; have z4 := hzr.cell 3; have z5 := hzr.cell 4; have z6 := hzr.cell 5; have zf := hzr.free
        go_wp2_with fail
        have hr := Hr.out
        rw [Has.out, HK1.out (by omega)] at hr
        have hr : Hol.hand (Hol.ofR l jj 0 d) = (xr, bt) := hr
        rw [HK2.out (by omega)] at hr
        obtain ⟨rfl, rfl⟩ := Prod.mk.inj hr
        exact ret_ct (T := 28) rfl rfl rfl (six_stored (x := S6.zero) (y := S6.zero) hzr) agg_hol size_hol ⟨rfl, six_far belr (Nat.le_refl _) _ _ _ _ _ _⟩
  · have has : Hol.asF l jj q d = none := by unfold Hol.asF; rw [if_pos h0]
    rw [has] at hr
    obtain ⟨rfl, rfl⟩ := Prod.mk.inj (show (S6.zero, false) = (xr, bt) from hr)
    clear has hr
    generalize (Hol.chk l).1 = E at *
    generalize (Hol.chk l).2 = E2 at *
    have h1 : (E == 0) = false := by simpa using h0
    have h2 : (E != 0) = true := by simpa using h0
    go_enter Try.func12, Try.ntmps12
    go_wp2_with fail
    refine (hc _ (ha.alloc hB _) (by simp; omega)).mono ?_
    rintro e w1 ⟨rfl, hb1⟩
    have bel1 := bel_call (bel_alloc (Below.refl _ w) _) hb1
    have hz1 := (new_block (cs := [.int .i64 0, .int .i64 0, .int .i64 0, .int .i64 0, .int .i64 0, .int .i64 0]) hb1).1
    have z1 := hz1.cell 0; have z2 := hz1.cell 1; have z3 := hz1.cell 2; have z4 := hz1.cell 3; have z5 := hz1.cell 4; have z6 := hz1.cell 5; have zf := hz1.free
    have hz' : Block w1 w.heap.size 28 S6.zero.cs := hz1
    go_wp2_with fail
    exact ret_ct (T := 28) rfl rfl rfl (six_stored (y := S6.zero) hz') agg_hol size_hol ⟨rfl, six_far bel1 (Nat.le_refl _) _ _ _ _ _ _⟩
end Go.Proofs.Ytfgpndmlellidaa
