/- The walks of 'holiday.Next', 'holiday.Days'. -/
import Derived.Test.YtfgpndmlellidaaHolBase
namespace Go.Proofs.Ytfgpndmlellidaa
open Go.RowKit

/-- What has been found behind so many categories. -/
def Hol.pre (l : List S6) (jj q d : Int) (k : Nat) : Option Int := if k = 0 then none else if k = 1 then Hol.nq l jj q d else Hol.least (Hol.nq l jj q d) (Hol.nq l jj 0 d)
theorem Hol.nq_of_none {l : List S6} {jj q d : Int} (h : Hol.ofP l jj q d = none) : Hol.nq l jj q d = none := by unfold Hol.nq; rw [h]
theorem Hol.nq_of_some {l : List S6} {jj q d : Int} {x : S6} (h : Hol.ofP l jj q d = some x) : Hol.nq l jj q d = some (max x.c d) := by unfold Hol.nq; rw [h]
set_option maxRecDepth 100000 in
set_option maxHeartbeats 8000000 in
theorem next_any (A : Option Addr) (n c : Nat) (l : List S6) (jj q d : Int) (B : Nat) (w : World) (ha : Shows w B 6 A n (RC l)) (hB : B ≤ w.heap.size) (hn : n ≤ maxLen) {vr : Int} {bt : Bool} (hr : Hol.hand2 (Hol.nextF l jj q d) = (vr, bt)) :
    Calls Try.prog 17 #[.slice A n c, .int .i64 jj, .int .i64 q, .int .i64 d] w fun e w' => e = .returned (.tuple #[.int .i64 vr, .bool bt]) ∧ Below w.heap.size w w' := by
  have hc := fun (w' : World) (h : Shows w' B 6 A n (RC l)) (h' : B ≤ w'.heap.size) => check_any A n c l B w' h h' hn
  by_cases h0 : (Hol.chk l).1 = 0
  · by_cases hd : 0 ≤ d ∧ d ≤ 3652058
    · have hok := (Hol.chk_ok l).1 h0
      have hnx : Hol.nextF l jj q d = Hol.pre l jj q d 2 := by unfold Hol.nextF; rw [if_neg (by intro h; rcases h with h | h; exact h h0; exact h hd)]; rfl
      rw [Hol.chk_00 h0] at hc
      have hw := fun w => within_yes hd w
      have ho := fun (w' : World) (h : Shows w' B 6 A n (RC l)) (h' : B ≤ w'.heap.size) q x b hr => of_any A n c l jj q d B w' h h' hok (x := x) (bt := b) hr
      rw [hnx] at hr
      have Hr := Lib.hid hr
      have Hok := Lib.hid hok
      clear hnx h0 hr hok hd
      go_enter Try.func17, Try.ntmps17
      go_wp2_with fail
      refine (hc _ ha hB).mono ?_
      rintro e w1 ⟨rfl, hb1⟩
      go_wp2_with fail
      refine (hw _).mono ?_
      rintro e w1' ⟨rfl, rfl⟩
      go_wp2_with fail
      go_loopw [34, 12, 13] (fun i s12 s13 wr => ∃ (k : Nat) (v : Int) (bm : Bool), k ≤ 2 ∧ i = .int .i64 k ∧ s12 = .int .i64 v ∧ s13 = .bool bm ∧ Hol.hand2 (Hol.pre l jj q d k) = (v, bm) ∧ Below (w1.alloc (.cells #[.int .i64 q, .int .i64 0] 3)).heap.size (w1.alloc (.cells #[.int .i64 q, .int .i64 0] 3)) wr) (fun i _ _ _ => 3 - (intOf i).toNat)
      case atStart => exact ⟨0, 0, false, by omega, rfl, rfl, rfl, rfl, Below.refl _ _⟩
      case round =>
        obtain ⟨k, v, bm, hk, rfl, rfl, rfl, hpre, hbel⟩ := hrel
        have Hpre := Lib.hid hpre
        have hsl : Block wr w1.heap.size 3 [.int .i64 q, .int .i64 0] := (Block.new w1 _ _).call hbel
        have belr := bel_call (bel_alloc hb1 (.cells #[.int .i64 q, .int .i64 0] 3)) hbel
        have har := ha.call belr hB
        have s0 := hsl.cell 0
        have s1 := hsl.cell 1
        clear hpre
        rcases (by omega : k = 0 ∨ k = 1 ∨ k = 2) with rfl | rfl | rfl
        · obtain ⟨rfl, rfl⟩ := Prod.mk.inj (show ((0 : Int), false) = (v, bm) from Hpre.out)
          rcases hP : Hol.ofP l jj q d with _ | x1
          · have HP := Lib.hid (show Hol.hand (Hol.ofP l jj q d) = (S6.zero, false) by rw [hP]; rfl)
            have HN := Lib.hid (Hol.nq_of_none hP)
            have HV : Hid (Hol.hand2 (Hol.pre l jj q d 1) = (0, false)) := by unfold Hol.pre; rw [if_neg (by omega), if_pos rfl, HN.out]; rfl
            clear hP
            go_wp2_with fail
            refine (ho _ har (Nat.le_trans hB belr.size) q _ _ HP.out).mono ?_
            rintro e w2 ⟨rfl, hb2⟩
            go_wp2_with fail
            go_roundw
            case rel => exact ⟨1, _, _, by omega, by first | rfl | go_num, rfl, rfl, HV.out, bel_alloc (bel_call hbel hb2) _⟩
            case measure => simp [intOf]
          · have HP := Lib.hid (show Hol.hand (Hol.ofP l jj q d) = (x1, true) by rw [hP]; rfl)
            have HN := Lib.hid (Hol.nq_of_some hP)
            by_cases hcd : x1.c < d
            · skip
              have HV : Hid (Hol.hand2 (Hol.pre l jj q d 1) = (d, true)) := by
                unfold Hol.pre; rw [if_neg (by omega), if_pos rfl, HN.out]
                show Hol.hand2 (some (max x1.c d)) = _
                rw [Int.max_eq_right (by omega)]
                rfl
              clear hP
              go_wp2_with fail
              refine (ho _ har (Nat.le_trans hB belr.size) q _ _ HP.out).mono ?_
              rintro e w2 ⟨rfl, hb2⟩
              go_wp2_with fail
              all_goals
                first
                | (exfalso; omega)
                | (go_roundw
                   case rel => exact ⟨1, _, _, by omega, by first | rfl | go_num, rfl, rfl, HV.out, bel_alloc (bel_call hbel hb2) _⟩
                   case measure => simp [intOf])
            · skip
              have HV : Hid (Hol.hand2 (Hol.pre l jj q d 1) = (x1.c, true)) := by
                unfold Hol.pre; rw [if_neg (by omega), if_pos rfl, HN.out]
                show Hol.hand2 (some (max x1.c d)) = _
                rw [Int.max_eq_left (by omega)]
                rfl
              clear hP
              go_wp2_with fail
              refine (ho _ har (Nat.le_trans hB belr.size) q _ _ HP.out).mono ?_
              rintro e w2 ⟨rfl, hb2⟩
              go_wp2_with fail
              all_goals
                first
                | (exfalso; omega)
                | (go_roundw
                   case rel => exact ⟨1, _, _, by omega, by first | rfl | go_num, rfl, rfl, HV.out, bel_alloc (bel_call hbel hb2) _⟩
                   case measure => simp [intOf])
        · rcases hq : Hol.nq l jj q d with _ | a
          · obtain ⟨rfl, rfl⟩ := Prod.mk.inj (show ((0 : Int), false) = (v, bm) by have := Hpre.out; unfold Hol.pre at this; rw [if_neg (by omega), if_pos rfl, hq] at this; exact this)
            have Hq := Lib.hid hq
            clear hq
            rcases hP : Hol.ofP l jj 0 d with _ | x1
            · have HP := Lib.hid (show Hol.hand (Hol.ofP l jj 0 d) = (S6.zero, false) by rw [hP]; rfl)
              have HN := Lib.hid (Hol.nq_of_none hP)
              have HV : Hid (Hol.hand2 (Hol.pre l jj q d 2) = (0, false)) := by unfold Hol.pre; rw [if_neg (by omega), if_neg (by omega), Hq.out, HN.out]; rfl
              clear hP
              go_wp2_with fail
              refine (ho _ har (Nat.le_trans hB belr.size) 0 _ _ HP.out).mono ?_
              rintro e w2 ⟨rfl, hb2⟩
              go_wp2_with fail
              go_roundw
              case rel => exact ⟨2, _, _, by omega, by first | rfl | go_num, rfl, rfl, HV.out, bel_alloc (bel_call hbel hb2) _⟩
              case measure => simp [intOf]
            · have HP := Lib.hid (show Hol.hand (Hol.ofP l jj 0 d) = (x1, true) by rw [hP]; rfl)
              have HN := Lib.hid (Hol.nq_of_some hP)
              by_cases hcd : x1.c < d
              · skip
                have HV : Hid (Hol.hand2 (Hol.pre l jj q d 2) = (d, true)) := by
                  unfold Hol.pre; rw [if_neg (by omega), if_neg (by omega), Hq.out, HN.out]
                  show Hol.hand2 (some (max x1.c d)) = _
                  rw [Int.max_eq_right (by omega)]
                  rfl
                clear hP
                go_wp2_with fail
                refine (ho _ har (Nat.le_trans hB belr.size) 0 _ _ HP.out).mono ?_
                rintro e w2 ⟨rfl, hb2⟩
                go_wp2_with fail
                all_goals
                  first
                  | (exfalso; omega)
                  | (go_roundw
                     case rel => exact ⟨2, _, _, by omega, by first | rfl | go_num, rfl, rfl, HV.out, bel_alloc (bel_call hbel hb2) _⟩
                     case measure => simp [intOf])
              · skip
                have HV : Hid (Hol.hand2 (Hol.pre l jj q d 2) = (x1.c, true)) := by
                  unfold Hol.pre; rw [if_neg (by omega), if_neg (by omega), Hq.out, HN.out]
                  show Hol.hand2 (some (max x1.c d)) = _
                  rw [Int.max_eq_left (by omega)]
                  rfl
                clear hP
                go_wp2_with fail
                refine (ho _ har (Nat.le_trans hB belr.size) 0 _ _ HP.out).mono ?_
                rintro e w2 ⟨rfl, hb2⟩
                go_wp2_with fail
                all_goals
                  first
                  | (exfalso; omega)
                  | (go_roundw
                     case rel => exact ⟨2, _, _, by omega, by first | rfl | go_num, rfl, rfl, HV.out, bel_alloc (bel_call hbel hb2) _⟩
                     case measure => simp [intOf])
          · obtain ⟨rfl, rfl⟩ := Prod.mk.inj (show (a, true) = (v, bm) by have := Hpre.out; unfold Hol.pre at this; rw [if_neg (by omega), if_pos rfl, hq] at this; exact this)
            have Hq := Lib.hid hq
            clear hq
            rcases hP : Hol.ofP l jj 0 d with _ | x1
            · have HP := Lib.hid (show Hol.hand (Hol.ofP l jj 0 d) = (S6.zero, false) by rw [hP]; rfl)
              have HN := Lib.hid (Hol.nq_of_none hP)
              have HV : Hid (Hol.hand2 (Hol.pre l jj q d 2) = (a, true)) := by unfold Hol.pre; rw [if_neg (by omega), if_neg (by omega), Hq.out, HN.out]; rfl
              clear hP
              go_wp2_with fail
              refine (ho _ har (Nat.le_trans hB belr.size) 0 _ _ HP.out).mono ?_
              rintro e w2 ⟨rfl, hb2⟩
              go_wp2_with fail
              go_roundw
              case rel => exact ⟨2, _, _, by omega, by first | rfl | go_num, rfl, rfl, HV.out, bel_alloc (bel_call hbel hb2) _⟩
              case measure => simp [intOf]
            · have HP := Lib.hid (show Hol.hand (Hol.ofP l jj 0 d) = (x1, true) by rw [hP]; rfl)
              have HN := Lib.hid (Hol.nq_of_some hP)
              by_cases hcd : x1.c < d
              · by_cases hla : d < a
                · skip
                  have HV : Hid (Hol.hand2 (Hol.pre l jj q d 2) = (d, true)) := by
                    unfold Hol.pre; rw [if_neg (by omega), if_neg (by omega), Hq.out, HN.out]
                    show Hol.hand2 (some (if max x1.c d < a then max x1.c d else a)) = _
                    rw [Int.max_eq_right (by omega), if_pos hla]
                    rfl
                  clear hP
                  go_wp2_with fail
                  refine (ho _ har (Nat.le_trans hB belr.size) 0 _ _ HP.out).mono ?_
                  rintro e w2 ⟨rfl, hb2⟩
                  go_wp2_with fail
                  all_goals
                    first
                    | (exfalso; omega)
                    | (go_roundw
                       case rel => exact ⟨2, _, _, by omega, by first | rfl | go_num, rfl, rfl, HV.out, bel_alloc (bel_call hbel hb2) _⟩
                       case measure => simp [intOf])
                · skip
                  have HV : Hid (Hol.hand2 (Hol.pre l jj q d 2) = (a, true)) := by
                    unfold Hol.pre; rw [if_neg (by omega), if_neg (by omega), Hq.out, HN.out]
                    show Hol.hand2 (some (if max x1.c d < a then max x1.c d else a)) = _
                    rw [Int.max_eq_right (by omega), if_neg hla]
                    rfl
                  clear hP
                  go_wp2_with fail
                  refine (ho _ har (Nat.le_trans hB belr.size) 0 _ _ HP.out).mono ?_
                  rintro e w2 ⟨rfl, hb2⟩
                  go_wp2_with fail
                  all_goals
                    first
                    | (exfalso; omega)
                    | (go_roundw
                       case rel => exact ⟨2, _, _, by omega, by first | rfl | go_num, rfl, rfl, HV.out, bel_alloc (bel_call hbel hb2) _⟩
                       case measure => simp [intOf])
              · by_cases hla : x1.c < a
                · skip
                  have HV : Hid (Hol.hand2 (Hol.pre l jj q d 2) = (x1.c, true)) := by
                    unfold Hol.pre; rw [if_neg (by omega), if_neg (by omega), Hq.out, HN.out]
                    show Hol.hand2 (some (if max x1.c d < a then max x1.c d else a)) = _
                    rw [Int.max_eq_left (by omega), if_pos hla]
                    rfl
                  clear hP
                  go_wp2_with fail
                  refine (ho _ har (Nat.le_trans hB belr.size) 0 _ _ HP.out).mono ?_
                  rintro e w2 ⟨rfl, hb2⟩
                  go_wp2_with fail
                  all_goals
                    first
                    | (exfalso; omega)
                    | (go_roundw
                       case rel => exact ⟨2, _, _, by omega, by first | rfl | go_num, rfl, rfl, HV.out, bel_alloc (bel_call hbel hb2) _⟩
                       case measure => simp [intOf])
                · skip
                  have HV : Hid (Hol.hand2 (Hol.pre l jj q d 2) = (a, true)) := by
                    unfold Hol.pre; rw [if_neg (by omega), if_neg (by omega), Hq.out, HN.out]
                    show Hol.hand2 (some (if max x1.c d < a then max x1.c d else a)) = _
                    rw [Int.max_eq_left (by omega), if_neg hla]
                    rfl
                  clear hP
                  go_wp2_with fail
                  refine (ho _ har (Nat.le_trans hB belr.size) 0 _ _ HP.out).mono ?_
                  rintro e w2 ⟨rfl, hb2⟩
                  go_wp2_with fail
                  all_goals
                    first
                    | (exfalso; omega)
                    | (go_roundw
                       case rel => exact ⟨2, _, _, by omega, by first | rfl | go_num, rfl, rfl, HV.out, bel_alloc (bel_call hbel hb2) _⟩
                       case measure => simp [intOf])
        · have Hfin := Lib.hid (Prod.mk.inj (Hpre.out.symm.trans Hr.out))
          go_wp2_with fail
          go_ret2
          exact ⟨by rw [← Hfin.out.1, ← Hfin.out.2]; rfl, belr⟩
    · have hnx : Hol.nextF l jj q d = none := by unfold Hol.nextF; rw [if_pos (.inr hd)]
      rw [hnx] at hr
      obtain ⟨rfl, rfl⟩ := Prod.mk.inj (show ((0 : Int), false) = (vr, bt) from hr)
      rw [Hol.chk_00 h0] at hc
      have hw := fun w => within_no hd w
      clear hnx h0 hr hd
      go_enter Try.func17, Try.ntmps17
      go_wp2_with fail
      refine (hc _ ha hB).mono ?_
      rintro e w1 ⟨rfl, hb1⟩
      go_wp2_with fail
      refine (hw _).mono ?_
      rintro e w1' ⟨rfl, rfl⟩
      go_wp2_with fail
      go_ret2
      exact ⟨rfl, hb1⟩
  · have hnx : Hol.nextF l jj q d = none := by unfold Hol.nextF; rw [if_pos (.inl h0)]
    rw [hnx] at hr
    obtain ⟨rfl, rfl⟩ := Prod.mk.inj (show ((0 : Int), false) = (vr, bt) from hr)
    clear hnx hr
    generalize (Hol.chk l).1 = E at *
    generalize (Hol.chk l).2 = E2 at *
    have h1 : (E == 0) = false := by simpa using h0
    have h2 : (E != 0) = true := by simpa using h0
    go_enter Try.func17, Try.ntmps17
    go_wp2_with fail
    refine (hc _ ha hB).mono ?_
    rintro e w1 ⟨rfl, hb1⟩
    go_wp2_with fail
    go_ret2
    exact ⟨rfl, hb1⟩
end Go.Proofs.Ytfgpndmlellidaa
