/- The walks of 'holiday.Base', of the document's 'Base'. -/
import Derived.Test.YtfgpndmlellidaaHolAs
namespace Go.Proofs.Ytfgpndmlellidaa
open Go.RowKit

set_option maxRecDepth 100000 in
set_option maxHeartbeats 4000000 in
theorem base_any (A : Option Addr) (n c : Nat) (l : List S6) (jj q d m : Int) (B : Nat) (w : World) (ha : Shows w B 6 A n (RC l)) (hB : B ≤ w.heap.size) (hn : n ≤ maxLen) :
    Calls Try.prog 14 #[.slice A n c, .int .i64 jj, .int .i64 q, .int .i64 d, .int .i64 m] w fun e w' => e = .returned (.tuple #[.int .i64 (Hol.baseF l jj q d m).1, .int .i64 (Hol.baseF l jj q d m).2]) ∧ Below w.heap.size w w' := by
  have hc := fun (w' : World) (h : Shows w' B 6 A n (RC l)) (h' : B ≤ w'.heap.size) => check_any A n c l B w' h h' hn
  by_cases h0 : (Hol.chk l).1 = 0
  · rw [Hol.chk_00 h0] at hc
    by_cases hm : 0 ≤ m ∧ m ≤ 1099511627775
    · have hw := fun w => within_yes hm w
      obtain ⟨m0, m1⟩ := hm
      have hbf : Hol.baseF l jj q d m = match Hol.asF l jj q d with | none => (m, 0) | some x => if x.e = 2 then (max (m - x.f) 0, 0) else if m ≤ x.f then (0, 0) else (m, 0) := by
        unfold Hol.baseF
        rw [if_neg (by simpa using h0), if_neg (by omega)]
        rcases Hol.asF l jj q d with _ | _ <;> rfl
      rcases has : Hol.asF l jj q d with _ | x
      · have hr := Lib.hid (show Hol.baseF l jj q d m = (m, 0) by rw [hbf, has])
        have hs := fun (w' : World) (h : Shows w' B 6 A n (RC l)) (h' : B ≤ w'.heap.size) => as_any A n c l jj q d B w' h h' hn (xr := S6.zero) (bt := false) (by rw [has]; rfl)
        clear hbf has h0
        go_enter Try.func14, Try.ntmps14
        go_wp2_with fail
        refine (hc _ ha hB).mono ?_
        rintro e w1 ⟨rfl, hb1⟩
        go_wp2_with fail
        refine (hw _).mono ?_
        rintro e w1' ⟨rfl, rfl⟩
        go_wp2_with fail
        refine (hs _ (ha.call hb1 hB) (Nat.le_trans hB hb1.size)).mono ?_
        rintro e w2 ⟨rfl, hb2⟩
        go_wp2_with fail
        go_ret2
        exact ⟨by rw [hr.out]; rfl, bel_alloc (bel_call hb1 hb2) _⟩
      · have hs := fun (w' : World) (h : Shows w' B 6 A n (RC l)) (h' : B ≤ w'.heap.size) => as_any A n c l jj q d B w' h h' hn (xr := x) (bt := true) (by rw [has]; rfl)
        obtain ⟨_, hxl, _⟩ := Hol.as_some has
        obtain ⟨_, _, _, _, ⟨f0, f1⟩, _, e1, e2⟩ := Hol.one_0 (((Hol.chk_ok l).1 h0).2.1 x hxl)
        by_cases hmode : x.e = 2
        · have hr := Lib.hid (show Hol.baseF l jj q d m = (max (m - x.f) 0, 0) by rw [hbf, has]; exact if_pos hmode)
          have g1 : (x.e == 2) = true := by simpa using hmode
          have g2 : (x.e == 1) = false := by simp; omega
          clear hbf has h0 hmode hxl
          go_enter Try.func14, Try.ntmps14
          go_wp2_with fail
          refine (hc _ ha hB).mono ?_
          rintro e w1 ⟨rfl, hb1⟩
          go_wp2_with fail
          refine (hw _).mono ?_
          rintro e w1' ⟨rfl, rfl⟩
          go_wp2_with fail
          refine (hs _ (ha.call hb1 hB) (Nat.le_trans hB hb1.size)).mono ?_
          rintro e w2 ⟨rfl, hb2⟩
          go_wp2_with fail
          all_goals
            go_ret2
            first
              | exact ⟨by rw [hr.out, Int.max_eq_left (by omega)]; rfl, bel_alloc (bel_call hb1 hb2) _⟩
              | exact ⟨by rw [hr.out, Int.max_eq_right (by omega)]; rfl, bel_alloc (bel_call hb1 hb2) _⟩
        · have g1 : (x.e == 2) = false := by simpa using hmode
          have g2 : (x.e == 1) = true := by simp; omega
          by_cases hle : m ≤ x.f
          · have hr := Lib.hid (show Hol.baseF l jj q d m = (0, 0) by rw [hbf, has]; show (if x.e = 2 then (max (m - x.f) 0, (0 : Int)) else if m ≤ x.f then (0, 0) else (m, 0)) = _; rw [if_neg hmode, if_pos hle])
            have d1 : decide (x.f < m) = false := decide_eq_false (by omega)
            clear hbf has h0 hmode hxl
            go_enter Try.func14, Try.ntmps14
            go_wp2_with fail
            refine (hc _ ha hB).mono ?_
            rintro e w1 ⟨rfl, hb1⟩
            go_wp2_with fail
            refine (hw _).mono ?_
            rintro e w1' ⟨rfl, rfl⟩
            go_wp2_with fail
            refine (hs _ (ha.call hb1 hB) (Nat.le_trans hB hb1.size)).mono ?_
            rintro e w2 ⟨rfl, hb2⟩
            go_wp2_with fail
            all_goals
              go_ret2
              first
                | exact ⟨by rw [hr.out]; rfl, bel_alloc (bel_call hb1 hb2) _⟩
                | exact ⟨by rw [hr.out, show (0 : Int) = m - x.f by omega]; rfl, bel_alloc (bel_call hb1 hb2) _⟩
          · have hr := Lib.hid (show Hol.baseF l jj q d m = (m, 0) by rw [hbf, has]; show (if x.e = 2 then (max (m - x.f) 0, (0 : Int)) else if m ≤ x.f then (0, 0) else (m, 0)) = _; rw [if_neg hmode, if_neg hle])
            have d1 : decide (x.f < m) = true := decide_eq_true (by omega)
            clear hbf has h0 hmode hxl
            go_enter Try.func14, Try.ntmps14
            go_wp2_with fail
            refine (hc _ ha hB).mono ?_
            rintro e w1 ⟨rfl, hb1⟩
            go_wp2_with fail
            refine (hw _).mono ?_
            rintro e w1' ⟨rfl, rfl⟩
            go_wp2_with fail
            refine (hs _ (ha.call hb1 hB) (Nat.le_trans hB hb1.size)).mono ?_
            rintro e w2 ⟨rfl, hb2⟩
            go_wp2_with fail
            go_ret2
            exact ⟨by rw [hr.out]; rfl, bel_alloc (bel_call hb1 hb2) _⟩
    · have hw := fun w => within_no hm w
      have hr := Lib.hid (show Hol.baseF l jj q d m = (0, 5) by unfold Hol.baseF; rw [if_neg (by simpa using h0), if_pos hm])
      clear hm h0
      go_enter Try.func14, Try.ntmps14
      go_wp2_with fail
      refine (hc _ ha hB).mono ?_
      rintro e w1 ⟨rfl, hb1⟩
      go_wp2_with fail
      refine (hw _).mono ?_
      rintro e w1' ⟨rfl, rfl⟩
      go_wp2_with fail
      go_ret2
      exact ⟨by rw [hr.out]; rfl, hb1⟩
  · have hr := Lib.hid (show Hol.baseF l jj q d m = (0, (Hol.chk l).1) by unfold Hol.baseF; rw [if_pos h0])
    generalize (Hol.chk l).1 = E at *
    generalize (Hol.chk l).2 = E2 at *
    have h1 : (E == 0) = false := by simpa using h0
    have h2 : (E != 0) = true := by simpa using h0
    go_enter Try.func14, Try.ntmps14
    go_wp2_with fail
    refine (hc _ ha hB).mono ?_
    rintro e w1 ⟨rfl, hb1⟩
    go_wp2_with fail
    go_ret2
    exact ⟨by rw [hr.out]; rfl, hb1⟩
set_option maxRecDepth 100000 in
set_option maxHeartbeats 4000000 in
theorem rbase_any (A : Option Addr) (n c : Nat) (l : List S6) (jj q d m : Int) (B : Nat) (w : World) (ha : Shows w B 6 A n (RC l)) (hB : B ≤ w.heap.size) (hn : n ≤ maxLen) :
    Calls Try.prog 15 #[.slice A n c, .int .i64 jj, .int .i64 q, .int .i64 d, .int .i64 m] w fun e w' => e = .returned (.tuple #[.int .i64 (Hol.baseF l jj q d m).1, .int .i64 (Hol.baseF l jj q d m).2]) ∧ Below w.heap.size w w' := by
  have hc := fun (w' : World) (h : Shows w' B 6 A n (RC l)) (h' : B ≤ w'.heap.size) => rcheck_any A n c l B w' h h' hn
  by_cases h0 : (Hol.chk l).1 = 0
  · rw [Hol.chk_00 h0] at hc
    by_cases hm : 0 ≤ m ∧ m ≤ 1099511627775
    · have hw := fun w => rwithin_yes hm w
      obtain ⟨m0, m1⟩ := hm
      have hbf : Hol.baseF l jj q d m = match Hol.asF l jj q d with | none => (m, 0) | some x => if x.e = 2 then (max (m - x.f) 0, 0) else if m ≤ x.f then (0, 0) else (m, 0) := by
        unfold Hol.baseF
        rw [if_neg (by simpa using h0), if_neg (by omega)]
        rcases Hol.asF l jj q d with _ | _ <;> rfl
      rcases has : Hol.asF l jj q d with _ | x
      · have hr := Lib.hid (show Hol.baseF l jj q d m = (m, 0) by rw [hbf, has])
        have hs := fun (w' : World) (h : Shows w' B 6 A n (RC l)) (h' : B ≤ w'.heap.size) => ras_any A n c l jj q d B w' h h' hn (xr := S6.zero) (bt := false) (by rw [has]; rfl)
        clear hbf has h0
        go_enter Try.func15, Try.ntmps15
        go_wp2_with fail
        refine (hc _ ha hB).mono ?_
        rintro e w1 ⟨rfl, hb1⟩
        go_wp2_with fail
        refine (hw _).mono ?_
        rintro e w1' ⟨rfl, rfl⟩
        go_wp2_with fail
        refine (hs _ (ha.call hb1 hB) (Nat.le_trans hB hb1.size)).mono ?_
        rintro e w2 ⟨rfl, hb2⟩
        go_wp2_with fail
        go_ret2
        exact ⟨by rw [hr.out]; rfl, bel_alloc (bel_call hb1 hb2) _⟩
      · have hs := fun (w' : World) (h : Shows w' B 6 A n (RC l)) (h' : B ≤ w'.heap.size) => ras_any A n c l jj q d B w' h h' hn (xr := x) (bt := true) (by rw [has]; rfl)
        obtain ⟨_, hxl, _⟩ := Hol.as_some has
        obtain ⟨_, _, _, _, ⟨f0, f1⟩, _, e1, e2⟩ := Hol.one_0 (((Hol.chk_ok l).1 h0).2.1 x hxl)
        by_cases hmode : x.e = 2
        · have hr := Lib.hid (show Hol.baseF l jj q d m = (max (m - x.f) 0, 0) by rw [hbf, has]; exact if_pos hmode)
          have g1 : (x.e == 2) = true := by simpa using hmode
          have g2 : (x.e == 1) = false := by simp; omega
          clear hbf has h0 hmode hxl
          go_enter Try.func15, Try.ntmps15
          go_wp2_with fail
          refine (hc _ ha hB).mono ?_
          rintro e w1 ⟨rfl, hb1⟩
          go_wp2_with fail
          refine (hw _).mono ?_
          rintro e w1' ⟨rfl, rfl⟩
          go_wp2_with fail
          refine (hs _ (ha.call hb1 hB) (Nat.le_trans hB hb1.size)).mono ?_
          rintro e w2 ⟨rfl, hb2⟩
          go_wp2_with fail
          all_goals
            go_ret2
            first
              | exact ⟨by rw [hr.out, Int.max_eq_left (by omega)]; rfl, bel_alloc (bel_call hb1 hb2) _⟩
              | exact ⟨by rw [hr.out, Int.max_eq_right (by omega)]; rfl, bel_alloc (bel_call hb1 hb2) _⟩
        · have g1 : (x.e == 2) = false := by simpa using hmode
          have g2 : (x.e == 1) = true := by simp; omega
          by_cases hle : m ≤ x.f
          · have hr := Lib.hid (show Hol.baseF l jj q d m = (0, 0) by rw [hbf, has]; show (if x.e = 2 then (max (m - x.f) 0, (0 : Int)) else if m ≤ x.f then (0, 0) else (m, 0)) = _; rw [if_neg hmode, if_pos hle])
            have d1 : decide (x.f < m) = false := decide_eq_false (by omega)
            clear hbf has h0 hmode hxl
            go_enter Try.func15, Try.ntmps15
            go_wp2_with fail
            refine (hc _ ha hB).mono ?_
            rintro e w1 ⟨rfl, hb1⟩
            go_wp2_with fail
            refine (hw _).mono ?_
            rintro e w1' ⟨rfl, rfl⟩
            go_wp2_with fail
            refine (hs _ (ha.call hb1 hB) (Nat.le_trans hB hb1.size)).mono ?_
            rintro e w2 ⟨rfl, hb2⟩
            go_wp2_with fail
            all_goals
              go_ret2
              first
                | exact ⟨by rw [hr.out]; rfl, bel_alloc (bel_call hb1 hb2) _⟩
                | exact ⟨by rw [hr.out, show (0 : Int) = m - x.f by omega]; rfl, bel_alloc (bel_call hb1 hb2) _⟩
          · have hr := Lib.hid (show Hol.baseF l jj q d m = (m, 0) by rw [hbf, has]; show (if x.e = 2 then (max (m - x.f) 0, (0 : Int)) else if m ≤ x.f then (0, 0) else (m, 0)) = _; rw [if_neg hmode, if_neg hle])
            have d1 : decide (x.f < m) = true := decide_eq_true (by omega)
            clear hbf has h0 hmode hxl
            go_enter Try.func15, Try.ntmps15
            go_wp2_with fail
            refine (hc _ ha hB).mono ?_
            rintro e w1 ⟨rfl, hb1⟩
            go_wp2_with fail
            refine (hw _).mono ?_
            rintro e w1' ⟨rfl, rfl⟩
            go_wp2_with fail
            refine (hs _ (ha.call hb1 hB) (Nat.le_trans hB hb1.size)).mono ?_
            rintro e w2 ⟨rfl, hb2⟩
            go_wp2_with fail
            go_ret2
            exact ⟨by rw [hr.out]; rfl, bel_alloc (bel_call hb1 hb2) _⟩
    · have hw := fun w => rwithin_no hm w
      have hr := Lib.hid (show Hol.baseF l jj q d m = (0, 5) by unfold Hol.baseF; rw [if_neg (by simpa using h0), if_pos hm])
      clear hm h0
      go_enter Try.func15, Try.ntmps15
      go_wp2_with fail
      refine (hc _ ha hB).mono ?_
      rintro e w1 ⟨rfl, hb1⟩
      go_wp2_with fail
      refine (hw _).mono ?_
      rintro e w1' ⟨rfl, rfl⟩
      go_wp2_with fail
      go_ret2
      exact ⟨by rw [hr.out]; rfl, hb1⟩
  · have hr := Lib.hid (show Hol.baseF l jj q d m = (0, (Hol.chk l).1) by unfold Hol.baseF; rw [if_pos h0])
    generalize (Hol.chk l).1 = E at *
    generalize (Hol.chk l).2 = E2 at *
    have h1 : (E == 0) = false := by simpa using h0
    have h2 : (E != 0) = true := by simpa using h0
    go_enter Try.func15, Try.ntmps15
    go_wp2_with fail
    refine (hc _ ha hB).mono ?_
    rintro e w1 ⟨rfl, hb1⟩
    go_wp2_with fail
    go_ret2
    exact ⟨by rw [hr.out]; rfl, hb1⟩
end Go.Proofs.Ytfgpndmlellidaa
