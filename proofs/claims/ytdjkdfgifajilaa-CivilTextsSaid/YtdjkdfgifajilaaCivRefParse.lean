/- The walk of the document's 'Parse'. -/
import Derived.Test.YtdjkdfgifajilaaCivParse
namespace Go.Proofs.Ytdjkdfgifajilaa
open Go.RowKit

theorem refDayF_calls (y m d : Int) (w : World) (hy : -9223372036854775808 ≤ y ∧ y ≤ 9223372036854775807) (hm : -9223372036854775808 ≤ m ∧ m ≤ 9223372036854775807) :
    Calls Try.prog 17 #[.int .i64 y, .int .i64 m, .int .i64 d] w fun r w' => r = .returned (.tuple #[.int .i64 (Civ.dayF y m d).1, .int .i64 (Civ.dayF y m d).2]) ∧ w = w' := by
  unfold Civ.dayF
  by_cases h : d < 1 ∨ Civ.dim y m < d
  · rw [if_pos h]; exact refDay_bad y m d w hy.1 hy.2 hm.1 hm.2 h
  · rw [if_neg h]
    obtain ⟨k, rfl, hk⟩ := Civ.isD_of y m d (by omega) (by omega)
    exact refDay_good y d k w hk
set_option maxRecDepth 100000 in
set_option maxHeartbeats 8000000 in
theorem refParse_any (s : ByteArray) (w : World) (hs : s.size ≤ maxLen) : Calls Try.prog 30 #[.string s] w fun e w' => e = .returned (parseV (Civ.parseF (nums s))) ∧ Below w.heap.size w w' := by
  unfold maxLen at hs
  have hl := nums_len s
  have hget := nums_get s
  generalize nums s = xs at *
  have Hl := Lib.hid hl
  have Hg := Lib.hid hget
  clear hl hget
  go_enter Try.func30, Try.ntmps30
  go_wp2_with fail
  go_loopw [5, 6] (fun p i wr => ∃ (j : Nat) (a0 a1 a2 : Int), j ≤ 10 ∧ i = .int .i64 j ∧ p = .int .i64 (partAt j) ∧ Nums xs j a0 a1 a2 ∧ Below w.heap.size w wr ∧
      Block wr w.heap.size 39 [.int .i64 0, .int .i64 0] ∧ Block wr (w.heap.size + 1) 52 [.int .i64 a0, .int .i64 a1, .int .i64 a2])
    (fun _ i _ => 10 - (intOf i).toNat)
  case atStart =>
    refine ⟨0, 0, 0, 0, by omega, rfl, rfl, ⟨fun q hq => absurd hq (by omega), rfl, rfl, rfl⟩, ?_, ?_, ?_⟩
    · exact bel_alloc (bel_alloc (Below.refl _ _) _) _
    · exact (Block.new w _ [.int .i64 0, .int .i64 0]).alloc _
    · have := Block.new (w.alloc (.cells #[.int .i64 0, .int .i64 0] 39)) 52 [.int .i64 0, .int .i64 0, .int .i64 0]
      simpa using this
  case round =>
    obtain ⟨j, a0, a1, a2, hj, rfl, rfl, hnum, hbel, hF, hA⟩ := hrel
    have hb := nums_lo hj hnum
    have Hn := Lib.hid hnum
    have hjs : j ≤ s.size := by
      rcases Nat.eq_zero_or_pos j with h | h
      · omega
      · have := (hnum.1 (j - 1) (by omega)).1
        have := Hl.out
        omega
    clear hnum
    have c0 := hA.cell 0
    have c1 := hA.cell 1
    have c2 := hA.cell 2
    have f0 := hF.cell 0
    have f1 := hF.cell 1
    have fr := hA.free
    have ff := hF.free
    simp only [List.getElem?_cons_zero, List.getElem?_cons_succ] at c0 c1 c2 f0 f1
    by_cases hlt : j < 10
    · by_cases hls : j < s.size
      · have hg := Hg.out j hls
        have Hgj := Lib.hid hg
        obtain ⟨x, hx⟩ : ∃ x, s[j] = x := ⟨_, rfl⟩
        by_cases h47 : j = 4 ∨ j = 7
        · have hp := Lib.hid (part_sep j h47)
          by_cases h45 : (x.toNat : Int) = 45
          · have h45t : ((x.toNat : Int) == 45) = true := by simpa using h45
            have h45f : ((x.toNat : Int) != 45) = false := by simpa using h45
            have hn := Lib.hid (nums_sep Hn.out h47 ⟨by rw [Hl.out]; exact hls, by rw [if_pos h47, hg, hx]; exact h45⟩)
            clear hg
            rcases h47 with h4 | h4
            · have n4 : ((j : Int) == 4) = true := by simp; omega
              clear h4
              go_wp2_with fail
              go_roundw
              case rel => exact ⟨j + 1, a0, a1, a2, by omega, by go_num, congrArg (Value.int IntKind.i64) hp.out, hn.out, hbel, hF, hA⟩
              case measure => simp [intOf]; omega
            · have n4 : ((j : Int) == 4) = false := by simp; omega
              have n7 : ((j : Int) == 7) = true := by simp; omega
              clear h4
              go_wp2_with fail
              go_roundw
              case rel => exact ⟨j + 1, a0, a1, a2, by omega, by go_num, congrArg (Value.int IntKind.i64) hp.out, hn.out, hbel, hF, hA⟩
              case measure => simp [intOf]; omega
          · have h45t : ((x.toNat : Int) == 45) = false := by simpa using h45
            have h45f : ((x.toNat : Int) != 45) = true := by simpa using h45
            have hr := Lib.hid (Civ.parse_bad Hn.out.1 hlt (fun hh => h45 (by have := hh.2; rw [if_pos h47, hg, hx] at this; exact this)))
            clear hg
            rcases h47 with h4 | h4
            · have n4 : ((j : Int) == 4) = true := by simp; omega
              clear h4
              go_wp2_with fail
              exact ret_tc (T := 39) rfl rfl rfl ((hF.set 0 (.int .i64 4)).set 1 (.int .i64 j)) agg_fault size_fault ⟨by rw [hr.out]; rfl, bel_set (bel_set hbel (Nat.le_refl _) _) (Nat.le_refl _) _⟩
            · have n4 : ((j : Int) == 4) = false := by simp; omega
              have n7 : ((j : Int) == 7) = true := by simp; omega
              clear h4
              go_wp2_with fail
              exact ret_tc (T := 39) rfl rfl rfl ((hF.set 0 (.int .i64 4)).set 1 (.int .i64 j)) agg_fault size_fault ⟨by rw [hr.out]; rfl, bel_set (bel_set hbel (Nat.le_refl _) _) (Nat.le_refl _) _⟩
        · have n4 : ((j : Int) == 4) = false := by simp; omega
          have n7 : ((j : Int) == 7) = false := by simp; omega
          by_cases hd : 48 ≤ (x.toNat : Int) ∧ (x.toNat : Int) ≤ 57
          · have h45t : ((x.toNat : Int) == 45) = false := by simp; omega
            have h45f : ((x.toNat : Int) != 45) = true := by simp; omega
            have hok : Civ.okAt xs j := ⟨by rw [Hl.out]; exact hls, by rw [if_neg h47, hg, hx]; exact hd⟩
            obtain ⟨d1, d2⟩ := hd
            rcases (by omega : j < 4 ∨ (j = 5 ∨ j = 6) ∨ 8 ≤ j) with h4 | h5 | h8
            · rw [show partAt j = 0 by unfold partAt; rw [if_neg (by omega), if_neg (by omega)]]
              have hn := Lib.hid (nums_0 Hn.out h4 hok (hg.trans (by rw [hx])))
              clear hg hok
              go_wp2_with fail
              go_region
              go_wp2_with fail
              go_roundw
              case rel => exact ⟨j + 1, 10 * a0 + (x.toNat - 48), a1, a2, by omega, by go_num, by rw [show partAt (j + 1) = 0 by unfold partAt; rw [if_neg (by omega), if_neg (by omega)]], hn.out, (bel_set hbel (p := ⟨w.heap.size + 1, 0, none⟩) (Nat.le_succ _) _).drew, (hF.far (p := ⟨w.heap.size + 1, 0, none⟩) (by simp) _).drew, (hA.set 0 _).drew⟩
              case measure => simp [intOf]; omega
            · rw [show partAt j = 1 by unfold partAt; rw [if_neg (by omega), if_pos (by omega)]]
              have hn := Lib.hid (nums_1 Hn.out h5 hok (hg.trans (by rw [hx])))
              clear hg hok
              go_wp2_with fail
              go_region
              go_wp2_with fail
              go_roundw
              case rel => exact ⟨j + 1, a0, 10 * a1 + (x.toNat - 48), a2, by omega, by go_num, by rw [show partAt (j + 1) = 1 by unfold partAt; rw [if_neg (by omega), if_pos (by omega)]], hn.out, (bel_set hbel (p := ⟨w.heap.size + 1, 1, none⟩) (Nat.le_succ _) _).drew, (hF.far (p := ⟨w.heap.size + 1, 1, none⟩) (by simp) _).drew, (hA.set 1 _).drew⟩
              case measure => simp [intOf]; omega
            · rw [show partAt j = 2 by unfold partAt; rw [if_pos (by omega)]]
              have hn := Lib.hid (nums_2 Hn.out h8 hok (hg.trans (by rw [hx])))
              clear hg hok
              go_wp2_with fail
              go_region
              go_wp2_with fail
              go_roundw
              case rel => exact ⟨j + 1, a0, a1, 10 * a2 + (x.toNat - 48), by omega, by go_num, by rw [show partAt (j + 1) = 2 by unfold partAt; rw [if_pos (by omega)]], hn.out, (bel_set hbel (p := ⟨w.heap.size + 1, 2, none⟩) (Nat.le_succ _) _).drew, (hF.far (p := ⟨w.heap.size + 1, 2, none⟩) (by simp) _).drew, (hA.set 2 _).drew⟩
              case measure => simp [intOf]; omega
          · have hr := Lib.hid (Civ.parse_bad Hn.out.1 hlt (fun hh => hd (by have := hh.2; rw [if_neg h47, hg, hx] at this; exact this)))
            clear hg
            rcases (by omega : (x.toNat : Int) = 45 ∨ ((x.toNat : Int) ≠ 45 ∧ (x.toNat : Int) < 48) ∨ ((x.toNat : Int) ≠ 45 ∧ ¬ (x.toNat : Int) < 48 ∧ 57 < (x.toNat : Int))) with d1 | ⟨d0, d1⟩ | ⟨d0, d1, d2⟩
            · have h45t : ((x.toNat : Int) == 45) = true := by simpa using d1
              clear hd d1
              go_wp2_with fail
              exact ret_tc (T := 39) rfl rfl rfl ((hF.set 0 (.int .i64 4)).set 1 (.int .i64 j)) agg_fault size_fault ⟨by rw [hr.out]; rfl, bel_set (bel_set hbel (Nat.le_refl _) _) (Nat.le_refl _) _⟩
            · have h45t : ((x.toNat : Int) == 45) = false := by simpa using d0
              have h45f : ((x.toNat : Int) != 45) = true := by simpa using d0
              clear hd
              go_wp2_with fail
              exact ret_tc (T := 39) rfl rfl rfl ((hF.set 0 (.int .i64 4)).set 1 (.int .i64 j)) agg_fault size_fault ⟨by rw [hr.out]; rfl, bel_set (bel_set hbel (Nat.le_refl _) _) (Nat.le_refl _) _⟩
            · have h45t : ((x.toNat : Int) == 45) = false := by simpa using d0
              have h45f : ((x.toNat : Int) != 45) = true := by simpa using d0
              clear hd
              go_wp2_with fail
              exact ret_tc (T := 39) rfl rfl rfl ((hF.set 0 (.int .i64 4)).set 1 (.int .i64 j)) agg_fault size_fault ⟨by rw [hr.out]; rfl, bel_set (bel_set hbel (Nat.le_refl _) _) (Nat.le_refl _) _⟩
      · have hjs2 : j = s.size := by omega
        have hr := Lib.hid (Civ.parse_bad Hn.out.1 hlt (fun hh => by have := hh.1; rw [Hl.out] at this; omega))
        clear hjs2
        go_wp2_with fail
        exact ret_tc (T := 39) rfl rfl rfl ((hF.set 0 (.int .i64 4)).set 1 (.int .i64 j)) agg_fault size_fault ⟨by rw [hr.out]; rfl, bel_set (bel_set hbel (Nat.le_refl _) _) (Nat.le_refl _) _⟩
    · obtain rfl : j = 10 := by omega
      by_cases hlong : 10 < s.size
      · have hr := Lib.hid (Civ.parse_long Hn.out.1 (by rw [Hl.out]; exact hlong))
        go_wp2_with fail
        exact ret_tc (T := 39) rfl rfl rfl ((hF.set 0 (.int .i64 4)).set 1 (.int .i64 10)) agg_fault size_fault ⟨by rw [hr.out]; rfl, bel_set (bel_set hbel (Nat.le_refl _) _) (Nat.le_refl _) _⟩
      · have hr := Lib.hid (Civ.parse_day Hn.out.1 (by rw [Hl.out]; exact hlong))
        have q0 : Hid (a0 = Civ.val xs 0 4) := Hn.out.2.1
        have q1 : Hid (a1 = Civ.val xs 5 2) := Hn.out.2.2.1
        have q2 : Hid (a2 = Civ.val xs 8 2) := Hn.out.2.2.2
        have hday := fun w => refDayF_calls a0 a1 a2 w (by omega) (by omega)
        obtain ⟨D, E, hDE⟩ : ∃ D E, Civ.dayF a0 a1 a2 = (D, E) := ⟨_, _, rfl⟩
        rw [hDE] at hday
        have HDE := Lib.hid hDE
        clear hDE
        go_wp2_with fail
        refine (hday _).mono ?_
        rintro e w1 ⟨rfl, rfl⟩
        go_wp2_with fail
        exact ret_tc (T := 39) rfl rfl rfl ((hF.set 0 (.int .i64 E)).set 1 (.int .i64 0)) agg_fault size_fault ⟨by rw [hr.out, ← q0.out, ← q1.out, ← q2.out, HDE.out]; rfl, bel_set (bel_set hbel (Nat.le_refl _) _) (Nat.le_refl _) _⟩
end Go.Proofs.Ytdjkdfgifajilaa
