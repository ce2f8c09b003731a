/- Lemmas for it; no condition: TOnce. -/
import Derived.Test.YthmhdaefkhcenaaGreatDoorZ08
import Derived.Test.YthmhdaefkhcenaaGreatDoorZ14
import Derived.Laws.LoneSync
import Derived.Defers
import Derived.RegionCalls
set_option linter.unusedVariables false
set_option linter.unusedSimpArgs false
namespace Go.Proofs.YthmhdaefkhcenaaGreatDoor
set_option maxRecDepth 100000
set_option maxHeartbeats 8000000
open Go.RowKit

theorem s_disable (w : World) : (callFunc 455 #[]).run Tryz.prog w = .ok (.value (.tuple #[])) w := run_call_mark0 Tryz.func455 (by kernel_rfl) (by kernel_rfl) (by kernel_rfl) .disable (by kernel_rfl) w
theorem s_enable (w : World) : (callFunc 457 #[]).run Tryz.prog w = .ok (.value (.tuple #[])) w := run_call_mark0 Tryz.func457 (by kernel_rfl) (by kernel_rfl) (by kernel_rfl) .enable (by kernel_rfl) w
theorem s_acquire (a : Addr) (w : World) : (callFunc 458 #[.pointer (some a)]).run Tryz.prog w = .ok (.value (.tuple #[])) w := run_call_marked Tryz.func458 (by kernel_rfl) (by kernel_rfl) (by kernel_rfl) .acquire (by kernel_rfl) a w
theorem s_release (a : Addr) (w : World) : (callFunc 460 #[.pointer (some a)]).run Tryz.prog w = .ok (.value (.tuple #[])) w := run_call_marked Tryz.func460 (by kernel_rfl) (by kernel_rfl) (by kernel_rfl) .releaseMerge (by kernel_rfl) a w
theorem s_load (a : Addr) (x : Int) (w : World) (hc : w.cell? a = some (.int .u32 x)) : (callFunc 402 #[.pointer (some a)]).run Tryz.prog w = .ok (.value (.int .u32 x)) w := run_call_load (P := Tryz.prog) Tryz.func402 (by kernel_rfl) (by kernel_rfl) (by kernel_rfl) .u32 (by kernel_rfl) hc
theorem store_deferred (a : Addr) (x : Value) (u : FrameMode) (w : World) (hc : w.cell? a = some x) (hz : w.frozen? a = false) :
    CallsD Tryz.prog 405 #[.pointer (some a), .bool true] u w fun e u' w' => u' = u ∧ (e = .returned (.tuple #[]) ∧ w' = w.drew.setCell a (.int .u32 1)) := by
  have hc' : w.drew.cell? a = some x := by go_simp
  have hz' : w.drew.frozen? a = false := by go_simp
  have hst := run_call_store (P := Tryz.prog) Tryz.func433 (by kernel_rfl) (by kernel_rfl) (by kernel_rfl) (by kernel_rfl) (k := .u32) (y := 1) hc' hz'
  go_enter_d Tryz.func405, Tryz.ntmps405
  go_wp2
  go_region_calls
  all_goals (go_end0; exact ⟨rfl, rfl⟩)
theorem unlock_inner (a : Addr) (w : World) (hc : w.cell? a = some (.int .i32 1)) (hz : w.frozen? a = false) :
    Calls Tryz.prog 432 #[.pointer (some a)] w fun e w' => (e = .returned (.tuple #[]) ∧ w' = w.setCell a (.int .i32 0)) := by
  have hd := s_disable
  have he := s_enable
  have hr := s_release
  have hadd := run_call_add (P := Tryz.prog) Tryz.func461 (by kernel_rfl) (by kernel_rfl) (by kernel_rfl) .i32 (by kernel_rfl) (y := -1) (s := 0) hc hz (by simp [go_sem]; rfl)
  have hcv := run_convert_to_unsafe (P := Tryz.prog) (src := 638) (dst := 281) Tryz.underlying638 Tryz.underlying281 (by kernel_rfl) hc
  go_enter Tryz.func432, Tryz.ntmps432
  go_wp2
  first | go_end0 | (simp only [Exit.inBlock, Exit.then]; refine bodyPost_ret (results_none rfl _ _ _) rfl ?_) | refine bodyPost_ret (results_none rfl _ _ _) rfl ?_
  exact ⟨rfl, rfl⟩
theorem lock_inner (a : Addr) (w : World) (hc : w.cell? a = some (.int .i32 0)) (hz : w.frozen? a = false) :
    Calls Tryz.prog 431 #[.pointer (some a)] w fun e w' => e = .returned (.tuple #[]) ∧ w' = w.setCell a (.int .i32 1) := by
  have hd := s_disable
  have he := s_enable
  have ha := s_acquire
  have hcas := run_call_cas_hit (P := Tryz.prog) Tryz.func456 (by kernel_rfl) (by kernel_rfl) (by kernel_rfl) .i32 (by kernel_rfl) (y := 1) hc hz
  have hc' : (w.setCell a (.int .i32 1)).cell? a = some (.int .i32 1) := World.cell?_setCell_same w a _ hc
  have hcv := run_convert_to_unsafe (P := Tryz.prog) (src := 638) (dst := 281) Tryz.underlying638 Tryz.underlying281 (by kernel_rfl) hc'
  go_enter Tryz.func431, Tryz.ntmps431
  go_wp2
  first | go_end0 | (simp only [Exit.inBlock, Exit.then]; refine bodyPost_ret (results_none rfl _ _ _) rfl ?_) | refine bodyPost_ret (results_none rfl _ _ _) rfl ?_
  exact ⟨rfl, rfl⟩
theorem unlock_deferred (o i : Nat) (u : FrameMode) (w : World) (hc : w.cell? ⟨o, i, none⟩ = some (.int .i32 1)) (hz : w.frozen? ⟨o, i, none⟩ = false) :
    CallsD Tryz.prog 404 #[.pointer (some ⟨o, i, none⟩)] u w fun e u' w' => u' = u ∧ (e = .returned (.tuple #[]) ∧ w' = w.setCell ⟨o, i, none⟩ (.int .i32 0)) := by
  go_enter_d Tryz.func404, Tryz.ntmps404
  go_wp2_with (refine (unlock_inner ⟨o, i, none⟩ w hc hz).mono ?_; rintro e w' ⟨rfl, rfl⟩)
  go_end0
  exact ⟨rfl, rfl⟩
theorem lock_free (o i : Nat) (w : World) (hc : w.cell? ⟨o, i, none⟩ = some (.int .i32 0)) (hz : w.frozen? ⟨o, i, none⟩ = false) :
    Calls Tryz.prog 403 #[.pointer (some ⟨o, i, none⟩)] w fun e w' => e = .returned (.tuple #[]) ∧ w' = w.setCell ⟨o, i, none⟩ (.int .i32 1) := by
  go_enter Tryz.func403, Tryz.ntmps403
  go_wp2_with (refine (lock_inner ⟨o, i, none⟩ w hc hz).mono ?_; rintro e w' ⟨rfl, rfl⟩)
  go_end0
  exact ⟨rfl, rfl⟩
theorem bload (o i : Nat) (w : World) (h : w.cell? ⟨o, i, none⟩ = some (.int .u32 0)) : Calls Tryz.prog 351 #[.pointer (some ⟨o, i, none⟩)] w fun e w' => e = .returned (.bool false) ∧ w' = w := by
  have hl := s_load ⟨o, i, none⟩ 0 w h
  go_enter Tryz.func351, Tryz.ntmps351
  go_wp2
  go_returns
  exact ⟨by rfl, rfl⟩
theorem slow_first (o : Nat) (p q : Addr) (w : World) (h : Block w o 487 [.int .u32 0, .int .i32 0, .int .u32 0]) (R : World → Prop)
    (hF : Calls Tryz.prog 312 #[.pointer (some p), .pointer (some q)] (w.setCell ⟨o, 1, none⟩ (.int .i32 1)) fun e w' => e = .returned (.tuple #[]) ∧ R w' ∧ Block w' o 487 [.int .u32 0, .int .i32 1, .int .u32 0]) :
    Calls Tryz.prog 352 #[.pointer (some ⟨o, 0, none⟩), .func (.func 312) #[] #[.pointer (some p), .pointer (some q)]] w fun e w' => e = .returned (.tuple #[]) ∧ ∃ w1, R w1 ∧ Block w1 o 487 [.int .u32 0, .int .i32 1, .int .u32 0] ∧ w' = (w1.drew.setCell ⟨o, 0, none⟩ (.int .u32 1)).setCell ⟨o, 1, none⟩ (.int .i32 0) := by
  obtain ⟨kl, kf, k0, k1, k2⟩ := h.c3
  have hb := h.set 1 (.int .i32 1)
  have hl := bload o 0 (w.setCell ⟨o, 1, none⟩ (.int .i32 1)) (hb.cell 0)
  go_enter_defers Tryz.func352, Tryz.ntmps352
  go_wp2_with (go_at_call 403; refine (lock_free o 1 _ (by go_simp) (by go_simp)).mono ?_; rintro e w' ⟨rfl, rfl⟩)
  refine hl.mono ?_
  rintro e w' ⟨rfl, rfl⟩
  go_wp2_with fail
  refine hF.mono ?_
  rintro e w1 ⟨rfl, hR, hB⟩
  go_wp2_with fail
  refine leaves_cons (f := 405) (args := #[.pointer (some ⟨o, 0, none⟩), .bool true]) (by simp) (by simp [go_sem]) ?_
  refine (store_deferred ⟨o, 0, none⟩ (.int .u32 0) .returning _ (hB.cell 0) (hB.free 0)).mono ?_
  rintro e u' w'' ⟨rfl, rfl, rfl⟩
  refine leaves_cons (f := 404) (args := #[.pointer (some ⟨o, 1, none⟩)]) (by simp [settle]) (by simp [go_sem]) ?_
  refine (unlock_deferred o 1 _ _ ?_ ?_).mono ?_
  · exact (hB.drew.set 0 (.int .u32 1)).cell 1
  · exact (hB.drew.set 0 (.int .u32 1)).free 1
  rintro e u' w'' ⟨rfl, rfl, rfl⟩
  simp [Leaves, settle, results, Tryz.f352]
  exact ⟨w1, hR, hB, rfl⟩
theorem do_first (o : Nat) (p q : Addr) (w : World) (h : Block w o 487 [.int .u32 0, .int .i32 0, .int .u32 0]) (R : World → Prop)
    (hF : Calls Tryz.prog 312 #[.pointer (some p), .pointer (some q)] (w.setCell ⟨o, 1, none⟩ (.int .i32 1)) fun e w' => e = .returned (.tuple #[]) ∧ R w' ∧ Block w' o 487 [.int .u32 0, .int .i32 1, .int .u32 0]) :
    Calls Tryz.prog 311 #[.pointer (some ⟨o, 0, none⟩), .func (.func 312) #[] #[.pointer (some p), .pointer (some q)]] w fun e w' => e = .returned (.tuple #[]) ∧ ∃ w1, R w1 ∧ Block w1 o 487 [.int .u32 0, .int .i32 1, .int .u32 0] ∧ w' = (w1.drew.setCell ⟨o, 0, none⟩ (.int .u32 1)).setCell ⟨o, 1, none⟩ (.int .i32 0) := by
  go_enter Tryz.func311, Tryz.ntmps311
  go_wp2_with fail
  refine (bload o 0 w (h.cell 0)).mono ?_
  rintro e w' ⟨rfl, rfl⟩
  go_wp2_with fail
  refine (slow_first o p q w' h R hF).mono ?_
  rintro e w2 ⟨rfl, hw⟩
  go_wp2_with fail
  go_end0
  exact ⟨rfl, hw⟩
end Go.Proofs.YthmhdaefkhcenaaGreatDoor
