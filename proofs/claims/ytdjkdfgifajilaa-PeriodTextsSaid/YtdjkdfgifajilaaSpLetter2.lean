/- The walk of the reader's letter that reads none. -/
import Derived.Test.YtdjkdfgifajilaaSpLetter
namespace Go.Proofs.Ytdjkdfgifajilaa
open Go.RowKit Go.Lib

set_option maxRecDepth 100000 in
set_option maxHeartbeats 2000000 in
theorem letter_off (R : Nat) (s lf : ByteArray) (at_ : Int) (_ : s.size ≤ 9223372036854775807) (_ : lf.size ≤ 9223372036854775807) (w : World) (hR : RdS w R s at_ false)  :
    Calls Try.prog 57 #[.pointer (some ⟨R, 0, none⟩), .string lf] w (DgPost R s at_ false (.int .u8 0) w) := by
  go_enter Try.func57, Try.ntmps57
  go_wp2_with fail
  go_loopw [8] (fun i wr => ∃ (a : Nat), a ≤ lf.size ∧ i = .int .i64 a ∧ RdS wr R s at_ false ∧ w.grownBy wr (some R)) (fun i _ => lf.size - (intOf i).toNat)
  case atStart => exact ⟨0, by omega, rfl, hR, grown_of_below (Below.refl _ _) _⟩
  case round =>
    obtain ⟨a, ha, rfl, hRr, hgr⟩ := hrel
    have c0 : wr.cell? ⟨R, 0, none⟩ = some (.string s) := Block.cell hRr 0
    have c1 : wr.cell? ⟨R, 1, none⟩ = some (.int .i64 at_) := Block.cell hRr 1
    have c2 : wr.cell? ⟨R, 2, none⟩ = some (.bool false) := Block.cell hRr 2
    have f2 : wr.frozen? ⟨R, 2, none⟩ = false := Block.free hRr 2
    by_cases hlt : a < lf.size
    · have q0 : (0 : Int) ≤ (a : Int) := by omega
      go_wp2_with fail
      go_quiet (fail)
      go_wp2_with fail
      go_roundw
      case rel => exact ⟨a + 1, by omega, by go_num, hRr, grown_drewN hgr _⟩
      case measure => simp [intOf]; omega
    · obtain rfl : a = lf.size := by omega
      go_wp2_with fail
      go_ret
      exact ⟨rfl, Block.set hRr 2 (.bool false), grown_set hgr rfl _⟩
set_option maxRecDepth 100000 in
set_option maxHeartbeats 2000000 in
theorem letter_end (R : Nat) (s lf : ByteArray)  (_ : s.size ≤ 9223372036854775807) (_ : lf.size ≤ 9223372036854775807) (w : World) (hR : RdS w R s (s.size : Int) true)  :
    Calls Try.prog 57 #[.pointer (some ⟨R, 0, none⟩), .string lf] w (DgPost R s (s.size : Int) false (.int .u8 0) w) := by
  go_enter Try.func57, Try.ntmps57
  go_wp2_with fail
  go_loopw [8] (fun i wr => ∃ (a : Nat), a ≤ lf.size ∧ i = .int .i64 a ∧ RdS wr R s (s.size : Int) true ∧ w.grownBy wr (some R)) (fun i _ => lf.size - (intOf i).toNat)
  case atStart => exact ⟨0, by omega, rfl, hR, grown_of_below (Below.refl _ _) _⟩
  case round =>
    obtain ⟨a, ha, rfl, hRr, hgr⟩ := hrel
    have c0 : wr.cell? ⟨R, 0, none⟩ = some (.string s) := Block.cell hRr 0
    have c1 : wr.cell? ⟨R, 1, none⟩ = some (.int .i64 (s.size : Int)) := Block.cell hRr 1
    have c2 : wr.cell? ⟨R, 2, none⟩ = some (.bool true) := Block.cell hRr 2
    have f2 : wr.frozen? ⟨R, 2, none⟩ = false := Block.free hRr 2
    by_cases hlt : a < lf.size
    · have q0 : (0 : Int) ≤ (a : Int) := by omega
      go_wp2_with fail
      go_quiet (fail)
      go_wp2_with fail
      go_roundw
      case rel => exact ⟨a + 1, by omega, by go_num, hRr, grown_drewN hgr _⟩
      case measure => simp [intOf]; omega
    · obtain rfl : a = lf.size := by omega
      go_wp2_with fail
      go_ret
      exact ⟨rfl, Block.set hRr 2 (.bool false), grown_set hgr rfl _⟩
set_option maxRecDepth 100000 in
set_option maxHeartbeats 2000000 in
theorem letter_no (R : Nat) (s lf : ByteArray) (j : Nat) (hj : j < s.size) (_ : s.size ≤ 9223372036854775807) (_ : lf.size ≤ 9223372036854775807) (w : World) (hR : RdS w R s (j : Int) true) (hne : ∀ i, (h : i < lf.size) → lf[i].toNat ≠ s[j].toNat) :
    Calls Try.prog 57 #[.pointer (some ⟨R, 0, none⟩), .string lf] w (DgPost R s (j : Int) false (.int .u8 0) w) := by
  have Hn := Lib.hid hne
  clear hne
  go_enter Try.func57, Try.ntmps57
  go_wp2_with fail
  go_loopw [8] (fun i wr => ∃ (a : Nat), a ≤ lf.size ∧ i = .int .i64 a ∧ RdS wr R s (j : Int) true ∧ w.grownBy wr (some R)) (fun i _ => lf.size - (intOf i).toNat)
  case atStart => exact ⟨0, by omega, rfl, hR, grown_of_below (Below.refl _ _) _⟩
  case round =>
    obtain ⟨a, ha, rfl, hRr, hgr⟩ := hrel
    have c0 : wr.cell? ⟨R, 0, none⟩ = some (.string s) := Block.cell hRr 0
    have c1 : wr.cell? ⟨R, 1, none⟩ = some (.int .i64 (j : Int)) := Block.cell hRr 1
    have c2 : wr.cell? ⟨R, 2, none⟩ = some (.bool true) := Block.cell hRr 2
    have f2 : wr.frozen? ⟨R, 2, none⟩ = false := Block.free hRr 2
    by_cases hlt : a < lf.size
    · have q0 : (0 : Int) ≤ (a : Int) := by omega
      have t : ((s[j].toNat : Int) == (lf[a].toNat : Int)) = false := by have := Hn.out a hlt; simp; omega
      go_wp2_with fail
      go_quiet (fail)
      go_wp2_with fail
      go_roundw
      case rel => exact ⟨a + 1, by omega, by go_num, hRr, grown_drewN hgr _⟩
      case measure => simp [intOf]; omega
    · obtain rfl : a = lf.size := by omega
      go_wp2_with fail
      go_ret
      exact ⟨rfl, Block.set hRr 2 (.bool false), grown_set hgr rfl _⟩
end Go.Proofs.Ytdjkdfgifajilaa
