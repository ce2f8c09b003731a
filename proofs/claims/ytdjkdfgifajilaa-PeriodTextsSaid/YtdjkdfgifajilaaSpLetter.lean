/- The walk of the reader's letter. -/
import Derived.Test.YtdjkdfgifajilaaSpDigit
namespace Go.Proofs.Ytdjkdfgifajilaa
open Go.RowKit Go.Lib

set_option maxRecDepth 100000 in
set_option maxHeartbeats 2000000 in
theorem letter_ok (R : Nat) (s lf : ByteArray) (j i0 : Nat) (hj : j < s.size) (_ : s.size ≤ 9223372036854775807) (_ : lf.size ≤ 9223372036854775807) (hi : i0 < lf.size) (w : World) (hR : RdS w R s j true)
    (heq : lf[i0].toNat = s[j].toNat) (hne : ∀ i, (h : i < i0) → lf[i].toNat ≠ s[j].toNat) :
    Calls Try.prog 57 #[.pointer (some ⟨R, 0, none⟩), .string lf] w (DgPost R s (j + 1) true (.int .u8 (s[j].toNat : Int)) w) := by
  have Hn := Lib.hid hne
  clear hne
  go_enter Try.func57, Try.ntmps57
  go_wp2_with fail
  go_loopw [8] (fun i wr => ∃ (a : Nat), a ≤ i0 ∧ i = .int .i64 a ∧ RdS wr R s j true ∧ w.grownBy wr (some R)) (fun i _ => i0 + 1 - (intOf i).toNat)
  case atStart => exact ⟨0, by omega, rfl, hR, grown_of_below (Below.refl _ _) _⟩
  case round =>
    obtain ⟨a, ha, rfl, hRr, hgr⟩ := hrel
    have c0 : wr.cell? ⟨R, 0, none⟩ = some (.string s) := Block.cell hRr 0
    have c1 : wr.cell? ⟨R, 1, none⟩ = some (.int .i64 (j : Int)) := Block.cell hRr 1
    have c2 : wr.cell? ⟨R, 2, none⟩ = some (.bool true) := Block.cell hRr 2
    have f1 : wr.frozen? ⟨R, 1, none⟩ = false := Block.free hRr 1
    have hal : a < lf.size := by omega
    by_cases hlt : a < i0
    · have t : ((s[j].toNat : Int) == (lf[a].toNat : Int)) = false := by have := Hn.out a hlt; simp; omega
      clear heq
      go_wp2_with fail
      go_quiet (fail)
      go_wp2_with fail
      go_roundw
      case rel => exact ⟨a + 1, by omega, by go_num, hRr, grown_drewN hgr _⟩
      case measure => simp [intOf]; omega
    · obtain rfl : a = i0 := by omega
      have t : ((s[j].toNat : Int) == (lf[a].toNat : Int)) = true := by rw [heq]; simp
      go_wp2_with fail
      go_quiet (fail)
      go_wp2_with fail
      go_ret
      refine ⟨?_, Block.set (w := wr.drewN _) hRr 1 (.int .i64 ((j : Int) + 1)), grown_set (grown_drewN hgr _) rfl _⟩
      rw [← heq]
      rfl
end Go.Proofs.Ytdjkdfgifajilaa
