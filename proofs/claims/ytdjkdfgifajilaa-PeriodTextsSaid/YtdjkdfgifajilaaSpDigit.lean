/- The walk of the reader's digit. -/
import Derived.Test.YtdjkdfgifajilaaSpOf
import Derived.Test.YtdjkdfgifajilaaCivParse
namespace Go.Proofs.Ytdjkdfgifajilaa
open Go.RowKit Go.Lib

/-- The reader of a text. -/
def RdS (w : World) (R : Nat) (s : ByteArray) (at_ : Int) (fine : Bool) : Prop := Block w R 61 [.string s, .int .i64 at_, .bool fine]
theorem grown_of_below {w w' : World} (h : Below w.heap.size w w') (row : Option Nat) : w.grownBy w' row := ⟨h.os, h.tape, h.output, h.size, fun k hk _ => h.block k hk⟩
theorem grown_set {w a : World} {g : Nat} {p : Addr} (h : w.grownBy a (some g)) (hp : p.block = g) (u : Value) : w.grownBy (a.setCell p u) (some g) :=
  ⟨h.os, h.tape, h.output, by simpa [World.setCell] using h.size, fun k hk hne => by rw [Below.heap_setCell a p u k (fun e => hne (by rw [e, hp]))]; exact h.block k hk hne⟩
theorem grown_drewN {w a : World} {r : Option Nat} (h : w.grownBy a r) (k : Nat) : w.grownBy (a.drewN k) r := ⟨h.os, h.tape, h.output, h.size, h.block⟩
/-- What a call of the reader leaves. -/
def DgPost (R : Nat) (s : ByteArray) (at_ : Int) (fine : Bool) (v : Value) (w : World) (e : Ending) (w' : World) : Prop := e = .returned v ∧ RdS w' R s at_ fine ∧ w.grownBy w' (some R)
theorem dg_off {w : World} {R : Nat} {s : ByteArray} {at_ : Int} {fine : Bool} (hR : RdS w R s at_ fine) (k : Nat) (v : Value) : DgPost R s at_ false v w (.returned v) ((w.drewN k).setCell ⟨R, 2, none⟩ (.bool false)) :=
  ⟨rfl, Block.set (w := w.drewN k) hR 2 (.bool false), grown_set (grown_of_below (bel_drewN (Below.refl _ _) k) _) rfl _⟩
set_option maxRecDepth 100000 in
set_option maxHeartbeats 2000000 in
theorem digit_not (R : Nat) (s : ByteArray) (at_ low high : Int) (w : World) (hR : RdS w R s at_ false) : Calls Try.prog 56 #[.pointer (some ⟨R, 0, none⟩), .int .u8 low, .int .u8 high] w (DgPost R s at_ false (.int .i64 0) w) := by
  have f2 := Block.free hR 2
  have c0 : w.cell? ⟨R, 0, none⟩ = some (.string s) := Block.cell hR 0
  have c1 : w.cell? ⟨R, 1, none⟩ = some (.int .i64 at_) := Block.cell hR 1
  have c2 : w.cell? ⟨R, 2, none⟩ = some (.bool false) := Block.cell hR 2
  go_enter Try.func56, Try.ntmps56
  go_wp2_with fail
  go_quiet (fail)
  go_wp2_with fail
  go_ret
  exact dg_off hR _ _
set_option maxRecDepth 100000 in
set_option maxHeartbeats 2000000 in
theorem digit_end (R : Nat) (s : ByteArray) (low high : Int) (w : World) (hR : RdS w R s s.size true) : Calls Try.prog 56 #[.pointer (some ⟨R, 0, none⟩), .int .u8 low, .int .u8 high] w (DgPost R s s.size false (.int .i64 0) w) := by
  have f2 := Block.free hR 2
  have c0 : w.cell? ⟨R, 0, none⟩ = some (.string s) := Block.cell hR 0
  have c1 : w.cell? ⟨R, 1, none⟩ = some (.int .i64 (s.size : Int)) := Block.cell hR 1
  have c2 : w.cell? ⟨R, 2, none⟩ = some (.bool true) := Block.cell hR 2
  go_enter Try.func56, Try.ntmps56
  go_wp2_with fail
  go_quiet (fail)
  go_wp2_with fail
  go_ret
  exact dg_off hR _ _
set_option maxRecDepth 100000 in
set_option maxHeartbeats 2000000 in
theorem digit_low (R : Nat) (s : ByteArray) (j : Nat) (hj : j < s.size) (_ : s.size ≤ 9223372036854775807) (low high : Int) (w : World) (hR : RdS w R s j true) (hc : (s[j].toNat : Int) < low) : Calls Try.prog 56 #[.pointer (some ⟨R, 0, none⟩), .int .u8 low, .int .u8 high] w (DgPost R s j false (.int .i64 0) w) := by
  have f2 := Block.free hR 2
  have c0 : w.cell? ⟨R, 0, none⟩ = some (.string s) := Block.cell hR 0
  have c1 : w.cell? ⟨R, 1, none⟩ = some (.int .i64 (j : Int)) := Block.cell hR 1
  have c2 : w.cell? ⟨R, 2, none⟩ = some (.bool true) := Block.cell hR 2
  have hne : ((j : Int) == (s.size : Int)) = false := by simp; omega
  go_enter Try.func56, Try.ntmps56
  go_wp2_with fail
  go_quiet (fail)
  go_wp2_with fail
  go_ret
  exact dg_off hR _ _
set_option maxRecDepth 100000 in
set_option maxHeartbeats 2000000 in
theorem digit_high (R : Nat) (s : ByteArray) (j : Nat) (hj : j < s.size) (_ : s.size ≤ 9223372036854775807) (low high : Int) (w : World) (hR : RdS w R s j true) (hl : low ≤ (s[j].toNat : Int)) (hc : high < (s[j].toNat : Int)) : Calls Try.prog 56 #[.pointer (some ⟨R, 0, none⟩), .int .u8 low, .int .u8 high] w (DgPost R s j false (.int .i64 0) w) := by
  have f2 := Block.free hR 2
  have c0 : w.cell? ⟨R, 0, none⟩ = some (.string s) := Block.cell hR 0
  have c1 : w.cell? ⟨R, 1, none⟩ = some (.int .i64 (j : Int)) := Block.cell hR 1
  have c2 : w.cell? ⟨R, 2, none⟩ = some (.bool true) := Block.cell hR 2
  have hne : ((j : Int) == (s.size : Int)) = false := by simp; omega
  have hd : decide ((s[j].toNat : Int) < low) = false := decide_eq_false (by omega)
  go_enter Try.func56, Try.ntmps56
  go_wp2_with fail
  go_quiet (fail)
  go_wp2_with fail
  go_ret
  exact dg_off hR _ _
set_option maxRecDepth 100000 in
set_option maxHeartbeats 2000000 in
theorem digit_ok (R : Nat) (s : ByteArray) (j : Nat) (hj : j < s.size) (_ : s.size ≤ 9223372036854775807) (low high : Int) (w : World) (hR : RdS w R s j true) (h48 : 48 ≤ low) (hl : low ≤ (s[j].toNat : Int)) (hc : (s[j].toNat : Int) ≤ high) : Calls Try.prog 56 #[.pointer (some ⟨R, 0, none⟩), .int .u8 low, .int .u8 high] w (DgPost R s (j + 1) true (.int .i64 ((s[j].toNat : Int) - 48)) w) := by
  have f2 := Block.free hR 2
  have c0 : w.cell? ⟨R, 0, none⟩ = some (.string s) := Block.cell hR 0
  have c1 : w.cell? ⟨R, 1, none⟩ = some (.int .i64 (j : Int)) := Block.cell hR 1
  have c2 : w.cell? ⟨R, 2, none⟩ = some (.bool true) := Block.cell hR 2
  have f1 := Block.free hR 1
  have hne : ((j : Int) == (s.size : Int)) = false := by simp; omega
  have hd : decide ((s[j].toNat : Int) < low) = false := decide_eq_false (by omega)
  have hd2 : decide (high < (s[j].toNat : Int)) = false := decide_eq_false (by omega)
  have hset := fun k => Block.set (w := w.drewN k) hR 1 (.int .i64 ((j : Int) + 1))
  have e0 := fun k => (hset k).cell 0
  have e1 := fun k => (hset k).cell 1
  simp only [List.set_cons_succ, List.set_cons_zero, List.getElem?_cons_zero, List.getElem?_cons_succ] at e0 e1
  go_enter Try.func56, Try.ntmps56
  go_wp2_with fail
  go_quiet (fail)
  go_wp2_with fail
  go_quiet (fail)
  go_wp2_with fail
  go_ret
  refine ⟨?_, hset _, grown_drewN (grown_set (grown_of_below (bel_drewN (Below.refl _ _) _) _) rfl _) _⟩
  have h255 : (s[j].toNat : Int) < 256 := by have := s[j].toNat_lt; omega
  show Ending.returned (.int .i64 (((s[j].toNat : Int) - 48) % 256)) = _
  rw [Int.emod_eq_of_lt (by omega) (by omega)]
end Go.Proofs.Ytdjkdfgifajilaa
