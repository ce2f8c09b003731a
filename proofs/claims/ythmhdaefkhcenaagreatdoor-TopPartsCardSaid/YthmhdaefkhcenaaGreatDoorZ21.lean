/- Lemmas for it; no condition: TSum. -/
import Derived.Test.YthmhdaefkhcenaaGreatDoorZ08
import Derived.Test.YthmhdaefkhcenaaGreatDoorZ13
import Derived.Test.YthmhdaefkhcenaaGreatDoorZ14
import Derived.Shelf.Spec.BitsCarry
set_option linter.unusedVariables false
set_option linter.unusedSimpArgs false
namespace Go.Proofs.YthmhdaefkhcenaaGreatDoor
set_option maxRecDepth 100000
set_option maxHeartbeats 8000000
open Go.RowKit Go.Lib

theorem add64_run (x y c : Nat) (hc : c ≤ 1) (w : World) :
    (callFunc 134 #[.int .u64 x, .int .u64 y, .int .u64 c]).run Tryz.prog w = .ok (.value (.tuple #[.int .u64 (((x + y + c) % 18446744073709551616 : Nat) : Int), .int .u64 (((x + y + c) / 18446744073709551616 : Nat) : Int)])) w := by
  rw [run_callFunc_extern Tryz.func134 (by kernel_rfl) (by kernel_rfl) (by kernel_rfl) (e := add64Entry) (by kernel_rfl), run_add64 x y c (by omega) (by omega) (by omega) (by omega)]
  simp only [Result.andThen]
  congr 5 <;> omega
theorem sub64_run (x y b : Nat) (hb : b ≤ 1) (w : World) :
    (callFunc 133 #[.int .u64 x, .int .u64 y, .int .u64 b]).run Tryz.prog w = .ok (.value (.tuple #[.int .u64 (((x + 18446744073709551616 - y - b) % 18446744073709551616 : Nat) : Int), .int .u64 ((if x < y + b then 1 else 0 : Nat) : Int)])) w := by
  rw [run_callFunc_extern Tryz.func133 (by kernel_rfl) (by kernel_rfl) (by kernel_rfl) (e := sub64Entry) (by kernel_rfl), run_sub64 x y b hb]
  rfl
theorem add64_small (x y : Nat) (hx : x ≤ 4611686018427387904) (hy : y ≤ 4611686018427387904) (w : World) :
    (callFunc 134 #[.int .u64 x, .int .u64 y, .int .u64 0]).run Tryz.prog w = .ok (.value (.tuple #[.int .u64 (x + y), .int .u64 0])) w := by
  have h := add64_run x y 0 (by omega) w
  rw [show (x + y + 0) % 18446744073709551616 = x + y by omega, show (x + y + 0) / 18446744073709551616 = 0 by omega] at h
  simpa using h
theorem sub64_small (x y : Nat) (hx : x ≤ 4611686018427387904) (hy : y ≤ x) (w : World) :
    (callFunc 133 #[.int .u64 x, .int .u64 y, .int .u64 0]).run Tryz.prog w = .ok (.value (.tuple #[.int .u64 (x - y), .int .u64 0])) w := by
  have h := sub64_run x y 0 (by omega) w
  rw [show (x + 18446744073709551616 - y - 0) % 18446744073709551616 = x - y by omega, if_neg (by omega)] at h
  rw [show ((x - y : Nat) : Int) = (x : Int) - y by omega] at h
  simpa using h
theorem shr63 (n : Nat) (hn : n ≤ 4611686018427387904) : (n : Int) / 9223372036854775808 = 0 := by omega
theorem add64_zero (w : World) : (callFunc 134 #[.int .u64 0, .int .u64 0, .int .u64 0]).run Tryz.prog w = .ok (.value (.tuple #[.int .u64 0, .int .u64 0])) w := by
  simpa using add64_small 0 0 (by omega) (by omega) w
theorem sub64_zero (w : World) : (callFunc 133 #[.int .u64 0, .int .u64 0, .int .u64 0]).run Tryz.prog w = .ok (.value (.tuple #[.int .u64 0, .int .u64 0])) w := by
  simpa using sub64_small 0 0 (by omega) (by omega) w
theorem sum_add (b o : Nat) (s n : Nat) (hs : s ≤ 4611686018427387904) (hn : n ≤ 4611686018427387904) (w : World) (h0 : w.cell? ⟨b, o, none⟩ = some (.int .u64 0)) (h1 : w.cell? ⟨b, o + 1, none⟩ = some (.int .u64 s)) (f0 : w.frozen? ⟨b, o, none⟩ = false) (f1 : w.frozen? ⟨b, o + 1, none⟩ = false) :
    Calls Tryz.prog 68 #[.pointer (some ⟨b, o, none⟩), .int .i64 n, .bool false] w fun e w' => e = .returned (.tuple #[]) ∧ w' = (w.setCell ⟨b, o + 1, none⟩ (.int .u64 (s + n : Nat))).setCell ⟨b, o, none⟩ (.int .u64 0) := by
  have ha := add64_small s n hs hn
  have hy := add64_zero
  have hc : (n : Int) % 18446744073709551616 = n := by omega
  have hz := shr63 n hn
  go_enter Tryz.func68, Tryz.ntmps68
  go_wp2
  go_end0
  exact ⟨rfl, by simp⟩
theorem sum_sub (b o : Nat) (s n : Nat) (hs : s ≤ 4611686018427387904) (hn : n ≤ s) (w : World) (h0 : w.cell? ⟨b, o, none⟩ = some (.int .u64 0)) (h1 : w.cell? ⟨b, o + 1, none⟩ = some (.int .u64 s)) (f0 : w.frozen? ⟨b, o, none⟩ = false) (f1 : w.frozen? ⟨b, o + 1, none⟩ = false) :
    Calls Tryz.prog 68 #[.pointer (some ⟨b, o, none⟩), .int .i64 n, .bool true] w fun e w' => e = .returned (.tuple #[]) ∧ w' = (w.setCell ⟨b, o + 1, none⟩ (.int .u64 (s - n : Nat))).setCell ⟨b, o, none⟩ (.int .u64 0) := by
  have ha := sub64_small s n hs hn
  have hy := sub64_zero
  have hc : (n : Int) % 18446744073709551616 = n := by omega
  have hz := shr63 n (by omega)
  have hd : ((s - n : Nat) : Int) = (s : Int) - n := by omega
  rw [hd]
  clear hd
  go_enter Tryz.func68, Tryz.ntmps68
  go_wp2
  go_returns
  exact ⟨rfl, rfl⟩
theorem sum_int (s : Nat) (hs : s ≤ 4611686018427387904) (w : World) :
    Calls Tryz.prog 69 #[.agg #[.int .u64 0, .int .u64 s]] w fun e w' => e = .returned (.tuple #[.int .i64 s, .bool true]) ∧ Below w.heap.size w w' := by
  have hz := shr63 s hs
  have hw : wrap64 (s : Int) = s := by unfold wrap64; omega
  go_enter Tryz.func69, Tryz.ntmps69
  go_wp2
  refine AnyBut.region (S := fun w' => w'.cell? ⟨w.heap.size, 0, none⟩ = some (.int .u64 0)) (t := 99) 9 rfl (by kernel_rfl) (by go_simp) ?_
  intro hS
  refine AnyBut.tk0 0 hS rfl (h := ?_); refine AnyBut.tk0 1 hS rfl (h := ?_); refine AnyBut.tk0 2 hS rfl (h := ?_); refine AnyBut.tk0 3 hS rfl (h := ?_); refine AnyBut.tk0 4 hS rfl (h := ?_); refine AnyBut.tk0 5 hS rfl (h := ?_); refine AnyBut.tk0 6 hS rfl (h := ?_); refine AnyBut.tk0 7 hS rfl (h := ?_); refine AnyBut.tk0 8 hS rfl (h := ?_)
  clear hS
  refine AnyBut.done (by kernel_rfl) ?_
  go_wp2
  go_returns
  exact ⟨by first | rfl | simp, by exact sBel⟩
end Go.Proofs.YthmhdaefkhcenaaGreatDoor
