/- More words for memory. -/
import Derived.Test.YtnhiipiciondoaaMem
namespace Go.Proofs.Ytnhiipiciondoaa
open Go.RowKit

/-- 'x[:h]'. -/
theorem cut_to {P : Program} {T E : TypeId} (size : Nat) (hT : P.underlying T = some (.slice E)) (hS : ∀ w, (sizeOf E).run P w = .ok size w) (A : Option Addr) (n c h : Nat) (hh : h ≤ c) (w : World) :
    (Instr.slice T (.slice A n c) none (some (.int .i64 (h : Int))) none).run P w = .ok (.slice A h c) w := by
  have he : P.elem T = E := by simp [Program.elem, hT]
  rw [run_slice_h w T A n c (by rw [he]; exact hT) .i64 h (by omega) (by omega), he, hS]
  simp [sliced, Result.andThen]
  rcases A with _ | ⟨b, off, spot⟩
  · simp
  · simp [Addr.add]
theorem Shows.take {w : World} {B size n h : Nat} {A : Option Addr} {xs : List Value} (hs : Shows w B size A n xs) (hh : h ≤ n) : Shows w B size A h (xs.take (h * size)) := by
  have hm : h * size ≤ n * size := Nat.mul_le_mul_right _ hh
  refine ⟨by rw [List.length_take, hs.1]; omega, fun h0 => ?_⟩
  obtain ⟨b, off, e, hb, hc⟩ := hs.2 (by omega)
  refine ⟨b, off, e, hb, fun j hj => ?_⟩
  rw [List.length_take] at hj
  rw [hc j (by omega)]
  simp [List.getD, show j < h * size by omega]
theorem quiet_l {P : Program} {f : FuncId} {args : Array Value} {w : World} {n : Nat} {v : Value}
    (h : Calls P f args (w.drewN n) fun e w' => e = .returned v ∧ w.drewN n = w') : Calls P f args (w.drewN n) fun e w'' => e = .returned v ∧ ∃ m, w'' = w.drewN m :=
  h.mono fun _ _ ⟨he, hm⟩ => ⟨he, n, hm.symm⟩
end Go.Proofs.Ytnhiipiciondoaa
