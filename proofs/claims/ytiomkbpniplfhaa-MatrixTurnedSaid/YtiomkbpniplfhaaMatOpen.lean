/- From the reading of an argument that is a slice of rules to what a walk is told of it. -/
import Derived.Test.YtiomkbpniplfhaaOpenSix
import Derived.Lib.SmallJoins
namespace Go.Proofs.Ytiomkbpniplfhaa
open Go.RowKit Go.ChangeShapes Go.WideShapes Go.Deep

theorem shows_arg {H : Type} {enc : TypeId × Value → H} {W : World} {fuel : Nat} {A : Option Addr} {n c : Nat} {x : DataW H × List MemPlace}
    (h : DataW.trod enc Try.prog W 0 (fun _ => true) true fuel 22 [.slice A n c] = some x) : ∃ l, Shows W W.heap.size 6 A n (RC l) ∧ Fit6 l ∧ n ≤ c ∧ c ≤ maxLen :=
  shows_six Try.underlying3 Try.underlying22 Try.underlying28 (by kernel_rfl) (by kernel_rfl) (by intro i hi; rcases (by omega : i = 0 ∨ i = 1 ∨ i = 2 ∨ i = 3 ∨ i = 4 ∨ i = 5) with rfl | rfl | rfl | rfl | rfl | rfl <;> exact ⟨_, rfl, rfl⟩) h
theorem agg_arg {H : Type} {enc : TypeId × Value → H} {W : World} {r : Reach} {b0 : Nat} {v : Value} {d : DataW H} {p : List MemPlace}
    (hv : Value.okWide Try.prog W r b0 28 v) (h : DataW.Trod enc Try.prog W 0 (fun _ => true) true 28 v d p) : ∃ x : S6, v = (.agg #[.int .i64 x.a, .int .i64 x.b, .int .i64 x.c, .int .i64 x.d, .int .i64 x.e, .int .i64 x.f]) ∧ x.In := by
  obtain ⟨cs, rfl, hsz⟩ := okWide_struct Try.underlying28 hv
  obtain ⟨fuel, hf⟩ := h
  obtain ⟨x, hx, hin⟩ := six_read Try.underlying3 Try.underlying28 (by kernel_rfl) (by kernel_rfl) (by intro i hi; rcases (by omega : i = 0 ∨ i = 1 ∨ i = 2 ∨ i = 3 ∨ i = 4 ∨ i = 5) with rfl | rfl | rfl | rfl | rfl | rfl <;> exact ⟨_, rfl, rfl⟩) hf
  refine ⟨x, ?_, hin⟩
  have hc : cs = x.cs.toArray := by
    rw [← hx]; simp [Value.cells]
  rw [hc]; rfl
end Go.Proofs.Ytiomkbpniplfhaa
