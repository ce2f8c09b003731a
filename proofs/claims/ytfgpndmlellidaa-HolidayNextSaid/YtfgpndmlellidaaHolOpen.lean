/- From the reading of an argument that is a slice of holidays to what a walk is told of it. -/
import Derived.Test.YtfgpndmlellidaaOpenSix
namespace Go.Proofs.Ytfgpndmlellidaa
open Go.RowKit Go.ChangeShapes Go.WideShapes Go.Deep

theorem shows_arg {H : Type} {enc : TypeId × Value → H} {W : World} {fuel : Nat} {A : Option Addr} {n c : Nat} {x : DataW H × List MemPlace}
    (h : DataW.trod enc Try.prog W 0 (fun _ => true) true fuel 22 [.slice A n c] = some x) : ∃ l, Shows W W.heap.size 6 A n (RC l) ∧ Fit6 l ∧ n ≤ c ∧ c ≤ maxLen :=
  shows_six Try.underlying3 Try.underlying22 Try.underlying28 (by kernel_rfl) (by kernel_rfl) (by intro i hi; rcases (by omega : i = 0 ∨ i = 1 ∨ i = 2 ∨ i = 3 ∨ i = 4 ∨ i = 5) with rfl | rfl | rfl | rfl | rfl | rfl <;> exact ⟨_, rfl, rfl⟩) h
end Go.Proofs.Ytfgpndmlellidaa
