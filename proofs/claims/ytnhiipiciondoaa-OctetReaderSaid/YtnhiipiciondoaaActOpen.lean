/- From the reading of an argument that is a slice of acts to what a walk is told of it. -/
import Derived.Test.YtnhiipiciondoaaTri
namespace Go.Proofs.Ytnhiipiciondoaa
open Go.RowKit Go.ChangeShapes Go.WideShapes Go.Deep

theorem shows_arg {H : Type} {enc : TypeId × Value → H} {W : World} {fuel : Nat} {A : Option Addr} {n c : Nat} {x : DataW H × List MemPlace}
    (h : DataW.trod enc Try.prog W 0 (fun _ => true) true fuel 57 [.slice A n c] = some x) : ∃ l, Shows W W.heap.size 3 A n (TC l) ∧ (∀ x ∈ l, In3 x) ∧ n ≤ c ∧ c ≤ maxLen :=
  shows_tri Try.underlying3 Try.underlying57 Try.underlying62 (by kernel_rfl) (by kernel_rfl) (by intro i hi; rcases (by omega : i = 0 ∨ i = 1 ∨ i = 2) with rfl | rfl | rfl <;> exact ⟨_, rfl, rfl⟩) h
end Go.Proofs.Ytnhiipiciondoaa
