/- From the reading of an argument that is a slice of bools to what a walk is told of it. -/
import Derived.Test.YtkdgomalhngagaaDoorOpen
import Derived.Test.YtkdgomalhngagaaDoorTkOpen
import Derived.Deep.Grids
namespace Go.Proofs.YtkdgomalhngagaaDoor
open Go.RowKit Go.ChangeShapes Go.WideShapes Go.Deep

theorem shows_bools {H : Type} {enc : TypeId × Value → H} {W : World} {fuel : Nat} {A : Option Addr} {n c : Nat} {x : DataW H × List MemPlace}
    (h : DataW.trod enc Tryd.prog W 0 (fun _ => true) true fuel 41 [.slice A n c] = some x) : ∃ bs : List Bool, Shows W W.heap.size 1 A n (bs.map Value.bool) ∧ n ≤ c ∧ c ≤ maxLen := by
  rcases open_bools Tryd.underlying41 Tryd.underlying4 (by kernel_rfl) h with ⟨hcs, _⟩ | ⟨a, len, cap, B, hcs, _, hl, hm, _, hcell⟩
  · simp at hcs
    obtain ⟨rfl, rfl, rfl⟩ := hcs
    exact ⟨[], Shows.empty, Nat.le_refl _, by simp⟩
  · simp at hcs
    obtain ⟨rfl, rfl, rfl⟩ := hcs
    obtain ⟨b, off, spot⟩ := a
    refine ⟨(List.range n).map B, ⟨by simp, fun h0 => ?_⟩, hl, hm⟩
    have c0 := hcell 0 (by omega)
    have hspot : spot = none := by simpa [Addr.add] using World.cell?_spot c0
    subst hspot
    have e1 : ∀ j, (⟨b, off, none⟩ : Addr).add j = ⟨b, off + j, none⟩ := by intro j; unfold Addr.add; split <;> simp_all
    refine ⟨b, off, rfl, ?_, fun j hj => ?_⟩
    · have := block_lt c0; rw [e1] at this; exact this
    · have hj' : j < n := by simpa using hj
      have := hcell j (by omega)
      rw [e1] at this
      rw [this, List.getD_eq_getElem?_getD, List.getElem?_map, List.getElem?_map, List.getElem?_range hj']; rfl
end Go.Proofs.YtkdgomalhngagaaDoor
