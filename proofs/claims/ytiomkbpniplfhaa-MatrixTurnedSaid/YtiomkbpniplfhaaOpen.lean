/- From the reading of an argument to what a walk is told of it. -/
import Derived.Test.YtiomkbpniplfhaaMem
import Derived.ProofKit
import Derived.OpenShut
import Derived.ChangeOld
namespace Go.Proofs.Ytiomkbpniplfhaa
open Go.RowKit

theorem block_lt {W : World} {p : Addr} {v : Value} (h : W.cell? p = some v) : p.block < W.heap.size := by
  rcases Nat.lt_or_ge p.block W.heap.size with hlt | hge
  · exact hlt
  · simp [World.cell?, Array.getElem?_eq_none hge] at h
theorem shows_ints {W : World} {k : IntKind} {x : Addr} {len cap : Nat} {zs : List Int} (hl : len ≤ cap) (hz : zs.length = cap) (hcell : ∀ i, i < zs.length → W.cell? (x.add i) = some (.int k (zs.getD i 0))) :
    Shows W W.heap.size 1 (some x) len ((zs.take len).map (Value.int k)) := by
  refine ⟨by simp; omega, fun h0 => ?_⟩
  obtain ⟨b, off, spot⟩ := x
  have hc := hcell 0 (by omega)
  have hspot : spot = none := by simpa [Addr.add] using World.cell?_spot hc
  subst hspot
  refine ⟨b, off, rfl, by simpa [Addr.add] using block_lt hc, fun j hj => ?_⟩
  have hj' : j < len := by simp at hj; omega
  have h1 := hcell j (by omega)
  have e1 : (⟨b, off, none⟩ : Addr).add j = ⟨b, off + j, none⟩ := by unfold Addr.add; split <;> simp_all
  rw [e1] at h1
  rw [h1]
  have hj2 : j < zs.length := by omega
  simp [List.getD, hj', List.getElem?_eq_getElem hj2]
theorem wf_all {k : IntKind} {zs : List Int} (len : Nat) (h : ∀ n ∈ zs, (Lit.int k n).wf = true) : ∀ n ∈ zs.take len, (Lit.int k n).wf = true := fun n hn => h n (List.mem_of_mem_take hn)
end Go.Proofs.Ytiomkbpniplfhaa
