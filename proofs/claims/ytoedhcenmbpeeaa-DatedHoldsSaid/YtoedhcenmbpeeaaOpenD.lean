/- From the reading of an argument that is a slice of dated values to what a walk is told of it. -/
import Derived.Test.YtoedhcenmbpeeaaOpen
import Derived.Test.YtoedhcenmbpeeaaDatAwake
import Derived.Deep.SlicePairs
namespace Go.Proofs.Ytoedhcenmbpeeaa
open Go.RowKit Go.ChangeShapes Go.WideShapes Go.Deep

theorem shows_dated {H : Type} {enc : TypeId × Value → H} {W : World} {fuel : Nat} {A : Option Addr} {n c : Nat} {x : DataW H × List MemPlace}
    (h : DataW.trod enc Try.prog W 0 (fun _ => true) true fuel 22 [.slice A n c] = some x) : ∃ l, Shows W W.heap.size 2 A n (DC l) ∧ Fits l ∧ n ≤ c ∧ c ≤ maxLen := by
  rcases open_slice_pairs Try.underlying22 Try.underlying31 (by kernel_rfl) rfl rfl (by kernel_rfl) (by kernel_rfl) h with ⟨hcs, _⟩ | ⟨a, len, cap, m, f, V0, V1, D0, D1, P0, P1, hcs, _, hl, hm, hmm, _, hi⟩
  · simp at hcs
    obtain ⟨rfl, rfl, rfl⟩ := hcs
    exact ⟨[], Shows.empty, (by intro x hx; cases hx), Nat.le_refl _, by simp⟩
  · simp at hcs
    obtain ⟨rfl, rfl, rfl⟩ := hcs
    have hnm : n ≤ m := by rw [hmm]; simp; exact hl
    have each : ∀ i, i < n → ∃ q : Int × Int, V0 i = .int .i64 q.1 ∧ V1 i = .int .i64 q.2 ∧ -9223372036854775808 ≤ q.1 ∧ q.1 ≤ 9223372036854775807 := by
      intro i h'
      obtain ⟨_, _, t0, t1⟩ := hi i (by omega)
      obtain ⟨a0, e0, _, w0⟩ := DataW.trod_int Try.underlying3 t0
      obtain ⟨a1, e1, _, w1⟩ := DataW.trod_int Try.underlying3 t1
      exact ⟨(a0, a1), by simpa using e0, by simpa using e1, bounds_i64 w0⟩
    obtain ⟨q, hq⟩ := choose_lt each
    obtain ⟨l, rfl⟩ : ∃ l, (List.range n).map q = l := ⟨_, rfl⟩
    have hlen : ((List.range n).map q).length = n := by simp
    have hat : ∀ i, i < n → ((List.range n).map q)[i]? = some (q i) := by intro i h'; simp [h']
    obtain ⟨b, off, spot⟩ := a
    refine ⟨(List.range n).map q, ⟨by rw [dc_len, hlen], fun h0 => ?_⟩, ?_, hl, hm⟩
    · obtain ⟨c0, _, _, _⟩ := hi 0 (by omega)
      have hspot : spot = none := by simpa [Addr.add] using World.cell?_spot c0
      subst hspot
      have e1 : ∀ j, (⟨b, off, none⟩ : Addr).add j = ⟨b, off + j, none⟩ := by intro j; unfold Addr.add; split <;> simp_all
      refine ⟨b, off, rfl, ?_, fun j hj => ?_⟩
      · have := block_lt c0; rw [e1] at this; exact this
      · rw [dc_len, hlen] at hj
        obtain ⟨i, hi2⟩ : ∃ i, j = i * 2 ∨ j = i * 2 + 1 := ⟨j / 2, by omega⟩
        have hin : i < n := by omega
        obtain ⟨g1, g2⟩ := dc_get (hat i hin)
        obtain ⟨k0, k1, _, _⟩ := hi i (by omega)
        obtain ⟨v0, v1, _, _⟩ := hq i hin
        rw [e1] at k0 k1
        rcases hi2 with rfl | rfl
        · rw [k0, v0, List.getD, g1]; rfl
        · rw [k1, v1, List.getD, g2]; rfl
    · intro x hx
      obtain ⟨i, hi2, rfl⟩ := List.mem_map.1 hx
      exact (hq i (List.mem_range.1 hi2)).2.2
end Go.Proofs.Ytoedhcenmbpeeaa
