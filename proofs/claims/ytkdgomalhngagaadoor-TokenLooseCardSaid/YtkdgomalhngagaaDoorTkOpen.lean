/- From the reading of an argument that is a slice of tokens to what a walk is told of it. -/
import Derived.Test.YtkdgomalhngagaaDoorOpen
import Derived.Test.YtkdgomalhngagaaDoorTkBase
import Derived.Deep.SlicePairs
namespace Go.Proofs.YtkdgomalhngagaaDoor
open Go.RowKit Go.ChangeShapes Go.WideShapes Go.Deep

/-- What is known of an argument's tokens. -/
def Fitl (l : List Tok.Tk) : Prop := ∀ t ∈ l, (∀ x ∈ t.2, 0 ≤ x ∧ x ≤ 255) ∧ t.2.length ≤ maxLen
theorem shows_tokens {H : Type} {enc : TypeId × Value → H} {W : World} {fuel : Nat} {A : Option Addr} {n c : Nat} {x : DataW H × List MemPlace}
    (h : DataW.trod enc Tryd.prog W 0 (fun _ => true) true fuel 22 [.slice A n c] = some x) : ∃ l, Shows W W.heap.size 2 A n (TC l) ∧ Fitl l ∧ n ≤ c ∧ c ≤ maxLen := by
  rcases open_slice_pairs Tryd.underlying22 Tryd.underlying31 (by kernel_rfl) rfl rfl (by kernel_rfl) (by kernel_rfl) h with ⟨hcs, _⟩ | ⟨a, len, cap, m, f, V0, V1, D0, D1, P0, P1, hcs, _, hl, hm, hmm, _, hi⟩
  · simp at hcs
    obtain ⟨rfl, rfl, rfl⟩ := hcs
    exact ⟨[], Shows.empty, (by intro x hx; cases hx), Nat.le_refl _, by simp⟩
  · simp at hcs
    obtain ⟨rfl, rfl, rfl⟩ := hcs
    have hnm : n ≤ m := by rw [hmm]; simp; exact hl
    have each : ∀ i, i < n → ∃ q : Tok.Tk, V0 i = .int .i64 q.1 ∧ V1 i = .string (strOfNums q.2) ∧ (∀ x ∈ q.2, 0 ≤ x ∧ x ≤ 255) ∧ q.2.length ≤ maxLen := by
      intro i h'
      obtain ⟨_, _, t0, t1⟩ := hi i (by omega)
      obtain ⟨a0, e0, _, w0⟩ := DataW.trod_int Tryd.underlying3 t0
      obtain ⟨s1, e1, _, w1⟩ := DataW.trod_string Tryd.underlying9 t1
      refine ⟨(a0, nums s1), by simpa using e0, ?_, nums_byte s1, by rw [nums_len]; exact w1⟩
      rw [str_nums]; simpa using e1
    obtain ⟨q, hq⟩ := choose_lt each
    have hlen : ((List.range n).map q).length = n := by simp
    have hat : ∀ i, i < n → ((List.range n).map q)[i]? = some (q i) := by intro i h'; simp [h']
    obtain ⟨b, off, spot⟩ := a
    refine ⟨(List.range n).map q, ⟨by rw [tc_len, hlen], fun h0 => ?_⟩, ?_, hl, hm⟩
    · obtain ⟨c0, _, _, _⟩ := hi 0 (by omega)
      have hspot : spot = none := by simpa [Addr.add] using World.cell?_spot c0
      subst hspot
      have e1 : ∀ j, (⟨b, off, none⟩ : Addr).add j = ⟨b, off + j, none⟩ := by intro j; unfold Addr.add; split <;> simp_all
      refine ⟨b, off, rfl, ?_, fun j hj => ?_⟩
      · have := block_lt c0; rw [e1] at this; exact this
      · rw [tc_len, hlen] at hj
        obtain ⟨i, hi2⟩ : ∃ i, j = i * 2 ∨ j = i * 2 + 1 := ⟨j / 2, by omega⟩
        have hin : i < n := by omega
        have g1 := tc_get (hat i hin) (k := 0) (by omega)
        have g2 := tc_get (hat i hin) (k := 1) (by omega)
        obtain ⟨k0, k1, _, _⟩ := hi i (by omega)
        obtain ⟨v0, v1, _, _⟩ := hq i hin
        rw [e1] at k0 k1
        rcases hi2 with rfl | rfl
        · rw [k0, v0, List.getD, show i * 2 = i * 2 + 0 from rfl, g1]; rfl
        · rw [k1, v1, List.getD, g2]; rfl
    · intro x hx
      obtain ⟨i, hi2, rfl⟩ := List.mem_map.1 hx
      exact (hq i (List.mem_range.1 hi2)).2.2
end Go.Proofs.YtkdgomalhngagaaDoor
