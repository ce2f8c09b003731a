/- From the reading of an argument that is a slice of structs of six numbers to what a walk is told of it. -/
import Derived.Test.YtiomkbpniplfhaaOpen
import Derived.Test.YtiomkbpniplfhaaSix
import Derived.Deep.SlicePairs
import Derived.Deep.Fields
namespace Go.Proofs.Ytiomkbpniplfhaa
open Go.RowKit Go.ChangeShapes Go.WideShapes Go.Deep

instance : Inhabited S6 := ⟨S6.zero⟩
theorem six_cells : ∀ cs : List Value, cs.length = 6 → (∀ i, i < 6 → ∃ a : Int, cs[i]? = some (.int .i64 a) ∧ -9223372036854775808 ≤ a ∧ a ≤ 9223372036854775807) → ∃ x : S6, cs = x.cs ∧ x.In := by
  intro cs hlen each
  match cs, hlen, each with
  | [c0, c1, c2, c3, c4, c5], _, each =>
    obtain ⟨a0, e0, b0⟩ := each 0 (by omega)
    obtain ⟨a1, e1, b1⟩ := each 1 (by omega)
    obtain ⟨a2, e2, b2⟩ := each 2 (by omega)
    obtain ⟨a3, e3, b3⟩ := each 3 (by omega)
    obtain ⟨a4, e4, b4⟩ := each 4 (by omega)
    obtain ⟨a5, e5, b5⟩ := each 5 (by omega)
    injection e0 with e0
    injection e1 with e1
    injection e2 with e2
    injection e3 with e3
    injection e4 with e4
    injection e5 with e5
    subst e0; subst e1; subst e2; subst e3; subst e4; subst e5
    exact ⟨S6.mk a0 a1 a2 a3 a4 a5, rfl, b0, b1, b2, b3, b4, b5⟩
section
variable {H : Type} {enc : TypeId × Value → H} {W : World} {fuel : Nat} {P : Program} {spare : Nat → Bool} {held : Bool}
/-- Cells that read as a struct of six numbers are one. -/
theorem six_read {e : TypeId} {fs : Array Field} {cs : List Value} {y : DataW H × List MemPlace} (h3 : P.underlying 3 = some (.int .i64)) (he : P.underlying e = some (.struct fs)) (hone : oneCellFields P fs = true) (hC : P.cellsOf e = 6)
    (hty : ∀ i, i < 6 → ∃ f, fs[i]? = some f ∧ f.type = 3) (h : DataW.trod enc P W 0 spare held fuel e cs = some y) : ∃ x : S6, cs = x.cs ∧ x.In := by
  obtain ⟨xs, n, _, _, hlen, hxl, hg⟩ := DataW.trod_struct he h
  rw [hC] at hlen
  have each : ∀ i, i < 6 → ∃ a : Int, cs[i]? = some (.int .i64 a) ∧ -9223372036854775808 ≤ a ∧ a ≤ 9223372036854775807 := by
    intro i hi
    obtain ⟨f, hf, ht⟩ := hty i hi
    obtain ⟨ho, hk⟩ := hone_of hone i f hf
    have h1 := hg i f hf
    have hil : i < xs.length := by
      rw [hxl]; exact (Array.getElem?_eq_some_iff.1 hf).1
    rw [ho, hk, ht, List.drop_eq_getElem_cons (by omega), List.getElem?_eq_getElem hil] at h1
    obtain ⟨a, e0, _, w0⟩ := DataW.trod_int h3 h1
    refine ⟨a, ?_, bounds_i64 w0⟩
    rw [List.getElem?_eq_getElem (by omega)]
    simpa only [List.take_succ_cons, List.take_zero, List.cons.injEq, and_true, Option.some.injEq] using e0
  exact six_cells cs hlen each
theorem shows_six {t e : TypeId} {fs : Array Field} {A : Option Addr} {n c : Nat} {x : DataW H × List MemPlace} (h3 : P.underlying 3 = some (.int .i64)) (ht : P.underlying t = some (.slice e)) (he : P.underlying e = some (.struct fs)) (hone : oneCellFields P fs = true) (hC : P.cellsOf e = 6)
    (hty : ∀ i, i < 6 → ∃ f, fs[i]? = some f ∧ f.type = 3) (h : DataW.trod enc P W 0 (fun _ => true) held fuel t [.slice A n c] = some x) : ∃ l, Shows W W.heap.size 6 A n (RC l) ∧ Fit6 l ∧ n ≤ c ∧ c ≤ maxLen := by
  rcases open_slice ht h with ⟨hcs, _⟩ | ⟨a, len, cap, m, n', D, Pl, hcs, _, hl, hm, hmm, _, hi⟩
  · simp at hcs
    obtain ⟨rfl, rfl, rfl⟩ := hcs
    exact ⟨[], Shows.empty, (by intro x hx; cases hx), Nat.le_refl _, by simp⟩
  · simp at hcs
    obtain ⟨rfl, rfl, rfl⟩ := hcs
    have hnm : n ≤ m := by rw [hmm]; simp; exact hl
    rw [hC] at hi
    have each : ∀ i, i < n → ∃ q : S6, q.In ∧ ∀ j, j < 6 → W.cell? (a.add (i * 6 + j)) = q.cs[j]? := by
      intro i h'
      obtain ⟨cs', hc, ht'⟩ := hi i (by omega)
      obtain ⟨_, _, hat⟩ := World.cells?_some hc
      obtain ⟨q, rfl, hq⟩ := six_read h3 he hone hC hty ht'
      refine ⟨q, hq, fun j hj => ?_⟩
      rw [← Go.Deep.add_add]
      exact hat j hj
    obtain ⟨q, hq⟩ := choose_lt each
    have hlen : ((List.range n).map q).length = n := by simp
    have hat : ∀ i, i < n → ((List.range n).map q)[i]? = some (q i) := by intro i h'; simp [h']
    obtain ⟨b, off, spot⟩ := a
    refine ⟨(List.range n).map q, ⟨by rw [rc_len, hlen], fun h0 => ?_⟩, ?_, hl, hm⟩
    · have c0 := (hq 0 h0).2 0 (by omega)
      have c0 : W.cell? ((⟨b, off, spot⟩ : Addr).add 0) = some (.int .i64 (q 0).a) := by simpa [S6.cs] using c0
      have hspot : spot = none := by simpa [Addr.add] using World.cell?_spot c0
      subst hspot
      have e1 : ∀ j, (⟨b, off, none⟩ : Addr).add j = ⟨b, off + j, none⟩ := by intro j; unfold Addr.add; split <;> simp_all
      refine ⟨b, off, rfl, ?_, fun j hj => ?_⟩
      · have := block_lt c0; rw [e1] at this; exact this
      · rw [rc_len, hlen] at hj
        have hin : j / 6 < n := by omega
        have hj6 : j % 6 < 6 := Nat.mod_lt _ (by omega)
        have hg := rc_get (hat (j / 6) hin) hj6
        have hk := (hq (j / 6) hin).2 (j % 6) hj6
        rw [show j / 6 * 6 + j % 6 = j by omega] at hg hk
        rw [e1] at hk
        have hs : (q (j / 6)).cs[j % 6]? = some ((q (j / 6)).cs[j % 6]'(by simp [S6.cs]; omega)) := List.getElem?_eq_getElem _
        rw [hk, hs, List.getD, hg, hs]; rfl
    · intro x hx
      obtain ⟨i, hi2, rfl⟩ := List.mem_map.1 hx
      exact (hq i (List.mem_range.1 hi2)).1
end
end Go.Proofs.Ytiomkbpniplfhaa
