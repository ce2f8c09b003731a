/- Slices of structs of three numbers, as lists. -/
import Derived.Test.YtnhiipiciondoaaOpen
import Derived.Test.YtnhiipiciondoaaMem2
import Derived.Deep.SlicePairs
import Derived.Deep.Fields
namespace Go.Proofs.Ytnhiipiciondoaa
open Go.RowKit Go.ChangeShapes Go.WideShapes Go.Deep

/-- A struct of three numbers: its cells. -/
def tcs (x : Int × Int × Int) : List Value := [.int .i64 x.1, .int .i64 x.2.1, .int .i64 x.2.2]
def In3 (x : Int × Int × Int) : Prop := (-9223372036854775808 ≤ x.1 ∧ x.1 ≤ 9223372036854775807) ∧ (-9223372036854775808 ≤ x.2.1 ∧ x.2.1 ≤ 9223372036854775807) ∧ (-9223372036854775808 ≤ x.2.2 ∧ x.2.2 ≤ 9223372036854775807)
def TC (l : List (Int × Int × Int)) : List Value := l.flatMap tcs
theorem tc_len (l : List (Int × Int × Int)) : (TC l).length = l.length * 3 := by
  unfold TC
  induction l with
  | nil => rfl
  | cons x t ih => rw [List.flatMap_cons, List.length_append, ih]; simp [tcs]; omega
theorem tc_get {l : List (Int × Int × Int)} {i : Nat} {x : Int × Int × Int} (h : l[i]? = some x) {k : Nat} (hk : k < 3) : (TC l)[i * 3 + k]? = (tcs x)[k]? := by
  unfold TC
  induction l generalizing i with
  | nil => simp at h
  | cons y t ih =>
    rcases i with _ | i
    · simp at h; subst h
      rw [List.flatMap_cons, List.getElem?_append_left (by simp [tcs]; omega)]; simp
    · have := ih (i := i) (by simpa using h)
      rw [List.flatMap_cons, show (i + 1) * 3 + k = 3 + (i * 3 + k) by omega, List.getElem?_append_right (by simp [tcs])]
      rw [← this]; congr 1; simp [tcs]
theorem Shows.tri {w : World} {B n : Nat} {A : Option Addr} {l : List (Int × Int × Int)} (h : Shows w B 3 A n (TC l)) {i : Nat} {x : Int × Int × Int} (hx : l[i]? = some x) :
    ∃ b off, A = some ⟨b, off, none⟩ ∧ b < B ∧ w.cell? ⟨b, off + i * 3, none⟩ = some (.int .i64 x.1) ∧ w.cell? ⟨b, off + i * 3 + 1, none⟩ = some (.int .i64 x.2.1) ∧ w.cell? ⟨b, off + i * 3 + 2, none⟩ = some (.int .i64 x.2.2) := by
  have hi := (List.getElem?_eq_some_iff.1 hx).1
  have hl := h.1
  rw [tc_len] at hl
  obtain ⟨b, off, e, hb, hc⟩ := h.at_ (by omega)
  refine ⟨b, off, e, hb, ?_⟩
  have g : ∀ k, k < 3 → w.cell? ⟨b, off + i * 3 + k, none⟩ = (tcs x)[k]? := by
    intro k hk
    rw [Nat.add_assoc, hc _ (by rw [tc_len]; omega), List.getD, tc_get hx hk]
    rw [show (tcs x)[k]? = some ((tcs x)[k]'(by simp [tcs]; omega)) from List.getElem?_eq_getElem _]; rfl
  exact ⟨g 0 (by omega), g 1 (by omega), g 2 (by omega)⟩
theorem Shows.num3 {w : World} {B n : Nat} {A : Option Addr} {l : List (Int × Int × Int)} (h : Shows w B 3 A n (TC l)) : l.length = n := by
  have := h.1; rw [tc_len] at this; omega
theorem tri_cells : ∀ cs : List Value, cs.length = 3 → (∀ i, i < 3 → ∃ a : Int, cs[i]? = some (.int .i64 a) ∧ -9223372036854775808 ≤ a ∧ a ≤ 9223372036854775807) → ∃ x : Int × Int × Int, cs = tcs x ∧ In3 x := by
  intro cs hlen each
  match cs, hlen, each with
  | [c0, c1, c2], _, each =>
    obtain ⟨a0, e0, b0⟩ := each 0 (by omega)
    obtain ⟨a1, e1, b1⟩ := each 1 (by omega)
    obtain ⟨a2, e2, b2⟩ := each 2 (by omega)
    injection e0 with e0
    injection e1 with e1
    injection e2 with e2
    subst e0; subst e1; subst e2
    exact ⟨(a0, a1, a2), rfl, b0, b1, b2⟩
section
variable {H : Type} {enc : TypeId × Value → H} {W : World} {fuel : Nat} {P : Program} {spare : Nat → Bool} {held : Bool}
/-- Cells that read as a struct of six numbers are one. -/
theorem tri_read {e : TypeId} {fs : Array Field} {cs : List Value} {y : DataW H × List MemPlace} (h3 : P.underlying 3 = some (.int .i64)) (he : P.underlying e = some (.struct fs)) (hone : oneCellFields P fs = true) (hC : P.cellsOf e = 3)
    (hty : ∀ i, i < 3 → ∃ f, fs[i]? = some f ∧ f.type = 3) (h : DataW.trod enc P W 0 spare held fuel e cs = some y) : ∃ x : Int × Int × Int, cs = tcs x ∧ In3 x := by
  obtain ⟨xs, n, _, _, hlen, hxl, hg⟩ := DataW.trod_struct he h
  rw [hC] at hlen
  have each : ∀ i, i < 3 → ∃ a : Int, cs[i]? = some (.int .i64 a) ∧ -9223372036854775808 ≤ a ∧ a ≤ 9223372036854775807 := by
    intro i hi
    obtain ⟨f, hf, ht⟩ := hty i hi
    obtain ⟨ho, hk⟩ := hone_of hone i f hf
    have h1 := hg i f hf
    have hil : i < xs.length := by
      rw [hxl]; exact (Array.getElem?_eq_some_iff.1 hf).1
    rw [ho, hk, ht, List.drop_eq_getElem_cons (by omega), List.getElem?_eq_getElem hil] at h1
    obtain ⟨a, e0, _, w0⟩ := DataW.trod_int h3 h1
    refine ⟨a, ?_, bounds_i64 w0⟩
    rw [List.getElem?_eq_getElem (by omega)]
    simpa only [List.take_succ_cons, List.take_zero, List.cons.injEq, and_true, Option.some.injEq] using e0
  exact tri_cells cs hlen each
theorem shows_tri {t e : TypeId} {fs : Array Field} {A : Option Addr} {n c : Nat} {x : DataW H × List MemPlace} (h3 : P.underlying 3 = some (.int .i64)) (ht : P.underlying t = some (.slice e)) (he : P.underlying e = some (.struct fs)) (hone : oneCellFields P fs = true) (hC : P.cellsOf e = 3)
    (hty : ∀ i, i < 3 → ∃ f, fs[i]? = some f ∧ f.type = 3) (h : DataW.trod enc P W 0 (fun _ => true) held fuel t [.slice A n c] = some x) : ∃ l, Shows W W.heap.size 3 A n (TC l) ∧ (∀ x ∈ l, In3 x) ∧ n ≤ c ∧ c ≤ maxLen := by
  rcases open_slice ht h with ⟨hcs, _⟩ | ⟨a, len, cap, m, n', D, Pl, hcs, _, hl, hm, hmm, _, hi⟩
  · simp at hcs
    obtain ⟨rfl, rfl, rfl⟩ := hcs
    exact ⟨[], Shows.empty, (by intro x hx; cases hx), Nat.le_refl _, by simp⟩
  · simp at hcs
    obtain ⟨rfl, rfl, rfl⟩ := hcs
    have hnm : n ≤ m := by rw [hmm]; simp; exact hl
    rw [hC] at hi
    have each : ∀ i, i < n → ∃ q : Int × Int × Int, In3 q ∧ ∀ j, j < 3 → W.cell? (a.add (i * 3 + j)) = (tcs q)[j]? := by
      intro i h'
      obtain ⟨cs', hc, ht'⟩ := hi i (by omega)
      obtain ⟨_, _, hat⟩ := World.cells?_some hc
      obtain ⟨q, rfl, hq⟩ := tri_read h3 he hone hC hty ht'
      refine ⟨q, hq, fun j hj => ?_⟩
      rw [← Go.Deep.add_add]
      exact hat j hj
    obtain ⟨q, hq⟩ := choose_lt each
    have hlen : ((List.range n).map q).length = n := by simp
    have hat : ∀ i, i < n → ((List.range n).map q)[i]? = some (q i) := by intro i h'; simp [h']
    obtain ⟨b, off, spot⟩ := a
    refine ⟨(List.range n).map q, ⟨by rw [tc_len, hlen], fun h0 => ?_⟩, ?_, hl, hm⟩
    · have c0 := (hq 0 h0).2 0 (by omega)
      have c0 : W.cell? ((⟨b, off, spot⟩ : Addr).add 0) = some (.int .i64 (q 0).1) := by simpa [tcs] using c0
      have hspot : spot = none := by simpa [Addr.add] using World.cell?_spot c0
      subst hspot
      have e1 : ∀ j, (⟨b, off, none⟩ : Addr).add j = ⟨b, off + j, none⟩ := by intro j; unfold Addr.add; split <;> simp_all
      refine ⟨b, off, rfl, ?_, fun j hj => ?_⟩
      · have := block_lt c0; rw [e1] at this; exact this
      · rw [tc_len, hlen] at hj
        have hin : j / 3 < n := by omega
        have hj3 : j % 3 < 3 := Nat.mod_lt _ (by omega)
        have hg := tc_get (hat (j / 3) hin) hj3
        have hk := (hq (j / 3) hin).2 (j % 3) hj3
        rw [show j / 3 * 3 + j % 3 = j by omega] at hg hk
        rw [e1] at hk
        have hs : (tcs (q (j / 3)))[j % 3]? = some ((tcs (q (j / 3)))[j % 3]'(by simp [tcs]; omega)) := List.getElem?_eq_getElem _
        rw [hk, hs, List.getD, hg, hs]; rfl
    · intro x hx
      obtain ⟨i, hi2, rfl⟩ := List.mem_map.1 hx
      exact (hq i (List.mem_range.1 hi2)).1
end
end Go.Proofs.Ytnhiipiciondoaa
