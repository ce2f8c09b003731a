/- The walks of 'dated.Short' and of 'slices.CompactFunc', 'slices.Clone' as it calls them. -/
import Derived.Test.YtoedhcenmbpeeaaDatAt2
import Derived.Deep.RegionHeld3
namespace Go.Proofs.Ytoedhcenmbpeeaa.Dat
/-- A list without what changes nothing, behind a value. -/
def ddFrom : Int → List (Int × Int) → List (Int × Int)
  | _, [] => []
  | v, x :: t => if x.2 = v then ddFrom v t else x :: ddFrom x.2 t
def dd : List (Int × Int) → List (Int × Int)
  | [] => []
  | x :: t => x :: ddFrom x.2 t
/-- The same, value by value: 'take p'. -/
theorem ddFrom_snoc : ∀ (l : List (Int × Int)) (v : Int) (y x : Int × Int), ddFrom v (l ++ [y, x]) = ddFrom v (l ++ [y]) ++ (if x.2 = y.2 then [] else [x]) := by
  intro l
  induction l with
  | nil =>
    intro v y x
    simp only [List.nil_append, ddFrom]
    by_cases h : y.2 = v
    · subst h
      by_cases h2 : x.2 = y.2 <;> simp [h2]
    · by_cases h2 : x.2 = y.2 <;> simp [h, h2]
  | cons a t ih =>
    intro v y x
    simp only [List.cons_append, ddFrom]
    by_cases h : a.2 = v
    · rw [if_pos h, if_pos h, ih]
    · rw [if_neg h, if_neg h, ih]; rfl
theorem dd_snoc (l : List (Int × Int)) (y x : Int × Int) : dd (l ++ [y, x]) = dd (l ++ [y]) ++ (if x.2 = y.2 then [] else [x]) := by
  cases l with
  | nil =>
    simp only [List.nil_append, dd, ddFrom]
    by_cases h2 : x.2 = y.2 <;> simp [h2]
  | cons a t =>
    simp only [List.cons_append, dd]
    rw [ddFrom_snoc]
theorem take_two {l : List (Int × Int)} {p : Nat} {y x : Int × Int} (hy : l[p]? = some y) (hx : l[p + 1]? = some x) : l.take (p + 2) = l.take p ++ [y, x] ∧ l.take (p + 1) = l.take p ++ [y] := by
  have h1 : l.take (p + 1) = l.take p ++ [y] := by rw [List.take_add_one, hy]; rfl
  refine ⟨?_, h1⟩
  rw [List.take_add_one, hx, h1]; simp
theorem dd_take {l : List (Int × Int)} {p : Nat} {y x : Int × Int} (hy : l[p]? = some y) (hx : l[p + 1]? = some x) : dd (l.take (p + 2)) = dd (l.take (p + 1)) ++ (if x.2 = y.2 then [] else [x]) := by
  obtain ⟨h1, h2⟩ := take_two hy hx
  rw [h1, h2, dd_snoc]
theorem ddFrom_le : ∀ (l : List (Int × Int)) (v : Int), (ddFrom v l).length ≤ l.length := by
  intro l
  induction l with
  | nil => intro v; simp [ddFrom]
  | cons x t ih =>
    intro v
    rw [ddFrom]
    split
    · have := ih v; simp; omega
    · have := ih x.2; simp; omega
theorem dd_le (l : List (Int × Int)) : (dd l).length ≤ l.length := by
  cases l with
  | nil => simp [dd]
  | cons x t => have := ddFrom_le t x.2; simp [dd]; omega
theorem dd_one {l : List (Int × Int)} (h : l.length ≤ 1) : dd l = l := by
  match l, h with
  | [], _ => rfl
  | [x], _ => rfl
end Go.Proofs.Ytoedhcenmbpeeaa.Dat
namespace Go.Proofs.Ytoedhcenmbpeeaa
open Go.RowKit

theorem grown_of_below {w w' : World} (h : Below w.heap.size w w') (row : Option Nat) : w.grownBy w' row := ⟨h.os, h.tape, h.output, h.size, fun k hk _ => h.block k hk⟩
set_option maxRecDepth 100000 in
set_option maxHeartbeats 1000000 in
theorem short1_any (x y : Int × Int) (w : World) : Calls Try.prog 30 #[.agg #[.int .i64 x.1, .int .i64 x.2], .agg #[.int .i64 y.1, .int .i64 y.2]] w fun e w' => e = .returned (.bool (x.2 == y.2)) ∧ Below w.heap.size w w' := by
  go_enter Try.func30, Try.ntmps30
  go_wp2_with fail
  go_ret
  exact ⟨rfl, bel_alloc (bel_alloc (Below.refl _ _) _) _⟩
/-- A row is cleared from a place on. -/
theorem run_clear_row {P : Program} (w : World) (t e ty : TypeId) (z : Value) (size : Nat) (ht : P.underlying t = some (.slice e)) (hv : ∀ w, (zeroValue e).run P w = .ok z w) (hz : z.cells.size = size) (h1 : ∀ v ∈ z.cells.toList, v.oneCell' = true) (g o n c : Nat) (cs : List Value) (te : TypeId)
    (hb : Block w g te cs) (hl : o + n * size ≤ cs.length) :
    ∃ zs : List Value, zs.length = n * size ∧ (Builtin.clear_ #[t] ty #[.slice (some ⟨g, o, none⟩) n c]).run P w = .ok (.tuple #[]) (w.setRow g (cs.take o ++ zs ++ cs.drop (o + n * size)).toArray) := by
  rcases Nat.eq_zero_or_pos n with h0 | h0
  · subst h0
    refine ⟨[], by simp, ?_⟩
    have e : w.setRow g (cs.take o ++ [] ++ cs.drop (o + 0 * size)).toArray = w := by
      simp only [List.append_nil, Nat.zero_mul, Nat.add_zero, List.take_append_drop]
      exact setRow_self w g cs.toArray te (0, 0) hb
    rw [e]
    simp [Builtin.clear_, run_underlying ht]
  · have hzl : (Builtin.zeroCells z.cells n).toList.length = n * size := by rw [Array.length_toList, size_zeroCells, hz]
    refine ⟨(Builtin.zeroCells z.cells n).toList, hzl, ?_⟩
    have h1' : ∀ v ∈ (Builtin.zeroCells z.cells n).toList, v.oneCell' = true := by
      intro v hv'
      rw [Array.mem_toList_iff] at hv'
      unfold Builtin.zeroCells at hv'
      rw [Array.mem_map] at hv'
      obtain ⟨i, hi, rfl⟩ := hv'
      rw [Array.mem_range] at hi
      have hp : 0 < z.cells.size := Nat.pos_of_ne_zero fun h => by rw [h, Nat.mul_zero] at hi; omega
      rw [getElem!_pos z.cells _ (Nat.mod_lt _ hp)]
      exact h1 _ (by rw [Array.mem_toList_iff]; exact Array.getElem_mem _)
    have hst := run_storeCells_at (P := P) g o te (Builtin.zeroCells z.cells n).toList 0 cs.toArray w hb (by rw [hzl]; simp; omega) h1'
    obtain ⟨m, rfl⟩ : ∃ m, n = m + 1 := ⟨n - 1, by omega⟩
    simp [Builtin.clear_, run_underlying ht, hv, hst, hzl]

theorem zero_dated (w : World) : (zeroValue 31).run Try.prog w = .ok (.agg #[.int .i64 0, .int .i64 0]) w := by kernel_rfl
theorem dc_set (l : List (Int × Int)) (k : Nat) (x : Int × Int) (junk : List Value) (hk : k < l.length) : ((DC l ++ junk).set (k * 2) (.int .i64 x.1)).set (k * 2 + 1) (.int .i64 x.2) = DC (l.set k x) ++ junk := by
  induction l generalizing k with
  | nil => simp at hk
  | cons y t ih =>
    rcases k with _ | k
    · rfl
    · have := ih k (by simpa using hk)
      rw [show (k + 1) * 2 = k * 2 + 2 by omega, show k * 2 + 2 + 1 = k * 2 + 1 + 2 by omega]
      simp only [dc_cons, List.cons_append, List.nil_append, List.set_cons_succ]
      rw [this]
theorem dc_take (l : List (Int × Int)) (k : Nat) : (DC l).take (k * 2) = DC (l.take k) := by
  induction l generalizing k with
  | nil => simp [DC]
  | cons y t ih =>
    rcases k with _ | k
    · simp [DC]
    · rw [show (k + 1) * 2 = k * 2 + 2 by omega, List.take_succ_cons, dc_cons, dc_cons, ← ih k]
      rfl
/-- The row of a list, with room behind. -/
def RowD (w : World) (g : Nat) (l : List (Int × Int)) (junk : List Value) : Prop := Block w g 31 (DC l ++ junk)
section
variable {w w' : World} {g : Nat} {l : List (Int × Int)} {junk : List Value}
theorem RowD.two (h : RowD w g l junk) {i : Nat} {x : Int × Int} (hx : l[i]? = some x) : w.cell? ⟨g, i * 2, none⟩ = some (.int .i64 x.1) ∧ w.cell? ⟨g, i * 2 + 1, none⟩ = some (.int .i64 x.2) := by
  obtain ⟨h1, h2⟩ := dc_get hx
  have hi := (List.getElem?_eq_some_iff.1 hx).1
  refine ⟨?_, ?_⟩
  · rw [Block.cell h, List.getElem?_append_left (by rw [dc_len]; omega), h1]
  · rw [Block.cell h, List.getElem?_append_left (by rw [dc_len]; omega), h2]
theorem RowD.call (h : RowD w g l junk) (hb : Below w.heap.size w w') : RowD w' g l junk := Block.call h hb
theorem RowD.set (h : RowD w g l junk) {k : Nat} (hk : k < l.length) (x : Int × Int) : RowD ((w.setCell ⟨g, k * 2, none⟩ (.int .i64 x.1)).setCell ⟨g, k * 2 + 1, none⟩ (.int .i64 x.2)) g (l.set k x) junk := by
  have := (Block.set (Block.set h (k * 2) (.int .i64 x.1)) (k * 2 + 1) (.int .i64 x.2))
  rw [dc_set l k x junk hk] at this
  exact this
end
theorem grown_set {w a : World} {g : Nat} (h : w.grownBy a (some g)) (p : Addr) (hp : p.block = g) (u : Value) : w.grownBy (a.setCell p u) (some g) :=
  ⟨h.os, h.tape, h.output, by simpa [World.setCell] using h.size, fun k hk hne => by rw [Below.heap_setCell a p u k (fun e => hne (by rw [e, hp]))]; exact h.block k hk hne⟩
theorem grown_drewN {w a : World} {r : Option Nat} (h : w.grownBy a r) (m : Nat) : w.grownBy (a.drewN m) r := ⟨h.os, h.tape, h.output, h.size, h.block⟩
theorem grown_call {w a b : World} {r : Option Nat} (h : w.grownBy a r) (h' : Below a.heap.size a b) : w.grownBy b r := h.trans (grown_of_below h' r)
/-- What stands in the row while it is gone through. -/
def mid (l : List (Int × Int)) (p : Nat) : List (Int × Int) := Dat.dd (l.take p) ++ l.drop (Dat.dd (l.take p)).length
theorem mid_get {l : List (Int × Int)} {p i : Nat} {x : Int × Int} (hx : l[i]? = some x) (hi : (Dat.dd (l.take p)).length ≤ i) : (mid l p)[i]? = some x := by
  unfold mid
  rw [List.getElem?_append_right hi, List.getElem?_drop, show (Dat.dd (l.take p)).length + (i - (Dat.dd (l.take p)).length) = i by omega, hx]
theorem mid_len {l : List (Int × Int)} {p : Nat} : (mid l p).length = l.length := by
  have h1 := Dat.dd_le (l.take p)
  have h2 := List.length_take_le' p l
  unfold mid
  simp only [List.length_append, List.length_drop]
  omega
theorem mid_set {l : List (Int × Int)} {p : Nat} {y x : Int × Int} (hy : l[p]? = some y) (hx : l[p + 1]? = some x) (hne : x.2 ≠ y.2) : (mid l (p + 1)).set (Dat.dd (l.take (p + 1))).length x = mid l (p + 2) := by
  have hd := Dat.dd_take hy hx
  rw [if_neg hne] at hd
  have h1 := Dat.dd_le (l.take (p + 1))
  have h2 := List.length_take_le (p + 1) l
  have hp := (List.getElem?_eq_some_iff.1 hx).1
  unfold mid
  rw [hd, List.set_append_right _ _ (Nat.le_refl _), Nat.sub_self, List.append_assoc, List.length_append, List.length_cons, List.length_nil]
  congr 1
  rw [List.drop_eq_getElem_cons (by omega)]
  rfl
theorem mid_same {l : List (Int × Int)} {p : Nat} {y x : Int × Int} (hy : l[p]? = some y) (hx : l[p + 1]? = some x) (he : x.2 = y.2) : Dat.dd (l.take (p + 2)) = Dat.dd (l.take (p + 1)) := by
  have hd := Dat.dd_take hy hx
  rw [if_pos he, List.append_nil] at hd
  exact hd
end Go.Proofs.Ytoedhcenmbpeeaa
