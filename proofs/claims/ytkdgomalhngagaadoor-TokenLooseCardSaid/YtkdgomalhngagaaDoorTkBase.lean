/- Texts as lists of bytes; slices of tokens as lists; the cutter's block. -/
import Derived.Test.YtkdgomalhngagaaDoorMem2
import Derived.Test.YtkdgomalhngagaaDoorTokPlain
import Derived.IntWalk
import Derived.Lib.SlBytesConst
namespace Go.Proofs.YtkdgomalhngagaaDoor
open Go.RowKit

def nums (s : ByteArray) : List Int := s.data.toList.map fun b => (b.toNat : Int)
theorem nums_len (s : ByteArray) : (nums s).length = s.size := by unfold nums; rw [List.length_map, Array.length_toList]; rfl
theorem nums_get (s : ByteArray) (i : Nat) (h : i < s.size) : (nums s).getD i 0 = (s[i].toNat : Int) := by
  unfold nums
  rw [List.getD, List.getElem?_map, Array.getElem?_toList, Array.getElem?_eq_getElem (show i < s.data.size from h)]
  rfl
theorem str_nums (s : ByteArray) : strOfNums (nums s) = s := by
  cases s with
  | mk d =>
    unfold strOfNums nums
    congr 1
    apply Array.ext'
    simp only [List.map_map]
    conv => rhs; rw [← List.map_id d.toList]
    refine List.map_congr_left fun x _ => ?_
    simp
theorem nums_str (xs : List Int) (hx : ∀ x ∈ xs, 0 ≤ x ∧ x ≤ 255) : nums (strOfNums xs) = xs := by
  unfold nums
  rw [strOfNums_data, List.map_map]
  conv => rhs; rw [← List.map_id xs]
  refine List.map_congr_left fun x hm => ?_
  have := hx x hm
  simp; omega
theorem nums_byte (s : ByteArray) : ∀ x ∈ nums s, 0 ≤ x ∧ x ≤ 255 := by
  intro x hx
  unfold nums at hx
  rw [List.mem_map] at hx
  obtain ⟨b, _, rfl⟩ := hx
  have := b.toNat_lt
  omega
theorem str_app (xs ys : List Int) : strOfNums xs ++ strOfNums ys = strOfNums (xs ++ ys) := by
  apply ByteArray.ext
  apply Array.ext'
  simp [strOfNums]
theorem str_inj {xs ys : List Int} (hx : ∀ x ∈ xs, 0 ≤ x ∧ x ≤ 255) (hy : ∀ x ∈ ys, 0 ≤ x ∧ x ≤ 255) (e : strOfNums xs = strOfNums ys) : xs = ys := by
  rw [← nums_str xs hx, ← nums_str ys hy, e]
/-- A text's byte at a place; 0 behind its end. -/
def cAt (s : ByteArray) (q : Nat) : Int := (nums s).getD q 0
theorem cAt_get (s : ByteArray) (q : Nat) (h : q < s.size) : cAt s q = (s[q].toNat : Int) := nums_get s q h
theorem cAt_out (s : ByteArray) (q : Nat) (h : s.size ≤ q) : cAt s q = 0 := by
  unfold cAt
  have : (nums s).length = s.size := nums_len s
  rw [List.getD_eq_getElem?_getD, List.getElem?_eq_none (by omega)]
  rfl
theorem cAt_lt {s : ByteArray} {q : Nat} (h : cAt s q ≠ 0) : q < s.size := by
  rcases Nat.lt_or_ge q s.size with g | g
  · exact g
  · exact absurd (cAt_out s q g) h
theorem cAt_byte (s : ByteArray) (q : Nat) : 0 ≤ cAt s q ∧ cAt s q ≤ 255 := by
  rcases Nat.lt_or_ge q s.size with g | g
  · rw [cAt_get s q g]; have := s[q].toNat_lt; omega
  · rw [cAt_out s q g]; omega
theorem nums_drop (s : ByteArray) (q : Nat) (h : q < s.size) : (nums s).drop q = cAt s q :: (nums s).drop (q + 1) := by
  have hl := nums_len s
  rw [List.drop_eq_getElem_cons (by omega)]
  congr 1
  unfold cAt
  rw [List.getD_eq_getElem?_getD, List.getElem?_eq_getElem (by omega)]; rfl
theorem conv_shows {w : World} {B n : Nat} {A : Option Addr} {xs : List Int} (c : Nat) (h : Shows w B 1 A n (U8 xs)) :
    (convert 42 9 (.slice A n c)).run Tryd.prog w = .ok (.string (strOfNums xs)) w := by
  have hl : xs.length = n := by have := h.len; simpa [U8] using this
  rcases Nat.eq_zero_or_pos n with h0 | h0
  · subst h0
    have hx : xs = [] := List.eq_nil_of_length_eq_zero hl
    subst hx
    rcases A with _ | ⟨b, off, spot⟩
    · exact run_convert_bytes_nil w _ _ Tryd.underlying42 Tryd.underlying5 _ _ 9 Tryd.underlying9
    · rw [run_convert_bytes_string w _ _ _ _ _ _ Tryd.underlying42 Tryd.underlying5 Tryd.underlying9, run_bytesToString w _ 0 c [] (by simp [loadCells, loadCellsFrom, Sem.run_pure])]
      rfl
  · obtain ⟨b, off, rfl, _, hc⟩ := h.at_ h0
    refine run_convert_bytes_arg w _ _ Tryd.underlying42 Tryd.underlying5 b off n c xs hl (fun i hi => ?_) 9 Tryd.underlying9
    rw [hc i (by simpa [U8, hl] using hi)]
    simp [U8, List.getD, List.getElem?_eq_getElem (show i < xs.length by omega)]

/-- Tokens as cells. -/
def TkC (x : Tok.Tk) : List Value := [.int .i64 x.1, .string (strOfNums x.2)]
def TkA (x : Tok.Tk) : Value := .agg #[.int .i64 x.1, .string (strOfNums x.2)]
def TC (l : List Tok.Tk) : List Value := l.flatMap TkC
theorem tc_len (l : List Tok.Tk) : (TC l).length = l.length * 2 := by
  unfold TC
  induction l with
  | nil => rfl
  | cons x t ih => rw [List.flatMap_cons, List.length_append, ih]; simp [TkC]; omega
theorem tc_cons (x : Tok.Tk) (l : List Tok.Tk) : TC (x :: l) = TkC x ++ TC l := rfl
theorem tc_append (a b : List Tok.Tk) : TC (a ++ b) = TC a ++ TC b := by simp [TC]
theorem tc_one (l : List Tok.Tk) : ∀ u ∈ TC l, u.oneCell' = true := by
  intro u hu
  simp only [TC, List.mem_flatMap] at hu
  obtain ⟨x, _, hx⟩ := hu
  simp [TkC] at hx
  rcases hx with rfl | rfl <;> rfl
theorem tc_get {l : List Tok.Tk} {i : Nat} {x : Tok.Tk} (h : l[i]? = some x) {k : Nat} (hk : k < 2) : (TC l)[i * 2 + k]? = (TkC x)[k]? := by
  unfold TC
  induction l generalizing i with
  | nil => simp at h
  | cons y t ih =>
    rcases i with _ | i
    · simp at h; subst h
      rw [List.flatMap_cons, List.getElem?_append_left (by simp [TkC]; omega)]; simp
    · have := ih (i := i) (by simpa using h)
      rw [List.flatMap_cons, show (i + 1) * 2 + k = 2 + (i * 2 + k) by omega, List.getElem?_append_right (by simp [TkC])]
      rw [← this]; congr 1; simp [TkC]
theorem Shows.numT {w : World} {B n : Nat} {A : Option Addr} {l : List Tok.Tk} (h : Shows w B 2 A n (TC l)) : l.length = n := by
  have := h.1; rw [tc_len] at this; omega
theorem Shows.tk {w : World} {B n : Nat} {A : Option Addr} {l : List Tok.Tk} (h : Shows w B 2 A n (TC l)) {i : Nat} {x : Tok.Tk} (hx : l[i]? = some x) :
    ∃ b off, A = some ⟨b, off, none⟩ ∧ b < B ∧ w.cell? ⟨b, off + i * 2, none⟩ = some (.int .i64 x.1) ∧ w.cell? ⟨b, off + i * 2 + 1, none⟩ = some (.string (strOfNums x.2)) := by
  have hi := (List.getElem?_eq_some_iff.1 hx).1
  have hl := h.1
  rw [tc_len] at hl
  obtain ⟨b, off, e, hb, hc⟩ := h.at_ (by omega)
  refine ⟨b, off, e, hb, ?_⟩
  have g : ∀ k, k < 2 → w.cell? ⟨b, off + i * 2 + k, none⟩ = (TkC x)[k]? := by
    intro k hk
    rw [Nat.add_assoc, hc _ (by rw [tc_len]; omega), List.getD, tc_get hx hk]
    rw [show (TkC x)[k]? = some ((TkC x)[k]'(by simp [TkC]; omega)) from List.getElem?_eq_getElem _]; rfl
  exact ⟨g 0 (by omega), g 1 (by omega)⟩

/-- The class of a byte. -/
def clsN (c : Int) : Int := if Tok.isL c then 2 else if Tok.isD c then 3 else if Tok.isJ c then 4 else if c = 44 then 5 else if c = 35 then 6 else if c = 9 ∨ (32 ≤ c ∧ c ≤ 126) then 1 else 0
def clsV : List Value := (List.range 256).map fun (c : Nat) => Value.int .u8 (clsN (c : Int))
/-- The cutter's cells. -/
def CutC (s : ByteArray) (sl : Value) (p : Int) : List Value := .string s :: (clsV ++ [sl, .int .i64 p])
def Cut (w : World) (C : Nat) (s : ByteArray) (sl : Value) (p : Int) : Prop := Block w C 50 (CutC s sl p)
theorem clsV_len : clsV.length = 256 := by unfold clsV; rw [List.length_map, List.length_range]
section
variable {w : World} {C : Nat} {s : ByteArray} {sl : Value} {p : Int}
theorem Cut.str (h : Cut w C s sl p) : w.cell? ⟨C, 0, none⟩ = some (.string s) := Block.cell h 0
theorem Cut.cls (h : Cut w C s sl p) {q : Nat} (hq : q < 256) : w.cell? ⟨C, 1 + q, none⟩ = some (.int .u8 (clsN (q : Int))) := by
  have hc := Block.cell h (1 + q)
  rw [hc, CutC, Nat.add_comm, List.getElem?_cons_succ, List.getElem?_append_left (by rw [clsV_len]; exact hq)]
  unfold clsV
  rw [List.getElem?_map, List.getElem?_range hq]
  rfl
theorem Cut.out (h : Cut w C s sl p) : w.cell? ⟨C, 257, none⟩ = some sl := by
  have hc := Block.cell h 257
  rw [hc, CutC, List.getElem?_cons_succ, List.getElem?_append_right (by rw [clsV_len]; exact Nat.le_refl _), clsV_len]
  rfl
theorem Cut.at_ (h : Cut w C s sl p) : w.cell? ⟨C, 258, none⟩ = some (.int .i64 p) := by
  have hc := Block.cell h 258
  rw [hc, CutC, List.getElem?_cons_succ, List.getElem?_append_right (by rw [clsV_len]; omega), clsV_len]
  rfl
theorem Cut.free (h : Cut w C s sl p) (i : Nat) : w.frozen? ⟨C, i, none⟩ = false := Block.free h i
theorem Cut.setSl (h : Cut w C s sl p) (v : Value) : Cut (w.setCell ⟨C, 257, none⟩ v) C s v p := by
  have := Block.set h 257 v
  rw [show (CutC s sl p).set 257 v = CutC s v p from ?_] at this
  · exact this
  · unfold CutC
    rw [List.set_cons_succ, List.set_append_right _ _ (by rw [clsV_len]; exact Nat.le_refl _), clsV_len]
    rfl
theorem Cut.setAt (h : Cut w C s sl p) (q : Int) : Cut (w.setCell ⟨C, 258, none⟩ (.int .i64 q)) C s sl q := by
  have := Block.set h 258 (.int .i64 q)
  rw [show (CutC s sl p).set 258 (.int .i64 q) = CutC s sl q from ?_] at this
  · exact this
  · unfold CutC
    rw [List.set_cons_succ, List.set_append_right _ _ (by rw [clsV_len]; omega), clsV_len]
    rfl
theorem Cut.lt (h : Cut w C s sl p) : C < w.heap.size := Block.lt h
end
end Go.Proofs.YtkdgomalhngagaaDoor
