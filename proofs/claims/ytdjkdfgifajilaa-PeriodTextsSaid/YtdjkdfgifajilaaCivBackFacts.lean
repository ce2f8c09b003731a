/- What the law 'CivilBack' leans on. -/
import Derived.Test.YtdjkdfgifajilaaCivRefText
import Derived.Test.YtdjkdfgifajilaaCivParse
namespace Go.Proofs.Ytdjkdfgifajilaa
open Go.RowKit

theorem str_nums (s : ByteArray) : strOfNums (nums s) = s := by
  cases s with
  | mk d =>
    unfold strOfNums nums
    congr 1
    apply Array.ext'
    simp only [List.map_map]
    conv => rhs; rw [← List.map_id d.toList]
    refine List.map_congr_left fun x _ => ?_
    simp
theorem nums_str (xs : List Int) (hx : ∀ x ∈ xs, 0 ≤ x ∧ x ≤ 255) : nums (strOfNums xs) = xs := by
  unfold nums
  rw [strOfNums_data, List.map_map]
  conv => rhs; rw [← List.map_id xs]
  refine List.map_congr_left fun x hm => ?_
  have := hx x hm
  simp; omega
theorem bytesLess_nums : ∀ (xs ys : List Int), (∀ x ∈ xs, 0 ≤ x ∧ x ≤ 255) → (∀ x ∈ ys, 0 ≤ x ∧ x ≤ 255) → (Op.bytesLess (xs.map fun x => UInt8.ofNat x.toNat) (ys.map fun x => UInt8.ofNat x.toNat) = true ↔ xs < ys) := by
  intro xs
  induction xs with
  | nil => intro ys _ _; cases ys <;> simp [Op.bytesLess]
  | cons x xs ih =>
    intro ys hx hy
    cases ys with
    | nil => simp [Op.bytesLess]
    | cons y ys =>
      have h1 := hx x (by simp)
      have h2 := hy y (by simp)
      simp only [List.map_cons, Op.bytesLess, Bool.or_eq_true, Bool.and_eq_true, decide_eq_true_eq, beq_iff_eq]
      rw [ih ys (fun z hz => hx z (by simp [hz])) (fun z hz => hy z (by simp [hz])), Civ.lex_cons]
      have e1 : (UInt8.ofNat x.toNat < UInt8.ofNat y.toNat) ↔ x < y := by
        rw [UInt8.lt_iff_toNat_lt]; simp only [UInt8.toNat_ofNat']; omega
      have e2 : (UInt8.ofNat x.toNat = UInt8.ofNat y.toNat) ↔ x = y := by
        rw [← UInt8.toNat_inj]; simp only [UInt8.toNat_ofNat']; omega
      rw [e1, e2]
/-- What the text of a day is. -/
theorem text_facts (a : Int) (h : 0 ≤ a ∧ a ≤ 3652058) : ∃ T : ByteArray, (∀ w, Calls Try.prog 27 #[.int .i64 a] w fun r w' => r = .returned (.tuple #[.string T, .int .i64 0]) ∧ Below w.heap.size w w') ∧
    Civ.parseF (nums T) = (a, 0, 0) ∧ T.size = 10 := by
  obtain ⟨y, m, d, hd⟩ := exists_date a h.1 h.2
  obtain ⟨yn, rfl⟩ := Int.eq_ofNat_of_zero_le (show 0 ≤ y by have := hd.1.1; omega)
  obtain ⟨dn, rfl⟩ := Int.eq_ofNat_of_zero_le (show 0 ≤ d by have := hd.1.2.2.2.2.1; omega)
  refine ⟨_, fun w => text_is hd w, ?_, ?_⟩
  · rw [nums_str _ (Civ.textL_bytes _ _ _)]
    exact Civ.parse_text hd.1 hd.2
  · rw [strOfNums_size, Civ.textL_len]
theorem text_order (a b : Int) (h : 0 ≤ a ∧ a ≤ 3652058) (h' : 0 ≤ b ∧ b ≤ 3652058) : ∃ T U : ByteArray, (∀ w, Calls Try.prog 27 #[.int .i64 a] w fun r w' => r = .returned (.tuple #[.string T, .int .i64 0]) ∧ Below w.heap.size w w') ∧
    (∀ w, Calls Try.prog 27 #[.int .i64 b] w fun r w' => r = .returned (.tuple #[.string U, .int .i64 0]) ∧ Below w.heap.size w w') ∧
    Civ.parseF (nums T) = (a, 0, 0) ∧ T.size = 10 ∧ Op.bytesLess T.toList U.toList = decide (a < b) := by
  obtain ⟨y, m, d, hd⟩ := exists_date a h.1 h.2
  obtain ⟨yn, rfl⟩ := Int.eq_ofNat_of_zero_le (show 0 ≤ y by have := hd.1.1; omega)
  obtain ⟨dn, rfl⟩ := Int.eq_ofNat_of_zero_le (show 0 ≤ d by have := hd.1.2.2.2.2.1; omega)
  obtain ⟨y', m', d', hd'⟩ := exists_date b h'.1 h'.2
  obtain ⟨yn', rfl⟩ := Int.eq_ofNat_of_zero_le (show 0 ≤ y' by have := hd'.1.1; omega)
  obtain ⟨dn', rfl⟩ := Int.eq_ofNat_of_zero_le (show 0 ≤ d' by have := hd'.1.2.2.2.2.1; omega)
  refine ⟨_, _, fun w => text_is hd w, fun w => text_is hd' w, ?_, ?_, ?_⟩
  · rw [nums_str _ (Civ.textL_bytes _ _ _)]
    exact Civ.parse_text hd.1 hd.2
  · rw [strOfNums_size, Civ.textL_len]
  · rw [ByteArray.toList_eq, ByteArray.toList_eq, strOfNums_data, strOfNums_data, Bool.eq_iff_iff, bytesLess_nums _ _ (Civ.textL_bytes _ _ _) (Civ.textL_bytes _ _ _), Civ.text_lt hd.1 hd'.1, hd.2, hd'.2]
    simp
/-- What is read is told as it was. -/
theorem parse_facts (s : ByteArray) (h : (Civ.parseF (nums s)).2.1 = 0) : (∀ w, Calls Try.prog 27 #[.int .i64 (Civ.parseF (nums s)).1] w fun r w' => r = .returned (.tuple #[.string s, .int .i64 0]) ∧ Below w.heap.size w w') := by
  obtain ⟨y, m, d, hD, hn, ht⟩ := Civ.text_parse h rfl
  have := fun w => text_is (n := (Civ.parseF (nums s)).1) (y := y) (m := m) (d := d) ⟨hD, hn⟩ w
  rw [ht, str_nums] at this
  exact this
end Go.Proofs.Ytdjkdfgifajilaa
