/- What the laws 'PeriodBack' and 'PeriodKnown' lean on: the text of a period is read as it, what is read is the text of a period. -/
import Derived.Test.YtdjkdfgifajilaaSpParse2
import Derived.Test.YtdjkdfgifajilaaSpText2
import Derived.Test.YtdjkdfgifajilaaCivBackFacts
namespace Go.Proofs.Ytdjkdfgifajilaa
open Go.RowKit Go.Lib

/-- What a text is, as a function. -/
def pF (s : ByteArray) : Int × Int × Int × Int :=
  if ¬ isDg s 0 then (0, 0, 4, 0) else if ¬ isDg s 1 then (0, 0, 4, 1) else if ¬ isDg s 2 then (0, 0, 4, 2) else if ¬ isDg s 3 then (0, 0, 4, 3)
  else if s.size = 4 then (if yr s 4 = 0 then (0, 0, 5, 0) else (4, yr s 4 - 1, 0, 0))
  else if cAt s 4 ≠ 45 then (0, 0, 4, 4)
  else if cAt s 5 = 77 then
    if ¬ isDg s 6 then (0, 0, 4, 6) else if ¬ isDg s 7 then (0, 0, 4, 7) else if 8 < s.size then (0, 0, 4, 8)
    else if yr s 4 = 0 ∨ 10 * (cAt s 6 - 48) + (cAt s 7 - 48) < 1 ∨ 12 < 10 * (cAt s 6 - 48) + (cAt s 7 - 48) then (0, 0, 5, 0)
    else (1, (yr s 4 - 1) * 12 + (10 * (cAt s 6 - 48) + (cAt s 7 - 48)) - 1, 0, 0)
  else if cAt s 5 = 81 then
    if cAt s 6 < 49 ∨ 52 < cAt s 6 then (0, 0, 4, 6) else if 7 < s.size then (0, 0, 4, 7) else if yr s 4 = 0 then (0, 0, 5, 0) else (2, (yr s 4 - 1) * 4 + (cAt s 6 - 48) - 1, 0, 0)
  else if cAt s 5 = 72 then
    if cAt s 6 < 49 ∨ 50 < cAt s 6 then (0, 0, 4, 6) else if 7 < s.size then (0, 0, 4, 7) else if yr s 4 = 0 then (0, 0, 5, 0) else (3, (yr s 4 - 1) * 2 + (cAt s 6 - 48) - 1, 0, 0)
  else (0, 0, 4, 5)
theorem size_gt {s : ByteArray} {q : Nat} {v : Int} (hv : 1 ≤ v) (h : cAt s q = v) : q < s.size := cAt_lt (by omega)
theorem reads_pF {s : ByteArray} {k n x p : Int} (h : Reads s k n x p) : pF s = (k, n, x, p) := by
  unfold pF
  cases h with
  | bad4 q hq hi hb =>
    rcases (by omega : q = 0 ∨ q = 1 ∨ q = 2 ∨ q = 3) with rfl | rfl | rfl | rfl
    · rw [if_pos hb]; rfl
    · rw [if_neg (fun h => h (hi 0 (by omega))), if_pos hb]; rfl
    · rw [if_neg (fun h => h (hi 0 (by omega))), if_neg (fun h => h (hi 1 (by omega))), if_pos hb]; rfl
    · rw [if_neg (fun h => h (hi 0 (by omega))), if_neg (fun h => h (hi 1 (by omega))), if_neg (fun h => h (hi 2 (by omega))), if_pos hb]; rfl
  | y0 hi h4 y => rw [if_neg (fun h => h (hi 0 (by omega))), if_neg (fun h => h (hi 1 (by omega))), if_neg (fun h => h (hi 2 (by omega))), if_neg (fun h => h (hi 3 (by omega))), if_pos h4, if_pos y]
  | y1 hi h4 y => rw [if_neg (fun h => h (hi 0 (by omega))), if_neg (fun h => h (hi 1 (by omega))), if_neg (fun h => h (hi 2 (by omega))), if_neg (fun h => h (hi 3 (by omega))), if_pos h4, if_neg (by omega)]
  | dash hi hl h4 => rw [if_neg (fun h => h (hi 0 (by omega))), if_neg (fun h => h (hi 1 (by omega))), if_neg (fun h => h (hi 2 (by omega))), if_neg (fun h => h (hi 3 (by omega))), if_neg (by omega), if_pos h4]
  | kind hi h4 h5 h5' h5'' => rw [if_neg (fun h => h (hi 0 (by omega))), if_neg (fun h => h (hi 1 (by omega))), if_neg (fun h => h (hi 2 (by omega))), if_neg (fun h => h (hi 3 (by omega))), if_neg (by have := size_gt (s := s) (q := 4) (by omega) h4; omega), if_neg (fun h => h h4), if_neg h5, if_neg h5', if_neg h5'']
  | m6 hi h4 h5 h6 => rw [if_neg (fun h => h (hi 0 (by omega))), if_neg (fun h => h (hi 1 (by omega))), if_neg (fun h => h (hi 2 (by omega))), if_neg (fun h => h (hi 3 (by omega))), if_neg (by have := size_gt (s := s) (q := 4) (by omega) h4; omega), if_neg (fun h => h h4), if_pos h5, if_pos h6]
  | m7 hi h4 h5 h6 h7 => rw [if_neg (fun h => h (hi 0 (by omega))), if_neg (fun h => h (hi 1 (by omega))), if_neg (fun h => h (hi 2 (by omega))), if_neg (fun h => h (hi 3 (by omega))), if_neg (by have := size_gt (s := s) (q := 4) (by omega) h4; omega), if_neg (fun h => h h4), if_pos h5, if_neg (fun h => h h6), if_pos h7]
  | m8 hi h4 h5 h6 h7 h8 => rw [if_neg (fun h => h (hi 0 (by omega))), if_neg (fun h => h (hi 1 (by omega))), if_neg (fun h => h (hi 2 (by omega))), if_neg (fun h => h (hi 3 (by omega))), if_neg (by have := size_gt (s := s) (q := 4) (by omega) h4; omega), if_neg (fun h => h h4), if_pos h5, if_neg (fun h => h h6), if_neg (fun h => h h7), if_pos h8]
  | m0 hi h4 h5 h6 h7 h8 hb => rw [if_neg (fun h => h (hi 0 (by omega))), if_neg (fun h => h (hi 1 (by omega))), if_neg (fun h => h (hi 2 (by omega))), if_neg (fun h => h (hi 3 (by omega))), if_neg (by have := size_gt (s := s) (q := 4) (by omega) h4; omega), if_neg (fun h => h h4), if_pos h5, if_neg (fun h => h h6), if_neg (fun h => h h7), if_neg (by omega), if_pos hb]
  | m1 hi h4 h5 h6 h7 h8 y1 a1 a2 => rw [if_neg (fun h => h (hi 0 (by omega))), if_neg (fun h => h (hi 1 (by omega))), if_neg (fun h => h (hi 2 (by omega))), if_neg (fun h => h (hi 3 (by omega))), if_neg (by have := size_gt (s := s) (q := 4) (by omega) h4; omega), if_neg (fun h => h h4), if_pos h5, if_neg (fun h => h h6), if_neg (fun h => h h7), if_neg (by omega), if_neg (by omega)]
  | q6 hi h4 h5 h6 => rw [if_neg (fun h => h (hi 0 (by omega))), if_neg (fun h => h (hi 1 (by omega))), if_neg (fun h => h (hi 2 (by omega))), if_neg (fun h => h (hi 3 (by omega))), if_neg (by have := size_gt (s := s) (q := 4) (by omega) h4; omega), if_neg (fun h => h h4), if_neg (by omega), if_pos h5, if_pos h6]
  | q7 hi h4 h5 h6 h6' h7 => rw [if_neg (fun h => h (hi 0 (by omega))), if_neg (fun h => h (hi 1 (by omega))), if_neg (fun h => h (hi 2 (by omega))), if_neg (fun h => h (hi 3 (by omega))), if_neg (by have := size_gt (s := s) (q := 4) (by omega) h4; omega), if_neg (fun h => h h4), if_neg (by omega), if_pos h5, if_neg (by omega), if_pos h7]
  | q0 hi h4 h5 h6 h6' h7 y => rw [if_neg (fun h => h (hi 0 (by omega))), if_neg (fun h => h (hi 1 (by omega))), if_neg (fun h => h (hi 2 (by omega))), if_neg (fun h => h (hi 3 (by omega))), if_neg (by have := size_gt (s := s) (q := 4) (by omega) h4; omega), if_neg (fun h => h h4), if_neg (by omega), if_pos h5, if_neg (by omega), if_neg (by omega), if_pos y]
  | q1 hi h4 h5 h6 h6' h7 y => rw [if_neg (fun h => h (hi 0 (by omega))), if_neg (fun h => h (hi 1 (by omega))), if_neg (fun h => h (hi 2 (by omega))), if_neg (fun h => h (hi 3 (by omega))), if_neg (by have := size_gt (s := s) (q := 4) (by omega) h4; omega), if_neg (fun h => h h4), if_neg (by omega), if_pos h5, if_neg (by omega), if_neg (by omega), if_neg (by omega)]
  | h6 hi h4 h5 h6 => rw [if_neg (fun h => h (hi 0 (by omega))), if_neg (fun h => h (hi 1 (by omega))), if_neg (fun h => h (hi 2 (by omega))), if_neg (fun h => h (hi 3 (by omega))), if_neg (by have := size_gt (s := s) (q := 4) (by omega) h4; omega), if_neg (fun h => h h4), if_neg (by omega), if_neg (by omega), if_pos h5, if_pos h6]
  | h7 hi h4 h5 h6 h6' h7 => rw [if_neg (fun h => h (hi 0 (by omega))), if_neg (fun h => h (hi 1 (by omega))), if_neg (fun h => h (hi 2 (by omega))), if_neg (fun h => h (hi 3 (by omega))), if_neg (by have := size_gt (s := s) (q := 4) (by omega) h4; omega), if_neg (fun h => h h4), if_neg (by omega), if_neg (by omega), if_pos h5, if_neg (by omega), if_pos h7]
  | h0 hi h4 h5 h6 h6' h7 y => rw [if_neg (fun h => h (hi 0 (by omega))), if_neg (fun h => h (hi 1 (by omega))), if_neg (fun h => h (hi 2 (by omega))), if_neg (fun h => h (hi 3 (by omega))), if_neg (by have := size_gt (s := s) (q := 4) (by omega) h4; omega), if_neg (fun h => h h4), if_neg (by omega), if_neg (by omega), if_pos h5, if_neg (by omega), if_neg (by omega), if_pos y]
  | h1 hi h4 h5 h6 h6' h7 y => rw [if_neg (fun h => h (hi 0 (by omega))), if_neg (fun h => h (hi 1 (by omega))), if_neg (fun h => h (hi 2 (by omega))), if_neg (fun h => h (hi 3 (by omega))), if_neg (by have := size_gt (s := s) (q := 4) (by omega) h4; omega), if_neg (fun h => h h4), if_neg (by omega), if_neg (by omega), if_pos h5, if_neg (by omega), if_neg (by omega), if_neg (by omega)]
theorem four_digits (y : Nat) (h : y < 10000) : 1000 * (((48 + y / 100 / 10 % 10 : Nat) : Int) - 48) + 100 * (((48 + y / 100 % 10 : Nat) : Int) - 48) + 10 * (((48 + y / 10 % 10 : Nat) : Int) - 48) + (((48 + y % 10 : Nat) : Int) - 48) = y := by omega
theorem reads_fun {s : ByteArray} {k n x p k' n' x' p' : Int} (h : Reads s k n x p) (h' : Reads s k' n' x' p') : k = k' ∧ n = n' ∧ x = x' ∧ p = p' := by
  have := (reads_pF h).symm.trans (reads_pF h')
  simpa using this
/-- What is read with an error. -/
theorem reads_err {s : ByteArray} {k n x p : Int} (h : Reads s k n x p) (hx : x ≠ 0) : k = 0 ∧ n = 0 ∧ 0 ≤ p ∧ p ≤ s.size := by
  cases h with
  | bad4 q hq hi hb =>
    refine ⟨rfl, rfl, by omega, ?_⟩
    rcases Nat.eq_zero_or_pos q with g | g
    · omega
    · have h1 := hi (q - 1) (by omega)
      have : q - 1 < s.size := cAt_lt (by unfold isDg at h1; omega)
      omega
  | y0 hi h4 y => exact ⟨rfl, rfl, by omega, by omega⟩
  | dash hi hl h4 => exact ⟨rfl, rfl, by omega, by omega⟩
  | kind hi h4 h5 h5' h5'' => exact ⟨rfl, rfl, by omega, by have := size_gt (s := s) (q := 4) (by omega) h4; omega⟩
  | m6 hi h4 h5 h6 => exact ⟨rfl, rfl, by omega, by have := size_gt (s := s) (q := 5) (by omega) h5; omega⟩
  | m7 hi h4 h5 h6 h7 => exact ⟨rfl, rfl, by omega, by have : 6 < s.size := cAt_lt (by unfold isDg at h6; omega); omega⟩
  | m8 hi h4 h5 h6 h7 h8 => exact ⟨rfl, rfl, by omega, by omega⟩
  | m0 hi h4 h5 h6 h7 h8 hb => exact ⟨rfl, rfl, by omega, by omega⟩
  | q6 hi h4 h5 h6 => exact ⟨rfl, rfl, by omega, by have := size_gt (s := s) (q := 5) (by omega) h5; omega⟩
  | q7 hi h4 h5 h6 h6' h7 => exact ⟨rfl, rfl, by omega, by omega⟩
  | q0 hi h4 h5 h6 h6' h7 y => exact ⟨rfl, rfl, by omega, by omega⟩
  | h6 hi h4 h5 h6 => exact ⟨rfl, rfl, by omega, by have := size_gt (s := s) (q := 5) (by omega) h5; omega⟩
  | h7 hi h4 h5 h6 h6' h7 => exact ⟨rfl, rfl, by omega, by omega⟩
  | h0 hi h4 h5 h6 h6' h7 y => exact ⟨rfl, rfl, by omega, by omega⟩
  | y1 hi h4 y => exact absurd rfl hx
  | m1 hi h4 h5 h6 h7 h8 y1 a1 a2 => exact absurd rfl hx
  | q1 hi h4 h5 h6 h6' h7 y => exact absurd rfl hx
  | h1 hi h4 h5 h6 h6' h7 y => exact absurd rfl hx
theorem cAt_str {xs : List Int} (hx : ∀ x ∈ xs, 0 ≤ x ∧ x ≤ 255) (q : Nat) : cAt (strOfNums xs) q = xs.getD q 0 := by unfold cAt; rw [nums_str xs hx]
theorem yr_four (s : ByteArray) : yr s 4 = 1000 * (cAt s 0 - 48) + 100 * (cAt s 1 - 48) + 10 * (cAt s 2 - 48) + (cAt s 3 - 48) := by
  have e : yr s 4 = 10 * (10 * (10 * (10 * 0 + (cAt s 0 - 48)) + (cAt s 1 - 48)) + (cAt s 2 - 48)) + (cAt s 3 - 48) := rfl
  rw [e]; omega
theorem pText_month (y a : Nat) : pText 1 y a = [((48 + y / 100 / 10 % 10 : Nat) : Int), ((48 + y / 100 % 10 : Nat) : Int), ((48 + y / 10 % 10 : Nat) : Int), ((48 + y % 10 : Nat) : Int), 45, 77, ((48 + a / 10 % 10 : Nat) : Int), ((48 + a % 10 : Nat) : Int)] := by simp [pText, Civ.digL]
theorem bytes_month (y a : Nat) : ∀ x ∈ pText 1 y a, 0 ≤ x ∧ x ≤ 255 := by
  rw [pText_month]
  intro x hx
  simp at hx
  omega
theorem treads_month {p : Int} {y a : Nat} (h0 : 0 ≤ p) (hp : p * 1 < 119988) (hy : p * 1 / 12 + 1 = y) (ha : p * 1 % 12 / 1 + 1 = a) : Reads (strOfNums (pText 1 y a)) 1 p 0 0 := by
  have c := cAt_str (bytes_month y a)
  have hs : (strOfNums (pText 1 y a)).size = 8 := by rw [strOfNums_size, pText_month]; rfl
  rw [pText_month] at c hs ⊢
  generalize strOfNums _ = s at *
  have c0 : cAt s 0 = ((48 + y / 100 / 10 % 10 : Nat) : Int) := c 0
  have c1 : cAt s 1 = ((48 + y / 100 % 10 : Nat) : Int) := c 1
  have c2 : cAt s 2 = ((48 + y / 10 % 10 : Nat) : Int) := c 2
  have c3 : cAt s 3 = ((48 + y % 10 : Nat) : Int) := c 3
  have c4 : cAt s 4 = 45 := c 4
  have c5 : cAt s 5 = 77 := c 5
  have c6 : cAt s 6 = ((48 + a / 10 % 10 : Nat) : Int) := c 6
  have c7 : cAt s 7 = ((48 + a % 10 : Nat) : Int) := c 7
  clear c
  have hi : ∀ i, i < 4 → isDg s i := by
    intro i hi
    unfold isDg
    rcases (by omega : i = 0 ∨ i = 1 ∨ i = 2 ∨ i = 3) with rfl | rfl | rfl | rfl <;> omega
  have hY : yr s 4 = y := by rw [yr_four, c0, c1, c2, c3]; exact four_digits y (by omega)
  have h := Reads.m1 hi c4 c5 (by unfold isDg; omega) (by unfold isDg; omega) hs (by omega) (by omega) (by omega)
  rw [hY] at h
  have e : ((y : Int) - 1) * 12 + (10 * (cAt s 6 - 48) + (cAt s 7 - 48)) - 1 = p := by omega
  rw [e] at h
  exact h
theorem pText_quarter (y a : Nat) : pText 2 y a = [((48 + y / 100 / 10 % 10 : Nat) : Int), ((48 + y / 100 % 10 : Nat) : Int), ((48 + y / 10 % 10 : Nat) : Int), ((48 + y % 10 : Nat) : Int), 45, 81, ((48 + a % 10 : Nat) : Int)] := by simp [pText, Civ.digL]
theorem bytes_quarter (y a : Nat) : ∀ x ∈ pText 2 y a, 0 ≤ x ∧ x ≤ 255 := by
  rw [pText_quarter]
  intro x hx
  simp at hx
  omega
theorem treads_quarter {p : Int} {y a : Nat} (h0 : 0 ≤ p) (hp : p * 3 < 119988) (hy : p * 3 / 12 + 1 = y) (ha : p * 3 % 12 / 3 + 1 = a) : Reads (strOfNums (pText 2 y a)) 2 p 0 0 := by
  have c := cAt_str (bytes_quarter y a)
  have hs : (strOfNums (pText 2 y a)).size = 7 := by rw [strOfNums_size, pText_quarter]; rfl
  rw [pText_quarter] at c hs ⊢
  generalize strOfNums _ = s at *
  have c0 : cAt s 0 = ((48 + y / 100 / 10 % 10 : Nat) : Int) := c 0
  have c1 : cAt s 1 = ((48 + y / 100 % 10 : Nat) : Int) := c 1
  have c2 : cAt s 2 = ((48 + y / 10 % 10 : Nat) : Int) := c 2
  have c3 : cAt s 3 = ((48 + y % 10 : Nat) : Int) := c 3
  have c4 : cAt s 4 = 45 := c 4
  have c5 : cAt s 5 = 81 := c 5
  have c6 : cAt s 6 = ((48 + a % 10 : Nat) : Int) := c 6
  clear c
  have hi : ∀ i, i < 4 → isDg s i := by
    intro i hi
    unfold isDg
    rcases (by omega : i = 0 ∨ i = 1 ∨ i = 2 ∨ i = 3) with rfl | rfl | rfl | rfl <;> omega
  have hY : yr s 4 = y := by rw [yr_four, c0, c1, c2, c3]; exact four_digits y (by omega)
  have h := Reads.q1 hi c4 c5 (by omega) (by omega) hs (by omega)
  rw [hY] at h
  have e : ((y : Int) - 1) * 4 + (cAt s 6 - 48) - 1 = p := by omega
  rw [e] at h
  exact h
theorem pText_half (y a : Nat) : pText 3 y a = [((48 + y / 100 / 10 % 10 : Nat) : Int), ((48 + y / 100 % 10 : Nat) : Int), ((48 + y / 10 % 10 : Nat) : Int), ((48 + y % 10 : Nat) : Int), 45, 72, ((48 + a % 10 : Nat) : Int)] := by simp [pText, Civ.digL]
theorem bytes_half (y a : Nat) : ∀ x ∈ pText 3 y a, 0 ≤ x ∧ x ≤ 255 := by
  rw [pText_half]
  intro x hx
  simp at hx
  omega
theorem treads_half {p : Int} {y a : Nat} (h0 : 0 ≤ p) (hp : p * 6 < 119988) (hy : p * 6 / 12 + 1 = y) (ha : p * 6 % 12 / 6 + 1 = a) : Reads (strOfNums (pText 3 y a)) 3 p 0 0 := by
  have c := cAt_str (bytes_half y a)
  have hs : (strOfNums (pText 3 y a)).size = 7 := by rw [strOfNums_size, pText_half]; rfl
  rw [pText_half] at c hs ⊢
  generalize strOfNums _ = s at *
  have c0 : cAt s 0 = ((48 + y / 100 / 10 % 10 : Nat) : Int) := c 0
  have c1 : cAt s 1 = ((48 + y / 100 % 10 : Nat) : Int) := c 1
  have c2 : cAt s 2 = ((48 + y / 10 % 10 : Nat) : Int) := c 2
  have c3 : cAt s 3 = ((48 + y % 10 : Nat) : Int) := c 3
  have c4 : cAt s 4 = 45 := c 4
  have c5 : cAt s 5 = 72 := c 5
  have c6 : cAt s 6 = ((48 + a % 10 : Nat) : Int) := c 6
  clear c
  have hi : ∀ i, i < 4 → isDg s i := by
    intro i hi
    unfold isDg
    rcases (by omega : i = 0 ∨ i = 1 ∨ i = 2 ∨ i = 3) with rfl | rfl | rfl | rfl <;> omega
  have hY : yr s 4 = y := by rw [yr_four, c0, c1, c2, c3]; exact four_digits y (by omega)
  have h := Reads.h1 hi c4 c5 (by omega) (by omega) hs (by omega)
  rw [hY] at h
  have e : ((y : Int) - 1) * 2 + (cAt s 6 - 48) - 1 = p := by omega
  rw [e] at h
  exact h
theorem pText_year (y a : Nat) : pText 4 y a = [((48 + y / 100 / 10 % 10 : Nat) : Int), ((48 + y / 100 % 10 : Nat) : Int), ((48 + y / 10 % 10 : Nat) : Int), ((48 + y % 10 : Nat) : Int)] := by simp [pText, Civ.digL]
theorem bytes_year (y a : Nat) : ∀ x ∈ pText 4 y a, 0 ≤ x ∧ x ≤ 255 := by
  rw [pText_year]
  intro x hx
  simp at hx
  omega
theorem treads_year {p : Int} {y a : Nat} (h0 : 0 ≤ p) (hp : p * 12 < 119988) (hy : p * 12 / 12 + 1 = y) (ha : p * 12 % 12 / 12 + 1 = a) : Reads (strOfNums (pText 4 y a)) 4 p 0 0 := by
  have c := cAt_str (bytes_year y a)
  have hs : (strOfNums (pText 4 y a)).size = 4 := by rw [strOfNums_size, pText_year]; rfl
  rw [pText_year] at c hs ⊢
  generalize strOfNums _ = s at *
  have c0 : cAt s 0 = ((48 + y / 100 / 10 % 10 : Nat) : Int) := c 0
  have c1 : cAt s 1 = ((48 + y / 100 % 10 : Nat) : Int) := c 1
  have c2 : cAt s 2 = ((48 + y / 10 % 10 : Nat) : Int) := c 2
  have c3 : cAt s 3 = ((48 + y % 10 : Nat) : Int) := c 3
  clear c
  have hi : ∀ i, i < 4 → isDg s i := by
    intro i hi
    unfold isDg
    rcases (by omega : i = 0 ∨ i = 1 ∨ i = 2 ∨ i = 3) with rfl | rfl | rfl | rfl <;> omega
  have hY : yr s 4 = y := by rw [yr_four, c0, c1, c2, c3]; exact four_digits y (by omega)
  have h := Reads.y1 hi hs (by omega)
  rw [hY] at h
  rw [show p = (y : Int) - 1 by omega]
  exact h
theorem text_reads {k n p : Int} {y a : Nat} (h : InKind k n) (h0 : 0 ≤ p) (hp : p * n < 119988) (hy : p * n / 12 + 1 = y) (ha : p * n % 12 / n + 1 = a) : Reads (strOfNums (pText k y a)) k p 0 0 := by
  rcases h with ⟨rfl, rfl⟩ | ⟨rfl, rfl⟩ | ⟨rfl, rfl⟩ | ⟨rfl, rfl⟩
  · exact treads_month h0 hp hy ha
  · exact treads_quarter h0 hp hy ha
  · exact treads_half h0 hp hy ha
  · exact treads_year h0 hp hy ha
/-- A text of so many bytes. -/
theorem nums_of4 {s : ByteArray} (h : s.size = 4) : nums s = [cAt s 0, cAt s 1, cAt s 2, cAt s 3] := by
  have hl := nums_len s
  rw [h] at hl
  unfold cAt
  match nums s, hl with
  | [x0, x1, x2, x3], _ => rfl
theorem nums_of7 {s : ByteArray} (h : s.size = 7) : nums s = [cAt s 0, cAt s 1, cAt s 2, cAt s 3, cAt s 4, cAt s 5, cAt s 6] := by
  have hl := nums_len s
  rw [h] at hl
  unfold cAt
  match nums s, hl with
  | [x0, x1, x2, x3, x4, x5, x6], _ => rfl
theorem nums_of8 {s : ByteArray} (h : s.size = 8) : nums s = [cAt s 0, cAt s 1, cAt s 2, cAt s 3, cAt s 4, cAt s 5, cAt s 6, cAt s 7] := by
  have hl := nums_len s
  rw [h] at hl
  unfold cAt
  match nums s, hl with
  | [x0, x1, x2, x3, x4, x5, x6, x7], _ => rfl
/-- What is read is told as it was. -/
theorem reads_text {s : ByteArray} {k p q : Int} (h : Reads s k p 0 q) : q = 0 ∧ ∃ (n : Int) (y a : Nat), InKind k n ∧ 0 ≤ p ∧ p * n < 119988 ∧ p * n / 12 + 1 = y ∧ p * n % 12 / n + 1 = a ∧ strOfNums (pText k y a) = s := by
  cases h with
  | y1 hi hs y1 =>
    have d0 : 48 ≤ cAt s 0 ∧ cAt s 0 ≤ 57 := hi 0 (by omega)
    have d1 : 48 ≤ cAt s 1 ∧ cAt s 1 ≤ 57 := hi 1 (by omega)
    have d2 : 48 ≤ cAt s 2 ∧ cAt s 2 ≤ 57 := hi 2 (by omega)
    have d3 : 48 ≤ cAt s 3 ∧ cAt s 3 ≤ 57 := hi 3 (by omega)
    have hY := yr_four s
    have hn := nums_of4 hs
    obtain ⟨y, hy⟩ := Int.eq_ofNat_of_zero_le (show 0 ≤ yr s 4 by omega)
    obtain ⟨a, ha⟩ := Int.eq_ofNat_of_zero_le (show (0 : Int) ≤ 1 by omega)
    refine ⟨rfl, 12, y, a, .inr (.inr (.inr ⟨rfl, rfl⟩)), by omega, by omega, by omega, by omega, ?_⟩
    rw [← str_nums s, hn, pText_year]
    congr 1
    simp only [List.cons.injEq, and_true]
    refine ⟨?_, ?_, ?_, ?_⟩ <;> omega
  | m1 hi h4 h5 h6 h7 hs y1 a1 a2 =>
    have d0 : 48 ≤ cAt s 0 ∧ cAt s 0 ≤ 57 := hi 0 (by omega)
    have d1 : 48 ≤ cAt s 1 ∧ cAt s 1 ≤ 57 := hi 1 (by omega)
    have d2 : 48 ≤ cAt s 2 ∧ cAt s 2 ≤ 57 := hi 2 (by omega)
    have d3 : 48 ≤ cAt s 3 ∧ cAt s 3 ≤ 57 := hi 3 (by omega)
    have d6 : 48 ≤ cAt s 6 ∧ cAt s 6 ≤ 57 := h6
    have d7 : 48 ≤ cAt s 7 ∧ cAt s 7 ≤ 57 := h7
    have hY := yr_four s
    have hn := nums_of8 hs
    obtain ⟨y, hy⟩ := Int.eq_ofNat_of_zero_le (show 0 ≤ yr s 4 by omega)
    obtain ⟨a, ha⟩ := Int.eq_ofNat_of_zero_le (show (0 : Int) ≤ 10 * (cAt s 6 - 48) + (cAt s 7 - 48) by omega)
    refine ⟨rfl, 1, y, a, .inl ⟨rfl, rfl⟩, by omega, by omega, by omega, by omega, ?_⟩
    rw [← str_nums s, hn, pText_month]
    congr 1
    simp only [List.cons.injEq, and_true]
    refine ⟨?_, ?_, ?_, ?_, ?_, ?_, ?_, ?_⟩ <;> omega
  | q1 hi h4 h5 h6 h6' hs y1 =>
    have d0 : 48 ≤ cAt s 0 ∧ cAt s 0 ≤ 57 := hi 0 (by omega)
    have d1 : 48 ≤ cAt s 1 ∧ cAt s 1 ≤ 57 := hi 1 (by omega)
    have d2 : 48 ≤ cAt s 2 ∧ cAt s 2 ≤ 57 := hi 2 (by omega)
    have d3 : 48 ≤ cAt s 3 ∧ cAt s 3 ≤ 57 := hi 3 (by omega)
    have hY := yr_four s
    have hn := nums_of7 hs
    obtain ⟨y, hy⟩ := Int.eq_ofNat_of_zero_le (show 0 ≤ yr s 4 by omega)
    obtain ⟨a, ha⟩ := Int.eq_ofNat_of_zero_le (show (0 : Int) ≤ cAt s 6 - 48 by omega)
    refine ⟨rfl, 3, y, a, .inr (.inl ⟨rfl, rfl⟩), by omega, by omega, by omega, by omega, ?_⟩
    rw [← str_nums s, hn, pText_quarter]
    congr 1
    simp only [List.cons.injEq, and_true]
    refine ⟨?_, ?_, ?_, ?_, ?_, ?_, ?_⟩ <;> omega
  | h1 hi h4 h5 h6 h6' hs y1 =>
    have d0 : 48 ≤ cAt s 0 ∧ cAt s 0 ≤ 57 := hi 0 (by omega)
    have d1 : 48 ≤ cAt s 1 ∧ cAt s 1 ≤ 57 := hi 1 (by omega)
    have d2 : 48 ≤ cAt s 2 ∧ cAt s 2 ≤ 57 := hi 2 (by omega)
    have d3 : 48 ≤ cAt s 3 ∧ cAt s 3 ≤ 57 := hi 3 (by omega)
    have hY := yr_four s
    have hn := nums_of7 hs
    obtain ⟨y, hy⟩ := Int.eq_ofNat_of_zero_le (show 0 ≤ yr s 4 by omega)
    obtain ⟨a, ha⟩ := Int.eq_ofNat_of_zero_le (show (0 : Int) ≤ cAt s 6 - 48 by omega)
    refine ⟨rfl, 6, y, a, .inr (.inr (.inl ⟨rfl, rfl⟩)), by omega, by omega, by omega, by omega, ?_⟩
    rw [← str_nums s, hn, pText_half]
    congr 1
    simp only [List.cons.injEq, and_true]
    refine ⟨?_, ?_, ?_, ?_, ?_, ?_, ?_⟩ <;> omega
/-- What 'Parse' hands back, as a function. -/
theorem pparse_is {s : ByteArray} (hs : s.size ≤ 9223372036854775807) {k n x p : Int} (h : Reads s k n x p) (w : World) : Calls Try.prog 35 #[.string s] w fun r w' => r = .returned (.tuple #[.int .i64 k, .int .i64 n, .agg #[.int .i64 x, .int .i64 p]]) ∧ Below w.heap.size w w' := by
  refine (pparse_any s hs w).mono ?_
  rintro e w1 ⟨k', n', x', p', hr, rfl, hb⟩
  obtain ⟨rfl, rfl, rfl, rfl⟩ := reads_fun h hr
  exact ⟨rfl, hb⟩
theorem pparse_lit (s : ByteArray) (hs : s.size ≤ 9223372036854775807) {k n x p : Int} (h : pF s = (k, n, x, p)) (w : World) : Calls Try.prog 35 #[.string s] w fun r w' => r = .returned (.tuple #[.int .i64 k, .int .i64 n, .agg #[.int .i64 x, .int .i64 p]]) ∧ Below w.heap.size w w' := by
  refine (pparse_any s hs w).mono ?_
  rintro e w1 ⟨k', n', x', p', hr, rfl, hb⟩
  have e := reads_pF hr
  rw [h] at e
  simp only [Prod.mk.injEq] at e
  obtain ⟨rfl, rfl, rfl, rfl⟩ := e
  exact ⟨rfl, hb⟩
end Go.Proofs.Ytdjkdfgifajilaa
