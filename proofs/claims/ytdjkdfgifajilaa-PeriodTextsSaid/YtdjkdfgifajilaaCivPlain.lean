/- Plain mathematics of the calendar: no program here. -/
namespace Go.Proofs.Ytdjkdfgifajilaa.Civ
def lp (y : Int) : Int := if y % 4 = 0 ∧ (y % 100 ≠ 0 ∨ y % 400 = 0) then 1 else 0
theorem lp01 (y : Int) : 0 ≤ lp y ∧ lp y ≤ 1 := by unfold lp; split <;> omega
/-- How many days a month has. -/
def dim (y m : Int) : Int := if y < 1 ∨ 9999 < y ∨ m < 1 ∨ 12 < m then 0 else if m = 2 then 28 + lp y else if m = 4 ∨ m = 6 ∨ m = 9 ∨ m = 11 then 30 else 31
theorem dim_lo (y m : Int) : 0 ≤ dim y m ∧ dim y m ≤ 31 := by
  have := lp01 y
  unfold dim; split
  · omega
  · split
    · omega
    · split <;> omega
/-- The days of all years ahead of one. -/
def ahead (y : Int) : Int := 365 * (y - 1) + (y - 1) / 4 - (y - 1) / 100 + (y - 1) / 400
theorem ahead_succ (y : Int) : ahead (y + 1) = ahead y + 365 + lp y := by unfold ahead lp; split <;> omega
theorem ahead_era (q : Int) : ahead (400 * q + 1) = 146097 * q := by unfold ahead; omega
theorem ahead_lo (y : Int) (h : 1 ≤ y) (h2 : y ≤ 10000) : 0 ≤ ahead y ∧ ahead y ≤ 3652059 := by unfold ahead; omega
theorem ahead_mono (a b : Int) (h : a ≤ b) : ahead a ≤ ahead b := by unfold ahead; omega
/-- The days of a year's months ahead of one. -/
def cum (y : Int) : Nat → Int
  | 0 => 0
  | m + 1 => cum y m + (if m = 0 then 0 else dim y m)
theorem cum_one (y : Int) : cum y 1 = 0 := rfl
theorem cum_succ (y : Int) (m : Nat) (h : 1 ≤ m) : cum y (m + 1) = cum y m + dim y m := by rw [cum, if_neg (by omega)]
theorem cum_lo (y : Int) (m : Nat) : 0 ≤ cum y m ∧ cum y m ≤ 31 * m := by
  induction m with
  | zero => simp [cum]
  | succ m ih =>
    have := dim_lo y m
    rw [cum]; split <;> omega
theorem cum_le (y : Int) (a b : Nat) (h : a ≤ b) : cum y a ≤ cum y b := by
  induction b with
  | zero => obtain rfl : a = 0 := by omega
            omega
  | succ b ih =>
    rcases Nat.lt_or_ge a (b + 1) with h1 | h1
    · have := ih (by omega)
      have := dim_lo y b
      rw [cum]; split <;> omega
    · obtain rfl : a = b + 1 := by omega
      omega
theorem cum_year (y : Int) (h1 : 1 ≤ y) (h2 : y ≤ 9999) : cum y 13 = 365 + lp y := by
  simp only [cum, dim]
  simp only [show ¬ (y < 1) by omega, show ¬ (9999 < y) by omega, false_or]
  simp
  omega
/-- Is (y, m, d) a date? -/
def IsD (y : Int) (m : Nat) (d : Int) : Prop := 1 ≤ y ∧ y ≤ 9999 ∧ 1 ≤ m ∧ m ≤ 12 ∧ 1 ≤ d ∧ d ≤ dim y m
def num (y : Int) (m : Nat) (d : Int) : Int := ahead y + cum y m + d - 1
theorem isD_of (y m d : Int) (h1 : 1 ≤ d) (h2 : d ≤ dim y m) : ∃ k : Nat, m = k ∧ IsD y k d := by
  by_cases h : y < 1 ∨ 9999 < y ∨ m < 1 ∨ 12 < m
  · unfold dim at h2; rw [if_pos h] at h2; omega
  · refine ⟨m.toNat, by omega, by omega, by omega, by omega, by omega, h1, ?_⟩
    rw [Int.toNat_of_nonneg (by omega)]; exact h2
theorem num_year {y d : Int} {m : Nat} (h : IsD y m d) : ahead y ≤ num y m d ∧ num y m d < ahead (y + 1) := by
  obtain ⟨h1, h2, h3, h4, h5, h6⟩ := h
  have e := ahead_succ y
  have c := cum_le y (m + 1) 13 (by omega)
  rw [cum_succ y m h3, cum_year y h1 h2] at c
  have := cum_lo y m
  unfold num; omega
theorem num_range {y d : Int} {m : Nat} (h : IsD y m d) : 0 ≤ num y m d ∧ num y m d ≤ 3652058 := by
  have h1 := num_year h
  have h2 := ahead_lo y h.1 (by have := h.2.1; omega)
  have h3 := ahead_mono (y + 1) 10000 (by have := h.2.1; omega)
  have h4 : ahead 10000 = 3652059 := by decide
  omega
/-- Of two dates the greater number is the later. -/
theorem num_lt {y y' d d' : Int} {m m' : Nat} (h : IsD y m d) (h' : IsD y' m' d') (hl : y < y' ∨ (y = y' ∧ (m < m' ∨ (m = m' ∧ d < d')))) : num y m d < num y' m' d' := by
  rcases hl with hl | ⟨rfl, hl | ⟨rfl, hl⟩⟩
  · have a := (num_year h).2
    have b := (num_year h').1
    have c := ahead_mono (y + 1) y' (by omega)
    omega
  · have c := cum_le y (m + 1) m' (by omega)
    rw [cum_succ y m h.2.2.1] at c
    have := h.2.2.2.2.2; have := h'.2.2.2.2.1
    unfold num; omega
  · unfold num; omega
theorem num_inj {y y' d d' : Int} {m m' : Nat} (h : IsD y m d) (h' : IsD y' m' d') (e : num y m d = num y' m' d') : y = y' ∧ m = m' ∧ d = d' := by
  rcases (by omega : y < y' ∨ (y = y' ∧ (m < m' ∨ (m = m' ∧ d < d'))) ∨ y' < y ∨ (y' = y ∧ (m' < m ∨ (m' = m ∧ d' < d))) ∨ (y = y' ∧ m = m' ∧ d = d')) with h1 | h1 | h1 | h1 | h1
  · have := num_lt h h' (.inl h1); omega
  · have := num_lt h h' (.inr h1); omega
  · have := num_lt h' h (.inl h1); omega
  · have := num_lt h' h (.inr h1); omega
  · exact h1
/-- The first guess of a year is right. -/
theorem year_guess (day q r c r1 f r2 o : Int) (h0 : 0 ≤ day) (h1 : day ≤ 3652058) (hq : q = day / 146097) (hr : r = day % 146097) (hc : c = min (r / 36524) 3) (hr1 : r1 = r - c * 36524) (hf : f = r1 / 1461) (hr2 : r2 = r1 % 1461) (ho : o = min (r2 / 365) 3) :
    let y := 400 * q + 100 * c + 4 * f + o + 1
    1 ≤ y ∧ y ≤ 9999 ∧ ahead y + (r2 - 365 * o) = day ∧ 0 ≤ r2 - 365 * o ∧ r2 - 365 * o < 365 + lp y := by
  intro y
  have hq2 : 0 ≤ q ∧ q ≤ 24 := by omega
  have hr3 : 0 ≤ r ∧ r < 146097 ∧ day = 146097 * q + r := by omega
  have hc2 : 0 ≤ c ∧ c ≤ 3 ∧ 0 ≤ r1 ∧ r1 ≤ 36524 ∧ (c < 3 → r1 < 36524) := by omega
  have hf2 : 0 ≤ f ∧ f ≤ 24 ∧ 0 ≤ r2 ∧ r2 ≤ 1460 ∧ r1 = 1461 * f + r2 := by omega
  have ho2 : 0 ≤ o ∧ o ≤ 3 ∧ 0 ≤ r2 - 365 * o ∧ r2 - 365 * o ≤ 365 ∧ (o < 3 → r2 - 365 * o < 365) := by omega
  have ha : ahead y = 146097 * q + 36524 * c + 1461 * f + 365 * o := by
    show 365 * (y - 1) + (y - 1) / 4 - (y - 1) / 100 + (y - 1) / 400 = _
    have e1 : (y - 1) / 400 = q := by omega
    have e2 : (y - 1) / 100 = 4 * q + c := by omega
    have e3 : (y - 1) / 4 = 100 * q + 25 * c + f := by omega
    rw [e1, e2, e3]; omega
  have hy : 1 ≤ y := by omega
  have hlast : r2 - 365 * o < 365 + lp y := by
    by_cases h : r2 - 365 * o < 365
    · have := lp01 y; omega
    · have h4 : y % 4 = 0 := by omega
      have h5 : y % 100 ≠ 0 ∨ y % 400 = 0 := by omega
      have : lp y = 1 := by unfold lp; rw [if_pos ⟨h4, h5⟩]
      omega
  refine ⟨hy, ?_, by rw [ha]; omega, ho2.2.2.1, hlast⟩
  have h9 : ahead y ≤ 3652058 := by rw [ha]; omega
  rcases Int.lt_or_le 9999 y with h | h
  · have := ahead_mono 10000 y (by omega)
    have : ahead 10000 = 3652059 := by decide
    omega
  · exact h
theorem dim_pos (y : Int) (m : Nat) (h1 : 1 ≤ y) (h2 : y ≤ 9999) (h3 : 1 ≤ m) (h4 : m ≤ 12) : 28 ≤ dim y m := by
  have := lp01 y
  unfold dim; rw [if_neg (by omega)]; split
  · omega
  · split <;> omega
end Go.Proofs.Ytdjkdfgifajilaa.Civ
