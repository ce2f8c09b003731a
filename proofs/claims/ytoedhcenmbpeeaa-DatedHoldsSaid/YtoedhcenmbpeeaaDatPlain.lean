/- Plain mathematics of values that hold from a day on: no program here. -/
namespace Go.Proofs.Ytoedhcenmbpeeaa.Dat
def Valid (d : Int) : Prop := 0 ≤ d ∧ d ≤ 3652058
instance (d : Int) : Decidable (Valid d) := by unfold Valid; infer_instance
/-- Why a list may not be, from some value on, behind one of day q (-1: none). -/
def chkFrom : Int → List (Int × Int) → Int
  | _, [] => 0
  | q, x :: t => if ¬ Valid x.1 then 5 else if x.1 ≤ q then 2 else chkFrom x.1 t
def chk (l : List (Int × Int)) : Int := if 200 < l.length then 3 else chkFrom (-1) l
/-- The day of the value ahead of a place. -/
def prev (l : List (Int × Int)) (j : Nat) : Int := if j = 0 then -1 else (l.getD (j - 1) (0, 0)).1
theorem drop_at {l : List (Int × Int)} {m : Nat} {x : Int × Int} (h : l[m]? = some x) : l.drop m = x :: l.drop (m + 1) := by
  obtain ⟨hm, rfl⟩ := List.getElem?_eq_some_iff.1 h
  exact List.drop_eq_getElem_cons hm
theorem prev_succ {l : List (Int × Int)} {j : Nat} {x : Int × Int} (h : l[j]? = some x) : prev l (j + 1) = x.1 := by
  unfold prev
  rw [if_neg (by omega), Nat.add_sub_cancel, List.getD, h]
  rfl
theorem chk_step_bad {l : List (Int × Int)} {j : Nat} {x : Int × Int} (h : l[j]? = some x) (hv : ¬ Valid x.1) : chkFrom (prev l j) (l.drop j) = 5 := by
  rw [drop_at h, chkFrom, if_pos hv]
theorem chk_step_arg {l : List (Int × Int)} {j : Nat} {x : Int × Int} (h : l[j]? = some x) (hv : Valid x.1) (hq : x.1 ≤ prev l j) : chkFrom (prev l j) (l.drop j) = 2 := by
  rw [drop_at h, chkFrom, if_neg (by simpa using hv), if_pos hq]
theorem chk_step_ok {l : List (Int × Int)} {j : Nat} {x : Int × Int} (h : l[j]? = some x) (hv : Valid x.1) (hq : ¬ x.1 ≤ prev l j) : chkFrom (prev l j) (l.drop j) = chkFrom (prev l (j + 1)) (l.drop (j + 1)) := by
  rw [prev_succ h, drop_at h, chkFrom, if_neg (by simpa using hv), if_neg hq]
/-- May a list be? -/
def Ok (l : List (Int × Int)) : Prop := l.length ≤ 200 ∧ (∀ x ∈ l, Valid x.1) ∧ l.Pairwise fun x y => x.1 < y.1
theorem chkFrom_ok : ∀ (l : List (Int × Int)) (q : Int), chkFrom q l = 0 ↔ (∀ x ∈ l, Valid x.1 ∧ q < x.1) ∧ l.Pairwise fun x y => x.1 < y.1 := by
  intro l
  induction l with
  | nil => intro q; simp [chkFrom]
  | cons x t ih =>
    intro q
    rw [chkFrom]
    by_cases hv : Valid x.1
    · rw [if_neg (by simpa using hv)]
      by_cases hq : x.1 ≤ q
      · rw [if_pos hq]
        constructor
        · intro h; cases h
        · rintro ⟨h, _⟩
          have := (h x (by simp)).2
          omega
      · rw [if_neg hq, ih]
        constructor
        · rintro ⟨h1, h2⟩
          refine ⟨?_, List.pairwise_cons.2 ⟨fun y hy => (h1 y hy).2, h2⟩⟩
          intro y hy
          rcases List.mem_cons.1 hy with rfl | hy
          · exact ⟨hv, by omega⟩
          · exact ⟨(h1 y hy).1, by have := (h1 y hy).2; omega⟩
        · rintro ⟨h1, h2⟩
          obtain ⟨h3, h4⟩ := List.pairwise_cons.1 h2
          exact ⟨fun y hy => ⟨(h1 y (by simp [hy])).1, h3 y hy⟩, h4⟩
    · rw [if_pos hv]
      constructor
      · intro h; cases h
      · rintro ⟨h, _⟩
        exact absurd (h x (by simp)).1 hv
theorem chk_ok (l : List (Int × Int)) : chk l = 0 ↔ Ok l := by
  unfold chk Ok
  by_cases h : 200 < l.length
  · rw [if_pos h]
    constructor
    · intro h; cases h
    · rintro ⟨h', _⟩; omega
  · rw [if_neg h, chkFrom_ok]
    constructor
    · rintro ⟨h1, h2⟩
      exact ⟨by omega, fun x hx => (h1 x hx).1, h2⟩
    · rintro ⟨_, h1, h2⟩
      refine ⟨fun x hx => ⟨h1 x hx, ?_⟩, h2⟩
      have := (h1 x hx).1
      omega
theorem chk_vals (l : List (Int × Int)) : chk l = 0 ∨ chk l = 2 ∨ chk l = 3 ∨ chk l = 5 := by
  unfold chk
  split
  · simp
  · generalize (-1 : Int) = q
    induction l generalizing q with
    | nil => simp [chkFrom]
    | cons x t ih =>
      rw [chkFrom]
      split
      · simp
      · split
        · simp
        · exact ih (by simp at *; omega) _
/-- How many values hold from a day on, or ahead of it. -/
def cnt (l : List (Int × Int)) (day : Int) : Nat := (l.takeWhile fun x => decide (x.1 ≤ day)).length
theorem cnt_le (l : List (Int × Int)) (day : Int) : cnt l day ≤ l.length := by
  unfold cnt; exact (List.takeWhile_sublist _).length_le
/-- In an ordered list: the place is that of the first value behind the day. -/
theorem cnt_is {l : List (Int × Int)} {day : Int} {k : Nat} (hk : k ≤ l.length) (h1 : ∀ i x, l[i]? = some x → i < k → x.1 ≤ day) (h2 : ∀ i x, l[i]? = some x → k ≤ i → day < x.1) : cnt l day = k := by
  unfold cnt
  induction l generalizing k with
  | nil => simp at hk ⊢; omega
  | cons x t ih =>
    rcases k with _ | k
    · rw [List.takeWhile_cons_of_neg]
      · rfl
      · have := h2 0 x rfl (by omega); simp; omega
    · rw [List.takeWhile_cons_of_pos]
      · simp only [List.length_cons]
        rw [ih (k := k) (by simpa using hk) (fun i y hy hi => h1 (i + 1) y (by simpa using hy) (by omega)) (fun i y hy hi => h2 (i + 1) y (by simpa using hy) (by omega))]
      · have := h1 0 x rfl (by omega); simpa using this
theorem cnt_cons (x : Int × Int) (t : List (Int × Int)) (day : Int) : cnt (x :: t) day = if x.1 ≤ day then cnt t day + 1 else 0 := by
  unfold cnt
  by_cases h : x.1 ≤ day
  · rw [if_pos h, List.takeWhile_cons_of_pos (by simpa using h)]; rfl
  · rw [if_neg h, List.takeWhile_cons_of_neg (by simpa using h)]; rfl
theorem cnt_lo {l : List (Int × Int)} {day : Int} : ∀ {i : Nat} {x : Int × Int}, l[i]? = some x → i < cnt l day → x.1 ≤ day := by
  induction l with
  | nil => intro i x hx; simp at hx
  | cons y t ih =>
    intro i x hx hi
    rw [cnt_cons] at hi
    by_cases h : y.1 ≤ day
    · rw [if_pos h] at hi
      rcases i with _ | i
      · simp at hx; subst hx; exact h
      · exact ih (by simpa using hx) (by omega)
    · rw [if_neg h] at hi; omega
theorem cnt_at {l : List (Int × Int)} {day : Int} : ∀ {x : Int × Int}, l[cnt l day]? = some x → day < x.1 := by
  induction l with
  | nil => intro x hx; simp at hx
  | cons y t ih =>
    intro x hx
    rw [cnt_cons] at hx
    by_cases h : y.1 ≤ day
    · rw [if_pos h] at hx; exact ih (by simpa using hx)
    · rw [if_neg h] at hx; simp at hx; subst hx; omega
theorem ok_lt {l : List (Int × Int)} (h : Ok l) {i j : Nat} {x y : Int × Int} (hi : l[i]? = some x) (hj : l[j]? = some y) (hij : i < j) : x.1 < y.1 := by
  obtain ⟨h1, rfl⟩ := List.getElem?_eq_some_iff.1 hi
  obtain ⟨h2, rfl⟩ := List.getElem?_eq_some_iff.1 hj
  exact List.pairwise_iff_getElem.1 h.2.2 i j h1 h2 hij
theorem ok_valid {l : List (Int × Int)} (h : Ok l) {i : Nat} {x : Int × Int} (hi : l[i]? = some x) : Valid x.1 := h.2.1 x (List.mem_of_getElem? hi)
theorem cnt_hi {l : List (Int × Int)} {day : Int} (h : Ok l) {i : Nat} {x : Int × Int} (hx : l[i]? = some x) (hi : cnt l day ≤ i) : day < x.1 := by
  have hl := (List.getElem?_eq_some_iff.1 hx).1
  obtain ⟨y, hy⟩ : ∃ y, l[cnt l day]? = some y := ⟨l[cnt l day]'(by omega), List.getElem?_eq_getElem _⟩
  have h1 := cnt_at hy
  rcases Nat.lt_or_ge (cnt l day) i with h2 | h2
  · have := ok_lt h hy hx h2; omega
  · obtain rfl : i = cnt l day := by omega
    rw [hy] at hx; injection hx with hx; subst hx; exact h1
/-- The value of a day, if there is one. -/
def atF (l : List (Int × Int)) (day : Int) : Int × Bool :=
  if chk l ≠ 0 ∨ ¬ Valid day then (0, false) else if cnt l day = 0 then (0, false) else ((l.getD (cnt l day - 1) (0, 0)).2, true)
/-- The last value that holds, going through the list. -/
def last (l : List (Int × Int)) (day : Int) (acc : Int × Bool) : Int × Bool := l.foldl (fun a x => if x.1 ≤ day then (x.2, true) else a) acc
theorem last_snoc (l : List (Int × Int)) (x : Int × Int) (day : Int) (acc : Int × Bool) : last (l ++ [x]) day acc = if x.1 ≤ day then (x.2, true) else last l day acc := by
  unfold last; rw [List.foldl_append]; rfl
theorem last_take {l : List (Int × Int)} {j : Nat} {x : Int × Int} (h : l[j]? = some x) (day : Int) (acc : Int × Bool) : last (l.take (j + 1)) day acc = if x.1 ≤ day then (x.2, true) else last (l.take j) day acc := by
  rw [List.take_add_one, h]; exact last_snoc _ _ _ _
theorem last_is {l : List (Int × Int)} (h : Ok l) (day : Int) : ∀ j, j ≤ l.length → last (l.take j) day (0, false) = if min j (cnt l day) = 0 then (0, false) else ((l.getD (min j (cnt l day) - 1) (0, 0)).2, true) := by
  intro j
  induction j with
  | zero => intro _; simp [last]
  | succ j ih =>
    intro hj
    obtain ⟨x, hx⟩ : ∃ x, l[j]? = some x := ⟨l[j]'(by omega), List.getElem?_eq_getElem _⟩
    rw [last_take hx]
    by_cases hc : j < cnt l day
    · rw [if_pos (cnt_lo hx hc), if_neg (by omega), show min (j + 1) (cnt l day) - 1 = j by omega, List.getD, hx]
      rfl
    · have := cnt_hi (day := day) h hx (by omega)
      rw [if_neg (by omega), ih (by omega), show min (j + 1) (cnt l day) = min j (cnt l day) by omega]
theorem last_all {l : List (Int × Int)} (h : Ok l) {day : Int} (hv : Valid day) : last l day (0, false) = atF l day := by
  have := last_is h day l.length (Nat.le_refl _)
  rw [List.take_of_length_le (Nat.le_refl _), Nat.min_eq_right (cnt_le l day)] at this
  have hn : ¬ (chk l ≠ 0 ∨ ¬ Valid day) := by simp [(chk_ok l).2 h, hv]
  unfold atF
  rw [this, if_neg hn]
end Go.Proofs.Ytoedhcenmbpeeaa.Dat
