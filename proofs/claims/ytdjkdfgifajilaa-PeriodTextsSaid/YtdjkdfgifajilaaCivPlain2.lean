/- Plain mathematics of dates as texts: no program here. -/
import Derived.Test.YtdjkdfgifajilaaCivPlain
namespace Go.Proofs.Ytdjkdfgifajilaa.Civ
/-- The last places of a number. -/
def digL : Nat → Nat → List Int
  | 0, _ => []
  | k + 1, n => digL k (n / 10) ++ [((48 + n % 10 : Nat) : Int)]
theorem digL_two (n : Nat) : digL 2 n = [((48 + n / 10 % 10 : Nat) : Int), ((48 + n % 10 : Nat) : Int)] := by simp [digL]
theorem digL_four (n : Nat) : digL 4 n = [((48 + n / 1000 % 10 : Nat) : Int), ((48 + n / 100 % 10 : Nat) : Int), ((48 + n / 10 % 10 : Nat) : Int), ((48 + n % 10 : Nat) : Int)] := by
  simp [digL, Nat.div_div_eq_div_mul]
/-- A date as a text. -/
def textL (y m d : Nat) : List Int := digL 4 y ++ [45] ++ digL 2 m ++ [45] ++ digL 2 d
theorem textL_eq (y m d : Nat) : textL y m d = [((48 + y / 1000 % 10 : Nat) : Int), ((48 + y / 100 % 10 : Nat) : Int), ((48 + y / 10 % 10 : Nat) : Int), ((48 + y % 10 : Nat) : Int), 45,
    ((48 + m / 10 % 10 : Nat) : Int), ((48 + m % 10 : Nat) : Int), 45, ((48 + d / 10 % 10 : Nat) : Int), ((48 + d % 10 : Nat) : Int)] := by
  unfold textL; rw [digL_four, digL_two, digL_two]; rfl
theorem textL_len (y m d : Nat) : (textL y m d).length = 10 := by rw [textL_eq]; rfl
theorem textL_bytes (y m d : Nat) : ∀ x ∈ textL y m d, 0 ≤ x ∧ x ≤ 255 := by
  rw [textL_eq]; intro x hx
  simp only [List.mem_cons, List.not_mem_nil, or_false] at hx
  omega
/-- Does a text have at a place what a date has there? -/
def okAt (xs : List Int) (i : Nat) : Prop := i < xs.length ∧ (if i = 4 ∨ i = 7 then xs.getD i 0 = 45 else 48 ≤ xs.getD i 0 ∧ xs.getD i 0 ≤ 57)
instance (xs : List Int) (i : Nat) : Decidable (okAt xs i) := by unfold okAt; infer_instance
def badFrom (xs : List Int) (i : Nat) : Nat → Nat
  | 0 => i
  | k + 1 => if okAt xs i then badFrom xs (i + 1) k else i
/-- The first place at which it does not. -/
def bad (xs : List Int) : Nat := badFrom xs 0 10
theorem badFrom_is (xs : List Int) : ∀ (k i j : Nat), (∀ p, i ≤ p → p < i + j → okAt xs p) → j ≤ k → (j < k → ¬ okAt xs (i + j)) → badFrom xs i k = i + j := by
  intro k
  induction k with
  | zero => intro i j _ h _; obtain rfl : j = 0 := by omega
            rfl
  | succ k ih =>
    intro i j h hj hn
    rw [badFrom]
    rcases j with _ | j
    · rw [if_neg (by simpa using hn (by omega))]; rfl
    · rw [if_pos (h i (by omega) (by omega)), ih (i + 1) j (fun p h1 h2 => h p (by omega) (by omega)) (by omega) (fun hl => by have := hn (by omega); rwa [show i + 1 + j = i + (j + 1) by omega])]
      omega
theorem bad_is {xs : List Int} {i : Nat} (h : ∀ p, p < i → okAt xs p) (hi : i < 10) (hn : ¬ okAt xs i) : bad xs = i := by
  have := badFrom_is xs 10 0 i (fun p _ h2 => h p (by omega)) (by omega) (fun _ => by simpa using hn)
  simpa [bad] using this
theorem bad_all {xs : List Int} (h : ∀ p, p < 10 → okAt xs p) : bad xs = 10 := by
  have := badFrom_is xs 10 0 10 (fun p _ h2 => h p (by omega)) (by omega) (fun h => absurd h (by omega))
  simpa [bad] using this
theorem ok_snoc {xs : List Int} {i : Nat} (h : ∀ p, p < i → okAt xs p) (hi : okAt xs i) : ∀ p, p < i + 1 → okAt xs p := fun p hp => by
  rcases (by omega : p < i ∨ p = i) with h1 | rfl
  · exact h p h1
  · exact hi
/-- The number that so many places from one on tell. -/
def val (xs : List Int) (a : Nat) : Nat → Int
  | 0 => 0
  | n + 1 => 10 * val xs a n + (xs.getD (a + n) 0 - 48)
/-- The day of a date, and the error. -/
def dayF (y m d : Int) : Int × Int := if d < 1 ∨ dim y m < d then (0, 2) else (num y m.toNat d, 0)
/-- What a text is read as: the day, the error, its place. -/
def parseF (xs : List Int) : Int × Int × Int :=
  if bad xs < 10 then (0, 4, bad xs) else if 10 < xs.length then (0, 4, 10) else ((dayF (val xs 0 4) (val xs 5 2) (val xs 8 2)).1, (dayF (val xs 0 4) (val xs 5 2) (val xs 8 2)).2, 0)
theorem parse_bad {xs : List Int} {i : Nat} (h : ∀ p, p < i → okAt xs p) (hi : i < 10) (hn : ¬ okAt xs i) : parseF xs = (0, 4, (i : Int)) := by
  unfold parseF; rw [bad_is h hi hn, if_pos hi]
theorem parse_long {xs : List Int} (h : ∀ p, p < 10 → okAt xs p) (hl : 10 < xs.length) : parseF xs = (0, 4, 10) := by
  unfold parseF; rw [bad_all h, if_neg (by omega), if_pos hl]
theorem parse_day {xs : List Int} (h : ∀ p, p < 10 → okAt xs p) (hl : ¬ 10 < xs.length) :
    parseF xs = ((dayF (val xs 0 4) (val xs 5 2) (val xs 8 2)).1, (dayF (val xs 0 4) (val xs 5 2) (val xs 8 2)).2, 0) := by
  unfold parseF; rw [bad_all h, if_neg (by omega), if_neg hl]
theorem val_lo {xs : List Int} {a n : Nat} (h : ∀ p, a ≤ p → p < a + n → 48 ≤ xs.getD p 0 ∧ xs.getD p 0 ≤ 57) : 0 ≤ val xs a n ∧ val xs a n < 10 ^ n := by
  induction n with
  | zero => simp [val]
  | succ n ih =>
    have h1 := ih fun p h1 h2 => h p h1 (by omega)
    have h2 := h (a + n) (by omega) (by omega)
    rw [val, Int.pow_succ]; omega
theorem ok_dig {xs : List Int} {i : Nat} (h : okAt xs i) (h4 : i ≠ 4) (h7 : i ≠ 7) : 48 ≤ xs.getD i 0 ∧ xs.getD i 0 ≤ 57 := by
  have := h.2; rwa [if_neg (by omega)] at this
/-- A text that is a date's is read as it was. -/
theorem parse_text {y m d : Nat} {n : Int} (h : IsD y m d) (hn : num y m d = n) : parseF (textL y m d) = (n, 0, 0) := by
  obtain ⟨h1, h2, h3, h4, h5, h6⟩ := h
  have hd := (dim_lo y m).2
  have hok : ∀ p, p < 10 → okAt (textL y m d) p := by
    intro p hp
    rw [textL_eq]
    rcases (by omega : p = 0 ∨ p = 1 ∨ p = 2 ∨ p = 3 ∨ p = 4 ∨ p = 5 ∨ p = 6 ∨ p = 7 ∨ p = 8 ∨ p = 9) with rfl | rfl | rfl | rfl | rfl | rfl | rfl | rfl | rfl | rfl <;> simp [okAt] <;> omega
  rw [parse_day hok (by rw [textL_len]; omega)]
  have v0 : val (textL y m d) 0 4 = y := by rw [textL_eq]; simp [val]; omega
  have v1 : val (textL y m d) 5 2 = m := by rw [textL_eq]; simp [val]; omega
  have v2 : val (textL y m d) 8 2 = d := by rw [textL_eq]; simp [val]; omega
  rw [v0, v1, v2, dayF, if_neg (by omega), Int.toNat_natCast, hn]
/-- A text that is read is the date's. -/
theorem text_parse {xs : List Int} {n : Int} (h : (parseF xs).2.1 = 0) (hn : (parseF xs).1 = n) : ∃ y m d : Nat, IsD y m d ∧ num y m d = n ∧ textL y m d = xs := by
  by_cases hb : bad xs < 10
  · unfold parseF at h; rw [if_pos hb] at h; simp at h
  have hok : ∀ p, p < 10 → okAt xs p := by
    intro p
    induction p using Nat.strongRecOn with
    | ind p ih =>
      intro hp
      by_cases hc : okAt xs p
      · exact hc
      · exact absurd (bad_is (fun q hq => ih q hq (by omega)) hp hc) (by omega)
  by_cases hl : 10 < xs.length
  · rw [parse_long hok hl] at h; simp at h
  rw [parse_day hok hl] at h hn
  have l10 : xs.length = 10 := by have := (hok 9 (by omega)).1; omega
  obtain ⟨x0, x1, x2, x3, x4, x5, x6, x7, x8, x9, rfl⟩ : ∃ x0 x1 x2 x3 x4 x5 x6 x7 x8 x9, xs = [x0, x1, x2, x3, x4, x5, x6, x7, x8, x9] := by
    match xs, l10 with
    | [x0, x1, x2, x3, x4, x5, x6, x7, x8, x9], _ => exact ⟨_, _, _, _, _, _, _, _, _, _, rfl⟩
  have o0 := ok_dig (hok 0 (by omega)) (by omega) (by omega)
  have o1 := ok_dig (hok 1 (by omega)) (by omega) (by omega)
  have o2 := ok_dig (hok 2 (by omega)) (by omega) (by omega)
  have o3 := ok_dig (hok 3 (by omega)) (by omega) (by omega)
  have o4 := (hok 4 (by omega)).2
  have o5 := ok_dig (hok 5 (by omega)) (by omega) (by omega)
  have o6 := ok_dig (hok 6 (by omega)) (by omega) (by omega)
  have o7 := (hok 7 (by omega)).2
  have o8 := ok_dig (hok 8 (by omega)) (by omega) (by omega)
  have o9 := ok_dig (hok 9 (by omega)) (by omega) (by omega)
  simp at o0 o1 o2 o3 o4 o5 o6 o7 o8 o9
  have e0 : val [x0, x1, x2, x3, x4, x5, x6, x7, x8, x9] 0 4 = 1000 * (x0 - 48) + 100 * (x1 - 48) + 10 * (x2 - 48) + (x3 - 48) := by simp [val]; omega
  have e1 : val [x0, x1, x2, x3, x4, x5, x6, x7, x8, x9] 5 2 = 10 * (x5 - 48) + (x6 - 48) := by simp [val]
  have e2 : val [x0, x1, x2, x3, x4, x5, x6, x7, x8, x9] 8 2 = 10 * (x8 - 48) + (x9 - 48) := by simp [val]
  rw [e0, e1, e2] at h hn
  unfold dayF at h hn
  by_cases hd : 10 * (x8 - 48) + (x9 - 48) < 1 ∨ dim (1000 * (x0 - 48) + 100 * (x1 - 48) + 10 * (x2 - 48) + (x3 - 48)) (10 * (x5 - 48) + (x6 - 48)) < 10 * (x8 - 48) + (x9 - 48)
  · rw [if_pos hd] at h; simp at h
  rw [if_neg hd] at hn
  obtain ⟨k, hk, hD⟩ := isD_of _ _ _ (show 1 ≤ 10 * (x8 - 48) + (x9 - 48) by omega) (show 10 * (x8 - 48) + (x9 - 48) ≤ dim (1000 * (x0 - 48) + 100 * (x1 - 48) + 10 * (x2 - 48) + (x3 - 48)) (10 * (x5 - 48) + (x6 - 48)) by omega)
  obtain ⟨yn, hy⟩ := Int.eq_ofNat_of_zero_le (show 0 ≤ 1000 * (x0 - 48) + 100 * (x1 - 48) + 10 * (x2 - 48) + (x3 - 48) by omega)
  obtain ⟨dn, hdn⟩ := Int.eq_ofNat_of_zero_le (show 0 ≤ 10 * (x8 - 48) + (x9 - 48) by omega)
  rw [hk, Int.toNat_natCast] at hn
  rw [hy, hdn] at hn hD
  refine ⟨yn, k, dn, hD, hn, ?_⟩
  rw [textL_eq]
  simp only [List.cons.injEq, and_true]
  refine ⟨?_, ?_, ?_, ?_, ?_, ?_, ?_, ?_, ?_, ?_⟩ <;> omega
theorem lex_cons (a b : Int) (s t : List Int) : (a :: s < b :: t) ↔ (a < b ∨ (a = b ∧ s < t)) := List.cons_lt_cons_iff
theorem digL_lex (k : Nat) : ∀ (n n' : Nat) (s t : List Int), n < 10 ^ k → n' < 10 ^ k → (digL k n ++ s < digL k n' ++ t ↔ (n < n' ∨ (n = n' ∧ s < t))) := by
  induction k with
  | zero => intro n n' s t h h'; simp at h h'; subst h; subst h'; simp [digL]
  | succ k ih =>
    intro n n' s t h h'
    rw [Nat.pow_succ] at h h'
    simp only [digL, List.append_assoc, List.singleton_append]
    rw [ih (n / 10) (n' / 10) _ _ (by omega) (by omega), lex_cons]
    constructor
    · rintro (h1 | ⟨h1, h2 | ⟨h2, h3⟩⟩)
      · omega
      · omega
      · exact .inr ⟨by omega, h3⟩
    · rintro (h1 | ⟨h1, h2⟩)
      · omega
      · exact .inr ⟨by omega, .inr ⟨by omega, h2⟩⟩
theorem badFrom_ok (xs : List Int) : ∀ (k i p : Nat), i ≤ p → p < badFrom xs i k → okAt xs p := by
  intro k
  induction k with
  | zero => intro i p h1 h2; rw [badFrom] at h2; omega
  | succ k ih =>
    intro i p h1 h2
    rw [badFrom] at h2
    by_cases h : okAt xs i
    · rw [if_pos h] at h2
      rcases (by omega : p = i ∨ i + 1 ≤ p) with rfl | h3
      · exact h
      · exact ih (i + 1) p h3 h2
    · rw [if_neg h] at h2; omega
/-- Where a text is not read. -/
theorem parse_err {xs : List Int} (h : (parseF xs).2.1 ≠ 0) : (parseF xs).1 = 0 ∧ 0 ≤ (parseF xs).2.2 ∧ (parseF xs).2.2 ≤ xs.length ∧ (parseF xs).2.2 ≤ 10 := by
  by_cases hb : bad xs < 10
  · have hl : bad xs ≤ xs.length := by
      rcases Nat.eq_zero_or_pos (bad xs) with h0 | h0
      · omega
      · have := (badFrom_ok xs 10 0 (bad xs - 1) (by omega) (by show _ < bad xs; omega)).1
        omega
    unfold parseF
    rw [if_pos hb]
    refine ⟨rfl, ?_, ?_, ?_⟩ <;> simp <;> omega
  · unfold parseF at h ⊢
    rw [if_neg hb] at h ⊢
    by_cases hl : 10 < xs.length
    · rw [if_pos hl]
      refine ⟨rfl, ?_, ?_, ?_⟩ <;> simp <;> omega
    · rw [if_neg hl] at h ⊢
      unfold dayF at h ⊢
      split at h
      · rename_i hd
        rw [if_pos hd]
        refine ⟨rfl, ?_, ?_, ?_⟩ <;> simp
      · simp at h
/-- Texts have the order of dates. -/
theorem text_lt {y m d y' m' d' : Nat} (h : IsD y m d) (h' : IsD y' m' d') : textL y m d < textL y' m' d' ↔ num y m d < num y' m' d' := by
  have e1 := (dim_lo y m).2
  have e2 := (dim_lo y' m').2
  have o1 := h.2.1; have o2 := h.2.2.2.1; have o3 := h.2.2.2.2.2
  have p1 := h'.2.1; have p2 := h'.2.2.2.1; have p3 := h'.2.2.2.2.2
  have hl : textL y m d < textL y' m' d' ↔ (y < y' ∨ (y = y' ∧ (m < m' ∨ (m = m' ∧ d < d')))) := by
    unfold textL
    simp only [List.append_assoc]
    rw [digL_lex 4 y y' _ _ (by omega) (by omega), List.singleton_append, List.singleton_append (l := _ ++ ([45] ++ digL 2 d')), lex_cons, digL_lex 2 m m' _ _ (by omega) (by omega), List.singleton_append, List.singleton_append (l := digL 2 d'), lex_cons,
      ← List.append_nil (digL 2 d), ← List.append_nil (digL 2 d'), digL_lex 2 d d' _ _ (by omega) (by omega)]
    simp
  rw [hl]
  constructor
  · intro hh
    exact num_lt h h' (by omega)
  · intro hh
    rcases (by omega : (y < y' ∨ (y = y' ∧ (m < m' ∨ (m = m' ∧ d < d')))) ∨ (y' < y ∨ (y' = y ∧ (m' < m ∨ (m' = m ∧ d' < d)))) ∨ (y = y' ∧ m = m' ∧ d = d')) with h1 | h1 | ⟨rfl, rfl, rfl⟩
    · exact h1
    · have := num_lt h' h (by omega); omega
    · omega
end Go.Proofs.Ytdjkdfgifajilaa.Civ
