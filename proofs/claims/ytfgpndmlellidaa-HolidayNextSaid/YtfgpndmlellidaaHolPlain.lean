/- Plain mathematics of tax holidays: no program here. -/
import Derived.Test.YtfgpndmlellidaaSix
namespace Go.Proofs.Ytfgpndmlellidaa.Hol
/-- Comparing. -/
def cmpI (x y : Int) : Int := if x < y then -1 else if y < x then 1 else 0
def or3 (a b c : Int) : Int := if a ≠ 0 then a else if b ≠ 0 then b else c
def ord (x : S6) (j c d : Int) : Int := or3 (cmpI x.a j) (cmpI x.b c) (cmpI x.d d)
theorem cmp_lt (x y : Int) : cmpI x y < 0 ↔ x < y := by unfold cmpI; split <;> (try split) <;> omega
theorem cmp_0 (x y : Int) : cmpI x y = 0 ↔ x = y := by unfold cmpI; split <;> (try split) <;> omega
theorem cmp_vals (x y : Int) : -1 ≤ cmpI x y ∧ cmpI x y ≤ 1 := by unfold cmpI; split <;> (try split) <;> omega
theorem or3_vals {a b c : Int} (ha : -1 ≤ a ∧ a ≤ 1) (hb : -1 ≤ b ∧ b ≤ 1) (hc : -1 ≤ c ∧ c ≤ 1) : -1 ≤ or3 a b c ∧ or3 a b c ≤ 1 := by unfold or3; split <;> (try split) <;> omega
theorem ord_vals (x : S6) (j c d : Int) : -1 ≤ ord x j c d ∧ ord x j c d ≤ 1 := or3_vals (cmp_vals _ _) (cmp_vals _ _) (cmp_vals _ _)
/-- Is a holiday's key ahead of a key? -/
def Lt (x : S6) (j c d : Int) : Prop := x.a < j ∨ x.a = j ∧ (x.b < c ∨ x.b = c ∧ x.d < d)
instance (x : S6) (j c d : Int) : Decidable (Lt x j c d) := by unfold Lt; infer_instance
theorem ord_lt (x : S6) (j c d : Int) : ord x j c d < 0 ↔ Lt x j c d := by
  unfold ord or3 Lt cmpI
  split <;> (try split) <;> (try split) <;> (try split) <;> (try split) <;> (try split) <;> omega
/-- Why a holiday may not be. -/
def one (x : S6) : Int :=
  if ¬ (1 ≤ x.a ∧ x.a ≤ 1099511627775 ∧ 0 ≤ x.b ∧ x.b ≤ 1099511627775 ∧ 0 ≤ x.c ∧ x.c ≤ 3652058 ∧ 0 ≤ x.d ∧ x.d ≤ 3652058 ∧ 0 ≤ x.f ∧ x.f ≤ 1099511627775) then 5
  else if x.d < x.c ∨ ¬ (1 ≤ x.e ∧ x.e ≤ 2) then 2 else 0
theorem one_vals (x : S6) : one x = 0 ∨ one x = 2 ∨ one x = 5 := by unfold one; split <;> (try split) <;> simp
theorem one_0 {x : S6} (h : one x = 0) : (1 ≤ x.a ∧ x.a ≤ 1099511627775) ∧ (0 ≤ x.b ∧ x.b ≤ 1099511627775) ∧ (0 ≤ x.c ∧ x.c ≤ 3652058) ∧ (0 ≤ x.d ∧ x.d ≤ 3652058) ∧ (0 ≤ x.f ∧ x.f ≤ 1099511627775) ∧ x.c ≤ x.d ∧ 1 ≤ x.e ∧ x.e ≤ 2 := by
  unfold one at h
  split at h
  · cases h
  · split at h
    · cases h
    · omega
/-- Why a list may not be, from some place on; q: the one ahead. -/
def bad (q : Option S6) (x : S6) : Bool := match q with | none => false | some y => decide (¬ Lt y x.a x.b x.c)
def chkFrom : Option S6 → Nat → List S6 → Int × Int
  | _, _, [] => (0, 0)
  | q, i, x :: t => if one x ≠ 0 then (one x, (i : Int)) else if bad q x = true then (2, (i : Int)) else chkFrom (some x) (i + 1) t
def chk (l : List S6) : Int × Int := if 200 < l.length then (3, 0) else chkFrom none 0 l
def prev (l : List S6) (j : Nat) : Option S6 := if j = 0 then none else l[j - 1]?
theorem drop_at {l : List S6} {m : Nat} {x : S6} (h : l[m]? = some x) : l.drop m = x :: l.drop (m + 1) := by
  obtain ⟨hm, rfl⟩ := List.getElem?_eq_some_iff.1 h
  exact List.drop_eq_getElem_cons hm
theorem prev_succ {l : List S6} {j : Nat} {x : S6} (h : l[j]? = some x) : prev l (j + 1) = some x := by
  unfold prev
  rw [if_neg (by omega), Nat.add_sub_cancel, h]
theorem chk_step_one {l : List S6} {j : Nat} {x : S6} (h : l[j]? = some x) (hv : one x ≠ 0) : chkFrom (prev l j) j (l.drop j) = (one x, (j : Int)) := by
  rw [drop_at h, chkFrom, if_pos hv]
theorem chk_step_bad {l : List S6} {j : Nat} {x : S6} (h : l[j]? = some x) (hv : one x = 0) (hq : bad (prev l j) x = true) : chkFrom (prev l j) j (l.drop j) = (2, (j : Int)) := by
  rw [drop_at h, chkFrom, if_neg (by simpa using hv), if_pos hq]
theorem chk_step_ok {l : List S6} {j : Nat} {x : S6} (h : l[j]? = some x) (hv : one x = 0) (hq : bad (prev l j) x = false) : chkFrom (prev l j) j (l.drop j) = chkFrom (prev l (j + 1)) (j + 1) (l.drop (j + 1)) := by
  rw [prev_succ h, drop_at h, chkFrom, if_neg (by simpa using hv), if_neg (by simpa using hq)]
def Before (x y : S6) : Prop := Lt x y.a y.b y.c
instance (x y : S6) : Decidable (Before x y) := by unfold Before; infer_instance
/-- May a list be? -/
def Ok (l : List S6) : Prop := l.length ≤ 200 ∧ (∀ x ∈ l, one x = 0) ∧ l.Pairwise Before
theorem before_trans {x y z : S6} (hy : one y = 0) (h1 : Before x y) (h2 : Before y z) : Before x z := by
  have := one_0 hy
  unfold Before Lt at *
  omega
theorem chkFrom_ok : ∀ (l : List S6) (q : Option S6) (i : Nat), (∀ y, q = some y → one y = 0) → ((chkFrom q i l).1 = 0 ↔ (∀ x ∈ l, one x = 0 ∧ ∀ y, q = some y → Before y x) ∧ l.Pairwise Before) := by
  intro l
  induction l with
  | nil => intro q i _; simp [chkFrom]
  | cons x t ih =>
    intro q i hq
    rw [chkFrom]
    by_cases hv : one x = 0
    · rw [if_neg (by simpa using hv)]
      by_cases hb : bad q x = true
      · rw [if_pos hb]
        constructor
        · intro h; cases h
        · rintro ⟨h, _⟩
          rcases q with _ | y
          · cases hb
          · have := (h x (by simp)).2 y rfl
            simp only [bad, decide_eq_true_eq] at hb
            exact absurd this hb
      · rw [if_neg hb, ih (some x) (i + 1) (by intro y hy; injection hy with hy; subst hy; exact hv)]
        constructor
        · rintro ⟨h1, h2⟩
          refine ⟨?_, List.pairwise_cons.2 ⟨fun y hy => (h1 y hy).2 x rfl, h2⟩⟩
          intro y hy
          have hqx : ∀ z, q = some z → Before z x := by
            intro z hz
            subst hz
            simp only [bad, decide_eq_true_eq] at hb
            exact Decidable.not_not.1 hb
          rcases List.mem_cons.1 hy with rfl | hy
          · exact ⟨hv, hqx⟩
          · exact ⟨(h1 y hy).1, fun z hz => before_trans hv (hqx z hz) ((h1 y hy).2 x rfl)⟩
        · rintro ⟨h1, h2⟩
          obtain ⟨h3, h4⟩ := List.pairwise_cons.1 h2
          exact ⟨fun y hy => ⟨(h1 y (by simp [hy])).1, fun z hz => by injection hz with hz; subst hz; exact h3 y hy⟩, h4⟩
    · rw [if_pos hv]
      constructor
      · intro h; exact absurd h hv
      · rintro ⟨h, _⟩
        exact absurd (h x (by simp)).1 hv
theorem chk_ok (l : List S6) : (chk l).1 = 0 ↔ Ok l := by
  unfold chk Ok
  by_cases h : 200 < l.length
  · rw [if_pos h]
    constructor
    · intro h; cases h
    · rintro ⟨h', _⟩; omega
  · rw [if_neg h, chkFrom_ok l none 0 (by intro y hy; cases hy)]
    constructor
    · rintro ⟨h1, h2⟩
      exact ⟨by omega, fun x hx => (h1 x hx).1, h2⟩
    · rintro ⟨_, h1, h2⟩
      exact ⟨fun x hx => ⟨h1 x hx, fun y hy => by cases hy⟩, h2⟩
theorem chkFrom_vals : ∀ (l : List S6) (q : Option S6) (i : Nat), (chkFrom q i l).1 = 0 ∨ (chkFrom q i l).1 = 2 ∨ (chkFrom q i l).1 = 5 := by
  intro l
  induction l with
  | nil => intro q i; simp [chkFrom]
  | cons x t ih =>
    intro q i
    rw [chkFrom]
    split
    · exact one_vals x
    · split
      · simp
      · exact ih _ _
theorem chk_vals (l : List S6) : (chk l).1 = 0 ∨ (chk l).1 = 2 ∨ (chk l).1 = 3 ∨ (chk l).1 = 5 := by
  unfold chk
  split
  · simp
  · rcases chkFrom_vals l none 0 with h | h | h <;> simp [h]
theorem chkFrom_00 : ∀ (l : List S6) (q : Option S6) (i : Nat), (chkFrom q i l).1 = 0 → chkFrom q i l = (0, 0) := by
  intro l
  induction l with
  | nil => intro q i _; rfl
  | cons x t ih =>
    intro q i h
    rw [chkFrom] at h ⊢
    split at h
    · rename_i hv; exact absurd h hv
    · rw [if_neg (by assumption)]
      split at h
      · cases h
      · rw [if_neg (by assumption)]; exact ih _ _ h
theorem chk_00 {l : List S6} (h : (chk l).1 = 0) : chk l = (0, 0) := by
  unfold chk at *
  split at h
  · cases h
  · rw [if_neg (by assumption)]; exact chkFrom_00 _ _ _ h
theorem ok_pair {l : List S6} (h : Ok l) {i j : Nat} {x y : S6} (hi : l[i]? = some x) (hj : l[j]? = some y) (hij : i < j) : Before x y := by
  obtain ⟨h1, rfl⟩ := List.getElem?_eq_some_iff.1 hi
  obtain ⟨h2, rfl⟩ := List.getElem?_eq_some_iff.1 hj
  exact List.pairwise_iff_getElem.1 h.2.2 i j h1 h2 hij
theorem ok_one {l : List S6} (h : Ok l) {i : Nat} {x : S6} (hi : l[i]? = some x) : one x = 0 := h.2.1 x (List.mem_of_getElem? hi)
/-- A key: how many are ahead of it. -/
theorem lt_down {x y : S6} {j c d : Int} (hy : one y = 0) (h1 : Before x y) (h2 : Lt y j c d) : Lt x j c d := by
  have := one_0 hy
  unfold Before Lt at *
  omega
/-- The first one of a category that ends on a day, or behind it. -/
def ofB (j c d : Int) (x : S6) : Bool := decide (x.a = j ∧ x.b = c ∧ d ≤ x.d)
def ofP (l : List S6) (j c d : Int) : Option S6 := l.find? (ofB j c d)
/-- The one of a category on a day. -/
def inB (j c d : Int) (x : S6) : Bool := decide (x.a = j ∧ x.b = c ∧ x.c ≤ d ∧ d ≤ x.d)
def ofR (l : List S6) (j c d : Int) : Option S6 := l.find? (inB j c d)
theorem find_skip {l : List S6} {p : S6 → Bool} {j : Nat} {x : S6} (h : l[j]? = some x) (hp : p x = false) : (l.drop j).find? p = (l.drop (j + 1)).find? p := by
  rw [drop_at h, List.find?_cons, hp]
theorem find_hit {l : List S6} {p : S6 → Bool} {j : Nat} {x : S6} (h : l[j]? = some x) (hp : p x = true) : (l.drop j).find? p = some x := by
  rw [drop_at h, List.find?_cons, hp]
theorem find_from {l : List S6} {p : S6 → Bool} : ∀ k : Nat, (∀ i x, l[i]? = some x → i < k → p x = false) → l.find? p = (l.drop k).find? p := by
  intro k
  induction k with
  | zero => intro _; rfl
  | succ k ih =>
    intro h
    rw [ih (fun i x hx hi => h i x hx (by omega))]
    rcases hk : l[k]? with _ | x
    · rw [List.drop_of_length_le (by simpa using hk), List.drop_of_length_le (by have : l.length ≤ k := by simpa using hk
                                                                                 omega)]
    · exact find_skip hk (h k x hk (by omega))
/-- What the search finds. -/
theorem of_hit {l : List S6} {j c d : Int} {k : Nat} {x : S6} (h1 : ∀ i x, l[i]? = some x → i < k → Lt x j c d) (h2 : l[k]? = some x) (h3 : ¬ Lt x j c d) (ha : x.a = j) (hb : x.b = c) : ofP l j c d = some x := by
  unfold ofP
  rw [find_from k (fun i y hy hi => by have := h1 i y hy hi; unfold Lt at this; unfold ofB; simp; omega)]
  refine find_hit h2 ?_
  unfold Lt at h3
  unfold ofB
  simp
  omega
theorem of_none {l : List S6} (hok : Ok l) {j c d : Int} {k : Nat} (h1 : ∀ i x, l[i]? = some x → i < k → Lt x j c d) (h2 : ∀ x, l[k]? = some x → ¬ Lt x j c d ∧ (x.a ≠ j ∨ x.b ≠ c)) : ofP l j c d = none := by
  unfold ofP
  rw [List.find?_eq_none]
  intro y hy
  obtain ⟨i, hi, rfl⟩ := List.mem_iff_getElem.1 hy
  have hy' : l[i]? = some l[i] := List.getElem?_eq_getElem hi
  generalize l[i] = y at hy'
  unfold ofB
  simp
  intro e1 e2
  rcases Nat.lt_trichotomy i k with h | h | h
  · have := h1 i y hy' h
    unfold Lt at this; omega
  · subst h
    have := (h2 y hy').2; omega
  · obtain ⟨x, hx⟩ : ∃ x, l[k]? = some x := ⟨l[k]'(by omega), List.getElem?_eq_getElem _⟩
    have h3 := h2 x hx
    have h4 := ok_pair hok hx hy' h
    unfold Before Lt at *
    omega
theorem ofP_some {l : List S6} {j c d : Int} {x : S6} (h : ofP l j c d = some x) : x ∈ l ∧ x.a = j ∧ x.b = c ∧ d ≤ x.d := by
  unfold ofP at h
  have h1 := List.find?_some h
  unfold ofB at h1
  simp at h1
  exact ⟨List.mem_of_find?_eq_some h, h1⟩
theorem ofR_some {l : List S6} {j c d : Int} {x : S6} (h : ofR l j c d = some x) : x ∈ l ∧ x.a = j ∧ x.b = c ∧ x.c ≤ d ∧ d ≤ x.d := by
  unfold ofR at h
  have h1 := List.find?_some h
  unfold inB at h1
  simp at h1
  exact ⟨List.mem_of_find?_eq_some h, h1⟩
theorem ofP_none {l : List S6} {j c d : Int} (h : ofP l j c d = none) : ∀ x ∈ l, ¬ (x.a = j ∧ x.b = c ∧ d ≤ x.d) := by
  intro x hx
  have := List.find?_eq_none.1 h x hx
  unfold ofB at this
  simpa using this
theorem ofR_none {l : List S6} {j c d : Int} (h : ofR l j c d = none) : ∀ x ∈ l, ¬ (x.a = j ∧ x.b = c ∧ x.c ≤ d ∧ d ≤ x.d) := by
  intro x hx
  have := List.find?_eq_none.1 h x hx
  unfold inB at this
  simpa using this
/-- Of a category: any other one that ends behind the day begins behind what was found. -/
theorem ofP_first {l : List S6} (hok : Ok l) {j c d : Int} {x y : S6} (h : ofP l j c d = some x) (hy : y ∈ l) (h1 : y.a = j) (h2 : y.b = c) (h3 : d ≤ y.d) : y = x ∨ x.d < y.c := by
  obtain ⟨hp, i, hi, he, hlt⟩ := List.find?_eq_some_iff_getElem.1 h
  obtain ⟨k, hk, rfl⟩ := List.mem_iff_getElem.1 hy
  have hx : l[i]? = some x := by rw [List.getElem?_eq_getElem hi, he]
  have hy' : l[k]? = some l[k] := List.getElem?_eq_getElem hk
  rcases Nat.lt_trichotomy k i with h' | h' | h'
  · have := hlt k h'
    unfold ofB at this
    simp at this
    omega
  · subst h'; exact .inl he
  · have hb := ok_pair hok hx hy' h'
    unfold ofB at hp
    simp at hp
    unfold Before Lt at hb
    omega
theorem ofR_is {l : List S6} (hok : Ok l) (j c d : Int) : ofR l j c d = match ofP l j c d with | none => none | some x => if x.c ≤ d then some x else none := by
  rcases hP : ofP l j c d with _ | x
  · rcases hR : ofR l j c d with _ | y
    · rfl
    · obtain ⟨h1, h2, h3, _, h5⟩ := ofR_some hR
      exact absurd ⟨h2, h3, h5⟩ (ofP_none hP y h1)
  · obtain ⟨g1, g2, g3, g4⟩ := ofP_some hP
    show _ = if x.c ≤ d then some x else none
    rcases hR : ofR l j c d with _ | y
    · rw [if_neg]
      intro h
      exact ofR_none hR x g1 ⟨g2, g3, h, g4⟩
    · obtain ⟨h1, h2, h3, h4, h5⟩ := ofR_some hR
      rcases ofP_first hok hP h1 h2 h3 h5 with rfl | h
      · rw [if_pos h4]
      · have := one_0 (hok.2.1 x g1)
        exfalso
        omega
/-- The one of a jurisdiction, a category and a day. -/
def asF (l : List S6) (j c d : Int) : Option S6 :=
  if (chk l).1 ≠ 0 then none else match ofR l j c d with | some x => some x | none => ofR l j 0 d
def hand (r : Option S6) : S6 × Bool := match r with | some x => (x, true) | none => (S6.zero, false)
/-- What is taxed. -/
def baseF (l : List S6) (j c d n : Int) : Int × Int :=
  if (chk l).1 ≠ 0 then (0, (chk l).1) else if ¬ (0 ≤ n ∧ n ≤ 1099511627775) then (0, 5) else
  match asF l j c d with
  | none => (n, 0)
  | some x => if x.e = 2 then (max (n - x.f) 0, 0) else if n ≤ x.f then (0, 0) else (n, 0)
theorem as_some {l : List S6} {j c d : Int} {x : S6} (h : asF l j c d = some x) : (chk l).1 = 0 ∧ x ∈ l ∧ x.a = j ∧ (x.b = c ∨ x.b = 0) ∧ x.c ≤ d ∧ d ≤ x.d := by
  unfold asF at h
  split at h
  · cases h
  · rename_i h0
    refine ⟨by simpa using h0, ?_⟩
    rcases hR : ofR l j c d with _ | y
    · rw [hR] at h
      obtain ⟨h1, h2, h3, h4, h5⟩ := ofR_some h
      exact ⟨h1, h2, .inr h3, h4, h5⟩
    · rw [hR] at h
      injection h with h
      subst h
      obtain ⟨h1, h2, h3, h4, h5⟩ := ofR_some hR
      exact ⟨h1, h2, .inl h3, h4, h5⟩
theorem as_none {l : List S6} {j c d : Int} (h0 : (chk l).1 = 0) (h : asF l j c d = none) : ∀ x ∈ l, ¬ (x.a = j ∧ (x.b = c ∨ x.b = 0) ∧ x.c ≤ d ∧ d ≤ x.d) := by
  unfold asF at h
  rw [if_neg (by simpa using h0)] at h
  rcases hR : ofR l j c d with _ | y
  · rw [hR] at h
    rintro x hx ⟨h1, h2, h3, h4⟩
    rcases h2 with h2 | h2
    · exact ofR_none hR x hx ⟨h1, h2, h3, h4⟩
    · exact ofR_none h x hx ⟨h1, h2, h3, h4⟩
  · rw [hR] at h; cases h
/-- Is there one on a day? -/
def cov (l : List S6) (j c d : Int) : Bool := (asF l j c d).isSome
theorem cov_iff {l : List S6} {j c d : Int} (h0 : (chk l).1 = 0) : cov l j c d = true ↔ ∃ x ∈ l, x.a = j ∧ (x.b = c ∨ x.b = 0) ∧ x.c ≤ d ∧ d ≤ x.d := by
  unfold cov
  rcases h : asF l j c d with _ | x
  · simp only [Option.isSome_none, Bool.false_eq_true, false_iff]
    rintro ⟨x, hx, h1⟩
    exact as_none h0 h x hx h1
  · simp only [Option.isSome_some, true_iff]
    exact ⟨x, (as_some h).2⟩
theorem cov_bad {l : List S6} {j c d : Int} (h0 : (chk l).1 ≠ 0) : cov l j c d = false := by
  unfold cov asF; rw [if_pos h0]; rfl
end Go.Proofs.Ytfgpndmlellidaa.Hol
