/- Plain mathematics of the days on which there is a holiday: no program here. -/
import Derived.Test.YtfgpndmlellidaaHolPlain
namespace Go.Proofs.Ytfgpndmlellidaa.Hol
/-- On how many days of so many from one on is it so? -/
def cntD (f : Int → Bool) (a : Int) : Nat → Int
  | 0 => 0
  | n + 1 => cntD f a n + (if f (a + n) = true then 1 else 0)
theorem cntD_bd (f : Int → Bool) (a : Int) (n : Nat) : 0 ≤ cntD f a n ∧ cntD f a n ≤ n := by
  induction n with
  | zero => simp [cntD]
  | succ n ih => rw [cntD]; split <;> omega
theorem cntD_none {f : Int → Bool} {a : Int} {n : Nat} (h : ∀ d, a ≤ d → d < a + n → f d = false) : cntD f a n = 0 := by
  induction n with
  | zero => rfl
  | succ n ih =>
    rw [cntD, ih (fun d h1 h2 => h d h1 (by omega)), h (a + n) (by omega) (by omega)]; simp
theorem cntD_all {f : Int → Bool} {a : Int} {n : Nat} (h : ∀ d, a ≤ d → d < a + n → f d = true) : cntD f a n = n := by
  induction n with
  | zero => rfl
  | succ n ih =>
    rw [cntD, ih (fun d h1 h2 => h d h1 (by omega)), h (a + n) (by omega) (by omega)]; simp
theorem cntD_add (f : Int → Bool) (a : Int) (n m : Nat) : cntD f a (n + m) = cntD f a n + cntD f (a + n) m := by
  induction m with
  | zero => simp [cntD]
  | succ m ih =>
    rw [← Nat.add_assoc, cntD, ih, cntD, show a + ((n + m : Nat) : Int) = a + n + m by omega]; omega
/-- .. from a day to another one. -/
def span (f : Int → Bool) (a b : Int) : Int := cntD f a (b + 1 - a).toNat
theorem span_bd (f : Int → Bool) (a b : Int) (h : a ≤ b + 1) : 0 ≤ span f a b ∧ span f a b ≤ b + 1 - a := by
  have := cntD_bd f a (b + 1 - a).toNat
  unfold span
  omega
theorem span_split (f : Int → Bool) {a m b : Int} (h1 : a ≤ m + 1) (h2 : m ≤ b) : span f a b = span f a m + span f (m + 1) b := by
  unfold span
  rw [show (b + 1 - a).toNat = (m + 1 - a).toNat + (b + 1 - (m + 1)).toNat by omega, cntD_add, show a + ((m + 1 - a).toNat : Int) = m + 1 by omega]
theorem span_none {f : Int → Bool} {a b : Int} (h : ∀ d, a ≤ d → d ≤ b → f d = false) : span f a b = 0 := cntD_none fun d h1 h2 => h d h1 (by omega)
theorem span_all {f : Int → Bool} {a b : Int} (hab : a ≤ b + 1) (h : ∀ d, a ≤ d → d ≤ b → f d = true) : span f a b = b + 1 - a := by
  unfold span
  rw [cntD_all fun d h1 h2 => h d h1 (by omega)]
  omega
theorem span_one (f : Int → Bool) (a : Int) : span f a a = if f a = true then 1 else 0 := by
  unfold span
  rw [show (a + 1 - a).toNat = 1 by omega]
  simp [cntD]
theorem span_zero (f : Int → Bool) {a b : Int} (h : b < a) : span f a b = 0 := by
  unfold span
  rw [show (b + 1 - a).toNat = 0 by omega]; rfl
/-- The first day from one on. -/
def nq (l : List S6) (j c d : Int) : Option Int := match ofP l j c d with | none => none | some x => some (max x.c d)
def least (a b : Option Int) : Option Int := match a, b with
  | none, r => r
  | some a, none => some a
  | some a, some b => some (if b < a then b else a)
def nextF (l : List S6) (j c d : Int) : Option Int := if (chk l).1 ≠ 0 ∨ ¬ (0 ≤ d ∧ d ≤ 3652058) then none else least (nq l j c d) (nq l j 0 d)
def hand2 (r : Option Int) : Int × Bool := match r with | some x => (x, true) | none => (0, false)
/-- What 'the first day' means. -/
def IsNext (f : Int → Bool) (d : Int) : Option Int → Prop
  | none => ∀ m, d ≤ m → m ≤ 3652058 → f m = false
  | some n => d ≤ n ∧ n ≤ 3652058 ∧ f n = true ∧ ∀ m, d ≤ m → m < n → f m = false
theorem isNext_unique {f : Int → Bool} {d : Int} {a b : Option Int} (ha : IsNext f d a) (hb : IsNext f d b) : a = b := by
  rcases a with _ | a <;> rcases b with _ | b
  · rfl
  · obtain ⟨h1, h2, h3, _⟩ := hb
    rw [ha b h1 h2] at h3; cases h3
  · obtain ⟨h1, h2, h3, _⟩ := ha
    rw [hb a h1 h2] at h3; cases h3
  · obtain ⟨h1, h2, h3, h4⟩ := ha
    obtain ⟨g1, g2, g3, g4⟩ := hb
    rcases Int.lt_trichotomy a b with h | h | h
    · rw [g4 a h1 h] at h3; cases h3
    · rw [h]
    · rw [h4 b g1 h] at g3; cases g3
/-- Of one category. -/
def covq (l : List S6) (j c d : Int) : Prop := ∃ x ∈ l, x.a = j ∧ x.b = c ∧ x.c ≤ d ∧ d ≤ x.d
theorem nq_none {l : List S6} {j c d : Int} (h : nq l j c d = none) : ∀ m, d ≤ m → ¬ covq l j c m := by
  unfold nq at h
  rcases hP : ofP l j c d with _ | x
  · rintro m hm ⟨x, hx, h1, h2, h3, h4⟩
    exact ofP_none hP x hx ⟨h1, h2, by omega⟩
  · rw [hP] at h; cases h
theorem nq_some {l : List S6} (hok : Ok l) {j c d n : Int} (h : nq l j c d = some n) : d ≤ n ∧ (0 ≤ d → n ≤ 3652058) ∧ covq l j c n ∧ ∀ m, d ≤ m → m < n → ¬ covq l j c m := by
  unfold nq at h
  rcases hP : ofP l j c d with _ | x
  · rw [hP] at h; cases h
  · rw [hP] at h
    injection h with h
    obtain ⟨g1, g2, g3, g4⟩ := ofP_some hP
    have h1 := one_0 (hok.2.1 x g1)
    refine ⟨by omega, by omega, ⟨x, g1, g2, g3, by omega, by omega⟩, ?_⟩
    rintro m hm hmn ⟨y, hy, e1, e2, e3, e4⟩
    rcases ofP_first hok hP hy e1 e2 (by omega) with rfl | hlt
    · omega
    · omega
theorem cov_q {l : List S6} {j c d : Int} (h0 : (chk l).1 = 0) : cov l j c d = true ↔ covq l j c d ∨ covq l j 0 d := by
  rw [cov_iff h0]
  constructor
  · rintro ⟨x, hx, h1, h2 | h2, h3, h4⟩
    · exact .inl ⟨x, hx, h1, h2, h3, h4⟩
    · exact .inr ⟨x, hx, h1, h2, h3, h4⟩
  · rintro (⟨x, hx, h1, h2, h3, h4⟩ | ⟨x, hx, h1, h2, h3, h4⟩)
    · exact ⟨x, hx, h1, .inl h2, h3, h4⟩
    · exact ⟨x, hx, h1, .inr h2, h3, h4⟩
theorem cov_qf {l : List S6} {j c d : Int} (h0 : (chk l).1 = 0) (h1 : ¬ covq l j c d) (h2 : ¬ covq l j 0 d) : cov l j c d = false := by
  rcases h : cov l j c d with _ | _
  · rfl
  · rcases (cov_q h0).1 h with h | h
    · exact absurd h h1
    · exact absurd h h2
theorem nextF_is {l : List S6} {j c d : Int} (hd : 0 ≤ d ∧ d ≤ 3652058) : IsNext (cov l j c) d (nextF l j c d) := by
  unfold nextF
  by_cases h0 : (chk l).1 = 0
  · have hok := (chk_ok l).1 h0
    rw [if_neg (by intro h; rcases h with h | h; exact h h0; exact h hd)]
    rcases h1 : nq l j c d with _ | a <;> rcases h2 : nq l j 0 d with _ | b
    · intro m hm _
      exact cov_qf h0 (nq_none h1 m hm) (nq_none h2 m hm)
    · obtain ⟨g1, g2, g3, g4⟩ := nq_some hok h2
      exact ⟨g1, g2 hd.1, (cov_q h0).2 (.inr g3), fun m hm hmn => cov_qf h0 (nq_none h1 m hm) (g4 m hm hmn)⟩
    · obtain ⟨g1, g2, g3, g4⟩ := nq_some hok h1
      exact ⟨g1, g2 hd.1, (cov_q h0).2 (.inl g3), fun m hm hmn => cov_qf h0 (g4 m hm hmn) (nq_none h2 m hm)⟩
    · obtain ⟨g1, g2, g3, g4⟩ := nq_some hok h1
      obtain ⟨k1, k2, k3, k4⟩ := nq_some hok h2
      show IsNext _ _ (some (if b < a then b else a))
      by_cases hb : b < a
      · rw [if_pos hb]
        exact ⟨k1, k2 hd.1, (cov_q h0).2 (.inr k3), fun m hm hmn => cov_qf h0 (g4 m hm (by omega)) (k4 m hm hmn)⟩
      · rw [if_neg hb]
        exact ⟨g1, g2 hd.1, (cov_q h0).2 (.inl g3), fun m hm hmn => cov_qf h0 (g4 m hm hmn) (k4 m hm (by omega))⟩
  · rw [if_pos (.inl h0)]
    intro m _ _
    exact cov_bad h0
/-- On how many days. -/
def daysF (l : List S6) (j c a b : Int) : Int := if 0 ≤ a ∧ a ≤ 3652058 ∧ 0 ≤ b ∧ b ≤ 3652058 then span (cov l j c) a b else 0
theorem daysF_bad {l : List S6} {j c a b : Int} (h : (chk l).1 ≠ 0) : daysF l j c a b = 0 := by
  unfold daysF
  split
  · exact span_none fun d _ _ => cov_bad h
  · rfl
/-- A holiday covers its days. -/
theorem cov_run {l : List S6} {j c d : Int} {x : S6} (h : asF l j c d = some x) : ∀ m, d ≤ m → m ≤ x.d → cov l j c m = true := by
  intro m h1 h2
  obtain ⟨h0, g1, g2, g3, g4, g5⟩ := as_some h
  exact (cov_iff h0).2 ⟨x, g1, g2, g3, by omega, h2⟩
/-- Where it may change. -/
def edgeStep (day nx : Int) (x : S6) : Int :=
  let n1 := if day < x.c ∧ x.c < nx then x.c else nx
  if day ≤ x.d ∧ x.d + 1 < n1 then x.d + 1 else n1
def nextE (l : List S6) (day lim : Int) : Int := l.foldl (edgeStep day) lim
theorem edgeStep_bd {day nx : Int} (h : day < nx) (x : S6) : day < edgeStep day nx x ∧ edgeStep day nx x ≤ nx ∧ ¬ (day < x.c ∧ x.c < edgeStep day nx x) ∧ ¬ (day ≤ x.d ∧ x.d + 1 < edgeStep day nx x) := by
  unfold edgeStep
  simp only
  split <;> split <;> omega
theorem nextE_bd : ∀ (l : List S6) (day lim : Int), day < lim → day < nextE l day lim ∧ nextE l day lim ≤ lim ∧ ∀ x ∈ l, ¬ (day < x.c ∧ x.c < nextE l day lim) ∧ ¬ (day ≤ x.d ∧ x.d + 1 < nextE l day lim) := by
  intro l
  induction l with
  | nil => intro day lim h; exact ⟨h, Int.le_refl _, fun x hx => by cases hx⟩
  | cons y t ih =>
    intro day lim h
    obtain ⟨g1, g2, g3, g4⟩ := edgeStep_bd h y
    obtain ⟨k1, k2, k3⟩ := ih day (edgeStep day lim y) g1
    have e : nextE (y :: t) day lim = nextE t day (edgeStep day lim y) := rfl
    rw [e]
    refine ⟨k1, by omega, ?_⟩
    intro x hx
    rcases List.mem_cons.1 hx with rfl | hx
    · exact ⟨by omega, by omega⟩
    · exact k3 x hx
theorem nextE_take {l : List S6} {i : Nat} {x : S6} (h : l[i]? = some x) (day lim : Int) : nextE (l.take (i + 1)) day lim = edgeStep day (nextE (l.take i) day lim) x := by
  unfold nextE
  rw [List.take_add_one, h, List.foldl_append]; rfl
theorem cov_same {l : List S6} {j c day lim m : Int} (hl : day < lim) (h1 : day ≤ m) (h2 : m < nextE l day lim) : cov l j c m = cov l j c day := by
  by_cases h0 : (chk l).1 = 0
  · obtain ⟨_, _, hb⟩ := nextE_bd l day lim hl
    rw [Bool.eq_iff_iff, cov_iff h0, cov_iff h0]
    constructor
    · rintro ⟨x, hx, g1, g2, g3, g4⟩
      have := hb x hx
      exact ⟨x, hx, g1, g2, by omega, by omega⟩
    · rintro ⟨x, hx, g1, g2, g3, g4⟩
      have := hb x hx
      exact ⟨x, hx, g1, g2, by omega, by omega⟩
  · rw [cov_bad h0, cov_bad h0]
/-- Edges: each one behind the one ahead, and nothing changes between. -/
def Edges (l : List S6) (a b : Int) (xs : List Int) : Prop :=
  xs[0]? = some a ∧ (∀ i u v, xs[i]? = some u → xs[i + 1]? = some v → u < v ∧ v ≤ b + 1 ∧ ∀ j c m, u ≤ m → m < v → cov l j c m = cov l j c u) ∧ ∀ u, u ∈ xs → a ≤ u ∧ u ≤ b + 1
theorem edges_one (l : List S6) {a b : Int} (h : a ≤ b) : Edges l a b [a] :=
  ⟨rfl, by intro i u v h1 h2; simp at h2, by intro u hu; simp at hu; omega⟩
theorem edges_snoc {l : List S6} {a b : Int} {xs : List Int} {u : Int} (h : Edges l a b xs) (hu : xs[xs.length - 1]? = some u) (hub : u ≤ b) : Edges l a b (xs ++ [nextE l u (b + 1)]) := by
  obtain ⟨h1, h2, h3⟩ := h
  have hne : 0 < xs.length := by
    rcases xs with _ | ⟨x, t⟩
    · simp at h1
    · simp
  obtain ⟨g1, g2, _⟩ := nextE_bd l u (b + 1) (by omega)
  have hua := (h3 u (List.mem_of_getElem? hu)).1
  refine ⟨?_, ?_, ?_⟩
  · rw [List.getElem?_append_left hne]; exact h1
  · intro i v v' hv hv'
    rcases Nat.lt_or_ge (i + 1) xs.length with hlt | hge
    · rw [List.getElem?_append_left (by omega)] at hv
      rw [List.getElem?_append_left hlt] at hv'
      exact h2 i v v' hv hv'
    · rw [List.getElem?_append_right hge] at hv'
      have hi : i + 1 - xs.length = 0 := by
        rcases Nat.eq_zero_or_pos (i + 1 - xs.length) with h' | h'
        · exact h'
        · rw [List.getElem?_eq_none (by simp; omega)] at hv'; cases hv'
      rw [hi] at hv'
      simp at hv'
      subst hv'
      rw [List.getElem?_append_left (by omega), show i = xs.length - 1 by omega, hu] at hv
      injection hv with hv
      subst hv
      exact ⟨g1, g2, fun j c m e1 e2 => cov_same (by omega) e1 e2⟩
  · intro v hv
    rcases List.mem_append.1 hv with hv | hv
    · exact h3 v hv
    · simp at hv; omega
theorem edges_ge {l : List S6} {a b : Int} {xs : List Int} (h : Edges l a b xs) : ∀ (i : Nat) (u : Int), xs[i]? = some u → a + (i : Int) ≤ u := by
  intro i
  induction i with
  | zero => intro u hu; rw [h.1] at hu; injection hu with hu; omega
  | succ i ih =>
    intro u hu
    have hi := (List.getElem?_eq_some_iff.1 hu).1
    obtain ⟨v, hv⟩ : ∃ v, xs[i]? = some v := ⟨xs[i]'(by omega), List.getElem?_eq_getElem _⟩
    have h1 := ih v hv
    have h2 := (h.2.1 i v u hv hu).1
    omega
theorem edges_len {l : List S6} {a b : Int} {xs : List Int} (h : Edges l a b xs) : (xs.length : Int) ≤ b + 2 - a := by
  rcases Nat.eq_zero_or_pos xs.length with h0 | h0
  · have h1 := h.1
    rw [List.getElem?_eq_none (by omega)] at h1; cases h1
  · obtain ⟨v, hv⟩ : ∃ v, xs[xs.length - 1]? = some v := ⟨xs[xs.length - 1]'(by omega), List.getElem?_eq_getElem _⟩
    have h1 := edges_ge h _ _ hv
    have h2 := (h.2.2 v (List.mem_of_getElem? hv)).2
    omega
/-- The days up to an edge. -/
theorem edges_step {l : List S6} {a b j c : Int} {xs : List Int} (h : Edges l a b xs) {i : Nat} {u v : Int} (hu : xs[i]? = some u) (hv : xs[i + 1]? = some v) : span (cov l j c) a (v - 1) = span (cov l j c) a (u - 1) + (if cov l j c u = true then v - u else 0) := by
  obtain ⟨h1, h2, h3⟩ := h.2.1 i u v hu hv
  have h4 := (h.2.2 u (List.mem_of_getElem? hu)).1
  rw [span_split (cov l j c) (a := a) (m := u - 1) (b := v - 1) (by omega) (by omega), show u - 1 + 1 = u by omega]
  congr 1
  by_cases hc : cov l j c u = true
  · rw [if_pos hc, span_all (by omega) (fun d e1 e2 => by rw [h3 j c d e1 (by omega)]; exact hc)]
    omega
  · rw [if_neg hc]
    exact span_none fun d e1 e2 => by rw [h3 j c d e1 (by omega)]; simpa using hc
theorem edges_next {l : List S6} {a b j c : Int} {xs : List Int} (h : Edges l a b xs) {i : Nat} {u v : Int} (hu : xs[i]? = some u) (hv : xs[i + 1]? = some v) (hn : ∀ m, a ≤ m → m < u → cov l j c m = false) (hc : cov l j c u = false) : ∀ m, a ≤ m → m < v → cov l j c m = false := by
  obtain ⟨h1, h2, h3⟩ := h.2.1 i u v hu hv
  intro m e1 e2
  by_cases hm : m < u
  · exact hn m e1 hm
  · rw [h3 j c m (by omega) e2]; exact hc
end Go.Proofs.Ytfgpndmlellidaa.Hol
