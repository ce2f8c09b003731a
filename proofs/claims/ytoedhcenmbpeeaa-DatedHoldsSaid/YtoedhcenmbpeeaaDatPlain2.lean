/- Plain mathematics of lists without what changes nothing: no program here. -/
import Derived.Test.YtoedhcenmbpeeaaDatShort
namespace Go.Proofs.Ytoedhcenmbpeeaa.Dat
theorem ddFrom_sub : ∀ (l : List (Int × Int)) (v : Int), (ddFrom v l).Sublist l := by
  intro l
  induction l with
  | nil => intro v; exact List.Sublist.refl _
  | cons x t ih =>
    intro v
    rw [ddFrom]
    split
    · exact (ih v).cons _
    · exact (ih x.2).cons_cons _
theorem dd_sub (l : List (Int × Int)) : (dd l).Sublist l := by
  cases l with
  | nil => exact List.Sublist.refl _
  | cons x t => exact (ddFrom_sub t x.2).cons_cons _
theorem ok_sub {l m : List (Int × Int)} (h : m.Sublist l) (hk : Ok l) : Ok m :=
  ⟨Nat.le_trans h.length_le hk.1, fun x hx => hk.2.1 x (h.subset hx), hk.2.2.sublist h⟩
theorem dd_ok {l : List (Int × Int)} (h : Ok l) : Ok (dd l) := ok_sub (dd_sub l) h
theorem last_late {l : List (Int × Int)} {day : Int} (acc : Int × Bool) (h : ∀ x ∈ l, day < x.1) : last l day acc = acc := by
  unfold last
  induction l with
  | nil => rfl
  | cons x t ih =>
    have := h x (by simp)
    rw [List.foldl_cons, if_neg (by omega), ih fun y hy => h y (by simp [hy])]
theorem last_cons (x : Int × Int) (t : List (Int × Int)) (day : Int) (acc : Int × Bool) : last (x :: t) day acc = last t day (if x.1 ≤ day then (x.2, true) else acc) := rfl
theorem last_dd : ∀ (t : List (Int × Int)) (v day : Int), t.Pairwise (fun x y => x.1 < y.1) → last (ddFrom v t) day (v, true) = last t day (v, true) := by
  intro t
  induction t with
  | nil => intro v day _; rfl
  | cons x t ih =>
    intro v day hp
    obtain ⟨h1, h2⟩ := List.pairwise_cons.1 hp
    rw [ddFrom]
    by_cases he : x.2 = v
    · rw [if_pos he, last_cons, he, ite_self, ih v day h2]
    · rw [if_neg he, last_cons, last_cons]
      by_cases hd : x.1 ≤ day
      · rw [if_pos hd, ih x.2 day h2]
      · rw [if_neg hd]
        have hl : ∀ y ∈ t, day < y.1 := fun y hy => by have := h1 y hy; omega
        rw [last_late _ hl, last_late _ fun y hy => hl y ((ddFrom_sub t x.2).subset hy)]
theorem last_short {l : List (Int × Int)} (day : Int) (h : l.Pairwise (fun x y => x.1 < y.1)) : last (dd l) day (0, false) = last l day (0, false) := by
  cases l with
  | nil => rfl
  | cons x t =>
    obtain ⟨h1, h2⟩ := List.pairwise_cons.1 h
    rw [dd, last_cons, last_cons]
    by_cases hd : x.1 ≤ day
    · rw [if_pos hd, last_dd t x.2 day h2]
    · rw [if_neg hd]
      have hl : ∀ y ∈ t, day < y.1 := fun y hy => by have := h1 y hy; omega
      rw [last_late _ hl, last_late _ fun y hy => hl y ((ddFrom_sub t x.2).subset hy)]
/-- A list without what changes nothing tells the same of each day. -/
theorem at_short {l : List (Int × Int)} (h : Ok l) (day : Int) : atF (dd l) day = atF l day := by
  by_cases hv : Valid day
  · rw [← last_all h hv, ← last_all (dd_ok h) hv, last_short day h.2.2]
  · unfold atF
    rw [if_pos (.inr hv), if_pos (.inr hv)]
theorem ddFrom_dd : ∀ (t : List (Int × Int)) (v : Int), ddFrom v (ddFrom v t) = ddFrom v t := by
  intro t
  induction t with
  | nil => intro v; rfl
  | cons x t ih =>
    intro v
    rw [ddFrom]
    by_cases he : x.2 = v
    · rw [if_pos he, ih v]
    · rw [if_neg he, ddFrom, if_neg he, ih x.2]
theorem dd_dd (l : List (Int × Int)) : dd (dd l) = dd l := by
  cases l with
  | nil => rfl
  | cons x t => rw [dd, dd, ddFrom_dd]
theorem ddFrom_adj : ∀ (t : List (Int × Int)) (v : Int), (∀ i x y, (ddFrom v t)[i]? = some y → (ddFrom v t)[i + 1]? = some x → x.2 ≠ y.2) ∧ (∀ x, (ddFrom v t)[0]? = some x → x.2 ≠ v) := by
  intro t
  induction t with
  | nil => intro v; simp [ddFrom]
  | cons a t ih =>
    intro v
    rw [ddFrom]
    by_cases he : a.2 = v
    · rw [if_pos he]; exact ih v
    · rw [if_neg he]
      obtain ⟨h1, h2⟩ := ih a.2
      refine ⟨?_, ?_⟩
      · intro i x y hy hx
        rcases i with _ | i
        · simp at hy hx; subst hy; exact h2 x (by simpa using hx)
        · exact h1 i x y (by simpa using hy) (by simpa using hx)
      · intro x hx; simp at hx; subst hx; exact he
theorem dd_adj {l : List (Int × Int)} {i : Nat} {x y : Int × Int} (hy : (dd l)[i]? = some y) (hx : (dd l)[i + 1]? = some x) : x.2 ≠ y.2 := by
  cases l with
  | nil => simp [dd] at hy
  | cons a t =>
    obtain ⟨h1, h2⟩ := ddFrom_adj t a.2
    rw [dd] at hy hx
    rcases i with _ | i
    · simp at hy hx; subst hy; exact h2 x (by simpa using hx)
    · exact h1 i x y (by simpa using hy) (by simpa using hx)
theorem dd_nil (l : List (Int × Int)) : (dd l).length = 0 ↔ l.length = 0 := by
  cases l with
  | nil => simp [dd]
  | cons x t => simp [dd]
/-- What 'Short' tells. -/
def shortF (l : List (Int × Int)) : List (Int × Int) := if chk l ≠ 0 then [] else dd l
theorem shortF_ok {l : List (Int × Int)} (h : Ok l) : shortF l = dd l := by unfold shortF; rw [if_neg (by simpa using (chk_ok l).2 h)]
end Go.Proofs.Ytoedhcenmbpeeaa.Dat
