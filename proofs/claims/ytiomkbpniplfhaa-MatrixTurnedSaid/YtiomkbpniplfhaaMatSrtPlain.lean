/- The document's sorting of rules, and what compacting a stable sort of the turned list comes to: plain mathematics. -/
import Derived.Test.YtiomkbpniplfhaaMatCompact
namespace Go.Proofs.Ytiomkbpniplfhaa.Mat
open Go.Sort Go.Proofs
/-- Where a rule belongs; the same one's place is taken. -/
def put : List S6 → S6 → List S6
  | [], x => [x]
  | y :: t, x => if Lt y x then y :: put t x else if Lt x y then x :: y :: t else x :: t
def srt (l : List S6) : List S6 := l.foldl put []
abbrev lt (x y : S6) : Bool := ltOf ord x y
theorem lt_iff (x y : S6) : lt x y = true ↔ Lt x y := by
  unfold lt ltOf
  rw [decide_eq_true_iff]; exact ord_lt x y
theorem nlt_iff (x y : S6) : lt x y = false ↔ ¬ Lt x y := by
  rw [← lt_iff]; simp
theorem eqv_same (x y : S6) : eqv lt x y = true ↔ Same x y := by
  rw [eqv_iff, nlt_iff, nlt_iff]
  unfold Lt Same
  omega
theorem same_refl (x : S6) : Same x x := ⟨rfl, rfl, rfl⟩
/-- The first of its own kind. -/
def First (y : S6) (l : List S6) : Prop := (l.filter (eqv lt y)).head? = some y
theorem first_cons {y x : S6} {l : List S6} : First y (x :: l) ↔ (Same y x ∧ x = y) ∨ (¬ Same y x ∧ First y l) := by
  unfold First
  rw [List.filter_cons]
  by_cases h : Same y x
  · rw [if_pos ((eqv_same y x).2 h)]
    simp [h]
  · rw [if_neg (fun e => h ((eqv_same y x).1 e))]
    simp [h]
theorem first_mem {y : S6} {l : List S6} (h : First y l) : y ∈ l := by
  unfold First at h
  have := List.mem_of_mem_head? (show y ∈ (l.filter (eqv lt y)).head? by rw [h]; rfl)
  exact (List.mem_filter.1 this).1
theorem ddFrom_mem : ∀ (t : List S6) (p y : S6), Sd lt (p :: t) → (y ∈ ddFrom p t ↔ ¬ Same y p ∧ First y t) := by
  intro t
  induction t with
  | nil => intro p y _; simp [ddFrom, First]
  | cons x t ih =>
    intro p y hs
    obtain ⟨h1, h2⟩ := List.pairwise_cons.1 hs
    have hxp : ¬ Lt x p := (nlt_iff _ _).1 (h1 x (by simp))
    rw [ddFrom, first_cons]
    by_cases h : Same x p
    · rw [if_pos h, ih x y h2]
      constructor
      · rintro ⟨a, b⟩
        exact ⟨fun c => a (same_trans c (same_symm h)), Or.inr ⟨a, b⟩⟩
      · rintro ⟨a, ⟨b, _⟩ | ⟨b, c⟩⟩
        · exact absurd (same_trans b h) a
        · exact ⟨b, c⟩
    · rw [if_neg h, List.mem_cons, ih x y h2]
      constructor
      · rintro (rfl | ⟨a, b⟩)
        · exact ⟨h, Or.inl ⟨same_refl _, rfl⟩⟩
        · refine ⟨fun c => ?_, Or.inr ⟨a, b⟩⟩
          have hyx : ¬ Lt y x := (nlt_iff _ _).1 ((List.pairwise_cons.1 h2).1 y (first_mem b))
          unfold Same at *
          unfold Lt at *
          omega
      · rintro ⟨a, ⟨b, rfl⟩ | ⟨b, c⟩⟩
        · exact Or.inl rfl
        · exact Or.inr ⟨b, c⟩
theorem dd_mem {l : List S6} (hs : Sd lt l) (y : S6) : y ∈ dd l ↔ First y l := by
  cases l with
  | nil => simp [dd, First]
  | cons x t =>
    rw [dd, List.mem_cons, ddFrom_mem t x y hs, first_cons]
    constructor
    · rintro (rfl | h)
      · exact Or.inl ⟨same_refl _, rfl⟩
      · exact Or.inr h
    · rintro (⟨_, rfl⟩ | h)
      · exact Or.inl rfl
      · exact Or.inr h
theorem ddFrom_sorted : ∀ (t : List S6) (p : S6), Sd lt (p :: t) → (∀ y ∈ ddFrom p t, Lt p y) ∧ (ddFrom p t).Pairwise Lt := by
  intro t
  induction t with
  | nil => intro p _; simp [ddFrom]
  | cons x t ih =>
    intro p hs
    obtain ⟨h1, h2⟩ := List.pairwise_cons.1 hs
    obtain ⟨i1, i2⟩ := ih x h2
    refine ⟨fun y hy => ?_, ?_⟩
    · have a := ((ddFrom_mem (x :: t) p y hs).1 hy).1
      have b : ¬ Lt y p := (nlt_iff _ _).1 (h1 y ((ddFrom_sub _ _).subset hy))
      unfold Same at a
      unfold Lt at *
      omega
    · rw [ddFrom]
      split
      · exact i2
      · exact List.pairwise_cons.2 ⟨i1, i2⟩
theorem dd_sorted {l : List S6} (hs : Sd lt l) : (dd l).Pairwise Lt := by
  cases l with
  | nil => exact List.Pairwise.nil
  | cons x t => exact List.pairwise_cons.2 (ddFrom_sorted t x hs)
theorem put_mem : ∀ (s : List S6) (x y : S6), s.Pairwise Lt → (y ∈ put s x ↔ y = x ∨ (y ∈ s ∧ ¬ Same y x)) := by
  intro s
  induction s with
  | nil => intro x y _; simp [put]
  | cons z t ih =>
    intro x y hs
    obtain ⟨h1, h2⟩ := List.pairwise_cons.1 hs
    rw [put]
    by_cases h : Lt z x
    · rw [if_pos h, List.mem_cons, ih x y h2, List.mem_cons]
      have hzx : ¬ Same z x := fun c => not_lt_same c h
      constructor
      · rintro (rfl | rfl | ⟨a, b⟩)
        · exact Or.inr ⟨Or.inl rfl, hzx⟩
        · exact Or.inl rfl
        · exact Or.inr ⟨Or.inr a, b⟩
      · rintro (rfl | ⟨rfl | a, b⟩)
        · exact Or.inr (Or.inl rfl)
        · exact Or.inl rfl
        · exact Or.inr (Or.inr ⟨a, b⟩)
    · rw [if_neg h]
      by_cases h' : Lt x z
      · rw [if_pos h', List.mem_cons]
        constructor
        · rintro (rfl | a)
          · exact Or.inl rfl
          · refine Or.inr ⟨a, fun c => ?_⟩
            have hxy : Lt x y := by
              rcases List.mem_cons.1 a with rfl | a
              · exact h'
              · exact lt_trans h' (h1 y a)
            exact not_lt_same (same_symm c) hxy
        · rintro (rfl | ⟨a, _⟩)
          · exact Or.inl rfl
          · exact Or.inr a
      · rw [if_neg h', List.mem_cons, List.mem_cons]
        have hsm : Same z x := by
          rcases lt_or z x with a | a | a
          · exact absurd a h
          · exact a
          · exact absurd a h'
        constructor
        · rintro (rfl | a)
          · exact Or.inl rfl
          · exact Or.inr ⟨Or.inr a, fun c => not_lt_same (same_symm c) (same_lt (same_symm hsm) (h1 y a))⟩
        · rintro (rfl | ⟨rfl | a, b⟩)
          · exact Or.inl rfl
          · exact absurd hsm b
          · exact Or.inr a
theorem put_sorted : ∀ (s : List S6) (x : S6), s.Pairwise Lt → (put s x).Pairwise Lt := by
  intro s
  induction s with
  | nil => intro x _; exact List.pairwise_singleton _ _
  | cons z t ih =>
    intro x hs
    obtain ⟨h1, h2⟩ := List.pairwise_cons.1 hs
    rw [put]
    by_cases h : Lt z x
    · rw [if_pos h]
      refine List.pairwise_cons.2 ⟨fun y hy => ?_, ih x h2⟩
      rcases (put_mem t x y h2).1 hy with rfl | ⟨a, _⟩
      · exact h
      · exact h1 y a
    · rw [if_neg h]
      by_cases h' : Lt x z
      · rw [if_pos h']
        refine List.pairwise_cons.2 ⟨fun y hy => ?_, hs⟩
        rcases List.mem_cons.1 hy with rfl | a
        · exact h'
        · exact lt_trans h' (h1 y a)
      · rw [if_neg h']
        have hsm : Same z x := by
          rcases lt_or z x with a | a | a
          · exact absurd a h
          · exact a
          · exact absurd a h'
        exact List.pairwise_cons.2 ⟨fun y hy => same_lt (same_symm hsm) (h1 y hy), h2⟩
theorem srt_snoc (l : List S6) (x : S6) : srt (l ++ [x]) = put (srt l) x := by unfold srt; rw [List.foldl_append]; rfl
theorem srt_both (n : Nat) : ∀ (l : List S6), l.length = n → (srt l).Pairwise Lt ∧ ∀ y, y ∈ srt l ↔ First y l.reverse := by
  induction n with
  | zero =>
    intro l h
    have : l = [] := List.length_eq_zero_iff.1 h
    subst this
    exact ⟨List.Pairwise.nil, fun y => by simp [srt, First]⟩
  | succ n ih =>
    intro l h
    obtain ⟨m, x, rfl⟩ : ∃ m x, l = m ++ [x] := by
      rcases List.eq_nil_or_concat l with rfl | ⟨m, x, h'⟩
      · simp at h
      · exact ⟨m, x, by simpa using h'⟩
    obtain ⟨i1, i2⟩ := ih m (by simpa using h)
    rw [srt_snoc]
    refine ⟨put_sorted _ _ i1, fun y => ?_⟩
    rw [put_mem _ _ _ i1, i2, List.reverse_append, List.reverse_singleton, List.singleton_append, first_cons]
    constructor
    · rintro (rfl | ⟨a, b⟩)
      · exact Or.inl ⟨same_refl _, rfl⟩
      · exact Or.inr ⟨b, a⟩
    · rintro (⟨_, rfl⟩ | ⟨a, b⟩)
      · exact Or.inl rfl
      · exact Or.inr ⟨b, a⟩
theorem srt_sorted (l : List S6) : (srt l).Pairwise Lt := (srt_both _ l rfl).1
theorem srt_mem (l : List S6) (y : S6) : y ∈ srt l ↔ First y l.reverse := (srt_both _ l rfl).2 y
/-- Two lists in order of the same members. -/
theorem sorted_ext : ∀ (s t : List S6), s.Pairwise Lt → t.Pairwise Lt → (∀ y, y ∈ s ↔ y ∈ t) → s = t := by
  intro s
  induction s with
  | nil =>
    intro t _ _ h
    rcases t with _ | ⟨b, t⟩
    · rfl
    · have := (h b).2 (by simp); simp at this
  | cons a s ih =>
    intro t hs ht h
    rcases t with _ | ⟨b, t⟩
    · have := (h a).1 (by simp); simp at this
    · obtain ⟨a1, a2⟩ := List.pairwise_cons.1 hs
      obtain ⟨b1, b2⟩ := List.pairwise_cons.1 ht
      have hab : a = b := by
        rcases List.mem_cons.1 ((h a).1 (by simp)) with e | e
        · exact e
        · rcases List.mem_cons.1 ((h b).2 (by simp)) with e' | e'
          · exact e'.symm
          · exact absurd (lt_trans (b1 a e) (a1 b e')) (lt_irrefl b)
      subst hab
      rw [ih t a2 b2 (fun y => ?_)]
      constructor
      · intro hy
        rcases List.mem_cons.1 ((h y).1 (by simp [hy])) with rfl | e
        · exact absurd (a1 y hy) (lt_irrefl y)
        · exact e
      · intro hy
        rcases List.mem_cons.1 ((h y).2 (by simp [hy])) with rfl | e
        · exact absurd (b1 y hy) (lt_irrefl y)
        · exact e
/-- A stable sort of the turned list, compacted: the document's. -/
theorem dd_stab {T l : List S6} (h : Stab lt T l.reverse) : dd T = srt l :=
  sorted_ext _ _ (dd_sorted h.1) (srt_sorted l) (fun y => by rw [dd_mem h.1, srt_mem]; unfold First; rw [h.2])
end Go.Proofs.Ytiomkbpniplfhaa.Mat
