/- A later rule, and rules that are turned about: plain mathematics. -/
import Derived.Test.YtiomkbpniplfhaaMatSrtPlain
namespace Go.Proofs.Ytiomkbpniplfhaa.Mat
open Go.Sort Go.Proofs

theorem of_filter (j q d : Int) : ∀ (l : List S6) (r : Option S6), ofFrom j q d r (l.filter (inB j q d)) = ofFrom j q d r l := by
  intro l
  induction l with
  | nil => intro r; rfl
  | cons x t ih =>
    intro r
    rw [List.filter_cons]
    by_cases h : inB j q d x = true
    · rw [if_pos h]
      show ofFrom j q d (if inB j q d x = true then some x else r) (t.filter (inB j q d)) = ofFrom j q d (if inB j q d x = true then some x else r) t
      exact ih _
    · rw [if_neg h]
      show ofFrom j q d r (t.filter (inB j q d)) = ofFrom j q d (if inB j q d x = true then some x else r) t
      rw [if_neg h]
      exact ih r
/-- What a list in order tells of a key hangs on its members of that key alone. -/
theorem of_ext {s t : List S6} {j q d : Int} (hs : s.Pairwise Lt) (ht : t.Pairwise Lt) (h : ∀ y, inB j q d y = true → (y ∈ s ↔ y ∈ t)) : ofF s j q d = ofF t j q d := by
  have e : s.filter (inB j q d) = t.filter (inB j q d) := by
    refine sorted_ext _ _ (hs.filter _) (ht.filter _) (fun y => ?_)
    rw [List.mem_filter, List.mem_filter]
    constructor
    · rintro ⟨a, b⟩; exact ⟨(h y b).1 a, b⟩
    · rintro ⟨a, b⟩; exact ⟨(h y b).2 a, b⟩
  unfold ofF
  rw [← of_filter j q d s, ← of_filter j q d t, e]
theorem ofFrom_isSome {j q d : Int} : ∀ (l : List S6) (r : Option S6) (x : S6), (r.isSome = true ∨ (x ∈ l ∧ inB j q d x = true)) → (ofFrom j q d r l).isSome = true := by
  intro l
  induction l with
  | nil =>
    intro r x h
    rcases h with h | ⟨h, _⟩
    · exact h
    · simp at h
  | cons y t ih =>
    intro r x h
    show (ofFrom j q d (if inB j q d y = true then some y else r) t).isSome = true
    rcases h with h | ⟨h1, h2⟩
    · refine ih _ y (Or.inl ?_)
      split
      · rfl
      · exact h
    · rcases List.mem_cons.1 h1 with rfl | h1
      · rw [if_pos h2]
        exact ih _ x (Or.inl rfl)
      · exact ih _ x (Or.inr ⟨h1, h2⟩)
theorem of_isSome {l : List S6} {j q d : Int} {x : S6} (h1 : x ∈ l) (h2 : inB j q d x = true) : (ofF l j q d).isSome = true := ofFrom_isSome l none x (Or.inr ⟨h1, h2⟩)
theorem asF_ok {l : List S6} (h : Ok l) (j q d : Int) : asF l j q d = match ofF l j q d with | some x => some x | none => ofF l j 0 d := by
  unfold asF
  rw [if_neg (by have := (chk_ok l).2 h; simpa using this)]
  rcases ofF l j q d with _ | _ <;> rfl
theorem asF_isSome {l : List S6} (h : Ok l) {j q d : Int} {x : S6} (h1 : x ∈ l) (ha : x.a = j) (hb : x.b = q ∨ x.b = 0) (hc : x.c ≤ d) : (hand (asF l j q d)).2 = true := by
  rw [asF_ok h]
  rcases hb with hb | hb
  · have := of_isSome (j := j) (q := q) (d := d) h1 (by unfold inB; exact decide_eq_true ⟨ha, hb, hc⟩)
    cases hR : ofF l j q d with
    | none => rw [hR] at this; cases this
    | some y => rfl
  · have := of_isSome (j := j) (q := 0) (d := d) h1 (by unfold inB; exact decide_eq_true ⟨ha, hb, hc⟩)
    cases hR : ofF l j q d with
    | some y => rfl
    | none =>
      cases hR2 : ofF l j 0 d with
      | none => rw [hR2] at this; cases this
      | some y => rfl
/-! ### No two of a kind -/
def Apart (l : List S6) : Prop := l.Pairwise (fun x y => ¬ Same x y)
theorem first_apart : ∀ (l : List S6) (y : S6), Apart l → (First y l ↔ y ∈ l) := by
  intro l
  induction l with
  | nil => intro y _; simp [First]
  | cons x t ih =>
    intro y h
    obtain ⟨h1, h2⟩ := List.pairwise_cons.1 h
    rw [first_cons, ih y h2, List.mem_cons]
    constructor
    · rintro (⟨_, rfl⟩ | ⟨_, b⟩)
      · exact Or.inl rfl
      · exact Or.inr b
    · rintro (rfl | b)
      · exact Or.inl ⟨same_refl _, rfl⟩
      · exact Or.inr ⟨fun c => h1 y b (same_symm c), b⟩
theorem apart_rev {l : List S6} (h : Apart l) : Apart l.reverse := by
  unfold Apart
  rw [List.pairwise_reverse]
  exact h.imp (fun h c => h (same_symm c))
theorem apart_sorted {l : List S6} (h : l.Pairwise Lt) : Apart l := h.imp (fun h c => not_lt_same c h)
theorem srt_apart {l : List S6} (h : Apart l) (y : S6) : y ∈ srt l ↔ y ∈ l := by
  rw [srt_mem, first_apart _ _ (apart_rev h), List.mem_reverse]
theorem srt_id {l : List S6} (h : l.Pairwise Lt) : srt l = l := sorted_ext _ _ (srt_sorted l) h (fun y => srt_apart (apart_sorted h) y)
theorem put_new : ∀ (s : List S6) (x : S6), (∀ z ∈ s, ¬ Same z x) → (put s x).length = s.length + 1 := by
  intro s
  induction s with
  | nil => intro x _; rfl
  | cons z t ih =>
    intro x h
    rw [put]
    by_cases h1 : Lt z x
    · rw [if_pos h1, List.length_cons, ih x (fun y hy => h y (by simp [hy]))]; rfl
    · rw [if_neg h1]
      by_cases h2 : Lt x z
      · rw [if_pos h2]; rfl
      · exfalso
        rcases lt_or z x with a | a | a
        · exact h1 a
        · exact h z (by simp) a
        · exact h2 a
theorem srt_len_apart (n : Nat) : ∀ l : List S6, l.length = n → Apart l → (srt l).length = l.length := by
  induction n with
  | zero =>
    intro l h _
    have : l = [] := List.length_eq_zero_iff.1 h
    subst this; rfl
  | succ n ih =>
    intro l h ha
    obtain ⟨m, x, rfl⟩ : ∃ m x, l = m ++ [x] := by
      rcases List.eq_nil_or_concat l with rfl | ⟨m, x, h'⟩
      · simp at h
      · exact ⟨m, x, by simpa using h'⟩
    obtain ⟨h1, h2, h3⟩ := List.pairwise_append.1 ha
    rw [srt_snoc, put_new _ _ (fun z hz => h3 z ((srt_apart h1 z).1 hz) x (by simp)), ih m (by simpa using h) h1]
    simp
/-- Turned about: the same members, and no two of a kind: the same in order. -/
theorem srt_perm {l m : List S6} (hp : l.Perm m) (h : Apart l) (h' : Apart m) : srt l = srt m :=
  sorted_ext _ _ (srt_sorted l) (srt_sorted m) (fun y => by rw [srt_apart h, srt_apart h', hp.mem_iff])
theorem apart_perm {l m : List S6} (hp : l.Perm m) (h : Apart l) : Apart m := by
  unfold Apart at *
  exact (hp.pairwise_iff (fun h c => h (same_symm c))).1 h
theorem srt_sub {l : List S6} {y : S6} (h : y ∈ srt l) : y ∈ l := by
  have := first_mem ((srt_mem l y).1 h)
  simpa using this
theorem srt_le (n : Nat) : ∀ l : List S6, l.length = n → (srt l).length ≤ l.length := by
  induction n with
  | zero =>
    intro l h
    have : l = [] := List.length_eq_zero_iff.1 h
    subst this; exact Nat.le_refl _
  | succ n ih =>
    intro l h
    obtain ⟨m, x, rfl⟩ : ∃ m x, l = m ++ [x] := by
      rcases List.eq_nil_or_concat l with rfl | ⟨m, x, h'⟩
      · simp at h
      · exact ⟨m, x, by simpa using h'⟩
    have := ih m (by simpa using h)
    have h2 : ∀ (s : List S6), (put s x).length ≤ s.length + 1 := by
      intro s
      induction s with
      | nil => simp [put]
      | cons z t ih =>
        rw [put]
        split
        · simp; omega
        · split <;> simp
    have h3 := h2 (srt m)
    rw [srt_snoc, List.length_append, List.length_singleton]
    omega
theorem srt_ok {l : List S6} (h : ∀ x ∈ l, one x = 0) (hl : l.length ≤ 500) : Ok (srt l) :=
  ⟨Nat.le_trans (srt_le _ l rfl) hl, fun x hx => h x (srt_sub hx), srt_sorted l⟩
/-! ### A later rule -/
section
variable {l : List S6} {more : S6}
theorem later_ok (hok : Ok l) (hone : one more = 0) (hl : l.length ≤ 60) : Ok (srt (l ++ [more])) := srt_ok (fun x hx => by
  rcases List.mem_append.1 hx with h | h
  · exact hok.2.1 x h
  · simp only [List.mem_singleton] at h
    subst h; exact hone) (by simp; omega)
theorem later_mem (hok : Ok l) (y : S6) : y ∈ srt (l ++ [more]) ↔ y = more ∨ (y ∈ l ∧ ¬ Same y more) := by
  rw [srt_snoc, srt_id hok.2.2, put_mem _ _ _ hok.2.2]
theorem later_same (hok : Ok l) (hone : one more = 0) (hl : l.length ≤ 60) {j q d : Int} (h : d < more.c ∨ j ≠ more.a ∨ (q ≠ more.b ∧ more.b ≠ 0)) : asF (srt (l ++ [more])) j q d = asF l j q d := by
  have hk := later_ok hok hone hl
  have e : ∀ q', (q' = q ∨ q' = 0) → ofF (srt (l ++ [more])) j q' d = ofF l j q' d := by
    intro q' hq
    refine of_ext hk.2.2 hok.2.2 (fun y hy => ?_)
    have hy := of_decide_eq_true hy
    rw [later_mem hok]
    constructor
    · rintro (rfl | ⟨a, _⟩)
      · exfalso; omega
      · exact a
    · intro a
      refine Or.inr ⟨a, fun c => ?_⟩
      unfold Same at c
      omega
  rw [asF_ok hk, asF_ok hok, e q (Or.inl rfl), e 0 (Or.inr rfl)]
theorem later_hit (hok : Ok l) (hone : one more = 0) (hl : l.length ≤ 60) : asF (srt (l ++ [more])) more.a more.b more.c = some more := by
  have hk := later_ok hok hone hl
  have hmem : more ∈ srt (l ++ [more]) := (later_mem hok more).2 (Or.inl rfl)
  obtain ⟨i, hi, he⟩ := List.mem_iff_getElem.1 hmem
  have h1 : (srt (l ++ [more]))[i]? = some more := by rw [List.getElem?_eq_getElem hi, he]
  rw [asF_ok hk, of_hit h1 (by unfold inB; exact decide_eq_true ⟨rfl, rfl, Int.le_refl _⟩) (fun k y hy hik => by
    have h2 := ok_pair hk h1 hy hik
    unfold inB
    apply decide_eq_false
    unfold Lt at h2
    omega)]
theorem later_is (hok : Ok l) (hone : one more = 0) (hl : l.length ≤ 60) {j q d : Int} (h : ¬ (d < more.c ∨ j ≠ more.a ∨ (q ≠ more.b ∧ more.b ≠ 0))) : (hand (asF (srt (l ++ [more])) j q d)).2 = true :=
  asF_isSome (later_ok hok hone hl) ((later_mem hok more).2 (Or.inl rfl)) (by omega) (by omega) (by omega)
end
end Go.Proofs.Ytiomkbpniplfhaa.Mat
