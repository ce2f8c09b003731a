/- Plain mathematics of rules: no program here. -/
import Derived.Test.YtiomkbpniplfhaaSix
namespace Go.Proofs.Ytiomkbpniplfhaa.Mat
/-- Comparing. -/
def cmpI (x y : Int) : Int := if x < y then -1 else if y < x then 1 else 0
def or3 (a b c : Int) : Int := if a ≠ 0 then a else if b ≠ 0 then b else c
def ord (x y : S6) : Int := or3 (cmpI x.a y.a) (cmpI x.b y.b) (cmpI x.c y.c)
/-- Does a rule stand ahead of another one? -/
def Lt (x y : S6) : Prop := x.a < y.a ∨ x.a = y.a ∧ (x.b < y.b ∨ x.b = y.b ∧ x.c < y.c)
instance (x y : S6) : Decidable (Lt x y) := by unfold Lt; infer_instance
def Same (x y : S6) : Prop := x.a = y.a ∧ x.b = y.b ∧ x.c = y.c
instance (x y : S6) : Decidable (Same x y) := by unfold Same; infer_instance
theorem ord_lt (x y : S6) : ord x y < 0 ↔ Lt x y := by
  unfold ord or3 Lt cmpI
  split <;> (try split) <;> (try split) <;> (try split) <;> (try split) <;> (try split) <;> omega
theorem ord_same (x y : S6) : ord x y = 0 ↔ Same x y := by
  unfold ord or3 Same cmpI
  split <;> (try split) <;> (try split) <;> (try split) <;> (try split) <;> (try split) <;> omega
theorem lt_irrefl (x : S6) : ¬ Lt x x := by unfold Lt; omega
theorem lt_trans {x y z : S6} (h1 : Lt x y) (h2 : Lt y z) : Lt x z := by unfold Lt at *; omega
theorem lt_or (x y : S6) : Lt x y ∨ Same x y ∨ Lt y x := by unfold Lt Same; omega
theorem same_lt {x y z : S6} (h1 : Same x y) (h2 : Lt y z) : Lt x z := by unfold Same Lt at *; omega
theorem lt_same {x y z : S6} (h1 : Lt x y) (h2 : Same y z) : Lt x z := by unfold Same Lt at *; omega
theorem same_symm {x y : S6} (h1 : Same x y) : Same y x := by unfold Same at *; omega
theorem same_trans {x y z : S6} (h1 : Same x y) (h2 : Same y z) : Same x z := by unfold Same at *; omega
theorem not_lt_same {x y : S6} (h1 : Same x y) : ¬ Lt x y := by unfold Same Lt at *; omega
theorem lt_asymm {x y : S6} (h1 : Lt x y) : ¬ Lt y x := by unfold Lt at *; omega
/-- Why a rule may not be. -/
def one (x : S6) : Int :=
  if ¬ (1 ≤ x.a ∧ x.a ≤ 1099511627775 ∧ 0 ≤ x.b ∧ x.b ≤ 1099511627775 ∧ 0 ≤ x.c ∧ x.c ≤ 3652058 ∧ 0 ≤ x.e ∧ x.e ≤ 1000000 ∧ 0 ≤ x.f ∧ x.f ≤ 1099511627775) then 5
  else if ¬ (1 ≤ x.d ∧ x.d ≤ 5) ∨ (x.e ≠ 0 ∧ x.d ≠ 3) ∨ (x.f ≠ 0 ∧ ¬ (x.d = 4 ∨ x.d = 5)) then 2 else 0
theorem one_vals (x : S6) : one x = 0 ∨ one x = 2 ∨ one x = 5 := by unfold one; split <;> (try split) <;> simp
theorem one_0 {x : S6} (h : one x = 0) : (1 ≤ x.a ∧ x.a ≤ 1099511627775) ∧ (0 ≤ x.b ∧ x.b ≤ 1099511627775) ∧ (0 ≤ x.c ∧ x.c ≤ 3652058) ∧ (0 ≤ x.e ∧ x.e ≤ 1000000) ∧ (0 ≤ x.f ∧ x.f ≤ 1099511627775) ∧ 1 ≤ x.d ∧ x.d ≤ 5 := by
  unfold one at h
  split at h
  · cases h
  · split at h
    · cases h
    · omega
/-- Why a list may not be, from some place on; q: the one ahead. -/
def bad (q : Option S6) (x : S6) : Bool := match q with | none => false | some y => decide (¬ Lt y x)
def chkFrom : Option S6 → Nat → List S6 → Int × Int
  | _, _, [] => (0, 0)
  | q, i, x :: t => if one x ≠ 0 then (one x, (i : Int)) else if bad q x = true then (2, (i : Int)) else chkFrom (some x) (i + 1) t
def chk (l : List S6) : Int × Int := if 500 < l.length then (3, 0) else chkFrom none 0 l
def prev (l : List S6) (j : Nat) : Option S6 := if j = 0 then none else l[j - 1]?
theorem drop_at {l : List S6} {m : Nat} {x : S6} (h : l[m]? = some x) : l.drop m = x :: l.drop (m + 1) := by
  obtain ⟨hm, rfl⟩ := List.getElem?_eq_some_iff.1 h
  exact List.drop_eq_getElem_cons hm
theorem prev_succ {l : List S6} {j : Nat} {x : S6} (h : l[j]? = some x) : prev l (j + 1) = some x := by
  unfold prev
  rw [if_neg (by omega), Nat.add_sub_cancel, h]
theorem chk_step_one {l : List S6} {j : Nat} {x : S6} (h : l[j]? = some x) (hv : one x ≠ 0) : chkFrom (prev l j) j (l.drop j) = (one x, (j : Int)) := by
  rw [drop_at h, chkFrom, if_pos hv]
theorem chk_step_bad {l : List S6} {j : Nat} {x : S6} (h : l[j]? = some x) (hv : one x = 0) (hq : bad (prev l j) x = true) : chkFrom (prev l j) j (l.drop j) = (2, (j : Int)) := by
  rw [drop_at h, chkFrom, if_neg (by simpa using hv), if_pos hq]
theorem chk_step_ok {l : List S6} {j : Nat} {x : S6} (h : l[j]? = some x) (hv : one x = 0) (hq : bad (prev l j) x = false) : chkFrom (prev l j) j (l.drop j) = chkFrom (prev l (j + 1)) (j + 1) (l.drop (j + 1)) := by
  rw [prev_succ h, drop_at h, chkFrom, if_neg (by simpa using hv), if_neg (by simpa using hq)]
/-- May a list be? -/
def Ok (l : List S6) : Prop := l.length ≤ 500 ∧ (∀ x ∈ l, one x = 0) ∧ l.Pairwise Lt
theorem chkFrom_ok : ∀ (l : List S6) (q : Option S6) (i : Nat), (∀ y, q = some y → one y = 0) → ((chkFrom q i l).1 = 0 ↔ (∀ x ∈ l, one x = 0 ∧ ∀ y, q = some y → Lt y x) ∧ l.Pairwise Lt) := by
  intro l
  induction l with
  | nil => intro q i _; simp [chkFrom]
  | cons x t ih =>
    intro q i hq
    rw [chkFrom]
    by_cases hv : one x = 0
    · rw [if_neg (by simpa using hv)]
      by_cases hb : bad q x = true
      · rw [if_pos hb]
        constructor
        · intro h; cases h
        · rintro ⟨h, _⟩
          rcases q with _ | y
          · cases hb
          · have := (h x (by simp)).2 y rfl
            simp only [bad, decide_eq_true_eq] at hb
            exact absurd this hb
      · rw [if_neg hb, ih (some x) (i + 1) (by intro y hy; injection hy with hy; subst hy; exact hv)]
        constructor
        · rintro ⟨h1, h2⟩
          refine ⟨?_, List.pairwise_cons.2 ⟨fun y hy => (h1 y hy).2 x rfl, h2⟩⟩
          intro y hy
          have hqx : ∀ z, q = some z → Lt z x := by
            intro z hz
            subst hz
            simp only [bad, decide_eq_true_eq] at hb
            exact Decidable.not_not.1 hb
          rcases List.mem_cons.1 hy with rfl | hy
          · exact ⟨hv, hqx⟩
          · exact ⟨(h1 y hy).1, fun z hz => lt_trans (hqx z hz) ((h1 y hy).2 x rfl)⟩
        · rintro ⟨h1, h2⟩
          obtain ⟨h3, h4⟩ := List.pairwise_cons.1 h2
          exact ⟨fun y hy => ⟨(h1 y (by simp [hy])).1, fun z hz => by injection hz with hz; subst hz; exact h3 y hy⟩, h4⟩
    · rw [if_pos hv]
      constructor
      · intro h; exact absurd h hv
      · rintro ⟨h, _⟩
        exact absurd (h x (by simp)).1 hv
theorem chk_ok (l : List S6) : (chk l).1 = 0 ↔ Ok l := by
  unfold chk Ok
  by_cases h : 500 < l.length
  · rw [if_pos h]
    constructor
    · intro h; cases h
    · rintro ⟨h', _⟩; omega
  · rw [if_neg h, chkFrom_ok l none 0 (by intro y hy; cases hy)]
    constructor
    · rintro ⟨h1, h2⟩
      exact ⟨by omega, fun x hx => (h1 x hx).1, h2⟩
    · rintro ⟨_, h1, h2⟩
      exact ⟨fun x hx => ⟨h1 x hx, fun y hy => by cases hy⟩, h2⟩
theorem chkFrom_vals : ∀ (l : List S6) (q : Option S6) (i : Nat), (chkFrom q i l).1 = 0 ∨ (chkFrom q i l).1 = 2 ∨ (chkFrom q i l).1 = 5 := by
  intro l
  induction l with
  | nil => intro q i; simp [chkFrom]
  | cons x t ih =>
    intro q i
    rw [chkFrom]
    split
    · exact one_vals x
    · split
      · simp
      · exact ih _ _
theorem chk_vals (l : List S6) : (chk l).1 = 0 ∨ (chk l).1 = 2 ∨ (chk l).1 = 3 ∨ (chk l).1 = 5 := by
  unfold chk
  split
  · simp
  · rcases chkFrom_vals l none 0 with h | h | h <;> simp [h]
theorem chkFrom_00 : ∀ (l : List S6) (q : Option S6) (i : Nat), (chkFrom q i l).1 = 0 → chkFrom q i l = (0, 0) := by
  intro l
  induction l with
  | nil => intro q i _; rfl
  | cons x t ih =>
    intro q i h
    rw [chkFrom] at h ⊢
    split at h
    · rename_i hv; exact absurd h hv
    · rw [if_neg (by assumption)]
      split at h
      · cases h
      · rw [if_neg (by assumption)]; exact ih _ _ h
theorem chk_00 {l : List S6} (h : (chk l).1 = 0) : chk l = (0, 0) := by
  unfold chk at *
  split at h
  · cases h
  · rw [if_neg (by assumption)]; exact chkFrom_00 _ _ _ h
theorem ok_pair {l : List S6} (h : Ok l) {i j : Nat} {x y : S6} (hi : l[i]? = some x) (hj : l[j]? = some y) (hij : i < j) : Lt x y := by
  obtain ⟨h1, rfl⟩ := List.getElem?_eq_some_iff.1 hi
  obtain ⟨h2, rfl⟩ := List.getElem?_eq_some_iff.1 hj
  exact List.pairwise_iff_getElem.1 h.2.2 i j h1 h2 hij
theorem ok_one {l : List S6} (h : Ok l) {i : Nat} {x : S6} (hi : l[i]? = some x) : one x = 0 := h.2.1 x (List.mem_of_getElem? hi)
/-- The last one of a category that begins on a day, or ahead of it. -/
def inB (j q d : Int) (x : S6) : Bool := decide (x.a = j ∧ x.b = q ∧ x.c ≤ d)
def ofFrom (j q d : Int) (r : Option S6) (l : List S6) : Option S6 := l.foldl (fun r x => if inB j q d x = true then some x else r) r
def ofF (l : List S6) (j q d : Int) : Option S6 := ofFrom j q d none l
theorem of_take {l : List S6} {i : Nat} {x : S6} (h : l[i]? = some x) (j q d : Int) : ofF (l.take (i + 1)) j q d = if inB j q d x = true then some x else ofF (l.take i) j q d := by
  unfold ofF ofFrom
  rw [List.take_add_one, h, List.foldl_append]; rfl
theorem ofFrom_none {j q d : Int} : ∀ (l : List S6) (r : Option S6), (∀ x ∈ l, inB j q d x = false) → ofFrom j q d r l = r := by
  intro l
  induction l with
  | nil => intro r _; rfl
  | cons x t ih =>
    intro r h
    show ofFrom j q d (if inB j q d x = true then some x else r) t = r
    rw [if_neg (by rw [h x (by simp)]; simp), ih r (fun y hy => h y (by simp [hy]))]
theorem of_none {l : List S6} {j q d : Int} (h : ∀ x ∈ l, inB j q d x = false) : ofF l j q d = none := ofFrom_none l none h
theorem of_hit {l : List S6} {j q d : Int} {i : Nat} {x : S6} (h : l[i]? = some x) (hx : inB j q d x = true) (hl : ∀ k y, l[k]? = some y → i < k → inB j q d y = false) : ofF l j q d = some x := by
  have h1 := of_take h j q d
  rw [if_pos hx] at h1
  unfold ofF
  rw [← List.take_append_drop (i + 1) l]
  unfold ofFrom
  rw [List.foldl_append]
  have h2 : List.foldl (fun r x => if inB j q d x = true then some x else r) none (List.take (i + 1) l) = some x := h1
  rw [h2]
  exact ofFrom_none _ _ fun y hy => by
    obtain ⟨k, hk, rfl⟩ := List.mem_iff_getElem.1 hy
    rw [List.length_drop] at hk
    rw [List.getElem_drop]
    exact hl (i + 1 + k) _ (List.getElem?_eq_getElem (by omega)) (by omega)
theorem of_some {l : List S6} {j q d : Int} : ∀ {r : Option S6} {x : S6}, ofFrom j q d r l = some x → r = some x ∨ x ∈ l ∧ x.a = j ∧ x.b = q ∧ x.c ≤ d := by
  induction l with
  | nil => intro r x h; exact .inl h
  | cons y t ih =>
    intro r x h
    have h' : ofFrom j q d (if inB j q d y = true then some y else r) t = some x := h
    rcases ih h' with h1 | ⟨h1, h2⟩
    · by_cases hy : inB j q d y = true
      · rw [if_pos hy] at h1
        injection h1 with h1
        subst h1
        unfold inB at hy
        exact .inr ⟨by simp, of_decide_eq_true hy⟩
      · rw [if_neg hy] at h1; exact .inl h1
    · exact .inr ⟨by simp [h1], h2⟩
theorem ofF_some {l : List S6} {j q d : Int} {x : S6} (h : ofF l j q d = some x) : x ∈ l ∧ x.a = j ∧ x.b = q ∧ x.c ≤ d := by
  rcases of_some h with h | h
  · cases h
  · exact h
/-- What the search finds: behind the rules that are ahead of the key, the same one, if it is there. -/
def key (j q d : Int) : S6 := S6.mk j q d 0 0 0
theorem key_a (j q d : Int) : (key j q d).a = j := rfl
theorem key_b (j q d : Int) : (key j q d).b = q := rfl
theorem key_c (j q d : Int) : (key j q d).c = d := rfl
theorem find_at {l : List S6} {j q d : Int} {i : Nat} {x : S6} (h2 : l[i]? = some x) (h3 : ¬ Lt (key j q d) x) (h4 : ∀ k y, l[k]? = some y → i < k → Lt (key j q d) y) (ha : x.a = j) (hb : x.b = q) : ofF l j q d = some x := by
  refine of_hit h2 ?_ ?_
  · unfold Lt at h3; rw [key_a, key_b, key_c] at h3; unfold inB; apply decide_eq_true; omega
  · intro m y hy hm
    have h5 := h4 m y hy hm
    unfold Lt at h5; rw [key_a, key_b, key_c] at h5; unfold inB; apply decide_eq_false; omega
theorem find_no {l : List S6} (hok : Ok l) {j q d : Int} {i : Nat} {x : S6} (h2 : l[i]? = some x) (h3 : ¬ Lt (key j q d) x) (h4 : ∀ k y, l[k]? = some y → i < k → Lt (key j q d) y) (hn : x.a ≠ j ∨ x.b ≠ q) : ofF l j q d = none := by
  refine of_none fun y hy => ?_
  obtain ⟨k, hk, rfl⟩ := List.mem_iff_getElem.1 hy
  have hy' : l[k]? = some l[k] := List.getElem?_eq_getElem hk
  generalize l[k] = y at hy'
  unfold inB; apply decide_eq_false
  unfold Lt at h3; rw [key_a, key_b, key_c] at h3
  rcases Nat.lt_trichotomy k i with h | h | h
  · have h5 := ok_pair hok hy' h2 h
    unfold Lt at h5; omega
  · subst h; rw [h2] at hy'; injection hy' with hy'; subst hy'; omega
  · have h5 := h4 k y hy' h
    unfold Lt at h5; rw [key_a, key_b, key_c] at h5; omega
theorem find_first {l : List S6} {j q d : Int} (h4 : ∀ (k : Nat) (y : S6), l[k]? = some y → Lt (key j q d) y) : ofF l j q d = none := by
  refine of_none fun y hy => ?_
  obtain ⟨k, hk, rfl⟩ := List.mem_iff_getElem.1 hy
  have h5 := h4 k _ (List.getElem?_eq_getElem hk)
  unfold Lt at h5; rw [key_a, key_b, key_c] at h5
  unfold inB; apply decide_eq_false; omega
/-- The rule of a jurisdiction, a category and a day. -/
def asF (l : List S6) (j q d : Int) : Option S6 := if (chk l).1 ≠ 0 then none else match ofF l j q d with | some x => some x | none => ofF l j 0 d
def hand (r : Option S6) : S6 × Bool := match r with | some x => (x, true) | none => (S6.zero, false)
/-- What of an amount is taxed. -/
def taxed (x : S6) (m : Int) : Int := if x.d = 1 ∨ x.d = 3 then m else if x.d = 4 then max (m - x.f) 0 else if x.d = 5 then (if x.f < m then m else 0) else 0
def baseF (x : S6) (m : Int) : Int × Int := if one x ≠ 0 then (0, 2) else if ¬ (0 ≤ m ∧ m ≤ 1099511627775) then (0, 5) else (taxed x m, 0)
def rateF (x : S6) (u : Int) : Int := if x.d = 3 then x.e else u
theorem taxed_bd {x : S6} (h : one x = 0) {m : Int} (hm : 0 ≤ m) : 0 ≤ taxed x m ∧ taxed x m ≤ m := by
  have := one_0 h
  unfold taxed
  split
  · omega
  · split
    · omega
    · split
      · split <;> omega
      · omega
theorem taxed_mono {x : S6} (h : one x = 0) {a b : Int} (ha : 0 ≤ a) (hab : a ≤ b) : taxed x a ≤ taxed x b := by
  have := one_0 h
  unfold taxed
  split
  · omega
  · split
    · omega
    · split
      · split <;> split <;> omega
      · omega
end Go.Proofs.Ytiomkbpniplfhaa.Mat
