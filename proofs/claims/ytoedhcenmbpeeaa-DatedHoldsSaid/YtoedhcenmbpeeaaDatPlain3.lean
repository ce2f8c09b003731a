/- Plain mathematics of the values that hold between two days: no program here. -/
import Derived.Test.YtoedhcenmbpeeaaDatPlain2
namespace Go.Proofs.Ytoedhcenmbpeeaa.Dat
/-- A value behind a list: it stays unless the last value is the same. -/
theorem dd_snoc1 (m : List (Int × Int)) (x : Int × Int) : dd (m ++ [x]) = dd m ++ (if m.getLast?.map Prod.snd = some x.2 then [] else [x]) := by
  rcases List.eq_nil_or_concat m with rfl | ⟨a, y, rfl⟩
  · rfl
  · rw [List.concat_eq_append, List.append_assoc, List.singleton_append, dd_snoc]
    have : (a ++ [y]).getLast?.map Prod.snd = some y.2 := by simp
    rw [this]
    by_cases h : x.2 = y.2
    · rw [if_pos h, if_pos (by rw [h])]
    · rw [if_neg h, if_neg (fun e => h (Option.some.inj e).symm)]
theorem dd_last : ∀ (k : Nat) (m : List (Int × Int)), m.length = k → (dd m).getLast?.map Prod.snd = m.getLast?.map Prod.snd := by
  intro k
  induction k with
  | zero => intro m h; have := List.eq_nil_of_length_eq_zero h; subst this; rfl
  | succ k ih =>
    intro m h
    rcases List.eq_nil_or_concat m with rfl | ⟨a, y, rfl⟩
    · simp at h
    · rw [List.concat_eq_append] at h ⊢
      rw [dd_snoc1]
      have ha : a.length = k := by simpa using h
      by_cases hy : a.getLast?.map Prod.snd = some y.2
      · rw [if_pos hy, List.append_nil, ih a ha, hy]; simp
      · rw [if_neg hy]; simp
/-- The value in force at a day, as the first of a span. -/
def start (l : List (Int × Int)) (f : Int) : List (Int × Int) := if cnt l f = 0 then [] else [(f, (l.getD (cnt l f - 1) (0, 0)).2)]
def mids (l : List (Int × Int)) (f t : Int) (j : Nat) : List (Int × Int) := start l f ++ (l.take j).filter (fun x => decide (f < x.1 ∧ x.1 ≤ t))
/-- What 'Between' tells. -/
def betF (l : List (Int × Int)) (f t : Int) : List (Int × Int) := if chk l ≠ 0 ∨ ¬ Valid f ∨ ¬ Valid t ∨ t < f then [] else dd (mids l f t l.length)
theorem start_le (l : List (Int × Int)) (f : Int) : (start l f).length ≤ 1 := by unfold start; split <;> simp
theorem mids_le (l : List (Int × Int)) (f t : Int) (j : Nat) : (dd (mids l f t j)).length ≤ 1 + l.length := by
  have h1 := dd_le (mids l f t j)
  have h2 := start_le l f
  have h3 := (List.filter_sublist (p := fun x : Int × Int => decide (f < x.1 ∧ x.1 ≤ t)) (l := l.take j)).length_le
  have h4 := List.length_take_le' j l
  unfold mids at h1 ⊢
  rw [List.length_append] at h1
  omega
theorem betF_le (l : List (Int × Int)) (f t : Int) : (betF l f t).length ≤ 1 + l.length := by
  unfold betF
  split
  · simp
  · exact mids_le l f t _
theorem mids_zero (l : List (Int × Int)) (f t : Int) : mids l f t 0 = start l f := by simp [mids]
theorem take_filter {l : List (Int × Int)} {f t : Int} {j : Nat} {x : Int × Int} (hx : l[j]? = some x) : (l.take (j + 1)).filter (fun x => decide (f < x.1 ∧ x.1 ≤ t)) = (l.take j).filter (fun x => decide (f < x.1 ∧ x.1 ≤ t)) ++ (if f < x.1 ∧ x.1 ≤ t then [x] else []) := by
  rw [List.take_add_one, hx, List.filter_append]
  congr 1
  by_cases h : f < x.1 ∧ x.1 ≤ t <;> simp [h]
theorem mids_in {l : List (Int × Int)} {f t : Int} {j : Nat} {x : Int × Int} (hx : l[j]? = some x) (h1 : f < x.1) (h2 : x.1 ≤ t) : mids l f t (j + 1) = mids l f t j ++ [x] := by
  unfold mids
  rw [take_filter hx, if_pos ⟨h1, h2⟩, List.append_assoc]
theorem mids_out {l : List (Int × Int)} {f t : Int} {j : Nat} {x : Int × Int} (hx : l[j]? = some x) (h : ¬ (f < x.1 ∧ x.1 ≤ t)) : mids l f t (j + 1) = mids l f t j := by
  unfold mids
  rw [take_filter hx, if_neg h, List.append_nil]
theorem take_cnt {l : List (Int × Int)} {f t : Int} : (l.take (cnt l f)).filter (fun x => decide (f < x.1 ∧ x.1 ≤ t)) = [] := by
  rw [List.filter_eq_nil_iff]
  intro x hx
  obtain ⟨i, hi, he⟩ := List.mem_iff_getElem.1 hx
  rw [List.length_take] at hi
  rw [List.getElem_take] at he
  have := cnt_lo (day := f) (show l[i]? = some x from List.getElem?_eq_some_iff.2 ⟨by omega, he⟩) (by omega)
  simp; omega
theorem mids_cnt (l : List (Int × Int)) (f t : Int) : mids l f t (cnt l f) = start l f := by
  unfold mids
  rw [take_cnt, List.append_nil]
/-- The value ahead of a place. -/
def val (l : List (Int × Int)) (j : Nat) : Option Int := if j = 0 then none else some (l.getD (j - 1) (0, 0)).2
theorem val_succ {l : List (Int × Int)} {i : Nat} {y : Int × Int} (h : l[i]? = some y) : val l (i + 1) = some y.2 := by
  unfold val
  rw [if_neg (by omega), Nat.add_sub_cancel, List.getD, h]; rfl
theorem mids_val {l : List (Int × Int)} (hok : Ok l) {f t : Int} {j : Nat} {x : Int × Int} (hx : l[j]? = some x) (h1 : f < x.1) (h2 : x.1 ≤ t) : (mids l f t j).getLast?.map Prod.snd = val l j := by
  have hlen := (List.getElem?_eq_some_iff.1 hx).1
  have hk : cnt l f ≤ j := by
    rcases Nat.lt_or_ge j (cnt l f) with h | h
    · have := cnt_lo hx h; omega
    · exact h
  rcases j with _ | i
  · have hk0 : cnt l f = 0 := by omega
    rw [mids_zero, start, if_pos hk0]; rfl
  · obtain ⟨y, hy⟩ : ∃ y, l[i]? = some y := ⟨l[i]'(by omega), List.getElem?_eq_getElem _⟩
    have hyx := ok_lt hok hy hx (by omega)
    rw [val_succ hy]
    by_cases hyf : f < y.1
    · rw [mids_in hy hyf (by omega)]; simp
    · have hc : cnt l f = i + 1 := by
        rcases Nat.lt_or_ge i (cnt l f) with h | h
        · omega
        · have := cnt_hi (day := f) hok hy h; omega
      rw [← hc, mids_cnt, start, if_neg (by omega), hc, Nat.add_sub_cancel, List.getD, hy]; rfl
theorem bet_last {l : List (Int × Int)} (hok : Ok l) {f t : Int} {j : Nat} {x : Int × Int} (hx : l[j]? = some x) (h1 : f < x.1) (h2 : x.1 ≤ t) : (dd (mids l f t j)).getLast?.map Prod.snd = val l j := by
  rw [dd_last _ _ rfl, mids_val hok hx h1 h2]
theorem bet_in {l : List (Int × Int)} (hok : Ok l) {f t : Int} {j : Nat} {x : Int × Int} (hx : l[j]? = some x) (h1 : f < x.1) (h2 : x.1 ≤ t) : dd (mids l f t (j + 1)) = dd (mids l f t j) ++ (if val l j = some x.2 then [] else [x]) := by
  rw [mids_in hx h1 h2, dd_snoc1, mids_val hok hx h1 h2]
/-- The value of the day ahead of a value's day. -/
theorem at_ahead {l : List (Int × Int)} (hok : Ok l) {j : Nat} {x : Int × Int} (hx : l[j]? = some x) (h0 : 0 < x.1) : atF l (x.1 - 1) = if j = 0 then (0, false) else ((l.getD (j - 1) (0, 0)).2, true) := by
  have hlen := (List.getElem?_eq_some_iff.1 hx).1
  have hv := ok_valid hok hx
  have hc : cnt l (x.1 - 1) = j := by
    refine cnt_is (by omega) (fun i y hy hi => ?_) (fun i y hy hi => ?_)
    · have := ok_lt hok hy hx hi; omega
    · rcases Nat.lt_or_ge j i with h | h
      · have := ok_lt hok hx hy h; omega
      · obtain rfl : i = j := by omega
        rw [hy] at hx; injection hx with hx; subst hx; omega
  unfold atF
  rw [if_neg (by unfold Valid at *; simp [(chk_ok l).2 hok]; omega), hc]
theorem last_app (a b : List (Int × Int)) (day : Int) (acc : Int × Bool) : last (a ++ b) day acc = last b day (last a day acc) := by unfold last; rw [List.foldl_append]
theorem last_filter {f t day : Int} (ht : day ≤ t) : ∀ (l : List (Int × Int)) (acc : Int × Bool), (∀ x ∈ l, f < x.1) → last (l.filter (fun x => decide (f < x.1 ∧ x.1 ≤ t))) day acc = last l day acc := by
  intro l
  induction l with
  | nil => intro acc _; rfl
  | cons x l ih =>
    intro acc h
    have hx := h x (by simp)
    by_cases hxt : x.1 ≤ t
    · rw [List.filter_cons_of_pos (by simp; omega), last_cons, last_cons, ih _ fun y hy => h y (by simp [hy])]
    · rw [List.filter_cons_of_neg (by simp; omega), last_cons, if_neg (by omega), ih _ fun y hy => h y (by simp [hy])]
theorem start_last {l : List (Int × Int)} {f day : Int} (hfd : f ≤ day) (hok : Ok l) : last (start l f) day (0, false) = last (l.take (cnt l f)) day (0, false) := by
  have h1 := last_is hok day (cnt l f) (cnt_le l f)
  have h2 : cnt l f ≤ cnt l day := by
    rcases Nat.lt_or_ge (cnt l day) (cnt l f) with h | h
    · obtain ⟨x, hx⟩ : ∃ x, l[cnt l day]? = some x := ⟨l[cnt l day]'(by have := cnt_le l f; omega), List.getElem?_eq_getElem _⟩
      have := cnt_lo hx h
      have := cnt_at hx
      omega
    · exact h
  rw [h1, Nat.min_eq_left h2]
  unfold start
  by_cases h0 : cnt l f = 0
  · rw [if_pos h0, if_pos h0]; rfl
  · rw [if_neg h0, if_neg h0]
    unfold last
    simp [hfd]
theorem mids_last {l : List (Int × Int)} (hok : Ok l) {f t day : Int} (hf : f ≤ day) (ht : day ≤ t) : last (mids l f t l.length) day (0, false) = last l day (0, false) := by
  unfold mids
  rw [last_app, start_last hf hok, List.take_of_length_le (Nat.le_refl _)]
  conv => lhs; arg 1; rw [← List.take_append_drop (cnt l f) l, List.filter_append, take_cnt, List.nil_append]
  rw [last_filter ht, ← last_app, List.take_append_drop]
  intro x hx
  obtain ⟨i, hi, he⟩ := List.mem_iff_getElem.1 hx
  rw [List.getElem_drop] at he
  rw [List.length_drop] at hi
  exact cnt_hi hok (show l[cnt l f + i]? = some x from List.getElem?_eq_some_iff.2 ⟨by omega, he⟩) (by omega)
theorem mids_ok {l : List (Int × Int)} (hok : Ok l) {f t : Int} (hf : Valid f) (h60 : l.length ≤ 60) (j : Nat) : Ok (mids l f t j) := by
  have h2 := start_le l f
  have h3 := (List.filter_sublist (p := fun x : Int × Int => decide (f < x.1 ∧ x.1 ≤ t)) (l := l.take j))
  have h4 := List.length_take_le' j l
  have hs := h3.trans (List.take_sublist j l)
  refine ⟨?_, ?_, ?_⟩
  · unfold mids; rw [List.length_append]; have := h3.length_le; omega
  · intro x hx
    unfold mids at hx
    rcases List.mem_append.1 hx with h | h
    · unfold start at h
      split at h
      · cases h
      · simp at h; subst h; exact hf
    · exact hok.2.1 x (hs.subset h)
  · unfold mids
    rw [List.pairwise_append]
    refine ⟨?_, hok.2.2.sublist hs, ?_⟩
    · unfold start; split <;> simp
    · intro a ha b hb
      unfold start at ha
      split at ha
      · cases ha
      · simp at ha; subst ha
        have := (List.mem_filter.1 hb).2
        simp at this; exact this.1
/-- A span's list tells the same of each of its days. -/
theorem at_bet {l : List (Int × Int)} (hok : Ok l) {f t day : Int} (hf : Valid f) (ht : Valid t) (h60 : l.length ≤ 60) (h1 : f ≤ day) (h2 : day ≤ t) : atF (betF l f t) day = atF l day := by
  have hd : Valid day := by unfold Valid at *; omega
  unfold betF
  rw [if_neg (by simp [(chk_ok l).2 hok, hf, ht]; omega), at_short (mids_ok hok hf h60 _), ← last_all (mids_ok hok hf h60 _) hd, mids_last hok h1 h2, last_all hok hd]
theorem bet_ok {l : List (Int × Int)} (hok : Ok l) {f t : Int} (hf : Valid f) (h60 : l.length ≤ 60) : Ok (betF l f t) := by
  unfold betF
  split
  · exact ⟨by simp, by simp, List.Pairwise.nil⟩
  · exact dd_ok (mids_ok hok hf h60 _)
theorem bet_within {l : List (Int × Int)} {f t : Int} (hft : f ≤ t) : ∀ x ∈ betF l f t, f ≤ x.1 ∧ x.1 ≤ t := by
  intro x hx
  unfold betF at hx
  split at hx
  · cases hx
  · have hx := (dd_sub _).subset hx
    unfold mids at hx
    rcases List.mem_append.1 hx with h | h
    · unfold start at h
      split at h
      · cases h
      · simp at h; subst h; exact ⟨Int.le_refl _, hft⟩
    · have := (List.mem_filter.1 h).2
      simp at this; omega
theorem bet_adj {l : List (Int × Int)} {f t : Int} {i : Nat} {x y : Int × Int} (hy : (betF l f t)[i]? = some y) (hx : (betF l f t)[i + 1]? = some x) : x.2 ≠ y.2 := by
  unfold betF at hy hx
  split at hy
  · cases hy
  · rename_i h
    rw [if_neg h] at hx
    exact dd_adj hy hx
end Go.Proofs.Ytoedhcenmbpeeaa.Dat
