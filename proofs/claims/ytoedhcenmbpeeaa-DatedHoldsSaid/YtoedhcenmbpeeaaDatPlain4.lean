/- Plain mathematics of a value put into a list: no program here. -/
import Derived.Test.YtoedhcenmbpeeaaDatRefDrop
namespace Go.Proofs.Ytoedhcenmbpeeaa.Dat
theorem last_le (o : Int) : ∀ (l : List (Int × Int)) (acc : Int × Bool), last (l.filter (fun x => decide (x.1 ≤ o))) o acc = last l o acc := by
  intro l
  induction l with
  | nil => intro acc; rfl
  | cons x t ih =>
    intro acc
    by_cases h : x.1 ≤ o
    · rw [List.filter_cons_of_pos (by simpa using h), last_cons, last_cons, ih]
    · rw [List.filter_cons_of_neg (by simpa using h), last_cons, if_neg h, ih]
theorem split_cnt {l : List (Int × Int)} (hok : Ok l) (day : Int) : l.take (cnt l day) = l.filter (fun x => decide (x.1 ≤ day)) ∧ l.drop (cnt l day) = l.filter (fun x => decide (day < x.1)) := by
  have h1 : ∀ x ∈ l.take (cnt l day), x.1 ≤ day := by
    intro x hx
    obtain ⟨i, hi, he⟩ := List.mem_iff_getElem.1 hx
    rw [List.length_take] at hi
    rw [List.getElem_take] at he
    exact cnt_lo (show l[i]? = some x from List.getElem?_eq_some_iff.2 ⟨by omega, he⟩) (by omega)
  have h2 : ∀ x ∈ l.drop (cnt l day), day < x.1 := by
    intro x hx
    obtain ⟨i, hi, he⟩ := List.mem_iff_getElem.1 hx
    rw [List.length_drop] at hi
    rw [List.getElem_drop] at he
    exact cnt_hi hok (show l[cnt l day + i]? = some x from List.getElem?_eq_some_iff.2 ⟨by omega, he⟩) (by omega)
  refine ⟨?_, ?_⟩
  · conv => rhs; rw [← List.take_append_drop (cnt l day) l, List.filter_append]
    rw [List.filter_eq_self.2 (fun x hx => by simpa using h1 x hx), List.filter_eq_nil_iff.2 (fun x hx => by have := h2 x hx; simp; omega), List.append_nil]
  · conv => rhs; rw [← List.take_append_drop (cnt l day) l, List.filter_append]
    rw [List.filter_eq_nil_iff.2 (fun x hx => by have := h1 x hx; simp; omega), List.filter_eq_self.2 (fun x hx => by simpa using h2 x hx), List.nil_append]
/-- The list with a value put in. -/
def putL (l : List (Int × Int)) (day v : Int) : List (Int × Int) := l.filter (fun x => decide (x.1 < day)) ++ [(day, v)] ++ l.filter (fun x => decide (day < x.1))
theorem putF_is {l : List (Int × Int)} (hok : Ok l) {day : Int} (hd : Valid day) (h : l.length < 200) (v : Int) : putF l day v = (putL l day v, 0) := by
  have h0 := (chk_ok l).2 hok
  have hF : dropF l day = (l.filter (fun x => decide (x.1 ≠ day)), 0) := by unfold dropF; rw [if_neg (by simpa using h0), if_neg (by simpa using hd)]
  have hlen : (l.filter (fun x => decide (x.1 ≠ day))).length ≤ l.length := List.filter_sublist.length_le
  unfold putF
  rw [hF]
  simp only [ne_eq, not_true_eq_false, if_false]
  rw [if_neg (by simp only [ne_eq] at hlen; omega)]
  have hokd : Ok (l.filter (fun x => decide (x.1 ≠ day))) := ok_sub List.filter_sublist hok
  obtain ⟨s1, s2⟩ := split_cnt hokd day
  simp only [ne_eq] at s1 s2
  unfold ins putL
  rw [s1, s2, List.filter_filter, List.filter_filter]
  congr 1
  congr 1
  · congr 1
    apply List.filter_congr
    intro x _
    by_cases h1 : x.1 = day
    · simp [h1]
    · have : (x.1 ≤ day) = (x.1 < day) := by apply propext; constructor <;> intro h <;> omega
      simp [h1, this]
  · apply List.filter_congr
    intro x _
    by_cases h1 : x.1 = day
    · simp [h1]
    · simp [h1]
theorem putL_ok {l : List (Int × Int)} (hok : Ok l) {day : Int} (hd : Valid day) (h : l.length < 200) (v : Int) : Ok (putL l day v) := by
  have hs1 : (l.filter (fun x => decide (x.1 < day))).Sublist l := List.filter_sublist
  have hs2 : (l.filter (fun x => decide (day < x.1))).Sublist l := List.filter_sublist
  refine ⟨?_, ?_, ?_⟩
  · have : (l.filter (fun x => decide (x.1 < day))).length + (l.filter (fun x => decide (day < x.1))).length ≤ l.length := by
      clear hok h hs1 hs2
      induction l with
      | nil => simp
      | cons x t ih =>
        by_cases h1 : x.1 < day
        · rw [List.filter_cons_of_pos (by simpa using h1), List.filter_cons_of_neg (by simp; omega)]; simp; omega
        · rw [List.filter_cons_of_neg (by simpa using h1)]
          by_cases h2 : day < x.1
          · rw [List.filter_cons_of_pos (by simpa using h2)]; simp; omega
          · rw [List.filter_cons_of_neg (by simpa using h2)]; simp; omega
    unfold putL
    simp only [List.length_append, List.length_cons, List.length_nil]
    omega
  · intro x hx
    unfold putL at hx
    rcases List.mem_append.1 hx with hx | hx
    · rcases List.mem_append.1 hx with hx | hx
      · exact hok.2.1 x (hs1.subset hx)
      · simp at hx; subst hx; exact hd
    · exact hok.2.1 x (hs2.subset hx)
  · unfold putL
    rw [List.append_assoc, List.pairwise_append]
    refine ⟨hok.2.2.sublist hs1, ?_, ?_⟩
    · rw [List.singleton_append, List.pairwise_cons]
      refine ⟨fun y hy => ?_, hok.2.2.sublist hs2⟩
      have := (List.mem_filter.1 hy).2
      simpa using this
    · intro a ha b hb
      have h1 := (List.mem_filter.1 ha).2
      simp at h1
      rcases List.mem_append.1 hb with hb | hb
      · simp at hb; subst hb; exact h1
      · have h2 := (List.mem_filter.1 hb).2
        simp at h2
        omega
/-- The day of the next value behind a day. -/
def next (l : List (Int × Int)) (day : Int) : Int := ((l.filter (fun x => decide (day < x.1))).head?.map Prod.fst).getD 3652059
theorem at_put_in {l : List (Int × Int)} (hok : Ok l) {day o v : Int} (hd : Valid day) (ho : Valid o) (h : l.length < 200) (h1 : day ≤ o) (h2 : o < next l day) : atF (putL l day v) o = (v, true) := by
  rw [← last_all (putL_ok hok hd h v) ho]
  unfold putL
  rw [last_app, last_app]
  have hlate : ∀ x ∈ l.filter (fun x => decide (day < x.1)), o < x.1 := by
    intro x hx
    unfold next at h2
    have hp := hok.2.2.sublist (List.filter_sublist (p := fun x : Int × Int => decide (day < x.1)))
    rcases hl : l.filter (fun x => decide (day < x.1)) with _ | ⟨y, t⟩
    · rw [hl] at hx; cases hx
    · rw [hl] at hx h2 hp
      simp at h2
      rcases List.mem_cons.1 hx with rfl | hx
      · exact h2
      · have := (List.pairwise_cons.1 hp).1 x hx; omega
  rw [last_late _ hlate]
  unfold last
  simp [h1]
theorem at_put_out {l : List (Int × Int)} (hok : Ok l) {day o v : Int} (hd : Valid day) (ho : Valid o) (h : l.length < 200) (h1 : ¬ (day ≤ o ∧ o < next l day)) : atF (putL l day v) o = atF l o := by
  rw [← last_all (putL_ok hok hd h v) ho, ← last_all hok ho]
  by_cases h2 : day ≤ o
  · have h3 : next l day ≤ o := by omega
    obtain ⟨s1, s2⟩ := split_cnt hok day
    conv => rhs; rw [← List.take_append_drop (cnt l day) l, s2]
    unfold putL
    rw [last_app, last_app]
    unfold next at h3
    unfold Valid at ho
    rcases hl : l.filter (fun x => decide (day < x.1)) with _ | ⟨y, t⟩
    · rw [hl] at h3; simp at h3; omega
    · rw [hl] at h3
      simp at h3
      rw [hl, last_app, last_cons y t, last_cons y t, if_pos h3, if_pos h3]
  · rw [← last_le o (putL l day v), ← last_le o l]
    congr 1
    unfold putL
    rw [List.filter_append, List.filter_append, List.filter_filter, List.filter_filter, List.filter_cons_of_neg (by simp; omega), List.filter_nil, List.append_nil]
    have hnil : l.filter (fun x => decide (x.1 ≤ o) && decide (day < x.1)) = [] := List.filter_eq_nil_iff.2 (fun x _ => by simp; omega)
    rw [hnil, List.append_nil]
    apply List.filter_congr
    intro x _
    by_cases h3 : x.1 ≤ o
    · have : x.1 < day := by omega
      simp [h3, this]
    · simp [h3]
end Go.Proofs.Ytoedhcenmbpeeaa.Dat
