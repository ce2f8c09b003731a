/- Plain laws of tokens: what does not matter; no program here. -/
import Derived.Test.YtkdgomalhngagaaDoorTokLaws
namespace Go.Proofs.YtkdgomalhngagaaDoor.Tok

theorem tokF_same {m l : List Int} (hm : m.length ≤ 200) (hl : l.length ≤ 200) (ho : (∀ x ∈ m, okB x) ↔ (∀ x ∈ l, okB x)) (ht : toks m = toks l) : (tokF m).2.1 = (tokF l).2.1 ∧ (tokF m).1 = (tokF l).1 := by
  by_cases h : ∀ x ∈ l, okB x
  · have b1 := (badAt_iff l).2 h
    have b2 := (badAt_iff m).2 (ho.2 h)
    by_cases k : 40 < (toks l).length
    · have e1 := tokF_err l hl b1 k
      have e2 := tokF_err m hm b2 (by rw [ht]; exact k)
      exact ⟨by rw [e1, e2], by rw [tokF_not (l := l) (by rw [e1]; decide), tokF_not (l := m) (by rw [e2]; decide)]⟩
    · rw [tokF_fine hl b1 (by omega), tokF_fine hm b2 (by rw [ht]; omega), ht]
      exact ⟨rfl, rfl⟩
  · have b1 : badAt l ≠ none := fun e => h ((badAt_iff l).1 e)
    have b2 : badAt m ≠ none := fun e => h (ho.1 ((badAt_iff m).1 e))
    obtain ⟨i, hi⟩ := Option.ne_none_iff_exists'.1 b1
    obtain ⟨j, hj⟩ := Option.ne_none_iff_exists'.1 b2
    rw [tokF_bad hl hi, tokF_bad hm hj]
    exact ⟨rfl, rfl⟩
theorem okB_up (c : Int) : okB (up c) ↔ okB c := by unfold okB up; split <;> omega
theorem ok_map (l : List Int) : (∀ x ∈ l.map up, okB x) ↔ ∀ x ∈ l, okB x := by
  simp only [List.mem_map]
  constructor
  · intro h x hx; exact (okB_up x).1 (h _ ⟨x, hx, rfl⟩)
  · rintro h _ ⟨x, hx, rfl⟩; exact (okB_up x).2 (h x hx)
theorem ok_ins (l : List Int) : (∀ x ∈ ins l, okB x) ↔ ∀ x ∈ l, okB x := by
  induction l with
  | nil => exact Iff.rfl
  | cons c r ih =>
    unfold ins
    by_cases h : c = 32
    · subst h
      rw [if_pos rfl]
      simp only [List.mem_cons, forall_eq_or_imp, ih]
      exact ⟨fun g => ⟨g.1, g.2.2⟩, fun g => ⟨g.1, by decide, g.2⟩⟩
    · rw [if_neg h]
      simp only [List.mem_cons, forall_eq_or_imp, ih]
theorem ins_app (l : List Int) (c : Int) : ins (l ++ [c]) = ins l ++ (if c = 32 then [32, 9] else [c]) := by
  induction l with
  | nil => rfl
  | cons d r ih =>
    rw [List.cons_append]
    unfold ins
    rw [ih]
    split <;> rfl
theorem loose_same {m l : List Int} (hm : m.length ≤ 200) (hl : l.length ≤ 200) (h : m.map up = (ins l).map up) : (tokF m).2.1 = (tokF l).2.1 ∧ (tokF m).1 = (tokF l).1 :=
  tokF_same hm hl (by rw [← ok_map m, h, ok_map, ok_ins]) (by rw [toks_same h, toks_ins])
theorem point_same {l : List Int} (hl : l.length ≤ 190) : (tokF (l.map up ++ [46, 32])).2.1 = (tokF l).2.1 ∧ (tokF (l.map up ++ [46, 32])).1 = (tokF l).1 := by
  refine tokF_same (by simp; omega) (by omega) ?_ (by rw [toks_tail, toks_up])
  rw [← ok_map l]
  constructor
  · intro h x hx; exact h x (by simp only [List.mem_append]; exact .inl hx)
  · intro h x hx
    rcases List.mem_append.1 hx with g | g
    · exact h x g
    · simp at g; rcases g with rfl | rfl <;> decide
/-- A step of the loop. -/
theorem loose_step {acc l : List Int} {a : Nat} (ha : a < l.length) {v : Int} (h : acc.map up = (ins (l.take a)).map up) (hv : up v = up (l.getD a 0)) (h32 : l.getD a 0 ≠ 32) : (acc ++ [v]).map up = (ins (l.take (a + 1))).map up := by
  rw [List.take_add_one, List.getElem?_eq_getElem ha]
  rw [List.getD_eq_getElem?_getD, List.getElem?_eq_getElem ha, Option.getD_some] at hv h32
  rw [show (some l[a]).toList = [l[a]] from rfl, ins_app, if_neg h32, List.map_append, List.map_append, h]
  simp [hv]
theorem loose_blank {acc l : List Int} {a : Nat} (ha : a < l.length) (h : acc.map up = (ins (l.take a)).map up) (h32 : l.getD a 0 = 32) : ((acc ++ [32]) ++ [9]).map up = (ins (l.take (a + 1))).map up := by
  rw [List.take_add_one, List.getElem?_eq_getElem ha]
  rw [List.getD_eq_getElem?_getD, List.getElem?_eq_getElem ha, Option.getD_some] at h32
  rw [show (some l[a]).toList = [l[a]] from rfl, ins_app, if_pos h32, List.map_append, List.map_append, List.map_append, h]
  simp
end Go.Proofs.YtkdgomalhngagaaDoor.Tok
