/- Plain laws of tokens: what a token of a kind holds; no program here. -/
import Derived.Test.YtkdgomalhngagaaDoorTokLaws
namespace Go.Proofs.YtkdgomalhngagaaDoor.Tok

def cnt (l : List Int) : Nat := l.countP fun c => decide (isD c)
theorem cnt_step {l : List Int} {k : Nat} (h : k < l.length) : cnt (l.take (k + 1)) = cnt (l.take k) + (if isD (l.getD k 0) then 1 else 0) := by
  unfold cnt
  rw [List.take_add_one, List.getElem?_eq_getElem h, List.countP_append, List.getD_eq_getElem?_getD, List.getElem?_eq_getElem h]
  by_cases g : isD l[k] <;> simp [g]
theorem cnt_all {l : List Int} : cnt l = l.length ↔ ∀ c ∈ l, isD c := by unfold cnt; rw [List.countP_eq_length]; simp
def sndC (c : Int) : Prop := (48 ≤ c ∧ c ≤ 57) ∨ (65 ≤ c ∧ c ≤ 90)
theorem snd_cap {c : Int} (h : snd c) : sndC (up c) := by
  unfold snd isL isD at h; unfold sndC up
  split <;> omega
theorem cap_L {c : Int} (h : sndC c) (hl : isL c) : 65 ≤ c ∧ c ≤ 90 := by unfold sndC at h; unfold isL at hl; omega
theorem cap_D {c : Int} (h : sndC c) (hl : ¬ isL c) : 48 ≤ c ∧ c ≤ 57 := by unfold sndC at h; unfold isL at hl; omega
theorem last_get (t : List Int) : t.getLastD 0 = t.getD (t.length - 1) 0 := by
  rw [List.getLastD_eq_getLast?, List.getLast?_eq_getElem?, List.getD_eq_getElem?_getD]
theorem head_get' (t : List Int) : t.headD 0 = t.getD 0 0 := by cases t <;> rfl
/-- A token's text is in capitals, and is not empty. -/
theorem is_cap {n : Nat} {x : Tk} (h : Is n x) : x.2 ≠ [] ∧ x.2.map up = x.2 ∧ (1 ≤ x.1 ∧ x.1 ≤ 5) := by
  rcases h with rfl | rfl | ⟨p, hp, rfl, _⟩
  · exact ⟨by simp, rfl, by decide⟩
  · exact ⟨by simp, rfl, by decide⟩
  · refine ⟨by unfold tok; simpa using hp.ne, map_up_up p, ?_⟩
    have := kind_lt (p.map up)
    unfold tok; simp only; omega
theorem is_round {n : Nat} {x : Tk} (h : Is n x) {k : Nat} (hk : k < x.2.length) :
    (x.1 ≤ 3 ∧ 48 ≤ x.2.getD k 0 ∧ x.2.getD k 0 ≤ 57) ∨ (x.1 ≤ 3 ∧ 65 ≤ x.2.getD k 0 ∧ x.2.getD k 0 ≤ 90) ∨ (x.1 ≤ 3 ∧ x.2.getD k 0 < 48 ∧ x.2.getD k 0 ≠ 32 ∧ x.2.getD k 0 ≠ 9 ∧ k ≠ 0 ∧ k + 1 ≠ x.2.length) ∨ (4 ≤ x.1 ∧ x.2.getD k 0 < 48 ∧ x.2.getD k 0 ≠ 32 ∧ x.2.getD k 0 ≠ 9 ∧ k = 0) := by
  rcases h with rfl | rfl | ⟨p, hp, rfl, _⟩
  · simp at hk; subst hk; exact .inr (.inr (.inr (by decide)))
  · simp at hk; subst hk; exact .inr (.inr (.inr (by decide)))
  · have hkd := kind_lt (p.map up)
    have h3 : (tok p).1 ≤ 3 := by unfold tok; simp only; omega
    have hl : (tok p).2 = p.map up := rfl
    rw [hl] at hk ⊢
    have hk' : k < p.length := by simpa using hk
    have hm : ((p.map up).getD k 0) = up (p.getD k 0) := by
      rw [List.getD_eq_getElem?_getD, List.getD_eq_getElem?_getD, List.getElem?_map, List.getElem?_eq_getElem hk']; rfl
    have hin : p.getD k 0 ∈ p := by
      rw [List.getD_eq_getElem?_getD, List.getElem?_eq_getElem hk']; exact List.getElem_mem hk'
    rw [hm]
    rcases hp.all _ hin with g | g
    · rcases snd_cap g with q | q
      · exact .inl ⟨h3, q⟩
      · exact .inr (.inl ⟨h3, q⟩)
    · refine .inr (.inr (.inl ⟨h3, ?_⟩))
      have g' := (isJ_up _).2 g
      refine ⟨by unfold isJ at g'; omega, by unfold isJ at g'; omega, by unfold isJ at g'; omega, ?_, ?_⟩
      · rintro rfl
        have := hp.head
        rw [head_get'] at this
        exact isJ_not g this
      · intro e
        rw [List.length_map] at e
        have := hp.last
        rw [last_get, show p.length - 1 = k by omega] at this
        exact isJ_not g this
theorem is_end {n : Nat} {x : Tk} (h : Is n x) :
    (x.1 = 1 ∧ 65 ≤ x.2.getD 0 0 ∧ x.2.getD 0 0 ≤ 90) ∨ (x.1 = 2 ∧ x.2.getD 0 0 < 65 ∧ cnt x.2 = x.2.length) ∨ (x.1 = 3 ∧ x.2.getD 0 0 < 65 ∧ cnt x.2 ≠ x.2.length) ∨ x = (4, [44]) ∨ x = (5, [35]) := by
  rcases h with rfl | rfl | ⟨p, hp, rfl, _⟩
  · exact .inr (.inr (.inr (.inl rfl)))
  · exact .inr (.inr (.inr (.inr rfl)))
  · have hh : sndC ((p.map up).getD 0 0) := by rw [← head_get', head_up]; exact snd_cap hp.head
    have e1 : (tok p).1 = kind (p.map up) := rfl
    have e2 : (tok p).2 = p.map up := rfl
    rw [e1, e2]
    unfold kind
    rw [head_get']
    by_cases hL : isL ((p.map up).getD 0 0)
    · rw [if_pos hL]
      exact .inl ⟨rfl, cap_L hh hL⟩
    · have hd := cap_D hh hL
      rw [if_neg hL]
      by_cases hD : ∀ c ∈ p.map up, isD c
      · rw [if_pos hD]; exact .inr (.inl ⟨rfl, by omega, cnt_all.2 hD⟩)
      · rw [if_neg hD]; exact .inr (.inr (.inl ⟨rfl, by omega, fun g => hD (cnt_all.1 g)⟩))
end Go.Proofs.YtkdgomalhngagaaDoor.Tok
