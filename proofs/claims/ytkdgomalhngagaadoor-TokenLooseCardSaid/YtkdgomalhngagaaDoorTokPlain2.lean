/- Plain mathematics of tokens: the program's steps, the places of tokens; no program here. -/
import Derived.Test.YtkdgomalhngagaaDoorTokPlain
namespace Go.Proofs.YtkdgomalhngagaaDoor.Tok
theorem go_snd {b : Int} {r : List Int} (h : snd b) : go [] (b :: r) = go [b] r := by rw [go, if_neg (not_cont b r), if_pos h]; rfl
theorem go_comma {r : List Int} : go [] (44 :: r) = (4, [44]) :: go [] r := by rw [go, if_neg (not_cont _ r), if_pos rfl, if_neg (show ¬ snd 44 by decide), if_pos rfl]; rfl
theorem go_hash {r : List Int} : go [] (35 :: r) = (5, [35]) :: go [] r := by rw [go, if_neg (not_cont _ r), if_pos rfl, if_neg (show ¬ snd 35 by decide), if_neg (show ¬ (35 : Int) = 44 by decide), if_pos rfl]; rfl
theorem go_skip {b : Int} {r : List Int} (h : ¬ snd b) (h1 : b ≠ 44) (h2 : b ≠ 35) : go [] (b :: r) = go [] r := by rw [go, if_neg (not_cont b r), if_neg h, if_neg h1, if_neg h2]; rfl
theorem go_cont {a : List Int} {b : Int} {r : List Int} (h : cont a b r) : go a (b :: r) = go (a ++ [b]) r := by rw [go, if_pos h]
theorem go_shut {a : List Int} {b : Int} {r : List Int} (ha : a ≠ []) (h : ¬ cont a b r) : go a (b :: r) = tok a :: go [] (b :: r) := by
  rw [go, if_neg h, go, if_neg (not_cont b r), if_neg ha, if_pos rfl]; rfl
theorem go_end {a : List Int} (ha : a ≠ []) : go a [] = [tok a] := by rw [go, if_neg ha]
theorem go_nil : go [] [] = [] := rfl
/-- The tokens behind the state between parts. -/
def apO (x : Int) (out : List Tk) : List Tk := if x = 44 then out ++ [(4, [44])] else if x = 35 then out ++ [(5, [35])] else out
theorem drop_get {l : List Int} {i : Nat} (h : i < l.length) : l.drop i = l.getD i 0 :: l.drop (i + 1) := by
  rw [List.drop_eq_getElem_cons h, List.getD_eq_getElem?_getD, List.getElem?_eq_getElem h]; rfl
theorem get_out {l : List Int} {i : Nat} (h : l.length ≤ i) : l.getD i 0 = 0 := by rw [List.getD_eq_getElem?_getD, List.getElem?_eq_none h]; rfl
theorem take_one {l : List Int} {i : Nat} (h : i < l.length) : (l.take (i + 1)).drop i = [l.getD i 0] := by
  rw [List.drop_take, show i + 1 - i = 1 by omega, drop_get h]; rfl
theorem take_more {l : List Int} {p i : Nat} (hp : p ≤ i) (h : i < l.length) : (l.take (i + 1)).drop p = (l.take i).drop p ++ [l.getD i 0] := by
  rw [List.take_add_one, List.drop_append_of_le_length (by rw [List.length_take]; omega), List.getElem?_eq_getElem h, List.getD_eq_getElem?_getD, List.getElem?_eq_getElem h]; rfl
/-- A step between parts. -/
theorem apart_step {l : List Int} {i : Nat} {out T : List Tk} (h : out ++ go [] (l.drop i) = T) : apO (l.getD i 0) out ++ go (if snd (l.getD i 0) then (l.take (i + 1)).drop i else []) (l.drop (i + 1)) = T := by
  rcases Nat.lt_or_ge i l.length with g | g
  · rw [take_one g]
    rw [drop_get g] at h
    generalize l.getD i 0 = b at *
    generalize l.drop (i + 1) = r at *
    unfold apO
    by_cases hs : snd b
    · rw [if_pos hs, if_neg (by rintro rfl; exact absurd hs (by decide)), if_neg (by rintro rfl; exact absurd hs (by decide))]
      rwa [go_snd hs] at h
    · rw [if_neg hs]
      by_cases h1 : b = 44
      · subst h1; rw [if_pos rfl, List.append_assoc]; rwa [go_comma] at h
      · by_cases h2 : b = 35
        · subst h2; rw [if_neg (by decide), if_pos rfl, List.append_assoc]; rwa [go_hash] at h
        · rw [if_neg h1, if_neg h2]; rwa [go_skip hs h1 h2] at h
  · rw [get_out g, if_neg (by decide), List.drop_of_length_le (by omega)]
    rw [List.drop_of_length_le g] at h
    exact h
theorem part_ne {l : List Int} {p i : Nat} (h : p < i) (hi : i ≤ l.length) : (l.take i).drop p ≠ [] := by
  intro e
  have := congrArg List.length e
  rw [List.length_drop, List.length_take] at this
  simp at this; omega
theorem part_last {l : List Int} {p i : Nat} (h : p < i) (hi : i ≤ l.length) : ((l.take i).drop p).getLastD 0 = l.getD (i - 1) 0 := by
  obtain ⟨j, rfl⟩ : ∃ j, i = j + 1 := ⟨i - 1, by omega⟩
  rw [take_more (by omega) (by omega), Nat.add_sub_cancel]
  simp
theorem head_get {l : List Int} {i : Nat} : (l.drop i).headD 0 = l.getD i 0 := by
  rcases Nat.lt_or_ge i l.length with g | g
  · rw [drop_get g]; rfl
  · rw [List.drop_of_length_le g, get_out g]; rfl
/-- Does the part go on at a place? -/
def goesAt (l : List Int) (i : Nat) : Prop := snd (l.getD i 0) ∨ (isJ (l.getD i 0) ∧ snd (l.getD (i - 1) 0) ∧ snd (l.getD (i + 1) 0))
theorem goes_lt {l : List Int} {i : Nat} (h : goesAt l i) : i < l.length := by
  rcases Nat.lt_or_ge i l.length with g | g
  · exact g
  · unfold goesAt at h
    rw [get_out g] at h
    rcases h with h | ⟨h, -⟩ <;> exact absurd h (by decide)
theorem goes_cont {l : List Int} {p i : Nat} (h : p < i) (hi : i < l.length) : cont ((l.take i).drop p) (l.getD i 0) (l.drop (i + 1)) ↔ goesAt l i := by
  unfold cont goesAt
  rw [part_last h (by omega), head_get]
  exact ⟨fun h => h.2, fun g => ⟨part_ne h (by omega), g⟩⟩
/-- A step in a part that goes on. -/
theorem within_step {l : List Int} {p i : Nat} {out T : List Tk} (hp : p < i) (hg : goesAt l i) (h : out ++ go ((l.take i).drop p) (l.drop i) = T) : out ++ go ((l.take (i + 1)).drop p) (l.drop (i + 1)) = T := by
  have hi := goes_lt hg
  rw [drop_get hi, go_cont ((goes_cont hp hi).2 hg)] at h
  rwa [take_more (by omega) hi]
/-- A step in a part that ends. -/
theorem stop_step {l : List Int} {p i : Nat} {out T : List Tk} (hp : p < i) (hi : i ≤ l.length) (hg : ¬ goesAt l i) (h : out ++ go ((l.take i).drop p) (l.drop i) = T) : (out ++ [tok ((l.take i).drop p)]) ++ go [] (l.drop i) = T := by
  rw [List.append_assoc]
  rcases Nat.lt_or_ge i l.length with g | g
  · rw [drop_get g] at h ⊢
    rw [go_shut (part_ne hp hi) (fun hc => hg ((goes_cont hp g).1 hc))] at h
    exact h
  · rw [List.drop_of_length_le g] at h ⊢
    rw [go_end (part_ne hp hi)] at h
    rw [go_nil, List.append_nil]
    exact h

/-- The tokens of a text, with their places. -/
def toksP (l : List Int) : List (Nat × Tk) := gop [] 0 l
theorem toksP_map (l : List Int) : (toksP l).map Prod.snd = toks l := gop_go l [] 0
theorem toksP_len (l : List Int) : (toksP l).length = (toks l).length := by rw [← toksP_map, List.length_map]
theorem tok_len (a : List Int) : (tok a).2.length = a.length := by unfold tok; rw [List.length_map]
/-- A part to its end. -/
theorem gop_run (l : List Int) : ∀ (a : List Int) (i : Nat), a ≠ [] → ∃ n, n ≤ l.length ∧ gop a i l = (i - a.length, tok (a ++ l.take n)) :: gop [] (i + n) (l.drop n) := by
  induction l with
  | nil => intro a i ha; exact ⟨0, by simp, by rw [gop_end ha]; simp [gop_nil]⟩
  | cons b r ih =>
    intro a i ha
    by_cases hc : cont a b r
    · obtain ⟨n, hn, e⟩ := ih (a ++ [b]) (i + 1) (by simp)
      refine ⟨n + 1, by simp; omega, ?_⟩
      rw [gop_cont hc, e, List.length_append, List.take_succ_cons, List.drop_succ_cons, List.append_assoc]
      simp only [List.length_cons, List.length_nil, List.singleton_append]
      rw [show i + 1 - (a.length + (0 + 1)) = i - a.length by omega, show i + 1 + n = i + (n + 1) by omega]
    · exact ⟨0, by simp, by rw [gop_shut ha hc]; simp⟩
/-- What stands where a token begins. -/
theorem gop_first {l : List Int} {i : Nat} (hi : i < l.length) (h : snd (l.getD i 0) ∨ l.getD i 0 = 44 ∨ l.getD i 0 = 35) :
    ∃ t : Tk, gop [] i (l.drop i) = (i, t) :: gop [] (i + t.2.length) (l.drop (i + t.2.length)) ∧ 1 ≤ t.2.length ∧ i + t.2.length ≤ l.length := by
  rw [drop_get hi]
  rcases h with h | h | h
  · rw [gop_snd h]
    obtain ⟨n, hn, e⟩ := gop_run (l.drop (i + 1)) [l.getD i 0] (i + 1) (by simp)
    rw [List.length_drop] at hn
    refine ⟨tok ([l.getD i 0] ++ (l.drop (i + 1)).take n), ?_, ?_, ?_⟩
    · rw [e, tok_len, List.length_append, List.length_take, List.length_drop, List.drop_drop]
      simp only [List.length_cons, List.length_nil]
      rw [show i + 1 - (0 + 1) = i by omega, show i + (0 + 1 + min n (l.length - (i + 1))) = i + 1 + n by omega]
    · rw [tok_len]; simp
    · rw [tok_len, List.length_append, List.length_take, List.length_drop]; simp; omega
  · rw [h, gop_comma]; exact ⟨(4, [44]), rfl, by simp, by simp; omega⟩
  · rw [h, gop_hash]; exact ⟨(5, [35]), rfl, by simp, by simp; omega⟩
theorem gop_next {l : List Int} {i : Nat} (hi : i < l.length) (h : ¬ (snd (l.getD i 0) ∨ l.getD i 0 = 44 ∨ l.getD i 0 = 35)) : gop [] i (l.drop i) = gop [] (i + 1) (l.drop (i + 1)) := by
  rw [drop_get hi]
  exact gop_skip (fun g => h (.inl g)) (fun g => h (.inr (.inl g))) (fun g => h (.inr (.inr g)))
/-- May a byte be in a line? -/
def okB (c : Int) : Prop := c = 9 ∨ (32 ≤ c ∧ c ≤ 126)
instance (c : Int) : Decidable (okB c) := inferInstanceAs (Decidable (_ ∨ _))
def badAt (l : List Int) : Option Nat := (List.range l.length).find? fun i => decide (¬ okB (l.getD i 0))
theorem badAt_some {l : List Int} {i : Nat} (hi : i < l.length) (h : ∀ j, j < i → okB (l.getD j 0)) (hb : ¬ okB (l.getD i 0)) : badAt l = some i := by
  unfold badAt
  rw [List.find?_range_eq_some]
  exact ⟨by simpa using hb, by simpa using hi, fun j hj => by simpa using h j hj⟩
theorem badAt_none {l : List Int} (h : ∀ j, j < l.length → okB (l.getD j 0)) : badAt l = none := by
  unfold badAt
  rw [List.find?_range_eq_none]
  intro j hj
  simpa using h j hj
/-- What 'Tokens' tells. -/
def tokF (l : List Int) : List Tk × Int × Int :=
  if 200 < l.length then ([], 3, 0)
  else match badAt l with
    | some i => ([], 4, (i : Int))
    | none => if 40 < (toks l).length then ([], 8, (((toksP l).getD 40 (0, 0, [])).1 : Int)) else (toks l, 0, 0)
theorem tokF_long {l : List Int} (h : 200 < l.length) : tokF l = ([], 3, 0) := by unfold tokF; rw [if_pos h]
theorem tokF_bad {l : List Int} (h : l.length ≤ 200) {i : Nat} (hb : badAt l = some i) : tokF l = ([], 4, (i : Int)) := by unfold tokF; rw [if_neg (by omega), hb]
theorem tokF_full {l : List Int} (h : l.length ≤ 200) (hb : badAt l = none) (hf : 40 < (toks l).length) {p : Nat} {t : Tk} (hp : (toksP l)[40]? = some (p, t)) : tokF l = ([], 8, (p : Int)) := by
  unfold tokF; rw [if_neg (by omega), hb]
  simp only [if_pos hf]
  rw [List.getD_eq_getElem?_getD, hp]; rfl
theorem tokF_fine {l : List Int} (h : l.length ≤ 200) (hb : badAt l = none) (hf : (toks l).length ≤ 40) : tokF l = (toks l, 0, 0) := by
  unfold tokF; rw [if_neg (by omega), hb]
  simp only [if_neg (show ¬ 40 < (toks l).length by omega)]
end Go.Proofs.YtkdgomalhngagaaDoor.Tok
