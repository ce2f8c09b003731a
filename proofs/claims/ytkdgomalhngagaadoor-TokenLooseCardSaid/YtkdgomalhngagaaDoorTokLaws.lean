/- Plain laws of tokens: parts, capitals, blanks, texts; no program here. -/
import Derived.Test.YtkdgomalhngagaaDoorTokPlain3
namespace Go.Proofs.YtkdgomalhngagaaDoor.Tok

theorem snd_zero : ¬ snd 0 := by decide
theorem isJ_not {c : Int} (h : isJ c) : ¬ snd c := by rcases h with rfl | rfl | rfl | rfl <;> decide
theorem badAt_iff (l : List Int) : badAt l = none ↔ ∀ x ∈ l, okB x := by
  unfold badAt
  rw [List.find?_range_eq_none]
  constructor
  · intro h x hx
    obtain ⟨i, hi, rfl⟩ := List.mem_iff_getElem.1 hx
    have := h i hi
    rw [List.getD_eq_getElem?_getD, List.getElem?_eq_getElem hi] at this
    simpa using this
  · intro h i hi
    rw [List.getD_eq_getElem?_getD, List.getElem?_eq_getElem hi]
    simpa using h _ (List.getElem_mem hi)
theorem tokF_zero {l : List Int} (h : (tokF l).2.1 = 0) : l.length ≤ 200 ∧ badAt l = none ∧ (toks l).length ≤ 40 ∧ tokF l = (toks l, 0, 0) := by
  rcases Nat.lt_or_ge 200 l.length with g | g
  · rw [tokF_long g] at h; simp at h
  · cases hb : badAt l with
    | some i => rw [tokF_bad g hb] at h; simp at h
    | none =>
      rcases Nat.lt_or_ge 40 (toks l).length with k | k
      · unfold tokF at h
        rw [if_neg (by omega), hb] at h
        simp only [if_pos k] at h
        simp at h
      · exact ⟨g, rfl, k, tokF_fine g hb k⟩
theorem tokF_not {l : List Int} (h : (tokF l).2.1 ≠ 0) : (tokF l).1 = [] := by
  unfold tokF at h ⊢
  split
  · rfl
  · split
    · rfl
    · split
      · rfl
      · rename_i h1 _ hb h2
        rw [if_neg h1, hb] at h
        simp only [if_neg h2] at h
        simp at h
theorem tokF_err (l : List Int) (h : l.length ≤ 200) (hb : badAt l = none) (hf : 40 < (toks l).length) : (tokF l).2.1 = 8 := by
  unfold tokF; rw [if_neg (by omega), hb]
  simp only [if_pos hf]

theorem not_cont_sep {a : List Int} {s : Int} {r : List Int} (h1 : ¬ snd s) (h2 : ¬ isJ s) : ¬ cont a s r := fun h => h.2.elim h1 fun g => h2 g.1
theorem go_shut' {a : List Int} {b : Int} {r : List Int} (h : ¬ cont a b r) : go a (b :: r) = go a [] ++ go [] (b :: r) := by
  by_cases ha : a = []
  · subst ha; rw [go_nil, List.nil_append]
  · rw [go_shut ha h, go_end ha]; rfl
theorem cont_head {a : List Int} {b : Int} {r r' : List Int} (h : snd (r.headD 0) ↔ snd (r'.headD 0)) : cont a b r ↔ cont a b r' := by unfold cont; rw [h]
theorem head_app {r m : List Int} (h : ¬ snd (m.headD 0)) : snd ((r ++ m).headD 0) ↔ snd (r.headD 0) := by
  cases r with
  | nil => simp only [List.nil_append, List.headD_nil]; exact ⟨fun g => absurd g h, fun g => absurd g snd_zero⟩
  | cons c r => rfl
/-- Behind what goes on with nothing: what begins anew. -/
theorem go_part {s : Int} {m : List Int} (h1 : ¬ snd s) (h2 : ¬ isJ s) (l : List Int) : ∀ a, go a (l ++ s :: m) = go a l ++ go [] (s :: m) := by
  induction l with
  | nil => intro a; rw [List.nil_append, go_shut' (not_cont_sep h1 h2)]
  | cons c r ih =>
    intro a
    rw [List.cons_append]
    have hh : cont a c (r ++ s :: m) ↔ cont a c r := cont_head (head_app h1)
    by_cases hc : cont a c r
    · rw [go_cont (hh.2 hc), go_cont hc, ih]
    · rw [go_shut' (fun g => hc (hh.1 g)), go_shut' hc, List.append_assoc]
      congr 1
      by_cases hs : snd c
      · rw [go_snd hs, go_snd hs, ih]
      · by_cases k1 : c = 44
        · subst k1; rw [go_comma, go_comma, ih]; rfl
        · by_cases k2 : c = 35
          · subst k2; rw [go_hash, go_hash, ih]; rfl
          · rw [go_skip hs k1 k2, go_skip hs k1 k2, ih]
theorem toks_blank (a b : List Int) : toks (a ++ 32 :: b) = toks a ++ toks b := by
  unfold toks
  rw [go_part (by decide) (by decide), go_skip (by decide) (by decide) (by decide)]

/-- Capitals. -/
theorem up_up (c : Int) : up (up c) = up c := by unfold up; split <;> (try split) <;> omega
theorem isL_up (c : Int) : isL (up c) ↔ isL c := by unfold isL up; split <;> omega
theorem isD_up (c : Int) : isD (up c) ↔ isD c := by unfold isD up; split <;> omega
theorem isJ_up (c : Int) : isJ (up c) ↔ isJ c := by unfold isJ up; split <;> omega
theorem snd_up (c : Int) : snd (up c) ↔ snd c := by unfold snd; rw [isL_up, isD_up]
theorem head_up (l : List Int) : (l.map up).headD 0 = up (l.headD 0) := by cases l <;> rfl
theorem last_up (l : List Int) : (l.map up).getLastD 0 = up (l.getLastD 0) := by
  rw [List.getLastD_eq_getLast?, List.getLastD_eq_getLast?, List.getLast?_map]
  cases l.getLast? <;> rfl
theorem map_up_up (a : List Int) : (a.map up).map up = a.map up := by
  rw [List.map_map]; exact List.map_congr_left fun x _ => up_up x
theorem tok_up (a : List Int) : tok (a.map up) = tok a := by unfold tok; rw [map_up_up]
theorem cont_up (a : List Int) (b : Int) (r : List Int) : cont (a.map up) (up b) (r.map up) ↔ cont a b r := by
  unfold cont
  rw [head_up, last_up, snd_up, isJ_up, snd_up, snd_up]
  simp
theorem go_up (l : List Int) : ∀ a, go (a.map up) (l.map up) = go a l := by
  induction l with
  | nil =>
    intro a
    by_cases ha : a = []
    · subst ha; rfl
    · rw [List.map_nil, go_end ha, go_end (by simpa using ha), tok_up]
  | cons b r ih =>
    intro a
    rw [List.map_cons]
    by_cases hc : cont a b r
    · rw [go_cont hc, go_cont ((cont_up a b r).2 hc)]
      have := ih (a ++ [b])
      rwa [List.map_append] at this
    · rw [go_shut' hc, go_shut' (fun g => hc ((cont_up a b r).1 g))]
      congr 1
      · by_cases ha : a = []
        · subst ha; rfl
        · rw [go_end ha, go_end (by simpa using ha), tok_up]
      · by_cases hs : snd b
        · rw [go_snd hs, go_snd ((snd_up b).2 hs)]; exact ih [b]
        · have hs' : ¬ snd (up b) := fun g => hs ((snd_up b).1 g)
          have e44 : up b = 44 ↔ b = 44 := by unfold up; split <;> omega
          have e35 : up b = 35 ↔ b = 35 := by unfold up; split <;> omega
          have i0 := ih []
          rw [List.map_nil] at i0
          by_cases k1 : b = 44
          · subst k1; rw [show up 44 = 44 from rfl, go_comma, go_comma, i0]
          · by_cases k2 : b = 35
            · subst k2; rw [show up 35 = 35 from rfl, go_hash, go_hash, i0]
            · rw [go_skip hs k1 k2, go_skip hs' (fun g => k1 (e44.1 g)) (fun g => k2 (e35.1 g)), i0]
theorem toks_up (l : List Int) : toks (l.map up) = toks l := go_up l []
theorem toks_same {l l' : List Int} (h : l.map up = l'.map up) : toks l = toks l' := by rw [← toks_up l, h, toks_up]

/-- A tab behind each blank; a point and a blank at the end. -/
def ins : List Int → List Int
  | [] => []
  | c :: r => if c = 32 then 32 :: 9 :: ins r else c :: ins r
theorem ins_head (r : List Int) : (ins r).headD 0 = r.headD 0 := by
  cases r with
  | nil => rfl
  | cons c r => unfold ins; split <;> simp_all
theorem go_ins (l : List Int) : ∀ a, go a (ins l) = go a l := by
  induction l with
  | nil => intro a; rfl
  | cons c r ih =>
    intro a
    unfold ins
    by_cases h : c = 32
    · subst h
      rw [if_pos rfl, go_shut' (not_cont_sep (by decide) (by decide)), go_shut' (r := r) (not_cont_sep (by decide) (by decide))]
      rw [go_skip (by decide) (by decide) (by decide), go_skip (by decide) (by decide) (by decide), go_skip (r := r) (by decide) (by decide) (by decide), ih]
    · rw [if_neg h]
      have hh : cont a c (ins r) ↔ cont a c r := cont_head (by rw [ins_head])
      by_cases hc : cont a c r
      · rw [go_cont (hh.2 hc), go_cont hc, ih]
      · rw [go_shut' (fun g => hc (hh.1 g)), go_shut' hc]
        congr 1
        by_cases hs : snd c
        · rw [go_snd hs, go_snd hs, ih]
        · by_cases k1 : c = 44
          · subst k1; rw [go_comma, go_comma, ih]
          · by_cases k2 : c = 35
            · subst k2; rw [go_hash, go_hash, ih]
            · rw [go_skip hs k1 k2, go_skip hs k1 k2, ih]
theorem toks_ins (l : List Int) : toks (ins l) = toks l := go_ins l []
theorem go_tail (l : List Int) : ∀ a, go a (l ++ [46, 32]) = go a l := by
  induction l with
  | nil =>
    intro a
    rw [List.nil_append, go_shut' (fun g => g.2.elim (by decide) fun g => absurd g.2.2 (by decide)), go_skip (by decide) (by decide) (by decide), go_skip (by decide) (by decide) (by decide), go_nil, List.append_nil]
  | cons c r ih =>
    intro a
    rw [List.cons_append]
    have hh : cont a c (r ++ [46, 32]) ↔ cont a c r := cont_head (head_app (by decide))
    by_cases hc : cont a c r
    · rw [go_cont (hh.2 hc), go_cont hc, ih]
    · rw [go_shut' (fun g => hc (hh.1 g)), go_shut' hc]
      congr 1
      by_cases hs : snd c
      · rw [go_snd hs, go_snd hs, ih]
      · by_cases k1 : c = 44
        · subst k1; rw [go_comma, go_comma, ih]
        · by_cases k2 : c = 35
          · subst k2; rw [go_hash, go_hash, ih]
          · rw [go_skip hs k1 k2, go_skip hs k1 k2, ih]
theorem toks_tail (l : List Int) : toks (l ++ [46, 32]) = toks l := go_tail l []

/-- A part, as it is told. -/
structure Part (p : List Int) : Prop where
  ne : p ≠ []
  run : go [] p = [tok p]
  head : snd (p.headD 0)
  last : snd (p.getLastD 0)
  all : ∀ x ∈ p, snd x ∨ isJ x
def Is (n : Nat) (t : Tk) : Prop := t = (4, [44]) ∨ t = (5, [35]) ∨ ∃ p, Part p ∧ t = tok p ∧ p.length ≤ n
theorem Is.mono {n m : Nat} {t : Tk} (h : Is n t) (hm : n ≤ m) : Is m t := by
  rcases h with h | h | ⟨p, h1, h2, h3⟩
  · exact .inl h
  · exact .inr (.inl h)
  · exact .inr (.inr ⟨p, h1, h2, by omega⟩)
structure Run (a : List Int) (l : List Int) : Prop where
  ne : a ≠ []
  head : snd (a.headD 0)
  all : ∀ x ∈ a, snd x ∨ isJ x
  now : snd (l.headD 0) ∨ snd (a.getLastD 0)
  run : ∀ m : List Int, (snd (m.headD 0) ∨ snd (a.getLastD 0)) → go [] (a ++ m) = go a m
theorem Run.one {b : Int} {r : List Int} (h : snd b) : Run [b] r :=
  ⟨by simp, h, by simpa using .inl h, .inr h, fun m _ => go_snd h⟩
theorem Run.step {a : List Int} {b : Int} {r : List Int} (h : Run a (b :: r)) (hc : cont a b r) : Run (a ++ [b]) r := by
  have hl : (a ++ [b]).getLastD 0 = b := by simp
  refine ⟨by simp, ?_, ?_, ?_, ?_⟩
  · have := h.head
    obtain ⟨x, y, rfl⟩ := List.exists_cons_of_ne_nil h.ne
    exact this
  · intro x hx
    rcases List.mem_append.1 hx with g | g
    · exact h.all x g
    · simp at g; subst g
      exact hc.2.imp id fun k => k.1
  · rw [hl]
    exact hc.2.elim .inr fun k => .inl k.2.2
  · rw [hl]
    intro m hm
    rw [List.append_assoc, List.singleton_append, h.run (b :: m) (hc.2.imp id fun k => k.2.1)]
    refine go_cont ⟨h.ne, ?_⟩
    rcases hc.2 with g | g
    · exact .inl g
    · exact .inr ⟨g.1, g.2.1, hm.resolve_right (isJ_not g.1)⟩
theorem Run.part {a : List Int} (h : Run a []) : Part a := by
  have hl := h.now.resolve_left snd_zero
  refine ⟨h.ne, ?_, h.head, hl, h.all⟩
  have := h.run [] (.inr hl)
  rwa [List.append_nil, go_end h.ne] at this
theorem Run.off {a : List Int} {b : Int} {r : List Int} (h : Run a (b :: r)) (hc : ¬ cont a b r) : Run a [] :=
  ⟨h.ne, h.head, h.all, .inr (h.now.resolve_left fun g => hc ⟨h.ne, .inl g⟩), h.run⟩
theorem go_is (l : List Int) : ∀ a, (a = [] ∨ Run a l) → ∀ t ∈ go a l, Is (a.length + l.length) t := by
  induction l with
  | nil =>
    intro a ha t ht
    rcases ha with rfl | ha
    · rw [go_nil] at ht; cases ht
    · rw [go_end ha.ne] at ht
      simp at ht
      exact .inr (.inr ⟨a, ha.part, ht, by simp⟩)
  | cons b r ih =>
    intro a ha t ht
    by_cases hc : cont a b r
    · rw [go_cont hc] at ht
      have := ih (a ++ [b]) (.inr ((ha.resolve_left hc.1).step hc)) t ht
      exact this.mono (by simp; omega)
    · rw [go_shut' hc, List.mem_append] at ht
      rcases ht with ht | ht
      · rcases ha with rfl | ha
        · rw [go_nil] at ht; cases ht
        · rw [go_end ha.ne] at ht
          simp at ht
          exact .inr (.inr ⟨a, (ha.off hc).part, ht, by simp⟩)
      · by_cases hs : snd b
        · rw [go_snd hs] at ht
          exact (ih [b] (.inr (Run.one hs)) t ht).mono (by simp; omega)
        · by_cases k1 : b = 44
          · subst k1; rw [go_comma] at ht
            rcases List.mem_cons.1 ht with g | g
            · exact .inl g
            · exact (ih [] (.inl rfl) t g).mono (by simp; omega)
          · by_cases k2 : b = 35
            · subst k2; rw [go_hash] at ht
              rcases List.mem_cons.1 ht with g | g
              · exact .inr (.inl g)
              · exact (ih [] (.inl rfl) t g).mono (by simp; omega)
            · rw [go_skip hs k1 k2] at ht
              exact (ih [] (.inl rfl) t ht).mono (by simp; omega)
theorem toks_is {l : List Int} {t : Tk} (h : t ∈ toks l) : Is l.length t := by
  have := go_is l [] (.inl rfl) t h
  simpa using this
theorem ok_of {x : Int} (h : snd x ∨ isJ x) : okB x := by
  unfold okB
  unfold snd isL isD isJ at h
  omega
theorem up_ok {x : Int} (h : snd x ∨ isJ x) : snd (up x) ∨ isJ (up x) := by rwa [snd_up, isJ_up]
theorem may_is {n : Nat} {t : Tk} (h : Is n t) (hn : n ≤ 200) : mayF t := by
  rcases h with rfl | rfl | ⟨p, hp, rfl, hl⟩
  · decide
  · decide
  · have e : toks (p.map up) = [tok p] := (toks_up p).trans hp.run
    unfold mayF
    have := tokF_fine (l := p.map up) (by simpa using (by omega : p.length ≤ 200)) ((badAt_iff _).2 fun x hx => by
      obtain ⟨y, hy, rfl⟩ := List.mem_map.1 hx
      exact ok_of (up_ok (hp.all y hy))) (by rw [e]; simp)
    rw [e] at this
    exact this
/-- The tokens of a line may be. -/
theorem toks_may {l : List Int} (hl : l.length ≤ 200) : ∀ t ∈ toks l, mayF t := fun _ ht => may_is (toks_is ht) hl
theorem may_zero {t : Tk} (h : mayF t) : badAt t.2 = none ∧ toks t.2 = [t] := by
  unfold mayF at h
  have h0 : (tokF t.2).2.1 = 0 := by rw [h]
  obtain ⟨_, h2, _, h4⟩ := tokF_zero h0
  rw [h4] at h
  exact ⟨h2, congrArg Prod.fst h⟩
theorem may_of {t : Tk} (h : mayF t) : ∃ n, Is n t := ⟨t.2.length, toks_is (by rw [(may_zero h).2]; simp)⟩
theorem kind_lt (a : List Int) : kind a = 1 ∨ kind a = 2 ∨ kind a = 3 := by
  unfold kind
  split
  · exact .inl rfl
  · split
    · exact .inr (.inl rfl)
    · exact .inr (.inr rfl)
theorem may_four {t : Tk} (h : mayF t) (h4 : t.1 = 4) : t = (4, [44]) := by
  obtain ⟨n, g | g | ⟨p, _, rfl, _⟩⟩ := may_of h
  · exact g
  · subst g; simp at h4
  · have := kind_lt (p.map up); unfold tok at h4; simp at h4; omega
theorem may_five {t : Tk} (h : mayF t) (h5 : t.1 = 5) : t = (5, [35]) := by
  obtain ⟨n, g | g | ⟨p, _, rfl, _⟩⟩ := may_of h
  · subst g; simp at h5
  · exact g
  · have := kind_lt (p.map up); unfold tok at h5; simp at h5; omega
/-- The tokens of the text of tokens are these. -/
theorem toks_jn (l : List Tk) : ∀ p, (∀ x ∈ l, mayF x) → go [] (jn p l) = l := by
  induction l with
  | nil => intro p _; rfl
  | cons x r ih =>
    intro p h
    have hx := h x (by simp)
    have hr : ∀ y ∈ r, mayF y := fun y hy => h y (by simp [hy])
    have e0 : toks x.2 = [x] := (may_zero hx).2
    have key : go [] (x.2 ++ jn (decide (x.1 ≠ 5)) r) = x :: r := by
      by_cases h5 : x.1 = 5
      · have e := may_five hx h5
        subst e
        rw [show ((5 : Int), ([35] : List Int)).2 ++ jn (decide (((5 : Int), ([35] : List Int)).1 ≠ 5)) r = 35 :: jn (decide (((5 : Int), ([35] : List Int)).1 ≠ 5)) r from rfl, go_hash, ih _ hr]
      · rw [decide_eq_true h5]
        have i1 := ih true hr
        cases r with
        | nil => rw [jn, List.append_nil]; exact e0
        | cons y r' =>
          rw [jn] at i1 ⊢
          by_cases h4 : y.1 = 4
          · rw [if_neg (fun g => g.2 h4)] at i1 ⊢
            have e := may_four (hr y (by simp)) h4
            subst e
            rw [show ((4 : Int), ([44] : List Int)).2 ++ jn (decide (((4 : Int), ([44] : List Int)).1 ≠ 5)) r' = 44 :: jn (decide (((4 : Int), ([44] : List Int)).1 ≠ 5)) r' from rfl] at i1 ⊢
            rw [go_part (by decide) (by decide), i1]
            rw [show go [] x.2 = [x] from e0]; rfl
          · rw [if_pos ⟨rfl, h4⟩] at i1 ⊢
            rw [List.cons_append] at i1 ⊢
            rw [go_part (by decide) (by decide), i1]
            rw [show go [] x.2 = [x] from e0]; rfl
    rw [jn]
    split
    · rw [List.cons_append, go_skip (by decide) (by decide) (by decide), key]
    · exact key
theorem jn_ok (l : List Tk) : ∀ p, (∀ x ∈ l, mayF x) → ∀ b ∈ jn p l, okB b := by
  induction l with
  | nil => intro p _ b hb; cases hb
  | cons x r ih =>
    intro p h b hb
    have hx := (badAt_iff _).1 (may_zero (h x (by simp))).1
    rw [jn, List.mem_append] at hb
    rcases hb with hb | hb
    · split at hb
      · rcases List.mem_cons.1 hb with g | g
        · subst g; decide
        · exact hx b g
      · exact hx b hb
    · exact ih _ (fun y hy => h y (by simp [hy])) b hb
theorem text_back {l : List Tk} (h : (textF l).2 = 0) : tokF (textF l).1 = (l, 0, 0) ∧ l.length ≤ 40 ∧ textF l = (textL l, 0) := by
  by_cases h40 : 40 < l.length
  · rw [textF_full h40] at h; simp at h
  · by_cases hm : ∀ x ∈ l, mayF x
    · by_cases hl : 200 < (textL l).length
      · rw [textF_long h40 hm hl] at h; simp at h
      · rw [textF_fine h40 hm hl]
        have e : toks (textL l) = l := toks_jn l false hm
        have := tokF_fine (l := textL l) (by omega) ((badAt_iff _).2 (jn_ok l false hm)) (by rw [e]; omega)
        rw [e] at this
        exact ⟨this, by omega, rfl⟩
    · unfold textF at h; rw [if_neg h40, if_neg hm] at h; simp at h
theorem go_sum (l : List Int) : ∀ a, ((go a l).map fun x => x.2.length + 1).sum ≤ 2 * (a.length + l.length) := by
  have sh : ∀ a, ((go a []).map fun x => x.2.length + 1).sum ≤ 2 * a.length := by
    intro a
    by_cases ha : a = []
    · subst ha; simp [go_nil]
    · rw [go_end ha]
      have := List.length_pos_iff.2 ha
      simp [tok_len]; omega
  induction l with
  | nil => intro a; simpa using sh a
  | cons b r ih =>
    intro a
    by_cases hc : cont a b r
    · rw [go_cont hc]
      have := ih (a ++ [b])
      simp at this ⊢; omega
    · rw [go_shut' hc, List.map_append, List.sum_append]
      have h1 := sh a
      have h0 := ih []
      have hb := ih [b]
      rw [List.length_cons]
      simp only [List.length_nil, List.length_cons] at h0 hb
      by_cases hs : snd b
      · rw [go_snd hs]; omega
      · by_cases k1 : b = 44
        · subst k1; rw [go_comma, List.map_cons, List.sum_cons]; simp only [List.length_cons, List.length_nil]; omega
        · by_cases k2 : b = 35
          · subst k2; rw [go_hash, List.map_cons, List.sum_cons]; simp only [List.length_cons, List.length_nil]; omega
          · rw [go_skip hs k1 k2]; omega
/-- The text of a line's tokens: fine, or too long, and then the line is long. -/
theorem back_text {l : List Int} (h : (tokF l).2.1 = 0) : (textF (tokF l).1).2 = 0 ∨ ((textF (tokF l).1).2 = 3 ∧ 100 < l.length) := by
  obtain ⟨h1, h2, h3, h4⟩ := tokF_zero h
  rw [h4]
  have hm := toks_may h1
  by_cases hl : 200 < (textL (toks l)).length
  · rw [textF_long (by omega) hm hl]
    refine .inr ⟨rfl, ?_⟩
    have k1 := jn_len (toks l) false
    have k2 := go_sum l []
    unfold textL at hl
    simp only [List.length_nil] at k2
    unfold toks at *
    omega
  · rw [textF_fine (by omega) hm hl]; exact .inl rfl
/-- Two lines with a blank between. -/
theorem parts_bad {a b : List Int} (h : (tokF (a ++ 32 :: b)).2.1 = 0) : (tokF a).2.1 = 0 ∧ (tokF b).2.1 = 0 := by
  obtain ⟨h1, h2, h3, h4⟩ := tokF_zero h
  rw [toks_blank, List.length_append] at h3
  rw [badAt_iff] at h2
  rw [List.length_append, List.length_cons] at h1
  constructor
  · rw [tokF_fine (by omega) ((badAt_iff _).2 fun x hx => h2 x (by simp [hx])) (by omega)]
  · rw [tokF_fine (by omega) ((badAt_iff _).2 fun x hx => h2 x (by simp [hx])) (by omega)]
theorem parts_ok {a b : List Int} (ha : a.length ≤ 90) (hb : b.length ≤ 90) (h1 : (tokF a).2.1 = 0) (h2 : (tokF b).2.1 = 0) :
    (40 < (tokF a).1.length + (tokF b).1.length → (tokF (a ++ 32 :: b)).2.1 = 8) ∧ (¬ 40 < (tokF a).1.length + (tokF b).1.length → tokF (a ++ 32 :: b) = ((tokF a).1 ++ (tokF b).1, 0, 0)) := by
  obtain ⟨_, p2, _, p4⟩ := tokF_zero h1
  obtain ⟨_, q2, _, q4⟩ := tokF_zero h2
  rw [p4, q4]
  rw [badAt_iff] at p2 q2
  have hl : (a ++ 32 :: b).length ≤ 200 := by simp; omega
  have hk : badAt (a ++ 32 :: b) = none := (badAt_iff _).2 fun x hx => by
    simp at hx
    rcases hx with g | g | g
    · exact p2 x g
    · subst g; decide
    · exact q2 x g
  have he := toks_blank a b
  refine ⟨fun h => tokF_err _ hl hk (by rw [he, List.length_append]; exact h), fun h => ?_⟩
  rw [tokF_fine hl hk (by rw [he, List.length_append]; simp only at h; omega), he]
end Go.Proofs.YtkdgomalhngagaaDoor.Tok
