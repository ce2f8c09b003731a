/- The stable sort's plain mathematics: merging, turning, exchanging, inserting, as lists; no program here. -/
import Derived.Test.YtiomkbpniplfhaaSrtDefs
import Derived.Sort.Statements
namespace Go.Proofs.Ytiomkbpniplfhaa
open Go.Sort
/-! ### Rows as lists -/
section
variable {α : Type} [Inhabited α]
theorem at_list (L R : List α) (x : α) {i : Nat} (h : i = L.length) : (L ++ x :: R).toArray[i]! = x := by
  subst h; simp
theorem swp_list (L M R : List α) (x y : α) {i j : Nat} (hi : i = L.length) (hj : j = L.length + 1 + M.length) : swp (L ++ x :: (M ++ y :: R)).toArray i j = (L ++ y :: (M ++ x :: R)).toArray := by
  have e1 : (L ++ x :: (M ++ y :: R)).toArray[j]! = y := by
    have := at_list (L ++ x :: M) R y (i := j) (by simp; omega)
    rwa [show L ++ x :: M ++ y :: R = L ++ x :: (M ++ y :: R) by simp] at this
  have e2 := at_list L (M ++ y :: R) x hi
  unfold swp
  rw [e1, e2]
  subst hi
  apply Array.ext'
  simp only [Array.toList_setIfInBounds]
  rw [List.set_append_right _ _ (by simp), Nat.sub_self, List.set_cons_zero, show L ++ y :: (M ++ y :: R) = (L ++ y :: M) ++ y :: R by simp, List.set_append_right _ _ (by simp; omega), show j - (L ++ y :: M).length = 0 by simp; omega]
  simp
theorem swp_list' (L M R : List α) (x y : α) {i j : Nat} (hi : i = L.length) (hj : j = L.length + 1 + M.length) : swp (L ++ x :: (M ++ y :: R)).toArray j i = (L ++ y :: (M ++ x :: R)).toArray := by
  rw [← swp_list L M R x y hi hj]
  unfold swp
  rw [Array.setIfInBounds_comm]
  omega
theorem swapR_list : ∀ (X Y L M R : List α) {a b n : Nat}, X.length = n → Y.length = n → a = L.length → b = L.length + n + M.length → swapR (L ++ (X ++ (M ++ (Y ++ R)))).toArray a b n = (L ++ (Y ++ (M ++ (X ++ R)))).toArray
  | [], [], L, M, R, a, b, n, h, _, _, _ => by subst h; rfl
  | [], _ :: _, _, _, _, _, _, _, h1, h2, _, _ => by simp at h1 h2; omega
  | _ :: _, [], _, _, _, _, _, _, h1, h2, _, _ => by simp at h1 h2; omega
  | x :: X, y :: Y, L, M, R, a, b, n, h1, h2, ha, hb => by
    obtain ⟨m, rfl⟩ : ∃ m, n = m + 1 := ⟨n - 1, by simp at h1; omega⟩
    have hx : X.length = m := by simpa using h1
    have hy : Y.length = m := by simpa using h2
    rw [swapR]
    have e := swp_list L (X ++ M) (Y ++ R) x y ha (j := b) (by simp; omega)
    rw [show L ++ (x :: X ++ (M ++ (y :: Y ++ R))) = L ++ x :: (X ++ M ++ y :: (Y ++ R)) by simp, e]
    have ih := swapR_list X Y (L ++ [y]) (M ++ [x]) R (a := a + 1) (b := b + 1) (n := m) hx hy (by simp; omega) (by simp; omega)
    rw [show L ++ y :: (X ++ M ++ x :: (Y ++ R)) = L ++ [y] ++ (X ++ (M ++ [x] ++ (Y ++ R))) by simp, ih]
    simp
theorem rot_list : ∀ (s : Nat) (L A B R : List α) {m i j : Nat}, i + j ≤ s → A.length = i → B.length = j → 0 < i → 0 < j → m = L.length + i → rot m i j (L ++ (A ++ (B ++ R))).toArray = (L ++ (B ++ (A ++ R))).toArray := by
  intro s
  induction s with
  | zero => intro L A B R m i j h; omega
  | succ s ih =>
    intro L A B R m i j h hA hB hi hj hm
    by_cases hij : i = j
    · subst hij
      rw [rot_end]
      have := swapR_list A B L [] R (a := m - i) (b := m) hA hB (by omega) (by simp; omega)
      simpa using this
    · by_cases hlt : j < i
      · rw [rot_more _ hj hlt]
        obtain ⟨A1, A2, rfl, h1⟩ : ∃ A1 A2, A = A1 ++ A2 ∧ A1.length = j := ⟨A.take j, A.drop j, by simp, by rw [List.length_take]; omega⟩
        have hA2 : A2.length = i - j := by simp at hA; omega
        have := swapR_list A1 B L A2 R (a := m - i) (b := m) h1 hB (by omega) (by omega)
        rw [show L ++ (A1 ++ A2 ++ (B ++ R)) = L ++ (A1 ++ (A2 ++ (B ++ R))) by simp, this]
        have := ih (L ++ B) A2 A1 R (m := m) (i := i - j) (j := j) (by omega) hA2 h1 (by omega) hj (by simp; omega)
        rw [show L ++ (B ++ (A2 ++ (A1 ++ R))) = L ++ B ++ (A2 ++ (A1 ++ R)) by simp, this]
        simp
      · rw [rot_less _ hi (by omega)]
        obtain ⟨B1, B2, rfl, h2⟩ : ∃ B1 B2, B = B1 ++ B2 ∧ B2.length = i := ⟨B.take (j - i), B.drop (j - i), by simp, by rw [List.length_drop]; omega⟩
        have hB1 : B1.length = j - i := by simp at hB; omega
        have := swapR_list A B2 L B1 R (a := m - i) (b := m + j - i) hA h2 (by omega) (by omega)
        rw [show L ++ (A ++ (B1 ++ B2 ++ R)) = L ++ (A ++ (B1 ++ (B2 ++ R))) by simp, this]
        have := ih L B2 B1 (A ++ R) (m := m) (i := i) (j := j - i) (by omega) h2 hB1 hi (by omega) hm
        rw [this]
        simp

end
/-! ### Merging -/
section
variable {α : Type} (lt : α → α → Bool)
def mrg (a b : List α) : List α := a.merge b (fun x y => !lt y x)
def Sd (l : List α) : Prop := l.Pairwise (fun x y => lt y x = false)
theorem mrg_nil (a : List α) : mrg lt a [] = a := List.merge_right a
theorem nil_mrg (b : List α) : mrg lt [] b = b := List.nil_merge b
theorem mrg_cons (x y : α) (a b : List α) : mrg lt (x :: a) (y :: b) = if lt y x = true then y :: mrg lt (x :: a) b else x :: mrg lt a (y :: b) := by
  unfold mrg
  rw [List.cons_merge_cons]
  cases h : lt y x <;> simp
theorem mrg_append : ∀ (s : Nat) (A1 A2 B1 B2 : List α), A1.length + B1.length ≤ s → (∀ a ∈ A2, ∀ b ∈ B1, lt b a = true) → (∀ a ∈ A1, ∀ b ∈ B2, lt b a = false) → mrg lt (A1 ++ A2) (B1 ++ B2) = mrg lt A1 B1 ++ mrg lt A2 B2 := by
  intro s
  induction s with
  | zero =>
    intro A1 A2 B1 B2 hs _ _
    have h1 : A1 = [] := List.length_eq_zero_iff.1 (by omega)
    have h2 : B1 = [] := List.length_eq_zero_iff.1 (by omega)
    subst h1; subst h2
    rw [mrg_nil]; rfl
  | succ s ih =>
    intro A1 A2 B1 B2 hs h1 h2
    rcases A1 with _ | ⟨a, A1⟩
    · rcases B1 with _ | ⟨b, B1⟩
      · rw [mrg_nil]; rfl
      · have ih' := ih [] A2 B1 B2 (by simp at hs ⊢; omega) (fun x hx y hy => h1 x hx y (by simp [hy])) (fun x hx => by simp at hx)
        rw [nil_mrg, List.nil_append] at ih' ⊢
        rcases A2 with _ | ⟨c, A2⟩
        · rw [nil_mrg, nil_mrg]
        · rw [List.cons_append, mrg_cons, if_pos (h1 c (by simp) b (by simp)), ih']; rfl
    · rcases B1 with _ | ⟨b, B1⟩
      · have ih' := ih A1 A2 [] B2 (by simp at hs ⊢; omega) (fun x hx y hy => by simp at hy) (fun x hx => h2 x (by simp [hx]))
        rw [mrg_nil, List.nil_append] at ih' ⊢
        rcases B2 with _ | ⟨c, B2⟩
        · rw [mrg_nil, mrg_nil]
        · rw [List.cons_append, mrg_cons, if_neg (by rw [h2 a (by simp) c (by simp)]; simp), ih']; rfl
      · rw [List.cons_append, List.cons_append, mrg_cons, mrg_cons]
        by_cases hl : lt b a = true
        · rw [if_pos hl, if_pos hl]
          have ih' := ih (a :: A1) A2 B1 B2 (by simp at hs ⊢; omega) (fun x hx y hy => h1 x hx y (by simp [hy])) h2
          rw [List.cons_append] at ih'
          rw [ih']; rfl
        · rw [if_neg hl, if_neg hl]
          have ih' := ih A1 A2 (b :: B1) B2 (by simp at hs ⊢; omega) h1 (fun x hx => h2 x (by simp [hx]))
          rw [List.cons_append] at ih'
          rw [ih']; rfl
theorem mrg_perm : ∀ (s : Nat) (A B : List α), A.length + B.length ≤ s → (mrg lt A B).Perm (A ++ B) := by
  intro s
  induction s with
  | zero =>
    intro A B hs
    have h1 : A = [] := List.length_eq_zero_iff.1 (by omega)
    have h2 : B = [] := List.length_eq_zero_iff.1 (by omega)
    subst h1; subst h2
    rw [mrg_nil]; exact List.Perm.refl _
  | succ s ih =>
    intro A B hs
    rcases A with _ | ⟨a, A⟩
    · rw [nil_mrg]; exact List.Perm.refl _
    · rcases B with _ | ⟨b, B⟩
      · rw [mrg_nil, List.append_nil]
      · rw [mrg_cons]
        split
        · exact ((ih (a :: A) B (by simp at hs ⊢; omega)).cons b).trans List.perm_middle.symm
        · exact (ih A (b :: B) (by simp at hs ⊢; omega)).cons a
theorem mrg_len (A B : List α) : (mrg lt A B).length = A.length + B.length := by
  rw [(mrg_perm lt _ A B (Nat.le_refl _)).length_eq, List.length_append]
theorem mrg_mem {A B : List α} {x : α} (h : x ∈ mrg lt A B) : x ∈ A ∨ x ∈ B := by
  have := (mrg_perm lt _ A B (Nat.le_refl _)).mem_iff.1 h
  exact List.mem_append.1 this
end
section
variable {α : Type} {lt : α → α → Bool}
/-- Not after, and not after: not after; less and not after: less; not after and less: less. -/
theorem lt_of_nlt_lt (hO : SWO lt) {x y z : α} (h1 : lt y x = false) (h2 : lt y z = true) : lt x z = true := by
  cases h : lt x z with
  | true => rfl
  | false => have := hO.ntrans y x z h1 h; rw [this] at h2; cases h2
theorem lt_of_lt_nlt (hO : SWO lt) {x y z : α} (h1 : lt x y = true) (h2 : lt z y = false) : lt x z = true := by
  cases h : lt x z with
  | true => rfl
  | false => have := hO.ntrans x z y h h2; rw [this] at h1; cases h1
theorem not_after_of_lt (hO : SWO lt) {x y : α} (h : lt x y = true) : lt y x = false := by
  cases h2 : lt y x with
  | false => rfl
  | true => have := hO.trans x y x h h2; rw [hO.irrefl] at this; cases this
theorem mrg_sd (hO : SWO lt) : ∀ (s : Nat) (A B : List α), A.length + B.length ≤ s → Sd lt A → Sd lt B → Sd lt (mrg lt A B) := by
  intro s
  induction s with
  | zero =>
    intro A B hs hA hB
    have h1 : A = [] := List.length_eq_zero_iff.1 (by omega)
    subst h1
    rw [nil_mrg]; exact hB
  | succ s ih =>
    intro A B hs hA hB
    rcases A with _ | ⟨a, A⟩
    · rw [nil_mrg]; exact hB
    · rcases B with _ | ⟨b, B⟩
      · rw [mrg_nil]; exact hA
      · obtain ⟨ha1, ha2⟩ := List.pairwise_cons.1 hA
        obtain ⟨hb1, hb2⟩ := List.pairwise_cons.1 hB
        rw [mrg_cons]
        split
        · rename_i hl
          refine List.pairwise_cons.2 ⟨fun z hz => ?_, ih (a :: A) B (by simp at hs ⊢; omega) hA hb2⟩
          rcases mrg_mem lt hz with h | h
          · rcases List.mem_cons.1 h with rfl | h
            · exact not_after_of_lt hO hl
            · exact not_after_of_lt hO (lt_of_lt_nlt hO hl (ha1 z h))
          · exact hb1 z h
        · rename_i hl
          have hl : lt b a = false := by simpa using hl
          refine List.pairwise_cons.2 ⟨fun z hz => ?_, ih A (b :: B) (by simp at hs ⊢; omega) ha2 hB⟩
          rcases mrg_mem lt hz with h | h
          · exact ha1 z h
          · rcases List.mem_cons.1 h with rfl | h
            · exact hl
            · exact hO.ntrans z b a (hb1 z h) hl

/-! ### What a stable sort is -/
def eqv (lt : α → α → Bool) (x y : α) : Bool := !lt x y && !lt y x
/-- A row that is sorted, in which equals stand as in another one. -/
def Stab (lt : α → α → Bool) (s l : List α) : Prop := Sd lt s ∧ ∀ x, s.filter (eqv lt x) = l.filter (eqv lt x)
theorem eqv_iff {x y : α} : eqv lt x y = true ↔ lt x y = false ∧ lt y x = false := by
  unfold eqv
  cases lt x y <;> cases lt y x <;> simp
theorem mrg_filter (hO : SWO lt) (x : α) : ∀ (s : Nat) (A B : List α), A.length + B.length ≤ s → Sd lt A → (mrg lt A B).filter (eqv lt x) = A.filter (eqv lt x) ++ B.filter (eqv lt x) := by
  intro s
  induction s with
  | zero =>
    intro A B hs hA
    have h1 : A = [] := List.length_eq_zero_iff.1 (by omega)
    subst h1
    rw [nil_mrg]; rfl
  | succ s ih =>
    intro A B hs hA
    rcases A with _ | ⟨a, A⟩
    · rw [nil_mrg]; rfl
    · rcases B with _ | ⟨b, B⟩
      · rw [mrg_nil]; simp
      · obtain ⟨ha1, ha2⟩ := List.pairwise_cons.1 hA
        rw [mrg_cons]
        split
        · rename_i hl
          rw [List.filter_cons, ih (a :: A) B (by simp at hs ⊢; omega) hA]
          by_cases he : eqv lt x b = true
          · rw [if_pos he]
            have hno : (a :: A).filter (eqv lt x) = [] := by
              rw [List.filter_eq_nil_iff]
              intro z hz hzx
              have hbz : lt b z = true := by
                rcases List.mem_cons.1 hz with rfl | h
                · exact hl
                · exact lt_of_lt_nlt hO hl (ha1 z h)
              have h1 := eqv_iff.1 he
              have h2 := eqv_iff.1 hzx
              have h3 := lt_of_nlt_lt hO h1.2 hbz
              rw [h2.1] at h3; cases h3
            rw [hno, List.filter_cons, if_pos he]; rfl
          · rw [if_neg he, List.filter_cons (x := b), if_neg he]
        · rw [List.filter_cons, ih A (b :: B) (by simp at hs ⊢; omega) ha2, List.filter_cons (x := a)]
          split <;> rfl
theorem stab_mrg (hO : SWO lt) {A B X Y : List α} (h1 : Stab lt A X) (h2 : Stab lt B Y) : Stab lt (mrg lt A B) (X ++ Y) :=
  ⟨mrg_sd hO _ A B (Nat.le_refl _) h1.1 h2.1, fun x => by rw [mrg_filter hO x _ A B (Nat.le_refl _) h1.1, h1.2, h2.2, List.filter_append]⟩
theorem eqv_refl (hO : SWO lt) (x : α) : eqv lt x x = true := eqv_iff.2 ⟨hO.irrefl x, hO.irrefl x⟩
theorem sd_unique (hO : SWO lt) : ∀ (s t : List α), Sd lt s → Sd lt t → (∀ x, s.filter (eqv lt x) = t.filter (eqv lt x)) → s = t := by
  intro s
  induction s with
  | nil =>
    intro t _ _ h
    rcases t with _ | ⟨b, t⟩
    · rfl
    · have := h b
      rw [List.filter_cons, if_pos (eqv_refl hO b)] at this
      cases this
  | cons a s ih =>
    intro t hs ht h
    rcases t with _ | ⟨b, t⟩
    · have := h a
      rw [List.filter_cons, if_pos (eqv_refl hO a)] at this
      cases this
    · obtain ⟨ha1, ha2⟩ := List.pairwise_cons.1 hs
      obtain ⟨hb1, hb2⟩ := List.pairwise_cons.1 ht
      have m1 : a ∈ b :: t := by
        have : a ∈ (b :: t).filter (eqv lt a) := by rw [← h a]; exact List.mem_filter.2 ⟨by simp, eqv_refl hO a⟩
        exact (List.mem_filter.1 this).1
      have m2 : b ∈ a :: s := by
        have : b ∈ (a :: s).filter (eqv lt b) := by rw [h b]; exact List.mem_filter.2 ⟨by simp, eqv_refl hO b⟩
        exact (List.mem_filter.1 this).1
      have h1 : lt a b = false := by
        rcases List.mem_cons.1 m1 with rfl | m1
        · exact hO.irrefl _
        · exact hb1 a m1
      have h2 : lt b a = false := by
        rcases List.mem_cons.1 m2 with rfl | m2
        · exact hO.irrefl _
        · exact ha1 b m2
      have hab : a = b := by
        have := h a
        rw [List.filter_cons, if_pos (eqv_refl hO a), List.filter_cons, if_pos (eqv_iff.2 ⟨h1, h2⟩)] at this
        injection this
      subst hab
      rw [ih t ha2 hb2 (fun x => by
        have := h x
        rw [List.filter_cons, List.filter_cons] at this
        split at this
        · injection this
        · exact this)]

/-! ### The insertion sort -/
theorem ins_list [Inhabited α] (hO : SWO lt) : ∀ (n : Nat) (L S R : List α) (x : α) {a j : Nat}, S.length = n → a = L.length → j = L.length + n → Sd lt S → insInner lt a j (L ++ (S ++ x :: R)).toArray = (L ++ (mrg lt S [x] ++ R)).toArray := by
  intro n
  induction n with
  | zero =>
    intro L S R x a j hn ha hj _
    have h1 : S = [] := List.length_eq_zero_iff.1 hn
    subst h1
    rw [insInner_stop _ _ _ _ (Or.inl (by omega)), nil_mrg]; rfl
  | succ n ih =>
    intro L S R x a j hn ha hj hS
    obtain ⟨S1, s, rfl⟩ : ∃ S1 s, S = S1 ++ [s] := by
      have := List.eq_nil_or_concat S
      rcases this with rfl | ⟨S1, s, h⟩
      · simp at hn
      · exact ⟨S1, s, by simpa using h⟩
    have hn1 : S1.length = n := by simpa using hn
    have hS1 := (List.pairwise_append.1 hS)
    have e1 : L ++ (S1 ++ [s] ++ x :: R) = (L ++ S1) ++ s :: ([] ++ x :: R) := by simp
    have g1 : (L ++ (S1 ++ [s] ++ x :: R)).toArray[j]! = x := by
      rw [show L ++ (S1 ++ [s] ++ x :: R) = (L ++ (S1 ++ [s])) ++ x :: R by simp]
      exact at_list _ _ _ (by simp; omega)
    have g2 : (L ++ (S1 ++ [s] ++ x :: R)).toArray[j - 1]! = s := by
      rw [e1]
      exact at_list _ _ _ (by simp; omega)
    by_cases hl : lt x s = true
    · rw [insInner_go _ _ _ _ (by omega) (by rw [g1, g2]; exact hl), e1, swp_list' (L ++ S1) [] R s x (i := j - 1) (j := j) (by simp; omega) (by simp; omega)]
      have := ih L S1 (s :: R) x (a := a) (j := j - 1) hn1 ha (by omega) hS1.1
      rw [show L ++ S1 ++ x :: ([] ++ s :: R) = L ++ (S1 ++ x :: (s :: R)) by simp, this]
      have e2 := mrg_append lt _ S1 [s] [x] [] (Nat.le_refl _) (by intro a ha b hb; simp at ha hb; subst ha; subst hb; exact hl) (by intro a _ b hb; simp at hb)
      rw [List.append_nil, mrg_nil] at e2
      rw [e2]; simp
    · have hl : lt x s = false := by simpa using hl
      rw [insInner_stop _ _ _ _ (Or.inr (by rw [g1, g2]; exact hl))]
      have e2 := mrg_append lt _ (S1 ++ [s]) [] [] [x] (Nat.le_refl _) (by intro a ha; simp at ha) (by
        intro a ha b hb
        simp only [List.mem_singleton] at hb
        subst hb
        rcases List.mem_append.1 ha with h | h
        · exact hO.ntrans b s a hl (hS1.2.2 a h s (by simp))
        · simp only [List.mem_singleton] at h
          subst h; exact hl)
      rw [List.append_nil, List.nil_append, mrg_nil, nil_mrg] at e2
      rw [e2]; simp
theorem insOuter_list [Inhabited α] (hO : SWO lt) : ∀ (X L S R Y : List α) {a b i : Nat}, a = L.length → i = L.length + S.length → b = i + X.length → Stab lt S Y → ∃ T, insOuter lt a b i (L ++ (S ++ (X ++ R))).toArray = (L ++ (T ++ R)).toArray ∧ Stab lt T (Y ++ X) ∧ T.length = S.length + X.length := by
  intro X
  induction X with
  | nil =>
    intro L S R Y a b i ha hi hb hS
    exact ⟨S, by rw [insOuter_stop _ _ _ _ _ (by simp at hb; omega)]; rfl, by rw [List.append_nil]; exact hS, by simp⟩
  | cons x X ih =>
    intro L S R Y a b i ha hi hb hS
    rw [insOuter_go _ _ _ _ _ (by simp at hb; omega), show S ++ (x :: X ++ R) = S ++ x :: (X ++ R) by simp, ins_list hO S.length L S (X ++ R) x rfl ha hi hS.1]
    have h1 : Stab lt (mrg lt S [x]) (Y ++ [x]) := stab_mrg hO hS ⟨List.pairwise_singleton _ _, fun _ => rfl⟩
    obtain ⟨T, hT, h2, h3⟩ := ih L (mrg lt S [x]) R (Y ++ [x]) (a := a) (b := b) (i := i + 1) ha (by rw [mrg_len]; simp; omega) (by simp at hb; omega) h1
    exact ⟨T, hT, by simpa using h2, by rw [h3, mrg_len]; simp; omega⟩
theorem insertion_list [Inhabited α] (hO : SWO lt) (X L R : List α) {a b : Nat} (ha : a = L.length) (hb : b = a + X.length) : ∃ T, insertionSort lt (L ++ (X ++ R)).toArray a b = (L ++ (T ++ R)).toArray ∧ Stab lt T X ∧ T.length = X.length := by
  unfold insertionSort
  rcases X with _ | ⟨x, X⟩
  · exact ⟨[], by rw [insOuter_stop _ _ _ _ _ (by simp at hb; omega)], ⟨List.Pairwise.nil, fun _ => rfl⟩, rfl⟩
  · obtain ⟨T, h1, h2, h3⟩ := insOuter_list hO X L [x] R [x] (a := a) (b := b) (i := a + 1) ha (by simp; omega) (by simp at hb; omega) ⟨List.pairwise_singleton _ _, fun _ => rfl⟩
    exact ⟨T, h1, h2, by rw [h3]; simp; omega⟩
end
end Go.Proofs.Ytiomkbpniplfhaa
