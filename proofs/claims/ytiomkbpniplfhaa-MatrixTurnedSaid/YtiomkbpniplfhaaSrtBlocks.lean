/- A row that is sorted by blocks: inserting into the next one, merging two; no program here. -/
import Derived.Test.YtiomkbpniplfhaaSrtPlain
namespace Go.Proofs.Ytiomkbpniplfhaa
open Go.Sort
variable {α : Type}

def seg (l : List α) (i c : Nat) : List α := (l.drop i).take c
theorem seg_len (l : List α) (i c : Nat) : (seg l i c).length = min c (l.length - i) := by unfold seg; simp
theorem seg_left {L T : List α} {i c : Nat} (h : i + c ≤ L.length) : seg (L ++ T) i c = seg L i c := by
  unfold seg
  rw [List.drop_append_of_le_length (by omega), List.take_append_of_le_length (by rw [List.length_drop]; omega)]
theorem seg_right {L T : List α} {i c : Nat} (h : L.length ≤ i) : seg (L ++ T) i c = seg T (i - L.length) c := by
  unfold seg
  rw [List.drop_append, List.drop_of_length_le h, List.nil_append]
theorem seg_over {l : List α} {i c : Nat} (h : l.length ≤ i) : seg l i c = [] := by
  unfold seg
  rw [List.drop_of_length_le h, List.take_nil]
theorem seg_join (l : List α) (i c e : Nat) : seg l i c ++ seg l (i + c) e = seg l i (c + e) := by
  unfold seg
  rw [← List.drop_drop, List.take_add]
theorem seg_whole {l : List α} {c : Nat} (h : l.length ≤ c) : seg l 0 c = l := by
  unfold seg
  rw [List.drop_zero, List.take_of_length_le h]
theorem seg_short {l : List α} {i c e : Nat} (h : l.length ≤ i + c) (hc : c ≤ e) : seg l i e = seg l i c := by
  unfold seg
  rw [List.take_of_length_le (by rw [List.length_drop]; omega), List.take_of_length_le (by rw [List.length_drop]; omega)]
theorem seg_parts (l : List α) (i c : Nat) : l = l.take i ++ (seg l i c ++ l.drop (i + c)) := by
  unfold seg
  rw [← List.drop_drop, List.take_append_drop, List.take_append_drop]
theorem seg_mid {L X R : List α} {c : Nat} (h : X.length = c ∨ (X.length ≤ c ∧ R = [])) : seg (L ++ (X ++ R)) L.length c = X := by
  rw [seg_right (Nat.le_refl _), Nat.sub_self]
  unfold seg
  rw [List.drop_zero]
  rcases h with h | ⟨h, rfl⟩
  · rw [List.take_append_of_le_length (by omega), List.take_of_length_le (by omega)]
  · rw [List.append_nil, List.take_of_length_le h]
section
variable {lt : α → α → Bool}
theorem stab_nil : Stab lt [] [] := ⟨List.Pairwise.nil, fun _ => rfl⟩
theorem blk_insert [Inhabited α] (hO : SWO lt) {D dk : List α} {n bs q a e : Nat} (hdk : dk.length = n) (hD : D.length = n) (ha : a = q * bs) (h1 : a ≤ e) (h2 : e ≤ n) (he : e = a + bs ∨ (e = n ∧ n ≤ a + bs))
    (hp : ∀ j, j < q → Stab lt (seg dk (j * bs) bs) (seg D (j * bs) bs)) (hd : dk.drop a = D.drop a) :
    ∃ dk', insertionSort lt dk.toArray a e = dk'.toArray ∧ dk'.length = n ∧ (∀ j, j < q + 1 → Stab lt (seg dk' (j * bs) bs) (seg D (j * bs) bs)) ∧ dk'.drop e = D.drop e := by
  have hparts := seg_parts dk a (e - a)
  have hLl : (dk.take a).length = a := by rw [List.length_take]; omega
  have hXl : (seg dk a (e - a)).length = e - a := by rw [seg_len]; omega
  obtain ⟨T, hT1, hT2, hT3⟩ := insertion_list hO (seg dk a (e - a)) (dk.take a) (dk.drop (a + (e - a))) (a := a) (b := e) hLl.symm (by rw [hXl]; omega)
  rw [← hparts] at hT1
  have hR : dk.drop (a + (e - a)) = D.drop e := by
    rw [← List.drop_drop, hd, List.drop_drop]; congr 1; omega
  have hX : seg dk a (e - a) = seg D a bs := by
    unfold seg
    rw [hd]
    rcases he with he | ⟨he, hn⟩
    · congr 1; omega
    · rw [List.take_of_length_le (by rw [List.length_drop]; omega), List.take_of_length_le (by rw [List.length_drop]; omega)]
  have hRl : (dk.drop (a + (e - a))).length = n - e := by rw [List.length_drop]; omega
  refine ⟨_, hT1, ?_, fun j hj => ?_, ?_⟩
  · rw [List.length_append, List.length_append, hT3, hLl, hXl, hRl]; omega
  · rcases Nat.lt_or_ge j q with h | h
    · have hle : j * bs + bs ≤ a := by
        have := Nat.mul_le_mul_right bs (show j + 1 ≤ q from h)
        rw [Nat.add_mul, Nat.one_mul] at this
        omega
      rw [seg_left (by omega)]
      have h3 := hp j h
      rw [hparts, seg_left (by omega)] at h3
      exact h3
    · obtain rfl : j = q := by omega
      rw [← ha]
      have : seg (dk.take a ++ (T ++ dk.drop (a + (e - a)))) a bs = T := by
        conv => lhs; arg 2; rw [← hLl]
        refine seg_mid ?_
        rcases he with he | ⟨he, hn⟩
        · left; rw [hT3, hXl]; omega
        · right; exact ⟨by rw [hT3, hXl]; omega, List.length_eq_zero_iff.1 (by rw [hRl]; omega)⟩
      rw [this, ← hX]
      exact hT2
  · rw [← List.append_assoc, List.drop_append, List.drop_of_length_le (by rw [List.length_append, hLl, hT3, hXl]; omega), List.nil_append, List.length_append, hLl, hT3, hXl, show e - (a + (e - a)) = 0 by omega, List.drop_zero, hR]
theorem blk_all {D dk : List α} {n bs q : Nat} (hdk : dk.length = n) (hD : D.length = n) (hq : n ≤ q * bs) (hp : ∀ j, j < q → Stab lt (seg dk (j * bs) bs) (seg D (j * bs) bs)) : ∀ j, Stab lt (seg dk (j * bs) bs) (seg D (j * bs) bs) := by
  intro j
  rcases Nat.lt_or_ge j q with h | h
  · exact hp j h
  · have := Nat.mul_le_mul_right bs h
    rw [seg_over (by omega), seg_over (by omega)]
    exact stab_nil
theorem blk_merge (hO : SWO lt) {D dk : List α} {n bs q a m e : Nat} (hdk : dk.length = n) (hD : D.length = n) (ha : a = q * (2 * bs)) (hm : m = a + bs) (h1 : m < e) (h2 : e ≤ n) (he : e = a + 2 * bs ∨ (e = n ∧ n ≤ a + 2 * bs))
    (hp : ∀ j, j < q → Stab lt (seg dk (j * (2 * bs)) (2 * bs)) (seg D (j * (2 * bs)) (2 * bs))) (hr : ∀ j, 2 * q ≤ j → Stab lt (seg dk (j * bs) bs) (seg D (j * bs) bs)) :
    ∃ L A B R, dk = L ++ (A ++ (B ++ R)) ∧ a = L.length ∧ m = a + A.length ∧ e = m + B.length ∧ Sd lt A ∧ Sd lt B ∧ (L ++ (mrg lt A B ++ R)).length = n ∧
      (∀ j, j < q + 1 → Stab lt (seg (L ++ (mrg lt A B ++ R)) (j * (2 * bs)) (2 * bs)) (seg D (j * (2 * bs)) (2 * bs))) ∧ (∀ j, 2 * (q + 1) ≤ j → Stab lt (seg (L ++ (mrg lt A B ++ R)) (j * bs) bs) (seg D (j * bs) bs)) := by
  have a2 : a = 2 * q * bs := by rw [ha, Nat.mul_left_comm, Nat.mul_assoc]
  have hLl : (dk.take a).length = a := by rw [List.length_take]; omega
  have hAl : (seg dk a bs).length = bs := by rw [seg_len]; omega
  have hBl : (seg dk (a + bs) bs).length = e - m := by rw [seg_len]; omega
  have hRl : (dk.drop e).length = n - e := by rw [List.length_drop]; omega
  have e1 : dk = dk.take a ++ (seg dk a bs ++ (seg dk (a + bs) bs ++ dk.drop e)) := by
    have h3 : dk.drop e = dk.drop (a + bs + bs) := by
      rcases he with he | ⟨he, hn⟩
      · congr 1; omega
      · rw [List.drop_of_length_le (by omega), List.drop_of_length_le (by omega)]
    rw [h3, ← List.append_assoc (seg dk a bs), seg_join, Nat.add_assoc]
    exact seg_parts dk a (bs + bs)
  have sA := hr (2 * q) (Nat.le_refl _)
  have sB := hr (2 * q + 1) (by omega)
  rw [← a2] at sA
  rw [Nat.add_mul, Nat.one_mul, ← a2] at sB
  have sM := stab_mrg hO sA sB
  rw [seg_join D a bs bs, show bs + bs = 2 * bs by omega] at sM
  have hMl := mrg_len lt (seg dk a bs) (seg dk (a + bs) bs)
  have hlen : (dk.take a ++ (mrg lt (seg dk a bs) (seg dk (a + bs) bs) ++ dk.drop e)).length = n := by
    rw [List.length_append, List.length_append, hLl, hMl, hAl, hBl, hRl]; omega
  refine ⟨dk.take a, seg dk a bs, seg dk (a + bs) bs, dk.drop e, e1, hLl.symm, by omega, by omega, sA.1, sB.1, hlen, fun j hj => ?_, fun j hj => ?_⟩
  · rcases Nat.lt_or_ge j q with h | h
    · have hle : j * (2 * bs) + 2 * bs ≤ a := by
        have := Nat.mul_le_mul_right (2 * bs) (show j + 1 ≤ q from h)
        rw [Nat.add_mul, Nat.one_mul] at this
        omega
      rw [seg_left (by omega)]
      have h3 := hp j h
      rw [e1, seg_left (by omega)] at h3
      exact h3
    · obtain rfl : j = q := by omega
      rw [← ha]
      have : seg (dk.take a ++ (mrg lt (seg dk a bs) (seg dk (a + bs) bs) ++ dk.drop e)) a (2 * bs) = mrg lt (seg dk a bs) (seg dk (a + bs) bs) := by
        conv => lhs; arg 2; rw [← hLl]
        refine seg_mid ?_
        rcases he with he | ⟨he, hn⟩
        · left; rw [hMl, hAl, hBl]; omega
        · right; exact ⟨by rw [hMl, hAl, hBl]; omega, List.length_eq_zero_iff.1 (by rw [hRl]; omega)⟩
      rw [this]
      exact sM
  · have hge : a + 2 * bs ≤ j * bs := by
      have := Nat.mul_le_mul_right bs hj
      rw [Nat.mul_add, Nat.add_mul, ← a2] at this
      omega
    rcases he with he | ⟨he, hn⟩
    · have h3 := hr j (by omega)
      rw [e1, seg_right (by omega), seg_right (by omega), seg_right (by omega)] at h3
      rw [seg_right (by omega), seg_right (by omega)]
      rw [show j * bs - (dk.take a).length - (mrg lt (seg dk a bs) (seg dk (a + bs) bs)).length = j * bs - (dk.take a).length - (seg dk a bs).length - (seg dk (a + bs) bs).length by omega]
      exact h3
    · rw [seg_over (by rw [hlen]; omega), seg_over (by omega)]
      exact stab_nil
/-- Two blocks of which the second is empty. -/
theorem blk_lone {D dk : List α} {n bs q a : Nat} (hdk : dk.length = n) (hD : D.length = n) (ha : a = q * (2 * bs)) (h1 : n ≤ a + bs)
    (hp : ∀ j, j < q → Stab lt (seg dk (j * (2 * bs)) (2 * bs)) (seg D (j * (2 * bs)) (2 * bs))) (hr : ∀ j, 2 * q ≤ j → Stab lt (seg dk (j * bs) bs) (seg D (j * bs) bs)) :
    ∀ j, j < q + 1 → Stab lt (seg dk (j * (2 * bs)) (2 * bs)) (seg D (j * (2 * bs)) (2 * bs)) := by
  intro j hj
  have a2 : a = 2 * q * bs := by rw [ha, Nat.mul_left_comm, Nat.mul_assoc]
  rcases Nat.lt_or_ge j q with h | h
  · exact hp j h
  · obtain rfl : j = q := by omega
    rw [← ha, seg_short (c := bs) (by omega) (by omega), seg_short (c := bs) (e := 2 * bs) (by omega) (by omega), a2]
    exact hr (2 * j) (Nat.le_refl _)
theorem blk_end {D dk : List α} {n bs : Nat} (hdk : dk.length = n) (hD : D.length = n) (hn : n ≤ bs) (h : ∀ j, Stab lt (seg dk (j * bs) bs) (seg D (j * bs) bs)) : Stab lt dk D := by
  have := h 0
  rwa [Nat.zero_mul, seg_whole (by omega), seg_whole (by omega)] at this
end
end Go.Proofs.Ytiomkbpniplfhaa
