/- 'symMerge' in plain mathematics: where it parts two sorted neighbours, and what becomes of them; no program here. -/
import Derived.Test.YtiomkbpniplfhaaSrtPlain
namespace Go.Proofs.Ytiomkbpniplfhaa
open Go.Sort
section
variable {α : Type} [Inhabited α]

/-- 'for k := a; ..; k++ { exchange k and k + 1 }', n times. -/
def upR : Array α → Nat → Nat → Array α
  | d, _, 0 => d
  | d, a, n + 1 => upR (swp d a (a + 1)) (a + 1) n
/-- 'for k := j; ..; k-- { exchange k and k - 1 }', n times. -/
def downR : Array α → Nat → Nat → Array α
  | d, _, 0 => d
  | d, j, n + 1 => downR (swp d j (j - 1)) (j - 1) n
theorem upR_go (d : Array α) (a n : Nat) (h : 0 < n) : upR d a n = upR (swp d a (a + 1)) (a + 1) (n - 1) := by
  obtain ⟨m, rfl⟩ : ∃ m, n = m + 1 := ⟨n - 1, by omega⟩
  rfl
theorem downR_go (d : Array α) (a n : Nat) (h : 0 < n) : downR d a n = downR (swp d a (a - 1)) (a - 1) (n - 1) := by
  obtain ⟨m, rfl⟩ : ∃ m, n = m + 1 := ⟨n - 1, by omega⟩
  rfl
theorem up_list : ∀ (B L R : List α) (x : α) {a : Nat}, a = L.length → upR (L ++ x :: (B ++ R)).toArray a B.length = (L ++ (B ++ x :: R)).toArray := by
  intro B
  induction B with
  | nil => intro L R x a _; rfl
  | cons b B ih =>
    intro L R x a ha
    rw [List.length_cons, upR, show L ++ x :: (b :: B ++ R) = L ++ x :: ([] ++ b :: (B ++ R)) by simp, swp_list L [] (B ++ R) x b ha (by simp; omega)]
    have := ih (L ++ [b]) R x (a := a + 1) (by simp; omega)
    rw [show L ++ b :: ([] ++ x :: (B ++ R)) = L ++ [b] ++ x :: (B ++ R) by simp, this]
    simp
theorem down_list : ∀ (n : Nat) (A L R : List α) (y : α) {j : Nat}, A.length = n → j = L.length + n → downR (L ++ (A ++ y :: R)).toArray j n = (L ++ y :: (A ++ R)).toArray := by
  intro n
  induction n with
  | zero =>
    intro A L R y j hn _
    have h1 : A = [] := List.length_eq_zero_iff.1 hn
    subst h1; rfl
  | succ n ih =>
    intro A L R y j hn hj
    obtain ⟨A1, s, rfl⟩ : ∃ A1 s, A = A1 ++ [s] := by
      rcases List.eq_nil_or_concat A with rfl | ⟨A1, s, h⟩
      · simp at hn
      · exact ⟨A1, s, by simpa using h⟩
    have hn1 : A1.length = n := by simpa using hn
    rw [downR, show L ++ (A1 ++ [s] ++ y :: R) = (L ++ A1) ++ s :: ([] ++ y :: R) by simp, swp_list' (L ++ A1) [] R s y (i := j - 1) (j := j) (by simp; omega) (by simp; omega)]
    have := ih A1 L (s :: R) y (j := j - 1) hn1 (by omega)
    rw [show L ++ A1 ++ y :: ([] ++ s :: R) = L ++ (A1 ++ y :: (s :: R)) by simp, this]
    simp
end
section
variable {α : Type} {lt : α → α → Bool}
theorem sd_last (hO : SWO lt) {X : List α} {z b : α} (h : Sd lt (X ++ [z])) (hb : b ∈ X ++ [z]) : lt z b = false := by
  rcases List.mem_append.1 hb with hb | hb
  · exact (List.pairwise_append.1 h).2.2 b hb z (by simp)
  · simp only [List.mem_singleton] at hb
    subst hb; exact hO.irrefl _
theorem sd_head (hO : SWO lt) {X : List α} {z b : α} (h : Sd lt (z :: X)) (hb : b ∈ z :: X) : lt b z = false := by
  rcases List.mem_cons.1 hb with rfl | hb
  · exact hO.irrefl _
  · exact (List.pairwise_cons.1 h).1 b hb
theorem last_at [Inhabited α] {X : List α} (L R : List α) {i : Nat} (hX : X ≠ []) (hi : i = L.length + X.length) : ∃ X1 z, X = X1 ++ [z] ∧ (L ++ (X ++ R)).toArray[i - 1]! = z := by
  rcases List.eq_nil_or_concat X with rfl | ⟨X1, z, h⟩
  · exact absurd rfl hX
  · subst h
    refine ⟨X1, z, by simp, ?_⟩
    rw [show L ++ (X1.concat z ++ R) = (L ++ X1) ++ z :: R by simp]
    exact at_list _ _ _ (by simp at hi ⊢; omega)
theorem head_at [Inhabited α] {X : List α} (L R : List α) {i : Nat} (hX : X ≠ []) (hi : i = L.length) : ∃ z X1, X = z :: X1 ∧ (L ++ (X ++ R)).toArray[i]! = z := by
  rcases X with _ | ⟨z, X1⟩
  · exact absurd rfl hX
  · exact ⟨z, X1, rfl, at_list L (X1 ++ R) z hi⟩
/-- One ahead of many. -/
theorem sym_left [Inhabited α] (hO : SWO lt) (L B R : List α) (x : α) {a m b i : Nat} {d : Array α} (hd : d = (L ++ (x :: (B ++ R))).toArray) (ha : a = L.length) (hm : m = a + 1) (hb : b = m + B.length) (h1 : m ≤ i) (h2 : i ≤ b)
    (h3 : i = m ∨ lt d[i - 1]! d[a]! = true) (h4 : i = b ∨ lt d[i]! d[a]! = false) (hB : Sd lt B) : upR d a (i - m) = (L ++ (mrg lt [x] B ++ R)).toArray := by
  obtain ⟨B1, B2, rfl, hl⟩ : ∃ B1 B2, B = B1 ++ B2 ∧ B1.length = i - m := ⟨B.take (i - m), B.drop (i - m), by simp, by rw [List.length_take]; omega⟩
  have hB12 := List.pairwise_append.1 hB
  have gx : d[a]! = x := by rw [hd]; exact at_list _ _ _ ha
  have c1 : ∀ b ∈ B1, lt b x = true := by
    rcases h3 with h3 | h3
    · have : B1 = [] := List.length_eq_zero_iff.1 (by omega)
      subst this; intro b hb; simp at hb
    · by_cases hn : B1 = []
      · subst hn; intro b hb; simp at hb
      · obtain ⟨X1, z, rfl, hz⟩ := last_at (L ++ [x]) (B2 ++ R) hn (i := i) (by simp; omega)
        rw [show L ++ [x] ++ (X1 ++ [z] ++ (B2 ++ R)) = L ++ (x :: (X1 ++ [z] ++ B2 ++ R)) by simp, ← hd] at hz
        rw [hz, gx] at h3
        exact fun b hb => lt_of_nlt_lt hO (sd_last hO hB12.1 hb) h3
  have c2 : ∀ b ∈ B2, lt b x = false := by
    rcases h4 with h4 | h4
    · have : B2 = [] := List.length_eq_zero_iff.1 (by simp at hb; omega)
      subst this; intro b hb; simp at hb
    · by_cases hn : B2 = []
      · subst hn; intro b hb; simp at hb
      · obtain ⟨z, X1, rfl, hz⟩ := head_at (L ++ [x] ++ B1) R hn (i := i) (by simp; omega)
        rw [show L ++ [x] ++ B1 ++ (z :: X1 ++ R) = L ++ (x :: (B1 ++ z :: X1 ++ R)) by simp, ← hd] at hz
        rw [hz, gx] at h4
        exact fun b hb => hO.ntrans b z x (sd_head hO hB12.2.1 hb) h4
  have e1 := mrg_append lt _ [] [x] B1 B2 (Nat.le_refl _) (by intro a ha b hb; simp at ha; subst ha; exact c1 b hb) (by intro a ha; simp at ha)
  have e2 := mrg_append lt _ [x] [] [] B2 (Nat.le_refl _) (by intro a ha; simp at ha) (by intro a ha b hb; simp at ha; subst ha; exact c2 b hb)
  rw [List.append_nil, List.nil_append, mrg_nil, nil_mrg] at e2
  rw [List.nil_append, nil_mrg, e2] at e1
  rw [e1, hd, ← hl]
  have := up_list B1 L (B2 ++ R) x ha
  rw [show L ++ x :: (B1 ++ B2 ++ R) = L ++ x :: (B1 ++ (B2 ++ R)) by simp, this]
  simp
/-- One behind many. -/
theorem sym_right [Inhabited α] (hO : SWO lt) (L A R : List α) (y : α) {a m i : Nat} {d : Array α} (hd : d = (L ++ (A ++ (y :: R))).toArray) (ha : a = L.length) (hm : m = a + A.length) (h1 : a ≤ i) (h2 : i ≤ m)
    (h3 : i = a ∨ lt d[m]! d[i - 1]! = false) (h4 : i = m ∨ lt d[m]! d[i]! = true) (hA : Sd lt A) : downR d m (m - i) = (L ++ (mrg lt A [y] ++ R)).toArray := by
  obtain ⟨A1, A2, rfl, hl⟩ : ∃ A1 A2, A = A1 ++ A2 ∧ A1.length = i - a := ⟨A.take (i - a), A.drop (i - a), by simp, by rw [List.length_take]; omega⟩
  have hA12 := List.pairwise_append.1 hA
  have hl2 : A2.length = m - i := by simp at hm; omega
  have gy : d[m]! = y := by
    rw [hd, show L ++ (A1 ++ A2 ++ (y :: R)) = L ++ (A1 ++ A2) ++ y :: R by simp]; exact at_list _ _ _ (by simp; simp at hm; omega)
  have c1 : ∀ b ∈ A1, lt y b = false := by
    rcases h3 with h3 | h3
    · have : A1 = [] := List.length_eq_zero_iff.1 (by omega)
      subst this; intro b hb; simp at hb
    · by_cases hn : A1 = []
      · subst hn; intro b hb; simp at hb
      · obtain ⟨X1, z, rfl, hz⟩ := last_at L (A2 ++ y :: R) hn (i := i) (by omega)
        rw [show L ++ (X1 ++ [z] ++ (A2 ++ y :: R)) = L ++ (X1 ++ [z] ++ A2 ++ (y :: R)) by simp, ← hd] at hz
        rw [hz, gy] at h3
        exact fun b hb => hO.ntrans y z b h3 (sd_last hO hA12.1 hb)
  have c2 : ∀ b ∈ A2, lt y b = true := by
    rcases h4 with h4 | h4
    · have : A2 = [] := List.length_eq_zero_iff.1 (by omega)
      subst this; intro b hb; simp at hb
    · by_cases hn : A2 = []
      · subst hn; intro b hb; simp at hb
      · obtain ⟨z, X1, rfl, hz⟩ := head_at (L ++ A1) (y :: R) hn (i := i) (by simp; omega)
        rw [show L ++ A1 ++ (z :: X1 ++ y :: R) = L ++ (A1 ++ z :: X1 ++ (y :: R)) by simp, ← hd] at hz
        rw [hz, gy] at h4
        exact fun b hb => lt_of_lt_nlt hO h4 (sd_head hO hA12.2.1 hb)
  have e1 := mrg_append lt _ A1 A2 [] [y] (Nat.le_refl _) (by intro a ha b hb; simp at hb) (by intro a ha b hb; simp at hb; subst hb; exact c1 a ha)
  have e2 := mrg_append lt _ [] A2 [y] [] (Nat.le_refl _) (by intro a ha b hb; simp at hb; subst hb; exact c2 a ha) (by intro a ha; simp at ha)
  rw [List.append_nil, List.nil_append, mrg_nil, nil_mrg] at e2
  rw [List.nil_append, mrg_nil, e2] at e1
  rw [e1, hd, ← hl2]
  have := down_list A2.length A2 (L ++ A1) R y (j := m) rfl (by simp; omega)
  rw [show L ++ (A1 ++ A2 ++ (y :: R)) = L ++ A1 ++ (A2 ++ y :: R) by simp, this]
  simp
/-- Where two sorted neighbours part. -/
theorem sym_split [Inhabited α] (hO : SWO lt) (L A B R : List α) {a m b mid p s s0 r0 : Nat} {d : Array α} (hd : d = (L ++ (A ++ (B ++ R))).toArray) (ha : a = L.length) (hm : m = a + A.length) (hb : b = m + B.length) (hA0 : 0 < A.length) (hB0 : 0 < B.length)
    (hmid : mid = (a + b) / 2) (hp : p = mid + m - 1) (h0 : (m ≤ mid ∧ s0 = a ∧ r0 = m) ∨ (mid < m ∧ s0 = mid + m - b ∧ r0 = mid)) (h1 : s0 ≤ s) (h2 : s ≤ r0)
    (h3 : s = s0 ∨ lt d[p - (s - 1)]! d[s - 1]! = false) (h4 : s = r0 ∨ lt d[p - s]! d[s]! = true) (hA : Sd lt A) (hB : Sd lt B) :
    ∃ A1 A2 B1 B2, A = A1 ++ A2 ∧ B = B1 ++ B2 ∧ A1.length = s - a ∧ B1.length = mid - s ∧ a ≤ s ∧ s ≤ m ∧ s ≤ mid ∧ mid + m - s ≤ b ∧ mrg lt A B = mrg lt A1 B1 ++ mrg lt A2 B2 := by
  have q1 : a ≤ s ∧ s ≤ m ∧ s ≤ mid ∧ mid + m - s ≤ b := by omega
  obtain ⟨A1, A2, rfl, hl⟩ : ∃ A1 A2, A = A1 ++ A2 ∧ A1.length = s - a := ⟨A.take (s - a), A.drop (s - a), by simp, by rw [List.length_take]; omega⟩
  obtain ⟨B1, B2, rfl, hk⟩ : ∃ B1 B2, B = B1 ++ B2 ∧ B1.length = mid - s := ⟨B.take (mid - s), B.drop (mid - s), by simp, by rw [List.length_take]; omega⟩
  have hA12 := List.pairwise_append.1 hA
  have hB12 := List.pairwise_append.1 hB
  rw [List.length_append] at hm hb hA0 hB0
  have k1 : d = (L ++ (A1 ++ (A2 ++ (B1 ++ (B2 ++ R))))).toArray := by rw [hd]; simp
  have c1 : ∀ x ∈ A2, ∀ y ∈ B1, lt y x = true := by
    by_cases n1 : A2 = []
    · subst n1; intro x hx; simp at hx
    · by_cases n2 : B1 = []
      · subst n2; intro x _ y hy; simp at hy
      · have l1 := List.length_pos_iff.2 n1
        have l2 := List.length_pos_iff.2 n2
        obtain ⟨X1, z, rfl, hz⟩ := last_at (L ++ (A1 ++ A2)) (B2 ++ R) n2 (i := mid + m - s) (by simp only [List.length_append] at *; omega)
        obtain ⟨u, X2, rfl, hu⟩ := head_at (L ++ A1) ((X1 ++ [z]) ++ (B2 ++ R)) n1 (i := s) (by rw [List.length_append]; omega)
        rw [show L ++ (A1 ++ u :: X2) ++ (X1 ++ [z] ++ (B2 ++ R)) = L ++ (A1 ++ (u :: X2 ++ (X1 ++ [z] ++ (B2 ++ R)))) by simp, ← k1] at hz
        rw [show L ++ A1 ++ (u :: X2 ++ (X1 ++ [z] ++ (B2 ++ R))) = L ++ (A1 ++ (u :: X2 ++ (X1 ++ [z] ++ (B2 ++ R)))) by simp, ← k1] at hu
        have h5 : lt d[p - s]! d[s]! = true := by
          rcases h4 with h4 | h4
          · exfalso; simp only [List.length_append, List.length_cons, List.length_nil] at *; omega
          · exact h4
        rw [show p - s = mid + m - s - 1 by omega, hz, hu] at h5
        intro x hx y hy
        exact lt_of_lt_nlt hO (lt_of_nlt_lt hO (sd_last hO hB12.1 hy) h5) (sd_head hO hA12.2.1 hx)
  have c2 : ∀ x ∈ A1, ∀ y ∈ B2, lt y x = false := by
    by_cases n1 : A1 = []
    · subst n1; intro x hx; simp at hx
    · by_cases n2 : B2 = []
      · subst n2; intro x _ y hy; simp at hy
      · have l1 := List.length_pos_iff.2 n1
        have l2 := List.length_pos_iff.2 n2
        obtain ⟨X1, z, rfl, hz⟩ := last_at L (A2 ++ (B1 ++ (B2 ++ R))) n1 (i := s) (by omega)
        obtain ⟨u, X2, rfl, hu⟩ := head_at (L ++ ((X1 ++ [z]) ++ (A2 ++ B1))) R n2 (i := mid + m - s) (by simp only [List.length_append] at *; omega)
        rw [← k1] at hz
        rw [show L ++ ((X1 ++ [z]) ++ (A2 ++ B1)) ++ (u :: X2 ++ R) = L ++ (X1 ++ [z] ++ (A2 ++ (B1 ++ (u :: X2 ++ R)))) by simp, ← k1] at hu
        have h5 : lt d[p - (s - 1)]! d[s - 1]! = false := by
          rcases h3 with h3 | h3
          · exfalso; simp only [List.length_append, List.length_cons, List.length_nil] at *; omega
          · exact h3
        rw [show p - (s - 1) = mid + m - s by simp only [List.length_append, List.length_cons, List.length_nil] at *; omega, hz, hu] at h5
        intro x hx y hy
        exact hO.ntrans y u x (sd_head hO hB12.2.1 hy) (hO.ntrans u z x h5 (sd_last hO hA12.1 hx))
  exact ⟨A1, A2, B1, B2, rfl, rfl, hl, hk, q1.1, q1.2.1, q1.2.2.1, q1.2.2.2, mrg_append lt _ A1 A2 B1 B2 (Nat.le_refl _) c1 c2⟩
end
end Go.Proofs.Ytiomkbpniplfhaa
