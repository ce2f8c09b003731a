/- What 'swapRange' and 'rotate' do to a row: no program here. -/
import Derived.Sort.WalkA
namespace Go.Proofs.Ytiomkbpniplfhaa
open Go.Sort
variable {α : Type} [Inhabited α]

/-- 'for i := 0; i < n; i++ { exchange a + i and b + i }'. -/
def swapR : Array α → Nat → Nat → Nat → Array α
  | d, _, _, 0 => d
  | d, a, b, n + 1 => swapR (swp d a b) (a + 1) (b + 1) n
theorem swapR_go (d : Array α) (a b n : Nat) (h : 0 < n) : swapR d a b n = swapR (swp d a b) (a + 1) (b + 1) (n - 1) := by
  obtain ⟨m, rfl⟩ : ∃ m, n = m + 1 := ⟨n - 1, by omega⟩
  rfl

/-- The turning of two neighbours, of i and of j elements, that meet at m. -/
def rot (m i j : Nat) (d : Array α) : Array α :=
  if _h : i = j ∨ i = 0 ∨ j = 0 then swapR d (m - i) m i else if j < i then rot m (i - j) j (swapR d (m - i) m j) else rot m i (j - i) (swapR d (m - i) (m + j - i) i)
termination_by i + j
decreasing_by
  · omega
  · omega
theorem rot_end (m i : Nat) (d : Array α) : rot m i i d = swapR d (m - i) m i := by
  rw [rot, dif_pos (Or.inl rfl)]
theorem rot_more {m i j : Nat} (d : Array α) (hj : 0 < j) (h : j < i) : rot m i j d = rot m (i - j) j (swapR d (m - i) m j) := by
  rw [rot, dif_neg (by omega), if_pos h]
theorem rot_less {m i j : Nat} (d : Array α) (hi : 0 < i) (h : i < j) : rot m i j d = rot m i (j - i) (swapR d (m - i) (m + j - i) i) := by
  rw [rot, dif_neg (by omega), if_neg (by omega)]

end Go.Proofs.Ytiomkbpniplfhaa
