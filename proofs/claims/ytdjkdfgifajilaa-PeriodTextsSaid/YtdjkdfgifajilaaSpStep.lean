/- The reader's digit and letter, told by the text's bytes. -/
import Derived.Test.YtdjkdfgifajilaaSpParse
namespace Go.Proofs.Ytdjkdfgifajilaa
open Go.RowKit Go.Lib

/-- A text's byte at a place; 0 behind its end. -/
def cAt (s : ByteArray) (q : Nat) : Int := (nums s).getD q 0
/-- Is it a digit? -/
def isDg (s : ByteArray) (q : Nat) : Prop := 48 ≤ cAt s q ∧ cAt s q ≤ 57
instance (s : ByteArray) (q : Nat) : Decidable (isDg s q) := inferInstanceAs (Decidable (_ ∧ _))
theorem cAt_get (s : ByteArray) (q : Nat) (h : q < s.size) : cAt s q = (s[q].toNat : Int) := nums_get s q h
theorem cAt_out (s : ByteArray) (q : Nat) (h : s.size ≤ q) : cAt s q = 0 := by
  unfold cAt
  have : (nums s).length = s.size := nums_len s
  rw [List.getD_eq_getElem?_getD, List.getElem?_eq_none (by omega)]
  rfl
theorem cAt_lt {s : ByteArray} {q : Nat} (h : 1 ≤ cAt s q) : q < s.size := by
  rcases Nat.lt_or_ge q s.size with g | g
  · exact g
  · rw [cAt_out s q g] at h; omega
theorem cAt_byte (s : ByteArray) (q : Nat) : 0 ≤ cAt s q ∧ cAt s q ≤ 255 := by
  rcases Nat.lt_or_ge q s.size with g | g
  · rw [cAt_get s q g]; have := s[q].toNat_lt; omega
  · rw [cAt_out s q g]; omega
theorem digit_yes {R : Nat} {s : ByteArray} {j : Nat} (hs : s.size ≤ 9223372036854775807) {low high : Int} {w : World} (hR : RdS w R s j true) (h48 : 48 ≤ low) (hl : low ≤ cAt s j) (hh : cAt s j ≤ high) :
    Calls Try.prog 56 #[.pointer (some ⟨R, 0, none⟩), .int .u8 low, .int .u8 high] w (DgPost R s (j + 1) true (.int .i64 (cAt s j - 48)) w) := by
  have hj : j < s.size := cAt_lt (by omega)
  rw [cAt_get s j hj] at hl hh ⊢
  exact digit_ok R s j hj hs low high w hR h48 hl hh
theorem digit_none {R : Nat} {s : ByteArray} {j : Nat} {f : Bool} (hs : s.size ≤ 9223372036854775807) {low high : Int} {w : World} (hR : RdS w R s j f) (hj : j ≤ s.size) (h : f = false ∨ cAt s j < low ∨ high < cAt s j) :
    Calls Try.prog 56 #[.pointer (some ⟨R, 0, none⟩), .int .u8 low, .int .u8 high] w (DgPost R s j false (.int .i64 0) w) := by
  cases f with
  | false => exact digit_not R s j low high w hR
  | true =>
    rcases Nat.lt_or_ge j s.size with g | g
    · rw [cAt_get s j g] at h
      rcases Int.lt_or_le (s[j].toNat : Int) low with g1 | g1
      · exact digit_low R s j g hs low high w hR g1
      · exact digit_high R s j g hs low high w hR g1 (by rcases h with h | h | h <;> first | contradiction | omega)
    · obtain rfl : j = s.size := by omega
      exact digit_end R s low high w hR
theorem dash_yes {R : Nat} {s : ByteArray} {j : Nat} (hs : s.size ≤ 9223372036854775807) {w : World} (hR : RdS w R s j true) (h : cAt s j = 45) :
    Calls Try.prog 57 #[.pointer (some ⟨R, 0, none⟩), .string ⟨#[45]⟩] w (DgPost R s (j + 1) true (.int .u8 45) w) := by
  have hj : j < s.size := cAt_lt (by omega)
  rw [cAt_get s j hj] at h
  have k := letter_ok R s ⟨#[45]⟩ j 0 hj hs (by decide) (by decide) w hR (show 45 = s[j].toNat by omega) (fun i h => absurd h (by omega))
  rw [h] at k
  exact k
theorem letter_none {R : Nat} {s lf : ByteArray} {j : Nat} {f : Bool} (hs : s.size ≤ 9223372036854775807) (hl : lf.size ≤ 9223372036854775807) {w : World} (hR : RdS w R s j f) (hj : j ≤ s.size) (h : f = true → ∀ i, (h : i < lf.size) → (lf[i].toNat : Int) ≠ cAt s j) :
    Calls Try.prog 57 #[.pointer (some ⟨R, 0, none⟩), .string lf] w (DgPost R s j false (.int .u8 0) w) := by
  cases f with
  | false => exact letter_off R s lf j hs hl w hR
  | true =>
    rcases Nat.lt_or_ge j s.size with g | g
    · refine letter_no R s lf j g hs hl w hR fun i hi e => h rfl i hi ?_
      rw [cAt_get s j g, e]
    · obtain rfl : j = s.size := by omega
      exact letter_end R s lf hs hl w hR
theorem dash_none {R : Nat} {s : ByteArray} {j : Nat} {f : Bool} (hs : s.size ≤ 9223372036854775807) {w : World} (hR : RdS w R s j f) (hj : j ≤ s.size) (h : f = true → cAt s j ≠ 45) :
    Calls Try.prog 57 #[.pointer (some ⟨R, 0, none⟩), .string ⟨#[45]⟩] w (DgPost R s j false (.int .u8 0) w) :=
  letter_none hs (by decide) hR hj fun hf i hi => by
    have := h hf
    obtain rfl : i = 0 := by have : i < 1 := hi; omega
    show (45 : Int) ≠ _
    omega
theorem kind_none {R : Nat} {s : ByteArray} {j : Nat} {f : Bool} (hs : s.size ≤ 9223372036854775807) {w : World} (hR : RdS w R s j f) (hj : j ≤ s.size) (h : f = true → cAt s j ≠ 77 ∧ cAt s j ≠ 81 ∧ cAt s j ≠ 72) :
    Calls Try.prog 57 #[.pointer (some ⟨R, 0, none⟩), .string ⟨#[77, 81, 72]⟩] w (DgPost R s j false (.int .u8 0) w) :=
  letter_none hs (by decide) hR hj fun hf i hi => by
    have := h hf
    rcases (by have : i < 3 := hi; omega : i = 0 ∨ i = 1 ∨ i = 2) with rfl | rfl | rfl
    · show (77 : Int) ≠ _; omega
    · show (81 : Int) ≠ _; omega
    · show (72 : Int) ≠ _; omega
theorem kind_yes {R : Nat} {s : ByteArray} {j : Nat} (hs : s.size ≤ 9223372036854775807) {w : World} (hR : RdS w R s j true) {v : Int} (hv : cAt s j = v) (h : v = 77 ∨ v = 81 ∨ v = 72) :
    Calls Try.prog 57 #[.pointer (some ⟨R, 0, none⟩), .string ⟨#[77, 81, 72]⟩] w (DgPost R s (j + 1) true (.int .u8 v) w) := by
  have hj : j < s.size := cAt_lt (by omega)
  rw [cAt_get s j hj] at hv
  rcases h with rfl | rfl | rfl
  · have k := letter_ok R s ⟨#[77, 81, 72]⟩ j 0 hj hs (by decide) (by decide) w hR (show 77 = s[j].toNat by omega) (fun i h => absurd h (by omega))
    rw [hv] at k
    exact k
  · have k := letter_ok R s ⟨#[77, 81, 72]⟩ j 1 hj hs (by decide) (by decide) w hR (show 81 = s[j].toNat by omega) (fun i h => by obtain rfl : i = 0 := (by omega); show 77 ≠ s[j].toNat; omega)
    rw [hv] at k
    exact k
  · have k := letter_ok R s ⟨#[77, 81, 72]⟩ j 2 hj hs (by decide) (by decide) w hR (show 72 = s[j].toNat by omega) (fun i h => by
      rcases (by omega : i = 0 ∨ i = 1) with rfl | rfl
      · show 77 ≠ s[j].toNat; omega
      · show 81 ≠ s[j].toNat; omega)
    rw [hv] at k
    exact k

/-- What a text is: the kind, the period, the error and its place. -/
inductive Reads (s : ByteArray) : Int → Int → Int → Int → Prop
  | bad4 (q : Nat) : q < 4 → (∀ i, i < q → isDg s i) → ¬ isDg s q → Reads s 0 0 4 q
  | y0 : (∀ i, i < 4 → isDg s i) → s.size = 4 → yr s 4 = 0 → Reads s 0 0 5 0
  | y1 : (∀ i, i < 4 → isDg s i) → s.size = 4 → 1 ≤ yr s 4 → Reads s 4 (yr s 4 - 1) 0 0
  | dash : (∀ i, i < 4 → isDg s i) → 4 < s.size → cAt s 4 ≠ 45 → Reads s 0 0 4 4
  | kind : (∀ i, i < 4 → isDg s i) → cAt s 4 = 45 → cAt s 5 ≠ 77 → cAt s 5 ≠ 81 → cAt s 5 ≠ 72 → Reads s 0 0 4 5
  | m6 : (∀ i, i < 4 → isDg s i) → cAt s 4 = 45 → cAt s 5 = 77 → ¬ isDg s 6 → Reads s 0 0 4 6
  | m7 : (∀ i, i < 4 → isDg s i) → cAt s 4 = 45 → cAt s 5 = 77 → isDg s 6 → ¬ isDg s 7 → Reads s 0 0 4 7
  | m8 : (∀ i, i < 4 → isDg s i) → cAt s 4 = 45 → cAt s 5 = 77 → isDg s 6 → isDg s 7 → 8 < s.size → Reads s 0 0 4 8
  | m0 : (∀ i, i < 4 → isDg s i) → cAt s 4 = 45 → cAt s 5 = 77 → isDg s 6 → isDg s 7 → s.size = 8 → (yr s 4 = 0 ∨ 10 * (cAt s 6 - 48) + (cAt s 7 - 48) < 1 ∨ 12 < 10 * (cAt s 6 - 48) + (cAt s 7 - 48)) → Reads s 0 0 5 0
  | m1 : (∀ i, i < 4 → isDg s i) → cAt s 4 = 45 → cAt s 5 = 77 → isDg s 6 → isDg s 7 → s.size = 8 → 1 ≤ yr s 4 → 1 ≤ 10 * (cAt s 6 - 48) + (cAt s 7 - 48) → 10 * (cAt s 6 - 48) + (cAt s 7 - 48) ≤ 12 → Reads s 1 ((yr s 4 - 1) * 12 + (10 * (cAt s 6 - 48) + (cAt s 7 - 48)) - 1) 0 0
  | q6 : (∀ i, i < 4 → isDg s i) → cAt s 4 = 45 → cAt s 5 = 81 → (cAt s 6 < 49 ∨ 52 < cAt s 6) → Reads s 0 0 4 6
  | q7 : (∀ i, i < 4 → isDg s i) → cAt s 4 = 45 → cAt s 5 = 81 → 49 ≤ cAt s 6 → cAt s 6 ≤ 52 → 7 < s.size → Reads s 0 0 4 7
  | q0 : (∀ i, i < 4 → isDg s i) → cAt s 4 = 45 → cAt s 5 = 81 → 49 ≤ cAt s 6 → cAt s 6 ≤ 52 → s.size = 7 → yr s 4 = 0 → Reads s 0 0 5 0
  | q1 : (∀ i, i < 4 → isDg s i) → cAt s 4 = 45 → cAt s 5 = 81 → 49 ≤ cAt s 6 → cAt s 6 ≤ 52 → s.size = 7 → 1 ≤ yr s 4 → Reads s 2 ((yr s 4 - 1) * 4 + (cAt s 6 - 48) - 1) 0 0
  | h6 : (∀ i, i < 4 → isDg s i) → cAt s 4 = 45 → cAt s 5 = 72 → (cAt s 6 < 49 ∨ 50 < cAt s 6) → Reads s 0 0 4 6
  | h7 : (∀ i, i < 4 → isDg s i) → cAt s 4 = 45 → cAt s 5 = 72 → 49 ≤ cAt s 6 → cAt s 6 ≤ 50 → 7 < s.size → Reads s 0 0 4 7
  | h0 : (∀ i, i < 4 → isDg s i) → cAt s 4 = 45 → cAt s 5 = 72 → 49 ≤ cAt s 6 → cAt s 6 ≤ 50 → s.size = 7 → yr s 4 = 0 → Reads s 0 0 5 0
  | h1 : (∀ i, i < 4 → isDg s i) → cAt s 4 = 45 → cAt s 5 = 72 → 49 ≤ cAt s 6 → cAt s 6 ≤ 50 → s.size = 7 → 1 ≤ yr s 4 → Reads s 3 ((yr s 4 - 1) * 2 + (cAt s 6 - 48) - 1) 0 0
/-- Where the reader stands ahead of the last tests. -/
def Mid (s : ByteArray) (k n a p : Int) (f : Bool) : Prop :=
  InKind k n ∧ 0 ≤ a ∧ a ≤ 99 ∧ ((f = false ∧ Reads s 0 0 4 p) ∨ (f = true ∧ p < s.size ∧ Reads s 0 0 4 p) ∨ (f = true ∧ p = s.size ∧ (yr s 4 = 0 ∨ a < 1 ∨ 12 / n < a) ∧ Reads s 0 0 5 0) ∨ (f = true ∧ p = s.size ∧ 1 ≤ yr s 4 ∧ 1 ≤ a ∧ a ≤ 12 / n ∧ Reads s k ((yr s 4 - 1) * (12 / n) + a - 1) 0 0))
end Go.Proofs.Ytdjkdfgifajilaa
