/- The walk of 'apportionkit.SameBytes': whether two lists of bytes are the same. -/
import Derived.Test.YtnhiipiciondoaaMem
namespace Go.Proofs.Ytnhiipiciondoaa
open Go.RowKit

theorem conv_shows {w : World} {B n : Nat} {A : Option Addr} {xs : List Int} (c : Nat) (h : Shows w B 1 A n (U8 xs)) :
    (convert 23 9 (.slice A n c)).run Try.prog w = .ok (.string (strOfNums xs)) w := by
  have hl : xs.length = n := by have := h.len; simpa [U8] using this
  rcases Nat.eq_zero_or_pos n with h0 | h0
  · subst h0
    have hx : xs = [] := List.eq_nil_of_length_eq_zero hl
    subst hx
    rcases A with _ | ⟨b, off, spot⟩
    · exact run_convert_bytes_nil w _ _ Try.underlying23 Try.underlying5 _ _ 9 Try.underlying9
    · rw [run_convert_bytes_string w _ _ _ _ _ _ Try.underlying23 Try.underlying5 Try.underlying9, run_bytesToString w _ 0 c [] (by simp [loadCells, loadCellsFrom, Sem.run_pure])]
      rfl
  · obtain ⟨b, off, rfl, _, hc⟩ := h.at_ h0
    refine run_convert_bytes_arg w _ _ Try.underlying23 Try.underlying5 b off n c xs hl (fun i hi => ?_) 9 Try.underlying9
    rw [hc i (by simpa [U8, hl] using hi)]
    simp [U8, List.getD, List.getElem?_eq_getElem (show i < xs.length by omega)]
theorem str_inj {xs ys : List Int} (hx : ∀ x ∈ xs, 0 ≤ x ∧ x ≤ 255) (hy : ∀ x ∈ ys, 0 ≤ x ∧ x ≤ 255) (e : (strOfNums xs).data.toList = (strOfNums ys).data.toList) : xs = ys := by
  rw [strOfNums_data, strOfNums_data] at e
  induction xs generalizing ys with
  | nil => simpa using e.symm
  | cons x xs ih =>
    cases ys with
    | nil => simp at e
    | cons y ys =>
      simp only [List.map_cons, List.cons.injEq] at e
      have h1 := hx x (by simp)
      have h2 := hy y (by simp)
      have e1 : (UInt8.ofNat x.toNat).toNat = (UInt8.ofNat y.toNat).toNat := by rw [e.1]
      simp only [UInt8.toNat_ofNat'] at e1
      rw [ih (fun z hz => hx z (by simp [hz])) (fun z hz => hy z (by simp [hz])) e.2, show x = y by omega]
def sameB (xs ys : List Int) : Bool := decide (xs = ys)
set_option maxRecDepth 100000 in
set_option maxHeartbeats 400000 in
theorem same_any (A A' : Option Addr) (n m c d : Nat) (xs ys : List Int) (B B' : Nat) (w : World) (ha : Shows w B 1 A n (U8 xs)) (hb : Shows w B' 1 A' m (U8 ys))
    (hx : ∀ x ∈ xs, 0 ≤ x ∧ x ≤ 255) (hy : ∀ x ∈ ys, 0 ≤ x ∧ x ≤ 255) :
    Calls Try.prog 13 #[.slice A n c, .slice A' m d] w fun e w' => e = .returned (.bool (sameB xs ys)) ∧ w = w' := by
  have k1 := conv_shows c ha
  have k2 := conv_shows d hb
  have H : Hid (((strOfNums xs).toList == (strOfNums ys).toList) = sameB xs ys) := by
    unfold Hid sameB
    rw [ByteArray.toList_eq, ByteArray.toList_eq]
    by_cases h : xs = ys
    · subst h; simp
    · rw [decide_eq_false h, beq_eq_false_iff_ne]
      exact fun e => h (str_inj hx hy e)
  clear hx hy ha hb
  go_enter Try.func13, Try.ntmps13
  go_wp2_with fail
  go_ret
  exact ⟨by simp [H.out], rfl⟩
theorem same_is {A A' : Option Addr} {n m c d : Nat} {xs ys : List Int} {B B' : Nat} {w : World} {b : Bool} (hs : sameB xs ys = b) (ha : Shows w B 1 A n (U8 xs)) (hb : Shows w B' 1 A' m (U8 ys))
    (hx : ∀ x ∈ xs, 0 ≤ x ∧ x ≤ 255) (hy : ∀ x ∈ ys, 0 ≤ x ∧ x ≤ 255) :
    Calls Try.prog 13 #[.slice A n c, .slice A' m d] w fun e w' => e = .returned (.bool b) ∧ w = w' :=
  hs ▸ same_any A A' n m c d xs ys B B' w ha hb hx hy
end Go.Proofs.Ytnhiipiciondoaa
