/- Plain mathematics of tokens: which may be, the text of tokens; no program here. -/
import Derived.Test.YtkdgomalhngagaaDoorTokPlain2
namespace Go.Proofs.YtkdgomalhngagaaDoor.Tok
/-- May a token be? -/
def mayF (t : Tk) : Prop := tokF t.2 = ([t], 0, 0)
instance (t : Tk) : Decidable (mayF t) := inferInstanceAs (Decidable (_ = _))
/-- The text of tokens; p: may a blank stand ahead of the first one? -/
def jn : Bool → List Tk → List Int
  | _, [] => []
  | p, x :: r => (if p = true ∧ x.1 ≠ 4 then 32 :: x.2 else x.2) ++ jn (decide (x.1 ≠ 5)) r
def textL (l : List Tk) : List Int := jn false l
def textF (l : List Tk) : List Int × Int :=
  if 40 < l.length then ([], 8) else if ∀ x ∈ l, mayF x then (if 200 < (textL l).length then ([], 3) else (textL l, 0)) else ([], 2)
theorem textF_full {l : List Tk} (h : 40 < l.length) : textF l = ([], 8) := by unfold textF; rw [if_pos h]
theorem textF_arg {l : List Tk} (h : ¬ 40 < l.length) {x : Tk} (hx : x ∈ l) (hm : ¬ mayF x) : textF l = ([], 2) := by unfold textF; rw [if_neg h, if_neg (fun g => hm (g x hx))]
theorem textF_long {l : List Tk} (h : ¬ 40 < l.length) (hm : ∀ x ∈ l, mayF x) (hl : 200 < (textL l).length) : textF l = ([], 3) := by unfold textF; rw [if_neg h, if_pos hm, if_pos hl]
theorem textF_fine {l : List Tk} (h : ¬ 40 < l.length) (hm : ∀ x ∈ l, mayF x) (hl : ¬ 200 < (textL l).length) : textF l = (textL l, 0) := by unfold textF; rw [if_neg h, if_pos hm, if_neg hl]
/-- May a blank stand ahead of the i-th token? -/
def pAt (l : List Tk) (i : Nat) : Bool := decide (0 < i ∧ (l.getD (i - 1) (0, [])).1 ≠ 5)
theorem pAt_zero (l : List Tk) : pAt l 0 = false := by unfold pAt; exact decide_eq_false (by omega)
theorem pAt_succ {l : List Tk} {i : Nat} {x : Tk} (h : l[i]? = some x) : pAt l (i + 1) = decide (x.1 ≠ 5) := by
  unfold pAt
  rw [Nat.add_sub_cancel, List.getD_eq_getElem?_getD, h]
  simp
theorem drop_at {l : List Tk} {i : Nat} {x : Tk} (h : l[i]? = some x) : l.drop i = x :: l.drop (i + 1) := by
  obtain ⟨hi, rfl⟩ := List.getElem?_eq_some_iff.1 h
  exact List.drop_eq_getElem_cons hi
theorem jn_step {l : List Tk} {i : Nat} {x : Tk} {acc : List Int} (h : l[i]? = some x) (e : acc ++ jn (pAt l i) (l.drop i) = textL l) :
    (acc ++ (if pAt l i = true ∧ x.1 ≠ 4 then 32 :: x.2 else x.2)) ++ jn (pAt l (i + 1)) (l.drop (i + 1)) = textL l := by
  rw [drop_at h, jn] at e
  rw [pAt_succ h, List.append_assoc]
  exact e
theorem jn_len (l : List Tk) : ∀ p, (jn p l).length ≤ (l.map fun x => x.2.length + 1).sum := by
  induction l with
  | nil => intro p; simp [jn]
  | cons x r ih =>
    intro p
    have := ih (decide (x.1 ≠ 5))
    rw [jn, List.length_append, List.map_cons, List.sum_cons]
    split <;> simp at * <;> omega
theorem may_len {x : Tk} (h : mayF x) : x.2.length ≤ 200 := by
  rcases Nat.lt_or_ge 200 x.2.length with g | g
  · unfold mayF at h
    rw [tokF_long g] at h
    exact absurd h (by simp)
  · exact g
theorem sum_le {l : List Tk} (h : ∀ x ∈ l, x.2.length ≤ 200) : (l.map fun x => x.2.length + 1).sum ≤ 201 * l.length := by
  induction l with
  | nil => simp
  | cons x r ih =>
    have h1 := h x (by simp)
    have h2 := ih fun y hy => h y (by simp [hy])
    rw [List.map_cons, List.sum_cons, List.length_cons]
    omega
end Go.Proofs.YtkdgomalhngagaaDoor.Tok
