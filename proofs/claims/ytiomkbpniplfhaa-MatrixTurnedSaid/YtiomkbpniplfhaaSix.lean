/- Slices of structs of six numbers, as lists. -/
import Derived.Test.YtiomkbpniplfhaaMem2
import Derived.IntWalk
namespace Go.Proofs.Ytiomkbpniplfhaa
open Go.RowKit

/-- A struct of six numbers. -/
def S6 : Type := Int × Int × Int × Int × Int × Int
instance : DecidableEq S6 := inferInstanceAs (DecidableEq (Int × Int × Int × Int × Int × Int))
def S6.mk (a b c d e f : Int) : S6 := (a, b, c, d, e, f)
def S6.a (x : S6) : Int := Prod.fst (show Int × Int × Int × Int × Int × Int from x)
def S6.b (x : S6) : Int := (Prod.snd (show Int × Int × Int × Int × Int × Int from x)).1
def S6.c (x : S6) : Int := (Prod.snd (show Int × Int × Int × Int × Int × Int from x)).2.1
def S6.d (x : S6) : Int := (Prod.snd (show Int × Int × Int × Int × Int × Int from x)).2.2.1
def S6.e (x : S6) : Int := (Prod.snd (show Int × Int × Int × Int × Int × Int from x)).2.2.2.1
def S6.f (x : S6) : Int := (Prod.snd (show Int × Int × Int × Int × Int × Int from x)).2.2.2.2
def S6.zero : S6 := S6.mk 0 0 0 0 0 0
theorem S6.ext {x y : S6} (h1 : x.a = y.a) (h2 : x.b = y.b) (h3 : x.c = y.c) (h4 : x.d = y.d) (h5 : x.e = y.e) (h6 : x.f = y.f) : x = y := by
  obtain ⟨x1, x2, x3, x4, x5, x6⟩ := x
  obtain ⟨y1, y2, y3, y4, y5, y6⟩ := y
  simp only [S6.a, S6.b, S6.c, S6.d, S6.e, S6.f] at h1 h2 h3 h4 h5 h6
  subst h1; subst h2; subst h3; subst h4; subst h5; subst h6; rfl
/-- Its cells. -/
def S6.cs (x : S6) : List Value := [.int .i64 x.a, .int .i64 x.b, .int .i64 x.c, .int .i64 x.d, .int .i64 x.e, .int .i64 x.f]
def S6.agg (x : S6) : Value := .agg #[.int .i64 x.a, .int .i64 x.b, .int .i64 x.c, .int .i64 x.d, .int .i64 x.e, .int .i64 x.f]
def S6.In (x : S6) : Prop := (-9223372036854775808 ≤ x.a ∧ x.a ≤ 9223372036854775807) ∧ (-9223372036854775808 ≤ x.b ∧ x.b ≤ 9223372036854775807) ∧ (-9223372036854775808 ≤ x.c ∧ x.c ≤ 9223372036854775807) ∧ (-9223372036854775808 ≤ x.d ∧ x.d ≤ 9223372036854775807) ∧ (-9223372036854775808 ≤ x.e ∧ x.e ≤ 9223372036854775807) ∧ (-9223372036854775808 ≤ x.f ∧ x.f ≤ 9223372036854775807)
/-- A list as cells. -/
def RC (l : List S6) : List Value := l.flatMap S6.cs
def Fit6 (l : List S6) : Prop := ∀ x ∈ l, x.In
theorem rc_len (l : List S6) : (RC l).length = l.length * 6 := by
  unfold RC
  induction l with
  | nil => rfl
  | cons x t ih => rw [List.flatMap_cons, List.length_append, ih]; simp [S6.cs]; omega
theorem rc_get {l : List S6} {i : Nat} {x : S6} (h : l[i]? = some x) {k : Nat} (hk : k < 6) : (RC l)[i * 6 + k]? = x.cs[k]? := by
  unfold RC
  induction l generalizing i with
  | nil => simp at h
  | cons y t ih =>
    rcases i with _ | i
    · simp at h; subst h
      rw [List.flatMap_cons, List.getElem?_append_left (by simp [S6.cs]; omega)]; simp
    · have := ih (i := i) (by simpa using h)
      rw [List.flatMap_cons, show (i + 1) * 6 + k = 6 + (i * 6 + k) by omega, List.getElem?_append_right (by simp [S6.cs])]
      rw [← this]; congr 1; simp [S6.cs]
theorem rc_cons (x : S6) (l : List S6) : RC (x :: l) = x.cs ++ RC l := rfl
theorem rc_append (a b : List S6) : RC (a ++ b) = RC a ++ RC b := by simp [RC]
theorem rc_one (l : List S6) : ∀ u ∈ RC l, u.oneCell' = true := by
  intro u hu
  simp only [RC, List.mem_flatMap] at hu
  obtain ⟨x, _, hx⟩ := hu
  simp [S6.cs] at hx
  rcases hx with rfl | rfl | rfl | rfl | rfl | rfl <;> rfl
theorem rc_take (l : List S6) (k : Nat) : (RC l).take (k * 6) = RC (l.take k) := by
  induction l generalizing k with
  | nil => simp [RC]
  | cons y t ih =>
    rcases k with _ | k
    · simp [RC]
    · rw [show (k + 1) * 6 = k * 6 + 6 by omega, List.take_succ_cons, rc_cons, rc_cons, ← ih k]
      rfl
theorem rc_drop (l : List S6) (k : Nat) : (RC l).drop (k * 6) = RC (l.drop k) := by
  induction l generalizing k with
  | nil => simp [RC]
  | cons y t ih =>
    rcases k with _ | k
    · simp [RC]
    · rw [show (k + 1) * 6 = k * 6 + 6 by omega, List.drop_succ_cons, rc_cons, ← ih k]
      rfl
theorem rc_set (l : List S6) (k : Nat) (x : S6) (junk : List Value) (hk : k < l.length) : ((((((RC l ++ junk).set (k * 6) (.int .i64 x.a)).set (k * 6 + 1) (.int .i64 x.b)).set (k * 6 + 2) (.int .i64 x.c)).set (k * 6 + 3) (.int .i64 x.d)).set (k * 6 + 4) (.int .i64 x.e)).set (k * 6 + 5) (.int .i64 x.f) = RC (l.set k x) ++ junk := by
  induction l generalizing k with
  | nil => simp at hk
  | cons y t ih =>
    rcases k with _ | k
    · rfl
    · have := ih k (by simpa using hk)
      rw [show (k + 1) * 6 = k * 6 + 6 by omega, show k * 6 + 6 + 1 = k * 6 + 1 + 6 by omega, show k * 6 + 6 + 2 = k * 6 + 2 + 6 by omega, show k * 6 + 6 + 3 = k * 6 + 3 + 6 by omega, show k * 6 + 6 + 4 = k * 6 + 4 + 6 by omega, show k * 6 + 6 + 5 = k * 6 + 5 + 6 by omega]
      simp only [rc_cons, S6.cs, List.cons_append, List.nil_append, List.set_cons_succ]
      rw [this]
/-- The cells of an element of a list that is shown. -/
def Cells6 (w : World) (b o : Nat) (x : S6) : Prop :=
  w.cell? ⟨b, o, none⟩ = some (.int .i64 x.a) ∧ w.cell? ⟨b, o + 1, none⟩ = some (.int .i64 x.b) ∧ w.cell? ⟨b, o + 2, none⟩ = some (.int .i64 x.c) ∧ w.cell? ⟨b, o + 3, none⟩ = some (.int .i64 x.d) ∧ w.cell? ⟨b, o + 4, none⟩ = some (.int .i64 x.e) ∧ w.cell? ⟨b, o + 5, none⟩ = some (.int .i64 x.f)
theorem Cells6.keep {w w' : World} {b o : Nat} {x : S6} (h : Cells6 w b o x) (hk : ∀ i, w'.cell? ⟨b, i, none⟩ = w.cell? ⟨b, i, none⟩) : Cells6 w' b o x := by
  unfold Cells6 at *
  simp only [hk]
  exact h
theorem Shows.six {w : World} {B n : Nat} {A : Option Addr} {l : List S6} (h : Shows w B 6 A n (RC l)) {i : Nat} {x : S6} (hx : l[i]? = some x) :
    ∃ b off, A = some ⟨b, off, none⟩ ∧ b < B ∧ Cells6 w b (off + i * 6) x := by
  have hi := (List.getElem?_eq_some_iff.1 hx).1
  have hl := h.1
  rw [rc_len] at hl
  obtain ⟨b, off, e, hb, hc⟩ := h.at_ (by omega)
  refine ⟨b, off, e, hb, ?_⟩
  have g : ∀ k, k < 6 → w.cell? ⟨b, off + i * 6 + k, none⟩ = x.cs[k]? := by
    intro k hk
    rw [Nat.add_assoc, hc _ (by rw [rc_len]; omega), List.getD, rc_get hx hk]
    rw [show x.cs[k]? = some (x.cs[k]'(by simp [S6.cs]; omega)) from List.getElem?_eq_getElem _]; rfl
  exact ⟨g 0 (by omega), g 1 (by omega), g 2 (by omega), g 3 (by omega), g 4 (by omega), g 5 (by omega)⟩
theorem Shows.num6 {w : World} {B n : Nat} {A : Option Addr} {l : List S6} (h : Shows w B 6 A n (RC l)) : l.length = n := by
  have := h.1; rw [rc_len] at this; omega
/-- The cells of an element behind calls that leave old memory alone. -/
theorem Cells6.below {w w' : World} {b o B : Nat} {x : S6} (h : Cells6 w b o x) (hb : Below B w w') (hlt : b < B) : Cells6 w' b o x := h.keep fun i => hb.cell (p := ⟨b, i, none⟩) hlt
theorem Cells6.call {w w' : World} {b o : Nat} {x : S6} (h : Cells6 w b o x) (hb : Below w.heap.size w w') : Cells6 w' b o x := h.below hb (by
  have h1 := h.1
  rcases Nat.lt_or_ge b w.heap.size with hlt | hge
  · exact hlt
  · unfold World.cell? at h1
    simp only [Array.getElem?_eq_none hge] at h1
    cases h1)
theorem Cells6.alloc {w : World} {b o : Nat} {x : S6} (h : Cells6 w b o x) (ob : Obj) : Cells6 (w.alloc ob) b o x := h.call (bel_alloc (Below.refl _ _) ob)
/-- A block of one struct. -/
theorem Block.six {w : World} {g : Nat} {t : TypeId} {x : S6} (h : Block w g t x.cs) : Cells6 w g 0 x :=
  ⟨h.cell 0, h.cell 1, h.cell 2, h.cell 3, h.cell 4, h.cell 5⟩
/-- What a call hands back: a struct of six numbers and a truth. -/
def Hands (x : S6) (b : Bool) (w : World) (e : Ending) (w' : World) : Prop := e = .returned (.tuple #[x.agg, .bool b]) ∧ Below w.heap.size w w'
end Go.Proofs.Ytiomkbpniplfhaa
