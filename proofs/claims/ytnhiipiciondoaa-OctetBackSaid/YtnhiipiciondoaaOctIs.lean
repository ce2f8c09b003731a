/- What 'GetText', 'GetList' answer, by their parts. -/
import Derived.Test.YtnhiipiciondoaaOctGetL2
namespace Go.Proofs.Ytnhiipiciondoaa
open Go.RowKit Go.Lib
theorem text_is {A : Option Addr} {len c : Nat} {xs : List Int} {at_ most : Int} {B : Nat} {w : World} {s : List Int} {q1 q2 q3 : Int} (hr : getT xs at_ most = (s, q1, q2, q3)) (ha : Shows w B 1 A len (U8 xs)) (hB : B ≤ w.heap.size)
    (hlen : len ≤ 70000) (hc : len ≤ c) (hx : ∀ x ∈ xs, 0 ≤ x ∧ x ≤ 255) (a0 : -9223372036854775808 ≤ at_) (a1 : at_ ≤ 9223372036854775807) :
    Calls Try.prog 25 #[.slice A len c, .int .i64 at_, .int .i64 most] w fun e w' =>
      e = .returned (.tuple #[.string (strOfNums s), .int .i64 q1, .agg #[.int .i64 q2, .int .i64 q3]]) ∧ Below w.heap.size w w' :=
  (getText_any A len c xs at_ most B w ha hB hlen hc hx a0 a1).mono fun e w' h => by rw [hr] at h; exact h
theorem list_is {A : Option Addr} {len c : Nat} {xs : List Int} {at_ most : Int} {B : Nat} {w : World} {l : List Int} {q1 q2 q3 : Int} (hr : getLs xs at_ most = (l, q1, q2, q3)) (ha : Shows w B 1 A len (U8 xs)) (hB : B ≤ w.heap.size)
    (hlen : len ≤ 70000) (hc : len ≤ c) (hx : ∀ x ∈ xs, 0 ≤ x ∧ x ≤ 255) (a0 : -9223372036854775808 ≤ at_) (a1 : at_ ≤ 9223372036854775807) :
    Calls Try.prog 27 #[.slice A len c, .int .i64 at_, .int .i64 most] w fun e w' =>
      ∃ A2 c2, e = .returned (.tuple #[.slice A2 l.length c2, .int .i64 q1, .agg #[.int .i64 q2, .int .i64 q3]]) ∧ w'.ownsRow w.heap.size 3 1 (.slice A2 l.length c2) l.length (I64 l) ∧ Below w.heap.size w w' :=
  (getList_any A len c xs at_ most B w ha hB hlen hc hx a0 a1).mono fun e w' h => by rw [hr] at h; exact h
theorem parts {α : Type} (r : α × Int × Int × Int) (q : Int) (h : r.2.2.1 = q) : ∃ a q1 q3, r = (a, q1, q, q3) := by
  obtain ⟨a, q1, q2, q3⟩ := r
  exact ⟨a, q1, q3, by rw [show q2 = q from h]⟩
end Go.Proofs.Ytnhiipiciondoaa
