/- The walk of 'apportionkit.Pick'; a part of a slice; numbers that a slice shows. -/
import Derived.Test.YtiomkbpniplfhaaMem2
namespace Go.Proofs.Ytiomkbpniplfhaa
open Go.RowKit

theorem num_at {w : World} {B n : Nat} {A : Option Addr} {xs : List Int} (h : Shows w B 1 A n (I64 xs)) {i : Nat} {u : Int} (hu : xs[i]? = some u) : ∃ b off, A = some ⟨b, off, none⟩ ∧ b < B ∧ w.cell? ⟨b, off + i, none⟩ = some (.int .i64 u) := by
  have hi := (List.getElem?_eq_some_iff.1 hu).1
  have hl := h.len
  simp only [I64, List.length_map] at hl
  obtain ⟨b, off, e, hb, hc⟩ := h.at_ (by omega)
  refine ⟨b, off, e, hb, ?_⟩
  rw [hc i (by simpa [I64] using hi)]
  simp [I64, List.getD, hu]
def Picked (n : Nat) (w : World) (e : Ending) (w' : World) : Prop := ∃ k : Nat, k < n ∧ e = .returned (.int .i64 k) ∧ w = w'
set_option maxRecDepth 100000 in
set_option maxHeartbeats 400000 in
theorem pick_any (x : Int) (n : Nat) (w : World) (h0 : -9223372036854775808 ≤ x) (h1 : x ≤ 9223372036854775807) (hn : 1 ≤ n) (hn2 : n ≤ 1000000) :
    Calls Try.prog 25 #[.int .i64 x, .int .i64 n] w (Picked n w) := by
  have hne : ((n : Int) == 0) = false := by simp; omega
  by_cases hx : 0 ≤ x
  · have hm1 := Int.emod_nonneg x (show (n : Int) ≠ 0 by omega)
    have hm2 := Int.emod_lt_of_pos x (show (0 : Int) < n by omega)
    obtain ⟨k, hk⟩ : ∃ k : Nat, x % n = k := ⟨(x % n).toNat, by omega⟩
    rw [hk] at hm1 hm2
    go_enter Try.func25, Try.ntmps25
    go_wp2
    go_ret
    exact ⟨k, by omega, by show Ending.returned (.int .i64 (x % n)) = _; rw [hk], rfl⟩
  · have hm1 : -(n : Int) < x.tmod n ∧ x.tmod n ≤ 0 := by
      have e : x.tmod n = -((-x).tmod n) := by rw [Int.neg_tmod]; simp
      have e2 : (-x).tmod n = (-x) % n := Int.tmod_eq_emod_of_nonneg (by omega)
      have h3 := Int.emod_nonneg (-x) (show (n : Int) ≠ 0 by omega)
      have h4 := Int.emod_lt_of_pos (-x) (show (0 : Int) < n by omega)
      omega
    obtain ⟨y, hy⟩ : ∃ y : Int, x.tmod n = y := ⟨_, rfl⟩
    rw [hy] at hm1
    obtain ⟨y0, y1⟩ := hm1
    by_cases hz : y < 0
    · obtain ⟨k, hk⟩ : ∃ k : Nat, y + n = k := ⟨(y + n).toNat, by omega⟩
      go_enter Try.func25, Try.ntmps25
      go_wp2
      go_ret
      exact ⟨k, by omega, rfl, rfl⟩
    · obtain rfl : y = 0 := by omega
      go_enter Try.func25, Try.ntmps25
      go_wp2
      go_ret
      exact ⟨0, by omega, rfl, rfl⟩
/-- 'x[l:h]'. -/
theorem cut_mid {P : Program} {T E : TypeId} (size : Nat) (hT : P.underlying T = some (.slice E)) (hS : ∀ w, (sizeOf E).run P w = .ok size w) (A : Option Addr) (n c l k : Nat) (hk : l + k ≤ n) (hc : n ≤ c) :
    ∃ A2, (∀ w, (Instr.slice T (.slice A n c) (some (.int .i64 (l : Int))) (some (.int .i64 ((l : Int) + (k : Int)))) none).run P w = .ok (.slice A2 k (c - l)) w) ∧
      ∀ w B xs, Shows w B size A n xs → Shows w B size A2 k ((xs.drop (l * size)).take (k * size)) := by
  have he : P.elem T = E := by simp [Program.elem, hT]
  obtain ⟨A2, hrun, hsh⟩ := cut_from size hT hS A n c l (by omega) hc
  refine ⟨if c = l then A else A.map (·.add (l * size)), fun w => ?_, fun w B xs h => ?_⟩
  · rw [run_slice_lh w T A n c (by rw [he]; exact hT) .i64 .i64 l ((l : Int) + (k : Int)) (by omega) (by omega) (by omega), he, hS]
    simp [sliced, Result.andThen]
    omega
  · have h1 : Shows w B size (if c = l then A else A.map (·.add (l * size))) (n - l) (xs.drop (l * size)) := by
      refine ⟨by rw [List.length_drop, h.1, Nat.sub_mul], fun hn => ?_⟩
      obtain ⟨b, off, rfl, hb, hcell⟩ := h.2 (by omega)
      rw [if_neg (by omega)]
      refine ⟨b, off + l * size, by simp [Addr.add], hb, fun j hj => ?_⟩
      rw [List.length_drop] at hj
      rw [Nat.add_assoc, hcell _ (by omega)]
      simp [List.getD]
    exact h1.take (by omega)
end Go.Proofs.Ytiomkbpniplfhaa
