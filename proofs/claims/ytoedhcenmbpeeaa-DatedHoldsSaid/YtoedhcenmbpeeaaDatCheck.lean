/- The walks of 'dated.valid', 'Check', of the document's 'Day', 'Check'. -/
import Derived.Test.YtoedhcenmbpeeaaDatPlain
import Derived.Test.YtoedhcenmbpeeaaMem2
import Derived.IntWalk
namespace Go.Proofs.Ytoedhcenmbpeeaa
open Go.RowKit

/-- Values as cells. -/
def DC (l : List (Int × Int)) : List Value := l.flatMap fun x => [.int .i64 x.1, .int .i64 x.2]
theorem dc_len (l : List (Int × Int)) : (DC l).length = l.length * 2 := by
  unfold DC
  induction l with
  | nil => rfl
  | cons x t ih => rw [List.flatMap_cons, List.length_append, ih]; simp; omega
theorem dc_get {l : List (Int × Int)} {i : Nat} {x : Int × Int} (h : l[i]? = some x) : (DC l)[i * 2]? = some (.int .i64 x.1) ∧ (DC l)[i * 2 + 1]? = some (.int .i64 x.2) := by
  unfold DC
  induction l generalizing i with
  | nil => simp at h
  | cons y t ih =>
    rcases i with _ | i
    · simp at h; subst h; simp
    · have := ih (i := i) (by simpa using h)
      rw [List.flatMap_cons, show (i + 1) * 2 = i * 2 + 2 by omega]
      exact this
theorem dc_cons (x : Int × Int) (l : List (Int × Int)) : DC (x :: l) = [.int .i64 x.1, .int .i64 x.2] ++ DC l := rfl
theorem dc_append (a b : List (Int × Int)) : DC (a ++ b) = DC a ++ DC b := by simp [DC]
/-- The cells of a value of a list that is shown. -/
theorem Shows.two {w : World} {B n : Nat} {A : Option Addr} {l : List (Int × Int)} (h : Shows w B 2 A n (DC l)) {i : Nat} {x : Int × Int} (hx : l[i]? = some x) :
    ∃ b off, A = some ⟨b, off, none⟩ ∧ b < B ∧ w.cell? ⟨b, off + i * 2, none⟩ = some (.int .i64 x.1) ∧ w.cell? ⟨b, off + i * 2 + 1, none⟩ = some (.int .i64 x.2) := by
  have hi := (List.getElem?_eq_some_iff.1 hx).1
  have hl := h.1
  rw [dc_len] at hl
  obtain ⟨b, off, e, hb, hc⟩ := h.at_ (by omega)
  obtain ⟨g1, g2⟩ := dc_get hx
  refine ⟨b, off, e, hb, ?_, ?_⟩
  · rw [hc _ (by rw [dc_len]; omega), List.getD, g1]; rfl
  · rw [Nat.add_assoc, hc _ (by rw [dc_len]; omega), List.getD, g2]; rfl
theorem Shows.num {w : World} {B n : Nat} {A : Option Addr} {l : List (Int × Int)} (h : Shows w B 2 A n (DC l)) : l.length = n := by
  have := h.1; rw [dc_len] at this; omega
set_option maxRecDepth 100000 in
set_option maxHeartbeats 1000000 in
theorem valid_any (n : Int) (w : World) : Calls Try.prog 27 #[.int .i64 n] w fun e w' => e = .returned (.bool (decide (0 ≤ n ∧ n ≤ 3652058))) ∧ w = w' := by
  rcases (by omega : n < 0 ∨ (¬ n < 0 ∧ 3652058 < n) ∨ (¬ n < 0 ∧ ¬ 3652058 < n)) with h | ⟨h1, h2⟩ | ⟨h1, h2⟩
  · rw [decide_eq_false (by omega)]
    go_enter Try.func27, Try.ntmps27
    go_wp2
    go_ret
    exact ⟨rfl, rfl⟩
  · rw [decide_eq_false (by omega)]
    go_enter Try.func27, Try.ntmps27
    go_wp2
    go_ret
    exact ⟨by first | rfl | (simp; omega), rfl⟩
  · rw [decide_eq_true (by omega)]
    go_enter Try.func27, Try.ntmps27
    go_wp2
    go_ret
    exact ⟨by first | rfl | (simp; omega), rfl⟩
set_option maxRecDepth 100000 in
set_option maxHeartbeats 1000000 in
theorem refDay_any (n : Int) (w : World) : Calls Try.prog 32 #[.int .i64 n] w fun e w' => e = .returned (.bool (decide (0 ≤ n ∧ n ≤ 3652058))) ∧ w = w' := by
  rcases (by omega : n < 0 ∨ (¬ n < 0 ∧ 3652058 < n) ∨ (¬ n < 0 ∧ ¬ 3652058 < n)) with h | ⟨h1, h2⟩ | ⟨h1, h2⟩
  · rw [decide_eq_false (by omega)]
    go_enter Try.func32, Try.ntmps32
    go_wp2
    go_ret
    exact ⟨rfl, rfl⟩
  · rw [decide_eq_false (by omega)]
    go_enter Try.func32, Try.ntmps32
    go_wp2
    go_ret
    exact ⟨by first | rfl | (simp; omega), rfl⟩
  · rw [decide_eq_true (by omega)]
    go_enter Try.func32, Try.ntmps32
    go_wp2
    go_ret
    exact ⟨by first | rfl | (simp; omega), rfl⟩
set_option maxRecDepth 100000 in
set_option maxHeartbeats 4000000 in
theorem check_any (A : Option Addr) (n c : Nat) (l : List (Int × Int)) (B : Nat) (w : World) (ha : Shows w B 2 A n (DC l)) (hB : B ≤ w.heap.size) (hn : n ≤ maxLen)
    (hx : ∀ x ∈ l, -9223372036854775808 ≤ x.1 ∧ x.1 ≤ 9223372036854775807) :
    Calls Try.prog 10 #[.slice A n c] w fun e w' => e = .returned (.int .i64 (Dat.chk l)) ∧ Below w.heap.size w w' := by
  have hl := ha.num
  unfold maxLen at hn
  by_cases h2 : 200 < n
  · rw [show Dat.chk l = 3 by unfold Dat.chk; rw [if_pos (by omega)]]
    go_enter Try.func10, Try.ntmps10
    go_wp2_with fail
    go_ret
    exact ⟨rfl, Below.refl _ _⟩
  · rw [show Dat.chk l = Dat.chkFrom (-1) l by unfold Dat.chk; rw [if_neg (by omega)]]
    have Hl := Lib.hid hl
    have Hx := Lib.hid hx
    clear hl hx
    go_enter Try.func10, Try.ntmps10
    go_wp2_with fail
    go_loopw [10] (fun i wr => ∃ j : Nat, j ≤ n ∧ i = .int .i64 j ∧ Dat.chkFrom (-1) l = Dat.chkFrom (Dat.prev l j) (l.drop j) ∧ Below w.heap.size w wr) (fun i _ => n - (intOf i).toNat)
    case atStart => exact ⟨0, by omega, rfl, rfl, Below.refl _ _⟩
    case round =>
      obtain ⟨j, hj, rfl, hres, hbel⟩ := hrel
      have Hres := Lib.hid hres
      clear hres
      by_cases hlt : j < n
      · obtain ⟨x, hxe⟩ : ∃ x, l[j]? = some x := ⟨l[j]'(by rw [Hl.out]; exact hlt), List.getElem?_eq_getElem _⟩
        obtain ⟨b, off, rfl, hb, g1, g2⟩ := ha.two hxe
        have c1 := (hbel.cell (p := ⟨b, off + j * 2, none⟩) (show b < w.heap.size by omega)).trans g1
        have c2 := (hbel.cell (p := ⟨b, off + j * 2 + 1, none⟩) (show b < w.heap.size by omega)).trans g2
        have hbel2 := bel_alloc hbel (.cells #[.int .i64 x.1, .int .i64 x.2] 31)
        by_cases hv : Dat.Valid x.1
        · have hq := fun w => valid_any x.1 w
          rw [decide_eq_true (show 0 ≤ x.1 ∧ x.1 ≤ 3652058 from hv)] at hq
          by_cases h0 : j = 0
          · subst h0
            simp only [Nat.zero_mul, Nat.add_zero] at c1 c2
            have hr := Lib.hid (Hres.out.trans (Dat.chk_step_ok hxe hv (by unfold Dat.prev Dat.Valid at *; simp; omega)))
            go_wp2_with fail
            refine (hq _).mono ?_
            rintro e w1 ⟨rfl, rfl⟩
            go_wp2_with fail
            go_quiet (fail)
            go_wp2_with fail
            go_roundw
            case rel => exact ⟨1, by omega, rfl, hr.out, bel_drewN hbel2 _⟩
            case measure => simp [intOf]; omega
          · obtain ⟨i, rfl⟩ : ∃ i, j = i + 1 := ⟨j - 1, by omega⟩
            obtain ⟨y, hye⟩ : ∃ y, l[i]? = some y := ⟨l[i]'(by rw [Hl.out]; omega), List.getElem?_eq_getElem _⟩
            obtain ⟨b', off', hA, hb', g3, g4⟩ := ha.two hye
            injection hA with hA
            injection hA with hA1 hA2
            subst hA1; subst hA2
            have c3 := (hbel.cell (p := ⟨b, off + i * 2, none⟩) (show b < w.heap.size by omega)).trans g3
            have zb : b < wr.heap.size := by have := hbel.size; omega
            have c3 := (World.cell?_alloc_lt wr (.cells #[.int .i64 x.1, .int .i64 x.2] 31) ⟨b, off + i * 2, none⟩ zb).trans c3
            have hp := Dat.prev_succ hye
            have Hx1 := Hx.out y (List.mem_of_getElem? hye)
            have q1 : IntKind.i64.wrap ((i : Int) + 1 - 1) = (i : Int) := by rw [IntWalk.i64_in _ (by omega)]; omega
            have q2 : IntKind.i64.wrap (i : Int) = (i : Int) := IntWalk.i64_in _ (by omega)
            have q3 : (0 : Int) ≤ (i : Int) := by omega
            have q5 : decide ((0 : Int) < (i : Int) + 1) = true := decide_eq_true (by omega)
            have q6 : (0 : Int) < (i : Int) + 1 := by omega
            have q4 : (i : Int) < (n : Int) := by omega
            by_cases hle : x.1 ≤ y.1
            · have hr := Lib.hid (Hres.out.trans (Dat.chk_step_arg hxe hv (by rw [hp]; exact hle)))
              clear hp
              go_wp2_with fail
              refine (hq _).mono ?_
              rintro e w1 ⟨rfl, rfl⟩
              go_wp2_with fail
              go_quiet (fail)
              go_wp2_with fail
              go_ret
              exact ⟨by rw [hr.out]; rfl, bel_drewN hbel2 _⟩
            · have hr := Lib.hid (Hres.out.trans (Dat.chk_step_ok hxe hv (by rw [hp]; exact hle)))
              clear hp
              go_wp2_with fail
              refine (hq _).mono ?_
              rintro e w1 ⟨rfl, rfl⟩
              go_wp2_with fail
              go_quiet (fail)
              go_wp2_with fail
              go_roundw
              case rel => exact ⟨i + 1 + 1, by omega, by go_num, hr.out, bel_drewN hbel2 _⟩
              case measure => simp [intOf]; omega
        · have hq := fun w => valid_any x.1 w
          rw [decide_eq_false (show ¬ (0 ≤ x.1 ∧ x.1 ≤ 3652058) from hv)] at hq
          have hr := Lib.hid (Hres.out.trans (Dat.chk_step_bad hxe hv))
          go_wp2_with fail
          refine (hq _).mono ?_
          rintro e w1 ⟨rfl, rfl⟩
          go_wp2_with fail
          go_ret
          exact ⟨by rw [hr.out]; rfl, hbel2⟩
      · obtain rfl : j = n := by omega
        have hr := Lib.hid (Hres.out.trans (by rw [List.drop_of_length_le (by rw [Hl.out]; exact Nat.le_refl _)]; rfl : _ = (0 : Int)))
        go_wp2_with fail
        go_ret
        exact ⟨by rw [hr.out]; rfl, hbel⟩
end Go.Proofs.Ytoedhcenmbpeeaa
