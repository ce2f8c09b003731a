/- The walks of the document's 'Check', of 'dated.behind', 'At', of the document's 'At', of 'apportionkit.SameDated'. -/
import Derived.Test.YtoedhcenmbpeeaaDatCheck
namespace Go.Proofs.Ytoedhcenmbpeeaa
open Go.RowKit

set_option maxRecDepth 100000 in
set_option maxHeartbeats 4000000 in
theorem refCheck_any (A : Option Addr) (n c : Nat) (l : List (Int × Int)) (B : Nat) (w : World) (ha : Shows w B 2 A n (DC l)) (hB : B ≤ w.heap.size) (hn : n ≤ maxLen)
    (hx : ∀ x ∈ l, -9223372036854775808 ≤ x.1 ∧ x.1 ≤ 9223372036854775807) :
    Calls Try.prog 17 #[.slice A n c] w fun e w' => e = .returned (.int .i64 (Dat.chk l)) ∧ Below w.heap.size w w' := by
  have hl := ha.num
  unfold maxLen at hn
  by_cases h2 : 200 < n
  · rw [show Dat.chk l = 3 by unfold Dat.chk; rw [if_pos (by omega)]]
    go_enter Try.func17, Try.ntmps17
    go_wp2_with fail
    go_ret
    exact ⟨rfl, Below.refl _ _⟩
  · rw [show Dat.chk l = Dat.chkFrom (-1) l by unfold Dat.chk; rw [if_neg (by omega)]]
    have Hl := Lib.hid hl
    have Hx := Lib.hid hx
    clear hl hx
    go_enter Try.func17, Try.ntmps17
    go_wp2_with fail
    go_loopw [3] (fun i wr => ∃ j : Nat, j ≤ n ∧ i = .int .i64 j ∧ Dat.chkFrom (-1) l = Dat.chkFrom (Dat.prev l j) (l.drop j) ∧ Below w.heap.size w wr) (fun i _ => n - (intOf i).toNat)
    case atStart => exact ⟨0, by omega, rfl, rfl, Below.refl _ _⟩
    case round =>
      obtain ⟨j, hj, rfl, hres, hbel⟩ := hrel
      have Hres := Lib.hid hres
      clear hres
      by_cases hlt : j < n
      · obtain ⟨x, hxe⟩ : ∃ x, l[j]? = some x := ⟨l[j]'(by rw [Hl.out]; exact hlt), List.getElem?_eq_getElem _⟩
        obtain ⟨b, off, rfl, hb, g1, g2⟩ := ha.two hxe
        have c1 := (hbel.cell (p := ⟨b, off + j * 2, none⟩) (show b < w.heap.size by omega)).trans g1
        have c2 := (hbel.cell (p := ⟨b, off + j * 2 + 1, none⟩) (show b < w.heap.size by omega)).trans g2
        have hbel2 := hbel
        by_cases hv : Dat.Valid x.1
        · have hq := fun w => refDay_any x.1 w
          rw [decide_eq_true (show 0 ≤ x.1 ∧ x.1 ≤ 3652058 from hv)] at hq
          by_cases h0 : j = 0
          · subst h0
            simp only [Nat.zero_mul, Nat.add_zero] at c1 c2
            have hr := Lib.hid (Hres.out.trans (Dat.chk_step_ok hxe hv (by unfold Dat.prev Dat.Valid at *; simp; omega)))
            go_wp2_with fail
            refine (hq _).mono ?_
            rintro e w1 ⟨rfl, rfl⟩
            go_wp2_with fail
            go_quiet (fail)
            go_wp2_with fail
            go_roundw
            case rel => exact ⟨1, by omega, rfl, hr.out, bel_drewN hbel2 _⟩
            case measure => simp [intOf]; omega
          · obtain ⟨i, rfl⟩ : ∃ i, j = i + 1 := ⟨j - 1, by omega⟩
            obtain ⟨y, hye⟩ : ∃ y, l[i]? = some y := ⟨l[i]'(by rw [Hl.out]; omega), List.getElem?_eq_getElem _⟩
            obtain ⟨b', off', hA, hb', g3, g4⟩ := ha.two hye
            injection hA with hA
            injection hA with hA1 hA2
            subst hA1; subst hA2
            have c3 := (hbel.cell (p := ⟨b, off + i * 2, none⟩) (show b < w.heap.size by omega)).trans g3
            have hp := Dat.prev_succ hye
            have Hx1 := Hx.out y (List.mem_of_getElem? hye)
            have q1 : IntKind.i64.wrap ((i : Int) + 1 - 1) = (i : Int) := by rw [IntWalk.i64_in _ (by omega)]; omega
            have q2 : IntKind.i64.wrap (i : Int) = (i : Int) := IntWalk.i64_in _ (by omega)
            have q3 : (0 : Int) ≤ (i : Int) := by omega
            have q5 : decide ((0 : Int) < (i : Int) + 1) = true := decide_eq_true (by omega)
            have q6 : (0 : Int) < (i : Int) + 1 := by omega
            have q4 : (i : Int) < (n : Int) := by omega
            have q7 : (i : Int) + 1 < (n : Int) := by omega
            have q8 : (0 : Int) ≤ (i : Int) + 1 := by omega
            by_cases hle : x.1 ≤ y.1
            · have hr := Lib.hid (Hres.out.trans (Dat.chk_step_arg hxe hv (by rw [hp]; exact hle)))
              clear hp
              go_wp2_with fail
              refine (hq _).mono ?_
              rintro e w1 ⟨rfl, rfl⟩
              go_wp2_with fail
              go_quiet (fail)
              go_wp2_with fail
              go_ret
              exact ⟨by rw [hr.out]; rfl, bel_drewN hbel2 _⟩
            · have hr := Lib.hid (Hres.out.trans (Dat.chk_step_ok hxe hv (by rw [hp]; exact hle)))
              clear hp
              go_wp2_with fail
              refine (hq _).mono ?_
              rintro e w1 ⟨rfl, rfl⟩
              go_wp2_with fail
              go_quiet (fail)
              go_wp2_with fail
              go_roundw
              case rel => exact ⟨i + 1 + 1, by omega, by go_num, hr.out, bel_drewN hbel2 _⟩
              case measure => simp [intOf]; omega
        · have hq := fun w => refDay_any x.1 w
          rw [decide_eq_false (show ¬ (0 ≤ x.1 ∧ x.1 ≤ 3652058) from hv)] at hq
          have hr := Lib.hid (Hres.out.trans (Dat.chk_step_bad hxe hv))
          go_wp2_with fail
          refine (hq _).mono ?_
          rintro e w1 ⟨rfl, rfl⟩
          go_wp2_with fail
          go_ret
          exact ⟨by rw [hr.out]; rfl, hbel2⟩
      · obtain rfl : j = n := by omega
        have hr := Lib.hid (Hres.out.trans (by rw [List.drop_of_length_le (by rw [Hl.out]; exact Nat.le_refl _)]; rfl : _ = (0 : Int)))
        go_wp2_with fail
        go_ret
        exact ⟨by rw [hr.out]; rfl, hbel⟩
set_option maxRecDepth 100000 in
set_option maxHeartbeats 2000000 in
/-- The closure: is a value's day behind? -/
theorem behind1_any (A : Option Addr) (n c : Nat) (l : List (Int × Int)) (day : Int) (i gl gd B : Nat) (x : Int × Int) (w : World) (ha : Shows w B 2 A n (DC l)) (h1 : w.cell? ⟨gl, 0, none⟩ = some (.slice A n c)) (h2 : w.cell? ⟨gd, 0, none⟩ = some (.int .i64 day)) (hx : l[i]? = some x) :
    Calls Try.prog 36 #[.int .i64 i, .pointer (some ⟨gl, 0, none⟩), .pointer (some ⟨gd, 0, none⟩)] w fun e w' => e = .returned (.bool (decide (day < x.1))) ∧ ∃ m, w' = w.drewN m := by
  obtain ⟨b, off, rfl, hb, g1, g2⟩ := ha.two hx
  have hl := ha.num
  have hi := (List.getElem?_eq_some_iff.1 hx).1
  have q1 : (0 : Int) ≤ (i : Int) := by omega
  have q2 : (i : Int) < (n : Int) := by omega
  clear hl hx ha
  go_enter Try.func36, Try.ntmps36
  go_wp2_with fail
  go_quiet (fail)
  go_wp2_with fail
  go_ret
  exact ⟨rfl, _, rfl⟩
set_option maxRecDepth 100000 in
set_option maxHeartbeats 4000000 in
theorem search_any (A : Option Addr) (n c : Nat) (l : List (Int × Int)) (day : Int) (gl gd B : Nat) (w : World) (ha : Shows w B 2 A n (DC l)) (h1 : w.cell? ⟨gl, 0, none⟩ = some (.slice A n c)) (h2 : w.cell? ⟨gd, 0, none⟩ = some (.int .i64 day)) (hok : Dat.Ok l) :
    Calls Try.prog 35 #[.int .i64 n, .func (Fn.func 36) #[] #[.pointer (some ⟨gl, 0, none⟩), .pointer (some ⟨gd, 0, none⟩)]] w fun e w' => e = .returned (.int .i64 (Dat.cnt l day)) ∧ ∃ m, w' = w.drewN m := by
  have hl := ha.num
  have hn := hok.1
  rw [hl] at hn
  have Hl := Lib.hid hl
  clear hl
  go_enter Try.func35, Try.ntmps35
  go_wp2_with fail
  go_loopw [5, 6] (fun i j wr => ∃ (lo hi m : Nat), lo ≤ hi ∧ hi ≤ n ∧ i = .int .i64 lo ∧ j = .int .i64 hi ∧ (∀ t x, l[t]? = some x → t < lo → x.1 ≤ day) ∧ (∀ t x, l[t]? = some x → hi ≤ t → day < x.1) ∧ wr = w.drewN m) (fun i j _ => (intOf j - intOf i).toNat)
  case atStart => exact ⟨0, n, 0, by omega, by omega, rfl, rfl, fun t x _ h => by omega, fun t x h h' => by have := (List.getElem?_eq_some_iff.1 h).1; have := Hl.out; omega, rfl⟩
  case round =>
    obtain ⟨lo, hi, m, hlh, hhn, rfl, rfl, hL, hH, rfl⟩ := hrel
    have HL := Lib.hid hL
    have HH := Lib.hid hH
    clear hL hH
    by_cases hlt : lo < hi
    · obtain ⟨k, hk⟩ : ∃ k, (lo + hi) / 2 = k := ⟨_, rfl⟩
      have k1 : lo ≤ k := by omega
      have k2 : k < hi := by omega
      have ek : ((lo : Int) + (hi : Int)) / 2 = (k : Int) := by omega
      obtain ⟨x, hx⟩ : ∃ x, l[k]? = some x := ⟨l[k]'(by rw [Hl.out]; omega), List.getElem?_eq_getElem _⟩
      have hcall := behind1_any A n c l day k gl gd B x (w.drewN m) (ha.drewN m) h1 h2 hx
      have Hx := Lib.hid hx
      clear hx hk
      by_cases hday : day < x.1
      · rw [decide_eq_true hday] at hcall
        go_wp2_with fail
        refine hcall.mono ?_
        rintro e w1 ⟨rfl, m1, rfl⟩
        go_wp2_with fail
        go_roundw
        case rel => exact ⟨lo, k, m + m1, by omega, by omega, rfl, rfl, HL.out, fun t y hy ht => by
          rcases Nat.lt_or_ge k t with h | h
          · have := Dat.ok_lt hok Hx.out hy h; omega
          · obtain rfl : t = k := by omega
            rw [Hx.out] at hy; injection hy with hy; subst hy; exact hday, by simp⟩
        case measure => simp [intOf]; omega
      · rw [decide_eq_false hday] at hcall
        go_wp2_with fail
        refine hcall.mono ?_
        rintro e w1 ⟨rfl, m1, rfl⟩
        go_wp2_with fail
        go_roundw
        case rel => exact ⟨k + 1, hi, m + m1, by omega, by omega, by go_num, rfl, fun t y hy ht => by
          rcases Nat.lt_or_ge t k with h | h
          · have := Dat.ok_lt hok hy Hx.out h; omega
          · obtain rfl : t = k := by omega
            rw [Hx.out] at hy; injection hy with hy; subst hy; omega, HH.out, by simp⟩
        case measure => simp [intOf]; omega
    · obtain rfl : lo = hi := by omega
      have hc := Lib.hid (Dat.cnt_is (l := l) (day := day) (k := lo) (by rw [Hl.out]; exact hhn) (fun t x h h' => HL.out t x h h') (fun t x h h' => HH.out t x h h'))
      go_wp2_with fail
      go_ret
      exact ⟨by rw [hc.out]; rfl, m, rfl⟩
set_option maxRecDepth 100000 in
set_option maxHeartbeats 2000000 in
theorem behind_any (A : Option Addr) (n c : Nat) (l : List (Int × Int)) (day : Int) (B : Nat) (w : World) (ha : Shows w B 2 A n (DC l)) (hB : B ≤ w.heap.size) (hok : Dat.Ok l) :
    Calls Try.prog 31 #[.slice A n c, .int .i64 day] w fun e w' => e = .returned (.int .i64 (Dat.cnt l day)) ∧ Below w.heap.size w w' := by
  have hs := fun w' gl gd (h : Shows w' B 2 A n (DC l)) h1 h2 => search_any A n c l day gl gd B w' h h1 h2 hok
  go_enter Try.func31, Try.ntmps31
  go_wp2_with fail
  refine (hs _ _ _ ((ha.alloc hB _).alloc (by simp; omega) _) ?_ ?_).mono ?_
  · rw [World.cell?_alloc_lt _ _ _ (by simp), World.cell?_alloc_new]; rfl
  · simp [World.cell?_alloc_new]
  rintro e w1 ⟨rfl, m, rfl⟩
  go_wp2_with fail
  go_ret
  exact ⟨rfl, bel_drewN (bel_alloc (bel_alloc (Below.refl _ _) _) _) m⟩
end Go.Proofs.Ytoedhcenmbpeeaa
