/- The walks of 'dated.At', of the document's 'At', of 'apportionkit.SameDated', 'CopyDated', of 'slices.Clone'. -/
import Derived.Test.YtoedhcenmbpeeaaDatAt
namespace Go.Proofs.Ytoedhcenmbpeeaa
open Go.RowKit

theorem infoD : (Try.prog.info? 31).map (fun i => (i.zero, i.size, i.bytes)) = some (some (.agg #[.int .i64 0, .int .i64 0]), 2, 16) := by kernel_rfl
theorem size_dated (w : World) : (sizeOf 31).run Try.prog w = .ok 2 w := by kernel_rfl
theorem dc_one (l : List (Int × Int)) : ∀ u ∈ DC l, u.oneCell' = true := by
  intro u hu
  simp only [DC, List.mem_flatMap] at hu
  obtain ⟨x, _, hx⟩ := hu
  simp at hx
  rcases hx with rfl | rfl <;> rfl
/-- The days fit their kind. -/
def Fits (l : List (Int × Int)) : Prop := ∀ x ∈ l, -9223372036854775808 ≤ x.1 ∧ x.1 ≤ 9223372036854775807
set_option maxRecDepth 100000 in
set_option maxHeartbeats 4000000 in
theorem at_any (A : Option Addr) (n c : Nat) (l : List (Int × Int)) (day : Int) (B : Nat) (w : World) (ha : Shows w B 2 A n (DC l)) (hB : B ≤ w.heap.size) (hn : n ≤ maxLen) (hx : Fits l) :
    Calls Try.prog 12 #[.slice A n c, .int .i64 day] w fun e w' => e = .returned (.tuple #[.int .i64 (Dat.atF l day).1, .bool (Dat.atF l day).2]) ∧ Below w.heap.size w w' := by
  have hc := fun (w' : World) (h : Shows w' B 2 A n (DC l)) (h' : B ≤ w'.heap.size) => check_any A n c l B w' h h' hn hx
  have hl := ha.num
  by_cases h0 : Dat.chk l = 0
  · have hok := (Dat.chk_ok l).1 h0
    have hv := fun w => valid_any day w
    rw [h0] at hc
    by_cases hd : Dat.Valid day
    · rw [decide_eq_true (show 0 ≤ day ∧ day ≤ 3652058 from hd)] at hv
      have hb := fun (w' : World) (h : Shows w' B 2 A n (DC l)) (h' : B ≤ w'.heap.size) => behind_any A n c l day B w' h h' hok
      have hnot : ¬ (Dat.chk l ≠ 0 ∨ ¬ Dat.Valid day) := by simp [h0, hd]
      have hcl := Dat.cnt_le l day
      have hat : Dat.atF l day = if Dat.cnt l day = 0 then (0, false) else ((l.getD (Dat.cnt l day - 1) (0, 0)).2, true) := by unfold Dat.atF; rw [if_neg hnot]
      rw [hat]
      obtain ⟨k, hk⟩ : ∃ k, Dat.cnt l day = k := ⟨_, rfl⟩
      rw [hk] at hb hcl ⊢
      clear hk hat hnot h0
      rcases k with _ | i
      · go_enter Try.func12, Try.ntmps12
        go_wp2_with fail
        refine (hc _ ha hB).mono ?_
        rintro e w1 ⟨rfl, hb1⟩
        go_wp2_with fail
        refine (hv _).mono ?_
        rintro e w2 ⟨rfl, rfl⟩
        go_wp2_with fail
        refine (hb _ (ha.call hb1 hB) (Nat.le_trans hB hb1.size)).mono ?_
        rintro e w3 ⟨rfl, hb3⟩
        go_wp2_with fail
        go_ret2
        exact ⟨rfl, bel_call hb1 hb3⟩
      · obtain ⟨x, hxe⟩ : ∃ x, l[i]? = some x := ⟨l[i]'(by omega), List.getElem?_eq_getElem _⟩
        have hgx : (l.getD (i + 1 - 1) (0, 0)).2 = x.2 := by rw [Nat.add_sub_cancel, List.getD, hxe]; rfl
        rw [if_neg (by omega), hgx]
        have hi200 : i < 200 := by have := hok.1; omega
        go_enter Try.func12, Try.ntmps12
        go_wp2_with fail
        refine (hc _ ha hB).mono ?_
        rintro e w1 ⟨rfl, hb1⟩
        go_wp2_with fail
        refine (hv _).mono ?_
        rintro e w2 ⟨rfl, rfl⟩
        go_wp2_with fail
        refine (hb _ (ha.call hb1 hB) (Nat.le_trans hB hb1.size)).mono ?_
        rintro e w3 ⟨rfl, hb3⟩
        obtain ⟨b, off, rfl, hbB, g1, g2⟩ := ((ha.call hb1 hB).call hb3 (Nat.le_trans hB hb1.size)).two hxe
        have q1 : (0 : Int) ≤ (i : Int) := by omega
        have q2 : (i : Int) < (n : Int) := by omega
        clear hgx hxe
        go_wp2_with fail
        go_ret2
        exact ⟨rfl, bel_call hb1 hb3⟩
    · rw [decide_eq_false (show ¬ (0 ≤ day ∧ day ≤ 3652058) from hd)] at hv
      have hat : Dat.atF l day = (0, false) := by unfold Dat.atF; rw [if_pos (.inr hd)]
      rw [hat]
      go_enter Try.func12, Try.ntmps12
      go_wp2_with fail
      refine (hc _ ha hB).mono ?_
      rintro e w1 ⟨rfl, hb1⟩
      go_wp2_with fail
      refine (hv _).mono ?_
      rintro e w2 ⟨rfl, rfl⟩
      go_wp2_with fail
      go_ret2
      exact ⟨rfl, hb1⟩
  · have hat : Dat.atF l day = (0, false) := by unfold Dat.atF; rw [if_pos (.inl h0)]
    rw [hat]
    generalize Dat.chk l = E at *
    have h1 : (E == 0) = false := by simpa using h0
    have h2 : (E != 0) = true := by simpa using h0
    go_enter Try.func12, Try.ntmps12
    go_wp2_with fail
    refine (hc _ ha hB).mono ?_
    rintro e w1 ⟨rfl, hb1⟩
    go_wp2_with fail
    go_ret2
    exact ⟨rfl, hb1⟩
set_option maxRecDepth 100000 in
set_option maxHeartbeats 2000000 in
/-- Two lists that are the same. -/
theorem sameDated_yes (A A' : Option Addr) (n c d : Nat) (l : List (Int × Int)) (B B' : Nat) (w : World) (ha : Shows w B 2 A n (DC l)) (hb : Shows w B' 2 A' n (DC l)) (hn : n ≤ maxLen) :
    Calls Try.prog 13 #[.slice A n c, .slice A' n d] w fun e w' => e = .returned (.bool true) ∧ ∃ m, w' = w.drewN m := by
  have Hl := Lib.hid ha.num
  unfold maxLen at hn
  go_enter Try.func13, Try.ntmps13
  go_wp2_with fail
  go_loopw [5] (fun i wr => ∃ j : Nat, j ≤ n ∧ i = .int .i64 j ∧ ∃ m, wr = w.drewN m) (fun i _ => n - (intOf i).toNat)
  case atStart => exact ⟨0, by omega, rfl, 0, rfl⟩
  case round =>
    obtain ⟨j, hj, rfl, m, rfl⟩ := hrel
    by_cases hlt : j < n
    · obtain ⟨x, hx⟩ : ∃ x, l[j]? = some x := ⟨l[j]'(by rw [Hl.out]; exact hlt), List.getElem?_eq_getElem _⟩
      obtain ⟨b, off, rfl, _, h1, h2⟩ := ha.two hx
      obtain ⟨b', off', rfl, _, h3, h4⟩ := hb.two hx
      clear hx
      go_wp2_with fail
      go_quiet (fail)
      go_wp2_with fail
      go_roundw
      case rel => exact ⟨j + 1, by omega, by go_num, _, rfl⟩
      case measure => simp [intOf]; omega
    · obtain rfl : j = n := by omega
      go_wp2_with fail
      go_ret
      exact ⟨rfl, m, rfl⟩
theorem sameDated_eq {A A' : Option Addr} {n m c d : Nat} {l l' : List (Int × Int)} {B B' : Nat} {w : World} (ha : Shows w B 2 A n (DC l)) (hb : Shows w B' 2 A' m (DC l')) (he : l = l') (hn : n ≤ maxLen) :
    Calls Try.prog 13 #[.slice A n c, .slice A' m d] w fun e w' => e = .returned (.bool true) ∧ ∃ m, w' = w.drewN m := by
  subst he
  obtain rfl : n = m := by rw [← ha.num, hb.num]
  exact sameDated_yes A A' n c d l B B' w ha hb hn
set_option maxRecDepth 100000 in
set_option maxHeartbeats 2000000 in
theorem copyDated_any (A : Option Addr) (n c : Nat) (l : List (Int × Int)) (B : Nat) (w : World) (ha : Shows w B 2 A n (DC l)) (hB : B ≤ w.heap.size) (hn : n ≤ 1000000) :
    Calls Try.prog 14 #[.slice A n c] w (Fresh 31 2 n (DC l) w) := by
  obtain ⟨i0, hi, hz0, hz1, hz2⟩ := info_parts infoD
  go_enter Try.func14, Try.ntmps14
  have ho : (w.alloc (.cells #[] 31)).ownsRow w.heap.size 31 2 (.slice (some ⟨w.heap.size, 0, none⟩) 0 0) 0 [] := (show Block _ _ 31 [] from Block.new w 31 []).owns (Nat.le_refl _) rfl (Nat.zero_le _)
  go_wp2_with (at_builtin; refine wpList_append_shows _ rfl _ _ 22 rfl w.heap.size 31 i0 (.agg #[.int .i64 0, .int .i64 0]) 2 16 Try.underlying22 hi hz0 hz1 hz2 rfl (by decide) (.slice (some ⟨w.heap.size, 0, none⟩) 0 0) 0 [] rfl ho B A n c (DC l) rfl (ha.alloc hB _) (dc_one _) (by unfold maxLen; omega) (by omega) (by simp) ?_; intro A2 c2 w2 hown2 hg2)
  go_ret
  exact ⟨A2, c2, by simp, by simpa using hown2, bel_grown (bel_alloc (Below.refl _ _) _) hg2 (fun g hg => by simp [Value.ownBlock] at hg; omega)⟩
end Go.Proofs.Ytoedhcenmbpeeaa
