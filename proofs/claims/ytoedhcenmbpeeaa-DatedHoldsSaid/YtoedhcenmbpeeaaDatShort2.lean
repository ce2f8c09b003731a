/- The walks of 'slices.Clone', 'dated.Short', of the law's 'sample', 'at', 'awake'. -/
import Derived.Test.YtoedhcenmbpeeaaDatCompact
import Derived.Test.YtoedhcenmbpeeaaDatPlain2
namespace Go.Proofs.Ytoedhcenmbpeeaa
open Go.RowKit

set_option maxRecDepth 100000 in
set_option maxHeartbeats 2000000 in
theorem clone_any (A : Option Addr) (n c : Nat) (l : List (Int × Int)) (B : Nat) (w : World) (ha : Shows w B 2 A n (DC l)) (hB : B ≤ w.heap.size) (hn : n ≤ 1000000) :
    Calls Try.prog 29 #[.slice A n c] w (Fresh 31 2 n (DC l) w) := by
  obtain ⟨i0, hi, hz0, hz1, hz2⟩ := info_parts infoD
  rcases A with _ | ad
  · have h0 : n = 0 := by
      rcases Nat.eq_zero_or_pos n with h0 | h0
      · exact h0
      · obtain ⟨_, _, h, _⟩ := ha.2 h0
        cases h
    have hl : l = [] := List.eq_nil_of_length_eq_zero (by rw [ha.num, h0])
    subst hl
    subst h0
    go_enter Try.func29, Try.ntmps29
    have hnil := fun w => Lib.run_eql_slice_nil (P := Try.prog) w 22 31 none 0 c 0 0 Try.underlying22
    go_wp2_with fail
    go_ret
    exact ⟨none, 0, rfl, World.ownsRow_nil _ _ _ _, Below.refl _ _⟩
  · have hnil := fun w => Lib.run_eql_slice_nil (P := Try.prog) w 22 31 (some ad) n c 0 0 Try.underlying22
    go_enter Try.func29, Try.ntmps29
    have ho : (w.alloc (.cells #[] 31)).ownsRow w.heap.size 31 2 (.slice (some ⟨w.heap.size, 0, none⟩) 0 0) 0 [] := (show Block _ _ 31 [] from Block.new w 31 []).owns (Nat.le_refl _) rfl (Nat.zero_le _)
    go_wp2_with (at_builtin; refine wpList_append_shows _ rfl _ _ 22 rfl w.heap.size 31 i0 (.agg #[.int .i64 0, .int .i64 0]) 2 16 Try.underlying22 hi hz0 hz1 hz2 rfl (by decide) (.slice (some ⟨w.heap.size, 0, none⟩) 0 0) 0 [] rfl ho B (some ad) n c (DC l) rfl (ha.alloc hB _) (dc_one _) (by unfold maxLen; omega) (by omega) (by simp) ?_; intro A2 c2 w2 hown2 hg2)
    go_ret
    exact ⟨A2, c2, by simp, by simpa using hown2, bel_grown (bel_alloc (Below.refl _ _) _) hg2 (fun g hg => by simp [Value.ownBlock] at hg; omega)⟩
set_option maxRecDepth 100000 in
set_option maxHeartbeats 1000000 in
theorem compact_nil (w : World) : Calls Try.prog 28 #[.slice none 0 0, .func (Fn.func 30) #[] #[]] w fun e w' => e = .returned (.slice none 0 0) ∧ w = w' := by
  go_enter Try.func28, Try.ntmps28
  go_wp2_with fail
  go_ret
  exact ⟨rfl, rfl⟩
/-- The row behind an owned slice. -/
theorem own_row {w : World} {base n c : Nat} {A : Option Addr} {l : List (Int × Int)} (h : w.ownsRow base 31 2 (.slice A n c) n (DC l)) :
    (A = none ∧ n = 0 ∧ c = 0 ∧ l = []) ∨ ∃ g junk, A = some ⟨g, 0, none⟩ ∧ base ≤ g ∧ g < w.heap.size ∧ RowD w g l junk ∧ n ≤ c ∧ c ≤ maxLen ∧ junk.length + n * 2 = c * 2 := by
  have hl := h.1
  rw [dc_len] at hl
  rcases h.2 with ⟨hv, h0⟩ | ⟨g, cap, cur, hv, hb, hg, hnc, hcm, hcs, ht⟩
  · injection hv with h1 h2 h3
    exact .inl ⟨h1, h2, h3, List.eq_nil_of_length_eq_zero (by omega)⟩
  · injection hv with h1 h2 h3
    subst h1; subst h3
    refine .inr ⟨g, cur.toList.drop (n * 2), rfl, hb, ?_, ?_, hnc, hcm, ?_⟩
    · rcases Nat.lt_or_ge g w.heap.size with hlt | hge
      · exact hlt
      · rw [Array.getElem?_eq_none hge] at hg; cases hg
    · show _ = _
      rw [hg, ← ht, List.take_append_drop]
    · rw [List.length_drop, Array.length_toList, hcs]
      have : n * 2 ≤ c * 2 := Nat.mul_le_mul_right _ hnc
      omega
theorem row_own {w : World} {g n c base : Nat} {l : List (Int × Int)} {junk : List Value} (h : RowD w g l junk) (hl : l.length = n) (hb : base ≤ g) (hc : c ≤ maxLen) (hj : junk.length + n * 2 = c * 2) : w.ownsRow base 31 2 (.slice (some ⟨g, 0, none⟩) n c) n (DC l) := by
  refine ⟨by rw [dc_len, hl], .inr ⟨g, c, (DC l ++ junk).toArray, rfl, hb, h, by omega, hc, ?_, ?_⟩⟩
  · simp only [List.size_toArray, List.length_append, dc_len, hl]; omega
  · simp only []
    rw [List.take_append_of_le_length (by rw [dc_len, hl]; exact Nat.le_refl _), List.take_of_length_le (by rw [dc_len, hl]; exact Nat.le_refl _)]
set_option maxRecDepth 100000 in
set_option maxHeartbeats 2000000 in
theorem short_any (A : Option Addr) (n c : Nat) (l : List (Int × Int)) (B : Nat) (w : World) (ha : Shows w B 2 A n (DC l)) (hB : B ≤ w.heap.size) (hn : n ≤ 1000000) (hx : Fits l) :
    Calls Try.prog 11 #[.slice A n c] w (Fresh 31 2 (Dat.shortF l).length (DC (Dat.shortF l)) w) := by
  have hc := fun (w' : World) (h : Shows w' B 2 A n (DC l)) (h' : B ≤ w'.heap.size) => check_any A n c l B w' h h' (by unfold maxLen; omega) hx
  have hl := ha.num
  by_cases h0 : Dat.chk l = 0
  · rw [h0] at hc
    rw [Dat.shortF_ok ((Dat.chk_ok l).1 h0)]
    go_enter Try.func11, Try.ntmps11
    go_wp2_with fail
    refine (hc _ ha hB).mono ?_
    rintro e w1 ⟨rfl, hb1⟩
    go_wp2_with fail
    refine (clone_any A n c l B _ (ha.call hb1 hB) (Nat.le_trans hB hb1.size) hn).mono ?_
    rintro e w2 ⟨A2, c2, rfl, ho2, hb2⟩
    have z1 := hb1.size
    have z2 := hb2.size
    rcases own_row ho2 with ⟨rfl, hn0, rfl, hl0⟩ | ⟨g, junk, rfl, hg1, hg2, hrow, hnc, hcm, hj⟩
    · subst hl0
      subst hn0
      go_wp2_with fail
      refine (compact_nil _).mono ?_
      rintro e w3 ⟨rfl, rfl⟩
      go_wp2_with fail
      go_ret
      exact ⟨none, 0, rfl, World.ownsRow_nil _ _ _ _, bel_call hb1 hb2⟩
    · go_wp2_with fail
      refine (compact_any g n c2 l junk _ hrow hl hn hnc).mono ?_
      rintro e w3 ⟨rfl, hgr, junk3, hrow3, hj3⟩
      go_wp2_with fail
      go_ret
      exact ⟨_, c2, rfl, row_own hrow3 rfl (by omega) hcm (by omega), bel_grown (bel_call hb1 hb2) hgr (fun k hk => by injection hk with hk; omega)⟩
  · have he : Dat.shortF l = [] := by unfold Dat.shortF; rw [if_pos h0]
    rw [he]
    generalize Dat.chk l = E at *
    have h1 : (E == 0) = false := by simpa using h0
    have h2 : (E != 0) = true := by simpa using h0
    go_enter Try.func11, Try.ntmps11
    go_wp2_with fail
    refine (hc _ ha hB).mono ?_
    rintro e w1 ⟨rfl, hb1⟩
    go_wp2_with fail
    go_ret
    exact ⟨none, 0, rfl, World.ownsRow_nil _ _ _ _, hb1⟩
end Go.Proofs.Ytoedhcenmbpeeaa
