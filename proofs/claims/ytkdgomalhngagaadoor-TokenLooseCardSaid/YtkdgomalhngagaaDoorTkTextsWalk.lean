/- The walk of the statement 'TokenTexts'. -/
import Derived.Test.YtkdgomalhngagaaDoorTkAwake
namespace Go.Proofs.YtkdgomalhngagaaDoor
open Go.RowKit

/-- A copy of a list: what an append onto an empty new slice shows. -/
theorem own_none (w : World) : (w.alloc (.cells #[] 31)).ownsRow w.heap.size 31 2 (.slice (some ⟨w.heap.size, 0, none⟩) 0 0) 0 [] := (show Block _ _ 31 [] from Block.new w 31 []).owns (Nat.le_refl _) rfl (Nat.zero_le _)
set_option maxRecDepth 100000 in
set_option maxHeartbeats 4000000 in
theorem ttexts_walk (A : Option Addr) (n c : Nat) (l : List Tok.Tk) (w : World) (ha : Shows w w.heap.size 2 A n (TC l)) (hf : ∀ t ∈ l, (∀ x ∈ t.2, 0 ≤ x ∧ x ≤ 255) ∧ t.2.length ≤ maxLen) (hnc : n ≤ c) (hcm : c ≤ maxLen) :
    Calls Tryd.prog 4 #[.slice A n c] w fun e w' => e = .returned (.bool true) ∧ Below w.heap.size w w' := by
  unfold maxLen at hcm
  have hlg := long_any (c := c) ha (by omega) (fun x hx => by have := (hf x hx).2; unfold maxLen at this; exact this)
  by_cases hL : LongT l
  · rw [decide_eq_true hL] at hlg
    clear hL
    go_enter Tryd.func4, Tryd.ntmps4
    go_wp2_with fail
    refine hlg.mono ?_
    rintro e w1 ⟨rfl, rfl⟩
    go_wp2_with fail
    go_ret
    exact ⟨rfl, Below.refl _ _⟩
  · rw [decide_eq_false hL] at hlg
    have hln := ha.numT
    have hn60 : n ≤ 60 := by
      rcases Nat.lt_or_ge 60 n with g | g
      · exact absurd (.inr (by omega)) hL
      · exact g
    have hok : Okl l := fun t ht => ⟨(hf t ht).1, by
      rcases Nat.lt_or_ge 300 t.2.length with g | g
      · exact absurd (.inl ⟨t, ht, g⟩) hL
      · omega⟩
    obtain ⟨i0, hi0, hz0, hz1, hz2⟩ := info_parts infoT
    have ho := own_none w
    have hrt := fun w1 (h : Shows w1 w.heap.size 2 A n (TC l)) (h' : w.heap.size ≤ w1.heap.size) => rtext_any (c := c) w1 h h' (by omega) hok
    have hpt := fun A' c' w1 (h : Shows w1 w1.heap.size 2 A' n (TC l)) => text_any (c := c') w1 h (Nat.le_refl _) (by omega) hok
    obtain ⟨S, hS⟩ : ∃ S, strOfNums (Tok.textF l).1 = S := ⟨_, rfl⟩
    obtain ⟨E, hE⟩ : ∃ E, (Tok.textF l).2 = E := ⟨_, rfl⟩
    rw [hS, hE] at hrt hpt
    have tE : (E == E) = true := by simp
    clear hL hS hE hf hln
    go_enter Tryd.func4, Tryd.ntmps4
    go_wp2_with fail
    refine hlg.mono ?_
    rintro e w1 ⟨rfl, rfl⟩
    clear hlg
    go_wp2_with (at_builtin; refine wpList_append_shows _ rfl _ _ 22 rfl w.heap.size 31 i0 (.agg #[.int .i64 0, .string ⟨#[]⟩]) 2 24 Tryd.underlying22 hi0 hz0 hz1 hz2 rfl (by decide) (.slice (some ⟨w.heap.size, 0, none⟩) 0 0) 0 [] rfl ho w.heap.size A n c (TC l) rfl (ha.alloc (Nat.le_refl _) _) (tc_one _) (by unfold maxLen; omega) (by omega) (by simp) ?_; intro A1 c1 w1 hown1 hg1)
    have hown1 : w1.ownsRow w.heap.size 31 2 (.slice A1 (0 + n) c1) (0 + n) (TC l) := by simpa using hown1
    rw [Nat.zero_add] at hown1
    have bel1 : Below w.heap.size w w1 := bel_grown (bel_alloc (Below.refl _ _) _) hg1 (fun g hg => by simp [Value.ownBlock] at hg; omega)
    have k1 := Shows.of_own hown1
    have ha1 := ha.below bel1
    clear hown1 hg1 ho
    go_wp2_with fail
    refine (hpt _ _ _ k1).mono ?_
    rintro e w2 ⟨rfl, hb2⟩
    have k2 := k1.call hb2 (Nat.le_refl _)
    have bel2 := bel_call bel1 hb2
    go_wp2_with fail
    refine (hrt _ (ha.below bel2) bel2.size).mono ?_
    rintro e w3 ⟨rfl, hb3⟩
    have k3 := k2.call hb3 hb2.size
    have bel3 := bel_call bel2 hb3
    have hsm := same_true (c := c1) (c' := c) k3 (ha.below bel3) (by omega)
    go_wp2_with fail
    refine hsm.mono ?_
    rintro e w4 ⟨rfl, m, rfl⟩
    go_wp2_with fail
    refine (tok_awake _).mono ?_
    rintro e w5 ⟨rfl, hb5⟩
    go_wp2_with fail
    go_ret
    exact ⟨rfl, bel_call (bel_drewN bel3 m) hb5⟩
end Go.Proofs.YtkdgomalhngagaaDoor
