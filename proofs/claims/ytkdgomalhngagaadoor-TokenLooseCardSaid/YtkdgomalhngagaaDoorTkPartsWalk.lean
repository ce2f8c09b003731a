/- The walk of the statement 'TokenParts'. -/
import Derived.Test.YtkdgomalhngagaaDoorTkTellsWalk
import Derived.Test.YtkdgomalhngagaaDoorTkTextsWalk
import Derived.Test.YtkdgomalhngagaaDoorTokLaws
import Derived.Test.YtkdgomalhngagaaDoorTkApp
namespace Go.Proofs.YtkdgomalhngagaaDoor
open Go.RowKit

theorem nums_app (a b : ByteArray) : nums (a ++ b) = nums a ++ nums b := by unfold nums; simp
theorem nums_blank : nums ⟨#[32]⟩ = [32] := by decide +kernel
set_option maxRecDepth 100000 in
set_option maxHeartbeats 4000000 in
theorem tparts_walk (a b : ByteArray) (w : World) (ha : a.size ≤ maxLen) (hb : b.size ≤ maxLen) :
    Calls Tryd.prog 8 #[.string a, .string b] w fun e w' => e = .returned (.bool true) ∧ Below w.heap.size w w' := by
  unfold maxLen at ha hb
  by_cases hbig : 90 < a.size ∨ 90 < b.size
  · by_cases h1 : 90 < a.size
    · clear hbig
      go_enter Tryd.func8, Tryd.ntmps8
      go_wp2_with fail
      refine (tok_awake _).mono ?_
      rintro e w1 ⟨rfl, hb1⟩
      go_wp2_with fail
      go_ret
      exact ⟨rfl, hb1⟩
    · have h2 : 90 < b.size := hbig.resolve_left h1
      clear hbig
      go_enter Tryd.func8, Tryd.ntmps8
      go_wp2_with fail
      refine (tok_awake _).mono ?_
      rintro e w1 ⟨rfl, hb1⟩
      go_wp2_with fail
      go_ret
      exact ⟨rfl, hb1⟩
  · have h1 : ¬ 90 < a.size := fun g => hbig (.inl g)
    have h2 : ¬ 90 < b.size := fun g => hbig (.inr g)
    clear hbig
    have hx := fun w => tokens_any a (by omega) w
    have hy := fun w => tokens_any b (by omega) w
    have hz := fun w => tokens_any (a ++ ⟨#[32]⟩ ++ b) (by rw [ByteArray.size_append, ByteArray.size_append]; show a.size + 1 + b.size ≤ _; omega) w
    have hn : nums (a ++ ⟨#[32]⟩ ++ b) = nums a ++ 32 :: nums b := by rw [nums_app, nums_app, nums_blank]; simp
    rw [hn] at hz
    have la := nums_len a
    have lb := nums_len b
    have lx := Tok.tokF_len (nums a)
    have ly := Tok.tokF_len (nums b)
    have hbad := @Tok.parts_bad (nums a) (nums b)
    have hok := @Tok.parts_ok (nums a) (nums b) (by omega) (by omega)
    obtain ⟨⟨x, e1, p1⟩, hr1⟩ : ∃ r, Tok.tokF (nums a) = r := ⟨_, rfl⟩
    obtain ⟨⟨y, e2, p2⟩, hr2⟩ : ∃ r, Tok.tokF (nums b) = r := ⟨_, rfl⟩
    obtain ⟨⟨z, e3, p3⟩, hr3⟩ : ∃ r, Tok.tokF (nums a ++ 32 :: nums b) = r := ⟨_, rfl⟩
    rw [hr1] at hx lx hbad hok
    rw [hr2] at hy ly hbad hok
    rw [hr3] at hz hbad hok
    simp only at lx ly hbad hok
    clear hn la lb hr1 hr2 hr3
    have Hok := Lib.hid hok
    have Hbad := Lib.hid hbad
    clear hok hbad
    have t0 : (0 : Int) ≤ x.length := by omega
    have t1 : (x.length : Int) ≤ 40 := by omega
    have t2 : (0 : Int) ≤ y.length := by omega
    have t3 : (y.length : Int) ≤ 40 := by omega
    go_enter Tryd.func8, Tryd.ntmps8
    go_wp2_with fail
    refine (tok_awake _).mono ?_
    rintro e w0 ⟨rfl, hb0⟩
    go_wp2_with fail
    refine (hx _).mono ?_
    rintro e w1 ⟨A1, c1, rfl, hown1, hb1⟩
    go_wp2_with fail
    refine (hy _).mono ?_
    rintro e w2 ⟨A2, c2, rfl, hown2, hb2⟩
    go_wp2_with fail
    refine (hz _).mono ?_
    rintro e w3 ⟨A3, c3, rfl, hown3, hb3⟩
    have k1 := ((Shows.of_own hown1).alloc (Nat.le_refl _) (.cells #[.int .i64 e1, .int .i64 p1] 25)).call hb2 (by simp)
    have z2 : w1.heap.size ≤ w2.heap.size := by have := hb2.size; simp at this; omega
    have k1 := (k1.alloc z2 (.cells #[.int .i64 e2, .int .i64 p2] 25)).call hb3 (by simp; omega)
    have k2 := ((Shows.of_own hown2).alloc (Nat.le_refl _) (.cells #[.int .i64 e2, .int .i64 p2] 25)).call hb3 (by simp)
    have z3 : w2.heap.size ≤ w3.heap.size := by have := hb3.size; simp at this; omega
    have k3 := Shows.of_own hown3
    have f1 := ((((Block.new w1 25 [.int .i64 e1, .int .i64 p1]).call hb2).alloc (.cells #[.int .i64 e2, .int .i64 p2] 25)).call hb3).alloc (.cells #[.int .i64 e3, .int .i64 p3] 25)
    have f2 := ((Block.new w2 25 [.int .i64 e2, .int .i64 p2]).call hb3).alloc (.cells #[.int .i64 e3, .int .i64 p3] 25)
    have f3 := Block.new w3 25 [.int .i64 e3, .int .i64 p3]
    have d1 : (w3.alloc (.cells #[.int .i64 e3, .int .i64 p3] 25)).cell? ⟨w1.heap.size, 0, none⟩ = some (.int .i64 e1) := f1.cell 0
    have d2 : (w3.alloc (.cells #[.int .i64 e3, .int .i64 p3] 25)).cell? ⟨w2.heap.size, 0, none⟩ = some (.int .i64 e2) := f2.cell 0
    have d3 : (w3.alloc (.cells #[.int .i64 e3, .int .i64 p3] 25)).cell? ⟨w3.heap.size, 0, none⟩ = some (.int .i64 e3) := f3.cell 0
    have bel3 : Below w.heap.size w (w3.alloc (.cells #[.int .i64 e3, .int .i64 p3] 25)) := bel_alloc (bel_call (bel_alloc (bel_call (bel_alloc (bel_call hb0 hb1) _) hb2) _) hb3) _
    clear f1 f2 f3 hown1 hown2 hown3
    by_cases he1 : e1 = 0
    · by_cases he2 : e2 = 0
      · have hok := Hok.out he1 he2
        subst he1 he2
        by_cases h40 : 40 < x.length + y.length
        · have he3 : e3 = 8 := hok.1 h40
          subst he3
          have q : 40 < (x.length : Int) + (y.length : Int) := by omega
          clear hok
          go_wp2_with fail
          go_ret
          exact ⟨rfl, bel3⟩
        · have hz := hok.2 h40
          simp only [Prod.mk.injEq] at hz
          obtain ⟨hzz, rfl, rfl⟩ := hz
          subst hzz
          have q : ¬ 40 < (x.length : Int) + (y.length : Int) := by omega
          clear hok
          go_upto_region 7 with (fail)
          obtain ⟨w4, hw4⟩ : ∃ w4, w3.alloc (.cells #[.int .i64 0, .int .i64 0] 25) = w4 := ⟨_, rfl⟩
          have k1 : Shows w4 w1.heap.size 2 A1 x.length (TC x) := hw4 ▸ k1.alloc (by omega) _
          have k2 : Shows w4 w2.heap.size 2 A2 y.length (TC y) := hw4 ▸ k2.alloc (by omega) _
          have k3 : Shows w4 w3.heap.size 2 A3 (x ++ y).length (TC (x ++ y)) := hw4 ▸ k3.alloc (Nat.le_refl _) _
          have z4 : w3.heap.size ≤ w4.heap.size := by rw [← hw4]; simp
          rw [hw4] at d1 d2 d3 bel3
          rw [List.length_append] at k3
          rw [hw4]
          have ho := own_none w4
          obtain ⟨i0, hi0, hz0, hz1, hz2⟩ := info_parts infoT
          clear hw4
          go_upto_region 11 with (fail)
          go_wp2_with (at_builtin; first
            | (refine wpList_append_showsG _ rfl _ _ 22 rfl w4.heap.size 31 i0 (.agg #[.int .i64 0, .string ⟨#[]⟩]) 2 24 Tryd.underlying22 hi0 hz0 hz1 hz2 rfl (by decide) (.slice (some ⟨w4.heap.size, 0, none⟩) 0 0) 0 [] rfl ho w1.heap.size A1 x.length c1 (TC x) rfl (k1.alloc (by omega) _) (tc_one _) (by unfold maxLen; omega) (by omega) (by simp) ?_; intro A5 c5 w5 hown5 hg5; rw [Nat.zero_add, List.nil_append] at hown5; rw [Nat.zero_add])
            | (have bel5 : Below w4.heap.size w4 w5 := bel_grown (bel_alloc (Below.refl _ _) _) hg5 (fun g hg => by simp [Value.ownBlock] at hg; omega)
               refine wpList_append_showsG _ rfl _ _ 22 rfl w4.heap.size 31 i0 (.agg #[.int .i64 0, .string ⟨#[]⟩]) 2 24 Tryd.underlying22 hi0 hz0 hz1 hz2 rfl (by decide) (.slice A5 x.length c5) x.length (TC x) rfl hown5 w2.heap.size A2 y.length c2 (TC y) rfl (k2.below (bel5.mono (by omega))) (tc_one _) (by unfold maxLen; omega) (by omega) bel5.size ?_; intro A6 c6 w6 hown6 hg6)
            | fail)
          have tcapp : TC (x ++ y) = TC x ++ TC y := by unfold TC; simp
          rw [← tcapp] at hown6
          have bel6 : Below w4.heap.size w4 w6 := bel_grown (bel_grown (bel_alloc (Below.refl _ _) _) hg5 (fun g hg => by simp [Value.ownBlock] at hg; omega)) hg6 (fun g hg => (hown5.lt g hg).1)
          refine (same_true (c := c3) (c' := c6) (k3.below (bel6.mono z4)) (Shows.of_own hown6) (by omega)).mono ?_
          rintro e w7 ⟨rfl, m7, rfl⟩
          go_wp2_with fail
          go_ret
          exact ⟨rfl, bel_drewN (bel_call bel3 bel6) m7⟩
      · have he3 : e3 ≠ 0 := fun g => he2 (Hbad.out g).2
        subst he1
        have t4 : (e2 != 0) = true := by simpa using he2
        have t5 : (e3 != 0) = true := by simpa using he3
        go_wp2_with fail
        go_ret
        exact ⟨rfl, bel3⟩
    · have he3 : e3 ≠ 0 := fun g => he1 (Hbad.out g).1
      have t4 : (e1 != 0) = true := by simpa using he1
      have t5 : (e3 != 0) = true := by simpa using he3
      go_wp2_with fail
      go_ret
      exact ⟨rfl, bel3⟩
end Go.Proofs.YtkdgomalhngagaaDoor
