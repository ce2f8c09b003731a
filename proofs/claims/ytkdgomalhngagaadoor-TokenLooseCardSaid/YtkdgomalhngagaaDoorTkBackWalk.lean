/- The walk of the statement 'TokenBack'. -/
import Derived.Test.YtkdgomalhngagaaDoorTkPartsWalk
namespace Go.Proofs.YtkdgomalhngagaaDoor
open Go.RowKit

theorem textF_bytes {l : List Tok.Tk} (h : (Tok.textF l).2 = 0) : nums (strOfNums (Tok.textF l).1) = (Tok.textF l).1 ∧ (Tok.textF l).1.length ≤ 200 := by
  obtain ⟨h1, h2, h3⟩ := Tok.text_back h
  have hz := Tok.tokF_zero (l := (Tok.textF l).1) (by rw [h1])
  refine ⟨nums_str _ fun x hx => ?_, hz.1⟩
  have := (Tok.badAt_iff _).1 hz.2.1 x hx
  unfold Tok.okB at this
  omega
theorem strOf_size (xs : List Int) : (strOfNums xs).size = xs.length := by
  have := strOfNums_data xs
  have e : (strOfNums xs).size = (strOfNums xs).data.toList.length := by rw [Array.length_toList]; rfl
  rw [e, this, List.length_map]
set_option maxRecDepth 100000 in
set_option maxHeartbeats 4000000 in
theorem tback_walk (A : Option Addr) (n c : Nat) (l : List Tok.Tk) (s : ByteArray) (w : World) (ha : Shows w w.heap.size 2 A n (TC l)) (hf : ∀ t ∈ l, (∀ x ∈ t.2, 0 ≤ x ∧ x ≤ 255) ∧ t.2.length ≤ maxLen) (hnc : n ≤ c) (hcm : c ≤ maxLen) (hs : s.size ≤ maxLen) :
    Calls Tryd.prog 6 #[.slice A n c, .string s] w fun e w' => e = .returned (.bool true) ∧ Below w.heap.size w w' := by
  unfold maxLen at hcm hs
  have hlg := fun w1 (h : Shows w1 w.heap.size 2 A n (TC l)) => long_any (c := c) h (by omega) (fun x hx => by have := (hf x hx).2; unfold maxLen at this; exact this)
  by_cases hbig : LongT l ∨ 1000 < s.size
  · by_cases h1 : LongT l
    · rw [decide_eq_true h1] at hlg
      clear hbig h1 hf
      go_enter Tryd.func6, Tryd.ntmps6
      go_wp2_with fail
      refine (tok_awake _).mono ?_
      rintro e w1 ⟨rfl, hb1⟩
      go_wp2_with fail
      refine (hlg _ (ha.below hb1)).mono ?_
      rintro e w2 ⟨rfl, rfl⟩
      go_wp2_with fail
      go_ret
      exact ⟨rfl, hb1⟩
    · have h2 : 1000 < s.size := hbig.resolve_left h1
      rw [decide_eq_false h1] at hlg
      clear hbig h1 hf
      go_enter Tryd.func6, Tryd.ntmps6
      go_wp2_with fail
      refine (tok_awake _).mono ?_
      rintro e w1 ⟨rfl, hb1⟩
      go_wp2_with fail
      refine (hlg _ (ha.below hb1)).mono ?_
      rintro e w2 ⟨rfl, rfl⟩
      go_wp2_with fail
      go_ret
      exact ⟨rfl, hb1⟩
  · have hL : ¬ LongT l := fun g => hbig (.inl g)
    have h1000 : ¬ 1000 < s.size := fun g => hbig (.inr g)
    rw [decide_eq_false hL] at hlg
    have hln := ha.numT
    have hn60 : n ≤ 60 := by
      rcases Nat.lt_or_ge 60 n with g | g
      · exact absurd (.inr (by omega)) hL
      · exact g
    have hok : Okl l := fun t ht => ⟨(hf t ht).1, by
      rcases Nat.lt_or_ge 300 t.2.length with g | g
      · exact absurd (.inl ⟨t, ht, g⟩) hL
      · omega⟩
    have hpt := fun w1 (h : Shows w1 w.heap.size 2 A n (TC l)) (h' : w.heap.size ≤ w1.heap.size) => text_any (c := c) w1 h h' (by omega) hok
    have his : (Tok.textF l).2 = 0 → ∀ w1 (_ : Shows w1 w.heap.size 2 A n (TC l)) (_ : w.heap.size ≤ w1.heap.size), Calls Tryd.prog 21 #[.string (strOfNums (Tok.textF l).1), .slice A n c] w1 fun e w' => e = .returned (.bool true) ∧ Below w1.heap.size w1 w' := fun h0 w1 h h' => by
      obtain ⟨b1, b2⟩ := textF_bytes h0
      refine is_true w1 (by rw [strOf_size]; omega) h h' (by omega) ?_
      rw [b1]
      exact (Tok.text_back h0).1
    obtain ⟨S, hS⟩ : ∃ S, strOfNums (Tok.textF l).1 = S := ⟨_, rfl⟩
    obtain ⟨E, hE⟩ : ∃ E, (Tok.textF l).2 = E := ⟨_, rfl⟩
    rw [hS, hE] at hpt his
    have hx := fun w => tokens_any s (by omega) w
    have hokx : Okl (Tok.tokF (nums s)).1 := fun t ht => ⟨tokF_bytes _ (nums_byte s) t ht, by
      by_cases g : (Tok.tokF (nums s)).2.1 = 0
      · obtain ⟨g1, _, _, g4⟩ := Tok.tokF_zero g
        rw [g4] at ht
        have := Tok.may_len (Tok.toks_may g1 t ht)
        omega
      · rw [Tok.tokF_not g] at ht; cases ht⟩
    have hlx := Tok.tokF_len (nums s)
    have hsl := nums_len s
    have hnot := @Tok.tokF_not (nums s)
    have hbk := @Tok.back_text (nums s)
    have hb0 : (Tok.textF (Tok.tokF (nums s)).1).2 = 0 → _ := fun h => And.intro (Tok.text_back h) (textF_bytes h)
    obtain ⟨⟨x, e1, p1⟩, hr1⟩ : ∃ r, Tok.tokF (nums s) = r := ⟨_, rfl⟩
    rw [hr1] at hx hokx hlx hnot hbk hb0
    simp only at hokx hlx hnot hbk hb0
    rw [hsl] at hbk
    have hxt := fun A' c' w1 (h : Shows w1 w1.heap.size 2 A' x.length (TC x)) => text_any (c := c') w1 h (Nat.le_refl _) (by omega) hokx
    have hb1 := fun h => @hb0 h
    obtain ⟨U, hU⟩ : ∃ U, strOfNums (Tok.textF x).1 = U := ⟨_, rfl⟩
    have hUt : (Tok.textF x).2 = 0 → ∀ w, Calls Tryd.prog 11 #[.string U] w (TkR (x, 0, 0) w) := fun h w => by
      obtain ⟨g1, g2, g3⟩ := hb1 h
      have := tokens_any U (by rw [← hU, strOf_size]; omega) w
      rw [← hU, g2, g1.1, hU] at this
      exact this
    rw [hU] at hxt
    obtain ⟨G, hG⟩ : ∃ G, (Tok.textF x).2 = G := ⟨_, rfl⟩
    rw [hG] at hxt hUt hbk
    have Hnot := Lib.hid hnot
    have Hbk := Lib.hid hbk
    have Hut := Lib.hid hUt
    have His := Lib.hid his
    have tU : (U.toList == U.toList) = true := by simp
    clear hS hE hf hbig hL hnot hbk hb0 hb1 hUt his hr1 hU hG hsl hokx hok hln
    go_enter Tryd.func6, Tryd.ntmps6
    go_wp2_with fail
    refine (tok_awake _).mono ?_
    rintro e w1 ⟨rfl, hb1⟩
    go_wp2_with fail
    refine (hlg _ (ha.below hb1)).mono ?_
    rintro e w2 ⟨rfl, rfl⟩
    go_wp2_with fail
    refine (hpt _ (ha.below hb1) hb1.size).mono ?_
    rintro e w2 ⟨rfl, hb2⟩
    have bel2 := bel_call hb1 hb2
    clear hpt hlg
    go_upto_region 5 with (fail)
    go_cut [37] (fun b wx => b = .bool false ∧ Below w.heap.size w wx)
    case first =>
      by_cases hE0 : E = 0
      · subst hE0
        go_wp2_with fail
        refine (His.out (by trivial) _ (ha.below bel2) bel2.size).mono ?_
        rintro e w3 ⟨rfl, hb3⟩
        go_wp2_with fail
        go_meet
        exact ⟨rfl, bel_call bel2 hb3⟩
      · have tE : (E == 0) = false := by simpa using hE0
        go_wp2_with fail
        go_meet
        exact ⟨rfl, bel2⟩
    case rest =>
      obtain ⟨rfl, bel3⟩ := hcut
      go_wp2_with fail
      refine (hx _).mono ?_
      rintro e w4 ⟨A1, c1, rfl, hown1, hb4⟩
      have bel4 := bel_call bel3 hb4
      have k4 := Shows.of_own hown1
      by_cases he1 : e1 = 0
      · subst he1
        have k5 := k4.alloc (Nat.le_refl _) (.cells #[.int .i64 0, .int .i64 p1] 25)
        have bel5 := bel_alloc bel4 (.cells #[.int .i64 0, .int .i64 p1] 25)
        have hxc := hxt A1 c1 _ (k5.up (by simp))
        by_cases hG0 : G = 0
        · subst hG0
          go_wp2_with fail
          refine hxc.mono ?_
          rintro e w6 ⟨rfl, hb6⟩
          have bel6 := bel_call bel5 hb6
          have k6 := k5.call hb6 (by simp)
          have z6 : w4.heap.size ≤ w6.heap.size := by have := hb6.size; simp at this; omega
          clear hxc
          go_wp2_with fail
          refine (Hut.out (by trivial) _).mono ?_
          rintro e w7 ⟨A7, c7, rfl, hown7, hb7⟩
          have bel7 := bel_call bel6 hb7
          have k7 := k6.call hb7 z6
          have z7 : w4.heap.size ≤ w7.heap.size := Nat.le_trans z6 hb7.size
          have j8 := (Shows.of_own hown7).alloc (Nat.le_refl _) (.cells #[.int .i64 0, .int .i64 0] 25)
          have k8 := k7.alloc z7 (.cells #[.int .i64 0, .int .i64 0] 25)
          have bel8 := bel_alloc bel7 (.cells #[.int .i64 0, .int .i64 0] 25)
          have hxc := hxt A7 c7 _ (j8.up (by simp))
          go_wp2_with fail
          refine hxc.mono ?_
          rintro e w9 ⟨rfl, hb9⟩
          have bel9 := bel_call bel8 hb9
          have k9 := k8.call hb9 (by simp; omega)
          have j9 := j8.call hb9 (by simp)
          clear hxc
          go_wp2_with fail
          refine (same_true (c := c1) (c' := c7) k9 j9 (by omega)).mono ?_
          rintro e w10 ⟨rfl, m10, rfl⟩
          go_wp2_with fail
          go_ret
          exact ⟨rfl, bel_drewN bel9 m10⟩
        · obtain ⟨hG3, hs100⟩ := (Hbk.out rfl).resolve_left hG0
          subst hG3
          have q1 : (100 : Int) < (s.size : Int) := by omega
          have q2 : decide ((100 : Int) < (s.size : Int)) = true := decide_eq_true q1
          go_wp2_with fail
          refine hxc.mono ?_
          rintro e w6 ⟨rfl, hb6⟩
          have bel6 := bel_call bel5 hb6
          go_wp2_with fail
          go_ret
          exact ⟨rfl, bel6⟩
      · have hxn := Hnot.out he1
        subst hxn
        have t4 : (e1 != 0) = true := by simpa using he1
        go_wp2_with fail
        go_ret
        exact ⟨rfl, bel_alloc bel4 _⟩
end Go.Proofs.YtkdgomalhngagaaDoor
