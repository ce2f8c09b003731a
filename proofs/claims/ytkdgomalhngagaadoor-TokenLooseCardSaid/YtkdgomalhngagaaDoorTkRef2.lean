/- The walks of the document's Upper and kind. -/
import Derived.Test.YtkdgomalhngagaaDoorTkRef
namespace Go.Proofs.YtkdgomalhngagaaDoor
open Go.RowKit Go.Lib

theorem infoU8 : (Tryd.prog.info? 5).map (fun i => (i.zero, i.size, i.bytes)) = some (some (.int .u8 0), 1, 1) := by kernel_rfl
set_option maxRecDepth 100000 in
set_option maxHeartbeats 4000000 in
theorem rupper_any (s : ByteArray) (hs : s.size ≤ 1000000) (w : World) :
    Calls Tryd.prog 15 #[.string s] w fun e w' => e = .returned (.string (strOfNums ((nums s).map Tok.up))) ∧ Below w.heap.size w w' := by
  obtain ⟨i0, hi0, hz0, hz1, hz2⟩ := info_parts infoU8
  have Hl := Lib.hid (nums_len s)
  go_enter Tryd.func15, Tryd.ntmps15
  go_wp2_with fail
  go_loopw [3, 4] (fun o i wr => ∃ (a cp : Nat) (A : Option Addr), a ≤ s.size ∧ i = .int .i64 a ∧ o = .slice A a cp ∧ wr.ownsRow w.heap.size 5 1 (.slice A a cp) a (U8 (((nums s).take a).map Tok.up)) ∧ Below w.heap.size w wr) (fun _ i _ => s.size - (intOf i).toNat)
  case atStart => exact ⟨0, 0, none, by omega, rfl, rfl, World.ownsRow_nil _ _ _ _, Below.refl _ _⟩
  case round =>
    obtain ⟨a, cp, A, ha, rfl, rfl, hown, hbel⟩ := hrel
    have hzz := hbel.size
    by_cases hlt : a < s.size
    · have hg := cAt_get s a hlt
      have q1 : (a : Int) < (s.size : Int) := by omega
      have hnew : ((nums s).take (a + 1)).map Tok.up = ((nums s).take a).map Tok.up ++ [Tok.up (s[a].toNat : Int)] := by
        rw [List.take_add_one, List.getElem?_eq_getElem (by rw [Hl.out]; exact hlt), List.map_append]
        have e : (nums s)[a]'(by rw [Hl.out]; exact hlt) = (s[a].toNat : Int) := by
          rw [← hg]; unfold cAt
          rw [List.getD_eq_getElem?_getD, List.getElem?_eq_getElem]; rfl
        rw [e]; rfl
      have Hnew := Lib.hid hnew
      obtain ⟨c, hc⟩ : ∃ c, (s[a].toNat : Int) = c := ⟨_, rfl⟩
      have hb : 0 ≤ c ∧ c ≤ 255 := by rw [← hc]; have := s[a].toNat_lt; omega
      rw [hc] at hnew
      have Hnew := Lib.hid hnew
      clear hg hnew
      by_cases h1 : 97 ≤ c ∧ c ≤ 122
      · have hu : Tok.up c = c - 32 := by unfold Tok.up; rw [if_pos h1]
        rw [hu] at Hnew
        have t1 : decide (c ≥ 97) = true := decide_eq_true (by omega)
        have t2 : decide (c ≤ 122) = true := decide_eq_true (by omega)
        clear hu
        go_wp2_with (at_builtin; refine wpList_append_shows _ rfl _ _ 42 rfl w.heap.size 5 i0 (.int .u8 0) 1 1 Tryd.underlying42 hi0 hz0 hz1 hz2 rfl (by decide) _ a (U8 (((nums s).take a).map Tok.up)) rfl (by exact World.ownsRow.alloc hown _) _ (some ⟨wr.heap.size, 0, none⟩) 1 1 [.int .u8 (c - 32)] rfl (by exact shows_at wr [.int .u8 (c - 32)] 5 _ rfl) (one_is _ _) (by unfold maxLen; omega) (by omega) (by simp; omega) ?_; intro A2 c2 w2 hown2 hg2)
        go_roundw
        case rel =>
          refine ⟨a + 1, c2, A2, by omega, by go_num, rfl, ?_, bel_grown (bel_alloc hbel _) hg2 (fun g hg => (hown.lt g hg).1)⟩
          rw [Hnew.out]
          simpa [U8] using hown2
        case measure => simp [intOf]; omega
      · have hu : Tok.up c = c := by unfold Tok.up; rw [if_neg h1]
        rw [hu] at Hnew
        rcases (by omega : c < 97 ∨ (97 ≤ c ∧ 122 < c)) with h2 | ⟨h2, h3⟩
        · have t1 : decide (c ≥ 97) = false := decide_eq_false (by omega)
          clear hu
          go_wp2_with (at_builtin; refine wpList_append_shows _ rfl _ _ 42 rfl w.heap.size 5 i0 (.int .u8 0) 1 1 Tryd.underlying42 hi0 hz0 hz1 hz2 rfl (by decide) _ a (U8 (((nums s).take a).map Tok.up)) rfl (by exact World.ownsRow.alloc hown _) _ (some ⟨wr.heap.size, 0, none⟩) 1 1 [.int .u8 c] rfl (by exact shows_at wr [.int .u8 c] 5 _ rfl) (one_is _ _) (by unfold maxLen; omega) (by omega) (by simp; omega) ?_; intro A2 c2 w2 hown2 hg2)
          go_roundw
          case rel =>
            refine ⟨a + 1, c2, A2, by omega, by go_num, rfl, ?_, bel_grown (bel_alloc hbel _) hg2 (fun g hg => (hown.lt g hg).1)⟩
            rw [Hnew.out]
            simpa [U8] using hown2
          case measure => simp [intOf]; omega
        · have t1 : decide (c ≥ 97) = true := decide_eq_true (by omega)
          have t2 : decide (c ≤ 122) = false := decide_eq_false (by omega)
          clear hu
          go_wp2_with (at_builtin; refine wpList_append_shows _ rfl _ _ 42 rfl w.heap.size 5 i0 (.int .u8 0) 1 1 Tryd.underlying42 hi0 hz0 hz1 hz2 rfl (by decide) _ a (U8 (((nums s).take a).map Tok.up)) rfl (by exact World.ownsRow.alloc hown _) _ (some ⟨wr.heap.size, 0, none⟩) 1 1 [.int .u8 c] rfl (by exact shows_at wr [.int .u8 c] 5 _ rfl) (one_is _ _) (by unfold maxLen; omega) (by omega) (by simp; omega) ?_; intro A2 c2 w2 hown2 hg2)
          go_roundw
          case rel =>
            refine ⟨a + 1, c2, A2, by omega, by go_num, rfl, ?_, bel_grown (bel_alloc hbel _) hg2 (fun g hg => (hown.lt g hg).1)⟩
            rw [Hnew.out]
            simpa [U8] using hown2
          case measure => simp [intOf]; omega
    · obtain rfl : a = s.size := by omega
      rw [List.take_of_length_le (by rw [Hl.out]; exact Nat.le_refl _)] at hown
      have k := conv_shows cp (shows_row hown)
      go_wp2_with fail
      go_ret
      exact ⟨rfl, hbel⟩
theorem all_take {l : List Int} {a : Nat} (ha : a < l.length) (h : ∀ c ∈ l.take a, Tok.isD c) (hd : Tok.isD (l.getD a 0)) : ∀ c ∈ l.take (a + 1), Tok.isD c := by
  intro c hc
  rw [List.take_add_one, List.getElem?_eq_getElem ha, List.mem_append] at hc
  rcases hc with g | g
  · exact h c g
  · simp at g; subst g
    rwa [List.getD_eq_getElem?_getD, List.getElem?_eq_getElem ha] at hd
set_option maxRecDepth 100000 in
set_option maxHeartbeats 2000000 in
theorem kind_any (s : ByteArray) (hs : s.size ≤ 1000000) (h0 : 0 < s.size) (w : World) :
    Calls Tryd.prog 38 #[.string s] w fun e w' => e = .returned (.int .i64 (Tok.kind (nums s))) ∧ w = w' := by
  have Hl := Lib.hid (nums_len s)
  have g0 := cAt_get s 0 h0
  have hh : (nums s).headD 0 = cAt s 0 := by unfold cAt; cases nums s <;> rfl
  have hL := fun w => letter_is (cAt s 0) w
  by_cases hl : Tok.isL (cAt s 0)
  · have hk : Tok.kind (nums s) = 1 := by unfold Tok.kind; rw [hh, if_pos hl]
    rw [hk]
    rw [decide_eq_true hl, g0] at hL
    clear hl hk hh g0
    go_enter Tryd.func38, Tryd.ntmps38
    go_wp2_with fail
    refine (hL _).mono ?_
    rintro e w1 ⟨rfl, rfl⟩
    go_wp2_with fail
    go_ret
    exact ⟨rfl, rfl⟩
  · have Hhl : Hid (¬ Tok.isL ((nums s).headD 0)) := Lib.hid (by rw [hh]; exact hl)
    rw [decide_eq_false hl, g0] at hL
    clear hl hh g0
    go_enter Tryd.func38, Tryd.ntmps38
    go_wp2_with fail
    refine (hL _).mono ?_
    rintro e w1 ⟨rfl, rfl⟩
    go_wp2_with fail
    go_loopw [3] (fun i wr => ∃ a : Nat, a ≤ s.size ∧ i = .int .i64 a ∧ Hid (∀ c ∈ (nums s).take a, Tok.isD c) ∧ wr = w) (fun i _ => s.size - (intOf i).toNat)
    case atStart => exact ⟨0, by omega, rfl, Lib.hid (by simp), rfl⟩
    case round =>
      obtain ⟨a, ha, rfl, Hd, rfl⟩ := hrel
      by_cases hlt : a < s.size
      · have hg := cAt_get s a hlt
        have hD := fun w => rdigit_is (cAt s a) w
        by_cases hd : Tok.isD (cAt s a)
        · have Hn : Hid (∀ c ∈ (nums s).take (a + 1), Tok.isD c) := Lib.hid (all_take (by rw [Hl.out]; exact hlt) Hd.out hd)
          rw [decide_eq_true hd, hg] at hD
          clear hd hg
          go_wp2_with fail
          refine (hD _).mono ?_
          rintro e w1 ⟨rfl, rfl⟩
          go_wp2_with fail
          go_roundw
          case rel => exact ⟨a + 1, by omega, by go_num, Hn, by trivial⟩
          case measure => simp [intOf]; omega
        · have hk : Tok.kind (nums s) = 3 := by
            have hm : cAt s a ∈ nums s := by
              unfold cAt
              rw [List.getD_eq_getElem?_getD, List.getElem?_eq_getElem (by rw [Hl.out]; exact hlt)]
              exact List.getElem_mem _
            unfold Tok.kind
            rw [if_neg Hhl.out, if_neg (fun h => hd (h _ hm))]
          have Hk := Lib.hid hk
          rw [decide_eq_false hd, hg] at hD
          clear hd hg hk
          go_wp2_with fail
          refine (hD _).mono ?_
          rintro e w1 ⟨rfl, rfl⟩
          go_wp2_with fail
          go_ret
          exact ⟨by rw [Hk.out]; rfl, rfl⟩
      · obtain rfl : a = s.size := by omega
        have hk : Tok.kind (nums s) = 2 := by
          unfold Tok.kind
          have := Hd.out
          rw [List.take_of_length_le (by rw [Hl.out]; exact Nat.le_refl _)] at this
          rw [if_neg Hhl.out, if_pos this]
        have Hk := Lib.hid hk
        clear hk
        go_wp2_with fail
        go_ret
        exact ⟨by rw [Hk.out]; rfl, rfl⟩
end Go.Proofs.YtkdgomalhngagaaDoor
