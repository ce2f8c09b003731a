/- The walks of the document's 'At' and 'Short', of the law's 'over'. -/
import Derived.Test.YtoedhcenmbpeeaaDatAwake
import Derived.Test.YtoedhcenmbpeeaaDatPlain3
namespace Go.Proofs.Ytoedhcenmbpeeaa
open Go.RowKit

/-- One value in a block of its own. -/
theorem shows_one (w : World) (a b : Int) (g : Nat) (hg : g = w.heap.size) : Shows (w.alloc (.cells #[.int .i64 a, .int .i64 b] 31)) (g + 1) 2 (some ⟨g, 0, none⟩) 1 (DC [(a, b)]) := hg ▸ (show Block _ w.heap.size 31 (DC [(a, b)]) from Block.new w _ (DC [(a, b)])).shows rfl
set_option maxRecDepth 100000 in
set_option maxHeartbeats 2000000 in
theorem refAt_any (A : Option Addr) (n c : Nat) (l : List (Int × Int)) (day : Int) (B : Nat) (w : World) (ha : Shows w B 2 A n (DC l)) (hB : B ≤ w.heap.size) (hn : n ≤ maxLen) (hx : Fits l) :
    Calls Try.prog 15 #[.slice A n c, .int .i64 day] w fun e w' => e = .returned (.tuple #[.int .i64 (Dat.atF l day).1, .bool (Dat.atF l day).2]) ∧ Below w.heap.size w w' := by
  have hc := fun (w' : World) (h : Shows w' B 2 A n (DC l)) (h' : B ≤ w'.heap.size) => refCheck_any A n c l B w' h h' hn hx
  have hv := fun (w' : World) => refDay_any day w'
  have hl := ha.num
  unfold maxLen at hn
  by_cases h0 : Dat.chk l = 0
  · rw [h0] at hc
    have hok := (Dat.chk_ok l).1 h0
    by_cases hd : Dat.Valid day
    · rw [decide_eq_true (show 0 ≤ day ∧ day ≤ 3652058 from hd)] at hv
      have Hend := Lib.hid (Dat.last_all hok hd)
      have Hl := Lib.hid hl
      clear h0 hok hd hl
      go_enter Try.func15, Try.ntmps15
      go_wp2_with fail
      refine (hc _ ha hB).mono ?_
      rintro e w1 ⟨rfl, hb1⟩
      go_wp2_with fail
      refine (hv _).mono ?_
      rintro e w2 ⟨rfl, rfl⟩
      go_wp2_with fail
      go_loopw [8, 6, 7] (fun i v b wr => ∃ (j : Nat) (vv : Int) (bb : Bool), j ≤ n ∧ i = .int .i64 j ∧ v = .int .i64 vv ∧ b = .bool bb ∧ Dat.last (l.take j) day (0, false) = (vv, bb) ∧ w1 = wr) (fun i _ _ _ => n - (intOf i).toNat)
      case atStart => exact ⟨0, 0, false, by omega, rfl, rfl, rfl, rfl, rfl⟩
      case round =>
        obtain ⟨j, vv, bb, hj, rfl, rfl, rfl, hlast, rfl⟩ := hrel
        have Hlast := Lib.hid hlast
        clear hlast
        by_cases hlt : j < n
        · obtain ⟨x, hxe⟩ : ∃ x, l[j]? = some x := ⟨l[j]'(by rw [Hl.out]; exact hlt), List.getElem?_eq_getElem _⟩
          have hstep := Dat.last_take hxe day (0, false)
          obtain ⟨b, off, rfl, _, g1, g2⟩ := (ha.call hb1 hB).two hxe
          clear hxe
          have q2 : (j : Int) < (n : Int) := by omega
          by_cases hle : x.1 ≤ day
          · rw [if_pos hle] at hstep
            have Hstep := Lib.hid hstep
            clear hstep
            go_wp2_with fail
            go_roundw
            case rel => exact ⟨j + 1, x.2, true, by omega, by go_num, rfl, rfl, Hstep.out, trivial⟩
            case measure => simp [intOf]; omega
          · rw [if_neg hle, Hlast.out] at hstep
            have Hstep := Lib.hid hstep
            clear hstep
            go_wp2_with fail
            go_roundw
            case rel => exact ⟨j + 1, vv, bb, by omega, by go_num, rfl, rfl, Hstep.out, trivial⟩
            case measure => simp [intOf]; omega
        · obtain rfl : j = n := by omega
          have hfin := Hlast.out
          rw [List.take_of_length_le (by rw [Hl.out]; exact Nat.le_refl _), Hend.out] at hfin
          have Hfin := Lib.hid hfin
          clear hfin
          go_wp2_with fail
          go_ret2
          exact ⟨by rw [Hfin.out]; rfl, hb1⟩
    · rw [decide_eq_false (show ¬ (0 ≤ day ∧ day ≤ 3652058) from hd)] at hv
      have hat : Dat.atF l day = (0, false) := by unfold Dat.atF; rw [if_pos (.inr hd)]
      rw [hat]
      clear hl
      go_enter Try.func15, Try.ntmps15
      go_wp2_with fail
      refine (hc _ ha hB).mono ?_
      rintro e w1 ⟨rfl, hb1⟩
      go_wp2_with fail
      refine (hv _).mono ?_
      rintro e w2 ⟨rfl, rfl⟩
      go_wp2_with fail
      go_ret2
      exact ⟨rfl, hb1⟩
  · have hat : Dat.atF l day = (0, false) := by unfold Dat.atF; rw [if_pos (.inl h0)]
    rw [hat]
    generalize Dat.chk l = E at *
    have h1 : (E == 0) = false := by simpa using h0
    have h2 : (E != 0) = true := by simpa using h0
    clear hl
    go_enter Try.func15, Try.ntmps15
    go_wp2_with fail
    refine (hc _ ha hB).mono ?_
    rintro e w1 ⟨rfl, hb1⟩
    go_wp2_with fail
    go_ret2
    exact ⟨rfl, hb1⟩
set_option maxRecDepth 100000 in
set_option maxHeartbeats 4000000 in
theorem refShort_any (A : Option Addr) (n c : Nat) (l : List (Int × Int)) (B : Nat) (w : World) (ha : Shows w B 2 A n (DC l)) (hB : B ≤ w.heap.size) (hn : n ≤ maxLen) (hx : Fits l) :
    Calls Try.prog 19 #[.slice A n c] w (Fresh 31 2 (Dat.shortF l).length (DC (Dat.shortF l)) w) := by
  obtain ⟨i0, hi, hz0, hz1, hz2⟩ := info_parts infoD
  have hc := fun (w' : World) (h : Shows w' B 2 A n (DC l)) (h' : B ≤ w'.heap.size) => refCheck_any A n c l B w' h h' hn hx
  have hl := ha.num
  by_cases h0 : Dat.chk l = 0
  · rw [h0] at hc
    have hok := (Dat.chk_ok l).1 h0
    rw [Dat.shortF_ok hok]
    have h200 : n ≤ 200 := by have := hok.1; omega
    have Hl := Lib.hid hl
    clear h0 hl
    go_enter Try.func19, Try.ntmps19
    go_wp2_with fail
    refine (hc _ ha hB).mono ?_
    rintro e w1 ⟨rfl, hb1⟩
    go_wp2_with fail
    go_loopw [4, 3] (fun i o wr => ∃ (j m cj : Nat) (Aj : Option Addr) (s : List (Int × Int)), j ≤ n ∧ i = .int .i64 j ∧ o = .slice Aj m cj ∧ Dat.dd (l.take j) = s ∧ m ≤ j ∧ wr.ownsRow w.heap.size 31 2 (.slice Aj m cj) m (DC s) ∧ Below w.heap.size w wr) (fun i _ _ => n - (intOf i).toNat)
    case atStart => exact ⟨0, 0, 0, none, [], by omega, rfl, rfl, rfl, by omega, World.ownsRow_nil _ _ _ _, hb1⟩
    case round =>
      obtain ⟨j, m, cj, Aj, s, hj, rfl, rfl, hs, hm, hown, hbel⟩ := hrel
      have Hs := Lib.hid hs
      clear hs
      have hz := hbel.size
      by_cases hlt : j < n
      · obtain ⟨x, hxe⟩ : ∃ x, l[j]? = some x := ⟨l[j]'(by rw [Hl.out]; exact hlt), List.getElem?_eq_getElem _⟩
        have hsh := ha.call hbel hB
        obtain ⟨b, off, rfl, hb, g1, g2⟩ := hsh.two hxe
        rcases j with _ | i
        · obtain rfl : m = 0 := by omega
          have hr := Lib.hid (show Dat.dd (l.take 1) = s ++ [x] by rw [← Hs.out, List.take_add_one, hxe]; rfl)
          simp only [Nat.zero_mul, Nat.add_zero] at g1 g2
          clear hxe
          go_wp2_with fail
          go_quiet (fail)
          go_wp2_with (at_builtin; refine wpList_append_shows _ rfl _ _ 22 rfl w.heap.size 31 i0 (.agg #[.int .i64 0, .int .i64 0]) 2 16 Try.underlying22 hi hz0 hz1 hz2 rfl (by decide) _ 0 (DC s) rfl (by exact World.ownsRow.alloc (w := World.drewN wr _) hown _) _ (some ⟨wr.heap.size, 0, none⟩) 1 1 (DC [(x.1, x.2)]) rfl (by exact shows_one (World.drewN wr _) x.1 x.2 _ rfl) (dc_one _) (by unfold maxLen; omega) (by omega) (by simp; omega) ?_; intro A2 c2 w2 hown2 hg2)
          go_roundw
          case rel => exact ⟨1, 0 + 1, c2, A2, s ++ [x], by omega, rfl, rfl, hr.out, by omega, by rw [dc_append]; exact hown2, bel_grown (bel_alloc (bel_drewN hbel _) _) hg2 (fun g hg => (hown.lt g hg).1)⟩
          case measure => simp [intOf]; omega
        · obtain ⟨y, hye⟩ : ∃ y, l[i]? = some y := ⟨l[i]'(by rw [Hl.out]; omega), List.getElem?_eq_getElem _⟩
          obtain ⟨b', off', hA, _, g3, g4⟩ := hsh.two hye
          injection hA with hA
          injection hA with hA1 hA2
          subst hA1; subst hA2
          have hd := Dat.dd_take hye hxe
          rw [Hs.out] at hd
          have d1 : ((i : Int) + 1 == 0) = false := by simp; omega
          have q1 : IntKind.i64.wrap ((i : Int) + 1 - 1) = (i : Int) := by rw [IntWalk.i64_in _ (by omega)]; omega
          have q2 : IntKind.i64.wrap (i : Int) = (i : Int) := IntWalk.i64_in _ (by omega)
          have q3 : (0 : Int) ≤ (i : Int) := by omega
          have q4 : (i : Int) < (n : Int) := by omega
          have q7 : (i : Int) + 1 < (n : Int) := by omega
          have q8 : (0 : Int) ≤ (i : Int) + 1 := by omega
          clear hxe hye
          by_cases he : x.2 = y.2
          · rw [if_pos he, List.append_nil] at hd
            have hr := Lib.hid hd
            have hb1 : (x.2 != y.2) = false := by simp [he]
            clear hd
            have He := Lib.hid he
            clear he
            go_wp2_with fail
            go_quiet (fail)
            go_wp2_with fail
            go_roundw
            case rel => exact ⟨i + 1 + 1, m, cj, Aj, s, by omega, by go_num, rfl, hr.out, by omega, hown, bel_drewN hbel _⟩
            case measure => simp [intOf]; omega
          · rw [if_neg he] at hd
            have hr := Lib.hid hd
            have hb1 : (x.2 != y.2) = true := by simpa using he
            clear hd
            go_wp2_with fail
            go_quiet (fail)
            go_wp2_with (at_builtin; refine wpList_append_shows _ rfl _ _ 22 rfl w.heap.size 31 i0 (.agg #[.int .i64 0, .int .i64 0]) 2 16 Try.underlying22 hi hz0 hz1 hz2 rfl (by decide) _ m (DC s) rfl (by exact World.ownsRow.alloc (w := World.drewN wr _) hown _) _ (some ⟨wr.heap.size, 0, none⟩) 1 1 (DC [(x.1, x.2)]) rfl (by exact shows_one (World.drewN wr _) x.1 x.2 _ rfl) (dc_one _) (by unfold maxLen; omega) (by omega) (by simp; omega) ?_; intro A2 c2 w2 hown2 hg2)
            go_roundw
            case rel => exact ⟨i + 1 + 1, m + 1, c2, A2, s ++ [x], by omega, by go_num, rfl, hr.out, by omega, by rw [dc_append]; exact hown2, bel_grown (bel_alloc (bel_drewN hbel _) _) hg2 (fun g hg => (hown.lt g hg).1)⟩
            case measure => simp [intOf]; omega
      · obtain rfl : j = n := by omega
        have hfin := Hs.out
        rw [List.take_of_length_le (by rw [Hl.out]; exact Nat.le_refl _)] at hfin
        have hms : s.length = m := by have := hown.1; rw [dc_len] at this; omega
        have Hfin := Lib.hid hfin
        have Hms := Lib.hid hms
        clear hfin hms
        go_wp2_with fail
        go_ret
        exact ⟨Aj, cj, by rw [Hfin.out, Hms.out]; rfl, by rw [Hfin.out, Hms.out]; exact hown, hbel⟩
  · have he : Dat.shortF l = [] := by unfold Dat.shortF; rw [if_pos h0]
    rw [he]
    generalize Dat.chk l = E at *
    have h1 : (E == 0) = false := by simpa using h0
    have h2 : (E != 0) = true := by simpa using h0
    clear hl
    go_enter Try.func19, Try.ntmps19
    go_wp2_with fail
    refine (hc _ ha hB).mono ?_
    rintro e w1 ⟨rfl, hb1⟩
    go_wp2_with fail
    go_ret
    exact ⟨none, 0, rfl, World.ownsRow_nil _ _ _ _, hb1⟩
theorem own_grown {w w' : World} {base : Nat} {e : TypeId} {size n : Nat} {v : Value} {xs : List Value} {row : Option Nat} (h : w.ownsRow base e size v n xs) (hg : w.grownBy w' row) (hr : ∀ k, row = some k → k < base) : w'.ownsRow base e size v n xs := by
  obtain ⟨h1, h2⟩ := h
  refine ⟨h1, ?_⟩
  rcases h2 with h2 | ⟨g, cap, cur, hv, hb, hc, hrest⟩
  · exact .inl h2
  · refine .inr ⟨g, cap, cur, hv, hb, ?_, hrest⟩
    rw [hg.block g (by
      rcases Nat.lt_or_ge g w.heap.size with hlt | hge
      · exact hlt
      · rw [Array.getElem?_eq_none hge] at hc; cases hc) (fun e => by have := hr g e.symm; omega)]
    exact hc
set_option maxRecDepth 100000 in
set_option maxHeartbeats 2000000 in
/-- A fresh list is overwritten: nothing else has turned. -/
theorem over_any (A : Option Addr) (n c base : Nat) (l : List (Int × Int)) (w : World) (ho : w.ownsRow base 31 2 (.slice A n c) n (DC l)) :
    Calls Try.prog 20 #[.slice A n c] w fun e w' => e = .returned (.tuple #[]) ∧ w.grownBy w' (Value.slice A n c).ownBlock := by
  rcases own_row ho with ⟨rfl, rfl, rfl, rfl⟩ | ⟨g, junk, rfl, hg1, hg2, hrow, hnc, hcm, hj⟩
  · go_enter Try.func20, Try.ntmps20
    go_wp2_with fail
    go_loopw [2] (fun i wr => i = .int .i64 0 ∧ w = wr) (fun _ _ => 0)
    case atStart => exact ⟨rfl, rfl⟩
    case round =>
      obtain ⟨rfl, rfl⟩ := hrel
      go_wp2_with fail
      go_returns
      exact ⟨rfl, World.grownBy.refl _ _⟩
  · have hl : l.length = n := by have := ho.1; rw [dc_len] at this; omega
    have Hl := Lib.hid hl
    unfold maxLen at hcm
    clear ho hl
    go_enter Try.func20, Try.ntmps20
    go_wp2_with fail
    go_loopw [2] (fun i wr => ∃ (j : Nat) (s : List (Int × Int)), j ≤ n ∧ i = .int .i64 j ∧ RowD wr g s junk ∧ Hid (s.length = n) ∧ w.grownBy wr (some g)) (fun i _ => n - (intOf i).toNat)
    case atStart => exact ⟨0, l, by omega, rfl, hrow, Hl, World.grownBy.refl _ _⟩
    case round =>
      obtain ⟨j, s, hj, rfl, hrow2, Hs, hgr⟩ := hrel
      by_cases hlt : j < n
      · obtain ⟨x, hxe⟩ : ∃ x, s[j]? = some x := ⟨s[j]'(by rw [Hs.out]; exact hlt), List.getElem?_eq_getElem _⟩
        obtain ⟨g1, g2⟩ := hrow2.two hxe
        have hset := hrow2.set (k := j) (by rw [Hs.out]; exact hlt) (-5, -5)
        have hf0 := Block.free hrow2
        have Hs2 : Hid ((s.set j (-5, -5)).length = n) := by
          show _ = _
          rw [List.length_set, Hs.out]
        clear hxe
        go_wp2_with fail
        go_roundw
        case rel => exact ⟨j + 1, s.set j (-5, -5), by omega, by go_num, hset, Hs2, grown_set (grown_set hgr _ rfl _) _ rfl _⟩
        case measure => simp [intOf]; omega
      · have hlt3 : ¬ (j : Int) < (n : Int) := by omega
        go_wp2_with fail
        go_returns
        exact ⟨rfl, hgr⟩
end Go.Proofs.Ytoedhcenmbpeeaa
