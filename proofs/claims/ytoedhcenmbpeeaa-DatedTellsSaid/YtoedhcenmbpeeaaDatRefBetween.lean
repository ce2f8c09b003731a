/- The walk of the document's 'Between'. Printed by genbetween.py. -/
import Derived.Test.YtoedhcenmbpeeaaDatRefs
namespace Go.Proofs.Ytoedhcenmbpeeaa
open Go.RowKit

set_option maxRecDepth 100000 in
set_option maxHeartbeats 8000000 in
theorem refBetween_any (A : Option Addr) (n c : Nat) (l : List (Int × Int)) (f t : Int) (B : Nat) (w : World) (ha : Shows w B 2 A n (DC l)) (hB : B ≤ w.heap.size) (hn : n ≤ maxLen) (hx : Fits l) (hnc : n ≤ c) :
    Calls Try.prog 18 #[.slice A n c, .int .i64 f, .int .i64 t] w (Fresh 31 2 (Dat.betF l f t).length (DC (Dat.betF l f t)) w) := by
  obtain ⟨i0, hi, hz0, hz1, hz2⟩ := info_parts infoD
  have hc := fun (w' : World) (h : Shows w' B 2 A n (DC l)) (h' : B ≤ w'.heap.size) => refCheck_any A n c l B w' h h' hn hx
  have hvf := fun (w' : World) => refDay_any f w'
  have hvt := fun (w' : World) => refDay_any t w'
  have hl := ha.num
  by_cases h0 : Dat.chk l = 0
  · rw [h0] at hc
    have hok := (Dat.chk_ok l).1 h0
    by_cases hf : Dat.Valid f
    · rw [decide_eq_true (show 0 ≤ f ∧ f ≤ 3652058 from hf)] at hvf
      by_cases ht : Dat.Valid t
      · rw [decide_eq_true (show 0 ≤ t ∧ t ≤ 3652058 from ht)] at hvt
        by_cases hft : t < f
        · rw [show Dat.betF l f t = [] by unfold Dat.betF; rw [if_pos (.inr (.inr (.inr hft)))]]
          clear hl h0 hok hf ht
          go_enter Try.func18, Try.ntmps18
          go_wp2_with fail
          refine (hc _ ha hB).mono ?_
          rintro e w1 ⟨rfl, hb1⟩
          go_wp2_with fail
          refine (hvf _).mono ?_
          rintro e w2 ⟨rfl, rfl⟩
          go_wp2_with fail
          refine (hvt _).mono ?_
          rintro e w2 ⟨rfl, rfl⟩
          go_wp2_with fail
          go_ret
          exact ⟨none, 0, rfl, World.ownsRow_nil _ _ _ _, hb1⟩
        · have Hbf := Lib.hid (show Dat.betF l f t = Dat.dd (Dat.mids l f t l.length) by unfold Dat.betF; rw [if_neg (by simp [h0, hf, ht]; omega)])
          have h200 : n ≤ 200 := by have := hok.1; omega
          have hkn : Dat.cnt l f ≤ n := by rw [← hl]; exact Dat.cnt_le l f
          obtain ⟨v, b, hvb, hst⟩ : ∃ v b, Dat.atF l f = (v, b) ∧ ((b = false ∧ Dat.start l f = []) ∨ (b = true ∧ Dat.start l f = [(f, v)])) := by
            by_cases hz : Dat.cnt l f = 0
            · exact ⟨0, false, by unfold Dat.atF; rw [if_neg (by simp [h0, hf]), if_pos hz], .inl ⟨rfl, by unfold Dat.start; rw [if_pos hz]⟩⟩
            · exact ⟨_, true, by unfold Dat.atF; rw [if_neg (by simp [h0, hf]), if_neg hz], .inr ⟨rfl, by unfold Dat.start; rw [if_neg hz]⟩⟩
          have hat := fun (w' : World) (h : Shows w' B 2 A n (DC l)) (h' : B ≤ w'.heap.size) => refAt_any A n c l f B w' h h' hn hx
          rw [hvb] at hat
          have hmc := Dat.mids_zero l f t
          have hat2 := fun (d : Int) (w' : World) (h : Shows w' B 2 A n (DC l)) (h' : B ≤ w'.heap.size) => refAt_any A n c l d B w' h h' hn hx
          have Hl := Lib.hid hl
          have Hok := Lib.hid hok
          have Hmc := Lib.hid hmc
          have Hst := Lib.hid hst
          have Hft := Lib.hid hft
          unfold Dat.Valid at hf ht
          clear h0 hl hok hmc hst hvb
          go_enter Try.func18, Try.ntmps18
          go_wp2_with fail
          refine (hc _ ha hB).mono ?_
          rintro e w1 ⟨rfl, hb1⟩
          go_wp2_with fail
          refine (hvf _).mono ?_
          rintro e w2 ⟨rfl, rfl⟩
          go_wp2_with fail
          refine (hvt _).mono ?_
          rintro e w2 ⟨rfl, rfl⟩
          go_wp2_with fail
          refine (hat _ (ha.call hb1 hB) (Nat.le_trans hB hb1.size)).mono ?_
          rintro e w3 ⟨rfl, hb3⟩
          have bel3 := bel_call hb1 hb3
          clear hc hvf hvt hat
          go_upto_if 37 with fail
          go_cut [7] (fun o wx => ∃ (m cj : Nat) (Aj : Option Addr) (s : List (Int × Int)), o = .slice Aj m cj ∧ Dat.dd (Dat.start l f) = s ∧ m ≤ 1 ∧ wx.ownsRow w.heap.size 31 2 (.slice Aj m cj) m (DC s) ∧ Below w.heap.size w wx)
          case first =>
            have z3 := bel3.size
            rcases Hst.out with ⟨rfl, hs⟩ | ⟨rfl, hs⟩
            · have Hs := Lib.hid hs
              clear hs
              go_wp2_with fail
              go_meet
              exact ⟨0, 0, none, [], rfl, by rw [Hs.out]; rfl, by omega, World.ownsRow_nil _ _ _ _, bel3⟩
            · have Hs := Lib.hid hs
              clear hs
              go_wp2_with (at_builtin; refine wpList_append_shows _ rfl _ _ 22 rfl w.heap.size 31 i0 (.agg #[.int .i64 0, .int .i64 0]) 2 16 Try.underlying22 hi hz0 hz1 hz2 rfl (by decide) _ 0 [] rfl (by exact World.ownsRow_nil _ _ _ _) _ (some ⟨w3.heap.size, 0, none⟩) 1 1 (DC [(f, v)]) rfl (by exact shows_one w3 f v _ rfl) (dc_one _) (by unfold maxLen; omega) (by omega) (by simp; omega) ?_; intro A2 c2 w2 hown2 hg2)
              go_meet
              exact ⟨1, c2, A2, [(f, v)], rfl, by rw [Hs.out]; rfl, by omega, by simpa using hown2, bel_grown (bel_alloc bel3 _) hg2 (fun g hg => by cases hg)⟩
          case rest =>
            obtain ⟨m, cj, Aj, s, rfl, hs, hm, hown, hbel⟩ := hcut
            have Hs := Lib.hid hs
            clear hs Hst
            go_wp2_with fail
            go_loopw [10, 7] (fun i o wr => ∃ (j m cj : Nat) (Aj : Option Addr) (s : List (Int × Int)), j ≤ n ∧ i = .int .i64 j ∧ o = .slice Aj m cj ∧ Dat.dd (Dat.mids l f t j) = s ∧ m ≤ j + 1 ∧ wr.ownsRow w.heap.size 31 2 (.slice Aj m cj) m (DC s) ∧ Below w.heap.size w wr) (fun i _ _ => n - (intOf i).toNat)
            case atStart => exact ⟨0, m, cj, Aj, s, by omega, rfl, rfl, by rw [Hmc.out]; exact Hs.out, by omega, hown, hbel⟩
            case round =>
              clear hown hbel hm Hs
              obtain ⟨j, m, cj, Aj, s, hj, rfl, rfl, hs, hm, hown, hbel⟩ := hrel
              have Hs := Lib.hid hs
              clear hs
              have hz := hbel.size
              have hms : s.length = m := by have := hown.1; rw [dc_len] at this; omega
              have Hms := Lib.hid hms
              clear hms
              by_cases hlt : j < n
              · obtain ⟨x, hxe⟩ : ∃ x, l[j]? = some x := ⟨l[j]'(by rw [Hl.out]; omega), List.getElem?_eq_getElem _⟩
                have hsh := ha.call hbel hB
                obtain ⟨b0, off, rfl, hb0, g1, g2⟩ := hsh.two hxe
                have hvx := Dat.ok_valid Hok.out hxe
                unfold Dat.Valid at hvx
                have q2 : (j : Int) < (n : Int) := by omega
                have Hxe := Lib.hid hxe
                clear hxe
                by_cases hfx : x.1 ≤ f
                · have hr := Lib.hid (show Dat.dd (Dat.mids l f t (j + 1)) = s by rw [Dat.mids_out Hxe.out (by omega)]; exact Hs.out)
                  go_wp2_with fail
                  go_roundw
                  case rel => exact ⟨j + 1, m, cj, Aj, s, by omega, by go_num, rfl, hr.out, by omega, hown, hbel⟩
                  case measure => simp [intOf]; omega
                · by_cases hxt : t < x.1
                  · have hr := Lib.hid (show Dat.dd (Dat.mids l f t (j + 1)) = s by rw [Dat.mids_out Hxe.out (by omega)]; exact Hs.out)
                    go_wp2_with fail
                    go_roundw
                    case rel => exact ⟨j + 1, m, cj, Aj, s, by omega, by go_num, rfl, hr.out, by omega, hown, hbel⟩
                    case measure => simp [intOf]; omega
                  · have hin := Dat.bet_in Hok.out Hxe.out (show f < x.1 by omega) (show x.1 ≤ t by omega)
                    have ha2 := Dat.at_ahead Hok.out Hxe.out (show 0 < x.1 by omega)
                    have hq := hat2 (x.1 - 1)
                    rw [Hs.out] at hin
                    rw [ha2] at hq
                    clear ha2
                    have q5 : IntKind.i64.wrap (x.1 - 1) = x.1 - 1 := IntWalk.i64_in _ (by omega)
                    rcases j with _ | i
                    · have hr := Lib.hid (show Dat.dd (Dat.mids l f t (0 + 1)) = s ++ [x] by rw [hin]; rfl)
                      simp only [Nat.zero_mul, Nat.add_zero] at g1 g2
                      rw [if_pos rfl] at hq
                      clear hin
                      go_wp2_with fail
                      refine (hq _ hsh (Nat.le_trans hB hz)).mono ?_
                      rintro e w5 ⟨rfl, hb5⟩
                      have c1 := (hb5.cell (p := ⟨b0, off, none⟩) (show b0 < wr.heap.size by omega)).trans g1
                      have c2' := (hb5.cell (p := ⟨b0, off + 1, none⟩) (show b0 < wr.heap.size by omega)).trans g2
                      have z5 := hb5.size
                      go_wp2_with (at_builtin; refine wpList_append_shows _ rfl _ _ 22 rfl w.heap.size 31 i0 (.agg #[.int .i64 0, .int .i64 0]) 2 16 Try.underlying22 hi hz0 hz1 hz2 rfl (by decide) _ m (DC s) rfl (by exact World.ownsRow.alloc (own_below hown hb5) _) _ (some ⟨w5.heap.size, 0, none⟩) 1 1 (DC [(x.1, x.2)]) rfl (by exact shows_one w5 x.1 x.2 _ rfl) (dc_one _) (by unfold maxLen; omega) (by omega) (by simp; omega) ?_; intro A2 c2 w2 hown2 hg2)
                      go_roundw
                      case rel => exact ⟨0 + 1, m + 1, c2, A2, s ++ [x], by omega, by first | rfl | go_num, rfl, hr.out, by omega, by rw [dc_append]; exact hown2, bel_grown (bel_alloc (bel_call hbel hb5) _) hg2 (fun g hg => (hown.lt g hg).1)⟩
                      case measure => simp [intOf]; omega
                    · obtain ⟨y, hye⟩ : ∃ y, l[i]? = some y := ⟨l[i]'(by rw [Hl.out]; omega), List.getElem?_eq_getElem _⟩
                      rw [Dat.val_succ hye] at hin
                      rw [if_neg (by omega), Nat.add_sub_cancel, List.getD, hye] at hq
                      simp only [Option.getD_some] at hq
                      clear hye
                      have q8 : (0 : Int) ≤ (i : Int) + 1 := by omega
                      have q7 : (i : Int) + 1 < (n : Int) := by omega
                      by_cases he : y.2 = x.2
                      · have hr := Lib.hid (show Dat.dd (Dat.mids l f t (i + 1 + 1)) = s by rw [hin, if_pos (by rw [he]), List.append_nil])
                        have hb2 : (y.2 != x.2) = false := by simp [he]
                        have He := Lib.hid he
                        clear hin he
                        go_wp2_with fail
                        refine (hq _ hsh (Nat.le_trans hB hz)).mono ?_
                        rintro e w5 ⟨rfl, hb5⟩
                        have c1 := (hb5.cell (p := ⟨b0, off + (i + 1) * 2, none⟩) (show b0 < wr.heap.size by omega)).trans g1
                        have c2' := (hb5.cell (p := ⟨b0, off + (i + 1) * 2 + 1, none⟩) (show b0 < wr.heap.size by omega)).trans g2
                        have z5 := hb5.size
                        go_wp2_with fail
                        go_roundw
                        case rel => exact ⟨i + 1 + 1, m, cj, Aj, s, by omega, by go_num, rfl, hr.out, by omega, own_below hown hb5, bel_call hbel hb5⟩
                        case measure => simp [intOf]; omega
                      · have hr := Lib.hid (show Dat.dd (Dat.mids l f t (i + 1 + 1)) = s ++ [x] by rw [hin, if_neg (fun e => he (Option.some.inj e))])
                        have hb2 : (y.2 != x.2) = true := by simpa using he
                        clear hin
                        go_wp2_with fail
                        refine (hq _ hsh (Nat.le_trans hB hz)).mono ?_
                        rintro e w5 ⟨rfl, hb5⟩
                        have c1 := (hb5.cell (p := ⟨b0, off + (i + 1) * 2, none⟩) (show b0 < wr.heap.size by omega)).trans g1
                        have c2' := (hb5.cell (p := ⟨b0, off + (i + 1) * 2 + 1, none⟩) (show b0 < wr.heap.size by omega)).trans g2
                        have z5 := hb5.size
                        go_wp2_with (at_builtin; refine wpList_append_shows _ rfl _ _ 22 rfl w.heap.size 31 i0 (.agg #[.int .i64 0, .int .i64 0]) 2 16 Try.underlying22 hi hz0 hz1 hz2 rfl (by decide) _ m (DC s) rfl (by exact World.ownsRow.alloc (own_below hown hb5) _) _ (some ⟨w5.heap.size, 0, none⟩) 1 1 (DC [(x.1, x.2)]) rfl (by exact shows_one w5 x.1 x.2 _ rfl) (dc_one _) (by unfold maxLen; omega) (by omega) (by simp; omega) ?_; intro A2 c2 w2 hown2 hg2)
                        go_roundw
                        case rel => exact ⟨i + 1 + 1, m + 1, c2, A2, s ++ [x], by omega, by first | rfl | go_num, rfl, hr.out, by omega, by rw [dc_append]; exact hown2, bel_grown (bel_alloc (bel_call hbel hb5) _) hg2 (fun g hg => (hown.lt g hg).1)⟩
                        case measure => simp [intOf]; omega
              · obtain rfl : j = n := by omega
                have hfin := Hs.out
                rw [← Hl.out] at hfin
                have Hfin := Lib.hid (Hbf.out.trans hfin)
                clear hfin
                go_wp2_with fail
                go_ret
                exact ⟨Aj, cj, by rw [Hfin.out, Hms.out]; rfl, by rw [Hfin.out, Hms.out]; exact hown, hbel⟩
      · rw [decide_eq_false (show ¬ (0 ≤ t ∧ t ≤ 3652058) from ht)] at hvt
        rw [show Dat.betF l f t = [] by unfold Dat.betF; rw [if_pos (.inr (.inr (.inl ht)))]]
        clear hl h0 hok hf ht
        go_enter Try.func18, Try.ntmps18
        go_wp2_with fail
        refine (hc _ ha hB).mono ?_
        rintro e w1 ⟨rfl, hb1⟩
        go_wp2_with fail
        refine (hvf _).mono ?_
        rintro e w2 ⟨rfl, rfl⟩
        go_wp2_with fail
        refine (hvt _).mono ?_
        rintro e w2 ⟨rfl, rfl⟩
        go_wp2_with fail
        go_ret
        exact ⟨none, 0, rfl, World.ownsRow_nil _ _ _ _, hb1⟩
    · rw [decide_eq_false (show ¬ (0 ≤ f ∧ f ≤ 3652058) from hf)] at hvf
      rw [show Dat.betF l f t = [] by unfold Dat.betF; rw [if_pos (.inr (.inl hf))]]
      clear hl h0 hok hf
      go_enter Try.func18, Try.ntmps18
      go_wp2_with fail
      refine (hc _ ha hB).mono ?_
      rintro e w1 ⟨rfl, hb1⟩
      go_wp2_with fail
      refine (hvf _).mono ?_
      rintro e w2 ⟨rfl, rfl⟩
      go_wp2_with fail
      go_ret
      exact ⟨none, 0, rfl, World.ownsRow_nil _ _ _ _, hb1⟩
  · rw [show Dat.betF l f t = [] by unfold Dat.betF; rw [if_pos (.inl h0)]]
    generalize Dat.chk l = E at *
    have h1 : (E == 0) = false := by simpa using h0
    have h2 : (E != 0) = true := by simpa using h0
    clear hl
    go_enter Try.func18, Try.ntmps18
    go_wp2_with fail
    refine (hc _ ha hB).mono ?_
    rintro e w1 ⟨rfl, hb1⟩
    go_wp2_with fail
    go_ret
    exact ⟨none, 0, rfl, World.ownsRow_nil _ _ _ _, hb1⟩
end Go.Proofs.Ytoedhcenmbpeeaa
