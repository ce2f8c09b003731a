/- The walk of 'dated.Between'. Printed by genbetween.py. -/
import Derived.Test.YtoedhcenmbpeeaaDatRefs
namespace Go.Proofs.Ytoedhcenmbpeeaa
open Go.RowKit

theorem dc_drop (l : List (Int × Int)) (k : Nat) : (DC l).drop (k * 2) = DC (l.drop k) := by
  induction l generalizing k with
  | nil => simp [DC]
  | cons y t ih =>
    rcases k with _ | k
    · simp [DC]
    · rw [show (k + 1) * 2 = k * 2 + 2 by omega, List.drop_succ_cons, dc_cons, ← ih k]
      rfl
set_option maxRecDepth 100000 in
set_option maxHeartbeats 8000000 in
theorem between_any (A : Option Addr) (n c : Nat) (l : List (Int × Int)) (f t : Int) (B : Nat) (w : World) (ha : Shows w B 2 A n (DC l)) (hB : B ≤ w.heap.size) (hn : n ≤ maxLen) (hx : Fits l) (hnc : n ≤ c) :
    Calls Try.prog 16 #[.slice A n c, .int .i64 f, .int .i64 t] w (Fresh 31 2 (Dat.betF l f t).length (DC (Dat.betF l f t)) w) := by
  obtain ⟨i0, hi, hz0, hz1, hz2⟩ := info_parts infoD
  have hc := fun (w' : World) (h : Shows w' B 2 A n (DC l)) (h' : B ≤ w'.heap.size) => check_any A n c l B w' h h' hn hx
  have hvf := fun (w' : World) => valid_any f w'
  have hvt := fun (w' : World) => valid_any t w'
  have hl := ha.num
  by_cases h0 : Dat.chk l = 0
  · rw [h0] at hc
    have hok := (Dat.chk_ok l).1 h0
    by_cases hf : Dat.Valid f
    · rw [decide_eq_true (show 0 ≤ f ∧ f ≤ 3652058 from hf)] at hvf
      by_cases ht : Dat.Valid t
      · rw [decide_eq_true (show 0 ≤ t ∧ t ≤ 3652058 from ht)] at hvt
        by_cases hft : t < f
        · rw [show Dat.betF l f t = [] by unfold Dat.betF; rw [if_pos (.inr (.inr (.inr hft)))]]
          clear hl h0 hok hf ht
          go_enter Try.func16, Try.ntmps16
          go_wp2_with fail
          refine (hc _ ha hB).mono ?_
          rintro e w1 ⟨rfl, hb1⟩
          go_wp2_with fail
          refine (hvf _).mono ?_
          rintro e w2 ⟨rfl, rfl⟩
          go_wp2_with fail
          refine (hvt _).mono ?_
          rintro e w2 ⟨rfl, rfl⟩
          go_wp2_with fail
          go_ret
          exact ⟨none, 0, rfl, World.ownsRow_nil _ _ _ _, hb1⟩
        · have Hbf := Lib.hid (show Dat.betF l f t = Dat.dd (Dat.mids l f t l.length) by unfold Dat.betF; rw [if_neg (by simp [h0, hf, ht]; omega)])
          have h200 : n ≤ 200 := by have := hok.1; omega
          have hkn : Dat.cnt l f ≤ n := by rw [← hl]; exact Dat.cnt_le l f
          obtain ⟨v, b, hvb, hst⟩ : ∃ v b, Dat.atF l f = (v, b) ∧ ((b = false ∧ Dat.start l f = []) ∨ (b = true ∧ Dat.start l f = [(f, v)])) := by
            by_cases hz : Dat.cnt l f = 0
            · exact ⟨0, false, by unfold Dat.atF; rw [if_neg (by simp [h0, hf]), if_pos hz], .inl ⟨rfl, by unfold Dat.start; rw [if_pos hz]⟩⟩
            · exact ⟨_, true, by unfold Dat.atF; rw [if_neg (by simp [h0, hf]), if_neg hz], .inr ⟨rfl, by unfold Dat.start; rw [if_neg hz]⟩⟩
          have hat := fun (w' : World) (h : Shows w' B 2 A n (DC l)) (h' : B ≤ w'.heap.size) => at_any A n c l f B w' h h' hn hx
          rw [hvb] at hat
          have hmc := Dat.mids_cnt l f t
          have hbe := fun (w' : World) (h : Shows w' B 2 A n (DC l)) (h' : B ≤ w'.heap.size) => behind_any A n c l f B w' h h' hok
          have hhi := fun (i : Nat) (x : Int × Int) => Dat.cnt_hi (day := f) hok (i := i) (x := x)
          generalize Dat.cnt l f = k at hbe hkn hmc hhi
          obtain ⟨Ac, hcutS, hsh⟩ := cut_from (P := Try.prog) 2 Try.underlying22 size_dated A n c k hkn hnc
          obtain ⟨N, hN⟩ : ∃ N, n - k = N := ⟨_, rfl⟩
          have hnk : n = k + N := by omega
          have hN2 : N ≤ 200 := by omega
          rw [hN] at hcutS hsh
          have Hhi := Lib.hid hhi
          have HN := Lib.hid hnk
          clear hN hhi hnk
          have Hl := Lib.hid hl
          have Hok := Lib.hid hok
          have Hmc := Lib.hid hmc
          have Hst := Lib.hid hst
          have Hft := Lib.hid hft
          unfold Dat.Valid at hf ht
          clear h0 hl hok hmc hst hvb
          go_enter Try.func16, Try.ntmps16
          go_wp2_with fail
          refine (hc _ ha hB).mono ?_
          rintro e w1 ⟨rfl, hb1⟩
          go_wp2_with fail
          refine (hvf _).mono ?_
          rintro e w2 ⟨rfl, rfl⟩
          go_wp2_with fail
          refine (hvt _).mono ?_
          rintro e w2 ⟨rfl, rfl⟩
          go_wp2_with fail
          refine (hat _ (ha.call hb1 hB) (Nat.le_trans hB hb1.size)).mono ?_
          rintro e w3 ⟨rfl, hb3⟩
          have bel3 := bel_call hb1 hb3
          clear hc hvf hvt hat
          go_upto_if 36 with fail
          go_cut [7] (fun o wx => ∃ (m cj : Nat) (Aj : Option Addr) (s : List (Int × Int)), o = .slice Aj m cj ∧ Dat.dd (Dat.start l f) = s ∧ m ≤ 1 ∧ wx.ownsRow w.heap.size 31 2 (.slice Aj m cj) m (DC s) ∧ Below w.heap.size w wx)
          case first =>
            have z3 := bel3.size
            rcases Hst.out with ⟨rfl, hs⟩ | ⟨rfl, hs⟩
            · have Hs := Lib.hid hs
              clear hs
              go_wp2_with fail
              go_meet
              exact ⟨0, 0, none, [], rfl, by rw [Hs.out]; rfl, by omega, World.ownsRow_nil _ _ _ _, bel3⟩
            · have Hs := Lib.hid hs
              clear hs
              go_wp2_with (at_builtin; refine wpList_append_shows _ rfl _ _ 22 rfl w.heap.size 31 i0 (.agg #[.int .i64 0, .int .i64 0]) 2 16 Try.underlying22 hi hz0 hz1 hz2 rfl (by decide) _ 0 [] rfl (by exact World.ownsRow_nil _ _ _ _) _ (some ⟨w3.heap.size, 0, none⟩) 1 1 (DC [(f, v)]) rfl (by exact shows_one w3 f v _ rfl) (dc_one _) (by unfold maxLen; omega) (by omega) (by simp; omega) ?_; intro A2 c2 w2 hown2 hg2)
              go_meet
              exact ⟨1, c2, A2, [(f, v)], rfl, by rw [Hs.out]; rfl, by omega, by simpa using hown2, bel_grown (bel_alloc bel3 _) hg2 (fun g hg => by cases hg)⟩
          case rest =>
            obtain ⟨m, cj, Aj, s, rfl, hs, hm, hown, hbel⟩ := hcut
            have Hs := Lib.hid hs
            clear hs Hst
            go_wp2_with fail
            refine (hbe _ (ha.call hbel hB) (Nat.le_trans hB hbel.size)).mono ?_
            rintro e w4 ⟨rfl, hb4⟩
            have hown4 := own_below hown hb4
            have bel4 := bel_call hbel hb4
            clear hbe
            go_wp2_with fail
            go_loopw [49, 7] (fun i o wr => ∃ (j m cj : Nat) (Aj : Option Addr) (s : List (Int × Int)), j ≤ N ∧ i = .int .i64 j ∧ o = .slice Aj m cj ∧ Dat.dd (Dat.mids l f t (k + j)) = s ∧ m ≤ j + 1 ∧ wr.ownsRow w.heap.size 31 2 (.slice Aj m cj) m (DC s) ∧ Below w.heap.size w wr) (fun i _ _ => N - (intOf i).toNat)
            case atStart => exact ⟨0, m, cj, Aj, s, by omega, rfl, rfl, by rw [Nat.add_zero, Hmc.out]; exact Hs.out, by omega, hown4, bel4⟩
            case round =>
              clear hown hbel hm Hs hown4 bel4
              obtain ⟨j, m, cj, Aj, s, hj, rfl, rfl, hs, hm, hown, hbel⟩ := hrel
              have Hs := Lib.hid hs
              clear hs
              have hz := hbel.size
              have hms : s.length = m := by have := hown.1; rw [dc_len] at this; omega
              have Hms := Lib.hid hms
              clear hms
              by_cases hlt : j < N
              · obtain ⟨x, hxe⟩ : ∃ x, l[k + j]? = some x := ⟨l[k + j]'(by rw [Hl.out, HN.out]; omega), List.getElem?_eq_getElem _⟩
                have hsh2 := hsh _ _ _ (ha.call hbel hB)
                rw [dc_drop] at hsh2
                obtain ⟨b0, off, rfl, hb0, g1, g2⟩ := hsh2.two (i := j) (x := x) (by rw [List.getElem?_drop]; exact hxe)
                have hfx := Hhi.out _ _ hxe (by omega)
                have hown2b := World.ownsRow.alloc hown (.cells #[.int .i64 x.1, .int .i64 x.2] 31)
                have belb := bel_alloc hbel (.cells #[.int .i64 x.1, .int .i64 x.2] 31)
                have q2 : (j : Int) < (N : Int) := by omega
                have Hxe := Lib.hid hxe
                clear hxe hsh2
                by_cases hxt : x.1 ≤ t
                · have hin := Dat.bet_in Hok.out Hxe.out hfx hxt
                  have hla := Dat.bet_last Hok.out Hxe.out hfx hxt
                  rw [Hs.out] at hin hla
                  rw [← hla] at hin
                  clear hla
                  rcases m with _ | m'
                  · have hs0 : s = [] := List.eq_nil_of_length_eq_zero Hms.out
                    have hr0 := Lib.hid (show Dat.dd (Dat.mids l f t (k + j + 1)) = s ++ [x] by rw [hin, hs0]; rfl)
                    clear hs0 hin
                    go_wp2_with fail
                    go_quiet (fail)
                    go_wp2_with (at_builtin; refine wpList_append_shows _ rfl _ _ 22 rfl w.heap.size 31 i0 (.agg #[.int .i64 0, .int .i64 0]) 2 16 Try.underlying22 hi hz0 hz1 hz2 rfl (by decide) _ 0 (DC s) rfl (by exact World.ownsRow.alloc (w := World.drewN (World.alloc wr _) _) hown2b _) _ (some ⟨wr.heap.size + 1, 0, none⟩) 1 1 (DC [(x.1, x.2)]) rfl (by exact shows_one (World.drewN (World.alloc wr _) _) x.1 x.2 _ (by simp [World.drewN])) (dc_one _) (by unfold maxLen; omega) (by omega) (by simp; omega) ?_; intro A2 c2 w2 hown2 hg2)
                    go_roundw
                    case rel => exact ⟨j + 1, 0 + 1, c2, A2, s ++ [x], by omega, by go_num, rfl, by rw [← Nat.add_assoc]; exact hr0.out, by omega, by rw [dc_append]; exact hown2, bel_grown (bel_alloc (bel_drewN belb _) _) hg2 (fun g hg => (hown.lt g hg).1)⟩
                    case measure => simp [intOf]; omega
                  · obtain ⟨z, hze⟩ : ∃ z, s[m']? = some z := ⟨s[m']'(by rw [Hms.out]; omega), List.getElem?_eq_getElem _⟩
                    have hgl : s.getLast?.map Prod.snd = some z.2 := by rw [List.getLast?_eq_getElem?, Hms.out, Nat.add_sub_cancel, hze]; rfl
                    rw [hgl] at hin
                    obtain ⟨bz, offz, rfl, hbz, _, g4⟩ := (Shows.of_own hown).two hze
                    have c4 := (World.cell?_alloc_lt wr (.cells #[.int .i64 x.1, .int .i64 x.2] 31) ⟨bz, offz + m' * 2 + 1, none⟩ hbz).trans g4
                    have d1 : ((m' : Int) + 1 == 0) = false := by simp; omega
                    have q1 : IntKind.i64.wrap ((m' : Int) + 1 - 1) = (m' : Int) := by rw [IntWalk.i64_in _ (by omega)]; omega
                    have q5 : IntKind.i64.wrap (m' : Int) = (m' : Int) := IntWalk.i64_in _ (by omega)
                    have q3 : (0 : Int) ≤ (m' : Int) := by omega
                    have q4 : (m' : Int) < (m' : Int) + 1 := by omega
                    clear hze hgl
                    by_cases he : z.2 = x.2
                    · have hr := Lib.hid (show Dat.dd (Dat.mids l f t (k + j + 1)) = s by rw [hin, if_pos (by rw [he]), List.append_nil])
                      have hb2 : (z.2 != x.2) = false := by simp [he]
                      have He := Lib.hid he
                      clear hin he
                      go_wp2_with fail
                      go_quiet (fail)
                      go_wp2_with fail
                      go_roundw
                      case rel => exact ⟨j + 1, m' + 1, cj, _, s, by omega, by go_num, rfl, by rw [← Nat.add_assoc]; exact hr.out, by omega, hown2b, bel_drewN belb _⟩
                      case measure => simp [intOf]; omega
                    · have hr := Lib.hid (show Dat.dd (Dat.mids l f t (k + j + 1)) = s ++ [x] by rw [hin, if_neg (fun e => he (Option.some.inj e))])
                      have hb2 : (z.2 != x.2) = true := by simpa using he
                      clear hin
                      go_wp2_with fail
                      go_quiet (fail)
                      go_wp2_with (at_builtin; refine wpList_append_shows _ rfl _ _ 22 rfl w.heap.size 31 i0 (.agg #[.int .i64 0, .int .i64 0]) 2 16 Try.underlying22 hi hz0 hz1 hz2 rfl (by decide) _ (m' + 1) (DC s) rfl (by exact World.ownsRow.alloc (w := World.drewN (World.alloc wr _) _) hown2b _) _ (some ⟨wr.heap.size + 1, 0, none⟩) 1 1 (DC [(x.1, x.2)]) rfl (by exact shows_one (World.drewN (World.alloc wr _) _) x.1 x.2 _ (by simp [World.drewN])) (dc_one _) (by unfold maxLen; omega) (by omega) (by simp; omega) ?_; intro A2 c2 w2 hown2 hg2)
                      go_roundw
                      case rel => exact ⟨j + 1, m' + 1 + 1, c2, A2, s ++ [x], by omega, by go_num, rfl, by rw [← Nat.add_assoc]; exact hr.out, by omega, by rw [dc_append]; exact hown2, bel_grown (bel_alloc (bel_drewN belb _) _) hg2 (fun g hg => (hown.lt g hg).1)⟩
                      case measure => simp [intOf]; omega
                · have hr := Lib.hid (show Dat.dd (Dat.mids l f t (k + j + 1)) = s by rw [Dat.mids_out Hxe.out (by omega)]; exact Hs.out)
                  have hd : decide (x.1 ≤ t) = false := decide_eq_false hxt
                  go_wp2_with fail
                  go_quiet (fail)
                  go_wp2_with fail
                  go_roundw
                  case rel => exact ⟨j + 1, m, cj, Aj, s, by omega, by go_num, rfl, by rw [← Nat.add_assoc]; exact hr.out, by omega, hown2b, bel_drewN belb _⟩
                  case measure => simp [intOf]; omega
              · obtain rfl : j = N := by omega
                have hfin := Hs.out
                rw [← HN.out, ← Hl.out] at hfin
                have Hfin := Lib.hid (Hbf.out.trans hfin)
                clear hfin
                go_wp2_with fail
                go_ret
                exact ⟨Aj, cj, by rw [Hfin.out, Hms.out]; rfl, by rw [Hfin.out, Hms.out]; exact hown, hbel⟩
      · rw [decide_eq_false (show ¬ (0 ≤ t ∧ t ≤ 3652058) from ht)] at hvt
        rw [show Dat.betF l f t = [] by unfold Dat.betF; rw [if_pos (.inr (.inr (.inl ht)))]]
        clear hl h0 hok hf ht
        go_enter Try.func16, Try.ntmps16
        go_wp2_with fail
        refine (hc _ ha hB).mono ?_
        rintro e w1 ⟨rfl, hb1⟩
        go_wp2_with fail
        refine (hvf _).mono ?_
        rintro e w2 ⟨rfl, rfl⟩
        go_wp2_with fail
        refine (hvt _).mono ?_
        rintro e w2 ⟨rfl, rfl⟩
        go_wp2_with fail
        go_ret
        exact ⟨none, 0, rfl, World.ownsRow_nil _ _ _ _, hb1⟩
    · rw [decide_eq_false (show ¬ (0 ≤ f ∧ f ≤ 3652058) from hf)] at hvf
      rw [show Dat.betF l f t = [] by unfold Dat.betF; rw [if_pos (.inr (.inl hf))]]
      clear hl h0 hok hf
      go_enter Try.func16, Try.ntmps16
      go_wp2_with fail
      refine (hc _ ha hB).mono ?_
      rintro e w1 ⟨rfl, hb1⟩
      go_wp2_with fail
      refine (hvf _).mono ?_
      rintro e w2 ⟨rfl, rfl⟩
      go_wp2_with fail
      go_ret
      exact ⟨none, 0, rfl, World.ownsRow_nil _ _ _ _, hb1⟩
  · rw [show Dat.betF l f t = [] by unfold Dat.betF; rw [if_pos (.inl h0)]]
    generalize Dat.chk l = E at *
    have h1 : (E == 0) = false := by simpa using h0
    have h2 : (E != 0) = true := by simpa using h0
    clear hl
    go_enter Try.func16, Try.ntmps16
    go_wp2_with fail
    refine (hc _ ha hB).mono ?_
    rintro e w1 ⟨rfl, hb1⟩
    go_wp2_with fail
    go_ret
    exact ⟨none, 0, rfl, World.ownsRow_nil _ _ _ _, hb1⟩
end Go.Proofs.Ytoedhcenmbpeeaa
