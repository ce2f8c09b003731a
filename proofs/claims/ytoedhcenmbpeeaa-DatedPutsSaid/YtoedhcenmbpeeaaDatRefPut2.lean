/- The walk of the document's 'Put', joined. -/
import Derived.Test.YtoedhcenmbpeeaaDatRefPut
namespace Go.Proofs.Ytoedhcenmbpeeaa
open Go.RowKit

set_option maxRecDepth 100000 in
set_option maxHeartbeats 8000000 in
theorem refPut_any (A : Option Addr) (n c : Nat) (l : List (Int × Int)) (day v : Int) (B : Nat) (w : World) (ha : Shows w B 2 A n (DC l)) (hB : B ≤ w.heap.size) (hn : n ≤ 1000) (hx : Fits l) :
    Calls Try.prog 22 #[.slice A n c, .int .i64 day, .int .i64 v] w (FreshE (Dat.putF l day v) w) := by
  have hdr := refDrop_any A n c l day B w ha hB hn hx
  have hokF := Dat.dropF_ok (l := l) (day := day)
  have hsub := (Dat.dropF_sub l day).length_le
  have hl := ha.num
  have hP : Dat.putF l day v = if (Dat.dropF l day).2 ≠ 0 then ([], (Dat.dropF l day).2) else if 200 ≤ (Dat.dropF l day).1.length then ([], 8) else (ins (Dat.dropF l day).1 (Dat.cnt (Dat.dropF l day).1 day) (day, v), 0) := rfl
  rw [hP]
  clear hP
  obtain ⟨d, er, hd⟩ : ∃ d er, Dat.dropF l day = (d, er) := ⟨_, _, rfl⟩
  rw [hd] at hdr hokF hsub ⊢
  simp only at hokF hsub ⊢
  clear hd
  unfold FreshE at hdr
  simp only at hdr
  by_cases h0 : er = 0
  · subst h0
    obtain ⟨_, _, hokd, hned⟩ := hokF rfl
    obtain ⟨m, hm⟩ : ∃ m, d.length = m := ⟨_, rfl⟩
    rw [hm] at hdr hsub ⊢
    by_cases h200 : 200 ≤ m
    · simp only [ne_eq, not_true_eq_false, if_false, if_pos h200]
      clear hm hl hokF hokd hned
      go_enter Try.func22, Try.ntmps22
      go_wp2_with fail
      refine hdr.mono ?_
      rintro e w1 ⟨A1, c1, rfl, ho1, hb1⟩
      go_wp2_with fail
      go_ret2
      exact ⟨none, 0, rfl, World.ownsRow_nil _ _ _ _, hb1⟩
    · simp only [ne_eq, not_true_eq_false, if_false, if_neg h200]
      have hck := Dat.cnt_le d day
      have hil := ins_len d (Dat.cnt d day) (day, v) hck
      have hlo : ∀ (j : Nat) (x : Int × Int), d[j]? = some x → j < Dat.cnt d day → x.1 < day := fun j x hx hj => by
        have h1 := Dat.cnt_lo hx hj
        have h2 := hned x (List.mem_of_getElem? hx)
        omega
      have hat : ∀ x : Int × Int, d[Dat.cnt d day]? = some x → day < x.1 := fun x => Dat.cnt_at
      generalize Dat.cnt d day = k at hck hil hlo hat ⊢
      rw [hm] at hck hil
      have Hil := Lib.hid hil
      have Hm := Lib.hid hm
      have Hlo := Lib.hid hlo
      have Hat := Lib.hid hat
      clear hm hl hokF hokd hil hlo hat hned
      go_enter Try.func22, Try.ntmps22
      go_wp2_with fail
      refine hdr.mono ?_
      rintro e w1 ⟨A1, c1, rfl, ho1, hb1⟩
      have hs1 := Shows.of_own ho1
      clear hdr
      go_wp2_with fail
      go_loopw [10] (fun i wr => ∃ j : Nat, j ≤ k ∧ i = .int .i64 j ∧ w1 = wr) (fun i _ => k - (intOf i).toNat)
      case atStart => exact ⟨0, by omega, rfl, rfl⟩
      case round =>
        obtain ⟨j, hjk, rfl, rfl⟩ := hrel
        by_cases hlt : j < k
        · obtain ⟨x, hxe⟩ : ∃ x, d[j]? = some x := ⟨d[j]'(by rw [Hm.out]; omega), List.getElem?_eq_getElem _⟩
          have hb := Hlo.out j x hxe hlt
          obtain ⟨b, off, rfl, _, g1, g2⟩ := hs1.two hxe
          have q2 : (j : Int) < (m : Int) := by omega
          clear hxe
          go_wp2_with fail
          go_roundw
          case rel => exact ⟨j + 1, by omega, by go_num, trivial⟩
          case measure => simp [intOf]; omega
        · obtain rfl : j = k := by omega
          have hend : (m : Int) ≤ (j : Int) ∨ ∃ x, (j : Int) < (m : Int) ∧ day < x.1 ∧ d[j]? = some x := by
            rcases Nat.lt_or_ge j m with h | h
            · obtain ⟨x, hxe⟩ : ∃ x, d[j]? = some x := ⟨d[j]'(by rw [Hm.out]; omega), List.getElem?_eq_getElem _⟩
              exact .inr ⟨x, by omega, Hat.out x hxe, hxe⟩
            · exact .inl (by omega)
          have hform : (A1 = none ∧ m = 0 ∧ c1 = 0 ∧ j = 0) ∨ (∃ g, A1 = some ⟨g, 0, none⟩ ∧ j = c1 ∧ m = j) ∨ (∃ g, A1 = some ⟨g, 0, none⟩ ∧ j < c1 ∧ m ≤ c1) := by
            rcases own_row ho1 with ⟨h1, h2, h3, _⟩ | ⟨g, junk, h1, _, _, _, h2, _, _⟩
            · exact .inl ⟨h1, h2, h3, by omega⟩
            · rcases Nat.lt_or_ge j c1 with h | h
              · exact .inr (.inr ⟨g, h1, h, h2⟩)
              · exact .inr (.inl ⟨g, h1, by omega, by omega⟩)
          have hT : Shows w1 w1.heap.size 2 A1 j (DC (d.take j)) := by rw [← dc_take]; exact hs1.take hck
          obtain ⟨A2, hF, hA2⟩ : ∃ A2, Shows w1 w1.heap.size 2 A2 (m - j) (DC (d.drop j)) ∧ ((A1 = none ∧ m = 0 ∧ c1 = 0 ∧ j = 0 ∧ A2 = none) ∨ (∃ g, A1 = some ⟨g, 0, none⟩ ∧ j = c1 ∧ A2 = some ⟨g, 0, none⟩) ∨ (∃ g, A1 = some ⟨g, 0, none⟩ ∧ j < c1 ∧ A2 = some ⟨g, j * 2, none⟩)) := by
            have hd0 : m - j = 0 → d.drop j = [] := fun h => List.drop_of_length_le (by rw [Hm.out]; omega)
            rcases hform with ⟨h1, h2, h3, h4⟩ | ⟨g, h1, h2, h3⟩ | ⟨g, h1, h2, h3⟩
            · refine ⟨none, ?_, .inl ⟨h1, h2, h3, h4, rfl⟩⟩
              rw [hd0 (by omega), show m - j = 0 by omega]; exact Shows.empty
            · refine ⟨some ⟨g, 0, none⟩, ?_, .inr (.inl ⟨g, h1, h2, rfl⟩)⟩
              rw [hd0 (by omega), show m - j = 0 by omega]; exact Shows.empty
            · refine ⟨some ⟨g, j * 2, none⟩, ?_, .inr (.inr ⟨g, h1, h2, rfl⟩)⟩
              rw [← dc_drop']
              refine ⟨by rw [List.length_drop, hs1.1, Nat.sub_mul], fun hn0 => ?_⟩
              obtain ⟨b, off, e, hb, hcell⟩ := hs1.2 (by omega)
              rw [h1] at e
              injection e with e
              injection e with e1 e2
              subst e1; subst e2
              refine ⟨g, j * 2, rfl, hb, fun i hi => ?_⟩
              rw [List.length_drop] at hi
              have := hcell (j * 2 + i) (by omega)
              rw [Nat.zero_add] at this
              rw [this]
              simp [List.getD]
          have b1 : Below w1.heap.size w1 w1.drew := (Below.refl _ w1).drew
          have eX : (w1.drew.alloc (XO day v)).heap.size = w1.heap.size + 1 := by simp
          have eE : (w1.drew.alloc EO).heap.size = w1.heap.size + 1 := by simp
          have oA : (w1.drew.alloc EO).ownsRow w1.heap.size 31 2 (.slice (some ⟨w1.heap.size, 0, none⟩) 0 0) 0 (DC []) := own_none w1.drew w1.heap.size (Nat.le_refl _)
          have oC := own_none (w1.drew.alloc (XO day v)) w1.heap.size (by rw [eX]; omega)
          rw [eX] at oC
          have xB : Block ((w1.drew.alloc EO).alloc (XO day v)) (w1.heap.size + 1) 31 (DC [(day, v)]) := by
            have := (show Block ((w1.drew.alloc EO).alloc (XO day v)) (w1.drew.alloc EO).heap.size 31 (DC [(day, v)]) from Block.new (w1.drew.alloc EO) _ (DC [(day, v)]))
            rw [eE] at this; exact this
          have xC : Block ((w1.drew.alloc (XO day v)).alloc EO) w1.heap.size 31 (DC [(day, v)]) := Block.alloc (show Block (w1.drew.alloc (XO day v)) w1.heap.size 31 (DC [(day, v)]) from Block.new w1.drew _ (DC [(day, v)])) _
          obtain ⟨Aa, ca, wa, Ab, cb, wb, Ac, cc, wc, rA1, rA2, rA3, oAc, bAc⟩ := three_app2 (cT := c1) (cF := c1 - j) (x := (day, v)) rfl (bel_alloc b1 _) oA hT hF (by omega)
          obtain ⟨Ba, da, va, Bb, db, vb, Bc, dc, vc, rB1, rB2, rB3, oBc, bBc⟩ := three_app (cT := c1) (cF := c1 - j) (x := (day, v)) rfl (bel_alloc (bel_alloc b1 _) _) (World.ownsRow.alloc oA (XO day v)) hT hF xB (by omega) (by omega)
          obtain ⟨Ca, ea, ua, Cb, eb, ub, Cc, ec, uc, rC1, rC2, rC3, oCc, bCc⟩ := three_app (cT := c1) (cF := c1 - j) (x := (day, v)) rfl (bel_alloc (bel_alloc b1 _) _) oC hT hF xC (by omega) (by omega)
          rw [show j + 1 + (m - j) = m + 1 by omega] at rA3 oAc rB3 oBc rC3 oCc
          have fA : FreshE (ins d j (day, v), 0) w (.returned (.tuple #[.slice Ac (m + 1) cc, .int .i64 0])) wc := ⟨Ac, cc, by simp only [Hil.out], by simp only [Hil.out]; exact own_base oAc hb1.size, bel_call hb1 bAc⟩
          have fB : FreshE (ins d j (day, v), 0) w (.returned (.tuple #[.slice Bc (m + 1) dc, .int .i64 0])) vc := ⟨Bc, dc, by simp only [Hil.out], by simp only [Hil.out]; exact own_base oBc hb1.size, bel_call hb1 bBc⟩
          have fC : FreshE (ins d j (day, v), 0) w (.returned (.tuple #[.slice Cc (m + 1) ec, .int .i64 0])) uc := ⟨Cc, ec, by simp only [Hil.out], by simp only [Hil.out]; exact own_base oCc hb1.size, bel_call hb1 bCc⟩
          have FA := Lib.hid fA
          have FB := Lib.hid fB
          have FC := Lib.hid fC
          have hjm : (j : Int) ≤ (m : Int) := by omega
          have hj0 : (0 : Int) ≤ (j : Int) := by omega
          have hcm : m ≤ c1 := by
            obtain ⟨_, _, hv, h0, _⟩ := own_form ho1
            injection hv with _ _ h3
            omega
          have hjc : (j : Int) ≤ (c1 : Int) := by omega
          clear fA fB fC oAc oBc oCc bAc bBc bCc xB xC oA oC eX eE b1 hT hF
          rcases hA2 with ⟨rfl, rfl, rfl, rfl, rfl⟩ | ⟨g, rfl, hjc2, rfl⟩ | ⟨g, rfl, hjc2, rfl⟩
          · clear hend hform
            go_wp2_with fail
            go_region_law (first
              | (refine step_append_runI rfl _ _ 22 22 rfl _ _ (by simp [Act.eval]) (by simp [Act.eval]) rA1 ?_)
              | (refine step_append_runI rfl _ _ 22 22 rfl _ _ (by simp [Act.eval]) (by simp [Act.eval]) rA2 ?_)
              | (refine step_append_runI rfl _ _ 22 22 rfl _ _ (by simp [Act.eval]) (by simp [Act.eval]) rA3 ?_)
              | (refine step_append_runI rfl _ _ 22 22 rfl _ _ (by simp [Act.eval]) (by simp [Act.eval]) rB1 ?_)
              | (refine step_append_runI rfl _ _ 22 22 rfl _ _ (by simp [Act.eval]) (by simp [Act.eval]) rB2 ?_)
              | (refine step_append_runI rfl _ _ 22 22 rfl _ _ (by simp [Act.eval]) (by simp [Act.eval]) rB3 ?_)
              | (refine step_append_runI rfl _ _ 22 22 rfl _ _ (by simp [Act.eval]) (by simp [Act.eval]) rC1 ?_)
              | (refine step_append_runI rfl _ _ 22 22 rfl _ _ (by simp [Act.eval]) (by simp [Act.eval]) rC2 ?_)
              | (refine step_append_runI rfl _ _ 22 22 rfl _ _ (by simp [Act.eval]) (by simp [Act.eval]) rC3 ?_))
            all_goals
              go_wp2_with fail
              go_ret2
              first | exact FA.out | exact FB.out | exact FC.out
          · subst hjc2
            have hmj : ¬ (j : Int) < (m : Int) := by omega
            rw [show m - j = 0 by omega] at rA3 rB3 rC3
            clear hend hform
            go_wp2_with fail
            go_region_law (first
              | (refine step_append_runI rfl _ _ 22 22 rfl _ _ (by simp [Act.eval]) (by simp [Act.eval]) rA1 ?_)
              | (refine step_append_runI rfl _ _ 22 22 rfl _ _ (by simp [Act.eval]) (by simp [Act.eval]) rA2 ?_)
              | (refine step_append_runI rfl _ _ 22 22 rfl _ _ (by simp [Act.eval]) (by simp [Act.eval]) rA3 ?_)
              | (refine step_append_runI rfl _ _ 22 22 rfl _ _ (by simp [Act.eval]) (by simp [Act.eval]) rB1 ?_)
              | (refine step_append_runI rfl _ _ 22 22 rfl _ _ (by simp [Act.eval]) (by simp [Act.eval]) rB2 ?_)
              | (refine step_append_runI rfl _ _ 22 22 rfl _ _ (by simp [Act.eval]) (by simp [Act.eval]) rB3 ?_)
              | (refine step_append_runI rfl _ _ 22 22 rfl _ _ (by simp [Act.eval]) (by simp [Act.eval]) rC1 ?_)
              | (refine step_append_runI rfl _ _ 22 22 rfl _ _ (by simp [Act.eval]) (by simp [Act.eval]) rC2 ?_)
              | (refine step_append_runI rfl _ _ 22 22 rfl _ _ (by simp [Act.eval]) (by simp [Act.eval]) rC3 ?_))
            all_goals
              go_wp2_with fail
              go_ret2
              first | exact FA.out | exact FB.out | exact FC.out
          · have hb4' : ¬ (c1 = j) := by omega
            clear hform
            rcases hend with hend | ⟨x, hx1, hx2, hxe⟩
            · go_wp2_with fail
              go_region_law (first
                | (refine step_append_runI rfl _ _ 22 22 rfl _ _ (by simp [Act.eval]) (by simp [Act.eval]) rA1 ?_)
                | (refine step_append_runI rfl _ _ 22 22 rfl _ _ (by simp [Act.eval]) (by simp [Act.eval]) rA2 ?_)
                | (refine step_append_runI rfl _ _ 22 22 rfl _ _ (by simp [Act.eval]) (by simp [Act.eval]) rA3 ?_)
                | (refine step_append_runI rfl _ _ 22 22 rfl _ _ (by simp [Act.eval]) (by simp [Act.eval]) rB1 ?_)
                | (refine step_append_runI rfl _ _ 22 22 rfl _ _ (by simp [Act.eval]) (by simp [Act.eval]) rB2 ?_)
                | (refine step_append_runI rfl _ _ 22 22 rfl _ _ (by simp [Act.eval]) (by simp [Act.eval]) rB3 ?_)
                | (refine step_append_runI rfl _ _ 22 22 rfl _ _ (by simp [Act.eval]) (by simp [Act.eval]) rC1 ?_)
                | (refine step_append_runI rfl _ _ 22 22 rfl _ _ (by simp [Act.eval]) (by simp [Act.eval]) rC2 ?_)
                | (refine step_append_runI rfl _ _ 22 22 rfl _ _ (by simp [Act.eval]) (by simp [Act.eval]) rC3 ?_))
              all_goals
                go_wp2_with fail
                go_ret2
                first | exact FA.out | exact FB.out | exact FC.out
            · obtain ⟨b, off, hA, _, g1, g2⟩ := hs1.two hxe
              injection hA with hA
              injection hA with hA1 hA2
              subst hA1; subst hA2
              simp only [Nat.zero_add] at g1 g2
              have hx3 : ¬ x.1 < day := by omega
              clear hxe
              go_wp2_with fail
              go_region_law (first
                | (refine step_append_runI rfl _ _ 22 22 rfl _ _ (by simp [Act.eval]) (by simp [Act.eval]) rA1 ?_)
                | (refine step_append_runI rfl _ _ 22 22 rfl _ _ (by simp [Act.eval]) (by simp [Act.eval]) rA2 ?_)
                | (refine step_append_runI rfl _ _ 22 22 rfl _ _ (by simp [Act.eval]) (by simp [Act.eval]) rA3 ?_)
                | (refine step_append_runI rfl _ _ 22 22 rfl _ _ (by simp [Act.eval]) (by simp [Act.eval]) rB1 ?_)
                | (refine step_append_runI rfl _ _ 22 22 rfl _ _ (by simp [Act.eval]) (by simp [Act.eval]) rB2 ?_)
                | (refine step_append_runI rfl _ _ 22 22 rfl _ _ (by simp [Act.eval]) (by simp [Act.eval]) rB3 ?_)
                | (refine step_append_runI rfl _ _ 22 22 rfl _ _ (by simp [Act.eval]) (by simp [Act.eval]) rC1 ?_)
                | (refine step_append_runI rfl _ _ 22 22 rfl _ _ (by simp [Act.eval]) (by simp [Act.eval]) rC2 ?_)
                | (refine step_append_runI rfl _ _ 22 22 rfl _ _ (by simp [Act.eval]) (by simp [Act.eval]) rC3 ?_))
              all_goals
                go_wp2_with fail
                go_ret2
                first | exact FA.out | exact FB.out | exact FC.out
  · have h1 : (er == 0) = false := by simpa using h0
    have h2 : (er != 0) = true := by simpa using h0
    simp only [ne_eq, h0, not_false_eq_true, if_true]
    clear hl hokF
    go_enter Try.func22, Try.ntmps22
    go_wp2_with fail
    refine hdr.mono ?_
    rintro e w1 ⟨A1, c1, rfl, ho1, hb1⟩
    go_wp2_with fail
    go_ret2
    exact ⟨none, 0, rfl, World.ownsRow_nil _ _ _ _, hb1⟩
end Go.Proofs.Ytoedhcenmbpeeaa
