/- The walks of the document's 'Drop', of 'dated.Put'. -/
import Derived.Test.YtoedhcenmbpeeaaDatDrop
namespace Go.Proofs.Ytoedhcenmbpeeaa
open Go.RowKit

theorem filter_take {l : List (Int × Int)} {day : Int} {j : Nat} {x : Int × Int} (hx : l[j]? = some x) : (l.take (j + 1)).filter (fun x => decide (x.1 ≠ day)) = (l.take j).filter (fun x => decide (x.1 ≠ day)) ++ (if x.1 ≠ day then [x] else []) := by
  rw [List.take_add_one, hx, List.filter_append]
  congr 1
  by_cases h : x.1 = day <;> simp [h]
set_option maxRecDepth 100000 in
set_option maxHeartbeats 4000000 in
theorem refDrop_any (A : Option Addr) (n c : Nat) (l : List (Int × Int)) (day : Int) (B : Nat) (w : World) (ha : Shows w B 2 A n (DC l)) (hB : B ≤ w.heap.size) (hn : n ≤ 1000) (hx : Fits l) :
    Calls Try.prog 24 #[.slice A n c, .int .i64 day] w (FreshE (Dat.dropF l day) w) := by
  obtain ⟨i0, hi, hz0, hz1, hz2⟩ := info_parts infoD
  have hc := fun (w' : World) (h : Shows w' B 2 A n (DC l)) (h' : B ≤ w'.heap.size) => refCheck_any A n c l B w' h h' (by unfold maxLen; omega) hx
  have hv := fun (w' : World) => refDay_any day w'
  have hl := ha.num
  by_cases h0 : Dat.chk l = 0
  · have hok := (Dat.chk_ok l).1 h0
    by_cases hd : Dat.Valid day
    · have hF : Dat.dropF l day = (l.filter (fun x => decide (x.1 ≠ day)), 0) := by unfold Dat.dropF; rw [if_neg (by simpa using h0), if_neg (by simpa using hd)]
      rw [hF]
      rw [h0] at hc
      rw [decide_eq_true (show 0 ≤ day ∧ day ≤ 3652058 from hd)] at hv
      have Hl := Lib.hid hl
      clear hF hl h0 hd hok
      go_enter Try.func24, Try.ntmps24
      go_wp2_with fail
      refine (hc _ ha hB).mono ?_
      rintro e w1 ⟨rfl, hb1⟩
      go_wp2_with fail
      refine (hv _).mono ?_
      rintro e w2 ⟨rfl, rfl⟩
      go_wp2_with fail
      go_loopw [8, 7] (fun i o wr => ∃ (j m cj : Nat) (Aj : Option Addr) (s : List (Int × Int)), j ≤ n ∧ i = .int .i64 j ∧ o = .slice Aj m cj ∧ (l.take j).filter (fun x => decide (x.1 ≠ day)) = s ∧ m ≤ j ∧ wr.ownsRow w.heap.size 31 2 (.slice Aj m cj) m (DC s) ∧ Below w.heap.size w wr) (fun i _ _ => n - (intOf i).toNat)
      case atStart => exact ⟨0, 0, 0, none, [], by omega, rfl, rfl, rfl, by omega, World.ownsRow_nil _ _ _ _, hb1⟩
      case round =>
        obtain ⟨j, m, cj, Aj, s, hj, rfl, rfl, hs, hm, hown, hbel⟩ := hrel
        have Hs := Lib.hid hs
        clear hs
        have hz := hbel.size
        by_cases hlt : j < n
        · obtain ⟨x, hxe⟩ : ∃ x, l[j]? = some x := ⟨l[j]'(by rw [Hl.out]; exact hlt), List.getElem?_eq_getElem _⟩
          have hd := filter_take (day := day) hxe
          rw [Hs.out] at hd
          obtain ⟨b, off, rfl, hb, g1, g2⟩ := (ha.call hbel hB).two hxe
          have q2 : (j : Int) < (n : Int) := by omega
          clear hxe
          by_cases he : x.1 = day
          · rw [if_neg (by simpa using he), List.append_nil] at hd
            have hr := Lib.hid hd
            have hb1 : (x.1 != day) = false := by simp [he]
            clear hd
            have He := Lib.hid he
            clear he
            go_wp2_with fail
            go_roundw
            case rel => exact ⟨j + 1, m, cj, Aj, s, by omega, by go_num, rfl, hr.out, by omega, hown, hbel⟩
            case measure => simp [intOf]; omega
          · rw [if_pos he] at hd
            have hr := Lib.hid hd
            have hb1 : (x.1 != day) = true := by simpa using he
            clear hd
            go_wp2_with (at_builtin; refine wpList_append_shows _ rfl _ _ 22 rfl w.heap.size 31 i0 (.agg #[.int .i64 0, .int .i64 0]) 2 16 Try.underlying22 hi hz0 hz1 hz2 rfl (by decide) _ m (DC s) rfl (by exact World.ownsRow.alloc hown _) _ (some ⟨wr.heap.size, 0, none⟩) 1 1 (DC [(x.1, x.2)]) rfl (by exact shows_one wr x.1 x.2 _ rfl) (dc_one _) (by unfold maxLen; omega) (by omega) (by simp; omega) ?_; intro A2 c2 w2 hown2 hg2)
            go_roundw
            case rel => exact ⟨j + 1, m + 1, c2, A2, s ++ [x], by omega, by go_num, rfl, hr.out, by omega, by rw [dc_append]; exact hown2, bel_grown (bel_alloc hbel _) hg2 (fun g hg => (hown.lt g hg).1)⟩
            case measure => simp [intOf]; omega
        · obtain rfl : j = n := by omega
          have hfin := Hs.out
          rw [List.take_of_length_le (by rw [Hl.out]; exact Nat.le_refl _)] at hfin
          have hms : s.length = m := by have := hown.1; rw [dc_len] at this; omega
          have Hfin := Lib.hid hfin
          have Hms := Lib.hid hms
          clear hfin hms
          go_wp2_with fail
          go_ret2
          refine ⟨Aj, cj, ?_, ?_, hbel⟩
          · rw [Hfin.out, Hms.out]; rfl
          · rw [Hfin.out, Hms.out]; exact hown
    · have hF : Dat.dropF l day = ([], 5) := by unfold Dat.dropF; rw [if_neg (by simpa using h0), if_pos hd]
      rw [hF]
      rw [h0] at hc
      rw [decide_eq_false (show ¬ (0 ≤ day ∧ day ≤ 3652058) from hd)] at hv
      clear hl h0 hF hok
      go_enter Try.func24, Try.ntmps24
      go_wp2_with fail
      refine (hc _ ha hB).mono ?_
      rintro e w1 ⟨rfl, hb1⟩
      go_wp2_with fail
      refine (hv _).mono ?_
      rintro e w2 ⟨rfl, rfl⟩
      go_wp2_with fail
      go_ret2
      exact ⟨none, 0, rfl, World.ownsRow_nil _ _ _ _, hb1⟩
  · have hF : Dat.dropF l day = ([], Dat.chk l) := by unfold Dat.dropF; rw [if_pos h0]
    rw [hF]
    generalize Dat.chk l = E at *
    have h1 : (E == 0) = false := by simpa using h0
    have h2 : (E != 0) = true := by simpa using h0
    clear hl hF
    go_enter Try.func24, Try.ntmps24
    go_wp2_with fail
    refine (hc _ ha hB).mono ?_
    rintro e w1 ⟨rfl, hb1⟩
    go_wp2_with fail
    go_ret2
    exact ⟨none, 0, rfl, World.ownsRow_nil _ _ _ _, hb1⟩
set_option maxRecDepth 100000 in
set_option maxHeartbeats 4000000 in
theorem put_any (A : Option Addr) (n c : Nat) (l : List (Int × Int)) (day v : Int) (B : Nat) (w : World) (ha : Shows w B 2 A n (DC l)) (hB : B ≤ w.heap.size) (hn : n ≤ 1000) (hx : Fits l) :
    Calls Try.prog 21 #[.slice A n c, .int .i64 day, .int .i64 v] w (FreshE (Dat.putF l day v) w) := by
  have hdr := drop_any A n c l day B w ha hB hn hx
  have hokF := Dat.dropF_ok (l := l) (day := day)
  have hsub := (Dat.dropF_sub l day).length_le
  have hl := ha.num
  have hP : Dat.putF l day v = if (Dat.dropF l day).2 ≠ 0 then ([], (Dat.dropF l day).2) else if 200 ≤ (Dat.dropF l day).1.length then ([], 8) else (ins (Dat.dropF l day).1 (Dat.cnt (Dat.dropF l day).1 day) (day, v), 0) := rfl
  rw [hP]
  clear hP
  obtain ⟨d, er, hd⟩ : ∃ d er, Dat.dropF l day = (d, er) := ⟨_, _, rfl⟩
  rw [hd] at hdr hokF hsub ⊢
  simp only at hokF hsub ⊢
  clear hd
  unfold FreshE at hdr
  simp only at hdr
  by_cases h0 : er = 0
  · subst h0
    obtain ⟨_, _, hokd, _⟩ := hokF rfl
    obtain ⟨m, hm⟩ : ∃ m, d.length = m := ⟨_, rfl⟩
    rw [hm] at hdr hsub ⊢
    by_cases h200 : 200 ≤ m
    · simp only [ne_eq, not_true_eq_false, if_false, if_pos h200]
      clear hm hl hokF hokd
      go_enter Try.func21, Try.ntmps21
      go_wp2_with fail
      refine hdr.mono ?_
      rintro e w1 ⟨A1, c1, rfl, ho1, hb1⟩
      go_wp2_with fail
      go_ret2
      exact ⟨none, 0, rfl, World.ownsRow_nil _ _ _ _, hb1⟩
    · simp only [ne_eq, not_true_eq_false, if_false, if_neg h200]
      have hck := Dat.cnt_le d day
      have hbe := fun A' c' B' w' h h' => behind_any A' m c' d day B' w' h h' hokd
      have hil := ins_len d (Dat.cnt d day) (day, v) hck
      generalize Dat.cnt d day = k at hbe hck hil ⊢
      rw [hm] at hck hil
      have Hil := Lib.hid hil
      clear hm hl hokF hokd hil
      go_enter Try.func21, Try.ntmps21
      go_wp2_with fail
      refine hdr.mono ?_
      rintro e w1 ⟨A1, c1, rfl, ho1, hb1⟩
      go_wp2_with fail
      refine (hbe _ _ _ _ (Shows.of_own ho1) (Nat.le_refl _)).mono ?_
      rintro e w2 ⟨rfl, hb2⟩
      have ho2 := own_below ho1 hb2
      have bel2 := bel_call hb1 hb2
      have z2 := bel2.size
      go_wp2_with fail
      refine (insert_any A1 m c1 w.heap.size w2.heap.size k d (day, v) _ (World.ownsRow.alloc ho2 _) (show Block _ w2.heap.size 31 (DC [(day, v)]) from Block.new w2 _ (DC [(day, v)])) (fun g hg => by have := (ho2.lt g hg).2; omega) (by simp; omega) (by omega) hck).mono ?_
      rintro e w3 ⟨A3, c3, rfl, ho3, hg3⟩
      go_wp2_with fail
      go_ret2
      refine ⟨A3, c3, ?_, ?_, bel_grown (bel_alloc bel2 _) hg3 (fun g hg => (ho2.lt g hg).1)⟩
      · simp only [Hil.out]; rfl
      · simp only [Hil.out]; exact ho3
  · have h1 : (er == 0) = false := by simpa using h0
    have h2 : (er != 0) = true := by simpa using h0
    simp only [ne_eq, h0, not_false_eq_true, if_true]
    clear hl hokF
    go_enter Try.func21, Try.ntmps21
    go_wp2_with fail
    refine hdr.mono ?_
    rintro e w1 ⟨A1, c1, rfl, ho1, hb1⟩
    go_wp2_with fail
    go_ret2
    exact ⟨none, 0, rfl, World.ownsRow_nil _ _ _ _, hb1⟩
end Go.Proofs.Ytoedhcenmbpeeaa
