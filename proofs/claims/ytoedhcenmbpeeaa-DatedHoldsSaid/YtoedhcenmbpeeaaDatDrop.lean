/- The walks of 'dated.Drop', of the document's 'Drop', of 'dated.Put'. -/
import Derived.Test.YtoedhcenmbpeeaaDatDelete
import Derived.Test.YtoedhcenmbpeeaaDatInsert
namespace Go.Proofs.Ytoedhcenmbpeeaa.Dat
/-- What 'Drop', 'Put' tell. -/
def dropF (l : List (Int × Int)) (day : Int) : List (Int × Int) × Int := if chk l ≠ 0 then ([], chk l) else if ¬ Valid day then ([], 5) else (l.filter (fun x => decide (x.1 ≠ day)), 0)
def putF (l : List (Int × Int)) (day v : Int) : List (Int × Int) × Int :=
  if (dropF l day).2 ≠ 0 then ([], (dropF l day).2) else if 200 ≤ (dropF l day).1.length then ([], 8) else (ins (dropF l day).1 (cnt (dropF l day).1 day) (day, v), 0)
theorem drop_miss {l : List (Int × Int)} {day : Int} (h : ∀ x ∈ l, x.1 ≠ day) : l.filter (fun x => decide (x.1 ≠ day)) = l := by
  rw [List.filter_eq_self]; intro x hx; simpa using h x hx
theorem drop_hit {l : List (Int × Int)} (hok : Ok l) {i : Nat} {y : Int × Int} (hy : l[i]? = some y) : l.filter (fun x => decide (x.1 ≠ y.1)) = del l i := by
  have hi := (List.getElem?_eq_some_iff.1 hy).1
  have hd : l = l.take i ++ y :: l.drop (i + 1) := by rw [← drop_at hy, List.take_append_drop]
  unfold del
  conv => lhs; rw [hd]
  rw [List.filter_append, List.filter_cons_of_neg (by simp)]
  rw [drop_miss, drop_miss]
  · intro x hx
    obtain ⟨j, hj, he⟩ := List.mem_iff_getElem.1 hx
    rw [List.getElem_drop] at he
    rw [List.length_drop] at hj
    have := ok_lt hok hy (show l[i + 1 + j]? = some x from List.getElem?_eq_some_iff.2 ⟨by omega, he⟩) (by omega)
    omega
  · intro x hx
    obtain ⟨j, hj, he⟩ := List.mem_iff_getElem.1 hx
    rw [List.length_take] at hj
    rw [List.getElem_take] at he
    have := ok_lt hok (show l[j]? = some x from List.getElem?_eq_some_iff.2 ⟨by omega, he⟩) hy (by omega)
    omega
theorem drop_none {l : List (Int × Int)} (hok : Ok l) {day : Int} (h : ∀ i y, l[i]? = some y → i + 1 = cnt l day → y.1 ≠ day) : l.filter (fun x => decide (x.1 ≠ day)) = l := by
  apply drop_miss
  intro x hx he
  obtain ⟨j, hj, hjx⟩ := List.mem_iff_getElem.1 hx
  have hx2 : l[j]? = some x := List.getElem?_eq_some_iff.2 ⟨hj, hjx⟩
  rcases Nat.lt_or_ge j (cnt l day) with hlt | hge
  · by_cases h1 : j + 1 = cnt l day
    · exact h j x hx2 h1 he
    · obtain ⟨y, hy⟩ : ∃ y, l[j + 1]? = some y := ⟨l[j + 1]'(by have := cnt_le l day; omega), List.getElem?_eq_getElem _⟩
      have := ok_lt hok hx2 hy (by omega)
      have := cnt_lo hy (show j + 1 < cnt l day by omega)
      omega
  · have := cnt_hi (day := day) hok hx2 hge
    omega
theorem dropF_sub (l : List (Int × Int)) (day : Int) : (dropF l day).1.Sublist l := by
  unfold dropF
  split
  · exact List.nil_sublist _
  · split
    · exact List.nil_sublist _
    · exact List.filter_sublist
theorem dropF_ok {l : List (Int × Int)} {day : Int} (h : (dropF l day).2 = 0) : Ok l ∧ Valid day ∧ Ok (dropF l day).1 ∧ ∀ x ∈ (dropF l day).1, x.1 ≠ day := by
  have hs := dropF_sub l day
  unfold dropF at h hs ⊢
  by_cases h0 : chk l ≠ 0
  · rw [if_pos h0] at h; exact absurd h h0
  · rw [if_neg h0] at h hs ⊢
    by_cases hv : ¬ Valid day
    · rw [if_pos hv] at h; cases h
    · rw [if_neg hv] at hs ⊢
      have hok := (chk_ok l).1 (Decidable.not_not.1 h0)
      refine ⟨hok, Decidable.not_not.1 hv, ok_sub hs hok, fun x hx => ?_⟩
      have := (List.mem_filter.1 hx).2
      simpa using this
end Go.Proofs.Ytoedhcenmbpeeaa.Dat
namespace Go.Proofs.Ytoedhcenmbpeeaa
open Go.RowKit

/-- A fresh list and an error. -/
def FreshE (r : List (Int × Int) × Int) (w : World) (e : Ending) (w' : World) : Prop :=
  ∃ A c, e = .returned (.tuple #[.slice A r.1.length c, .int .i64 r.2]) ∧ w'.ownsRow w.heap.size 31 2 (.slice A r.1.length c) r.1.length (DC r.1) ∧ Below w.heap.size w w'
theorem insert_any (A : Option Addr) (n c base vb i : Nat) (l : List (Int × Int)) (x : Int × Int) (w : World) (ho : w.ownsRow base 31 2 (.slice A n c) n (DC l)) (hv : Block w vb 31 (DC [x])) (hne : ∀ k, (Value.slice A n c).ownBlock = some k → vb ≠ k) (hbase : base ≤ w.heap.size) (hn : n ≤ 1000) (hi : i ≤ n) :
    Calls Try.prog 33 #[.slice A n c, .int .i64 (i : Int), .slice (some ⟨vb, 0, none⟩) 1 1] w fun e w' =>
      ∃ A' c', e = .returned (.slice A' (n + 1) c') ∧ w'.ownsRow base 31 2 (.slice A' (n + 1) c') (n + 1) (DC (ins l i x)) ∧ w.grownBy w' (Value.slice A n c).ownBlock := by
  have hl : l.length = n := by have := ho.1; rw [dc_len] at this; omega
  rcases own_row ho with ⟨rfl, rfl, rfl, rfl⟩ | ⟨g, junk, rfl, hg1, hg2, hrow, hnc, hcm, hj⟩
  · obtain rfl : i = 0 := by omega
    exact insert_end none 0 0 base vb [] x w ho hv hbase (by omega) (by omega)
  · by_cases hin : i = n
    · subst hin
      exact insert_end _ _ c base vb l x w ho hv hbase hn hnc
    · by_cases hroom : n + 1 ≤ c
      · refine (insert_room g n c i vb l junk x w hrow hl hj hv (hne g rfl) (by omega) hn hroom).mono ?_
        rintro e w' ⟨rfl, hg, junk', hrow', hj'⟩
        exact ⟨_, c, rfl, row_own hrow' (by rw [ins_len l i x (by omega), hl]) hg1 hcm hj', hg⟩
      · refine (insert_grow g n c i vb l junk x w hrow hl hv (by omega) hn hnc (by omega)).mono ?_
        rintro e w' ⟨c', rfl, hown, hb⟩
        exact ⟨_, c', rfl, own_base hown hbase, grown_of_below hb _⟩
set_option maxRecDepth 100000 in
set_option maxHeartbeats 4000000 in
theorem drop_any (A : Option Addr) (n c : Nat) (l : List (Int × Int)) (day : Int) (B : Nat) (w : World) (ha : Shows w B 2 A n (DC l)) (hB : B ≤ w.heap.size) (hn : n ≤ 1000) (hx : Fits l) :
    Calls Try.prog 23 #[.slice A n c, .int .i64 day] w (FreshE (Dat.dropF l day) w) := by
  have hc := fun (w' : World) (h : Shows w' B 2 A n (DC l)) (h' : B ≤ w'.heap.size) => check_any A n c l B w' h h' (by unfold maxLen; omega) hx
  have hv := fun (w' : World) => valid_any day w'
  have hl := ha.num
  by_cases h0 : Dat.chk l = 0
  · have hok := (Dat.chk_ok l).1 h0
    by_cases hd : Dat.Valid day
    · have hF : Dat.dropF l day = (l.filter (fun x => decide (x.1 ≠ day)), 0) := by unfold Dat.dropF; rw [if_neg (by simpa using h0), if_neg (by simpa using hd)]
      rw [hF]
      rw [h0] at hc
      rw [decide_eq_true (show 0 ≤ day ∧ day ≤ 3652058 from hd)] at hv
      have hcl := fun w' h h' => clone_any A n c l B w' h h' (by omega)
      have hbe := fun A' c' B' w' h h' => behind_any A' n c' l day B' w' h h' hok
      have hck := Dat.cnt_le l day
      have hnone := Dat.drop_none (day := day) hok
      have hhit := fun i y => Dat.drop_hit (i := i) (y := y) hok
      have h200 : n ≤ 200 := by have := hok.1; omega
      generalize Dat.cnt l day = k at hbe hck hnone
      rcases k with _ | i
      · have hfl := Lib.hid (hnone (fun i y _ h => by omega))
        have Hl := Lib.hid hl
        clear hF hnone hhit hl h0 hd hok
        go_enter Try.func23, Try.ntmps23
        go_wp2_with fail
        refine (hc _ ha hB).mono ?_
        rintro e w1 ⟨rfl, hb1⟩
        go_wp2_with fail
        refine (hv _).mono ?_
        rintro e w2 ⟨rfl, rfl⟩
        go_wp2_with fail
        refine (hcl _ (ha.call hb1 hB) (Nat.le_trans hB hb1.size)).mono ?_
        rintro e w2 ⟨A2, c2, rfl, ho2, hb2⟩
        go_wp2_with fail
        refine (hbe _ _ _ _ (Shows.of_own ho2) (Nat.le_refl _)).mono ?_
        rintro e w3 ⟨rfl, hb3⟩
        go_wp2_with fail
        go_ret2
        refine ⟨A2, c2, ?_, ?_, bel_call (bel_call hb1 hb2) hb3⟩
        · rw [hfl.out, Hl.out]; rfl
        · rw [hfl.out, Hl.out]; exact own_base (own_below ho2 hb3) hb1.size
      · obtain ⟨y, hy⟩ : ∃ y, l[i]? = some y := ⟨l[i]'(by omega), List.getElem?_eq_getElem _⟩
        have q1 : IntKind.i64.wrap ((i : Int) + 1 - 1) = (i : Int) := by rw [IntWalk.i64_in _ (by omega)]; omega
        have q3 : (0 : Int) ≤ (i : Int) := by omega
        have q4 : (i : Int) < (n : Int) := by omega
        have q5 : (0 : Int) < (i : Int) + 1 := by omega
        have Hy := Lib.hid hy
        by_cases hyd : y.1 = day
        · subst hyd
          have hfl := Lib.hid (hhit i y hy)
          have hdl : Hid ((del l i).length = n - 1) := by
            show _ = _
            unfold del
            simp only [List.length_append, List.length_take, List.length_drop]
            omega
          have Hl := Lib.hid hl
          clear hF hnone hhit hl h0 hd hok hy
          go_enter Try.func23, Try.ntmps23
          go_wp2_with fail
          refine (hc _ ha hB).mono ?_
          rintro e w1 ⟨rfl, hb1⟩
          go_wp2_with fail
          refine (hv _).mono ?_
          rintro e w2 ⟨rfl, rfl⟩
          go_wp2_with fail
          refine (hcl _ (ha.call hb1 hB) (Nat.le_trans hB hb1.size)).mono ?_
          rintro e w2 ⟨A2, c2, rfl, ho2, hb2⟩
          rcases own_row ho2 with ⟨_, hn0, _, _⟩ | ⟨g, junk, rfl, hg1, hg2, hrow, hnc, hcm, hj⟩
          · omega
          go_wp2_with fail
          refine (hbe _ _ _ _ (Shows.of_own ho2) (Nat.le_refl _)).mono ?_
          rintro e w3 ⟨rfl, hb3⟩
          have hr3 := hrow.call hb3
          obtain ⟨c1, _⟩ := hr3.two Hy.out
          go_wp2_with fail
          refine (delete_any g n c2 i l junk _ hr3 Hl.out (by omega) hnc (by omega) hj).mono ?_
          rintro e w4 ⟨rfl, hg4, junk4, hrow4, hj4⟩
          go_wp2_with fail
          go_ret2
          refine ⟨some ⟨g, 0, none⟩, c2, ?_, ?_, bel_grown (bel_call (bel_call hb1 hb2) hb3) hg4 (fun k hk => by injection hk with hk; have := hb1.size; omega)⟩
          · rw [hfl.out, hdl.out]; rfl
          · rw [hfl.out, hdl.out]; exact row_own hrow4 hdl.out (by have := hb1.size; omega) hcm hj4
        · have hfl := Lib.hid (hnone (fun j z hz hj => by have hji : j = i := (by omega); subst hji; rw [hy] at hz; injection hz with hz; subst hz; exact hyd))
          have hb0 : (y.1 == day) = false := by simpa using hyd
          have Hl := Lib.hid hl
          clear hF hnone hhit hl h0 hd hok hy
          go_enter Try.func23, Try.ntmps23
          go_wp2_with fail
          refine (hc _ ha hB).mono ?_
          rintro e w1 ⟨rfl, hb1⟩
          go_wp2_with fail
          refine (hv _).mono ?_
          rintro e w2 ⟨rfl, rfl⟩
          go_wp2_with fail
          refine (hcl _ (ha.call hb1 hB) (Nat.le_trans hB hb1.size)).mono ?_
          rintro e w2 ⟨A2, c2, rfl, ho2, hb2⟩
          rcases own_row ho2 with ⟨_, hn0, _, _⟩ | ⟨g, junk, rfl, hg1, hg2, hrow, hnc, hcm, hj⟩
          · omega
          go_wp2_with fail
          refine (hbe _ _ _ _ (Shows.of_own ho2) (Nat.le_refl _)).mono ?_
          rintro e w3 ⟨rfl, hb3⟩
          have hr3 := hrow.call hb3
          obtain ⟨c1, _⟩ := hr3.two Hy.out
          go_wp2_with fail
          go_ret2
          refine ⟨some ⟨g, 0, none⟩, c2, ?_, ?_, bel_call (bel_call hb1 hb2) hb3⟩
          · rw [hfl.out, Hl.out]; rfl
          · rw [hfl.out, Hl.out]; exact own_base (own_below ho2 hb3) hb1.size
    · have hF : Dat.dropF l day = ([], 5) := by unfold Dat.dropF; rw [if_neg (by simpa using h0), if_pos hd]
      rw [hF]
      rw [h0] at hc
      rw [decide_eq_false (show ¬ (0 ≤ day ∧ day ≤ 3652058) from hd)] at hv
      clear hl h0 hF hok
      go_enter Try.func23, Try.ntmps23
      go_wp2_with fail
      refine (hc _ ha hB).mono ?_
      rintro e w1 ⟨rfl, hb1⟩
      go_wp2_with fail
      refine (hv _).mono ?_
      rintro e w2 ⟨rfl, rfl⟩
      go_wp2_with fail
      go_ret2
      exact ⟨none, 0, rfl, World.ownsRow_nil _ _ _ _, hb1⟩
  · have hF : Dat.dropF l day = ([], Dat.chk l) := by unfold Dat.dropF; rw [if_pos h0]
    rw [hF]
    generalize Dat.chk l = E at *
    have h1 : (E == 0) = false := by simpa using h0
    have h2 : (E != 0) = true := by simpa using h0
    clear hl hF
    go_enter Try.func23, Try.ntmps23
    go_wp2_with fail
    refine (hc _ ha hB).mono ?_
    rintro e w1 ⟨rfl, hb1⟩
    go_wp2_with fail
    go_ret2
    exact ⟨none, 0, rfl, World.ownsRow_nil _ _ _ _, hb1⟩
end Go.Proofs.Ytoedhcenmbpeeaa
