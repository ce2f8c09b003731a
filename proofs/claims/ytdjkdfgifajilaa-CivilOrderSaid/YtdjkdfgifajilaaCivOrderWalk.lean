/- The walk of 'apportionlaw03.CivilOrder'. -/
import Derived.Test.YtdjkdfgifajilaaCivKnownWalk
import Derived.IntWalk
namespace Go.Proofs.Ytdjkdfgifajilaa
open Go.RowKit

theorem Block.step {W w' : World} {g : Nat} {t : TypeId} {cs : List Value} (h : Block W g t cs) (hb : Below W.heap.size W w') (o : Obj) : Block (w'.alloc o) g t cs := (h.call hb).alloc o
theorem bel_next {w W w' : World} (h : Below w.heap.size w W) (hb : Below W.heap.size W w') (o : Obj) : Below w.heap.size w (w'.alloc o) := bel_alloc (bel_call h hb) o
theorem lp_400 (y : Int) : Civ.lp (y + 400) = Civ.lp y := by
  have e1 : (y + 400) % 4 = y % 4 := by omega
  have e2 : (y + 400) % 100 = y % 100 := by omega
  have e3 : (y + 400) % 400 = y % 400 := by omega
  unfold Civ.lp
  rw [e1, e2, e3]
theorem dim_400 (y m : Int) (h1 : 1 ≤ y) (h2 : y + 400 ≤ 9999) : Civ.dim (y + 400) m = Civ.dim y m := by
  unfold Civ.dim
  rw [lp_400]
  have e1 : (y + 400 < 1 ∨ 9999 < y + 400 ∨ m < 1 ∨ 12 < m) = (y < 1 ∨ 9999 < y ∨ m < 1 ∨ 12 < m) := propext ⟨fun _ => by omega, fun _ => by omega⟩
  simp only [e1]
theorem cum_400 (y : Int) (h1 : 1 ≤ y) (h2 : y + 400 ≤ 9999) (m : Nat) : Civ.cum (y + 400) m = Civ.cum y m := by
  induction m with
  | zero => rfl
  | succ m ih => rw [Civ.cum, Civ.cum, ih, dim_400 y m h1 h2]
theorem isDate_400 {n y d : Int} {m : Nat} (h : IsDate n y m d) (h2 : y ≤ 9599) : IsDate (n + 146097) (y + 400) m d := by
  obtain ⟨⟨y1, y2, k1, k2, e1, e2⟩, rfl⟩ := h
  refine ⟨⟨by omega, by omega, k1, k2, e1, by rw [dim_400 y m y1 (by omega)]; exact e2⟩, ?_⟩
  unfold Civ.num
  rw [cum_400 y y1 (by omega)]
  unfold Civ.ahead
  omega
/-- The date behind a date. -/
theorem isDate_next {n y d : Int} {m : Nat} (h : IsDate n y m d) (hn : n < 3652058) :
    (d + 1 ≤ Civ.dim y m ∧ IsDate (n + 1) y m (d + 1)) ∨ (d = Civ.dim y m ∧ m < 12 ∧ IsDate (n + 1) y (m + 1) 1) ∨ (d = 31 ∧ m = 12 ∧ IsDate (n + 1) (y + 1) 1 1) := by
  obtain ⟨⟨y1, y2, k1, k2, e1, e2⟩, hnum⟩ := h
  rcases (by omega : d + 1 ≤ Civ.dim y m ∨ (d = Civ.dim y m ∧ m < 12) ∨ (d = Civ.dim y m ∧ m = 12)) with h1 | ⟨h1, h2⟩ | ⟨h1, rfl⟩
  · exact .inl ⟨h1, ⟨y1, y2, k1, k2, by omega, h1⟩, by unfold Civ.num at hnum ⊢; omega⟩
  · have hp := Civ.dim_pos y (m + 1) y1 y2 (by omega) (by omega)
    refine .inr (.inl ⟨h1, h2, ⟨y1, y2, by omega, by omega, by omega, by omega⟩, ?_⟩)
    have := Civ.cum_succ y m k1
    unfold Civ.num at hnum ⊢
    omega
  · have hd : Civ.dim y ((12 : Nat) : Int) = 31 := by unfold Civ.dim; rw [if_neg (by omega)]; rfl
    have hc : Civ.cum y 13 = Civ.cum y 12 + Civ.dim y ((12 : Nat) : Int) := Civ.cum_succ y 12 (by omega)
    have hy := Civ.cum_year y y1 y2
    have ha := Civ.ahead_succ y
    have hnum' : Civ.ahead y + Civ.cum y 12 + d - 1 = n := hnum
    have hy9 : y < 9999 := by
      rcases Int.lt_or_le y 9999 with h | h
      · exact h
      · obtain rfl : y = 9999 := by omega
        have h4 : Civ.ahead (9999 + 1) = 3652059 := by decide
        omega
    have hp := Civ.dim_pos (y + 1) 1 (by omega) (by omega) (by omega) (by omega)
    refine .inr (.inr ⟨by omega, rfl, ⟨by omega, by omega, by omega, by omega, by omega, by omega⟩, ?_⟩)
    show Civ.ahead (y + 1) + Civ.cum (y + 1) 1 + 1 - 1 = n + 1
    rw [Civ.cum_one]
    omega
theorem bne_self_int (a : Int) : (a != a) = false := by simp
set_option maxRecDepth 100000 in
set_option maxHeartbeats 16000000 in
theorem order_main (a b y d y' d' : Int) (m m' : Nat) (w : World) (h : IsDate a y m d) (h' : IsDate b y' m' d') :
    Calls Try.prog 9 #[.int .i64 a, .int .i64 b] w fun e w' => e = .returned (.bool true) ∧ Below w.heap.size w w' := by
  have r1 := isDate_range h
  have r2 := isDate_range h'
  have qa := fun w => date_is h w
  have qb := fun w => date_is h' w
  have qd := fun w => lawday_yes h w
  have Hlt : Hid (y < y' ∨ (y = y' ∧ (m < m' ∨ (m = m' ∧ d < d'))) → a < b) := fun hl => by have := Civ.num_lt h.1 h'.1 hl; have e1 := h.2; have e2 := h'.2; omega
  have Hgt : Hid (y' < y ∨ (y' = y ∧ (m' < m ∨ (m' = m ∧ d' < d))) → b < a) := fun hl => by have := Civ.num_lt h'.1 h.1 hl; have e1 := h.2; have e2 := h'.2; omega
  have Heq : Hid (y = y' ∧ m = m' ∧ d = d' → a = b) := fun ⟨e1, e2, e3⟩ => by subst e1; subst e2; subst e3; exact h.2.symm.trans h'.2
  have Hnext := Lib.hid (isDate_next (n := a) h)
  have H400 := Lib.hid (isDate_400 (n := a) h)
  obtain ⟨⟨y1, y2, k1, k2, e1, e2⟩, -⟩ := h
  obtain ⟨⟨y1', y2', k1', k2', e1', e2'⟩, -⟩ := h'
  have hdm := (Civ.dim_lo y m).2
  have hdm' := (Civ.dim_lo y' m').2
  have hd31 : d ≤ 31 := by omega
  obtain ⟨r1a, r1b⟩ := r1
  obtain ⟨r2a, r2b⟩ := r2
  clear e2 e2'
  go_enter Try.func9, Try.ntmps9
  go_wp2_with fail
  refine (known_walk _).mono ?_
  rintro e w1 ⟨rfl, hb1⟩
  go_wp2_with fail
  refine (qa _).mono ?_
  rintro e w2 ⟨rfl, hb2⟩
  have bel2 := bel_next hb1 hb2 (.cells #[.int .i64 y, .int .i64 m, .int .i64 d] 26)
  have p2 : Block (w2.alloc (.cells #[.int .i64 y, .int .i64 m, .int .i64 d] 26)) w2.heap.size 26 [.int .i64 y, .int .i64 m, .int .i64 d] := Block.new w2 _ _
  go_wp2_with fail
  refine (qb _).mono ?_
  rintro e w3 ⟨rfl, hb3⟩
  have bel3 := bel_next bel2 hb3 (.cells #[.int .i64 y', .int .i64 m', .int .i64 d'] 26)
  have p3 : Block (w3.alloc (.cells #[.int .i64 y', .int .i64 m', .int .i64 d'] 26)) w3.heap.size 26 [.int .i64 y', .int .i64 m', .int .i64 d'] := Block.new w3 _ _
  have r2 := p2.step hb3 (.cells #[.int .i64 y', .int .i64 m', .int .i64 d'] 26)
  clear qa qb p2 hb1 hb2 hb3 bel2
  generalize hW : w3.alloc (.cells #[.int .i64 y', .int .i64 m', .int .i64 d'] 26) = W at *
  have c0 := r2.cell 0
  have c1 := r2.cell 1
  have c2 := r2.cell 2
  have c3 := p3.cell 0
  have c4 := p3.cell 1
  have c5 := p3.cell 2
  simp only [List.getElem?_cons_zero, List.getElem?_cons_succ] at c0 c1 c2 c3 c4 c5
  go_wp2_with fail
  refine (qd _).mono ?_
  rintro e w4 ⟨rfl, rfl⟩
  clear qd
  go_upto_region 8 with fail
  go_cut [10] (fun s wx => s = .bool (decide (b < a)) ∧ W = wx)
  case first =>
    rcases (by omega : y' < y ∨ y < y' ∨ (y = y' ∧ m' < m) ∨ (y = y' ∧ m < m') ∨ (y = y' ∧ m = m' ∧ d' < d) ∨ (y = y' ∧ m = m' ∧ d < d') ∨ (y = y' ∧ m = m' ∧ d = d')) with g | g | ⟨g1, g⟩ | ⟨g1, g⟩ | ⟨g1, g2, g⟩ | ⟨g1, g2, g⟩ | ⟨g1, g2, g⟩
    · have hab : b < a := Hgt.out (.inl g)
      as_aux_lemma =>
        go_wp2_with fail
        all_goals
          go_meet
          refine ⟨?_, rfl⟩
          first | (simp; omega) | (simp; done) | rfl
    · have hab : ¬ b < a := by have := Hlt.out (.inl g); omega
      as_aux_lemma =>
        go_wp2_with fail
        all_goals
          go_meet
          refine ⟨?_, rfl⟩
          first | (simp; omega) | (simp; done) | rfl
    · have hab : b < a := Hgt.out (.inr ⟨g1.symm, .inl g⟩)
      subst g1
      as_aux_lemma =>
        go_wp2_with fail
        all_goals
          go_meet
          refine ⟨?_, rfl⟩
          first | (simp; omega) | (simp; done) | rfl
    · have hab : ¬ b < a := by have := Hlt.out (.inr ⟨g1, .inl g⟩); omega
      subst g1
      as_aux_lemma =>
        go_wp2_with fail
        all_goals
          go_meet
          refine ⟨?_, rfl⟩
          first | (simp; omega) | (simp; done) | rfl
    · have hab : b < a := Hgt.out (.inr ⟨g1.symm, .inr ⟨g2.symm, g⟩⟩)
      subst g1; subst g2
      as_aux_lemma =>
        go_wp2_with fail
        all_goals
          go_meet
          refine ⟨?_, rfl⟩
          first | (simp; omega) | (simp; done) | rfl
    · have hab : ¬ b < a := by have := Hlt.out (.inr ⟨g1, .inr ⟨g2, g⟩⟩); omega
      subst g1; subst g2
      as_aux_lemma =>
        go_wp2_with fail
        all_goals
          go_meet
          refine ⟨?_, rfl⟩
          first | (simp; omega) | (simp; done) | rfl
    · have hab : ¬ b < a := by have := Heq.out ⟨g1, g2, g⟩; omega
      subst g1; subst g2; subst g
      as_aux_lemma =>
        go_wp2_with fail
        all_goals
          go_meet
          refine ⟨?_, rfl⟩
          first | (simp; omega) | (simp; done) | rfl
  case rest =>
    obtain ⟨rfl, rfl⟩ := hcut
    go_upto_region 9 with fail
    go_cut [10, 103] (fun _ s wx => s = .bool false ∧ W = wx)
    case first =>
      rcases (by omega : y ≠ y' ∨ (y = y' ∧ m ≠ m') ∨ (y = y' ∧ m = m' ∧ d ≠ d') ∨ (y = y' ∧ m = m' ∧ d = d')) with g | ⟨g1, g⟩ | ⟨g1, g2, g⟩ | ⟨g1, g2, g⟩
      · have hab : (a == b) = false := by simp; have := Hlt.out; have := Hgt.out; omega
        have hy : (y == y') = false := by simpa using g
        as_aux_lemma =>
          go_wp2_with fail
          all_goals
            go_meet
            exact ⟨rfl, rfl⟩
      · have hab : (a == b) = false := by simp; have := Hlt.out; have := Hgt.out; omega
        subst g1
        have hy : ((m : Int) == (m' : Int)) = false := by simp; omega
        as_aux_lemma =>
          go_wp2_with fail
          all_goals
            go_meet
            exact ⟨rfl, rfl⟩
      · have hab : (a == b) = false := by simp; have := Hlt.out; have := Hgt.out; omega
        subst g1; subst g2
        have hy : (d == d') = false := by simpa using g
        as_aux_lemma =>
          go_wp2_with fail
          all_goals
            go_meet
            exact ⟨rfl, rfl⟩
      · have hab := Heq.out ⟨g1, g2, g⟩
        subst g1; subst g2; subst g; subst hab
        as_aux_lemma =>
          go_wp2_with fail
          all_goals
            go_meet
            exact ⟨rfl, rfl⟩
    case rest =>
      obtain ⟨rfl, rfl⟩ := hcut
      go_upto_if 105 with fail
      go_cut [4] (fun s wx => s = .bool false ∧ Below w.heap.size w wx ∧ Block wx w2.heap.size 26 [.int .i64 y, .int .i64 m, .int .i64 d])
      case first =>
       as_aux_lemma =>
        by_cases hmax : a < 3652058
        · have K : Hid (∃ (Y Z : Int) (M : Nat), IsDate (a + 1) Y M Z ∧ ((Y = y ∧ M = m ∧ Z = d + 1) ∨ (Y = y ∧ M = m + 1 ∧ Z = 1 ∧ d = Civ.dim y m) ∨ (Y = y + 1 ∧ M = 1 ∧ Z = 1 ∧ m = 12 ∧ d = 31))) := by
            rcases Hnext.out hmax with ⟨_, g⟩ | ⟨g1, _, g⟩ | ⟨g1, g2, g⟩
            · exact ⟨_, _, _, g, .inl ⟨rfl, rfl, rfl⟩⟩
            · exact ⟨_, _, _, g, .inr (.inl ⟨rfl, rfl, rfl, g1⟩)⟩
            · exact ⟨_, _, _, g, .inr (.inr ⟨rfl, rfl, rfl, g2, g1⟩)⟩
          obtain ⟨Y, Z, M, g, hcase⟩ := K.out
          have Hcase := Lib.hid hcase
          have hz := fun w => date_is g w
          have hL := fun w => length_any y m w (by omega) (by omega) (by omega) (by omega)
          have hw0 := weekday_any a
          have hw1 := weekday_any (a + 1)
          have ew : wday (a + 1) = wday a % 7 + 1 := by unfold wday; rw [if_pos (by omega), if_pos (by omega)]; omega
          have bw : 0 ≤ wday a ∧ wday a ≤ 7 := by unfold wday; rw [if_pos (by omega)]; omega
          rw [ew] at hw1
          obtain ⟨bw1, bw2⟩ := bw
          generalize wday a = V at *
          generalize Civ.dim y m = L at *
          clear hcase ew g K
          go_wp2_with fail
          refine (hz _).mono ?_
          rintro e w5 ⟨rfl, hb5⟩
          have bel5 := bel_next bel3 hb5 (.cells #[.int .i64 Y, .int .i64 M, .int .i64 Z] 26)
          have p5 : Block (w5.alloc (.cells #[.int .i64 Y, .int .i64 M, .int .i64 Z] 26)) w5.heap.size 26 [.int .i64 Y, .int .i64 M, .int .i64 Z] := Block.new w5 _ _
          have r5 := r2.step hb5 (.cells #[.int .i64 Y, .int .i64 M, .int .i64 Z] 26)
          clear c0 c1 c2 c3 c4 c5 hz
          have c0 := r5.cell 0
          have c1 := r5.cell 1
          have c2 := r5.cell 2
          simp only [List.getElem?_cons_zero, List.getElem?_cons_succ] at c0 c1 c2
          go_wp2_with fail
          have i1 : IntKind.i64.wrap (d + 1) = d + 1 := IntWalk.i64_in _ (by omega)
          have i2 : IntKind.i64.wrap ((m : Int) + 1) = (m : Int) + 1 := IntWalk.i64_in _ (by omega)
          have i3 : IntKind.i64.wrap (y + 1) = y + 1 := IntWalk.i64_in _ (by omega)
          rcases Hcase.out with ⟨rfl, rfl, rfl⟩ | ⟨v1, v2, v3, v4⟩ | ⟨v1, v2, v3, v4, v5⟩
          · as_aux_lemma =>
              go_quiet (fail)
              go_wp2_with fail
              refine (hw1 _).mono ?_
              rintro e w6 ⟨rfl, rfl⟩
              go_wp2_with fail
              refine (hw0 _).mono ?_
              rintro e w6 ⟨rfl, rfl⟩
              go_wp2_with fail
              go_meet
              exact ⟨rfl, bel_drewN bel5 _, r5.drewN _⟩
          · have f1 : (Y == y) = true := by simp; omega
            have f2 : ((M : Int) == (m : Int)) = false := by simp; omega
            have f3 : ((M : Int) == (m : Int) + 1) = true := by simp; omega
            have f4 : (Z == 1) = true := by simp; omega
            have f5 : (d == L) = true := by simp; omega
            clear v1 v2 v3 v4
            as_aux_lemma =>
              go_quiet ((go_at_call 20; exact quiet_l (hL _)))
              go_wp2_with fail
              refine (hw1 _).mono ?_
              rintro e w6 ⟨rfl, rfl⟩
              go_wp2_with fail
              refine (hw0 _).mono ?_
              rintro e w6 ⟨rfl, rfl⟩
              go_wp2_with fail
              go_meet
              exact ⟨rfl, bel_drewN bel5 _, r5.drewN _⟩
          · have f1 : (Y == y) = false := by simp; omega
            have f2 : (Y == y + 1) = true := by simp; omega
            have f3 : ((M : Int) == 1) = true := by simp; omega
            have f4 : (Z == 1) = true := by simp; omega
            have f5 : ((m : Int) == 12) = true := by simp; omega
            have f6 : (d == 31) = true := by simp; omega
            clear v1 v2 v3 v4 v5
            as_aux_lemma =>
              go_quiet (fail)
              go_wp2_with fail
              refine (hw1 _).mono ?_
              rintro e w6 ⟨rfl, rfl⟩
              go_wp2_with fail
              refine (hw0 _).mono ?_
              rintro e w6 ⟨rfl, rfl⟩
              go_wp2_with fail
              go_meet
              exact ⟨rfl, bel_drewN bel5 _, r5.drewN _⟩
        · go_wp2_with fail
          go_meet
          exact ⟨rfl, bel3, r2⟩
      case rest =>
       as_aux_lemma =>
        obtain ⟨rfl, hbel, hB⟩ := hcut
        have c0 := hB.cell 0
        have c1 := hB.cell 1
        have c2 := hB.cell 2
        simp only [List.getElem?_cons_zero, List.getElem?_cons_succ] at c0 c1 c2
        by_cases h96 : y ≤ 9599
        · have hd := fun w => lawday_yes (H400.out h96) w
          go_wp2_with fail
          refine (hd _).mono ?_
          rintro e w6 ⟨rfl, rfl⟩
          go_wp2_with fail
          go_ret
          exact ⟨rfl, hbel⟩
        · have h96' : 9599 < y := by omega
          go_wp2_with fail
          go_ret
          exact ⟨rfl, hbel⟩
end Go.Proofs.Ytdjkdfgifajilaa
