/- The walk of the statement 'TokenTells'. -/
import Derived.Test.YtkdgomalhngagaaDoorTkManyWalk
namespace Go.Proofs.YtkdgomalhngagaaDoor
open Go.RowKit

theorem own_split {w : World} {base n c : Nat} {A : Option Addr} {t : TypeId} {xs : List Value} (h : w.ownsRow base t 2 (.slice A n c) n xs) :
    (A = none ∧ n = 0 ∧ c = 0) ∨ ∃ g ys, A = some ⟨g, 0, none⟩ ∧ base ≤ g ∧ g < w.heap.size ∧ Block w g t ys ∧ n * 2 ≤ ys.length := by
  rcases h.2 with ⟨hv, h0⟩ | ⟨g, cap, cur, hv, hb, hg, hnc, hcm, hcs, ht⟩
  · injection hv with h1 h2 h3
    exact .inl ⟨h1, h2, h3⟩
  · injection hv with h1 h2 h3
    subst h1; subst h3
    have hB : Block w g t cur.toList := by unfold Block; simpa using hg
    exact .inr ⟨g, cur.toList, rfl, hb, hB.lt, hB, by have := Nat.mul_le_mul_right 2 hnc; rw [Array.length_toList]; omega⟩
theorem grown_set {w a : World} {g : Nat} (h : w.grownBy a (some g)) (p : Addr) (hp : p.block = g) (u : Value) : w.grownBy (a.setCell p u) (some g) :=
  ⟨h.os, h.tape, h.output, by simpa [World.setCell] using h.size, fun k hk hne => by rw [Below.heap_setCell a p u k (fun e => hne (by rw [e, hp]))]; exact h.block k hk hne⟩
theorem own_grown {w w' : World} {base : Nat} {e : TypeId} {size n : Nat} {A : Option Addr} {c g : Nat} {xs : List Value} (h : w.ownsRow base e size (.slice A n c) n xs) (hg : w.grownBy w' (some g)) (hne : g < base) : w'.ownsRow base e size (.slice A n c) n xs := by
  refine ⟨h.1, ?_⟩
  rcases h.2 with hn | ⟨k, cap, cur, hv, hb, hk, rest⟩
  · exact .inl hn
  · refine .inr ⟨k, cap, cur, hv, hb, ?_, rest⟩
    have hlt : k < w.heap.size := by
      rcases Nat.lt_or_ge k w.heap.size with q | q
      · exact q
      · rw [Array.getElem?_eq_none q] at hk; cases hk
    rw [hg.block k hlt (by intro e; injection e with e; omega)]
    exact hk
set_option maxRecDepth 100000 in
set_option maxHeartbeats 4000000 in
theorem ttells_walk (s : ByteArray) (w : World) (hs : s.size ≤ maxLen) :
    Calls Tryd.prog 3 #[.string s] w fun e w' => e = .returned (.bool true) ∧ Below w.heap.size w w' := by
  unfold maxLen at hs
  by_cases h1000 : 1000 < s.size
  · go_enter Tryd.func3, Tryd.ntmps3
    go_wp2_with fail
    go_ret
    exact ⟨rfl, Below.refl _ _⟩
  · have hx := fun w => tokens_any s (by omega) w
    have hy := fun w => rtokens_any s (by omega) w
    have hu := fun w => upper_any s (by omega) w
    have hru := fun w => rupper_any s (by omega) w
    have hlr : (Tok.tokF (nums s)).1.length ≤ 1000000 := by have := Tok.tokF_len (nums s); omega
    obtain ⟨⟨r, e1, e2⟩, hr⟩ : ∃ r, Tok.tokF (nums s) = r := ⟨_, rfl⟩
    rw [hr] at hx hy hlr
    obtain ⟨U, hU⟩ : ∃ U, strOfNums ((nums s).map Tok.up) = U := ⟨_, rfl⟩
    rw [hU] at hu hru
    have t3 : (U.toList == U.toList) = true := by simp
    have t1 : (e1 == e1) = true := by simp
    have t2 : (e2 == e2) = true := by simp
    clear hr hU
    go_enter Tryd.func3, Tryd.ntmps3
    go_wp2_with fail
    refine (hx _).mono ?_
    rintro e w1 ⟨A1, c1, rfl, hown1, hb1⟩
    go_wp2_with fail
    refine (hy _).mono ?_
    rintro e w2 ⟨A2, c2, rfl, hown2, hb2⟩
    have k1 := ((Shows.of_own hown1).alloc (Nat.le_refl _) (.cells #[.int .i64 e1, .int .i64 e2] 25)).call hb2 (by simp)
    have k2 := Shows.of_own hown2
    have f1 := (Block.new w1 25 [.int .i64 e1, .int .i64 e2]).call hb2
    have f2 := Block.new w2 25 [.int .i64 e1, .int .i64 e2]
    have bel2 : Below w.heap.size w w2 := bel_call (bel_alloc hb1 _) hb2
    have hsm := same_true (c := c1) (c' := c2) (k1.alloc (by have := hb2.size; simp at this; omega) (.cells #[.int .i64 e1, .int .i64 e2] 25)) (k2.alloc (Nat.le_refl _) (.cells #[.int .i64 e1, .int .i64 e2] 25)) hlr
    have g1 := f1.alloc (.cells #[.int .i64 e1, .int .i64 e2] 25)
    have o1 : (w2.alloc (.cells #[.int .i64 e1, .int .i64 e2] 25)).ownsRow w.heap.size 31 2 (.slice A1 r.length c1) r.length (TC r) :=
      World.ownsRow.alloc (own_below (World.ownsRow.alloc hown1 _) hb2) _
    have o2 : (w2.alloc (.cells #[.int .i64 e1, .int .i64 e2] 25)).ownsRow (w1.heap.size + 1) 31 2 (.slice A2 r.length c2) r.length (TC r) :=
      World.ownsRow.alloc (by simpa using hown2) _
    have hlt1 : ∀ g, A1 = some ⟨g, 0, none⟩ → g < w1.heap.size := by
      intro g e
      rcases own_split hown1 with ⟨q, _⟩ | ⟨g', ys, q, _, q2, _⟩
      · rw [q] at e; cases e
      · rw [q] at e; injection e with e; injection e with e; omega
    go_wp2_with fail
    refine hsm.mono ?_
    rintro e w3 ⟨rfl, m, hm⟩
    have d0 : w3.cell? ⟨w1.heap.size, 0, none⟩ = some (.int .i64 e1) := by subst hm; exact g1.cell 0
    have d1 : w3.cell? ⟨w1.heap.size, 1, none⟩ = some (.int .i64 e2) := by subst hm; exact g1.cell 1
    have d2 : w3.cell? ⟨w2.heap.size, 0, none⟩ = some (.int .i64 e1) := by subst hm; exact f2.cell 0
    have d3 : w3.cell? ⟨w2.heap.size, 1, none⟩ = some (.int .i64 e2) := by subst hm; exact f2.cell 1
    have bel3 : Below w.heap.size w w3 := by subst hm; exact bel_drewN (bel_alloc bel2 _) m
    have o1 : w3.ownsRow w.heap.size 31 2 (.slice A1 r.length c1) r.length (TC r) := by subst hm; exact o1
    have o2 : w3.ownsRow (w1.heap.size + 1) 31 2 (.slice A2 r.length c2) r.length (TC r) := by subst hm; exact o2
    clear hm hsm k1 k2 f1 f2 g1 hown1 hown2
    go_wp2_with fail
    refine (hu _).mono ?_
    rintro e w4 ⟨rfl, hb4⟩
    go_wp2_with fail
    refine (hru _).mono ?_
    rintro e w5 ⟨rfl, hb5⟩
    have bel5 := bel_call (bel_call bel3 hb4) hb5
    have o1 := own_below (own_below o1 hb4) hb5
    have o2 := own_below (own_below o2 hb4) hb5
    go_upto_block 0 with fail
    go_cut [8] (fun _ wx => wx.ownsRow (w1.heap.size + 1) 31 2 (.slice A2 r.length c2) r.length (TC r) ∧ Below w.heap.size w wx)
    case first =>
      rcases own_split o1 with ⟨rfl, hn0, rfl⟩ | ⟨g, ys, rfl, hgb, hgl, hB, hyl⟩
      · have q0 : ¬ ((0 : Int) < (r.length : Int)) := by omega
        clear hn0
        go_wp2_with fail
        go_loopw [8] (fun i wr => i = .int .i64 0 ∧ w5 = wr) (fun _ _ => 0)
        case atStart => exact ⟨rfl, rfl⟩
        case round =>
          obtain ⟨rfl, rfl⟩ := hrel
          go_wp2_with fail
          go_meet
          exact ⟨o2, bel5⟩
      · have hg1 := hlt1 g rfl
        go_wp2_with fail
        go_loopw [8] (fun i wr => ∃ (j : Nat) (zs : List Value), j ≤ r.length ∧ i = .int .i64 j ∧ Block wr g 31 zs ∧ Hid (r.length * 2 ≤ zs.length) ∧ w5.grownBy wr (some g)) (fun i _ => r.length - (RowKit.intOf i).toNat)
        case atStart => exact ⟨0, ys, by omega, rfl, hB, Lib.hid hyl, World.grownBy.refl _ _⟩
        case round =>
          obtain ⟨j, zs, hj, rfl, hB2, Hz, hgr⟩ := hrel
          by_cases hlt : j < r.length
          · have hz2 := Hz.out
            obtain ⟨x0, hx0⟩ : ∃ x, zs[j * 2]? = some x := ⟨zs[j * 2]'(by omega), List.getElem?_eq_getElem _⟩
            obtain ⟨x1, hx1⟩ : ∃ x, zs[j * 2 + 1]? = some x := ⟨zs[j * 2 + 1]'(by omega), List.getElem?_eq_getElem _⟩
            have y0 := (hB2.cell (j * 2)).trans hx0
            have y1 := (hB2.cell (j * 2 + 1)).trans hx1
            have hf0 := Block.free hB2
            have hset := Block.set (Block.set hB2 (j * 2) (.int .i64 0)) (j * 2 + 1) (.string ⟨#[]⟩)
            have Hz2 : Hid (r.length * 2 ≤ ((zs.set (j * 2) (.int .i64 0)).set (j * 2 + 1) (.string ⟨#[]⟩)).length) := Lib.hid (by simpa using hz2)
            have q1 : (j : Int) < (r.length : Int) := by omega
            clear hx0 hx1 hz2
            go_wp2_with fail
            go_roundw
            case rel => exact ⟨j + 1, _, by omega, by go_num, hset, Hz2, grown_set (grown_set hgr _ rfl _) _ rfl _⟩
            case measure => simp [RowKit.intOf]; omega
          · have hlt3 : ¬ (j : Int) < (r.length : Int) := by omega
            go_wp2_with fail
            go_meet
            exact ⟨own_grown o2 hgr (by omega), bel_grown bel5 hgr (fun k hk => by injection hk with hk; omega)⟩
    case rest =>
      obtain ⟨o2, bel6⟩ := hcut
      clear d0 d1 d2 d3 o1
      go_wp2_with fail
      refine (hx _).mono ?_
      rintro e w7 ⟨A7, c7, rfl, hown7, hb7⟩
      have o7 := own_below o2 hb7
      have hsm := same_true (c := c7) (c' := c2) ((Shows.of_own hown7).alloc (Nat.le_refl _) (.cells #[.int .i64 e1, .int .i64 e2] 25)) ((Shows.of_own o7).alloc (Nat.le_refl _) (.cells #[.int .i64 e1, .int .i64 e2] 25)) hlr
      have bel7 := bel_alloc (bel_call bel6 hb7) (.cells #[.int .i64 e1, .int .i64 e2] 25)
      go_wp2_with fail
      refine hsm.mono ?_
      rintro e w8 ⟨rfl, m8, rfl⟩
      have bel8 := bel_drewN bel7 m8
      go_wp2_with fail
      refine (tok_awake _).mono ?_
      rintro e w9 ⟨rfl, hb9⟩
      go_wp2_with fail
      go_ret
      exact ⟨rfl, bel_call bel8 hb9⟩
end Go.Proofs.YtkdgomalhngagaaDoor
