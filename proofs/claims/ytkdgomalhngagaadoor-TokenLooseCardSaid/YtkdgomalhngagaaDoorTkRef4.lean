/- The walk of the document's Tokens. -/
import Derived.Test.YtkdgomalhngagaaDoorTkRef3
namespace Go.Proofs.YtkdgomalhngagaaDoor
open Go.RowKit Go.Lib

/-- A part from its beginning to its end. -/
theorem gop_walk {s : ByteArray} {a e : Nat} (he : e ≤ s.size) (hg : ∀ j, a ≤ j → j < e → goesOn s j) (hn : ¬ goesOn s e) : ∀ k j, e - j = k → a < j → j ≤ e →
    Tok.gop (((nums s).take j).drop a) j ((nums s).drop j) = (a, Tok.tok (((nums s).take e).drop a)) :: Tok.gop [] e ((nums s).drop e) := by
  have hl := nums_len s
  intro k
  induction k with
  | zero =>
    intro j h1 h2 h3
    obtain rfl : j = e := by omega
    have hlen : (((nums s).take j).drop a).length = j - a := by rw [List.length_drop, List.length_take]; omega
    rcases Nat.lt_or_ge j (nums s).length with g | g
    · rw [Tok.drop_get g, Tok.gop_shut (Tok.part_ne h2 (by omega)) (fun hc => hn ((Tok.goes_cont h2 g).1 hc)), hlen]
      rw [show j - (j - a) = a by omega]
    · rw [List.drop_of_length_le (i := j) g, Tok.gop_end (Tok.part_ne h2 (by omega)), Tok.gop_nil, hlen]
      rw [show j - (j - a) = a by omega]
  | succ k ih =>
    intro j h1 h2 h3
    have hj := hg j (by omega) (by omega)
    have hlt := Tok.goes_lt (l := nums s) hj
    rw [Tok.drop_get hlt, Tok.gop_cont ((Tok.goes_cont h2 hlt).2 hj), ← Tok.take_more (by omega) hlt]
    exact ih (j + 1) (by omega) (by omega) (by omega)
/-- At a place where a part may begin, it begins with a letter or a digit. -/
def Clean (s : ByteArray) (a : Nat) : Prop := goesOn s a → Tok.snd (cAt s a)
theorem clean_next {s : ByteArray} {a : Nat} (h : ¬ Tok.snd (cAt s a)) : Clean s (a + 1) := by
  rintro (g | ⟨-, g, -⟩)
  · exact g
  · rw [Nat.add_sub_cancel] at g; exact absurd g h
theorem clean_zero (s : ByteArray) : Clean s 0 := by
  rintro (g | ⟨-, g, -⟩)
  · exact g
  · exact g
theorem kind_ne (l : List Int) : Tok.kind l ≠ 0 := by
  unfold Tok.kind
  split
  · decide
  · split <;> decide
theorem nxt_gop {s : ByteArray} {a b : Nat} {t : Tok.Tk} (h : Nxt s a t b) (ha : a < s.size) (hc : Clean s a) :
    (t.1 = 0 → Tok.gop [] a ((nums s).drop a) = Tok.gop [] b ((nums s).drop b)) ∧ (t.1 ≠ 0 → Tok.gop [] a ((nums s).drop a) = (a, t) :: Tok.gop [] b ((nums s).drop b)) ∧ a < b ∧ b ≤ s.size ∧ Clean s b := by
  have hl := nums_len s
  have hd := Tok.drop_get (l := nums s) (i := a) (by omega)
  change _ = cAt s a :: _ at hd
  cases h with
  | comma h =>
    rw [hd, h]
    exact ⟨fun e => absurd e (by decide), fun _ => Tok.gop_comma, by omega, by omega, clean_next (by rw [h]; decide)⟩
  | hash h =>
    rw [hd, h]
    exact ⟨fun e => absurd e (by decide), fun _ => Tok.gop_hash, by omega, by omega, clean_next (by rw [h]; decide)⟩
  | none h1 h2 h3 =>
    rw [hd]
    have hs : ¬ Tok.snd (cAt s a) := fun g => h3 (.inl g)
    exact ⟨fun _ => Tok.gop_skip hs h1 h2, fun e => absurd rfl e, by omega, by omega, clean_next hs⟩
  | part _ h1 h2 hab hbs hg hn =>
    have hs := hc (hg a (Nat.le_refl _) hab)
    have hk : Tok.kind (((((nums s).take b).drop a)).map Tok.up) ≠ 0 := kind_ne _
    refine ⟨fun e => absurd e hk, fun _ => ?_, hab, hbs, fun g => absurd g hn⟩
    have := gop_walk hbs hg hn (b - (a + 1)) (a + 1) rfl (by omega) (by omega)
    rw [Tok.take_one (by omega)] at this
    rw [hd, Tok.gop_snd hs]
    exact this
/-- The tokens so far. -/
def SoFar (s : ByteArray) (a : Nat) (out : List Tok.Tk) : Prop := Clean s a ∧ ∃ outP : List (Nat × Tok.Tk), outP ++ Tok.gop [] a ((nums s).drop a) = Tok.toksP (nums s) ∧ outP.map Prod.snd = out
theorem SoFar.skip {s : ByteArray} {a b : Nat} {t : Tok.Tk} {out : List Tok.Tk} (h : SoFar s a out) (hn : Nxt s a t b) (ha : a < s.size) (h0 : t.1 = 0) : SoFar s b out := by
  obtain ⟨hc, P, e, m⟩ := h
  obtain ⟨n1, -, -, -, n5⟩ := nxt_gop hn ha hc
  exact ⟨n5, P, by rw [← n1 h0]; exact e, m⟩
theorem SoFar.more {s : ByteArray} {a b : Nat} {t : Tok.Tk} {out : List Tok.Tk} (h : SoFar s a out) (hn : Nxt s a t b) (ha : a < s.size) (h0 : t.1 ≠ 0) : SoFar s b (out ++ [t]) := by
  obtain ⟨hc, P, e, m⟩ := h
  obtain ⟨-, n2, -, -, n5⟩ := nxt_gop hn ha hc
  refine ⟨n5, P ++ [(a, t)], ?_, by simp [m]⟩
  rw [← e, n2 h0]; simp
theorem SoFar.full {s : ByteArray} {a b : Nat} {t : Tok.Tk} {out : List Tok.Tk} (h : SoFar s a out) (hn : Nxt s a t b) (ha : a < s.size) (h0 : t.1 ≠ 0) (hs : s.size ≤ 200) (hb : Tok.badAt (nums s) = none) (h40 : out.length = 40) : Tok.tokF (nums s) = ([], 8, (a : Int)) := by
  obtain ⟨hc, P, e, m⟩ := h
  obtain ⟨-, n2, -, -, n5⟩ := nxt_gop hn ha hc
  rw [n2 h0] at e
  have hP : P.length = 40 := by rw [← h40, ← m, List.length_map]
  have hlen : 40 < (Tok.toks (nums s)).length := by rw [← Tok.toksP_len, ← e]; simp; omega
  refine Tok.tokF_full (by rw [nums_len]; exact hs) hb hlen (t := t) ?_
  rw [← e, List.getElem?_append_right (by omega), hP]; rfl
theorem SoFar.done {s : ByteArray} {out : List Tok.Tk} (h : SoFar s s.size out) : out = Tok.toks (nums s) := by
  obtain ⟨hc, P, e, m⟩ := h
  rw [List.drop_of_length_le (by rw [nums_len]; exact Nat.le_refl _), Tok.gop_nil, List.append_nil] at e
  rw [← m, e, Tok.toksP_map]
set_option maxRecDepth 100000 in
set_option maxHeartbeats 8000000 in
theorem rtokens_any (s : ByteArray) (hs : s.size ≤ 1000000) (w : World) : Calls Tryd.prog 12 #[.string s] w (TkR (Tok.tokF (nums s)) w) := by
  have hl := nums_len s
  obtain ⟨i0, hi0, hz0, hz1, hz2⟩ := info_parts infoT
  by_cases h200 : 200 < s.size
  · rw [Tok.tokF_long (by omega)]
    clear hl
    go_enter Tryd.func12, Tryd.ntmps12
    go_wp2_with fail
    exact ret_tc (T := 25) rfl rfl rfl (Block.new w _ [.int .i64 3, .int .i64 0]) agg_fault size_fault ⟨none, 0, rfl, World.ownsRow_nil _ _ _ _, bel_alloc (Below.refl _ _) _⟩
  · have Hl := Lib.hid hl
    clear hl
    go_enter Tryd.func12, Tryd.ntmps12
    go_wp2_with fail
    go_loopw [4] (fun i wr => ∃ a : Nat, a ≤ s.size ∧ i = .int .i64 a ∧ Hid (∀ j, j < a → Tok.okB (cAt s j)) ∧ Block wr w.heap.size 25 [.int .i64 0, .int .i64 0] ∧ Below w.heap.size w wr) (fun i _ => s.size - (RowKit.intOf i).toNat)
    case atStart => exact ⟨0, by omega, rfl, Lib.hid (fun j h => absurd h (by omega)), Block.new w _ [.int .i64 0, .int .i64 0], bel_alloc (Below.refl _ _) _⟩
    case round =>
      obtain ⟨a, ha, rfl, Hv, hF, hbel⟩ := hrel
      have e0 : wr.cell? ⟨w.heap.size, 0, none⟩ = some (.int .i64 0) := hF.cell 0
      have e1 : wr.cell? ⟨w.heap.size, 1, none⟩ = some (.int .i64 0) := hF.cell 1
      have g0 : wr.frozen? ⟨w.heap.size, 0, none⟩ = false := hF.free 0
      have g1 : wr.frozen? ⟨w.heap.size, 1, none⟩ = false := hF.free 1
      by_cases hlt : a < s.size
      · have hg := cAt_get s a hlt
        have q1 : (a : Int) < (s.size : Int) := by omega
        by_cases hb : Tok.okB (cAt s a)
        · have Hn : Hid (∀ j, j < a + 1 → Tok.okB (cAt s j)) := Lib.hid (fun j hj => by
            rcases (by omega : j < a ∨ j = a) with g | rfl
            · exact Hv.out j g
            · exact hb)
          rw [hg] at hb
          have hb' : (s[a].toNat : Int) = 9 ∨ ((s[a].toNat : Int) ≠ 9 ∧ ¬ (s[a].toNat : Int) < 32 ∧ ¬ (s[a].toNat : Int) > 126) := by unfold Tok.okB at hb; omega
          clear hg hb
          rcases hb' with h9 | ⟨h9, h32, h126⟩
          · have t9 : ((s[a].toNat : Int) != 9) = false := by simpa using h9
            clear h9
            go_wp2_with fail
            go_roundw
            case rel => exact ⟨a + 1, by omega, by go_num, Hn, hF, hbel⟩
            case measure => simp [RowKit.intOf]; omega
          · have t9 : ((s[a].toNat : Int) != 9) = true := by simpa using h9
            have t32 : decide ((s[a].toNat : Int) < 32) = false := decide_eq_false h32
            have t126 : decide ((s[a].toNat : Int) > 126) = false := decide_eq_false h126
            clear h9 h32 h126
            go_wp2_with fail
            go_roundw
            case rel => exact ⟨a + 1, by omega, by go_num, Hn, hF, hbel⟩
            case measure => simp [RowKit.intOf]; omega
        · have Hr : Hid (Tok.tokF (nums s) = ([], 4, (a : Int))) := Lib.hid (Tok.tokF_bad (by rw [Hl.out]; omega) (Tok.badAt_some (by rw [Hl.out]; exact hlt) Hv.out hb))
          rw [hg] at hb
          have hb' : (s[a].toNat : Int) ≠ 9 ∧ ((s[a].toNat : Int) < 32 ∨ (¬ (s[a].toNat : Int) < 32 ∧ (s[a].toNat : Int) > 126)) := by unfold Tok.okB at hb; omega
          clear hg hb
          obtain ⟨h9, hb'⟩ := hb'
          have t9 : ((s[a].toNat : Int) != 9) = true := by simpa using h9
          clear h9
          rcases hb' with h32 | ⟨h32, h126⟩
          · have t32 : decide ((s[a].toNat : Int) < 32) = true := decide_eq_true h32
            clear h32
            go_wp2_with fail
            refine ret_tc (T := 25) rfl rfl rfl ((hF.set 0 (.int .i64 4)).set 1 (.int .i64 a)) agg_fault size_fault ?_
            rw [Hr.out]
            exact ⟨none, 0, rfl, World.ownsRow_nil _ _ _ _, bel_set (p := ⟨w.heap.size, 1, none⟩) (bel_set (p := ⟨w.heap.size, 0, none⟩) hbel (Nat.le_refl _) _) (Nat.le_refl _) _⟩
          · have t32 : decide ((s[a].toNat : Int) < 32) = false := decide_eq_false h32
            have t126 : decide ((s[a].toNat : Int) > 126) = true := decide_eq_true h126
            clear h32 h126
            go_wp2_with fail
            refine ret_tc (T := 25) rfl rfl rfl ((hF.set 0 (.int .i64 4)).set 1 (.int .i64 a)) agg_fault size_fault ?_
            rw [Hr.out]
            exact ⟨none, 0, rfl, World.ownsRow_nil _ _ _ _, bel_set (p := ⟨w.heap.size, 1, none⟩) (bel_set (p := ⟨w.heap.size, 0, none⟩) hbel (Nat.le_refl _) _) (Nat.le_refl _) _⟩
      · obtain rfl : a = s.size := by omega
        have Hbad : Hid (Tok.badAt (nums s) = none) := Lib.hid (Tok.badAt_none fun j hj => Hv.out j (by rw [Hl.out] at hj; exact hj))
        have hFl := hF.lt
        clear e0 e1 g0 g1
        go_wp2_with fail
        go_loopw [5, 6] (fun o i wr => ∃ (a n cp : Nat) (A : Option Addr) (out : List Tok.Tk), a ≤ s.size ∧ i = .int .i64 a ∧ o = .slice A n cp ∧ n ≤ 40 ∧ Hid (n = out.length) ∧ Hid (SoFar s a out) ∧ wr.ownsRow (w.heap.size + 1) 31 2 (.slice A n cp) n (TC out) ∧ Block wr w.heap.size 25 [.int .i64 0, .int .i64 0] ∧ Below w.heap.size w wr) (fun _ i _ => s.size - (RowKit.intOf i).toNat)
        case atStart => exact ⟨0, 0, 0, none, [], by omega, rfl, rfl, by omega, Lib.hid rfl, Lib.hid ⟨clean_zero s, [], rfl, rfl⟩, World.ownsRow_nil _ _ _ _, hF, hbel⟩
        case round =>
          obtain ⟨a, n, cp, A, out, ha, rfl, rfl, hn40, Hn, Hso, hown, hF, hbel⟩ := hrel
          have hzz := hF.lt
          by_cases hlt : a < s.size
          · have hnx := fun w => next_any s hs a hlt w
            have q1 : (a : Int) < (s.size : Int) := by omega
            go_wp2_with fail
            refine (hnx _).mono ?_
            rintro e w1 ⟨t, b, ht, rfl, hb1⟩
            obtain ⟨-, -, hab, hbs, -⟩ := nxt_gop ht hlt Hso.out.1
            obtain ⟨k, l⟩ := t
            have hF1 := hF.call hb1
            have hown1 := own_below hown hb1
            have hbel1 := bel_call hbel hb1
            have hzw := hb1.size
            clear hnx
            by_cases h0 : k = 0
            · subst h0
              have Hs2 := Lib.hid (Hso.out.skip ht hlt rfl)
              clear ht
              go_wp2_with fail
              go_roundw
              case rel => exact ⟨b, n, cp, A, out, hbs, rfl, rfl, hn40, Hn, Hs2, World.ownsRow.alloc hown1 _, hF1.alloc _, bel_alloc hbel1 _⟩
              case measure => simp [RowKit.intOf]; omega
            · have t0 : (k != 0) = true := by simpa using h0
              by_cases h40 : n = 40
              · subst h40
                have Hr := Lib.hid (Hso.out.full ht hlt h0 (by omega) Hbad.out Hn.out.symm)
                clear ht h0
                go_upto_region 12 with fail
                obtain ⟨w3, hw3⟩ : ∃ w3, w1.alloc (.cells #[.int .i64 k, .string (strOfNums l)] 31) = w3 := ⟨_, rfl⟩
                have hF3 : Block w3 w.heap.size 25 [.int .i64 0, .int .i64 0] := hw3 ▸ hF1.alloc _
                have hB3 : Block w3 w1.heap.size 31 [.int .i64 k, .string (strOfNums l)] := hw3 ▸ Block.new w1 _ _
                have hbel3 : Below w.heap.size w w3 := hw3 ▸ bel_alloc hbel1 _
                rw [hw3]
                clear hw3
                have d0 : w3.cell? ⟨w1.heap.size, 0, none⟩ = some (.int .i64 k) := hB3.cell 0
                have e0 : w3.cell? ⟨w.heap.size, 0, none⟩ = some (.int .i64 0) := hF3.cell 0
                have e1 : w3.cell? ⟨w.heap.size, 1, none⟩ = some (.int .i64 0) := hF3.cell 1
                have g0 : w3.frozen? ⟨w.heap.size, 0, none⟩ = false := hF3.free 0
                have g1 : w3.frozen? ⟨w.heap.size, 1, none⟩ = false := hF3.free 1
                go_wp2_with fail
                refine ret_tc (T := 25) rfl rfl rfl ((hF3.set 0 (.int .i64 8)).set 1 (.int .i64 a)) agg_fault size_fault ?_
                rw [Hr.out]
                exact ⟨none, 0, rfl, World.ownsRow_nil _ _ _ _, bel_set (p := ⟨w.heap.size, 1, none⟩) (bel_set (p := ⟨w.heap.size, 0, none⟩) hbel3 (Nat.le_refl _) _) (Nat.le_refl _) _⟩
              · have tn : ((n : Int) == 40) = false := by simp; omega
                have Hs2 := Lib.hid (Hso.out.more ht hlt h0)
                clear ht h0
                go_wp2_with (at_builtin; refine wpList_append_shows _ rfl _ _ 22 rfl (w.heap.size + 1) 31 i0 (.agg #[.int .i64 0, .string ⟨#[]⟩]) 2 24 Tryd.underlying22 hi0 hz0 hz1 hz2 rfl (by decide) _ n (TC out) rfl (by exact World.ownsRow.alloc (World.ownsRow.alloc hown1 _) _) _ (some ⟨w1.heap.size + 1, 0, none⟩) 1 1 (TC [(k, l)]) rfl (by exact shows_tk _ (k, l) _ _ (by simp)) (tc_one _) (by unfold maxLen; omega) (by omega) (by simp; omega) ?_; intro A2 c2 w2 hown2 hg2)
                go_roundw
                case rel =>
                  refine ⟨b, n + 1, c2, A2, out ++ [(k, l)], hbs, rfl, rfl, by omega, Lib.hid (by simp [Hn.out]), Hs2, ?_, ?_, ?_⟩
                  · rw [tc_append]; exact hown2
                  · have hk := (hF1.alloc (.cells #[.int .i64 k, .string (strOfNums l)] 31)).alloc (.cells #[.int .i64 k, .string (strOfNums l)] 31)
                    exact (hg2.block _ hk.lt (fun e => by have := (hown1.lt _ e.symm).1; omega)).trans hk
                  · exact bel_grown (bel_alloc (bel_alloc hbel1 _) _) hg2 (fun g hg => by have := (hown1.lt g hg).1; omega)
                case measure => simp [RowKit.intOf]; omega
          · obtain rfl : a = s.size := by omega
            have Hr : Hid (Tok.tokF (nums s) = (out, 0, 0)) := Lib.hid (by have := Hso.out.done; rw [this]; exact Tok.tokF_fine (by rw [Hl.out]; omega) Hbad.out (by rw [← this, ← Hn.out]; exact hn40))
            have e0 : wr.cell? ⟨w.heap.size, 0, none⟩ = some (.int .i64 0) := hF.cell 0
            have e1 : wr.cell? ⟨w.heap.size, 1, none⟩ = some (.int .i64 0) := hF.cell 1
            have g0 : wr.frozen? ⟨w.heap.size, 0, none⟩ = false := hF.free 0
            have g1 : wr.frozen? ⟨w.heap.size, 1, none⟩ = false := hF.free 1
            go_wp2_with fail
            refine ret_tc (T := 25) rfl rfl rfl ((hF.set 0 (.int .i64 0)).set 1 (.int .i64 0)) agg_fault size_fault ?_
            rw [Hr.out]
            have ho := ownsRow_setCell_below (ownsRow_setCell_below hown (a := ⟨w.heap.size, 0, none⟩) (Nat.lt_succ_self _) (.int .i64 0)) (a := ⟨w.heap.size, 1, none⟩) (Nat.lt_succ_self _) (.int .i64 0)
            have e := Hn.out
            subst e
            exact ⟨A, cp, rfl, own_base ho (by omega), bel_set (p := ⟨w.heap.size, 1, none⟩) (bel_set (p := ⟨w.heap.size, 0, none⟩) hbel (Nat.le_refl _) _) (Nat.le_refl _) _⟩
end Go.Proofs.YtkdgomalhngagaaDoor
