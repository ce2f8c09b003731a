/- The walk of the statement 'TokenKinds'. -/
import Derived.Test.YtkdgomalhngagaaDoorTkBackWalk
import Derived.Test.YtkdgomalhngagaaDoorTokKinds
namespace Go.Proofs.YtkdgomalhngagaaDoor
open Go.RowKit

theorem tokens_long (s : ByteArray) (hs : s.size ≤ maxLen) (h200 : 200 < s.size) (w : World) : Calls Tryd.prog 11 #[.string s] w (TkR ([], 3, 0) w) := by
  unfold maxLen at hs
  go_enter Tryd.func11, Tryd.ntmps11
  go_wp2_with fail
  exact ret_tc (T := 25) rfl rfl rfl (Block.new w _ [.int .i64 3, .int .i64 0]) agg_fault size_fault ⟨none, 0, rfl, World.ownsRow_nil _ _ _ _, bel_alloc (Below.refl _ _) _⟩
theorem str_get {t : List Int} (h : ∀ x ∈ t, 0 ≤ x ∧ x ≤ 255) {k : Nat} (hk : k < (strOfNums t).size) : ((strOfNums t)[k].toNat : Int) = t.getD k 0 := by
  have := cAt_get (strOfNums t) k hk
  unfold cAt at this
  rw [nums_str t h] at this
  exact this.symm
set_option maxRecDepth 100000 in
set_option maxHeartbeats 4000000 in
theorem tkinds_walk (s : ByteArray) (w : World) (hs : s.size ≤ maxLen) :
    Calls Tryd.prog 9 #[.string s] w fun e w' => e = .returned (.bool true) ∧ Below w.heap.size w w' := by
  by_cases h200 : 200 < s.size
  · have htl := fun w => tokens_long s hs h200 w
    unfold maxLen at hs
    go_enter Tryd.func9, Tryd.ntmps9
    go_wp2_with fail
    refine (tok_awake _).mono ?_
    rintro e w1 ⟨rfl, hb1⟩
    go_wp2_with fail
    refine (htl _).mono ?_
    rintro e w2 ⟨A1, c1, rfl, hown1, hb2⟩
    go_wp2_with fail
    go_ret
    exact ⟨rfl, bel_alloc (bel_call hb1 hb2) _⟩
  · have hx := fun w => tokens_any s (by omega) w
    have hbs := tokF_bytes _ (nums_byte s)
    have hlx := Tok.tokF_len (nums s)
    have his : ∀ t ∈ (Tok.tokF (nums s)).1, Tok.Is 200 t := fun t ht => by
      by_cases g : (Tok.tokF (nums s)).2.1 = 0
      · obtain ⟨g1, _, _, g4⟩ := Tok.tokF_zero g
        rw [g4] at ht
        exact (Tok.toks_is ht).mono g1
      · rw [Tok.tokF_not g] at ht; cases ht
    have hml : ∀ t ∈ (Tok.tokF (nums s)).1, t.2.length ≤ 200 := fun t ht => Tok.may_len (Tok.may_is (his t ht) (by omega))
    obtain ⟨⟨l, e1, p1⟩, hr1⟩ : ∃ r, Tok.tokF (nums s) = r := ⟨_, rfl⟩
    rw [hr1] at hx hbs hlx his hml
    simp only at hbs hlx his hml
    have Hbs := Lib.hid hbs
    have His := Lib.hid his
    have Hml := Lib.hid hml
    clear hbs his hr1 hml
    go_enter Tryd.func9, Tryd.ntmps9
    go_wp2_with fail
    refine (tok_awake _).mono ?_
    rintro e w1 ⟨rfl, hb1⟩
    go_wp2_with fail
    refine (hx _).mono ?_
    rintro e w2 ⟨A, c, rfl, hown, hb2⟩
    have bel2 := bel_alloc (bel_call hb1 hb2) (.cells #[.int .i64 e1, .int .i64 p1] 25)
    have k2 := (Shows.of_own hown).alloc (Nat.le_refl _) (.cells #[.int .i64 e1, .int .i64 p1] 25)
    have z2 : w2.heap.size ≤ (w2.alloc (.cells #[.int .i64 e1, .int .i64 p1] 25)).heap.size := by simp
    go_upto_block 0 with fail
    generalize (w2.alloc (.cells #[.int .i64 e1, .int .i64 p1] 25)) = w3 at *
    clear hown
    go_wp2_with fail
    go_loopw [6] (fun i wr => ∃ a : Nat, a ≤ l.length ∧ i = .int .i64 a ∧ w3.heap.size ≤ wr.heap.size ∧ Shows wr w2.heap.size 2 A l.length (TC l) ∧ Below w.heap.size w wr) (fun i _ => l.length - (RowKit.intOf i).toNat)
    case atStart => exact ⟨0, by omega, rfl, Nat.le_refl _, k2, bel2⟩
    case round =>
      obtain ⟨a, ha, rfl, hz, hsh, hbel⟩ := hrel
      by_cases hlt : a < l.length
      · have q1 : (a : Int) < (l.length : Int) := by omega
        obtain ⟨x, hxe⟩ : ∃ x, l[a]? = some x := ⟨l[a], List.getElem?_eq_getElem _⟩
        have hxm : x ∈ l := List.mem_of_getElem? hxe
        have hI := His.out x hxm
        have hB := Hbs.out x hxm
        have hL := Hml.out x hxm
        obtain ⟨hne, hup, hk15⟩ := Tok.is_cap hI
        have hround := fun (k : Nat) (hk : k < x.2.length) => Tok.is_round hI hk
        have hend := Tok.is_end hI
        have hcs := fun (k : Nat) (hk : k < x.2.length) => Tok.cnt_step hk
        have hcell : ∀ w' A, Shows w' w2.heap.size 2 A l.length (TC l) → ∀ b off, A = some ⟨b, off, none⟩ → w'.cell? ⟨b, off + a * 2, none⟩ = some (.int .i64 x.1) ∧ w'.cell? ⟨b, off + a * 2 + 1, none⟩ = some (.string (strOfNums x.2)) := by
          intro w' A h b off e
          obtain ⟨b', off', e', _, g1, g2⟩ := h.tk hxe
          rw [e] at e'
          injection e' with e'
          injection e' with e1 e2 e3
          subst e1 e2
          exact ⟨g1, g2⟩
        obtain ⟨b, off, rfl, hbB, -, -⟩ := hsh.tk hxe
        obtain ⟨g1, g2⟩ := hcell _ _ hsh b off rfl
        have hSl : (strOfNums x.2).size = x.2.length := strOf_size _
        have hget := fun (k : Nat) (hk : k < (strOfNums x.2).size) => str_get hB hk
        have hU : ∀ w, Calls Tryd.prog 14 #[.string (strOfNums x.2)] w fun e w' => e = .returned (.string (strOfNums x.2)) ∧ Below w.heap.size w w' := fun w => by
          have := upper_any (strOfNums x.2) (by omega) w
          rw [nums_str _ hB, hup] at this
          exact this
        have h44 : x = (4, [44]) → strOfNums x.2 = ⟨#[44]⟩ := by rintro rfl; decide +kernel
        have h35 : x = (5, [35]) → strOfNums x.2 = ⟨#[35]⟩ := by rintro rfl; decide +kernel
        obtain ⟨κ, t⟩ := x
        simp only at hne hk15 hround hend hcs g1 g2 hSl hget hU h44 h35 hL hcell
        have hpos : 0 < t.length := List.length_pos_iff.2 hne
        generalize hSS : strOfNums t = S at *
        have tS0 : S.toList.isEmpty = false := by
          refine Go.Proofs.YtkdgomalhngagaaDoor.str_ne2 fun e => ?_
          have : S.size = 0 := by rw [e]; rfl
          omega
        have tS1 : (S.toList == S.toList) = true := by simp
        have Hround := Lib.hid hround
        have Hend := Lib.hid hend
        have Hcs := Lib.hid hcs
        have Hget := Lib.hid hget
        have Hsl := Lib.hid hSl
        have H44 := Lib.hid h44
        have H35 := Lib.hid h35
        have q3 : (0 : Int) < (S.size : Int) := by omega
        have q4 : S.size ≤ 200 := by omega
        clear hround hend hcs hget hne hup hI hB hL hSl h44 h35 hxe hxm hSS
        go_wp2_with fail
        refine (hU _).mono ?_
        rintro e w4 ⟨rfl, hb4⟩
        have hbel4 := bel_call hbel hb4
        have hsh4 := hsh.call hb4 (by omega)
        have hz4 : w3.heap.size ≤ w4.heap.size := Nat.le_trans hz hb4.size
        obtain ⟨g3, g4⟩ := hcell _ _ hsh4 b off rfl
        clear hcell hU g1 g2
        go_upto_block 2 with fail
        go_cut [8, 9] (fun d o wx => ∃ o' : Bool, d = .int .i64 (Tok.cnt t) ∧ o = .bool o' ∧ Hid (o' = true → 4 ≤ κ) ∧ ∃ m, wx = w4.drewN m)
        case first =>
          go_wp2_with fail
          go_loopw [10, 8, 9] (fun i d o wx => ∃ (k : Nat) (o' : Bool), k ≤ S.size ∧ i = .int .i64 k ∧ d = .int .i64 (Tok.cnt (t.take k)) ∧ o = .bool o' ∧ Hid (o' = true → 4 ≤ κ ∧ 0 < k) ∧ ∃ m, wx = w4.drewN m) (fun i _ _ _ => S.size - (RowKit.intOf i).toNat)
          case atStart => exact ⟨0, false, by omega, rfl, rfl, rfl, Lib.hid (by simp), 0, rfl⟩
          case round =>
            obtain ⟨k, o', hk, rfl, rfl, rfl, Ho, m, hm⟩ := hrel
            by_cases hkl : k < S.size
            · have q5 : (k : Int) < (S.size : Int) := by omega
              have hkt : k < t.length := by rw [← Hsl.out]; exact hkl
              have hr := Hround.out k hkt
              have hc := Hget.out k hkl
              have hcn := Hcs.out k hkt
              have hls := Hsl.out
              have ho := Ho.out
              have hcnt0 : Tok.cnt (t.take k) ≤ 200 := by
                have h1 : (t.take k).countP (fun c => decide (Tok.isD c)) ≤ (t.take k).length := List.countP_le_length
                unfold Tok.cnt
                rw [List.length_take] at h1
                omega
              obtain ⟨ch, hch⟩ : ∃ ch, t.getD k 0 = ch := ⟨_, rfl⟩
              rw [hch] at hc hr hcn
              obtain ⟨n1, hn1⟩ : ∃ n1, Tok.cnt (t.take (k + 1)) = n1 := ⟨_, rfl⟩
              obtain ⟨n0, hn0⟩ : ∃ n0, Tok.cnt (t.take k) = n0 := ⟨_, rfl⟩
              rw [hn1, hn0] at hcn
              rw [hn0] at hcnt0 ⊢
              have Hm := Lib.hid hm
              have Hn1 := Lib.hid hn1
              obtain rfl : o' = false := by
                cases o'
                · rfl
                · obtain ⟨p1, p2⟩ := ho rfl
                  rcases hr with g | g | g | g <;> omega
              rcases hr with ⟨r0, r1, r2⟩ | ⟨r0, r1, r2⟩ | ⟨r0, r1, r2, r3, r4, r5⟩ | ⟨r0, r1, r2, r3, r4⟩
              · have hd : Tok.isD ch := ⟨r1, r2⟩
                rw [if_pos hd] at hcn
                subst hcn
                have t1 : decide (ch ≥ 48) = true := decide_eq_true r1
                have t2 : decide (ch ≤ 57) = true := decide_eq_true r2
                have e9 : (ch == 9) = false := by simp; omega
                have e32 : (ch == 32) = false := by simp; omega
                clear hm hn1 hls ho
                go_wp2_with fail
                go_roundw
                case rel =>
                  refine ⟨k + 1, false, by omega, by go_num, ?_, rfl, Lib.hid (by simp), by first | exact ⟨_, Hm.out⟩ | exact ⟨_, by rw [Hm.out]; first | exact dr1 _ _ _ | exact dr2 _ _⟩⟩
                  rw [Hn1.out]
                  first | done | rfl | go_num
                case measure => simp [RowKit.intOf]; omega
              · have hd : ¬ Tok.isD ch := fun g => by unfold Tok.isD at g; omega
                rw [if_neg hd, Nat.add_zero] at hcn
                subst hcn
                have t1 : decide (ch ≥ 48) = true := decide_eq_true (by omega)
                have t2 : decide (ch ≤ 57) = false := decide_eq_false (by omega)
                have t3 : decide (ch ≥ 65) = true := decide_eq_true r1
                have t4 : decide (ch ≤ 90) = true := decide_eq_true r2
                have e9 : (ch == 9) = false := by simp; omega
                have e32 : (ch == 32) = false := by simp; omega
                clear hm hn1 hls ho
                go_wp2_with fail
                go_roundw
                case rel =>
                  refine ⟨k + 1, false, by omega, by go_num, ?_, rfl, Lib.hid (by simp), by first | exact ⟨_, Hm.out⟩ | exact ⟨_, by rw [Hm.out]; first | exact dr1 _ _ _ | exact dr2 _ _⟩⟩
                  rw [Hn1.out]
                  first | done | rfl | go_num
                case measure => simp [RowKit.intOf]; omega
              · have hd : ¬ Tok.isD ch := fun g => by unfold Tok.isD at g; omega
                rw [if_neg hd, Nat.add_zero] at hcn
                subst hcn
                have t1 : decide (ch ≥ 48) = false := decide_eq_false (by omega)
                have t3 : decide (ch ≥ 65) = false := decide_eq_false (by omega)
                have k1 : ((k : Int) == 0) = false := by simp; omega
                have k2 : ((k : Int) == (S.size : Int) - 1) = false := by simp; omega
                have e9 : (ch == 9) = false := by simp; omega
                have e32 : (ch == 32) = false := by simp; omega
                clear hm hn1 hls ho
                go_wp2_with fail
                go_roundw
                case rel =>
                  refine ⟨k + 1, false, by omega, by go_num, ?_, rfl, Lib.hid (by simp), by first | exact ⟨_, Hm.out⟩ | exact ⟨_, by rw [Hm.out]; first | exact dr1 _ _ _ | exact dr2 _ _⟩⟩
                  rw [Hn1.out]
                  first | done | rfl | go_num
                case measure => simp [RowKit.intOf]; omega
              · subst r4
                have hd : ¬ Tok.isD ch := fun g => by unfold Tok.isD at g; omega
                rw [if_neg hd, Nat.add_zero] at hcn
                subst hcn
                have t1 : decide (ch ≥ 48) = false := decide_eq_false (by omega)
                have t3 : decide (ch ≥ 65) = false := decide_eq_false (by omega)
                have e9 : (ch == 9) = false := by simp; omega
                have e32 : (ch == 32) = false := by simp; omega
                clear hm hn1 hls ho
                go_wp2_with fail
                go_roundw
                case rel =>
                  refine ⟨1, true, by omega, by go_num, ?_, rfl, Lib.hid (by intro _; omega), by first | exact ⟨_, Hm.out⟩ | exact ⟨_, by rw [Hm.out]; first | exact dr1 _ _ _ | exact dr2 _ _⟩⟩
                  rw [show 1 = 0 + 1 from rfl, Hn1.out]
                  first | done | rfl | go_num
                case measure => simp [RowKit.intOf]; omega
            · obtain rfl : k = S.size := by omega
              have q5 : ¬ ((S.size : Int) < (S.size : Int)) := by omega
              have Hm := Lib.hid hm
              clear hm
              go_wp2_with fail
              go_meet
              exact ⟨o', by rw [List.take_of_length_le (by rw [Hsl.out]; omega)], rfl, Lib.hid fun g => (Ho.out g).1, m, Hm.out⟩
        case rest =>
          obtain ⟨o', rfl, rfl, Ho, m, hm⟩ := hcut
          have g5 : wc.cell? ⟨b, off + a * 2, none⟩ = some (.int .i64 κ) := by subst hm; exact g3
          have hsh5 : Shows wc w2.heap.size 2 (some ⟨b, off, none⟩) l.length (TC l) := by subst hm; exact hsh4.drewN m
          have bel5 : Below w.heap.size w wc := by subst hm; exact bel_drewN hbel4 m
          have hz5 : w3.heap.size ≤ wc.heap.size := by subst hm; exact hz4
          have hlS := Hsl.out
          have q5 : 0 < S.size := by omega
          have hc0 := Hget.out 0 q5
          have hee := Hend.out
          have hx4 := H44.out
          have hx5 := H35.out
          clear hm hsh4 hz4 g3 g4 hsh hz hbel4 hbel hb4
          obtain ⟨h0, hh0⟩ : ∃ h0, t.getD 0 0 = h0 := ⟨_, rfl⟩
          rw [hh0] at hc0 hee
          rcases hee with ⟨rfl, r1, r2⟩ | ⟨rfl, r1, r2⟩ | ⟨rfl, r1, r2⟩ | hp | hp
          · obtain rfl : o' = false := by
              cases o'
              · rfl
              · exact absurd (Ho.out rfl) (by omega)
            have t1 : decide (h0 ≥ 65) = true := decide_eq_true r1
            have t2 : decide (h0 ≤ 90) = true := decide_eq_true r2
            clear hx4 hx5 hlS hh0
            go_wp2_with fail
            go_roundw
            case rel => exact ⟨a + 1, by omega, by go_num, hz5, hsh5, bel5⟩
            case measure => simp [RowKit.intOf]; omega
          · obtain rfl : o' = false := by
              cases o'
              · rfl
              · exact absurd (Ho.out rfl) (by omega)
            have t1 : decide (h0 ≥ 65) = false := decide_eq_false (by omega)
            have e0 : Tok.cnt t = S.size := by omega
            rw [e0]
            have t3 : ((S.size : Int) != (S.size : Int)) = false := by simp
            clear hx4 hx5 hlS hh0 e0 r2
            go_wp2_with fail
            go_roundw
            case rel => exact ⟨a + 1, by omega, by go_num, hz5, hsh5, bel5⟩
            case measure => simp [RowKit.intOf]; omega
          · obtain rfl : o' = false := by
              cases o'
              · rfl
              · exact absurd (Ho.out rfl) (by omega)
            have t1 : decide (h0 ≥ 65) = false := decide_eq_false (by omega)
            obtain ⟨cn, hcn⟩ : ∃ cn, Tok.cnt t = cn := ⟨_, rfl⟩
            rw [hcn] at r2 ⊢
            have t3 : ((cn : Int) == (S.size : Int)) = false := by simp; omega
            clear hx4 hx5 hlS hh0 hcn r2
            go_wp2_with fail
            go_roundw
            case rel => exact ⟨a + 1, by omega, by go_num, hz5, hsh5, bel5⟩
            case measure => simp [RowKit.intOf]; omega
          · have hS := hx4 hp
            obtain ⟨rfl, rfl⟩ := Prod.mk.inj hp
            have tS : (S.toList == [44]) = true := by rw [hS]; decide +kernel
            have t1 : decide (h0 ≥ 65) = false := decide_eq_false (by rw [← hh0]; decide)
            clear hx4 hx5 hlS hh0 hS hp
            go_wp2_with fail
            go_roundw
            case rel => exact ⟨a + 1, by omega, by go_num, hz5, hsh5, bel5⟩
            case measure => simp [RowKit.intOf]; omega
          · have hS := hx5 hp
            obtain ⟨rfl, rfl⟩ := Prod.mk.inj hp
            have tS : (S.toList == [35]) = true := by rw [hS]; decide +kernel
            have t1 : decide (h0 ≥ 65) = false := decide_eq_false (by rw [← hh0]; decide)
            clear hx4 hx5 hlS hh0 hS hp
            go_wp2_with fail
            go_roundw
            case rel => exact ⟨a + 1, by omega, by go_num, hz5, hsh5, bel5⟩
            case measure => simp [RowKit.intOf]; omega
      · have q1 : ¬ (a : Int) < (l.length : Int) := by omega
        go_wp2_with fail
        go_ret
        exact ⟨rfl, hbel⟩
end Go.Proofs.YtkdgomalhngagaaDoor
