/- The walk of the statement 'TokenLoose'. -/
import Derived.Test.YtkdgomalhngagaaDoorTkKindsWalk
import Derived.Test.YtkdgomalhngagaaDoorTokLoose
namespace Go.Proofs.YtkdgomalhngagaaDoor
open Go.RowKit

theorem u8_one (a : List Int) (v : Int) : U8 a ++ [.int .u8 v] = U8 (a ++ [v]) := by simp [U8]
theorem xor_all : ∀ k : Fin 123, Tok.isL ((k.val : Nat) : Int) → Tok.up (bits BinOp.xor IntKind.u8 ((k.val : Nat) : Int) 32) = Tok.up ((k.val : Nat) : Int) ∧ 0 ≤ bits BinOp.xor IntKind.u8 ((k.val : Nat) : Int) 32 ∧ bits BinOp.xor IntKind.u8 ((k.val : Nat) : Int) 32 ≤ 255 ∧ bits BinOp.xor IntKind.u8 ((k.val : Nat) : Int) 32 ≠ 32 := by decide +kernel
theorem xor_L {c : Int} (h : Tok.isL c) : Tok.up (bits BinOp.xor IntKind.u8 c 32) = Tok.up c ∧ 0 ≤ bits BinOp.xor IntKind.u8 c 32 ∧ bits BinOp.xor IntKind.u8 c 32 ≤ 255 ∧ bits BinOp.xor IntKind.u8 c 32 ≠ 32 := by
  have h' := h
  unfold Tok.isL at h'
  obtain ⟨k, rfl⟩ : ∃ k : Nat, c = k := ⟨c.toNat, by omega⟩
  exact xor_all ⟨k, by omega⟩ h
def flip (n : Nat) (bs : List Bool) (a : Nat) (c : Int) : Bool := decide (a < n ∧ bs.getD a false = true ∧ Tok.isL c)
set_option maxRecDepth 100000 in
set_option maxHeartbeats 4000000 in
theorem tloose_walk (s : ByteArray) (A : Option Addr) (n c : Nat) (bs : List Bool) (w : World) (hs : s.size ≤ maxLen) (hA : Shows w w.heap.size 1 A n (bs.map Value.bool)) (hnc : n ≤ c) (hcm : c ≤ maxLen) :
    Calls Tryd.prog 7 #[.string s, .slice A n c] w fun e w' => e = .returned (.bool true) ∧ Below w.heap.size w w' := by
  unfold maxLen at hs hcm
  by_cases h90 : 90 < s.size
  · go_enter Tryd.func7, Tryd.ntmps7
    go_wp2_with fail
    refine (tok_awake _).mono ?_
    rintro e w1 ⟨rfl, hb1⟩
    go_wp2_with fail
    go_ret
    exact ⟨rfl, hb1⟩
  · obtain ⟨i0, hi0, hz0, hz1, hz2⟩ := info_parts infoU8
    have hbl : bs.length = n := by have := hA.len; simpa using this
    have Hsl := Lib.hid (nums_len s)
    have Hbl := Lib.hid hbl
    clear hbl
    go_enter Tryd.func7, Tryd.ntmps7
    go_wp2_with fail
    refine (tok_awake _).mono ?_
    rintro e w1 ⟨rfl, hb1⟩
    go_upto_block 0 with fail
    go_cut [6] (fun o wx => ∃ (acc : List Int) (A' : Option Addr) (c' : Nat), o = .slice A' acc.length c' ∧ wx.ownsRow w1.heap.size 5 1 (.slice A' acc.length c') acc.length (U8 acc) ∧ Hid (acc.map Tok.up = (Tok.ins (nums s)).map Tok.up) ∧ Hid (∀ x ∈ acc, 0 ≤ x ∧ x ≤ 255) ∧ acc.length ≤ 180 ∧ Below w.heap.size w wx)
    case first =>
      go_wp2_with fail
      go_loopw [7, 6] (fun i o wr => ∃ (a : Nat) (acc : List Int) (A' : Option Addr) (c' : Nat), a ≤ s.size ∧ i = .int .i64 a ∧ o = .slice A' acc.length c' ∧ wr.ownsRow w1.heap.size 5 1 (.slice A' acc.length c') acc.length (U8 acc) ∧ Hid (acc.map Tok.up = (Tok.ins ((nums s).take a)).map Tok.up) ∧ Hid (∀ x ∈ acc, 0 ≤ x ∧ x ≤ 255) ∧ acc.length ≤ 2 * a ∧ Below w1.heap.size w1 wr) (fun i _ _ => s.size - (RowKit.intOf i).toNat)
      case atStart => exact ⟨0, [], none, 0, by omega, rfl, rfl, World.ownsRow_nil _ _ _ _, Lib.hid rfl, Lib.hid (by simp), by simp, Below.refl _ _⟩
      case round =>
        obtain ⟨a, acc, A', c', ha, rfl, rfl, hown, Hacc, Hby, hal, hbel⟩ := hrel
        by_cases hlt : a < s.size
        · have q1 : (a : Int) < (s.size : Int) := by omega
          have hbz := hbel.size
          have hg := (cAt_get s a hlt).symm
          have hcb := cAt_byte s a
          have hga : (nums s).getD a 0 = cAt s a := rfl
          have hst := fun v => @Tok.loose_step acc (nums s) a (by rw [Hsl.out]; exact hlt) v Hacc.out
          have hbk := @Tok.loose_blank acc (nums s) a (by rw [Hsl.out]; exact hlt) Hacc.out
          rw [hga] at hst hbk
          generalize cAt s a = ch at *
          have Hst := Lib.hid hst
          have Hbk := Lib.hid hbk
          have hAr := hA.below (hb1.trans (hbel.mono hb1.size))
          have hbool : a < n → ∃ b off, A = some ⟨b, off, none⟩ ∧ wr.cell? ⟨b, off + a, none⟩ = some (.bool (bs.getD a false)) := by
            intro g
            obtain ⟨b, off, e, _, hc⟩ := hAr.at_ (by omega)
            have := hc a (by rw [List.length_map, Hbl.out]; exact g)
            refine ⟨b, off, e, this.trans ?_⟩
            rw [List.getD_eq_getElem?_getD, List.getD_eq_getElem?_getD, List.getElem?_map, List.getElem?_eq_getElem (by rw [Hbl.out]; exact g)]; rfl
          clear hst hbk hga hAr
          go_upto_region 9 with (fail)
          go_cut [54] (fun b wx => b = .bool (flip n bs a ch) ∧ wr = wx)
          case first =>
            by_cases han : a < n
            · have q2 : (a : Int) < (n : Int) := by omega
              obtain ⟨b, off, rfl, g⟩ := hbool han
              cases hbv : bs.getD a false with
              | false =>
                have hfl : flip n bs a ch = false := by unfold flip; rw [hbv]; simp
                rw [hbv] at g
                go_wp2_with fail
                go_meet
                exact ⟨by rw [hfl], rfl⟩
              | true =>
                rw [hbv] at g
                by_cases h1 : 97 ≤ ch
                · have t1 : decide (ch ≥ 97) = true := decide_eq_true h1
                  by_cases h2 : ch ≤ 122
                  · have t2 : decide (ch ≤ 122) = true := decide_eq_true h2
                    have hfl : flip n bs a ch = true := by unfold flip; exact decide_eq_true ⟨han, hbv, .inr ⟨h1, h2⟩⟩
                    go_wp2_with fail
                    go_meet
                    exact ⟨by rw [hfl], rfl⟩
                  · have t2 : decide (ch ≤ 122) = false := decide_eq_false h2
                    have t3 : decide (ch ≥ 65) = true := decide_eq_true (by omega)
                    have t4 : decide (ch ≤ 90) = false := decide_eq_false (by omega)
                    have hfl : flip n bs a ch = false := by unfold flip; exact decide_eq_false (fun g => by have := g.2.2; unfold Tok.isL at this; omega)
                    go_wp2_with fail
                    go_meet
                    exact ⟨by rw [hfl], rfl⟩
                · have t1 : decide (ch ≥ 97) = false := decide_eq_false h1
                  by_cases h2 : 65 ≤ ch
                  · have t3 : decide (ch ≥ 65) = true := decide_eq_true h2
                    by_cases h3 : ch ≤ 90
                    · have t4 : decide (ch ≤ 90) = true := decide_eq_true h3
                      have hfl : flip n bs a ch = true := by unfold flip; exact decide_eq_true ⟨han, hbv, .inl ⟨h2, h3⟩⟩
                      go_wp2_with fail
                      go_meet
                      exact ⟨by rw [hfl], rfl⟩
                    · have t4 : decide (ch ≤ 90) = false := decide_eq_false h3
                      have hfl : flip n bs a ch = false := by unfold flip; exact decide_eq_false (fun g => by have := g.2.2; unfold Tok.isL at this; omega)
                      go_wp2_with fail
                      go_meet
                      exact ⟨by rw [hfl], rfl⟩
                  · have t3 : decide (ch ≥ 65) = false := decide_eq_false h2
                    have hfl : flip n bs a ch = false := by unfold flip; exact decide_eq_false (fun g => by have := g.2.2; unfold Tok.isL at this; omega)
                    go_wp2_with fail
                    go_meet
                    exact ⟨by rw [hfl], rfl⟩
            · have q2 : ¬ (a : Int) < (n : Int) := by omega
              have hfl : flip n bs a ch = false := by unfold flip; exact decide_eq_false (fun g => han g.1)
              go_wp2_with fail
              go_meet
              exact ⟨by rw [hfl], rfl⟩
          case rest =>
            obtain ⟨rfl, rfl⟩ := hcut
            clear hbool hA
            cases hfl : flip n bs a ch with
            | false =>
              by_cases h32 : ch = 32
              · subst h32
                have hnew := Hbk.out rfl
                have Hnew := Lib.hid hnew
                clear hnew hfl
                go_upto_region 12 with (at_builtin; refine wpList_append_shows _ rfl _ _ 42 rfl w1.heap.size 5 i0 (.int .u8 0) 1 1 Tryd.underlying42 hi0 hz0 hz1 hz2 rfl (by decide) _ acc.length (U8 (acc)) rfl (by exact World.ownsRow.alloc hown _) _ (some ⟨wr.heap.size, 0, none⟩) 1 1 [.int .u8 (32)] rfl (by exact shows_at wr [.int .u8 (32)] 5 _ rfl) (one_is _ _) (by unfold maxLen; omega) (by omega) (by simp; omega) ?_; intro A2 c2 w2 hown2 hg2)
                rw [u8_one] at hown2
                have hbel2 : Below w1.heap.size w1 w2 := bel_grown (bel_alloc hbel _) hg2 (fun g hg => (hown.lt g hg).1)
                have hbz2 := hbel2.size
                go_wp2_with (at_builtin; refine wpList_append_shows _ rfl _ _ 42 rfl w1.heap.size 5 i0 (.int .u8 0) 1 1 Tryd.underlying42 hi0 hz0 hz1 hz2 rfl (by decide) _ (acc.length + 1) (U8 (acc ++ [32])) rfl (by exact World.ownsRow.alloc hown2 _) _ (some ⟨w2.heap.size, 0, none⟩) 1 1 [.int .u8 (9)] rfl (by exact shows_at w2 [.int .u8 (9)] 5 _ rfl) (one_is _ _) (by unfold maxLen; omega) (by omega) (by simp; omega) ?_; intro A3 c3 w3 hown3 hg3)
                go_roundw
                case rel =>
                  rw [u8_one] at hown3
                  exact ⟨a + 1, acc ++ [32] ++ [9], A3, c3, by omega, by go_num, by simp, by simpa using hown3, Hnew, Lib.hid (fun x hx => by
                    rcases List.mem_append.1 hx with g | g
                    · rcases List.mem_append.1 g with g | g
                      · exact Hby.out x g
                      · simp at g; omega
                    · simp at g; omega), by simp; omega, bel_grown (bel_alloc hbel2 _) hg3 (fun g hg => (hown2.lt g hg).1)⟩
                case measure => simp [RowKit.intOf]; omega
              · have t32 : (ch == 32) = false := by simpa using h32
                have hnew := Hst.out ch rfl h32
                have Hnew := Lib.hid hnew
                clear hnew hfl
                go_wp2_with (at_builtin; refine wpList_append_shows _ rfl _ _ 42 rfl w1.heap.size 5 i0 (.int .u8 0) 1 1 Tryd.underlying42 hi0 hz0 hz1 hz2 rfl (by decide) _ acc.length (U8 (acc)) rfl (by exact World.ownsRow.alloc hown _) _ (some ⟨wr.heap.size, 0, none⟩) 1 1 [.int .u8 (ch)] rfl (by exact shows_at wr [.int .u8 (ch)] 5 _ rfl) (one_is _ _) (by unfold maxLen; omega) (by omega) (by simp; omega) ?_; intro A2 c2 w2 hown2 hg2)
                go_roundw
                case rel =>
                  rw [u8_one] at hown2
                  exact ⟨a + 1, acc ++ [ch], A2, c2, by omega, by go_num, by simp, by simpa using hown2, Hnew, Lib.hid (fun x hx => by
                    rcases List.mem_append.1 hx with g | g
                    · exact Hby.out x g
                    · simp at g; omega), by simp; omega, bel_grown (bel_alloc hbel _) hg2 (fun g hg => (hown.lt g hg).1)⟩
                case measure => simp [RowKit.intOf]; omega
            | true =>
              have hL : Tok.isL ch := (of_decide_eq_true hfl).2.2
              clear hfl
              go_upto_region 11 with (fail)
              obtain ⟨x1, x2, x3, x4⟩ := xor_L hL
              generalize bits BinOp.xor IntKind.u8 ch 32 = v at *
              have hch : ch ≠ 32 := by rintro rfl; exact absurd hL (by decide)
              have t32 : (v == 32) = false := by simpa using x4
              have hnew := Hst.out v x1 hch
              have Hnew := Lib.hid hnew
              clear hnew hL x1 x4 hch
              go_wp2_with (at_builtin; refine wpList_append_shows _ rfl _ _ 42 rfl w1.heap.size 5 i0 (.int .u8 0) 1 1 Tryd.underlying42 hi0 hz0 hz1 hz2 rfl (by decide) _ (acc.length) (U8 (acc)) rfl (by exact World.ownsRow.alloc hown _) _ (some ⟨wr.heap.size, 0, none⟩) 1 1 [.int .u8 (v)] rfl (by exact shows_at wr [.int .u8 (v)] 5 _ rfl) (one_is _ _) (by unfold maxLen; omega) (by omega) (by simp; omega) ?_; intro A2 c2 w2 hown2 hg2)
              go_roundw
              case rel =>
                rw [u8_one] at hown2
                exact ⟨a + 1, acc ++ [v], A2, c2, by omega, by go_num, by simp, by simpa using hown2, Hnew, Lib.hid (fun x hx => by
                  rcases List.mem_append.1 hx with g | g
                  · exact Hby.out x g
                  · simp at g; omega), by simp; omega, bel_grown (bel_alloc hbel _) hg2 (fun g hg => (hown.lt g hg).1)⟩
              case measure => simp [RowKit.intOf]; omega
        · obtain rfl : a = s.size := by omega
          have q1 : ¬ (s.size : Int) < (s.size : Int) := by omega
          go_wp2_with fail
          go_meet
          exact ⟨acc, A', c', rfl, hown, Lib.hid (by rw [Hacc.out, List.take_of_length_le (by rw [Hsl.out]; omega)]), Hby, by omega, bel_call hb1 hbel⟩
    case rest =>
      obtain ⟨acc, A', c', rfl, hown, Hacc, Hby, hal, hbel⟩ := hcut
      have hx := fun w => tokens_any s (by omega) w
      have hy := fun w => tokens_any (strOfNums acc) (by rw [strOf_size]; omega) w
      have hu := fun w => upper_any s (by omega) w
      have hlu : (strOfNums ((nums s).map Tok.up)).size = s.size := by rw [strOf_size, List.length_map, Hsl.out]
      have hz := fun w => tokens_any (strOfNums ((nums s).map Tok.up) ++ ⟨#[46, 32]⟩) (by rw [ByteArray.size_append, hlu]; show s.size + 2 ≤ _; omega) w
      have hn : nums (strOfNums ((nums s).map Tok.up) ++ ⟨#[46, 32]⟩) = (nums s).map Tok.up ++ [46, 32] := by
        rw [nums_app, nums_str _ (fun x hx => by
          obtain ⟨y, hy, rfl⟩ := List.mem_map.1 hx
          have := nums_byte s y hy
          unfold Tok.up; split <;> omega)]
        congr 1
      rw [hn] at hz
      rw [nums_str acc Hby.out] at hy
      obtain ⟨l1, l2⟩ := Tok.loose_same (m := acc) (l := nums s) (by omega) (by rw [Hsl.out]; omega) Hacc.out
      obtain ⟨m1, m2⟩ := Tok.point_same (l := nums s) (by rw [Hsl.out]; omega)
      have hlx := Tok.tokF_len (nums s)
      obtain ⟨⟨y, e2, p2⟩, hr2⟩ : ∃ r, Tok.tokF acc = r := ⟨_, rfl⟩
      obtain ⟨⟨z, e3, p3⟩, hr3⟩ : ∃ r, Tok.tokF ((nums s).map Tok.up ++ [46, 32]) = r := ⟨_, rfl⟩
      obtain ⟨⟨x, e1, p1⟩, hr1⟩ : ∃ r, Tok.tokF (nums s) = r := ⟨_, rfl⟩
      rw [hr1] at hx l1 l2 m1 m2 hlx
      rw [hr2] at hy l1 l2
      rw [hr3] at hz m1 m2
      simp only at l1 l2 m1 m2 hlx
      subst l1 l2 m1 m2
      obtain ⟨U, hU⟩ : ∃ U, strOfNums ((nums s).map Tok.up) = U := ⟨_, rfl⟩
      rw [hU] at hu hz hlu
      have hlU : U.size + 2 ≤ 92 := by omega
      have k0 := Shows.of_own hown
      obtain ⟨SA, hSA⟩ : ∃ SA, strOfNums acc = SA := ⟨_, rfl⟩
      rw [hSA] at hy
      have Hsa := Lib.hid hSA
      clear hr1 hr2 hr3 hU hn hlu hSA hA hown
      go_wp2_with fail
      refine (hx _).mono ?_
      rintro e w2 ⟨A2, c2, rfl, hown2, hb2⟩
      have k2 := Shows.of_own hown2
      have f2 := Block.new w2 25 [.int .i64 e3, .int .i64 p1]
      have bel2 := bel_alloc (bel_call hbel hb2) (.cells #[.int .i64 e3, .int .i64 p1] 25)
      have hcv := conv_shows c' ((k0.call hb2 (Nat.le_refl _)).alloc hb2.size (.cells #[.int .i64 e3, .int .i64 p1] 25))
      rw [Hsa.out] at hcv
      have k2 := k2.alloc (Nat.le_refl _) (.cells #[.int .i64 e3, .int .i64 p1] 25)
      clear k0
      go_wp2_with fail
      refine (hy _).mono ?_
      rintro e w3 ⟨A3, c3, rfl, hown3, hb3⟩
      have j3 := (Shows.of_own hown3).alloc (Nat.le_refl _) (.cells #[.int .i64 e3, .int .i64 p2] 25)
      have z3 : w2.heap.size < w3.heap.size := by have := hb3.size; simp at this; omega
      have k3 := (k2.call hb3 (by simp)).alloc (by omega) (.cells #[.int .i64 e3, .int .i64 p2] 25)
      have f3 := (f2.call hb3).alloc (.cells #[.int .i64 e3, .int .i64 p2] 25)
      have h3 := Block.new w3 25 [.int .i64 e3, .int .i64 p2]
      have bel3 := bel_alloc (bel_call bel2 hb3) (.cells #[.int .i64 e3, .int .i64 p2] 25)
      clear hown2 hown3 hcv k2 f2
      go_wp2_with fail
      refine (hu _).mono ?_
      rintro e w4 ⟨rfl, hb4⟩
      have z4 : w3.heap.size < w4.heap.size := by have := hb4.size; simp at this; omega
      have j4 := j3.call hb4 (by simp)
      have k4 := k3.call hb4 (by simp; omega)
      have f4 := f3.call hb4
      have h4 := h3.call hb4
      have bel4 := bel_call bel3 hb4
      clear j3 k3 f3 h3
      go_wp2_with fail
      refine (hz _).mono ?_
      rintro e w5 ⟨A5, c5, rfl, hown5, hb5⟩
      have z5 := hb5.size
      have i5 := (Shows.of_own hown5).alloc (Nat.le_refl _) (.cells #[.int .i64 e3, .int .i64 p3] 25)
      have j5 := (j4.call hb5 (by omega)).alloc (by omega) (.cells #[.int .i64 e3, .int .i64 p3] 25)
      have k5 := (k4.call hb5 (by omega)).alloc (by omega) (.cells #[.int .i64 e3, .int .i64 p3] 25)
      have f5 := (f4.call hb5).alloc (.cells #[.int .i64 e3, .int .i64 p3] 25)
      have h5 := (h4.call hb5).alloc (.cells #[.int .i64 e3, .int .i64 p3] 25)
      have g5 := Block.new w5 25 [.int .i64 e3, .int .i64 p3]
      have bel5 := bel_alloc (bel_call bel4 hb5) (.cells #[.int .i64 e3, .int .i64 p3] 25)
      have d1 : (w5.alloc (.cells #[.int .i64 e3, .int .i64 p3] 25)).cell? ⟨w2.heap.size, 0, none⟩ = some (.int .i64 e3) := f5.cell 0
      have d2 : (w5.alloc (.cells #[.int .i64 e3, .int .i64 p3] 25)).cell? ⟨w3.heap.size, 0, none⟩ = some (.int .i64 e3) := h5.cell 0
      have d3 : (w5.alloc (.cells #[.int .i64 e3, .int .i64 p3] 25)).cell? ⟨w5.heap.size, 0, none⟩ = some (.int .i64 e3) := g5.cell 0
      clear hown5 j4 k4 f4 h4 f5 h5 g5 hx hy hz hu
      have tE : (e3 == e3) = true := by simp
      by_cases he : e3 = 0
      · subst he
        go_wp2_with fail
        refine (same_true (c := c2) (c' := c3) k5 j5 (by omega)).mono ?_
        rintro e w6 ⟨rfl, m6, rfl⟩
        go_wp2_with fail
        refine (same_true (c := c2) (c' := c5) (k5.drewN m6) (i5.drewN m6) (by omega)).mono ?_
        rintro e w7 ⟨rfl, m7, rfl⟩
        go_wp2_with fail
        go_ret
        exact ⟨rfl, bel_drewN bel5 (m6 + m7)⟩
      · have t0 : (e3 != 0) = true := by simpa using he
        go_wp2_with fail
        go_ret
        exact ⟨rfl, bel5⟩
end Go.Proofs.YtkdgomalhngagaaDoor
