/- The walk of the statement 'MatrixLater'. -/
import Derived.Test.YtiomkbpniplfhaaMatRefSort
import Derived.Test.YtiomkbpniplfhaaMatLaterPlain
namespace Go.Proofs.Ytiomkbpniplfhaa
open Go.RowKit

/-- Two appends, the second onto what the first gave; the one appended stands in a block of its own, made ahead or between. -/
theorem two_app {W w0 : World} {B k cT g0 gx : Nat} {A1 : Option Addr} {xs : List S6} {x : S6} (hB : B = W.heap.size)
    (hb0 : Below B W w0) (h0 : w0.ownsRow B 28 6 (.slice (some ⟨g0, 0, none⟩) 0 0) 0 (RC [])) (hT : Shows W B 6 A1 k (RC xs)) (hx : Block w0 gx 28 (RC [x])) (hne : gx ≠ g0) (hk : k ≤ 1000) :
    ∃ Aa ca wa Ab cb wb,
      (Builtin.append_ #[22, 22] 22 #[.slice (some ⟨g0, 0, none⟩) 0 0, .slice A1 k cT]).run Try.prog w0 = .ok (.slice Aa k ca) wa ∧
      (Builtin.append_ #[22, 22] 22 #[.slice Aa k ca, .slice (some ⟨gx, 0, none⟩) 1 1]).run Try.prog wa = .ok (.slice Ab (k + 1) cb) wb ∧
      wb.ownsRow B 28 6 (.slice Ab (k + 1) cb) (k + 1) (RC (xs ++ [x])) ∧ Below B W wb := by
  subst hB
  obtain ⟨Aa, ca, wa, hra, hoa, hga⟩ := append_ex (c2 := cT) h0 (hT.below hb0) (by omega) hb0.size
  rw [Nat.zero_add] at hra hoa
  have hba := bel_grown hb0 hga (fun g hg => (h0.lt g hg).1)
  have hxa : Block wa gx 28 (RC [x]) := (hga.block gx hx.lt (fun e => by injection e with e; exact hne e)).trans hx
  obtain ⟨Ab, cb, wb, hrb, hob, hgb⟩ := append_ex (c2 := 1) hoa (Block.shows hxa (size := 6) (n := 1) rfl) (by omega) hba.size
  have hbb := bel_grown hba hgb (fun g hg => (hoa.lt g hg).1)
  exact ⟨Aa, ca, wa, Ab, cb, wb, hra, hrb, by simpa using hob, hbb⟩
theorem two_app2 {W w0 : World} {B k cT g0 : Nat} {A1 : Option Addr} {xs : List S6} {x : S6} (hB : B = W.heap.size)
    (hb0 : Below B W w0) (h0 : w0.ownsRow B 28 6 (.slice (some ⟨g0, 0, none⟩) 0 0) 0 (RC [])) (hT : Shows W B 6 A1 k (RC xs)) (hk : k ≤ 1000) :
    ∃ Aa ca wa Ab cb wb,
      (Builtin.append_ #[22, 22] 22 #[.slice (some ⟨g0, 0, none⟩) 0 0, .slice A1 k cT]).run Try.prog w0 = .ok (.slice Aa k ca) wa ∧
      (Builtin.append_ #[22, 22] 22 #[.slice Aa k ca, .slice (some ⟨wa.heap.size, 0, none⟩) 1 1]).run Try.prog (wa.alloc (XO x)) = .ok (.slice Ab (k + 1) cb) wb ∧
      wb.ownsRow B 28 6 (.slice Ab (k + 1) cb) (k + 1) (RC (xs ++ [x])) ∧ Below B W wb ∧ Below B W wa := by
  subst hB
  obtain ⟨Aa, ca, wa, hra, hoa, hga⟩ := append_ex (c2 := cT) h0 (hT.below hb0) (by omega) hb0.size
  rw [Nat.zero_add] at hra hoa
  have hba := bel_grown hb0 hga (fun g hg => (h0.lt g hg).1)
  have hba2 := bel_alloc hba (XO x)
  obtain ⟨Ab, cb, wb, hrb, hob, hgb⟩ := append_ex (c2 := 1) (World.ownsRow.alloc hoa (XO x)) ((show Block (wa.alloc (XO x)) wa.heap.size 28 (RC [x]) from Block.new wa _ (RC [x])).shows (size := 6) (n := 1) rfl) (by omega) hba2.size
  have hbb := bel_grown hba2 hgb (fun g hg => (hoa.lt g hg).1)
  exact ⟨Aa, ca, wa, Ab, cb, wb, hra, hrb, by simpa using hob, hbb, hba⟩

set_option maxRecDepth 100000 in
set_option maxHeartbeats 16000000 in
theorem mlater_walk (A : Option Addr) (n c : Nat) (l : List S6) (x : S6) (_hx : x.In) (jj q d : Int) (w : World) (ha : Shows w w.heap.size 6 A n (RC l)) (_hf : Fit6 l) (_ : n ≤ c) (_ : c ≤ maxLen) (_ : -9223372036854775808 ≤ jj ∧ jj ≤ 9223372036854775807) (_ : -9223372036854775808 ≤ q ∧ q ≤ 9223372036854775807) (_ : -9223372036854775808 ≤ d ∧ d ≤ 9223372036854775807) :
    Calls Try.prog 8 #[.slice A n c, (.agg #[.int .i64 x.a, .int .i64 x.b, .int .i64 x.c, .int .i64 x.d, .int .i64 x.e, .int .i64 x.f]), .int .i64 jj, .int .i64 q, .int .i64 d] w fun e w' => e = .returned (.bool true) ∧ Below w.heap.size w w' := by
  have hB : w.heap.size ≤ w.heap.size := Nat.le_refl _
  have hl := ha.num6
  go_enter Try.func8, Try.ntmps8
  go_upto_region 1 with (fail)
  obtain ⟨W0, hW0⟩ : ∃ W0, w.alloc (.cells #[.int .i64 x.a, .int .i64 x.b, .int .i64 x.c, .int .i64 x.d, .int .i64 x.e, .int .i64 x.f] 28) = W0 := ⟨_, rfl⟩
  have bel0 : Below w.heap.size w W0 := hW0 ▸ bel_alloc (Below.refl _ w) (.cells #[.int .i64 x.a, .int .i64 x.b, .int .i64 x.c, .int .i64 x.d, .int .i64 x.e, .int .i64 x.f] 28)
  have kx0 : Block W0 w.heap.size 28 x.cs := hW0 ▸ Block.new w 28 x.cs
  rw [hW0]
  clear hW0
  go_wp2_with fail
  refine (awake_true _).mono ?_
  rintro e w1 ⟨rfl, hb1⟩
  have bel1 := bel_call bel0 hb1
  have kx1 := kx0.call hb1
  by_cases h60 : 60 < n
  · have h60z : (60 : Int) < (n : Int) := by omega
    clear hl
    go_wp2_with fail
    go_ret
    exact ⟨rfl, bel1⟩
  have h60z : ¬ (60 : Int) < (n : Int) := by omega
  have hmx : n ≤ maxLen := by unfold maxLen; omega
  have hc := check_any A n c l _ w1 (ha.call bel1 hB) bel1.size hmx
  have hokE := Mat.chk_ok l
  have h00 := @Mat.chk_00 l
  generalize Mat.chk l = EE at hc hokE h00
  go_wp2_with fail
  refine hc.mono ?_
  rintro e w2 ⟨rfl, hb2⟩
  have bel2 := bel_call bel1 hb2
  have kx2 := kx1.call hb2
  obtain ⟨p1, p2, p3, p4, p5, p6⟩ := Block.six kx2
  have hcx := check_any (some ⟨w2.heap.size, 0, none⟩) 1 1 [x] _ (w2.alloc (.cells #[.int .i64 x.a, .int .i64 x.b, .int .i64 x.c, .int .i64 x.d, .int .i64 x.e, .int .i64 x.f] 28)) ((show Block (w2.alloc (.cells #[.int .i64 x.a, .int .i64 x.b, .int .i64 x.c, .int .i64 x.d, .int .i64 x.e, .int .i64 x.f] 28)) w2.heap.size 28 (RC [x]) from Block.new w2 _ (RC [x])).shows (size := 6) (n := 1) rfl) (by simp) (by unfold maxLen; omega)
  have hokF := Mat.chk_ok [x]
  generalize Mat.chk [x] = FF at hcx hokF
  clear hc
  go_wp2_with fail
  refine hcx.mono ?_
  rintro e w3 ⟨rfl, hb3⟩
  have bel3 := bel_call (bel_alloc bel2 (.cells #[.int .i64 x.a, .int .i64 x.b, .int .i64 x.c, .int .i64 x.d, .int .i64 x.e, .int .i64 x.f] 28)) hb3
  have kx3 := (kx2.alloc (.cells #[.int .i64 x.a, .int .i64 x.b, .int .i64 x.c, .int .i64 x.d, .int .i64 x.e, .int .i64 x.f] 28)).call hb3
  clear hcx p1 p2 p3 p4 p5 p6
  obtain ⟨E1, E2⟩ := EE
  obtain ⟨F1, F2⟩ := FF
  simp only at hokE hokF h00 ⊢
  by_cases hE : E1 = 0
  · by_cases hF : F1 = 0
    · have hok := hokE.1 hE
      have hone : Mat.one x = 0 := (hokF.1 hF).2.1 x (by simp)
      have hl60 : l.length ≤ 60 := by omega
      have hL1 := Mat.later_ok hok hone hl60
      have hL2 : d < x.c ∨ jj ≠ x.a ∨ (q ≠ x.b ∧ x.b ≠ 0) → Mat.asF (Mat.srt (l ++ [x])) jj q d = Mat.asF l jj q d := fun h => Mat.later_same hok hone hl60 h
      have hL3 := Mat.later_hit hok hone hl60
      have hL4 : ¬ (d < x.c ∨ jj ≠ x.a ∨ (q ≠ x.b ∧ x.b ≠ 0)) → (Mat.hand (Mat.asF (Mat.srt (l ++ [x])) jj q d)).2 = true := fun h => Mat.later_is hok hone hl60 h
      have HL1 := Lib.hid hL1
      have HL2 := Lib.hid hL2
      have HL3 := Lib.hid hL3
      have HL4 := Lib.hid hL4
      have Hsrt := Lib.hid (show ∀ A' c' B w' (h : Shows w' B 6 A' (n + 1) (RC (l ++ [x]))) (h' : B ≤ w'.heap.size), Calls Try.prog 23 #[.slice A' (n + 1) c'] w' (Fresh 28 6 (Mat.srt (l ++ [x])).length (RC (Mat.srt (l ++ [x]))) w') from fun A' c' B w' h h' => msort_any A' (n + 1) c' (l ++ [x]) B w' h h' (by omega))
      subst hE
      subst hF
      clear hokE hokF h00 hok hone hl60 hL1 hL2 hL3 hL4
      obtain ⟨K, hK⟩ : ∃ K, (Mat.srt (l ++ [x])).length = K := ⟨_, rfl⟩
      have HK := Lib.hid hK
      have hK60 : K ≤ 500 := by rw [← hK]; exact HL1.out.1
      clear hK
      go_upto_region 8 with (fail)
      go_cut [16] (fun s16 wx => ∃ (A2 : Option Addr) (c2 : Nat), s16 = .slice A2 K c2 ∧ Aside (wx.ownsRow w3.heap.size 28 6 (.slice A2 K c2) K (RC (Mat.srt (l ++ [x])))) ∧ Below w3.heap.size w3 wx)
      case first =>
        have hT : Shows w3 w3.heap.size 6 A n (RC l) := (ha.call bel3 hB).up bel3.size
        have g5 := Block.six kx3
        have b1 : Below w3.heap.size w3 w3.drew := (Below.refl _ w3).drew
        have eX : (w3.drew.alloc (.cells #[.int .i64 x.a, .int .i64 x.b, .int .i64 x.c, .int .i64 x.d, .int .i64 x.e, .int .i64 x.f] 28)).heap.size = w3.heap.size + 1 := by simp
        have eE : (w3.drew.alloc (.cells #[] 28)).heap.size = w3.heap.size + 1 := by simp
        have oA : (w3.drew.alloc (.cells #[] 28)).ownsRow w3.heap.size 28 6 (.slice (some ⟨w3.heap.size, 0, none⟩) 0 0) 0 (RC []) := own_none w3.drew w3.heap.size (Nat.le_refl _)
        have oC := own_none (w3.drew.alloc (.cells #[.int .i64 x.a, .int .i64 x.b, .int .i64 x.c, .int .i64 x.d, .int .i64 x.e, .int .i64 x.f] 28)) w3.heap.size (by rw [eX]; omega)
        rw [eX] at oC
        have xB : Block ((w3.drew.alloc (.cells #[] 28)).alloc (.cells #[.int .i64 x.a, .int .i64 x.b, .int .i64 x.c, .int .i64 x.d, .int .i64 x.e, .int .i64 x.f] 28)) (w3.heap.size + 1) 28 (RC [x]) := by
          have := (show Block ((w3.drew.alloc (.cells #[] 28)).alloc (.cells #[.int .i64 x.a, .int .i64 x.b, .int .i64 x.c, .int .i64 x.d, .int .i64 x.e, .int .i64 x.f] 28)) (w3.drew.alloc (.cells #[] 28)).heap.size 28 (RC [x]) from Block.new (w3.drew.alloc (.cells #[] 28)) _ (RC [x]))
          rw [eE] at this; exact this
        have xC : Block ((w3.drew.alloc (.cells #[.int .i64 x.a, .int .i64 x.b, .int .i64 x.c, .int .i64 x.d, .int .i64 x.e, .int .i64 x.f] 28)).alloc (.cells #[] 28)) w3.heap.size 28 (RC [x]) := Block.alloc (show Block (w3.drew.alloc (.cells #[.int .i64 x.a, .int .i64 x.b, .int .i64 x.c, .int .i64 x.d, .int .i64 x.e, .int .i64 x.f] 28)) w3.heap.size 28 (RC [x]) from Block.new w3.drew _ (RC [x])) _
        obtain ⟨Aa, ca, wa, Ab, cb, wb, rA1, rA2, oAb, bAb, bAa⟩ := two_app2 (cT := c) (x := x) rfl (bel_alloc b1 _) oA hT (by omega)
        obtain ⟨Ba, da, va, Bb, db, vb, rB1, rB2, oBb, bBb⟩ := two_app (cT := c) (x := x) rfl (bel_alloc (bel_alloc b1 _) _) (World.ownsRow.alloc oA (XO x)) hT xB (by omega) (by omega)
        obtain ⟨Ca, ea, ua, Cb, eb, ub, rC1, rC2, oCb, bCb⟩ := two_app (cT := c) (x := x) rfl (bel_alloc (bel_alloc b1 _) _) oC hT xC (by omega) (by omega)
        have hsA : Calls Try.prog 23 #[.slice Ab (n + 1) cb] wb (fun e w' => ∃ A9 c9, e = .returned (.slice A9 K c9) ∧ w'.ownsRow wb.heap.size 28 6 (.slice A9 K c9) K (RC (Mat.srt (l ++ [x]))) ∧ Below wb.heap.size wb w') := by
          have := Hsrt.out Ab cb _ wb (Shows.of_own oAb) (Nat.le_refl _)
          rw [HK.out] at this
          exact this
        have hsB : Calls Try.prog 23 #[.slice Bb (n + 1) db] vb (fun e w' => ∃ A9 c9, e = .returned (.slice A9 K c9) ∧ w'.ownsRow vb.heap.size 28 6 (.slice A9 K c9) K (RC (Mat.srt (l ++ [x]))) ∧ Below vb.heap.size vb w') := by
          have := Hsrt.out Bb db _ vb (Shows.of_own oBb) (Nat.le_refl _)
          rw [HK.out] at this
          exact this
        have hsC : Calls Try.prog 23 #[.slice Cb (n + 1) eb] ub (fun e w' => ∃ A9 c9, e = .returned (.slice A9 K c9) ∧ w'.ownsRow ub.heap.size 28 6 (.slice A9 K c9) K (RC (Mat.srt (l ++ [x]))) ∧ Below ub.heap.size ub w') := by
          have := Hsrt.out Cb eb _ ub (Shows.of_own oCb) (Nat.le_refl _)
          rw [HK.out] at this
          exact this
        have HbA := Lib.hid bAb
        have HbB := Lib.hid bBb
        have HbC := Lib.hid bCb
        have k4 : Block w3.drew w.heap.size 28 x.cs := kx3
        have hlt : w.heap.size < w3.heap.size := kx3.lt
        obtain ⟨i1, i2, i3, i4, i5, i6⟩ := Block.six (k4.alloc (.cells #[] 28))
        obtain ⟨j1, j2, j3, j4, j5, j6⟩ := Block.six (kx3.below bAa hlt)
        obtain ⟨e1, e2, e3, e4, e5, e6⟩ := Block.six k4
        obtain ⟨g1, g2, g3, g4, g5, g6⟩ := g5
        clear oAb oBb oCb bAb bBb bCb bAa xB xC oA oC eX eE b1 hT
        go_region_law (first
          | (refine step_append_runI rfl _ _ 22 22 rfl _ _ (by simp [Act.eval]) (by simp [Act.eval]) rA1 ?_)
          | (refine step_append_runI rfl _ _ 22 22 rfl _ _ (by simp [Act.eval]) (by simp [Act.eval]) rA2 ?_)
          | (refine step_append_runI rfl _ _ 22 22 rfl _ _ (by simp [Act.eval]) (by simp [Act.eval]) rB1 ?_)
          | (refine step_append_runI rfl _ _ 22 22 rfl _ _ (by simp [Act.eval]) (by simp [Act.eval]) rB2 ?_)
          | (refine step_append_runI rfl _ _ 22 22 rfl _ _ (by simp [Act.eval]) (by simp [Act.eval]) rC1 ?_)
          | (refine step_append_runI rfl _ _ 22 22 rfl _ _ (by simp [Act.eval]) (by simp [Act.eval]) rC2 ?_)
          | (go_simp; go_at_call 23; with_reducible refine hsA.mono ?_; rintro e wx ⟨A9, c9, rfl, ho9, hb9⟩)
          | (go_simp; go_at_call 23; with_reducible refine hsB.mono ?_; rintro e wx ⟨A9, c9, rfl, ho9, hb9⟩)
          | (go_simp; go_at_call 23; with_reducible refine hsC.mono ?_; rintro e wx ⟨A9, c9, rfl, ho9, hb9⟩))
        all_goals go_wp2_with fail
        all_goals go_meet
        all_goals first
          | exact ⟨_, _, rfl, own_base ho9 HbA.out.size, bel_call HbA.out hb9⟩
          | exact ⟨_, _, rfl, own_base ho9 HbB.out.size, bel_call HbB.out hb9⟩
          | exact ⟨_, _, rfl, own_base ho9 HbC.out.size, bel_call HbC.out hb9⟩
      case rest =>
        obtain ⟨A2, c2, rfl, ho, hbc⟩ := hcut
        have bel4 := bel_call bel3 hbc
        have kx4 := kx3.call hbc
        have sh4 := Shows.of_own ho.out
        have z34 := hbc.size
        clear Hsrt ho kx3 kx0 kx1 kx2
        generalize Mat.srt (l ++ [x]) = M at HL1 HL2 HL3 HL4 HK sh4
        have hcm := check_any A2 K c2 M _ wc sh4 (Nat.le_refl _) (by unfold maxLen; omega)
        rw [Mat.chk_00 ((Mat.chk_ok M).2 HL1.out)] at hcm
        go_wp2_with fail
        refine hcm.mono ?_
        rintro e w5 ⟨rfl, hb5⟩
        have bel5 := bel_call bel4 hb5
        have kx5 := kx4.call hb5
        have sh5 := sh4.call hb5 (Nat.le_refl _)
        have z5 := hb5.size
        obtain ⟨xr, bt, hxr⟩ : ∃ xr bt, Mat.hand (Mat.asF l jj q d) = (xr, bt) := ⟨_, _, rfl⟩
        obtain ⟨yr, bu, hyr⟩ : ∃ yr bu, Mat.hand (Mat.asF M jj q d) = (yr, bu) := ⟨_, _, rfl⟩
        have Hxr := Lib.hid hxr
        have Hyr := Lib.hid hyr
        have ha1 := as_any A n c l jj q d _ w5 (ha.call bel5 hB) bel5.size hmx hxr
        clear hcm hxr
        go_wp2_with fail
        refine ha1.mono ?_
        rintro e w6 ⟨rfl, hb6⟩
        have bel6 := bel_alloc (bel_call bel5 hb6) (.cells #[.int .i64 xr.a, .int .i64 xr.b, .int .i64 xr.c, .int .i64 xr.d, .int .i64 xr.e, .int .i64 xr.f] 28)
        have kx6 := (kx5.call hb6).alloc (.cells #[.int .i64 xr.a, .int .i64 xr.b, .int .i64 xr.c, .int .i64 xr.d, .int .i64 xr.e, .int .i64 xr.f] 28)
        have sh6 := (sh5.call hb6 z5).alloc (Nat.le_trans z5 hb6.size) (.cells #[.int .i64 xr.a, .int .i64 xr.b, .int .i64 xr.c, .int .i64 xr.d, .int .i64 xr.e, .int .i64 xr.f] 28)
        have r6 : Block (w6.alloc (.cells #[.int .i64 xr.a, .int .i64 xr.b, .int .i64 xr.c, .int .i64 xr.d, .int .i64 xr.e, .int .i64 xr.f] 28)) w6.heap.size 28 xr.cs := Block.new w6 28 xr.cs
        go_upto_region 13 with (fail)
        obtain ⟨W6, hW6⟩ : ∃ W6, w6.alloc (.cells #[.int .i64 xr.a, .int .i64 xr.b, .int .i64 xr.c, .int .i64 xr.d, .int .i64 xr.e, .int .i64 xr.f] 28) = W6 := ⟨_, rfl⟩
        rw [hW6] at bel6 kx6 sh6 r6
        rw [hW6]
        have z6 : wc.heap.size ≤ W6.heap.size := by rw [← hW6]; exact Nat.le_trans (Nat.le_trans z5 hb6.size) (by simp)
        clear hW6
        have ha2 := as_any A2 K c2 M jj q d _ W6 sh6 z6 (by unfold maxLen; omega) hyr
        clear hyr ha1
        go_wp2_with fail
        refine ha2.mono ?_
        rintro e w7 ⟨rfl, hb7⟩
        have bel7 := bel_alloc (bel_call bel6 hb7) (.cells #[.int .i64 yr.a, .int .i64 yr.b, .int .i64 yr.c, .int .i64 yr.d, .int .i64 yr.e, .int .i64 yr.f] 28)
        have kx7 := (kx6.call hb7).alloc (.cells #[.int .i64 yr.a, .int .i64 yr.b, .int .i64 yr.c, .int .i64 yr.d, .int .i64 yr.e, .int .i64 yr.f] 28)
        have sh7 := (sh6.call hb7 z6).alloc (Nat.le_trans z6 hb7.size) (.cells #[.int .i64 yr.a, .int .i64 yr.b, .int .i64 yr.c, .int .i64 yr.d, .int .i64 yr.e, .int .i64 yr.f] 28)
        have r7 := (r6.call hb7).alloc (.cells #[.int .i64 yr.a, .int .i64 yr.b, .int .i64 yr.c, .int .i64 yr.d, .int .i64 yr.e, .int .i64 yr.f] 28)
        have y7 : Block (w7.alloc (.cells #[.int .i64 yr.a, .int .i64 yr.b, .int .i64 yr.c, .int .i64 yr.d, .int .i64 yr.e, .int .i64 yr.f] 28)) w7.heap.size 28 yr.cs := Block.new w7 28 yr.cs
        go_upto_region 14 with (fail)
        obtain ⟨W7, hW7⟩ : ∃ W7, w7.alloc (.cells #[.int .i64 yr.a, .int .i64 yr.b, .int .i64 yr.c, .int .i64 yr.d, .int .i64 yr.e, .int .i64 yr.f] 28) = W7 := ⟨_, rfl⟩
        rw [hW7] at bel7 kx7 sh7 r7 y7
        rw [hW7]
        have z7 : wc.heap.size ≤ W7.heap.size := by rw [← hW7]; exact Nat.le_trans (Nat.le_trans z6 hb7.size) (by simp)
        clear hW7 ha2 kx4 kx5 kx6 sh4 sh5 sh6 r6 bel4 bel5 bel6
        obtain ⟨p1, p2, p3, p4, p5, p6⟩ := Block.six kx7
        go_cut [98] from 78 (fun t wx => ∃ bv : Bool, t = .bool bv ∧ Hid (bv = decide (d < x.c ∨ jj ≠ x.a ∨ (q ≠ x.b ∧ x.b ≠ 0))) ∧ wx = W7)
        case first =>
          by_cases e1 : d < x.c
          · go_wp2_with fail
            go_meet
            case rel => exact ⟨_, rfl, (by show _ = _; simp [e1]), rfl⟩
          · by_cases e2 : jj = x.a
            · have f2 : (jj != x.a) = false := by simpa using e2
              have f2' : (jj == x.a) = true := by simpa using e2
              have E2 := Lib.hid e2
              clear e2
              by_cases e3 : q = x.b
              · have f3 : (q != x.b) = false := by simpa using e3
                have f3' : (q == x.b) = true := by simpa using e3
                have E3 := Lib.hid e3
                clear e3
                go_wp2_with fail
                go_meet
                case rel => exact ⟨_, rfl, (by show _ = _; rw [E2.out, E3.out]; simp [e1]), rfl⟩
              · have f3 : (q != x.b) = true := by simpa using e3
                have f3' : (q == x.b) = false := by simpa using e3
                by_cases e4 : x.b = 0
                · have f4 : (x.b != 0) = false := by simpa using e4
                  have f4' : (x.b == 0) = true := by simpa using e4
                  have E4 := Lib.hid e4
                  clear e4
                  go_wp2_with fail
                  go_meet
                  case rel => exact ⟨_, rfl, (by show _ = _; rw [E2.out]; simp [e1, E4.out]), rfl⟩
                · have f4 : (x.b != 0) = true := by simpa using e4
                  have f4' : (x.b == 0) = false := by simpa using e4
                  go_wp2_with fail
                  go_meet
                  case rel => exact ⟨_, rfl, (by show _ = _; simp [e3, e4]), rfl⟩
            · have f2 : (jj != x.a) = true := by simpa using e2
              have f2' : (jj == x.a) = false := by simpa using e2
              go_wp2_with fail
              go_meet
              case rel => exact ⟨_, rfl, (by show _ = _; simp [e2]), rfl⟩
        case rest =>
          obtain ⟨bv, rfl, hbv, rfl⟩ := hcut
          by_cases hcond : d < x.c ∨ jj ≠ x.a ∨ (q ≠ x.b ∧ x.b ≠ 0)
          · have hdec : bv = true := by rw [hbv.out]; exact decide_eq_true hcond
            subst hdec
            have hsm := HL2.out hcond
            have hxy : (xr, bt) = (yr, bu) := by rw [← Hxr.out, ← Hyr.out, hsm]
            injection hxy with hx1 hx2
            subst hx1; subst hx2
            clear hcond hsm
            obtain ⟨u1, u2, u3, u4, u5, u6⟩ := Block.six r7
            obtain ⟨v1, v2, v3, v4, v5, v6⟩ := Block.six y7
            go_wp2_with fail
            go_ret
            exact ⟨rfl, bel7⟩
          · have hdec : bv = false := by rw [hbv.out]; exact decide_eq_false hcond
            subst hdec
            have hbu : bu = true := by
              have := HL4.out hcond
              rw [Hyr.out] at this; exact this
            subst hbu
            have ha3 := as_any A2 K c2 M x.a x.b x.c _ wc sh7 z7 (by unfold maxLen; omega) (show Mat.hand (Mat.asF M x.a x.b x.c) = (x, true) by rw [HL3.out]; rfl)
            clear hcond
            go_wp2_with fail
            refine ha3.mono ?_
            rintro e w8 ⟨rfl, hb8⟩
            have bel8 := bel_alloc (bel_call bel7 hb8) (.cells #[.int .i64 x.a, .int .i64 x.b, .int .i64 x.c, .int .i64 x.d, .int .i64 x.e, .int .i64 x.f] 28)
            have kx8 := (kx7.call hb8).alloc (.cells #[.int .i64 x.a, .int .i64 x.b, .int .i64 x.c, .int .i64 x.d, .int .i64 x.e, .int .i64 x.f] 28)
            have x8 : Block (w8.alloc (.cells #[.int .i64 x.a, .int .i64 x.b, .int .i64 x.c, .int .i64 x.d, .int .i64 x.e, .int .i64 x.f] 28)) w8.heap.size 28 x.cs := Block.new w8 28 x.cs
            go_upto_region 17 with (fail)
            obtain ⟨W8, hW8⟩ : ∃ W8, w8.alloc (.cells #[.int .i64 x.a, .int .i64 x.b, .int .i64 x.c, .int .i64 x.d, .int .i64 x.e, .int .i64 x.f] 28) = W8 := ⟨_, rfl⟩
            rw [hW8] at bel8 kx8 x8
            rw [hW8]
            clear hW8
            obtain ⟨u1, u2, u3, u4, u5, u6⟩ := Block.six kx8
            obtain ⟨v1, v2, v3, v4, v5, v6⟩ := Block.six x8
            go_wp2_with fail
            go_ret
            exact ⟨rfl, bel8⟩
    · have f1 : (F1 == 0) = false := by simpa using hF
      have f2 : (F1 != 0) = true := by simpa using hF
      subst hE
      clear hokE hokF h00 hF
      go_wp2_with fail
      go_ret
      exact ⟨rfl, bel3⟩
  · have f1 : (E1 == 0) = false := by simpa using hE
    have f2 : (E1 != 0) = true := by simpa using hE
    clear hokE hokF h00 hE
    go_wp2_with fail
    go_ret
    exact ⟨rfl, bel3⟩
end Go.Proofs.Ytiomkbpniplfhaa
