/- The walk of period.Parse at any text. -/
import Derived.Test.YtdjkdfgifajilaaSpStep
import Derived.Deep.DeepCutAuto
namespace Go.Proofs.Ytdjkdfgifajilaa
open Go.RowKit Go.Lib

theorem ten_step : ∀ (a : Nat) (y d : Int), a < 4 → 0 ≤ y → y < (10 : Int) ^ a → 0 ≤ d → d ≤ 9 → 0 ≤ 10 * y + d ∧ 10 * y + d < (10 : Int) ^ (a + 1) := by
  intro a y d ha h0 h1 d0 d1
  rw [Int.pow_succ]
  omega
theorem ten_le (a : Nat) (y : Int) (ha : a ≤ 4) (h : y < (10 : Int) ^ a) : y < 10000 := by
  have : (10 : Int) ^ a ≤ 10000 := by
    rcases (by omega : a = 0 ∨ a = 1 ∨ a = 2 ∨ a = 3 ∨ a = 4) with rfl | rfl | rfl | rfl | rfl <;> decide
  omega
/-- Where the reader stands among the first four places. -/
def Four (s : ByteArray) (a p : Nat) (y : Int) (f : Bool) : Prop :=
  a ≤ 4 ∧ 0 ≤ y ∧ y < (10 : Int) ^ a ∧ p ≤ s.size ∧ ((f = true ∧ p = a ∧ y = yr s a ∧ ∀ i, i < a → isDg s i) ∨ (f = false ∧ p < 4 ∧ (∀ i, i < p → isDg s i) ∧ ¬ isDg s p))
theorem Four.start (s : ByteArray) : Four s 0 0 0 true := ⟨by omega, by omega, by decide, by omega, .inl ⟨rfl, rfl, rfl, fun i h => absurd h (by omega)⟩⟩
theorem Four.digit {s : ByteArray} {a p : Nat} {y : Int} (h : Four s a p y true) (h4 : a < 4) (hd : isDg s p) : Four s (a + 1) (p + 1) (10 * y + (cAt s p - 48)) true := by
  obtain ⟨h1, h2, h3, h5, ⟨-, rfl, hy, hi⟩ | ⟨h, -⟩⟩ := h
  · have := ten_step p y (cAt s p - 48) h4 h2 h3 (by unfold isDg at hd; omega) (by unfold isDg at hd; omega)
    have hlt : p < s.size := cAt_lt (by unfold isDg at hd; omega)
    refine ⟨by omega, this.1, this.2, by omega, .inl ⟨rfl, rfl, ?_, ?_⟩⟩
    · rw [hy]; rfl
    · intro i h
      rcases (by omega : i < p ∨ i = p) with g | rfl
      · exact hi i g
      · exact hd
  · cases h
theorem Four.off {s : ByteArray} {a p : Nat} {y : Int} {f : Bool} (h : Four s a p y f) (h4 : a < 4) (hd : f = false ∨ ¬ isDg s p) : Four s (a + 1) p (10 * y + 0) false := by
  obtain ⟨h1, h2, h3, h5, h⟩ := h
  have := ten_step a y 0 h4 h2 h3 (by omega) (by omega)
  refine ⟨by omega, this.1, this.2, h5, .inr ⟨rfl, ?_⟩⟩
  rcases h with ⟨hf, rfl, hy, hi⟩ | ⟨-, h⟩
  · rcases hd with hd | hd
    · rw [hf] at hd; cases hd
    · exact ⟨h4, hi, hd⟩
  · exact h
/-- What 'Parse' hands back. -/
def pV (k n e p : Int) : Value := .tuple #[.int .i64 k, .int .i64 n, .agg #[.int .i64 e, .int .i64 p]]
def PParseR (s : ByteArray) (w : World) (e : Ending) (w' : World) : Prop := ∃ k n x p, Reads s k n x p ∧ e = .returned (pV k n x p) ∧ Below w.heap.size w w'
theorem notDg {s : ByteArray} {q : Nat} (h : ¬ isDg s q) : cAt s q < 48 ∨ 57 < cAt s q := by unfold isDg at h; omega
theorem iff_off {p : Prop} {b : Bool} (h : p ↔ b = true) (hp : ¬ p) : b = false := by
  cases b
  · rfl
  · exact absurd (h.2 rfl) hp
theorem four_end {s : ByteArray} {p : Nat} {z : Int} (h : Four s 4 p z true) : p = 4 ∧ z = yr s 4 ∧ ∀ i, i < 4 → isDg s i := by
  obtain ⟨-, -, -, -, ⟨-, h⟩ | ⟨h, -⟩⟩ := h
  · exact h
  · cases h
theorem mid_off {s : ByteArray} {k n a : Int} {p : Nat} (h : InKind k n) (h0 : 0 ≤ a) (h1 : a ≤ 99) (hr : Reads s 0 0 4 p) : Mid s k n a p false := ⟨h, h0, h1, .inl ⟨rfl, hr⟩⟩
theorem mid_none {s : ByteArray} {p : Nat} {z : Int} {f : Bool} (h : Four s 4 p z f) (hb : (f = true ∧ p < s.size) ↔ false = true) : Mid s 4 12 1 p f ∧ (f = true → z = yr s 4) := by
  cases f with
  | false =>
    obtain ⟨-, -, -, -, ⟨h, -⟩ | ⟨-, h4, hi, hq⟩⟩ := h
    · cases h
    · exact ⟨mid_off (.inr (.inr (.inr ⟨rfl, rfl⟩))) (by omega) (by omega) (.bad4 p h4 hi hq), fun h => nomatch h⟩
  | true =>
    have hy := h.2.1
    have hp := h.2.2.2.1
    obtain ⟨rfl, hz, hi⟩ := four_end h
    have hn : ¬ 4 < s.size := fun h => nomatch hb.1 ⟨rfl, h⟩
    have h4 : s.size = 4 := by omega
    refine ⟨⟨.inr (.inr (.inr ⟨rfl, rfl⟩)), by omega, by omega, ?_⟩, fun _ => hz⟩
    by_cases y0 : yr s 4 = 0
    · exact .inr (.inr (.inl ⟨rfl, by omega, .inl y0, .y0 hi h4 y0⟩))
    · refine .inr (.inr (.inr ⟨rfl, by omega, by omega, by omega, by decide, ?_⟩))
      have := Reads.y1 hi h4 (by omega)
      have e : (yr s 4 - 1) * (12 / 12) + 1 - 1 = yr s 4 - 1 := by omega
      rw [e]
      exact this
theorem yr_ge {s : ByteArray} (hi : ∀ i, i < 4 → isDg s i) : 0 ≤ yr s 4 := (yr_lo (s := s) (fun q h => hi q h) 4 (Nat.le_refl _)).1
theorem mid_m {s : ByteArray} {u v : Int} (hi : ∀ i, i < 4 → isDg s i) (h4 : cAt s 4 = 45) (h5 : cAt s 5 = 77) (h6 : isDg s 6) (h7 : isDg s 7) (h8 : 8 ≤ s.size) (hu : cAt s 6 - 48 = u) (hv : cAt s 7 - 48 = v) : Mid s 1 1 (10 * u + v) 8 true := by
  subst hu hv
  have b6 : 48 ≤ cAt s 6 ∧ cAt s 6 ≤ 57 := h6
  have b7 : 48 ≤ cAt s 7 ∧ cAt s 7 ≤ 57 := h7
  have hy := yr_ge hi
  refine ⟨.inl ⟨rfl, rfl⟩, by omega, by omega, ?_⟩
  by_cases h : 8 < s.size
  · exact .inr (.inl ⟨rfl, by omega, .m8 hi h4 h5 h6 h7 h⟩)
  · have he : s.size = 8 := by omega
    by_cases hb : yr s 4 = 0 ∨ 10 * (cAt s 6 - 48) + (cAt s 7 - 48) < 1 ∨ 12 < 10 * (cAt s 6 - 48) + (cAt s 7 - 48)
    · exact .inr (.inr (.inl ⟨rfl, by omega, by omega, .m0 hi h4 h5 h6 h7 he hb⟩))
    · refine .inr (.inr (.inr ⟨rfl, by omega, by omega, by omega, by omega, ?_⟩))
      exact .m1 hi h4 h5 h6 h7 he (by omega) (by omega) (by omega)
theorem mid_q {s : ByteArray} (hi : ∀ i, i < 4 → isDg s i) (h4 : cAt s 4 = 45) (h5 : cAt s 5 = 81) (h6 : 49 ≤ cAt s 6 ∧ cAt s 6 ≤ 52) (h7 : 7 ≤ s.size) : Mid s 2 3 (cAt s 6 - 48) 7 true := by
  have hy := yr_ge hi
  refine ⟨.inr (.inl ⟨rfl, rfl⟩), by omega, by omega, ?_⟩
  by_cases h : 7 < s.size
  · exact .inr (.inl ⟨rfl, by omega, .q7 hi h4 h5 h6.1 h6.2 h⟩)
  · have he : s.size = 7 := by omega
    by_cases hb : yr s 4 = 0
    · exact .inr (.inr (.inl ⟨rfl, by omega, .inl hb, .q0 hi h4 h5 h6.1 h6.2 he hb⟩))
    · refine .inr (.inr (.inr ⟨rfl, by omega, by omega, by omega, by omega, ?_⟩))
      exact .q1 hi h4 h5 h6.1 h6.2 he (by omega)
theorem mid_h {s : ByteArray} (hi : ∀ i, i < 4 → isDg s i) (h4 : cAt s 4 = 45) (h5 : cAt s 5 = 72) (h6 : 49 ≤ cAt s 6 ∧ cAt s 6 ≤ 50) (h7 : 7 ≤ s.size) : Mid s 3 6 (cAt s 6 - 48) 7 true := by
  have hy := yr_ge hi
  refine ⟨.inr (.inr (.inl ⟨rfl, rfl⟩)), by omega, by omega, ?_⟩
  by_cases h : 7 < s.size
  · exact .inr (.inl ⟨rfl, by omega, .h7 hi h4 h5 h6.1 h6.2 h⟩)
  · have he : s.size = 7 := by omega
    by_cases hb : yr s 4 = 0
    · exact .inr (.inr (.inl ⟨rfl, by omega, .inl hb, .h0 hi h4 h5 h6.1 h6.2 he hb⟩))
    · refine .inr (.inr (.inr ⟨rfl, by omega, by omega, by omega, by omega, ?_⟩))
      exact .h1 hi h4 h5 h6.1 h6.2 he (by omega)
set_option maxRecDepth 100000 in
set_option maxHeartbeats 8000000 in
theorem pparse_any (s : ByteArray) (hs : s.size ≤ 9223372036854775807) (w : World) : Calls Try.prog 35 #[.string s] w (PParseR s w) := by
  go_enter Try.func35, Try.ntmps35
  go_wp2_with fail
  go_loopw [6, 14] (fun y i wr => ∃ (a p : Nat) (z : Int) (f : Bool), Hid (Four s a p z f) ∧ i = .int .i64 a ∧ y = .int .i64 z ∧ RdS wr (w.heap.size + 1) s p f ∧ Block wr w.heap.size 39 [.int .i64 0, .int .i64 0] ∧ Below w.heap.size w wr) (fun _ i _ => 4 - (intOf i).toNat)
  case atStart =>
    refine ⟨0, 0, 0, true, Lib.hid (Four.start s), rfl, rfl, ?_, ?_, ?_⟩
    · have := Block.new (w.alloc (.cells #[.int .i64 0, .int .i64 0] 39)) 61 [.string s, .int .i64 0, .bool true]
      unfold RdS
      simpa using this
    · exact (Block.new w 39 [.int .i64 0, .int .i64 0]).alloc _
    · exact bel_alloc (bel_alloc (Below.refl _ _) _) _
  case round =>
    obtain ⟨a, p, z, f, H4, rfl, rfl, hRr, hF, hbel⟩ := hrel
    have ha : a ≤ 4 := H4.out.1
    have hz : 0 ≤ z ∧ z < 10000 := ⟨H4.out.2.1, ten_le a z ha H4.out.2.2.1⟩
    have hp : p ≤ s.size := H4.out.2.2.2.1
    by_cases hlt : a < 4
    · by_cases hd : f = true ∧ isDg s p
      · obtain ⟨rfl, hd⟩ := hd
        have hv := cAt_byte s p
        have hdig := digit_yes hs hRr (low := 48) (high := 57) (by omega) hd.1 hd.2
        have hn := H4.out.digit hlt hd
        have Hn := Lib.hid hn
        clear hd hn
        generalize cAt s p = c at *
        go_wp2_with fail
        refine hdig.mono ?_
        rintro e w1 ⟨rfl, hR1, hg1⟩
        have hF1 := Block.kept hF hg1 (by omega)
        have hb1 := bel_grown hbel hg1 (fun k hk => by injection hk with hk; omega)
        clear hdig
        go_wp2_with fail
        go_roundw
        case rel => exact ⟨a + 1, p + 1, _, true, Hn, by go_num, rfl, hR1, hF1, hb1⟩
        case measure => simp [intOf]; omega
      · have hd' : f = false ∨ ¬ isDg s p := by
          cases f
          · exact .inl rfl
          · exact .inr fun h => hd ⟨rfl, h⟩
        have hdig := digit_none hs hRr hp (low := 48) (high := 57) (by rcases hd' with h | h; exact .inl h; exact .inr (notDg h))
        have Hn := Lib.hid (H4.out.off hlt hd')
        clear hd hd'
        go_wp2_with fail
        refine hdig.mono ?_
        rintro e w1 ⟨rfl, hR1, hg1⟩
        have hF1 := Block.kept hF hg1 (by omega)
        have hb1 := bel_grown hbel hg1 (fun k hk => by injection hk with hk; omega)
        clear hdig
        go_wp2_with fail
        go_roundw
        case rel => exact ⟨a + 1, p, _, false, Hn, by go_num, by go_num, hR1, hF1, hb1⟩
        case measure => simp [intOf]; omega
    · obtain rfl : a = 4 := by omega
      have c1 : wr.cell? ⟨w.heap.size + 1, 1, none⟩ = some (.int .i64 p) := Block.cell hRr 1
      have c2 : wr.cell? ⟨w.heap.size + 1, 2, none⟩ = some (.bool f) := Block.cell hRr 2
      obtain ⟨b, hb⟩ : ∃ b, (f = true ∧ p < s.size) ↔ b = true := ⟨decide (f = true ∧ p < s.size), by simp⟩
      have Hb := Lib.hid hb
      clear hb
      go_upto_region 8 with fail
      go_cut [34] (fun c wx => c = .bool b ∧ wx = wr)
      case first =>
        cases f with
        | false =>
          have hb : b = false := iff_off Hb.out (fun h => nomatch h.1)
          go_wp2_with fail
          go_meet
          exact ⟨congrArg Value.bool hb.symm, rfl⟩
        | true =>
          by_cases hq : p < s.size
          · have hb : b = true := Hb.out.1 ⟨rfl, hq⟩
            go_wp2_with fail
            go_meet
            exact ⟨congrArg Value.bool hb.symm, rfl⟩
          · have hb : b = false := iff_off Hb.out (fun h => hq h.2)
            go_wp2_with fail
            go_meet
            exact ⟨congrArg Value.bool hb.symm, rfl⟩
      case rest =>
        obtain ⟨rfl, rfl⟩ := hcut
        clear c1 c2
        go_upto_if 34 with fail
        go_cut [7, 8] (fun kk aa wx => ∃ (k n a : Int) (p : Nat) (f : Bool), kk = .int .i64 k ∧ aa = .int .i64 a ∧ Hid (Mid s k n a p f ∧ (f = true → z = yr s 4)) ∧ RdS wx (w.heap.size + 1) s p f ∧ Block wx w.heap.size 39 [.int .i64 0, .int .i64 0] ∧ Below w.heap.size w wx)
        case first =>
          cases b with
          | false =>
            go_wp2_with fail
            go_meet
            exact ⟨4, 12, 1, p, f, rfl, rfl, Lib.hid (mid_none H4.out Hb.out), hRr, hF, hbel⟩
          | true =>
            have hft : f = true ∧ p < s.size := Hb.out.2 rfl
            obtain ⟨rfl, hlt4⟩ := hft
            obtain ⟨rfl, hzy, hi⟩ := four_end H4.out
            have Hz : Hid (true = true → z = yr s 4) := Lib.hid (fun _ => hzy)
            have Hi := Lib.hid hi
            clear hzy hi H4 Hb
            by_cases h4 : cAt s 4 = 45
            · have H4 := Lib.hid h4
              go_wp2_with fail
              refine (dash_yes hs hRr h4).mono ?_
              rintro e w1 ⟨rfl, hR1, hg1⟩
              have hF1 := Block.kept hF hg1 (by omega)
              have hb1 := bel_grown hbel hg1 (fun k hk => by injection hk with hk; omega)
              clear h4
              by_cases h5 : cAt s 5 = 77
              · have H5 := Lib.hid h5
                go_wp2_with fail
                refine (kind_yes hs hR1 h5 (.inl rfl)).mono ?_
                rintro e w2 ⟨rfl, hR2, hg2⟩
                have hF2 := Block.kept hF1 hg2 (by omega)
                have hb2 := bel_grown hb1 hg2 (fun k hk => by injection hk with hk; omega)
                clear h5
                have p6 : 6 ≤ s.size := cAt_lt (by have := H5.out; omega)
                by_cases h6 : isDg s 6
                · have H6 := Lib.hid h6
                  have hk3 := fun (w1 : World) (h : RdS w1 (w.heap.size + 1) s 6 true) => digit_yes hs h (low := 48) (high := 57) (by omega) h6.1 h6.2
                  have g6 : 0 ≤ cAt s 6 - 48 ∧ cAt s 6 - 48 ≤ 9 := by unfold isDg at h6; omega
                  have p7 : 7 ≤ s.size := cAt_lt (by unfold isDg at h6; omega)
                  clear h6
                  obtain ⟨u, hu⟩ : ∃ u, cAt s 6 - 48 = u := ⟨_, rfl⟩
                  have Hu := Lib.hid hu
                  rw [hu] at hk3 g6
                  clear hu
                  go_wp2_with fail
                  refine (hk3 _ hR2).mono ?_
                  rintro e w3 ⟨rfl, hR3, hg3⟩
                  have hF3 := Block.kept hF2 hg3 (by omega)
                  have hb3 := bel_grown hb2 hg3 (fun k hk => by injection hk with hk; omega)
                  clear hk3
                  by_cases h7 : isDg s 7
                  · have H7 := Lib.hid h7
                    have hk4 := fun (w1 : World) (h : RdS w1 (w.heap.size + 1) s 7 true) => digit_yes hs h (low := 48) (high := 57) (by omega) h7.1 h7.2
                    have g7 : 0 ≤ cAt s 7 - 48 ∧ cAt s 7 - 48 ≤ 9 := by unfold isDg at h7; omega
                    have p8 : 8 ≤ s.size := cAt_lt (by unfold isDg at h7; omega)
                    clear h7
                    obtain ⟨v, hv⟩ : ∃ v, cAt s 7 - 48 = v := ⟨_, rfl⟩
                    have Hv := Lib.hid hv
                    rw [hv] at hk4 g7
                    clear hv
                    go_wp2_with fail
                    refine (hk4 _ hR3).mono ?_
                    rintro e w4 ⟨rfl, hR4, hg4⟩
                    have hF4 := Block.kept hF3 hg4 (by omega)
                    have hb4 := bel_grown hb3 hg4 (fun k hk => by injection hk with hk; omega)
                    clear hk4
                    go_wp2_with fail
                    go_meet
                    exact ⟨1, 1, 10 * u + v, 8, true, rfl, rfl, Lib.hid ⟨mid_m Hi.out H4.out H5.out H6.out H7.out p8 Hu.out Hv.out, fun _ => Hz.out trivial⟩, hR4, hF4, hb4⟩
                  · have H7 := Lib.hid h7
                    have hk4 := fun (w1 : World) (h : RdS w1 (w.heap.size + 1) s 7 true) => digit_none hs h p7 (low := 48) (high := 57) (.inr (notDg h7))
                    clear h7
                    go_wp2_with fail
                    refine (hk4 _ hR3).mono ?_
                    rintro e w4 ⟨rfl, hR4, hg4⟩
                    have hF4 := Block.kept hF3 hg4 (by omega)
                    have hb4 := bel_grown hb3 hg4 (fun k hk => by injection hk with hk; omega)
                    clear hk4
                    go_wp2_with fail
                    go_meet
                    exact ⟨1, 1, 10 * u, 7, false, rfl, rfl, Lib.hid ⟨mid_off (.inl ⟨rfl, rfl⟩) (by omega) (by omega) (.m7 Hi.out H4.out H5.out H6.out H7.out), fun h => nomatch h⟩, hR4, hF4, hb4⟩
                · have H6 := Lib.hid h6
                  have hk3 := fun (w1 : World) (h : RdS w1 (w.heap.size + 1) s 6 true) => digit_none hs h p6 (low := 48) (high := 57) (.inr (notDg h6))
                  clear h6
                  go_wp2_with fail
                  refine (hk3 _ hR2).mono ?_
                  rintro e w3 ⟨rfl, hR3, hg3⟩
                  have hF3 := Block.kept hF2 hg3 (by omega)
                  have hb3 := bel_grown hb2 hg3 (fun k hk => by injection hk with hk; omega)
                  have hk4 := digit_none hs hR3 p6 (low := 48) (high := 57) (.inl rfl)
                  go_wp2_with fail
                  refine (hk4).mono ?_
                  rintro e w4 ⟨rfl, hR4, hg4⟩
                  have hF4 := Block.kept hF3 hg4 (by omega)
                  have hb4 := bel_grown hb3 hg4 (fun k hk => by injection hk with hk; omega)
                  clear hk3 hk4
                  go_wp2_with fail
                  go_meet
                  exact ⟨1, 1, 0, 6, false, rfl, rfl, Lib.hid ⟨mid_off (.inl ⟨rfl, rfl⟩) (by omega) (by omega) (.m6 Hi.out H4.out H5.out H6.out), fun h => nomatch h⟩, hR4, hF4, hb4⟩
              · have H5 := Lib.hid h5
                by_cases h5' : cAt s 5 = 81
                · have H5' := Lib.hid h5'
                  go_wp2_with fail
                  refine (kind_yes hs hR1 h5' (.inr (.inl rfl))).mono ?_
                  rintro e w2 ⟨rfl, hR2, hg2⟩
                  have hF2 := Block.kept hF1 hg2 (by omega)
                  have hb2 := bel_grown hb1 hg2 (fun k hk => by injection hk with hk; omega)
                  clear h5 h5' 
                  have p6 : 6 ≤ s.size := cAt_lt (by have := H5'.out; omega)
                  by_cases h6 : 49 ≤ cAt s 6 ∧ cAt s 6 ≤ 52
                  · have H6 := Lib.hid h6
                    have hk3 := fun (w1 : World) (h : RdS w1 (w.heap.size + 1) s 6 true) => digit_yes hs h (low := 49) (high := 52) (by omega) h6.1 h6.2
                    have p7 : 7 ≤ s.size := cAt_lt (by omega)
                    clear h6
                    go_wp2_with fail
                    refine (hk3 _ hR2).mono ?_
                    rintro e w3 ⟨rfl, hR3, hg3⟩
                    have hF3 := Block.kept hF2 hg3 (by omega)
                    have hb3 := bel_grown hb2 hg3 (fun k hk => by injection hk with hk; omega)
                    clear hk3
                    go_wp2_with fail
                    go_meet
                    exact ⟨2, 3, cAt s 6 - 48, 7, true, rfl, rfl, Lib.hid ⟨mid_q Hi.out H4.out H5'.out H6.out p7, fun _ => Hz.out trivial⟩, hR3, hF3, hb3⟩
                  · have H6 : cAt s 6 < 49 ∨ 52 < cAt s 6 := by omega
                    have hk3 := fun (w1 : World) (h : RdS w1 (w.heap.size + 1) s 6 true) => digit_none hs h p6 (low := 49) (high := 52) (.inr H6)
                    have H6 := Lib.hid H6
                    clear h6
                    go_wp2_with fail
                    refine (hk3 _ hR2).mono ?_
                    rintro e w3 ⟨rfl, hR3, hg3⟩
                    have hF3 := Block.kept hF2 hg3 (by omega)
                    have hb3 := bel_grown hb2 hg3 (fun k hk => by injection hk with hk; omega)
                    clear hk3
                    go_wp2_with fail
                    go_meet
                    exact ⟨2, 3, 0, 6, false, rfl, rfl, Lib.hid ⟨mid_off (.inr (.inl ⟨rfl, rfl⟩)) (by omega) (by omega) (.q6 Hi.out H4.out H5'.out H6.out), fun h => nomatch h⟩, hR3, hF3, hb3⟩
                · have H5' := Lib.hid h5'
                  by_cases h5'' : cAt s 5 = 72
                  · have H5'' := Lib.hid h5''
                    go_wp2_with fail
                    refine (kind_yes hs hR1 h5'' (.inr (.inr rfl))).mono ?_
                    rintro e w2 ⟨rfl, hR2, hg2⟩
                    have hF2 := Block.kept hF1 hg2 (by omega)
                    have hb2 := bel_grown hb1 hg2 (fun k hk => by injection hk with hk; omega)
                    clear h5 h5' h5''
                    have p6 : 6 ≤ s.size := cAt_lt (by have := H5''.out; omega)
                    by_cases h6 : 49 ≤ cAt s 6 ∧ cAt s 6 ≤ 50
                    · have H6 := Lib.hid h6
                      have hk3 := fun (w1 : World) (h : RdS w1 (w.heap.size + 1) s 6 true) => digit_yes hs h (low := 49) (high := 50) (by omega) h6.1 h6.2
                      have p7 : 7 ≤ s.size := cAt_lt (by omega)
                      clear h6
                      go_wp2_with fail
                      refine (hk3 _ hR2).mono ?_
                      rintro e w3 ⟨rfl, hR3, hg3⟩
                      have hF3 := Block.kept hF2 hg3 (by omega)
                      have hb3 := bel_grown hb2 hg3 (fun k hk => by injection hk with hk; omega)
                      clear hk3
                      go_wp2_with fail
                      go_meet
                      exact ⟨3, 6, cAt s 6 - 48, 7, true, rfl, rfl, Lib.hid ⟨mid_h Hi.out H4.out H5''.out H6.out p7, fun _ => Hz.out trivial⟩, hR3, hF3, hb3⟩
                    · have H6 : cAt s 6 < 49 ∨ 50 < cAt s 6 := by omega
                      have hk3 := fun (w1 : World) (h : RdS w1 (w.heap.size + 1) s 6 true) => digit_none hs h p6 (low := 49) (high := 50) (.inr H6)
                      have H6 := Lib.hid H6
                      clear h6
                      go_wp2_with fail
                      refine (hk3 _ hR2).mono ?_
                      rintro e w3 ⟨rfl, hR3, hg3⟩
                      have hF3 := Block.kept hF2 hg3 (by omega)
                      have hb3 := bel_grown hb2 hg3 (fun k hk => by injection hk with hk; omega)
                      clear hk3
                      go_wp2_with fail
                      go_meet
                      exact ⟨3, 6, 0, 6, false, rfl, rfl, Lib.hid ⟨mid_off (.inr (.inr (.inl ⟨rfl, rfl⟩))) (by omega) (by omega) (.h6 Hi.out H4.out H5''.out H6.out), fun h => nomatch h⟩, hR3, hF3, hb3⟩
                  · have H5'' := Lib.hid h5''
                    go_wp2_with fail
                    refine (kind_none hs hR1 (cAt_lt (s := s) (q := 4) (by have := H4.out; omega)) (fun _ => ⟨h5, h5', h5''⟩)).mono ?_
                    rintro e w2 ⟨rfl, hR2, hg2⟩
                    have hF2 := Block.kept hF1 hg2 (by omega)
                    have hb2 := bel_grown hb1 hg2 (fun k hk => by injection hk with hk; omega)
                    clear h5 h5' h5''
                    go_wp2_with fail
                    go_meet
                    exact ⟨4, 12, 1, 5, false, rfl, rfl, Lib.hid ⟨mid_off (.inr (.inr (.inr ⟨rfl, rfl⟩))) (by omega) (by omega) (.kind Hi.out H4.out H5.out H5'.out H5''.out), fun h => nomatch h⟩, hR2, hF2, hb2⟩
            · have H4 := Lib.hid h4
              go_wp2_with fail
              refine (dash_none hs hRr (Nat.le_of_lt hlt4) (fun _ => h4)).mono ?_
              rintro e w1 ⟨rfl, hR1, hg1⟩
              have hF1 := Block.kept hF hg1 (by omega)
              have hb1 := bel_grown hbel hg1 (fun k hk => by injection hk with hk; omega)
              go_wp2_with fail
              refine (kind_none hs hR1 (Nat.le_of_lt hlt4) (fun h => nomatch h)).mono ?_
              rintro e w2 ⟨rfl, hR2, hg2⟩
              have hF2 := Block.kept hF1 hg2 (by omega)
              have hb2 := bel_grown hb1 hg2 (fun k hk => by injection hk with hk; omega)
              clear h4
              go_wp2_with fail
              go_meet
              exact ⟨4, 12, 1, 4, false, rfl, rfl, Lib.hid ⟨mid_off (.inr (.inr (.inr ⟨rfl, rfl⟩))) (by omega) (by omega) (.dash Hi.out hlt4 H4.out), fun h => nomatch h⟩, hR2, hF2, hb2⟩
        case rest =>
          obtain ⟨k, n, aa, p', f', rfl, rfl, HM, hR', hF', hb'⟩ := hcut
          have d1 : wc.cell? ⟨w.heap.size + 1, 1, none⟩ = some (.int .i64 p') := Block.cell hR' 1
          have d2 : wc.cell? ⟨w.heap.size + 1, 2, none⟩ = some (.bool f') := Block.cell hR' 2
          obtain ⟨⟨hk, a0, a1, hm⟩, hz'⟩ := HM.out
          clear HM H4 Hb
          rcases hm with ⟨rfl, hr⟩ | ⟨rfl, hlt', hr⟩ | ⟨rfl, hpe, hbad, hr⟩ | ⟨rfl, hpe, y1, a2, a3, hr⟩
          · have cR : wc.cell? ⟨w.heap.size, 0, none⟩ = some (.int .i64 0) := hF'.cell 0
            have cS : wc.cell? ⟨w.heap.size, 1, none⟩ = some (.int .i64 0) := hF'.cell 1
            have fR : wc.frozen? ⟨w.heap.size, 0, none⟩ = false := hF'.free 0
            have fS : wc.frozen? ⟨w.heap.size, 1, none⟩ = false := hF'.free 1
            clear hz'
            go_wp2_with fail
            go_region
            go_wp2_with fail
            exact ret_ttc (T := 39) rfl rfl rfl ((hF'.set 0 (.int .i64 4)).set 1 (.int .i64 p')) agg_fault size_fault ⟨0, 0, 4, p', hr, rfl, (bel_set (p := ⟨w.heap.size, 1, none⟩) (bel_set (p := ⟨w.heap.size, 0, none⟩) hb' (Nat.le_refl _) _) (Nat.le_refl _) _).drew⟩
          · have cR : wc.cell? ⟨w.heap.size, 0, none⟩ = some (.int .i64 0) := hF'.cell 0
            have cS : wc.cell? ⟨w.heap.size, 1, none⟩ = some (.int .i64 0) := hF'.cell 1
            have fR : wc.frozen? ⟨w.heap.size, 0, none⟩ = false := hF'.free 0
            have fS : wc.frozen? ⟨w.heap.size, 1, none⟩ = false := hF'.free 1
            clear hz'
            go_wp2_with fail
            go_region
            go_wp2_with fail
            exact ret_ttc (T := 39) rfl rfl rfl ((hF'.set 0 (.int .i64 4)).set 1 (.int .i64 p')) agg_fault size_fault ⟨0, 0, 4, p', hr, rfl, (bel_set (p := ⟨w.heap.size, 1, none⟩) (bel_set (p := ⟨w.heap.size, 0, none⟩) hb' (Nat.le_refl _) _) (Nat.le_refl _) _).drew⟩
          · obtain rfl := hz' rfl
            have hbad' : yr s 4 = 0 ∨ (yr s 4 ≠ 0 ∧ aa < 1) ∨ (yr s 4 ≠ 0 ∧ ¬ aa < 1 ∧ 12 / n < aa) := by omega
            have Hr := Lib.hid hr
            clear hbad hr hz'
            have hl := fun w => long_is hk w
            have hne : (n == 0) = false := by rcases hk with ⟨-, rfl⟩ | ⟨-, rfl⟩ | ⟨-, rfl⟩ | ⟨-, rfl⟩ <;> rfl
            have hn0 : 1 ≤ n ∧ n ≤ 12 ∧ 0 ≤ 12 / n ∧ 12 / n ≤ 12 := by rcases hk with ⟨-, rfl⟩ | ⟨-, rfl⟩ | ⟨-, rfl⟩ | ⟨-, rfl⟩ <;> decide
            have hd : ∃ d, 12 / n = d := ⟨_, rfl⟩
            obtain ⟨d, hd⟩ := hd
            have hdd : Int.tdiv 12 n = d := by rw [← hd]; rcases hk with ⟨-, rfl⟩ | ⟨-, rfl⟩ | ⟨-, rfl⟩ | ⟨-, rfl⟩ <;> rfl
            rw [hd] at hn0 hbad'
            clear hk hd
            generalize yr s 4 = y at *
            rcases hbad' with rfl | ⟨g1, g2⟩ | ⟨g1, g2, g3⟩
            all_goals
              go_wp2_with fail
              refine (hl _).mono ?_
              rintro e w1 ⟨rfl, hb1⟩
              have hF1 := Block.call hF' hb1
              have cR : w1.cell? ⟨w.heap.size, 0, none⟩ = some (.int .i64 0) := hF1.cell 0
              have cS : w1.cell? ⟨w.heap.size, 1, none⟩ = some (.int .i64 0) := hF1.cell 1
              have fR : w1.frozen? ⟨w.heap.size, 0, none⟩ = false := hF1.free 0
              have fS : w1.frozen? ⟨w.heap.size, 1, none⟩ = false := hF1.free 1
              go_wp2_with fail
              exact ret_ttc (T := 39) rfl rfl rfl ((hF1.set 0 (.int .i64 5)).set 1 (.int .i64 0)) agg_fault size_fault ⟨0, 0, 5, 0, Hr.out, rfl, bel_set (p := ⟨w.heap.size, 1, none⟩) (bel_set (p := ⟨w.heap.size, 0, none⟩) (bel_call hb' hb1) (Nat.le_refl _) _) (Nat.le_refl _) _⟩
          · obtain rfl := hz' rfl
            have Hr := Lib.hid hr
            clear hr hz'
            have hl := fun w => long_is hk w
            have hne : (n == 0) = false := by rcases hk with ⟨-, rfl⟩ | ⟨-, rfl⟩ | ⟨-, rfl⟩ | ⟨-, rfl⟩ <;> rfl
            have y0 : (yr s 4 == 0) = false := by simp; omega
            rcases hk with ⟨rfl, rfl⟩ | ⟨rfl, rfl⟩ | ⟨rfl, rfl⟩ | ⟨rfl, rfl⟩
            all_goals
              go_wp2_with fail
              refine (hl _).mono ?_
              rintro e w1 ⟨rfl, hb1⟩
              have hF1 := Block.call hF' hb1
              have cR : w1.cell? ⟨w.heap.size, 0, none⟩ = some (.int .i64 0) := hF1.cell 0
              have cS : w1.cell? ⟨w.heap.size, 1, none⟩ = some (.int .i64 0) := hF1.cell 1
              have fR : w1.frozen? ⟨w.heap.size, 0, none⟩ = false := hF1.free 0
              have fS : w1.frozen? ⟨w.heap.size, 1, none⟩ = false := hF1.free 1
              go_wp2_with fail
              go_region
              go_wp2_with fail
              refine ret_ttc (T := 39) rfl rfl rfl ((hF1.set 0 (.int .i64 0)).set 1 (.int .i64 0)) agg_fault size_fault ⟨_, _, 0, 0, Hr.out, ?_, (bel_set (p := ⟨w.heap.size, 1, none⟩) (bel_set (p := ⟨w.heap.size, 0, none⟩) (bel_call hb' hb1) (Nat.le_refl _) _) (Nat.le_refl _) _).drew⟩
              first
              | rfl
              | (simp [pV])
end Go.Proofs.Ytdjkdfgifajilaa
