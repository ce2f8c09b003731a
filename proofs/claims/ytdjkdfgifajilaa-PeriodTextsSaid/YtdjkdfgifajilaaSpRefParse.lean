/- The walk of the document's Parse. -/
import Derived.Test.YtdjkdfgifajilaaSpParse2
import Derived.Test.YtdjkdfgifajilaaSpRefText
import Derived.Deep.RegionHeld3
namespace Go.Proofs.Ytdjkdfgifajilaa
open Go.RowKit Go.Lib

set_option maxRecDepth 100000 in
theorem rdg_yes {s : ByteArray} {q : Nat} (_ : s.size ≤ 9223372036854775807) {lo hi : Int} (h1 : 1 ≤ lo) (hl : lo ≤ cAt s q) (hh : cAt s q ≤ hi) (w : World) : Calls Try.prog 59 #[.string s, .int .i64 (q : Int), .int .u8 lo, .int .u8 hi] w fun e w' => e = .returned (.bool true) ∧ w = w' := by
  have hq : q < s.size := cAt_lt (by omega)
  rw [cAt_get s q hq] at hl hh
  have t1 : decide ((s[q].toNat : Int) ≥ lo) = true := decide_eq_true hl
  have t2 : decide ((s[q].toNat : Int) ≤ hi) = true := decide_eq_true hh
  go_enter Try.func59, Try.ntmps59
  go_wp2_with fail
  go_ret
  exact ⟨rfl, rfl⟩
set_option maxRecDepth 100000 in
theorem rdg_no {s : ByteArray} {q : Nat} (_ : s.size ≤ 9223372036854775807) (_ : q ≤ 100) {lo hi : Int} (_ : 1 ≤ lo) (h : cAt s q < lo ∨ hi < cAt s q) (w : World) : Calls Try.prog 59 #[.string s, .int .i64 (q : Int), .int .u8 lo, .int .u8 hi] w fun e w' => e = .returned (.bool false) ∧ w = w' := by
  by_cases hq : q < s.size
  · rw [cAt_get s q hq] at h
    by_cases hl : (s[q].toNat : Int) < lo
    · have t1 : decide ((s[q].toNat : Int) ≥ lo) = false := decide_eq_false (by omega)
      clear h
      go_enter Try.func59, Try.ntmps59
      go_wp2_with fail
      go_ret
      exact ⟨rfl, rfl⟩
    · have t1 : decide ((s[q].toNat : Int) ≥ lo) = true := decide_eq_true (by omega)
      have t2 : decide ((s[q].toNat : Int) ≤ hi) = false := decide_eq_false (by omega)
      clear h
      go_enter Try.func59, Try.ntmps59
      go_wp2_with fail
      go_ret
      exact ⟨rfl, rfl⟩
  · have t : decide ((q : Int) < (s.size : Int)) = false := decide_eq_false (by omega)
    clear h
    go_enter Try.func59, Try.ntmps59
    go_wp2_with fail
    go_ret
    exact ⟨rfl, rfl⟩
theorem yr_lo3 {s : ByteArray} {a : Nat} (h : ∀ i, i < a → isDg s i) (ha : a < 4) : 0 ≤ yr s a ∧ yr s a < 1000 := by
  have k : ∀ b, b ≤ a → 0 ≤ yr s b ∧ yr s b < (10 : Int) ^ b := by
    intro b
    induction b with
    | zero => intro _; simp [yr]
    | succ b ih =>
      intro hb
      have i := ih (by omega)
      have d : 48 ≤ (nums s).getD b 0 ∧ (nums s).getD b 0 ≤ 57 := h b (by omega)
      rw [Int.pow_succ]
      unfold yr
      omega
  have := k a (Nat.le_refl _)
  have : (10 : Int) ^ a ≤ 1000 := by
    rcases (by omega : a = 0 ∨ a = 1 ∨ a = 2 ∨ a = 3) with rfl | rfl | rfl | rfl <;> decide
  omega
theorem reads_bad {s : ByteArray} {a : Nat} {k n x p : Int} (h4 : a < 4) (hi : ∀ i, i < a → isDg s i) (hb : ¬ isDg s a) (hr : Reads s k n x p) : k = 0 ∧ n = 0 ∧ x = 4 ∧ p = a := by
  cases hr with
  | bad4 q hq hqi hqb =>
    refine ⟨rfl, rfl, rfl, ?_⟩
    rcases Nat.lt_trichotomy q a with g | g | g
    · exact absurd (hi q g) hqb
    · rw [g]
    · exact absurd (hqi a g) hb
  | y0 h => exact absurd (h a h4) hb
  | y1 h => exact absurd (h a h4) hb
  | dash h => exact absurd (h a h4) hb
  | kind h => exact absurd (h a h4) hb
  | m6 h => exact absurd (h a h4) hb
  | m7 h => exact absurd (h a h4) hb
  | m8 h => exact absurd (h a h4) hb
  | m0 h => exact absurd (h a h4) hb
  | m1 h => exact absurd (h a h4) hb
  | q6 h => exact absurd (h a h4) hb
  | q7 h => exact absurd (h a h4) hb
  | q0 h => exact absurd (h a h4) hb
  | q1 h => exact absurd (h a h4) hb
  | h6 h => exact absurd (h a h4) hb
  | h7 h => exact absurd (h a h4) hb
  | h0 h => exact absurd (h a h4) hb
  | h1 h => exact absurd (h a h4) hb
theorem fin_y (y : Int) (h1 : 1 ≤ y) (h2 : y < 10000) : IntKind.i64.wrap (IntKind.i64.wrap ((IntKind.i64.wrap (IntKind.i64.wrap (y - 1) * 12)).tdiv 12)) = y - 1 := by
  rw [w64 (n := y - 1) (by omega), w64 (n := (y - 1) * 12) (by omega), Int.tdiv_eq_ediv_of_nonneg (by omega), w64 (n := (y - 1) * 12 / 12) (by omega), w64 (by omega)]
  omega
theorem fin_m (y a : Int) (h1 : 1 ≤ y ∧ y < 10000) (h2 : 0 ≤ a ∧ a ≤ 11) : IntKind.i64.wrap (IntKind.i64.wrap (IntKind.i64.wrap (IntKind.i64.wrap (y - 1) * 12)) + a) = (y - 1) * 12 + a := by
  rw [w64 (n := y - 1) (by omega), w64 (n := (y - 1) * 12) (by omega), w64 (n := (y - 1) * 12) (by omega), w64 (by omega)]
theorem fin_q (y a : Int) (h1 : 1 ≤ y ∧ y < 10000) (h2 : 0 ≤ a ∧ a ≤ 11) : IntKind.i64.wrap (IntKind.i64.wrap ((IntKind.i64.wrap (IntKind.i64.wrap (y - 1) * 12)).tdiv 3) + a) = (y - 1) * 4 + a := by
  rw [w64 (n := y - 1) (by omega), w64 (n := (y - 1) * 12) (by omega), Int.tdiv_eq_ediv_of_nonneg (by omega), w64 (n := (y - 1) * 12 / 3) (by omega), w64 (by omega)]
  omega
theorem fin_h (y a : Int) (h1 : 1 ≤ y ∧ y < 10000) (h2 : 0 ≤ a ∧ a ≤ 11) : IntKind.i64.wrap (IntKind.i64.wrap ((IntKind.i64.wrap (IntKind.i64.wrap (y - 1) * 12)).tdiv 6) + a) = (y - 1) * 2 + a := by
  rw [w64 (n := y - 1) (by omega), w64 (n := (y - 1) * 12) (by omega), Int.tdiv_eq_ediv_of_nonneg (by omega), w64 (n := (y - 1) * 12 / 6) (by omega), w64 (by omega)]
  omega
def RParseR (k n x p : Int) (w : World) (e : Ending) (w' : World) : Prop := e = .returned (pV k n x p) ∧ Below w.heap.size w w'
set_option maxRecDepth 100000 in
set_option maxHeartbeats 16000000 in
theorem rparse_any (s : ByteArray) (hs : s.size ≤ 9223372036854775807) {k n x p : Int} (hr : Reads s k n x p) (w : World) : Calls Try.prog 36 #[.string s] w (RParseR k n x p w) := by
  go_enter Try.func36, Try.ntmps36
  go_wp2_with fail
  go_loopw [5, 6] (fun y i wr => ∃ (a : Nat), a ≤ 4 ∧ i = .int .i64 a ∧ y = .int .i64 (yr s a) ∧ Hid (∀ i, i < a → isDg s i) ∧ Block wr w.heap.size 39 [.int .i64 0, .int .i64 0] ∧ Below w.heap.size w wr) (fun _ i _ => 4 - (intOf i).toNat)
  case atStart => exact ⟨0, by omega, rfl, rfl, Lib.hid (fun i h => absurd h (by omega)), Block.new w 39 [.int .i64 0, .int .i64 0], bel_alloc (Below.refl _ _) _⟩
  case round =>
    obtain ⟨a, ha, rfl, rfl, Hi, hF, hbel⟩ := hrel
    have f0 : wr.cell? ⟨w.heap.size, 0, none⟩ = some (.int .i64 0) := hF.cell 0
    have f1 : wr.cell? ⟨w.heap.size, 1, none⟩ = some (.int .i64 0) := hF.cell 1
    have ff := hF.free
    by_cases hlt : a < 4
    · by_cases hd : isDg s a
      · have hc := fun w => rdg_yes hs (q := a) (lo := 48) (hi := 57) (by omega) hd.1 hd.2 w
        have hq : a < s.size := cAt_lt (by unfold isDg at hd; omega)
        have hg := cAt_get s a hq
        have g1 : 48 ≤ (s[a].toNat : Int) ∧ (s[a].toNat : Int) ≤ 57 := by rw [← hg]; exact hd
        have Hn : Hid (∀ i, i < a + 1 → isDg s i) := Lib.hid (fun i h => by
          rcases (by omega : i < a ∨ i = a) with g | rfl
          · exact Hi.out i g
          · exact hd)
        have hy : 0 ≤ yr s a ∧ yr s a < 1000 := yr_lo3 Hi.out hlt
        have Hs : Hid (yr s (a + 1) = 10 * yr s a + ((s[a].toNat : Int) - 48)) := Lib.hid (by rw [← hg]; rfl)
        clear hg hd
        generalize yr s a = y at *
        go_wp2_with fail
        refine (hc _).mono ?_
        rintro e w1 ⟨rfl, rfl⟩
        go_wp2_with fail
        go_roundw
        case rel => exact ⟨a + 1, by omega, by go_num, by rw [Hs.out], Hn, hF, hbel⟩
        case measure => simp [intOf]; omega
      · have hc := fun w => rdg_no hs (q := a) (by omega) (lo := 48) (hi := 57) (by omega) (notDg hd) w
        obtain ⟨rfl, rfl, rfl, rfl⟩ := reads_bad hlt Hi.out hd hr
        clear hd hr
        go_wp2_with fail
        refine (hc _).mono ?_
        rintro e w1 ⟨rfl, rfl⟩
        go_wp2_with fail
        exact ret_ttc (T := 39) rfl rfl rfl ((hF.set 0 (.int .i64 4)).set 1 (.int .i64 a)) agg_fault size_fault ⟨rfl, bel_set (p := ⟨w.heap.size, 1, none⟩) (bel_set (p := ⟨w.heap.size, 0, none⟩) hbel (Nat.le_refl _) _) (Nat.le_refl _) _⟩
    · obtain rfl : a = 4 := by omega
      have hy := yr_lo (s := s) (fun q h => Hi.out q h) 4 (Nat.le_refl _)
      cases hr with
      | bad4 q hq hqi hqb => exact absurd (Hi.out q hq) hqb
      | y0 hi h4 y =>
        clear hi
        have t : decide ((s.size : Int) > 4) = false := decide_eq_false (by omega)
        generalize yr s 4 = yy at *
        subst y
        go_wp2_with fail
        exact ret_ttc (T := 39) rfl rfl rfl ((hF.set 0 (.int .i64 5)).set 1 (.int .i64 0)) agg_fault size_fault ⟨rfl, bel_set (p := ⟨w.heap.size, 1, none⟩) (bel_set (p := ⟨w.heap.size, 0, none⟩) hbel (Nat.le_refl _) _) (Nat.le_refl _) _⟩
      | y1 hi h4 y =>
        clear hi
        have t : decide ((s.size : Int) > 4) = false := decide_eq_false (by omega)
        have y0 : (yr s 4 == 0) = false := by simp; omega
        go_wp2_with fail
        go_region_held3 (fun _ => True) (trivial) (first | (go_at_call 60; refine (months_is (.inr (.inr (.inr ⟨rfl, rfl⟩))) _).mono ?_; rintro e w1 ⟨rfl, rfl⟩))
        all_goals
          go_wp2_with fail
          refine ret_ttc (T := 39) rfl rfl rfl ((hF.set 0 (.int .i64 0)).set 1 (.int .i64 0)) agg_fault size_fault ⟨?_, (bel_set (p := ⟨w.heap.size, 1, none⟩) (bel_set (p := ⟨w.heap.size, 0, none⟩) hbel (Nat.le_refl _) _) (Nat.le_refl _) _).drew⟩
          refine (congrArg (fun z => Ending.returned (pV 4 z 0 0)) (fin_y (yr s 4) (by omega) (by omega))).trans ?_
          exact congrArg (fun z => Ending.returned (pV 4 z 0 0)) (by omega)
      | dash hi hl h4 =>
        have g4 : ((s[4].toNat : Int) != 45) = true := by rw [← cAt_get s 4 hl]; simpa using h4
        have t4 : decide ((s.size : Int) > 4) = true := decide_eq_true (by omega)
        clear hi h4
        go_wp2_with fail
        exact ret_ttc (T := 39) rfl rfl rfl ((hF.set 0 (.int .i64 4)).set 1 (.int .i64 4)) agg_fault size_fault ⟨rfl, bel_set (p := ⟨w.heap.size, 1, none⟩) (bel_set (p := ⟨w.heap.size, 0, none⟩) hbel (Nat.le_refl _) _) (Nat.le_refl _) _⟩
      | kind hi h4 h5 h5' h5'' =>
        have l4 : 4 < s.size := cAt_lt (by omega)
        have g4 : (s[4].toNat : Int) = 45 := by rw [← cAt_get s 4 l4]; exact h4
        have t4 : decide ((s.size : Int) > 4) = true := decide_eq_true (by omega)
        have l5 : 0 ≤ cAt s 5 ∧ cAt s 5 ≤ 255 := cAt_byte s 5
        have n77 := fun w => rdg_no hs (q := 5) (by omega) (lo := 77) (hi := 77) (by omega) (by omega) w
        have n81 := fun w => rdg_no hs (q := 5) (by omega) (lo := 81) (hi := 81) (by omega) (by omega) w
        have n72 := fun w => rdg_no hs (q := 5) (by omega) (lo := 72) (hi := 72) (by omega) (by omega) w
        clear hi h4 h5 h5' h5''
        go_wp2_with fail
        refine (n77 _).mono ?_
        rintro e w1 ⟨rfl, rfl⟩
        go_wp2_with fail
        refine (n81 _).mono ?_
        rintro e w1 ⟨rfl, rfl⟩
        go_wp2_with fail
        refine (n72 _).mono ?_
        rintro e w1 ⟨rfl, rfl⟩
        go_wp2_with fail
        exact ret_ttc (T := 39) rfl rfl rfl ((hF.set 0 (.int .i64 4)).set 1 (.int .i64 5)) agg_fault size_fault ⟨rfl, bel_set (p := ⟨w.heap.size, 1, none⟩) (bel_set (p := ⟨w.heap.size, 0, none⟩) hbel (Nat.le_refl _) _) (Nat.le_refl _) _⟩
      | m6 hi h4 h5 h6 =>
        have l4 : 4 < s.size := cAt_lt (by omega)
        have g4 : (s[4].toNat : Int) = 45 := by rw [← cAt_get s 4 l4]; exact h4
        have t4 : decide ((s.size : Int) > 4) = true := decide_eq_true (by omega)
        have y77 := fun w => rdg_yes hs (q := 5) (lo := 77) (hi := 77) (by omega) (by omega) (by omega) w
        have d6 := fun w => rdg_no hs (q := 6) (by omega) (lo := 48) (hi := 57) (by omega) (notDg h6) w
        clear hi h4 h5 h6
        go_wp2_with fail
        refine (y77 _).mono ?_
        rintro e w1 ⟨rfl, rfl⟩
        go_wp2_with fail
        refine (d6 _).mono ?_
        rintro e w1 ⟨rfl, rfl⟩
        go_wp2_with fail
        exact ret_ttc (T := 39) rfl rfl rfl ((hF.set 0 (.int .i64 4)).set 1 (.int .i64 6)) agg_fault size_fault ⟨rfl, bel_set (p := ⟨w.heap.size, 1, none⟩) (bel_set (p := ⟨w.heap.size, 0, none⟩) hbel (Nat.le_refl _) _) (Nat.le_refl _) _⟩
      | m7 hi h4 h5 h6 h7 =>
        have l4 : 4 < s.size := cAt_lt (by omega)
        have g4 : (s[4].toNat : Int) = 45 := by rw [← cAt_get s 4 l4]; exact h4
        have t4 : decide ((s.size : Int) > 4) = true := decide_eq_true (by omega)
        have y77 := fun w => rdg_yes hs (q := 5) (lo := 77) (hi := 77) (by omega) (by omega) (by omega) w
        have d6 := fun w => rdg_yes hs (q := 6) (lo := 48) (hi := 57) (by omega) h6.1 h6.2 w
        have l6 : 6 < s.size := cAt_lt (by have := h6; unfold isDg at this; omega)
        have d7 := fun w => rdg_no hs (q := 7) (by omega) (lo := 48) (hi := 57) (by omega) (notDg h7) w
        have e6 := cAt_get s 6 l6
        have b6 : 48 ≤ (s[6].toNat : Int) ∧ (s[6].toNat : Int) ≤ 57 := by rw [← e6]; first | exact h6 | omega
        clear hi h4 h5 h6 h7 e6
        go_wp2_with fail
        refine (y77 _).mono ?_
        rintro e w1 ⟨rfl, rfl⟩
        go_wp2_with fail
        refine (d6 _).mono ?_
        rintro e w1 ⟨rfl, rfl⟩
        go_wp2_with fail
        refine (d7 _).mono ?_
        rintro e w1 ⟨rfl, rfl⟩
        go_wp2_with fail
        exact ret_ttc (T := 39) rfl rfl rfl ((hF.set 0 (.int .i64 4)).set 1 (.int .i64 7)) agg_fault size_fault ⟨rfl, bel_set (p := ⟨w.heap.size, 1, none⟩) (bel_set (p := ⟨w.heap.size, 0, none⟩) hbel (Nat.le_refl _) _) (Nat.le_refl _) _⟩
      | m8 hi h4 h5 h6 h7 h8 =>
        have l4 : 4 < s.size := cAt_lt (by omega)
        have g4 : (s[4].toNat : Int) = 45 := by rw [← cAt_get s 4 l4]; exact h4
        have t4 : decide ((s.size : Int) > 4) = true := decide_eq_true (by omega)
        have y77 := fun w => rdg_yes hs (q := 5) (lo := 77) (hi := 77) (by omega) (by omega) (by omega) w
        have d6 := fun w => rdg_yes hs (q := 6) (lo := 48) (hi := 57) (by omega) h6.1 h6.2 w
        have l6 : 6 < s.size := cAt_lt (by have := h6; unfold isDg at this; omega)
        have d7 := fun w => rdg_yes hs (q := 7) (lo := 48) (hi := 57) (by omega) h7.1 h7.2 w
        have l7 : 7 < s.size := cAt_lt (by have := h7; unfold isDg at this; omega)
        have e6 := cAt_get s 6 l6
        have b6 : 48 ≤ (s[6].toNat : Int) ∧ (s[6].toNat : Int) ≤ 57 := by rw [← e6]; first | exact h6 | omega
        have e7 := cAt_get s 7 l7
        have b7 : 48 ≤ (s[7].toNat : Int) ∧ (s[7].toNat : Int) ≤ 57 := by rw [← e7]; first | exact h7 | omega
        have t8 : decide ((s.size : Int) > 8) = true := decide_eq_true (by omega)
        clear hi h4 h5 h6 h7 e6 e7
        go_wp2_with fail
        refine (y77 _).mono ?_
        rintro e w1 ⟨rfl, rfl⟩
        go_wp2_with fail
        refine (d6 _).mono ?_
        rintro e w1 ⟨rfl, rfl⟩
        go_wp2_with fail
        refine (d7 _).mono ?_
        rintro e w1 ⟨rfl, rfl⟩
        go_wp2_with fail
        exact ret_ttc (T := 39) rfl rfl rfl ((hF.set 0 (.int .i64 4)).set 1 (.int .i64 8)) agg_fault size_fault ⟨rfl, bel_set (p := ⟨w.heap.size, 1, none⟩) (bel_set (p := ⟨w.heap.size, 0, none⟩) hbel (Nat.le_refl _) _) (Nat.le_refl _) _⟩
      | m0 hi h4 h5 h6 h7 h8 hb =>
        have l4 : 4 < s.size := cAt_lt (by omega)
        have g4 : (s[4].toNat : Int) = 45 := by rw [← cAt_get s 4 l4]; exact h4
        have t4 : decide ((s.size : Int) > 4) = true := decide_eq_true (by omega)
        have y77 := fun w => rdg_yes hs (q := 5) (lo := 77) (hi := 77) (by omega) (by omega) (by omega) w
        have d6 := fun w => rdg_yes hs (q := 6) (lo := 48) (hi := 57) (by omega) h6.1 h6.2 w
        have l6 : 6 < s.size := cAt_lt (by have := h6; unfold isDg at this; omega)
        have d7 := fun w => rdg_yes hs (q := 7) (lo := 48) (hi := 57) (by omega) h7.1 h7.2 w
        have l7 : 7 < s.size := cAt_lt (by have := h7; unfold isDg at this; omega)
        have e6 := cAt_get s 6 l6
        have b6 : 48 ≤ (s[6].toNat : Int) ∧ (s[6].toNat : Int) ≤ 57 := by rw [← e6]; first | exact h6 | omega
        have e7 := cAt_get s 7 l7
        have b7 : 48 ≤ (s[7].toNat : Int) ∧ (s[7].toNat : Int) ≤ 57 := by rw [← e7]; first | exact h7 | omega
        have t8 : decide ((s.size : Int) > 8) = false := decide_eq_false (by omega)
        have hb' : yr s 4 = 0 ∨ (yr s 4 ≠ 0 ∧ 10 * ((s[6].toNat : Int) - 48) + ((s[7].toNat : Int) - 48) - 1 < 0) ∨ (yr s 4 ≠ 0 ∧ ¬ 10 * ((s[6].toNat : Int) - 48) + ((s[7].toNat : Int) - 48) - 1 < 0 ∧ 11 < 10 * ((s[6].toNat : Int) - 48) + ((s[7].toNat : Int) - 48) - 1) := by rw [e6, e7] at hb; omega
        clear hi h4 h5 h6 h7 e6 e7 hb
        generalize yr s 4 = yy at *
        rcases hb' with rfl | ⟨g1, g2⟩ | ⟨g1, g2, g3⟩
        all_goals
          go_wp2_with fail
          refine (y77 _).mono ?_
          rintro e w1 ⟨rfl, rfl⟩
          go_wp2_with fail
          refine (d6 _).mono ?_
          rintro e w1 ⟨rfl, rfl⟩
          go_wp2_with fail
          refine (d7 _).mono ?_
          rintro e w1 ⟨rfl, rfl⟩
          go_wp2_with fail
          exact ret_ttc (T := 39) rfl rfl rfl ((hF.set 0 (.int .i64 5)).set 1 (.int .i64 0)) agg_fault size_fault ⟨rfl, bel_set (p := ⟨w.heap.size, 1, none⟩) (bel_set (p := ⟨w.heap.size, 0, none⟩) hbel (Nat.le_refl _) _) (Nat.le_refl _) _⟩
      | m1 hi h4 h5 h6 h7 h8 y1 a1 a2 =>
        have l4 : 4 < s.size := cAt_lt (by omega)
        have g4 : (s[4].toNat : Int) = 45 := by rw [← cAt_get s 4 l4]; exact h4
        have t4 : decide ((s.size : Int) > 4) = true := decide_eq_true (by omega)
        have y77 := fun w => rdg_yes hs (q := 5) (lo := 77) (hi := 77) (by omega) (by omega) (by omega) w
        have d6 := fun w => rdg_yes hs (q := 6) (lo := 48) (hi := 57) (by omega) h6.1 h6.2 w
        have l6 : 6 < s.size := cAt_lt (by have := h6; unfold isDg at this; omega)
        have d7 := fun w => rdg_yes hs (q := 7) (lo := 48) (hi := 57) (by omega) h7.1 h7.2 w
        have l7 : 7 < s.size := cAt_lt (by have := h7; unfold isDg at this; omega)
        have e6 := cAt_get s 6 l6
        have b6 : 48 ≤ (s[6].toNat : Int) ∧ (s[6].toNat : Int) ≤ 57 := by rw [← e6]; first | exact h6 | omega
        have e7 := cAt_get s 7 l7
        have b7 : 48 ≤ (s[7].toNat : Int) ∧ (s[7].toNat : Int) ≤ 57 := by rw [← e7]; first | exact h7 | omega
        have t8 : decide ((s.size : Int) > 8) = false := decide_eq_false (by omega)
        rw [e6, e7] at a1 a2 ⊢
        have y0 : (yr s 4 == 0) = false := by simp; omega
        have E6 := Lib.hid e6
        have E7 := Lib.hid e7
        clear hi h4 h5 h6 h7 e6 e7
        go_wp2_with fail
        refine (y77 _).mono ?_
        rintro e w1 ⟨rfl, rfl⟩
        go_wp2_with fail
        refine (d6 _).mono ?_
        rintro e w1 ⟨rfl, rfl⟩
        go_wp2_with fail
        refine (d7 _).mono ?_
        rintro e w1 ⟨rfl, rfl⟩
        go_wp2_with fail
        go_region_held3 (fun _ => True) (trivial) (first | (go_at_call 60; refine (months_is (.inl ⟨rfl, rfl⟩) _).mono ?_; rintro e w1 ⟨rfl, rfl⟩))
        all_goals
          go_wp2_with fail
          refine ret_ttc (T := 39) rfl rfl rfl ((hF.set 0 (.int .i64 0)).set 1 (.int .i64 0)) agg_fault size_fault ⟨?_, (bel_set (p := ⟨w.heap.size, 1, none⟩) (bel_set (p := ⟨w.heap.size, 0, none⟩) hbel (Nat.le_refl _) _) (Nat.le_refl _) _).drew⟩
          refine (congrArg (fun z => Ending.returned (pV 1 z 0 0)) (fin_m (yr s 4) (10 * ((s[6].toNat : Int) - 48) + ((s[7].toNat : Int) - 48) - 1) (by omega) (by omega))).trans ?_
          exact congrArg (fun z => Ending.returned (pV 1 z 0 0)) (by have e6' := E6.out; have e7' := E7.out; omega)
      | q6 hi h4 h5 h6 =>
        have l4 : 4 < s.size := cAt_lt (by omega)
        have g4 : (s[4].toNat : Int) = 45 := by rw [← cAt_get s 4 l4]; exact h4
        have t4 : decide ((s.size : Int) > 4) = true := decide_eq_true (by omega)
        have n77 := fun w => rdg_no hs (q := 5) (by omega) (lo := 77) (hi := 77) (by omega) (by omega) w
        have y81 := fun w => rdg_yes hs (q := 5) (lo := 81) (hi := 81) (by omega) (by omega) (by omega) w
        have d6 := fun w => rdg_no hs (q := 6) (by omega) (lo := 49) (hi := 52) (by omega) h6 w
        clear hi h4 h5 h6
        go_wp2_with fail
        refine (n77 _).mono ?_
        rintro e w1 ⟨rfl, rfl⟩
        go_wp2_with fail
        refine (y81 _).mono ?_
        rintro e w1 ⟨rfl, rfl⟩
        go_wp2_with fail
        refine (d6 _).mono ?_
        rintro e w1 ⟨rfl, rfl⟩
        go_wp2_with fail
        exact ret_ttc (T := 39) rfl rfl rfl ((hF.set 0 (.int .i64 4)).set 1 (.int .i64 6)) agg_fault size_fault ⟨rfl, bel_set (p := ⟨w.heap.size, 1, none⟩) (bel_set (p := ⟨w.heap.size, 0, none⟩) hbel (Nat.le_refl _) _) (Nat.le_refl _) _⟩
      | q7 hi h4 h5 h6 h6' h7 =>
        have l4 : 4 < s.size := cAt_lt (by omega)
        have g4 : (s[4].toNat : Int) = 45 := by rw [← cAt_get s 4 l4]; exact h4
        have t4 : decide ((s.size : Int) > 4) = true := decide_eq_true (by omega)
        have n77 := fun w => rdg_no hs (q := 5) (by omega) (lo := 77) (hi := 77) (by omega) (by omega) w
        have y81 := fun w => rdg_yes hs (q := 5) (lo := 81) (hi := 81) (by omega) (by omega) (by omega) w
        have d6 := fun w => rdg_yes hs (q := 6) (lo := 49) (hi := 52) (by omega) h6 h6' w
        have l6 : 6 < s.size := cAt_lt (by omega)
        have e6 := cAt_get s 6 l6
        have b6 : 48 ≤ (s[6].toNat : Int) ∧ (s[6].toNat : Int) ≤ 57 := by rw [← e6]; first | exact h6 | omega
        have t8 : decide ((s.size : Int) > 7) = true := decide_eq_true (by omega)
        clear hi h4 h5 h6 h6' e6
        go_wp2_with fail
        refine (n77 _).mono ?_
        rintro e w1 ⟨rfl, rfl⟩
        go_wp2_with fail
        refine (y81 _).mono ?_
        rintro e w1 ⟨rfl, rfl⟩
        go_wp2_with fail
        refine (d6 _).mono ?_
        rintro e w1 ⟨rfl, rfl⟩
        go_wp2_with fail
        exact ret_ttc (T := 39) rfl rfl rfl ((hF.set 0 (.int .i64 4)).set 1 (.int .i64 7)) agg_fault size_fault ⟨rfl, bel_set (p := ⟨w.heap.size, 1, none⟩) (bel_set (p := ⟨w.heap.size, 0, none⟩) hbel (Nat.le_refl _) _) (Nat.le_refl _) _⟩
      | q0 hi h4 h5 h6 h6' h7 y =>
        have l4 : 4 < s.size := cAt_lt (by omega)
        have g4 : (s[4].toNat : Int) = 45 := by rw [← cAt_get s 4 l4]; exact h4
        have t4 : decide ((s.size : Int) > 4) = true := decide_eq_true (by omega)
        have n77 := fun w => rdg_no hs (q := 5) (by omega) (lo := 77) (hi := 77) (by omega) (by omega) w
        have y81 := fun w => rdg_yes hs (q := 5) (lo := 81) (hi := 81) (by omega) (by omega) (by omega) w
        have d6 := fun w => rdg_yes hs (q := 6) (lo := 49) (hi := 52) (by omega) h6 h6' w
        have l6 : 6 < s.size := cAt_lt (by omega)
        have e6 := cAt_get s 6 l6
        have b6 : 48 ≤ (s[6].toNat : Int) ∧ (s[6].toNat : Int) ≤ 57 := by rw [← e6]; first | exact h6 | omega
        have t8 : decide ((s.size : Int) > 7) = false := decide_eq_false (by omega)
        clear hi h4 h5 h6 h6' e6
        generalize yr s 4 = yy at *
        subst y
        go_wp2_with fail
        refine (n77 _).mono ?_
        rintro e w1 ⟨rfl, rfl⟩
        go_wp2_with fail
        refine (y81 _).mono ?_
        rintro e w1 ⟨rfl, rfl⟩
        go_wp2_with fail
        refine (d6 _).mono ?_
        rintro e w1 ⟨rfl, rfl⟩
        go_wp2_with fail
        exact ret_ttc (T := 39) rfl rfl rfl ((hF.set 0 (.int .i64 5)).set 1 (.int .i64 0)) agg_fault size_fault ⟨rfl, bel_set (p := ⟨w.heap.size, 1, none⟩) (bel_set (p := ⟨w.heap.size, 0, none⟩) hbel (Nat.le_refl _) _) (Nat.le_refl _) _⟩
      | q1 hi h4 h5 h6 h6' h7 y1 =>
        have l4 : 4 < s.size := cAt_lt (by omega)
        have g4 : (s[4].toNat : Int) = 45 := by rw [← cAt_get s 4 l4]; exact h4
        have t4 : decide ((s.size : Int) > 4) = true := decide_eq_true (by omega)
        have n77 := fun w => rdg_no hs (q := 5) (by omega) (lo := 77) (hi := 77) (by omega) (by omega) w
        have y81 := fun w => rdg_yes hs (q := 5) (lo := 81) (hi := 81) (by omega) (by omega) (by omega) w
        have d6 := fun w => rdg_yes hs (q := 6) (lo := 49) (hi := 52) (by omega) h6 h6' w
        have l6 : 6 < s.size := cAt_lt (by omega)
        have e6 := cAt_get s 6 l6
        have b6 : 48 ≤ (s[6].toNat : Int) ∧ (s[6].toNat : Int) ≤ 57 := by rw [← e6]; first | exact h6 | omega
        have t8 : decide ((s.size : Int) > 7) = false := decide_eq_false (by omega)
        rw [e6] at h6 h6' ⊢
        have y0 : (yr s 4 == 0) = false := by simp; omega
        have E6 := Lib.hid e6
        clear hi h4 h5 e6
        go_wp2_with fail
        refine (n77 _).mono ?_
        rintro e w1 ⟨rfl, rfl⟩
        go_wp2_with fail
        refine (y81 _).mono ?_
        rintro e w1 ⟨rfl, rfl⟩
        go_wp2_with fail
        refine (d6 _).mono ?_
        rintro e w1 ⟨rfl, rfl⟩
        go_wp2_with fail
        go_region_held3 (fun _ => True) (trivial) (first | (go_at_call 60; refine (months_is (.inr (.inl ⟨rfl, rfl⟩)) _).mono ?_; rintro e w1 ⟨rfl, rfl⟩))
        all_goals
          go_wp2_with fail
          refine ret_ttc (T := 39) rfl rfl rfl ((hF.set 0 (.int .i64 0)).set 1 (.int .i64 0)) agg_fault size_fault ⟨?_, (bel_set (p := ⟨w.heap.size, 1, none⟩) (bel_set (p := ⟨w.heap.size, 0, none⟩) hbel (Nat.le_refl _) _) (Nat.le_refl _) _).drew⟩
          refine (congrArg (fun z => Ending.returned (pV 2 z 0 0)) (fin_q (yr s 4) ((s[6].toNat : Int) - 48 - 1) (by omega) (by omega))).trans ?_
          exact congrArg (fun z => Ending.returned (pV 2 z 0 0)) (by have e6' := E6.out; omega)
      | h6 hi h4 h5 h6 =>
        have l4 : 4 < s.size := cAt_lt (by omega)
        have g4 : (s[4].toNat : Int) = 45 := by rw [← cAt_get s 4 l4]; exact h4
        have t4 : decide ((s.size : Int) > 4) = true := decide_eq_true (by omega)
        have n77 := fun w => rdg_no hs (q := 5) (by omega) (lo := 77) (hi := 77) (by omega) (by omega) w
        have n81 := fun w => rdg_no hs (q := 5) (by omega) (lo := 81) (hi := 81) (by omega) (by omega) w
        have y72 := fun w => rdg_yes hs (q := 5) (lo := 72) (hi := 72) (by omega) (by omega) (by omega) w
        have d6 := fun w => rdg_no hs (q := 6) (by omega) (lo := 49) (hi := 50) (by omega) h6 w
        clear hi h4 h5 h6
        go_wp2_with fail
        refine (n77 _).mono ?_
        rintro e w1 ⟨rfl, rfl⟩
        go_wp2_with fail
        refine (n81 _).mono ?_
        rintro e w1 ⟨rfl, rfl⟩
        go_wp2_with fail
        refine (y72 _).mono ?_
        rintro e w1 ⟨rfl, rfl⟩
        go_wp2_with fail
        refine (d6 _).mono ?_
        rintro e w1 ⟨rfl, rfl⟩
        go_wp2_with fail
        exact ret_ttc (T := 39) rfl rfl rfl ((hF.set 0 (.int .i64 4)).set 1 (.int .i64 6)) agg_fault size_fault ⟨rfl, bel_set (p := ⟨w.heap.size, 1, none⟩) (bel_set (p := ⟨w.heap.size, 0, none⟩) hbel (Nat.le_refl _) _) (Nat.le_refl _) _⟩
      | h7 hi h4 h5 h6 h6' h7 =>
        have l4 : 4 < s.size := cAt_lt (by omega)
        have g4 : (s[4].toNat : Int) = 45 := by rw [← cAt_get s 4 l4]; exact h4
        have t4 : decide ((s.size : Int) > 4) = true := decide_eq_true (by omega)
        have n77 := fun w => rdg_no hs (q := 5) (by omega) (lo := 77) (hi := 77) (by omega) (by omega) w
        have n81 := fun w => rdg_no hs (q := 5) (by omega) (lo := 81) (hi := 81) (by omega) (by omega) w
        have y72 := fun w => rdg_yes hs (q := 5) (lo := 72) (hi := 72) (by omega) (by omega) (by omega) w
        have d6 := fun w => rdg_yes hs (q := 6) (lo := 49) (hi := 50) (by omega) h6 h6' w
        have l6 : 6 < s.size := cAt_lt (by omega)
        have e6 := cAt_get s 6 l6
        have b6 : 48 ≤ (s[6].toNat : Int) ∧ (s[6].toNat : Int) ≤ 57 := by rw [← e6]; first | exact h6 | omega
        have t8 : decide ((s.size : Int) > 7) = true := decide_eq_true (by omega)
        clear hi h4 h5 h6 h6' e6
        go_wp2_with fail
        refine (n77 _).mono ?_
        rintro e w1 ⟨rfl, rfl⟩
        go_wp2_with fail
        refine (n81 _).mono ?_
        rintro e w1 ⟨rfl, rfl⟩
        go_wp2_with fail
        refine (y72 _).mono ?_
        rintro e w1 ⟨rfl, rfl⟩
        go_wp2_with fail
        refine (d6 _).mono ?_
        rintro e w1 ⟨rfl, rfl⟩
        go_wp2_with fail
        exact ret_ttc (T := 39) rfl rfl rfl ((hF.set 0 (.int .i64 4)).set 1 (.int .i64 7)) agg_fault size_fault ⟨rfl, bel_set (p := ⟨w.heap.size, 1, none⟩) (bel_set (p := ⟨w.heap.size, 0, none⟩) hbel (Nat.le_refl _) _) (Nat.le_refl _) _⟩
      | h0 hi h4 h5 h6 h6' h7 y =>
        have l4 : 4 < s.size := cAt_lt (by omega)
        have g4 : (s[4].toNat : Int) = 45 := by rw [← cAt_get s 4 l4]; exact h4
        have t4 : decide ((s.size : Int) > 4) = true := decide_eq_true (by omega)
        have n77 := fun w => rdg_no hs (q := 5) (by omega) (lo := 77) (hi := 77) (by omega) (by omega) w
        have n81 := fun w => rdg_no hs (q := 5) (by omega) (lo := 81) (hi := 81) (by omega) (by omega) w
        have y72 := fun w => rdg_yes hs (q := 5) (lo := 72) (hi := 72) (by omega) (by omega) (by omega) w
        have d6 := fun w => rdg_yes hs (q := 6) (lo := 49) (hi := 50) (by omega) h6 h6' w
        have l6 : 6 < s.size := cAt_lt (by omega)
        have e6 := cAt_get s 6 l6
        have b6 : 48 ≤ (s[6].toNat : Int) ∧ (s[6].toNat : Int) ≤ 57 := by rw [← e6]; first | exact h6 | omega
        have t8 : decide ((s.size : Int) > 7) = false := decide_eq_false (by omega)
        clear hi h4 h5 h6 h6' e6
        generalize yr s 4 = yy at *
        subst y
        go_wp2_with fail
        refine (n77 _).mono ?_
        rintro e w1 ⟨rfl, rfl⟩
        go_wp2_with fail
        refine (n81 _).mono ?_
        rintro e w1 ⟨rfl, rfl⟩
        go_wp2_with fail
        refine (y72 _).mono ?_
        rintro e w1 ⟨rfl, rfl⟩
        go_wp2_with fail
        refine (d6 _).mono ?_
        rintro e w1 ⟨rfl, rfl⟩
        go_wp2_with fail
        exact ret_ttc (T := 39) rfl rfl rfl ((hF.set 0 (.int .i64 5)).set 1 (.int .i64 0)) agg_fault size_fault ⟨rfl, bel_set (p := ⟨w.heap.size, 1, none⟩) (bel_set (p := ⟨w.heap.size, 0, none⟩) hbel (Nat.le_refl _) _) (Nat.le_refl _) _⟩
      | h1 hi h4 h5 h6 h6' h7 y1 =>
        have l4 : 4 < s.size := cAt_lt (by omega)
        have g4 : (s[4].toNat : Int) = 45 := by rw [← cAt_get s 4 l4]; exact h4
        have t4 : decide ((s.size : Int) > 4) = true := decide_eq_true (by omega)
        have n77 := fun w => rdg_no hs (q := 5) (by omega) (lo := 77) (hi := 77) (by omega) (by omega) w
        have n81 := fun w => rdg_no hs (q := 5) (by omega) (lo := 81) (hi := 81) (by omega) (by omega) w
        have y72 := fun w => rdg_yes hs (q := 5) (lo := 72) (hi := 72) (by omega) (by omega) (by omega) w
        have d6 := fun w => rdg_yes hs (q := 6) (lo := 49) (hi := 50) (by omega) h6 h6' w
        have l6 : 6 < s.size := cAt_lt (by omega)
        have e6 := cAt_get s 6 l6
        have b6 : 48 ≤ (s[6].toNat : Int) ∧ (s[6].toNat : Int) ≤ 57 := by rw [← e6]; first | exact h6 | omega
        have t8 : decide ((s.size : Int) > 7) = false := decide_eq_false (by omega)
        rw [e6] at h6 h6' ⊢
        have y0 : (yr s 4 == 0) = false := by simp; omega
        have E6 := Lib.hid e6
        clear hi h4 h5 e6
        go_wp2_with fail
        refine (n77 _).mono ?_
        rintro e w1 ⟨rfl, rfl⟩
        go_wp2_with fail
        refine (n81 _).mono ?_
        rintro e w1 ⟨rfl, rfl⟩
        go_wp2_with fail
        refine (y72 _).mono ?_
        rintro e w1 ⟨rfl, rfl⟩
        go_wp2_with fail
        refine (d6 _).mono ?_
        rintro e w1 ⟨rfl, rfl⟩
        go_wp2_with fail
        go_region_held3 (fun _ => True) (trivial) (first | (go_at_call 60; refine (months_is (.inr (.inr (.inl ⟨rfl, rfl⟩))) _).mono ?_; rintro e w1 ⟨rfl, rfl⟩))
        all_goals
          go_wp2_with fail
          refine ret_ttc (T := 39) rfl rfl rfl ((hF.set 0 (.int .i64 0)).set 1 (.int .i64 0)) agg_fault size_fault ⟨?_, (bel_set (p := ⟨w.heap.size, 1, none⟩) (bel_set (p := ⟨w.heap.size, 0, none⟩) hbel (Nat.le_refl _) _) (Nat.le_refl _) _).drew⟩
          refine (congrArg (fun z => Ending.returned (pV 3 z 0 0)) (fin_h (yr s 4) ((s[6].toNat : Int) - 48 - 1) (by omega) (by omega))).trans ?_
          exact congrArg (fun z => Ending.returned (pV 3 z 0 0)) (by have e6' := E6.out; omega)
end Go.Proofs.Ytdjkdfgifajilaa
