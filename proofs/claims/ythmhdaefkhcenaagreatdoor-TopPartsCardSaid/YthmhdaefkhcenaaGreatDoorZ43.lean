/- Lemmas for it; no condition: TRet TOrd2 TEnt TEnt2. -/
import Derived.Test.YthmhdaefkhcenaaGreatDoorZ08
import Derived.Test.YthmhdaefkhcenaaGreatDoorZ13
import Derived.Test.YthmhdaefkhcenaaGreatDoorZ35
import Derived.Test.YthmhdaefkhcenaaGreatDoorZ42
set_option linter.unusedVariables false
set_option linter.unusedSimpArgs false
namespace Go.Proofs.YthmhdaefkhcenaaGreatDoor
set_option maxRecDepth 100000
set_option maxHeartbeats 8000000
open Go.RowKit Go.Lib

theorem even_mono {p q : Nat} (c : Nat) (h : p ≤ q) : evenF p c ≤ evenF q c := by
  have hd : p / c ≤ q / c := Nat.div_le_div_right h
  have hp := Nat.div_add_mod p c
  have hq := Nat.div_add_mod q c
  have l1 := even_le p c
  have g2 : q / c ≤ evenF q c := by unfold evenF; split <;> omega
  rcases Nat.lt_or_ge (p / c) (q / c) with hlt | hge
  · omega
  · have e : p / c = q / c := by omega
    rw [e] at hp
    have hm : p % c ≤ q % c := by omega
    unfold evenF
    rw [e]
    split
    · rename_i h1
      rw [if_pos]
      · omega
      · have hlt : ∀ x : Nat, 0 < c → x % c < c := fun x hc => Nat.mod_lt _ hc
        rcases Nat.eq_zero_or_pos c with rfl | hc
        · simp at h1 hm ⊢; omega
        · rcases h1 with h1 | ⟨h1, h2⟩
          · left; omega
          · rcases Nat.lt_or_ge (p % c) (q % c) with h3 | h3
            · left; omega
            · right; exact ⟨by omega, h2⟩
    · split <;> omega
theorem even_exact (a n : Nat) (hn : 0 < n) : evenF (n * a) n = a := by
  unfold evenF
  rw [Nat.mul_mod_right, Nat.mul_div_cancel_left a hn]
  rw [if_neg]
  omega
theorem even_zero (n : Nat) (hn : 0 < n) : evenF 0 n = 0 := by
  have := even_exact 0 n hn
  simpa using this
def backF (t n b a : Nat) : Nat := evenF (t * a) n - evenF (t * b) n
theorem back_cast (t n b a : Nat) (h : b ≤ a) : ((evenF (t * a) n : Nat) : Int) - (evenF (t * b) n : Nat) = (backF t n b a : Nat) := by
  have := even_mono n (Nat.mul_le_mul_left t h)
  unfold backF
  omega
theorem back_self (n b a : Nat) (hn : 0 < n) : backF n n b a = a - b := by unfold backF; rw [even_exact a n hn, even_exact b n hn]
theorem back_any (t n b a : Nat) (ht : t ≤ 1073741824) (hn0 : 0 < n) (hn : n ≤ 1073741824) (hb : b ≤ a) (ha : a ≤ n) (w : World) : Calls Tryz.prog 213 #[.int .i64 t, .int .i64 n, .int .i64 b, .int .i64 a] w fun e w' => e = .returned (.tuple #[.int .i64 (backF t n b a : Nat), .int .i64 0]) ∧ Below w.heap.size w w' := by
  have m1 : t * a < 4611686018427387904 := Nat.lt_of_le_of_lt (Nat.mul_le_mul ht (Nat.le_trans ha hn)) (by decide)
  have m2 : t * b < 4611686018427387904 := Nat.lt_of_le_of_lt (Nat.mul_le_mul ht (Nat.le_trans hb (Nat.le_trans ha hn))) (by decide)
  have he1 := fun w => even_any t a n m1 (by omega) (by omega) hn0 (by omega) w
  have he2 := fun w => even_any t b n m2 (by omega) (by omega) hn0 (by omega) w
  have l1 : evenF (t * a) n ≤ t * a / n + 1 := even_le _ _
  have l2 : evenF (t * b) n ≤ t * b / n + 1 := even_le _ _
  have d1 : t * a / n ≤ t * a := Nat.div_le_self _ _
  have d2 : t * b / n ≤ t * b := Nat.div_le_self _ _
  have hc := Lib.hid (back_cast t n b a hb)
  have e1 : evenF (t * a) n ≤ 4611686018427387904 := by omega
  have e2 : evenF (t * b) n ≤ 4611686018427387904 := by omega
  generalize evenF (t * a) n = x at *
  generalize evenF (t * b) n = y at *
  clear l1 l2 d1 d2 m1 m2
  have q1 : ¬ (t : Int) < 0 := by omega
  have q2 : (t : Int) ≤ 4611686018427387904 := by omega
  have q3 : ¬ (n : Int) < 0 := by omega
  have q4 : (n : Int) ≤ 4611686018427387904 := by omega
  have q5 : ¬ (b : Int) < 0 := by omega
  have q6 : ¬ (a : Int) < b := by omega
  have q7 : ¬ (n : Int) < a := by omega
  have q8 : ((n : Int) == 0) = false := by simp; omega
  go_enter Tryz.func213, Tryz.ntmps213
  go_wp2_with (go_at_call 197; go_in)
  refine (he1 _).mono ?_
  rintro e w1 ⟨rfl, rfl⟩
  go_wp2_with fail
  refine (he2 _).mono ?_
  rintro e w1 ⟨rfl, rfl⟩
  go_wp2_with fail
  go_returns
  exact ⟨by rw [← hc.out]; first | rfl | (simp [wrap64]; omega), by exact sBel⟩
theorem return_tl (t n r b a : Nat) (ht : t ≤ 1073741824) (hn0 : 0 < n) (hn : n ≤ 1073741824) (hr : r ≤ 1000000) (hb : b ≤ a) (ha : a ≤ n) (w : World) : Calls Tryz.prog 157 #[.agg (tlV n r t).toArray, .int .i64 b, .int .i64 a] w fun e w' => e = .returned (.tuple #[.agg (tlV (a - b) r (backF t n b a)).toArray, .int .i64 0]) ∧ Below w.heap.size w w' := by
  have q1 : ((a - b : Nat) : Int) = (a : Int) - b := by omega
  have hq := Lib.hid q1
  clear q1
  have hs := back_self n b a hn0
  have hb1 := fun w => back_any n n b a hn hn0 hn hb ha w
  rw [hs] at hb1
  have hb2 := fun w => back_any t n b a ht hn0 hn hb ha w
  clear hs
  generalize backF t n b a = y at *
  generalize hd : a - b = d at *
  have hd2 := Lib.hid hd
  clear hd
  go_enter Tryz.func157, Tryz.ntmps157
  simp only [tlV]
  go_wp2_with fail
  refine at_world (fun W => Below w.heap.size w W ∧ Block W w.heap.size 52 [.int .i64 0, .int .i64 7, .int .i64 n, .int .i64 0, .int .i64 r, .int .i64 t] ∧ Block W (w.heap.size + 1) 52 [.int .i64 0, .int .i64 0, .int .i64 0, .int .i64 0, .int .i64 0, .int .i64 0]) ⟨by exact sBel, by exact sBlk, by exact sBlk⟩ ?_
  rintro w0 ⟨bel0, X0, Y0⟩
  refine (one_tl n r t (by omega) hr (by omega) w0).mono ?_
  rintro e w1 ⟨rfl, hb3⟩
  have bel1 := bel_call bel0 hb3
  have X1 := X0.call hb3
  have Y1 := Y0.call hb3
  have Xp := X1
  obtain ⟨xl, xf, x0, x1, x2, x3, x4, x5⟩ := Xp.c6
  go_wp2_with fail
  refine (hb1 w1).mono ?_
  rintro e w2 ⟨rfl, hb4⟩
  have bel2 := bel_call bel1 hb4
  have X2 := X1.call hb4
  have Y2 := Y1.call hb4
  clear x0 x1 x2 x3 x4 x5 xl xf Xp
  have Xp := X2
  obtain ⟨xl, xf, x0, x1, x2, x3, x4, x5⟩ := Xp.c6
  go_wp2_with fail
  refine (hb2 w2).mono ?_
  rintro e w3 ⟨rfl, hb5⟩
  have bel3 := bel_call bel2 hb5
  have X3 := X2.call hb5
  have Y3 := Y2.call hb5
  clear x0 x1 x2 x3 x4 x5 xl xf Xp
  have Xp := X3
  obtain ⟨xl, xf, x0, x1, x2, x3, x4, x5⟩ := Xp.c6
  have hdd : (a : Int) - b - d = 0 := by have := hq.out; omega
  go_upto_region 9 with (fail)
  refine at_code (fun W => Below w.heap.size w W ∧ Block W w.heap.size 52 (tlV d r y) ∧ Block W (w.heap.size + 1) 52 [.int .i64 0, .int .i64 0, .int .i64 0, .int .i64 0, .int .i64 0, .int .i64 0]) ⟨by exact sBel, ((X3.set 5 _).set 2 _).set 3 _, ((Y3.far (by simp) _).far (by simp) _).far (by simp) _⟩ ?_
  clear x0 x1 x2 x3 x4 x5 xl xf Xp X3 Y3 bel3 hdd
  rintro w4 ⟨bel4, X4, Y4⟩
  have X5 := X4
  unfold Block at X5
  have Y5 := Y4
  unfold Block at Y5
  go_step
  refine wpList_load_row rfl _ _ rfl w.heap.size rfl _ _ (0, 0) _ X5 Tryz.underlying52 rfl rfl ?_
  refine wpList_store_row rfl _ _ _ rfl (w.heap.size + 1) _ rfl rfl _ _ Y5 rfl rfl (by simp [tlV, Value.oneCell']) ?_
  have U5 : Block (w4.setRow (w.heap.size + 1) (tlV d r y).toArray) (w.heap.size + 1) 52 (tlV d r y) := setRow_heap _ _ _ _ _ _ Y5
  repeat go_step
  exact ret_ct (T := 52) rfl rfl rfl U5 agg_tl size_tl ⟨rfl, below_setRow bel4 (Nat.le_succ _) _⟩
end Go.Proofs.YthmhdaefkhcenaaGreatDoor
namespace Go.Proofs.YthmhdaefkhcenaaGreatDoor
set_option maxRecDepth 100000
set_option maxHeartbeats 8000000
open Go.RowKit Go.Lib

theorem at_next (R : Nat) (A : Option Addr) (c : Nat) (xs l : List Int) (B : Nat) (w : World) (h : RdL w R A c xs l B) : Calls Tryz.prog 125 #[.pointer (some ⟨R, 0, none⟩)] w fun e w' => ∃ k : Nat, xs.drop k = bytesOf l ∧ e = .returned (.int .i64 k) ∧ w' = w := by
  obtain ⟨k, fa, hR, hd⟩ := h.rd
  exact (at_made R A xs.length c k 0 fa w hR).mono fun e w' ⟨h1, h2⟩ => ⟨k, hd, h1, h2.symm⟩
theorem fine_o (R : Nat) (A : Option Addr) (c : Nat) (xs l : List Int) (B : Nat) (w : World) (h : RdL w R A c xs l B) : Calls Tryz.prog 231 #[.pointer (some ⟨R, 0, none⟩)] w fun e w' => e = .returned (.bool true) ∧ Below w.heap.size w w' := by
  obtain ⟨k, fa, hR, hd⟩ := h.rd
  have hfl : ∀ w, (Instr.field 194 (.agg #[.int .i64 0, .int .i64 fa]) 0).run Tryz.prog w = .ok (.int .i64 0) w := fun _ => by kernel_rfl
  go_enter Tryz.func231, Tryz.ntmps231
  go_wp2_with fail
  refine (rfault_made R A xs.length c k 0 fa w hR).mono ?_
  rintro e w1 ⟨rfl, hb1⟩
  go_wp2_with fail
  go_returns
  exact ⟨by first | rfl | simp, hb1⟩
theorem read_tl (R m : Nat) (A : Option Addr) (c : Nat) (xs l : List Int) (n r t B : Nat) (w : World) (hn : n ≤ 4611686018427387904) (hr : r ≤ 1000000) (ht : t ≤ 4611686018427387904) (h : RdL w R A c xs (0 :: 7 :: n :: 0 :: r :: t :: l) B) (hM : MapAt w m [] 0) (hmR : m ≠ R) (hBm : B ≤ m) :
    Calls Tryz.prog 166 #[.pointer (some ⟨R, 0, none⟩), .map (some m), .int .i64 0] w fun e w' => ∃ fa : Int, e = .returned (.tuple #[.agg (tlV n r t).toArray, .agg #[.int .i64 0, .int .i64 fa]]) ∧ RdL w' R A c xs l B ∧ Kept [R, m] w w' := by
  have hRl := h.lt
  have hml := hM.lt
  have hBR := h.le
  have q1 : (n : Int) ≤ 4611686018427387904 := by omega
  have q2 : ¬ (4611686018427387904 : Int) - n < 0 := by omega
  go_enter Tryz.func166, Tryz.ntmps166
  go_upto_region 3 with (fail)
  refine at_code (fun W => Below w.heap.size w W ∧ Block W w.heap.size 52 [.int .i64 0, .int .i64 0, .int .i64 0, .int .i64 0, .int .i64 0, .int .i64 0] ∧ Block W (w.heap.size + 1) 194 [.int .i64 0, .int .i64 0] ∧ Block W (w.heap.size + 2) 52 [.int .i64 0, .int .i64 0, .int .i64 0, .int .i64 0, .int .i64 0, .int .i64 0]) ⟨by exact sBel, by exact sBlk, by exact sBlk, by exact sBlk⟩ ?_
  rintro w0 ⟨bel0, U0, V0, X0⟩
  have h0 := h.call bel0
  have M0 := hM.call bel0
  have K0 : Kept [R, m] w w0 := Kept.of_below bel0
  clear h hM bel0
  obtain ⟨g, hg⟩ : ∃ g, w.heap.size = g := ⟨_, rfl⟩
  rw [hg] at U0 V0 X0 hRl hml ⊢
  obtain ⟨xl, xf, x0, x1, x2, x3, x4, x5⟩ := X0.c6
  go_wp2_with fail
  refine (at_next R A c xs (0 :: 7 :: n :: 0 :: r :: t :: l) B _ h0).mono ?_
  rintro e w' ⟨kk, -, rfl, rfl⟩
  go_wp2_with fail
  refine (int_next R A c xs (7 :: n :: 0 :: r :: t :: l) 0 _ _ B _ h0 (i64r _) (by omega) (by omega)).mono ?_
  rintro e w1' ⟨rfl, h1, G⟩
  have K1 := K0.grown G (by simp)
  have X1 := X0.grown G (by simp; omega)
  have U1 := U0.grown G (by simp; omega)
  have V1 := V0.grown G (by simp; omega)
  have M1 := M0.grown G (by simpa using hmR)
  clear x0 x1 x2 x3 x4 x5 xl xf h0 K0 X0 U0 V0 M0 G
  have Xp := X1
  obtain ⟨xl, xf, x0, x1, x2, x3, x4, x5⟩ := Xp.c6
  go_upto_region 5 with (fail)
  refine at_code (fun W => RdL W R A c xs (7 :: n :: 0 :: r :: t :: l) B ∧ Kept [R, m] w W ∧ Block W (g + 2) 52 [.int .i64 0, .int .i64 0, .int .i64 0, .int .i64 0, .int .i64 0, .int .i64 0] ∧ Block W g 52 [.int .i64 0, .int .i64 0, .int .i64 0, .int .i64 0, .int .i64 0, .int .i64 0] ∧ Block W (g + 1) 194 [.int .i64 0, .int .i64 0] ∧ MapAt W m [] 0)
    ⟨h1.far (by omega) (by omega) _, K1.set (.inr (by simp; omega)) _, X1.set 0 _, U1.far (by show g ≠ g + 2; omega) _, V1.far (by show g + 1 ≠ g + 2; omega) _, M1.set _ _⟩ ?_
  clear x0 x1 x2 x3 x4 x5 xl xf Xp h1 K1 X1 U1 V1 M1
  rintro w1 ⟨h1, K1, X1, U1, V1, M1⟩
  obtain ⟨xl, xf, x0, x1, x2, x3, x4, x5⟩ := X1.c6
  go_wp2_with fail
  refine (fine_o R A c xs (7 :: n :: 0 :: r :: t :: l) B _ h1).mono ?_
  rintro e w2 ⟨rfl, hb⟩
  have h2 := h1.call hb
  have K2 := K1.behind hb
  have X2 := X1.call hb
  have U2 := U1.call hb
  have V2 := V1.call hb
  have M2 := M1.call hb
  clear x0 x1 x2 x3 x4 x5 xl xf h1 K1 X1 U1 V1 M1 hb
  obtain ⟨xl, xf, x0, x1, x2, x3, x4, x5⟩ := X2.c6
  go_wp2_with fail
  refine (at_next R A c xs (7 :: n :: 0 :: r :: t :: l) B _ h2).mono ?_
  rintro e w' ⟨kk, -, rfl, rfl⟩
  go_wp2_with fail
  refine (int_next R A c xs (n :: 0 :: r :: t :: l) 7 _ _ B _ h2 (i64r _) (by omega) (by omega)).mono ?_
  rintro e w3' ⟨rfl, h3, G⟩
  have K3 := K2.grown G (by simp)
  have X3 := X2.grown G (by simp; omega)
  have U3 := U2.grown G (by simp; omega)
  have V3 := V2.grown G (by simp; omega)
  have M3 := M2.grown G (by simpa using hmR)
  clear x0 x1 x2 x3 x4 x5 xl xf h2 K2 X2 U2 V2 M2 G
  have Xp := X3
  obtain ⟨xl, xf, x0, x1, x2, x3, x4, x5⟩ := Xp.c6
  go_upto_region 9 with (fail)
  refine at_code (fun W => RdL W R A c xs (n :: 0 :: r :: t :: l) B ∧ Kept [R, m] w W ∧ Block W (g + 2) 52 [.int .i64 0, .int .i64 7, .int .i64 0, .int .i64 0, .int .i64 0, .int .i64 0] ∧ Block W g 52 [.int .i64 0, .int .i64 0, .int .i64 0, .int .i64 0, .int .i64 0, .int .i64 0] ∧ Block W (g + 1) 194 [.int .i64 0, .int .i64 0] ∧ MapAt W m [] 0)
    ⟨h3.far (by omega) (by omega) _, K3.set (.inr (by simp; omega)) _, X3.set 1 _, U3.far (by show g ≠ g + 2; omega) _, V3.far (by show g + 1 ≠ g + 2; omega) _, M3.set _ _⟩ ?_
  clear x0 x1 x2 x3 x4 x5 xl xf Xp h3 K3 X3 U3 V3 M3
  rintro w3 ⟨h3, K3, X3, U3, V3, M3⟩
  obtain ⟨xl, xf, x0, x1, x2, x3, x4, x5⟩ := X3.c6
  go_wp2_with fail
  refine (fine_o R A c xs (n :: 0 :: r :: t :: l) B _ h3).mono ?_
  rintro e w4 ⟨rfl, hb⟩
  have h4 := h3.call hb
  have K4 := K3.behind hb
  have X4 := X3.call hb
  have U4 := U3.call hb
  have V4 := V3.call hb
  have M4 := M3.call hb
  clear x0 x1 x2 x3 x4 x5 xl xf h3 K3 X3 U3 V3 M3 hb
  obtain ⟨xl, xf, x0, x1, x2, x3, x4, x5⟩ := X4.c6
  go_wp2_with fail
  refine (twice_first m _ M4).mono ?_
  rintro e w5 ⟨rfl, KM⟩
  have h5 := h4.keptX KM (by simpa using fun e => hmR e.symm) (by simpa using hBm)
  have K5 := K4.trans KM (by simp)
  have X5 := X4.keptX KM (by simp; omega)
  have U5 := U4.keptX KM (by simp; omega)
  have V5 := V4.keptX KM (by simp; omega)
  clear x0 x1 x2 x3 x4 x5 xl xf h4 K4 X4 U4 V4 M4 KM
  obtain ⟨xl, xf, x0, x1, x2, x3, x4, x5⟩ := X5.c6
  go_wp2_with fail
  refine (int_next R A c xs (0 :: r :: t :: l) n _ _ B _ h5 (i64r _) (by omega) (by omega)).mono ?_
  rintro e w6' ⟨rfl, h6, G⟩
  have K6 := K5.grown G (by simp)
  have X6 := X5.grown G (by simp; omega)
  have U6 := U5.grown G (by simp; omega)
  have V6 := V5.grown G (by simp; omega)
  clear x0 x1 x2 x3 x4 x5 xl xf h5 K5 X5 U5 V5 G
  have Xp := X6
  obtain ⟨xl, xf, x0, x1, x2, x3, x4, x5⟩ := Xp.c6
  go_upto_region 12 with (fail)
  refine at_code (fun W => RdL W R A c xs (0 :: r :: t :: l) B ∧ Kept [R, m] w W ∧ Block W (g + 2) 52 [.int .i64 0, .int .i64 7, .int .i64 n, .int .i64 0, .int .i64 0, .int .i64 0] ∧ Block W g 52 [.int .i64 0, .int .i64 0, .int .i64 0, .int .i64 0, .int .i64 0, .int .i64 0] ∧ Block W (g + 1) 194 [.int .i64 0, .int .i64 0])
    ⟨h6.far (by omega) (by omega) _, K6.set (.inr (by simp; omega)) _, X6.set 2 _, U6.far (by show g ≠ g + 2; omega) _, V6.far (by show g + 1 ≠ g + 2; omega) _⟩ ?_
  clear x0 x1 x2 x3 x4 x5 xl xf Xp h6 K6 X6 U6 V6
  rintro w6 ⟨h6, K6, X6, U6, V6⟩
  obtain ⟨xl, xf, x0, x1, x2, x3, x4, x5⟩ := X6.c6
  go_wp2_with fail
  refine (at_next R A c xs (0 :: r :: t :: l) B _ h6).mono ?_
  rintro e w' ⟨kk, -, rfl, rfl⟩
  go_wp2_with fail
  refine (int_next R A c xs (r :: t :: l) 0 _ _ B _ h6 (i64r _) (by omega) (by omega)).mono ?_
  rintro e w7' ⟨rfl, h7, G⟩
  have K7 := K6.grown G (by simp)
  have X7 := X6.grown G (by simp; omega)
  have U7 := U6.grown G (by simp; omega)
  have V7 := V6.grown G (by simp; omega)
  clear x0 x1 x2 x3 x4 x5 xl xf h6 K6 X6 U6 V6 G
  have Xp := X7
  obtain ⟨xl, xf, x0, x1, x2, x3, x4, x5⟩ := Xp.c6
  go_upto_region 14 with (fail)
  refine at_code (fun W => RdL W R A c xs (r :: t :: l) B ∧ Kept [R, m] w W ∧ Block W (g + 2) 52 [.int .i64 0, .int .i64 7, .int .i64 n, .int .i64 0, .int .i64 0, .int .i64 0] ∧ Block W g 52 [.int .i64 0, .int .i64 0, .int .i64 0, .int .i64 0, .int .i64 0, .int .i64 0] ∧ Block W (g + 1) 194 [.int .i64 0, .int .i64 0])
    ⟨h7.far (by omega) (by omega) _, K7.set (.inr (by simp; omega)) _, X7.set 3 _, U7.far (by show g ≠ g + 2; omega) _, V7.far (by show g + 1 ≠ g + 2; omega) _⟩ ?_
  clear x0 x1 x2 x3 x4 x5 xl xf Xp h7 K7 X7 U7 V7
  rintro w7 ⟨h7, K7, X7, U7, V7⟩
  obtain ⟨xl, xf, x0, x1, x2, x3, x4, x5⟩ := X7.c6
  go_wp2_with fail
  refine (fine_o R A c xs (r :: t :: l) B _ h7).mono ?_
  rintro e w8 ⟨rfl, hb⟩
  have h8 := h7.call hb
  have K8 := K7.behind hb
  have X8 := X7.call hb
  have U8 := U7.call hb
  have V8 := V7.call hb
  clear x0 x1 x2 x3 x4 x5 xl xf h7 K7 X7 U7 V7 hb
  obtain ⟨xl, xf, x0, x1, x2, x3, x4, x5⟩ := X8.c6
  go_wp2_with fail
  refine (int_next R A c xs (t :: l) r _ _ B _ h8 (i64r _) (by omega) (by omega)).mono ?_
  rintro e w9' ⟨rfl, h9, G⟩
  have K9 := K8.grown G (by simp)
  have X9 := X8.grown G (by simp; omega)
  have U9 := U8.grown G (by simp; omega)
  have V9 := V8.grown G (by simp; omega)
  clear x0 x1 x2 x3 x4 x5 xl xf h8 K8 X8 U8 V8 G
  have Xp := X9
  obtain ⟨xl, xf, x0, x1, x2, x3, x4, x5⟩ := Xp.c6
  go_upto_region 17 with (fail)
  refine at_code (fun W => RdL W R A c xs (t :: l) B ∧ Kept [R, m] w W ∧ Block W (g + 2) 52 [.int .i64 0, .int .i64 7, .int .i64 n, .int .i64 0, .int .i64 r, .int .i64 0] ∧ Block W g 52 [.int .i64 0, .int .i64 0, .int .i64 0, .int .i64 0, .int .i64 0, .int .i64 0] ∧ Block W (g + 1) 194 [.int .i64 0, .int .i64 0])
    ⟨h9.far (by omega) (by omega) _, K9.set (.inr (by simp; omega)) _, X9.set 4 _, U9.far (by show g ≠ g + 2; omega) _, V9.far (by show g + 1 ≠ g + 2; omega) _⟩ ?_
  clear x0 x1 x2 x3 x4 x5 xl xf Xp h9 K9 X9 U9 V9
  rintro w9 ⟨h9, K9, X9, U9, V9⟩
  obtain ⟨xl, xf, x0, x1, x2, x3, x4, x5⟩ := X9.c6
  go_wp2_with fail
  refine (int_next R A c xs (l) t _ _ B _ h9 (i64r _) (by omega) (by omega)).mono ?_
  rintro e w10' ⟨rfl, h10, G⟩
  have K10 := K9.grown G (by simp)
  have X10 := X9.grown G (by simp; omega)
  have U10 := U9.grown G (by simp; omega)
  have V10 := V9.grown G (by simp; omega)
  clear x0 x1 x2 x3 x4 x5 xl xf h9 K9 X9 U9 V9 G
  have Xp := X10
  obtain ⟨xl, xf, x0, x1, x2, x3, x4, x5⟩ := Xp.c6
  go_upto_region 18 with (fail)
  refine at_code (fun W => RdL W R A c xs (l) B ∧ Kept [R, m] w W ∧ Block W (g + 2) 52 [.int .i64 0, .int .i64 7, .int .i64 n, .int .i64 0, .int .i64 r, .int .i64 t] ∧ Block W g 52 [.int .i64 0, .int .i64 0, .int .i64 0, .int .i64 0, .int .i64 0, .int .i64 0] ∧ Block W (g + 1) 194 [.int .i64 0, .int .i64 0])
    ⟨h10.far (by omega) (by omega) _, K10.set (.inr (by simp; omega)) _, X10.set 5 _, U10.far (by show g ≠ g + 2; omega) _, V10.far (by show g + 1 ≠ g + 2; omega) _⟩ ?_
  clear x0 x1 x2 x3 x4 x5 xl xf Xp h10 K10 X10 U10 V10
  rintro w10 ⟨h10, K10, X10, U10, V10⟩
  obtain ⟨xl, xf, x0, x1, x2, x3, x4, x5⟩ := X10.c6
  obtain ⟨k, fa, hR, hd⟩ := h10.rd
  refine AnyBut.region (S := fun w' => w'.cell? ⟨g + 2, 0, none⟩ = some (.int .i64 0) ∧ w'.cell? ⟨g + 2, 1, none⟩ = some (.int .i64 7) ∧ w'.cell? ⟨g + 2, 2, none⟩ = some (.int .i64 n) ∧ w'.cell? ⟨g + 2, 3, none⟩ = some (.int .i64 0) ∧ w'.cell? ⟨g + 2, 4, none⟩ = some (.int .i64 r) ∧ w'.cell? ⟨g + 2, 5, none⟩ = some (.int .i64 t)) (t := 99) 5 rfl (by kernel_rfl) ?_ ?_
  · refine ⟨?_, ?_, ?_, ?_, ?_, ?_⟩ <;> go_simp
  intro hS
  refine AnyBut.tk0 0 hS rfl (h := ?_); refine AnyBut.tk0 1 hS rfl (h := ?_)
  refine AnyBut.one (i := 2) rfl (by kernel_rfl) rfl ?_; intro K hK
  go_wp2_with fail
  refine (rfault_made R A xs.length c k 0 fa _ (Block.drew hR)).mono ?_
  rintro e w' ⟨rfl, hb⟩
  have bb : Below w10.heap.size w10 w' := bel_call (by exact sBel) hb
  have h' := h10.call bb
  have K' := K10.behind bb
  have Xp := X10.call bb
  have Up := U10.call bb
  have Vp := V10.call bb
  clear x0 x1 x2 x3 x4 x5 xl xf h10 K10 X10 U10 V10 hb bb
  obtain ⟨xl, xf, x0, x1, x2, x3, x4, x5⟩ := Xp.c6
  obtain ⟨ul, uf, u0, u1, u2, u3, u4, u5⟩ := Up.c6
  obtain ⟨vl, vf, v0, v1⟩ := Vp.c2
  refine hK _ _ ?_ ?_ <;> clear hK K; rotate_left; intro hS; rotate_left
  · refine ⟨?_, ?_, ?_, ?_, ?_, ?_⟩ <;> go_simp
  refine AnyBut.one (i := 3) rfl (by kernel_rfl) rfl ?_; intro K hK; go_simp; refine hK _ _ ?_ ?_ <;> clear hK K; rotate_left; intro hS; rotate_left
  · refine ⟨?_, ?_, ?_, ?_, ?_, ?_⟩ <;> go_simp
  refine AnyBut.one (i := 4) rfl (by kernel_rfl) rfl ?_; intro K hK; go_simp; refine hK _ _ ?_ ?_ <;> clear hK K; rotate_left; intro hS; rotate_left
  · refine ⟨?_, ?_, ?_, ?_, ?_, ?_⟩ <;> go_simp
  refine AnyBut.done (by kernel_rfl) ?_
  go_wp2_with fail
  refine ret_ccS (b := g) (b2 := g + 1) (cs := tlV n r t) (cs2 := [.int .i64 0, .int .i64 fa]) rfl rfl rfl rfl (by unfold tlV; exact sCls) (sCls) agg_tl size_tl agg_fault size_fault ?_
  refine ⟨fa, rfl, ?_, ?_⟩
  · repeat' (first | (with_reducible assumption) | (with_reducible refine RdL.far ?_ (by omega) (by omega) _))
  · repeat' (first | (with_reducible assumption) | (with_reducible refine Kept.drew ?_) | (with_reducible refine Kept.set ?_ (.inr (by simp; omega)) _))
theorem readtax_any (n r t : Nat) (hn : n ≤ 4611686018427387904) (hr : r ≤ 1000000) (ht : t ≤ 4611686018427387904) (A : Option Addr) (c B : Nat) (w : World) (hs : Shows w B 1 A (bytesOf (tlL n r t)).length (U8 (bytesOf (tlL n r t)))) (hB : B ≤ w.heap.size) :
    Calls Tryz.prog 124 #[.slice A (bytesOf (tlL n r t)).length c] w fun e w' => ∃ g c', e = .returned (.tuple #[.slice (some ⟨g, 0, none⟩) 1 c', .agg #[.int .i64 0, .int .i64 0]]) ∧ 1 ≤ c' ∧ w.heap.size ≤ g ∧ Has w' g (tlV n r t) ∧ Below w.heap.size w w' := by
  have hmm := @run_makeMap Tryz.prog
  have hlen := bytesOf_short (tlL n r t) (by intro x hx; simp [tlL] at hx; unfold I64r; omega)
  have hby := bytesOf_byte (tlL n r t)
  have hlen : (bytesOf (tlL n r t)).length ≤ 70 := hlen
  obtain ⟨xs, hxs⟩ : ∃ xs, bytesOf (tlL n r t) = xs := ⟨_, rfl⟩
  have hxs2 := Lib.hid hxs
  rw [hxs] at hs hlen hby ⊢
  clear hxs
  go_enter Tryz.func124, Tryz.ntmps124
  go_wp2_with fail
  refine (new_any A xs.length c xs B _ (hs.alloc hB _) (by simp; omega) (by omega)).mono ?_
  rintro e w1 ⟨R, A1, c1, rfl, hR1, hs1, hc1, hRz, hb1⟩
  have bel1 : Below w.heap.size w w1 := bel_call (by exact sBel) hb1
  have F1 : Block w1 w.heap.size 194 [.int .i64 0, .int .i64 0] := Block.call (by exact sBlk) hb1
  have zR := Block.lt hR1
  simp at hRz
  clear hb1
  go_wp2_with fail
  have r1 : RdL w1 R A1 c1 xs (tlL n r t) R := ⟨⟨0, 0, hR1, by rw [← hxs2.out]; rfl⟩, hs1, Nat.le_refl _, hc1, by omega, hby⟩
  refine (count_next R A1 c1 xs [0, 7, n, 0, r, t] 1 6400 R _ (r1.call (by exact sBel)) (i64r _) (by omega) (by omega)).mono ?_
  rintro e w2 ⟨rfl, h2, G2⟩
  have M2 : MapAt w2 w1.heap.size [] 0 := MapAt.grown (by exact sMapf) G2 (by simp; omega)
  have F2 : Block w2 w.heap.size 194 [.int .i64 0, .int .i64 0] := Block.grown (by exact sBlk) G2 (by simp; omega)
  have K2 : Kept [R] w1 w2 := Kept.grown (Kept.of_below (by exact sBel)) G2 (by simp)
  have z2 := h2.lt
  have z2m := M2.lt
  clear r1 G2 F1
  go_wp2_with fail
  refine wp_loop_rounds 2 ?_
  rw [rounds_succ]
  go_wp2_with fail
  refine (read_tl R w1.heap.size A1 c1 xs [] n r t R w2 hn hr ht h2 M2 (by omega) (by omega)).mono ?_
  rintro e w3 ⟨fa, rfl, h3, K3⟩
  have F3 : Block w3 w.heap.size 194 [.int .i64 0, .int .i64 0] := F2.keptX K3 (by simp; omega)
  have K23 : Kept [R, w1.heap.size] w1 w3 := (K2.mono (by simp)).next K3
  have z3 := K3.size
  clear F2 K3 K2 h2 M2
  simp only [tlV]
  go_wp2_with (at_builtin; refine wpList_append_nil rfl _ _ 41 rfl 52 _ 6 48 Tryz.underlying41 info_tl rfl (w3.heap.size + 1 + 1) 0 1 1 (tlV n r t) rfl rfl rfl (by intro j v hj; rw [Nat.zero_add]; exact (Block.cell (btop (cs := tlV n r t) (by simp)) j).trans hj) (by omega) (by unfold maxLen; omega) (by omega) ?_; intro J k hJ hk)
  rw [rounds_succ]
  go_wp2_with fail
  refine at_world (fun W => Below w3.heap.size w3 W ∧ Has W (w3.heap.size + 1 + 1 + 1) (tlV n r t)) ⟨by exact sBel, (has_top (news := tlV n r t) (by simp)).drew⟩ ?_
  rintro w4 ⟨bel4, H4⟩
  obtain ⟨kk, fb, hR4, hk4⟩ := rd_end (h3.call bel4)
  refine (end_made R A1 xs.length c1 kk 0 fb w4 hR4 (e1 := 0) (e2 := fb) (by unfold rdE; simp; omega)).mono ?_
  rintro e w5 ⟨rfl, hb5⟩
  have z4 := H4.lt
  have z4' := bel4.size
  have z1 := bel1.size
  have F5 : Block w5 w.heap.size 194 [.int .i64 0, .int .i64 0] := (F3.call bel4).call hb5
  have H5 := H4.call hb5
  have bel5 : Below w.heap.size w w5 := (bel1.trans ((K23.mono (Y := [R, w1.heap.size]) (by simp)).below (B := w.heap.size) (by simp; omega) z1)).trans ((bel_call bel4 hb5).mono (by omega))
  go_upto_region 18 with (fail)
  refine at_code (fun W => Below w.heap.size w W ∧ Block W w.heap.size 194 [.int .i64 0, .int .i64 0] ∧ Has W (w3.heap.size + 1 + 1 + 1) (tlV n r t)) ⟨bel5.trans ((show Below w5.heap.size w5 _ from by exact sBel).mono bel5.size), by exact sBlk, by exact sHas⟩ ?_
  clear F5 H5 bel5
  rintro w6 ⟨bel6, F6, H6⟩
  obtain ⟨fl, ff, f0, f1⟩ := F6.c2
  go_wp2_with fail
  refine ret_tcS rfl rfl rfl (T := 194) (b := w.heap.size) (cs := [.int .i64 0, .int .i64 0]) (sCls) agg_fault size_fault ?_
  refine ⟨w3.heap.size + 1 + 1 + 1, 1 + k, rfl, by omega, by omega, (H6.far (by show w3.heap.size + 1 + 1 + 1 ≠ w.heap.size; omega) _).far (by show w3.heap.size + 1 + 1 + 1 ≠ w.heap.size; omega) _, by exact sBel⟩
end Go.Proofs.YthmhdaefkhcenaaGreatDoor
namespace Go.Proofs.YthmhdaefkhcenaaGreatDoor
set_option maxRecDepth 100000
set_option maxHeartbeats 8000000
open Go.RowKit Go.Lib

def saleC (id day : Int) (ab ac tb tc : Nat) : List Value := [.int .i64 1, .int .i64 id, .int .i64 0, .int .i64 day, .slice (some ⟨ab, 0, none⟩) 1 ac, .slice (some ⟨tb, 0, none⟩) 1 tc]
def refC (id of day : Int) (ab ac : Nat) : List Value := [.int .i64 2, .int .i64 id, .int .i64 of, .int .i64 day, .slice (some ⟨ab, 0, none⟩) 1 ac, .slice none 0 0]
theorem agg_ent (w : World) : (isAgg 88).run Tryz.prog w = .ok true w := by kernel_rfl
theorem size_ent (w : World) : (sizeOf 88).run Tryz.prog w = .ok 6 w := by kernel_rfl
theorem of_sale (id day : Int) (ab ac tb tc : Nat) (w : World) : Calls Tryz.prog 101 #[.agg (saleC id day ab ac tb tc).toArray] w fun e w' => e = .returned (.iface 224 (.agg (saleC id day ab ac tb tc).toArray)) ∧ Below w.heap.size w w' := by
  go_enter Tryz.func101, Tryz.ntmps101
  simp only [saleC]
  go_wp2
  go_returns
  exact ⟨rfl, by exact sBel⟩
theorem of_ref (id of day : Int) (ab ac : Nat) (w : World) : Calls Tryz.prog 101 #[.agg (refC id of day ab ac).toArray] w fun e w' => e = .returned (.iface 217 (.agg (refC id of day ab ac).toArray)) ∧ Below w.heap.size w w' := by
  go_enter Tryz.func101, Tryz.ntmps101
  simp only [refC]
  go_wp2
  go_returns
  exact ⟨rfl, by exact sBel⟩
theorem fine_sale (id day : Int) (ab ac tb tc n r t : Nat) (hn : n ≤ 4611686018427387904) (hr : r ≤ 1000000) (ht : t ≤ 4611686018427387904) (w : World) (hA : Has w ab [.int .i64 n]) (hT : Has w tb (tlV n r t)) :
    Calls Tryz.prog 530 #[.agg (saleC id day ab ac tb tc).toArray] w fun e w' => e = .returned (.bool true) ∧ Below w.heap.size w w' := by
  go_enter Tryz.func530, Tryz.ntmps530
  simp only [saleC]
  go_wp2_with fail
  refine (check_tl tb tc n r t hn hr ht _ (hT.call (by exact sBel))).mono ?_
  rintro e w1 ⟨rfl, hb1⟩
  have bel1 : Below w.heap.size w w1 := bel_call (by exact sBel) hb1
  have X1 : Block w1 w.heap.size 224 [.int .i64 1, .int .i64 id, .int .i64 0, .int .i64 day, .slice (some ⟨ab, 0, none⟩) 1 ac, .slice (some ⟨tb, 0, none⟩) 1 tc] := by exact sBlk
  have A1 := hA.call bel1
  have T1 := hT.call bel1
  unfold tlV at T1
  obtain ⟨xl, xf, x0, x1, x2, x3, x4, x5⟩ := X1.c6
  have al := A1.lt; have a0 := A1.cell (j := 0) rfl
  have tl := T1.lt; have t0 := T1.cell (j := 0) rfl; have t1 := T1.cell (j := 1) rfl; have t2 := T1.cell (j := 2) rfl; have t3 := T1.cell (j := 3) rfl; have t4 := T1.cell (j := 4) rfl; have t5 := T1.cell (j := 5) rfl
  clear hb1
  go_wp2
  (repeat (first | (rw [rounds_succ]; go_wp2) | (refine wp_loop_rounds 2 ?_; rw [rounds_succ]; go_wp2) | (go_quiet (fail); go_wp2)))
  exact ret_t rfl rfl rfl ⟨rfl, by exact sBel⟩
theorem fine_ref (id of day : Int) (ab ac n : Nat) (hof : of ≠ 0) (hn0 : n ≠ 0) (w : World) (hA : Has w ab [.int .i64 n]) :
    Calls Tryz.prog 527 #[.agg (refC id of day ab ac).toArray] w fun e w' => e = .returned (.bool true) ∧ Below w.heap.size w w' := by
  have al := hA.lt; have a0 := hA.cell (j := 0) rfl
  have q1 : ((n : Int) == 0) = false := by simpa using hn0
  have q2 : ((n : Int) != 0) = true := by simpa using hn0
  have q3 : (of == 0) = false := by simpa using hof
  have q4 : (of != 0) = true := by simpa using hof
  go_enter Tryz.func527, Tryz.ntmps527
  simp only [refC]
  go_wp2
  (repeat (first | (rw [rounds_succ]; go_wp2) | (refine wp_loop_rounds 2 ?_; rw [rounds_succ]; go_wp2) | (go_quiet (fail); go_wp2)))
  exact ret_t rfl rfl rfl ⟨rfl, by exact sBel⟩
theorem check_sale (id day : Int) (ab ac tb tc n r t : Nat) (hid0 : 1 ≤ id) (hid1 : id ≤ 1099511627775) (hd0 : 0 ≤ day) (hd1 : day ≤ 3652058) (hn : n ≤ 4611686018427387904) (hr : r ≤ 1000000) (ht : t ≤ 4611686018427387904) (w : World) (hA : Has w ab [.int .i64 n]) (hT : Has w tb (tlV n r t)) :
    Calls Tryz.prog 100 #[.agg (saleC id day ab ac tb tc).toArray] w fun e w' => e = .returned (.int .i64 0) ∧ Below w.heap.size w w' := by
  have al := hA.lt; have a0 := hA.cell (j := 0) rfl
  have q1 : ¬ id < 1 := by omega
  have q2 : ¬ day < 0 := by omega
  have q3 : ¬ (n : Int) < 0 := by omega
  have q4 : (n : Int) ≤ 4611686018427387904 := by omega
  go_enter Tryz.func100, Tryz.ntmps100
  simp only [saleC]
  go_wp2_with (go_at_call 150; go_in)
  refine wp_loop_rounds 2 ?_
  rw [rounds_succ]
  go_wp2_with (go_at_call 150; go_in)
  rw [rounds_succ]
  go_wp2_with fail
  refine (of_sale id day ab ac tb tc _).mono ?_
  rintro e w1 ⟨rfl, hb1⟩
  have bel1 : Below w.heap.size w w1 := bel_call (by exact sBel) hb1
  simp only [saleC]
  go_wp2_with fail
  refine (fine_sale id day ab ac tb tc n r t hn hr ht _ (hA.call bel1) (hT.call bel1)).mono ?_
  rintro e w2 ⟨rfl, hb2⟩
  go_wp2_with fail
  go_returns
  exact ⟨rfl, bel_call bel1 hb2⟩
theorem check_ref (id of day : Int) (ab ac n : Nat) (hid0 : 1 ≤ id) (hid1 : id ≤ 1099511627775) (hof0 : 1 ≤ of) (hof1 : of ≤ 1099511627775) (hd0 : 0 ≤ day) (hd1 : day ≤ 3652058) (hn0 : n ≠ 0) (hn : n ≤ 4611686018427387904) (w : World) (hA : Has w ab [.int .i64 n]) :
    Calls Tryz.prog 100 #[.agg (refC id of day ab ac).toArray] w fun e w' => e = .returned (.int .i64 0) ∧ Below w.heap.size w w' := by
  have al := hA.lt; have a0 := hA.cell (j := 0) rfl
  have q1 : ¬ id < 1 := by omega
  have q2 : ¬ day < 0 := by omega
  have q3 : ¬ (n : Int) < 0 := by omega
  have q4 : (n : Int) ≤ 4611686018427387904 := by omega
  have q5 : ¬ of < 0 := by omega
  go_enter Tryz.func100, Tryz.ntmps100
  simp only [refC]
  go_wp2_with (go_at_call 150; go_in)
  refine wp_loop_rounds 2 ?_
  rw [rounds_succ]
  go_wp2_with (go_at_call 150; go_in)
  rw [rounds_succ]
  go_wp2_with fail
  refine (of_ref id of day ab ac _).mono ?_
  rintro e w1 ⟨rfl, hb1⟩
  have bel1 : Below w.heap.size w w1 := bel_call (by exact sBel) hb1
  simp only [refC]
  go_wp2_with fail
  refine (fine_ref id of day ab ac n (by omega) hn0 _ (hA.call bel1)).mono ?_
  rintro e w2 ⟨rfl, hb2⟩
  go_wp2_with fail
  go_returns
  exact ⟨rfl, bel_call bel1 hb2⟩
end Go.Proofs.YthmhdaefkhcenaaGreatDoor
namespace Go.Proofs.YthmhdaefkhcenaaGreatDoor
set_option maxRecDepth 100000
set_option maxHeartbeats 8000000
open Go.RowKit Go.Lib

def saleL (id day : Int) (n r t : Nat) : List Int := [1, id, 0, day, 1, n] ++ tlL n r t
def refL (id of day : Int) (n : Nat) : List Int := [2, id, of, day, 1, n]
theorem bytes_sale (id day : Int) (ab ac tb tc n r t : Nat) (hid0 : 1 ≤ id) (hid1 : id ≤ 1099511627775) (hd0 : 0 ≤ day) (hd1 : day ≤ 3652058) (hn : n ≤ 4611686018427387904) (hr : r ≤ 1000000) (ht : t ≤ 4611686018427387904) (w : World) (hA : Has w ab [.int .i64 n]) (hT : Has w tb (tlV n r t)) : Calls Tryz.prog 50 #[.agg (saleC id day ab ac tb tc).toArray] w fun e w' =>
    ∃ A c', e = .returned (.tuple #[.slice A (bytesOf (saleL id day n r t)).length c', .int .i64 0]) ∧ w'.ownsRow w.heap.size 5 1 (.slice A (bytesOf (saleL id day n r t)).length c') (bytesOf (saleL id day n r t)).length (U8 (bytesOf (saleL id day n r t))) ∧ Below w.heap.size w w' := by
  obtain ⟨i0, hi, hz0, hz1, hz2⟩ := info_parts infoU8
  have hl : ∀ x ∈ [1, id, 0, day, 1, (n : Int)], I64r x := by intro x hx; simp at hx; unfold I64r; omega
  go_enter Tryz.func50, Tryz.ntmps50
  simp only [saleC]
  go_wp2_with fail
  refine (check_sale id day ab ac tb tc n r t hid0 hid1 hd0 hd1 hn hr ht _ (hA.call (by exact sBel)) (hT.call (by exact sBel))).mono ?_
  rintro e w1 ⟨rfl, hb1⟩
  have bel1 : Below w.heap.size w w1 := bel_call (by exact sBel) hb1
  have X1 : Block w1 w.heap.size 88 [.int .i64 1, .int .i64 id, .int .i64 0, .int .i64 day, .slice (some ⟨ab, 0, none⟩) 1 ac, .slice (some ⟨tb, 0, none⟩) 1 tc] := by exact sBlk
  have A1 := hA.call bel1
  have X2 := X1
  obtain ⟨xl, xf, x0, x1, x2, x3, x4, x5⟩ := X2.c6
  have al := A1.lt; have a0 := A1.cell (j := 0) rfl
  clear hb1
  go_wp2_with (at_builtin; refine wpList_append_over rfl _ _ 22 rfl 3 _ 1 8 Tryz.underlying22 info_int rfl w1.heap.size 0 5 5 [.int .i64 1, .int .i64 id, .int .i64 0, .int .i64 day, .int .i64 1] ab 0 1 ac [.int .i64 n] rfl rfl rfl (by intro j v hj; rw [Nat.zero_add]; exact (Block.cell (btop (cs := [.int .i64 1, .int .i64 id, .int .i64 0, .int .i64 day, .int .i64 1]) rfl) j).trans hj) rfl (by intro j v hj; rw [Nat.zero_add]; exact (Has.alloc A1 _).cell hj) (by omega) (by unfold maxLen; omega) (by omega) ?_; intro J k hJ hk)
  refine at_code (fun W => Below w.heap.size w W ∧ Block W w.heap.size 88 [.int .i64 1, .int .i64 id, .int .i64 0, .int .i64 day, .slice (some ⟨ab, 0, none⟩) 1 ac, .slice (some ⟨tb, 0, none⟩) 1 tc] ∧ Has W (w1.heap.size + 1) [.int .i64 1, .int .i64 id, .int .i64 0, .int .i64 day, .int .i64 1, .int .i64 n]) ⟨by exact sBel, by exact sBlk, (has_top (news := [.int .i64 1, .int .i64 id, .int .i64 0, .int .i64 day, .int .i64 1, .int .i64 n]) (by simp)).drew⟩ ?_
  clear x0 x1 x2 x3 x4 x5 xl xf X2 a0 al A1
  generalize w1.heap.size + 1 = g
  rintro W ⟨bel, X, HL⟩
  have HL0 : Has W g (I64 [1, id, 0, day, 1, (n : Int)]) := HL
  clear HL
  have hLn : ([1, id, 0, day, 1, (n : Int)]).length = 6 := rfl
  obtain ⟨l, hlq⟩ : ∃ l, l = [1, id, 0, day, 1, (n : Int)] := ⟨_, rfl⟩
  rw [← hlq] at HL0 hLn hl
  have hlQ := Lib.hid hlq
  clear hlq
  go_loopw [31, 5] (fun i v wr => ∃ (j m c' : Nat) (A : Option Addr), j ≤ 6 ∧ i = .int .i64 j ∧ v = .slice A m c' ∧ m = (bytesOf (l.take j)).length ∧ wr.ownsRow W.heap.size 5 1 v m (U8 (bytesOf (l.take j))) ∧ Below W.heap.size W wr) (fun i _ _ => 6 - (intOf i).toNat)
  case atStart => exact ⟨0, 0, 0, none, by omega, rfl, rfl, rfl, own_nil, Below.refl _ _⟩
  case round =>
    obtain ⟨j, m, c', A, hj, rfl, rfl, hm, hO, hb⟩ := hrel
    have hlen := bytesOf_len hl j (by rw [List.length_take]; omega)
    rw [← hm] at hlen
    have hm2 := Lib.hid hm
    have hbw : Below w.heap.size w wr := bel_call bel hb
    by_cases hjn : j < 6
    · have hjl : j < l.length := by omega
      have q0 : (0 : Int) ≤ j := by omega
      have q1 : (j : Int) < 6 := by omega
      have k0 : wr.cell? ⟨g, j, none⟩ = some (.int .i64 l[j]) := (HL0.call hb).cell (by simp [I64, hjl])
      have hx := hl _ (List.getElem_mem hjl)
      have hp := Oct.putN_len10 (Oct.zig_lt l[j] hx.1 hx.2)
      have ht := Lib.hid (bytesOf_take hjl)
      clear hm hLn
      generalize l[j] = x at *
      go_wp2_with fail
      refine (putF_any x wr hx.1 hx.2).mono ?_
      rintro e w1 ⟨A2, c2, rfl, hF, hb1⟩
      have S1 := Shows.of_own hF.owns
      have O1 := own_below hO hb1
      have bel1 : Below w.heap.size w w1 := bel_call hbw hb1
      have bw1 : Below W.heap.size W w1 := bel_call hb hb1
      go_wp2_with (at_builtin; refine wpList_append_shows _ rfl _ _ 71 rfl W.heap.size 5 i0 (.int .u8 0) 1 1 Tryz.underlying71 hi hz0 hz1 hz2 rfl (by decide) (.slice A m c') m (U8 (bytesOf (l.take j))) rfl O1 _ A2 _ c2 (U8 (Oct.putN (Oct.zig x))) rfl S1 (nums_one .u8 _) (by unfold maxLen; omega) (by omega) bw1.size ?_; intro A3 c3 w3 O3 G3)
      go_roundw
      case rel =>
        refine ⟨j + 1, _, c3, A3, by omega, by simp, rfl, ?_, ?_, ?_⟩
        · rw [ht.out, List.length_append, hm2.out]
        · rw [ht.out]; simpa [U8] using O3
        · exact bw1.grown G3 bw1.size (fun k hk => (O1.lt k hk).1)
      case measure => simp [intOf]; omega
    · obtain rfl : j = 6 := by omega
      have htk : l.take 6 = l := by rw [← hLn]; exact List.take_length
      rw [htk] at hO
      have hm3 := Lib.hid (hm2.out.trans (by rw [htk]))
      clear hm hm2 htk
      have X3 := X.call hb
      obtain ⟨xl, xf, x0, x1, x2, x3, x4, x5⟩ := X3.c6
      have hs2 := bytesOf_short (tlL n r t) (by intro x hx; simp [tlL] at hx; unfold I64r; omega)
      have hs3 : (bytesOf (tlL n r t)).length ≤ 70 := hs2
      go_wp2_with fail
      refine (bytes_tl tb tc n r t hn hr ht wr (hT.call hbw)).mono ?_
      rintro e w2 ⟨A2, c2, rfl, O2, hb2⟩
      have S2 := Shows.of_own O2
      have O1 := own_below hO hb2
      have bel2 : Below w.heap.size w w2 := bel_call hbw hb2
      go_wp2_with (at_builtin; refine wpList_append_shows _ rfl _ _ 71 rfl W.heap.size 5 i0 (.int .u8 0) 1 1 Tryz.underlying71 hi hz0 hz1 hz2 rfl (by decide) (.slice A m c') m (U8 (bytesOf l)) rfl O1 _ A2 _ c2 (U8 (bytesOf (tlL n r t))) rfl S2 (nums_one .u8 _) (by unfold maxLen; omega) (by omega) (bel_call hb hb2).size ?_; intro A3 c3 w3 O3 G3)
      go_returns
      have e1 : bytesOf (saleL id day n r t) = bytesOf l ++ bytesOf (tlL n r t) := by unfold saleL; rw [bytesOf_append, ← hlQ.out]
      have e2 : (bytesOf (saleL id day n r t)).length = m + (bytesOf (tlL n r t)).length := by rw [e1, List.length_append, hm3.out]
      rw [e2, e1]
      exact ⟨A3, c3, rfl, own_base (by simpa [U8] using O3) bel.size, bel2.grown G3 bel2.size (fun k hk => by have := (O1.lt k hk).1; have := bel.size; omega)⟩
theorem bytes_ref (id of day : Int) (ab ac n : Nat) (hid0 : 1 ≤ id) (hid1 : id ≤ 1099511627775) (hof0 : 1 ≤ of) (hof1 : of ≤ 1099511627775) (hd0 : 0 ≤ day) (hd1 : day ≤ 3652058) (hn0 : n ≠ 0) (hn : n ≤ 4611686018427387904) (w : World) (hA : Has w ab [.int .i64 n]) : Calls Tryz.prog 50 #[.agg (refC id of day ab ac).toArray] w fun e w' =>
    ∃ A c', e = .returned (.tuple #[.slice A (bytesOf (refL id of day n)).length c', .int .i64 0]) ∧ w'.ownsRow w.heap.size 5 1 (.slice A (bytesOf (refL id of day n)).length c') (bytesOf (refL id of day n)).length (U8 (bytesOf (refL id of day n))) ∧ Below w.heap.size w w' := by
  obtain ⟨i0, hi, hz0, hz1, hz2⟩ := info_parts infoU8
  have hl : ∀ x ∈ [2, id, of, day, 1, (n : Int)], I64r x := by intro x hx; simp at hx; unfold I64r; omega
  go_enter Tryz.func50, Tryz.ntmps50
  simp only [refC]
  go_wp2_with fail
  refine (check_ref id of day ab ac n hid0 hid1 hof0 hof1 hd0 hd1 hn0 hn _ (hA.call (by exact sBel))).mono ?_
  rintro e w1 ⟨rfl, hb1⟩
  have bel1 : Below w.heap.size w w1 := bel_call (by exact sBel) hb1
  have X1 : Block w1 w.heap.size 88 [.int .i64 2, .int .i64 id, .int .i64 of, .int .i64 day, .slice (some ⟨ab, 0, none⟩) 1 ac, .slice none 0 0] := by exact sBlk
  have A1 := hA.call bel1
  have X2 := X1
  obtain ⟨xl, xf, x0, x1, x2, x3, x4, x5⟩ := X2.c6
  have al := A1.lt; have a0 := A1.cell (j := 0) rfl
  clear hb1
  go_wp2_with (at_builtin; refine wpList_append_over rfl _ _ 22 rfl 3 _ 1 8 Tryz.underlying22 info_int rfl w1.heap.size 0 5 5 [.int .i64 2, .int .i64 id, .int .i64 of, .int .i64 day, .int .i64 1] ab 0 1 ac [.int .i64 n] rfl rfl rfl (by intro j v hj; rw [Nat.zero_add]; exact (Block.cell (btop (cs := [.int .i64 2, .int .i64 id, .int .i64 of, .int .i64 day, .int .i64 1]) rfl) j).trans hj) rfl (by intro j v hj; rw [Nat.zero_add]; exact (Has.alloc A1 _).cell hj) (by omega) (by unfold maxLen; omega) (by omega) ?_; intro J k hJ hk)
  refine at_code (fun W => Below w.heap.size w W ∧ Block W w.heap.size 88 [.int .i64 2, .int .i64 id, .int .i64 of, .int .i64 day, .slice (some ⟨ab, 0, none⟩) 1 ac, .slice none 0 0] ∧ Has W (w1.heap.size + 1) [.int .i64 2, .int .i64 id, .int .i64 of, .int .i64 day, .int .i64 1, .int .i64 n]) ⟨by exact sBel, by exact sBlk, (has_top (news := [.int .i64 2, .int .i64 id, .int .i64 of, .int .i64 day, .int .i64 1, .int .i64 n]) (by simp)).drew⟩ ?_
  clear x0 x1 x2 x3 x4 x5 xl xf X2 a0 al A1
  generalize w1.heap.size + 1 = g
  rintro W ⟨bel, X, HL⟩
  have HL0 : Has W g (I64 [2, id, of, day, 1, (n : Int)]) := HL
  clear HL
  have hLn : ([2, id, of, day, 1, (n : Int)]).length = 6 := rfl
  obtain ⟨l, hlq⟩ : ∃ l, l = [2, id, of, day, 1, (n : Int)] := ⟨_, rfl⟩
  rw [← hlq] at HL0 hLn hl
  have hlQ := Lib.hid hlq
  clear hlq
  go_loopw [31, 5] (fun i v wr => ∃ (j m c' : Nat) (A : Option Addr), j ≤ 6 ∧ i = .int .i64 j ∧ v = .slice A m c' ∧ m = (bytesOf (l.take j)).length ∧ wr.ownsRow W.heap.size 5 1 v m (U8 (bytesOf (l.take j))) ∧ Below W.heap.size W wr) (fun i _ _ => 6 - (intOf i).toNat)
  case atStart => exact ⟨0, 0, 0, none, by omega, rfl, rfl, rfl, own_nil, Below.refl _ _⟩
  case round =>
    obtain ⟨j, m, c', A, hj, rfl, rfl, hm, hO, hb⟩ := hrel
    have hlen := bytesOf_len hl j (by rw [List.length_take]; omega)
    rw [← hm] at hlen
    have hm2 := Lib.hid hm
    have hbw : Below w.heap.size w wr := bel_call bel hb
    by_cases hjn : j < 6
    · have hjl : j < l.length := by omega
      have q0 : (0 : Int) ≤ j := by omega
      have q1 : (j : Int) < 6 := by omega
      have k0 : wr.cell? ⟨g, j, none⟩ = some (.int .i64 l[j]) := (HL0.call hb).cell (by simp [I64, hjl])
      have hx := hl _ (List.getElem_mem hjl)
      have hp := Oct.putN_len10 (Oct.zig_lt l[j] hx.1 hx.2)
      have ht := Lib.hid (bytesOf_take hjl)
      clear hm hLn
      generalize l[j] = x at *
      go_wp2_with fail
      refine (putF_any x wr hx.1 hx.2).mono ?_
      rintro e w1 ⟨A2, c2, rfl, hF, hb1⟩
      have S1 := Shows.of_own hF.owns
      have O1 := own_below hO hb1
      have bel1 : Below w.heap.size w w1 := bel_call hbw hb1
      have bw1 : Below W.heap.size W w1 := bel_call hb hb1
      go_wp2_with (at_builtin; refine wpList_append_shows _ rfl _ _ 71 rfl W.heap.size 5 i0 (.int .u8 0) 1 1 Tryz.underlying71 hi hz0 hz1 hz2 rfl (by decide) (.slice A m c') m (U8 (bytesOf (l.take j))) rfl O1 _ A2 _ c2 (U8 (Oct.putN (Oct.zig x))) rfl S1 (nums_one .u8 _) (by unfold maxLen; omega) (by omega) bw1.size ?_; intro A3 c3 w3 O3 G3)
      go_roundw
      case rel =>
        refine ⟨j + 1, _, c3, A3, by omega, by simp, rfl, ?_, ?_, ?_⟩
        · rw [ht.out, List.length_append, hm2.out]
        · rw [ht.out]; simpa [U8] using O3
        · exact bw1.grown G3 bw1.size (fun k hk => (O1.lt k hk).1)
      case measure => simp [intOf]; omega
    · obtain rfl : j = 6 := by omega
      have htk : l.take 6 = l := by rw [← hLn]; exact List.take_length
      rw [htk] at hO
      have hm3 := Lib.hid (hm2.out.trans (by rw [htk]))
      clear hm hm2 htk
      have X3 := X.call hb
      obtain ⟨xl, xf, x0, x1, x2, x3, x4, x5⟩ := X3.c6
      go_wp2_with fail
      go_returns
      have e1 : bytesOf (refL id of day n) = bytesOf l := by unfold refL; rw [← hlQ.out]
      have e2 : (bytesOf (refL id of day n)).length = m := by rw [e1, hm3.out]
      rw [e2, e1]
      exact ⟨A, c', rfl, own_base hO bel.size, hbw⟩
end Go.Proofs.YthmhdaefkhcenaaGreatDoor
