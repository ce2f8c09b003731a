/- The walks of name.String for the longer kinds, of period.Text. -/
import Derived.Test.YtdjkdfgifajilaaSpText
namespace Go.Proofs.Ytdjkdfgifajilaa
open Go.RowKit Go.Lib

theorem str_tail (a : Nat) : (strOfNums (Civ.digL 2 a)).extract 1 2 = strOfNums (Civ.digL 1 a) := by
  rw [Civ.digL_two]
  apply ByteArray.ext
  simp [strOfNums, Civ.digL]
set_option maxRecDepth 100000 in
set_option maxHeartbeats 4000000 in
theorem name_quarter {p : Int} {y a : Nat} (h0 : 0 ≤ p) (hp : p * 3 < 119988) (hy : p * 3 / 12 + 1 = y) (ha : p * 3 % 12 / 3 + 1 = a) (w : World) :
    Calls Try.prog 53 #[.agg #[.int .i64 2, .int .i64 p]] w fun e w' => e = .returned (.string (strOfNums (pText 2 y a))) ∧ Below w.heap.size w w' := by
  have hl := fun w => span_is (k := 2) (n := 3) (p := p) (.inr (.inl ⟨rfl, rfl⟩)) h0 hp w
  have hq : 0 ≤ p * 3 := by omega
  have q0 : ∀ w : World, Calls Try.prog 61 #[.int .i64 ((p * 3 / 12 + 1) / 100)] w fun e w' => e = .returned (.string (strOfNums (Civ.digL 2 (y / 100)))) ∧ Below w.heap.size w w' := fun w => by rw [hy]; exact pTwo_any (y / 100) w (by omega)
  have q1 : ∀ w : World, Calls Try.prog 61 #[.int .i64 (p * 3 / 12 + 1)] w fun e w' => e = .returned (.string (strOfNums (Civ.digL 2 y))) ∧ Below w.heap.size w w' := fun w => by rw [hy]; exact pTwo_any y w (by omega)
  have q2 : ∀ w : World, Calls Try.prog 61 #[.int .i64 (p * 3 % 12 / 3 + 1)] w fun e w' => e = .returned (.string (strOfNums (Civ.digL 2 a))) ∧ Below w.heap.size w w' := fun w => by rw [ha]; exact pTwo_any a w (by omega)
  have z0 := size_two (y / 100)
  have z1 := size_two y
  have z2 := size_two a
  clear hy ha
  have hs := str_tail a
  generalize p * 3 = q at *
  go_enter Try.func53, Try.ntmps53
  go_wp2_with fail
  refine (hl _).mono ?_
  rintro e w1 ⟨rfl, hb1⟩
  have B := Block.call (Block.new w 57 [.int .i64 2, .int .i64 p]) hb1
  have c0 : w1.cell? ⟨w.heap.size, 0, none⟩ = some (.int .i64 2) := B.cell 0
  go_wp2_with fail
  go_quiet (fail)
  go_wp2_with fail
  refine (q0 _).mono ?_
  rintro e w2 ⟨rfl, hb2⟩
  go_wp2_with fail
  refine (q1 _).mono ?_
  rintro e w3 ⟨rfl, hb3⟩
  have c3 : w3.cell? ⟨w.heap.size, 0, none⟩ = some (.int .i64 2) := (((B.drewN _).call hb2).call hb3).cell 0
  go_wp2_with fail
  refine (q2 _).mono ?_
  rintro e w4 ⟨rfl, hb4⟩
  go_wp2_with fail
  go_ret
  refine ⟨?_, bel_call (bel_call (bel_call (bel_drewN (bel_call (bel_alloc (Below.refl _ _) _) hb1) _) hb2) hb3) hb4⟩
  have e45 : (⟨#[45, 81]⟩ : ByteArray) = strOfNums [45, 81] := rfl
  rw [e45, str_app, str_app, str_app]
  unfold pText
  rw [if_neg (by decide), if_pos rfl, List.append_assoc, List.append_assoc]
  rfl
set_option maxRecDepth 100000 in
set_option maxHeartbeats 4000000 in
theorem name_half {p : Int} {y a : Nat} (h0 : 0 ≤ p) (hp : p * 6 < 119988) (hy : p * 6 / 12 + 1 = y) (ha : p * 6 % 12 / 6 + 1 = a) (w : World) :
    Calls Try.prog 53 #[.agg #[.int .i64 3, .int .i64 p]] w fun e w' => e = .returned (.string (strOfNums (pText 3 y a))) ∧ Below w.heap.size w w' := by
  have hl := fun w => span_is (k := 3) (n := 6) (p := p) (.inr (.inr (.inl ⟨rfl, rfl⟩))) h0 hp w
  have hq : 0 ≤ p * 6 := by omega
  have q0 : ∀ w : World, Calls Try.prog 61 #[.int .i64 ((p * 6 / 12 + 1) / 100)] w fun e w' => e = .returned (.string (strOfNums (Civ.digL 2 (y / 100)))) ∧ Below w.heap.size w w' := fun w => by rw [hy]; exact pTwo_any (y / 100) w (by omega)
  have q1 : ∀ w : World, Calls Try.prog 61 #[.int .i64 (p * 6 / 12 + 1)] w fun e w' => e = .returned (.string (strOfNums (Civ.digL 2 y))) ∧ Below w.heap.size w w' := fun w => by rw [hy]; exact pTwo_any y w (by omega)
  have q2 : ∀ w : World, Calls Try.prog 61 #[.int .i64 (p * 6 % 12 / 6 + 1)] w fun e w' => e = .returned (.string (strOfNums (Civ.digL 2 a))) ∧ Below w.heap.size w w' := fun w => by rw [ha]; exact pTwo_any a w (by omega)
  have z0 := size_two (y / 100)
  have z1 := size_two y
  have z2 := size_two a
  clear hy ha
  have hs := str_tail a
  generalize p * 6 = q at *
  go_enter Try.func53, Try.ntmps53
  go_wp2_with fail
  refine (hl _).mono ?_
  rintro e w1 ⟨rfl, hb1⟩
  have B := Block.call (Block.new w 57 [.int .i64 3, .int .i64 p]) hb1
  have c0 : w1.cell? ⟨w.heap.size, 0, none⟩ = some (.int .i64 3) := B.cell 0
  go_wp2_with fail
  go_quiet (fail)
  go_wp2_with fail
  refine (q0 _).mono ?_
  rintro e w2 ⟨rfl, hb2⟩
  go_wp2_with fail
  refine (q1 _).mono ?_
  rintro e w3 ⟨rfl, hb3⟩
  have c3 : w3.cell? ⟨w.heap.size, 0, none⟩ = some (.int .i64 3) := (((B.drewN _).call hb2).call hb3).cell 0
  go_wp2_with fail
  refine (q2 _).mono ?_
  rintro e w4 ⟨rfl, hb4⟩
  go_wp2_with fail
  go_ret
  refine ⟨?_, bel_call (bel_call (bel_call (bel_drewN (bel_call (bel_alloc (Below.refl _ _) _) hb1) _) hb2) hb3) hb4⟩
  have e45 : (⟨#[45, 72]⟩ : ByteArray) = strOfNums [45, 72] := rfl
  rw [e45, str_app, str_app, str_app]
  unfold pText
  rw [if_neg (by decide), if_neg (by decide), if_pos rfl, List.append_assoc, List.append_assoc]
  rfl
set_option maxRecDepth 100000 in
set_option maxHeartbeats 4000000 in
theorem name_year {p : Int} {y a : Nat} (h0 : 0 ≤ p) (hp : p * 12 < 119988) (hy : p * 12 / 12 + 1 = y) (ha : p * 12 % 12 / 12 + 1 = a) (w : World) :
    Calls Try.prog 53 #[.agg #[.int .i64 4, .int .i64 p]] w fun e w' => e = .returned (.string (strOfNums (pText 4 y a))) ∧ Below w.heap.size w w' := by
  have hl := fun w => span_is (k := 4) (n := 12) (p := p) (.inr (.inr (.inr ⟨rfl, rfl⟩))) h0 hp w
  have hq : 0 ≤ p * 12 := by omega
  have q0 : ∀ w : World, Calls Try.prog 61 #[.int .i64 ((p * 12 / 12 + 1) / 100)] w fun e w' => e = .returned (.string (strOfNums (Civ.digL 2 (y / 100)))) ∧ Below w.heap.size w w' := fun w => by rw [hy]; exact pTwo_any (y / 100) w (by omega)
  have q1 : ∀ w : World, Calls Try.prog 61 #[.int .i64 (p * 12 / 12 + 1)] w fun e w' => e = .returned (.string (strOfNums (Civ.digL 2 y))) ∧ Below w.heap.size w w' := fun w => by rw [hy]; exact pTwo_any y w (by omega)
  have q2 : ∀ w : World, Calls Try.prog 61 #[.int .i64 (p * 12 % 12 / 12 + 1)] w fun e w' => e = .returned (.string (strOfNums (Civ.digL 2 a))) ∧ Below w.heap.size w w' := fun w => by rw [ha]; exact pTwo_any a w (by omega)
  have z0 := size_two (y / 100)
  have z1 := size_two y
  clear hy ha
  generalize p * 12 = q at *
  go_enter Try.func53, Try.ntmps53
  go_wp2_with fail
  refine (hl _).mono ?_
  rintro e w1 ⟨rfl, hb1⟩
  have B := Block.call (Block.new w 57 [.int .i64 4, .int .i64 p]) hb1
  have c0 : w1.cell? ⟨w.heap.size, 0, none⟩ = some (.int .i64 4) := B.cell 0
  go_wp2_with fail
  go_quiet (fail)
  go_wp2_with fail
  refine (q0 _).mono ?_
  rintro e w2 ⟨rfl, hb2⟩
  go_wp2_with fail
  refine (q1 _).mono ?_
  rintro e w3 ⟨rfl, hb3⟩
  have c3 : w3.cell? ⟨w.heap.size, 0, none⟩ = some (.int .i64 4) := (((B.drewN _).call hb2).call hb3).cell 0
  go_wp2_with fail
  go_ret
  refine ⟨?_, bel_call (bel_call (bel_drewN (bel_call (bel_alloc (Below.refl _ _) _) hb1) _) hb2) hb3⟩
  rw [str_app]
  unfold pText
  rw [if_neg (by decide), if_neg (by decide), if_neg (by decide), List.append_nil]
  rfl
theorem name_is {k n p : Int} {y a : Nat} (h : InKind k n) (h0 : 0 ≤ p) (hp : p * n < 119988) (hy : p * n / 12 + 1 = y) (ha : p * n % 12 / n + 1 = a) (w : World) :
    Calls Try.prog 53 #[.agg #[.int .i64 k, .int .i64 p]] w fun e w' => e = .returned (.string (strOfNums (pText k y a))) ∧ Below w.heap.size w w' := by
  rcases h with ⟨rfl, rfl⟩ | ⟨rfl, rfl⟩ | ⟨rfl, rfl⟩ | ⟨rfl, rfl⟩
  · exact name_month h0 (by omega) (by omega) (by omega) w
  · exact name_quarter h0 hp hy ha w
  · exact name_half h0 hp hy ha w
  · exact name_year h0 hp hy ha w
set_option maxRecDepth 100000 in
theorem ptext_is {k n p : Int} {y a : Nat} (h : InKind k n) (h0 : 0 ≤ p) (hp : p * n < 119988) (hy : p * n / 12 + 1 = y) (ha : p * n % 12 / n + 1 = a) (w : World) :
    Calls Try.prog 33 #[.int .i64 k, .int .i64 p] w fun e w' => e = .returned (.tuple #[.string (strOfNums (pText k y a)), .int .i64 0]) ∧ Below w.heap.size w w' := by
  have hl := span_is h h0 hp
  have hn := name_is h h0 hp hy ha
  clear h hp hy ha
  go_enter Try.func33, Try.ntmps33
  go_wp2_with fail
  refine (hl _).mono ?_
  rintro e w1 ⟨rfl, hb1⟩
  go_wp2_with fail
  refine (hn _).mono ?_
  rintro e w2 ⟨rfl, hb2⟩
  go_wp2_with fail
  go_ret2
  exact ⟨rfl, bel_call hb1 hb2⟩
set_option maxRecDepth 100000 in
theorem ptext_not {k : Int} (h : k < 1 ∨ 4 < k) (h0 : -9223372036854775808 ≤ k) (h1 : k ≤ 9223372036854775807) (p : Int) (w : World) :
    Calls Try.prog 33 #[.int .i64 k, .int .i64 p] w fun e w' => e = .returned (.tuple #[.string ⟨#[]⟩, .int .i64 2]) ∧ Below w.heap.size w w' := by
  have hl := span_not h h0 h1 p
  clear h
  go_enter Try.func33, Try.ntmps33
  go_wp2_with fail
  refine (hl _).mono ?_
  rintro e w1 ⟨rfl, hb1⟩
  go_wp2_with fail
  go_ret2
  exact ⟨rfl, hb1⟩
set_option maxRecDepth 100000 in
theorem ptext_out {k n p : Int} (h : InKind k n) (hp : p < 0 ∨ 119988 ≤ p * n) (w : World) :
    Calls Try.prog 33 #[.int .i64 k, .int .i64 p] w fun e w' => e = .returned (.tuple #[.string ⟨#[]⟩, .int .i64 5]) ∧ Below w.heap.size w w' := by
  have hl := span_out h hp
  clear h hp
  go_enter Try.func33, Try.ntmps33
  go_wp2_with fail
  refine (hl _).mono ?_
  rintro e w1 ⟨rfl, hb1⟩
  go_wp2_with fail
  go_ret2
  exact ⟨rfl, hb1⟩
end Go.Proofs.Ytdjkdfgifajilaa
