/- The walks of period.two, name.String, period.Text. -/
import Derived.Test.YtdjkdfgifajilaaSpOf
import Derived.Test.YtdjkdfgifajilaaCivRefText
namespace Go.Proofs.Ytdjkdfgifajilaa
open Go.RowKit Go.Lib

set_option maxRecDepth 100000 in
set_option maxHeartbeats 2000000 in
theorem pTwo_any (n : Nat) (w : World) (hn : n < 10000) : Calls Try.prog 61 #[.int .i64 (n : Int)] w fun e w' => e = .returned (.string (strOfNums (Civ.digL 2 n))) ∧ Below w.heap.size w w' := by
  rw [Civ.digL_two]
  have e1 : ((48 + n / 10 % 10 : Nat) : Int) = 48 + (n : Int) / 10 % 10 := by omega
  have e2 : ((48 + n % 10 : Nat) : Int) = 48 + (n : Int) % 10 := by omega
  rw [e1, e2]
  have k := conv_shows 2 (shows_built w (U8 [48 + (n : Int) / 10 % 10, 48 + (n : Int) % 10]) 5)
  simp only [U8, List.map_cons, List.map_nil, List.length_cons, List.length_nil] at k
  clear e1 e2
  go_enter Try.func61, Try.ntmps61
  go_wp2_with fail
  go_ret
  exact ⟨rfl, bel_alloc (Below.refl _ _) _⟩
theorem size_two (n : Nat) : (strOfNums (Civ.digL 2 n)).size = 2 := by rw [strOfNums_size, Civ.digL_two]; rfl
/-- The text of a kind's period that begins in the year y and has the number a in it. -/
def pText (k : Int) (y a : Nat) : List Int :=
  Civ.digL 2 (y / 100) ++ Civ.digL 2 y ++ (if k = 1 then [45, 77] ++ Civ.digL 2 a else if k = 2 then [45, 81] ++ Civ.digL 1 a else if k = 3 then [45, 72] ++ Civ.digL 1 a else [])
set_option maxRecDepth 100000 in
set_option maxHeartbeats 4000000 in
theorem name_month {p : Int} {y a : Nat} (h0 : 0 ≤ p) (hp : p < 119988) (hy : p / 12 + 1 = y) (ha : p % 12 + 1 = a) (w : World) :
    Calls Try.prog 53 #[.agg #[.int .i64 1, .int .i64 p]] w fun e w' => e = .returned (.string (strOfNums (pText 1 y a))) ∧ Below w.heap.size w w' := by
  have hl := fun w => span_is (k := 1) (n := 1) (p := p) (.inl ⟨rfl, rfl⟩) h0 (by omega) w
  simp only [Int.mul_one] at hl
  have q0 : ∀ w : World, Calls Try.prog 61 #[.int .i64 ((p / 12 + 1) / 100)] w fun e w' => e = .returned (.string (strOfNums (Civ.digL 2 (y / 100)))) ∧ Below w.heap.size w w' := fun w => by rw [hy]; exact pTwo_any (y / 100) w (by omega)
  have q1 : ∀ w : World, Calls Try.prog 61 #[.int .i64 (p / 12 + 1)] w fun e w' => e = .returned (.string (strOfNums (Civ.digL 2 y))) ∧ Below w.heap.size w w' := fun w => by rw [hy]; exact pTwo_any y w (by omega)
  have q2 : ∀ w : World, Calls Try.prog 61 #[.int .i64 (p % 12 + 1)] w fun e w' => e = .returned (.string (strOfNums (Civ.digL 2 a))) ∧ Below w.heap.size w w' := fun w => by rw [ha]; exact pTwo_any a w (by omega)
  have z0 := size_two (y / 100)
  have z1 := size_two y
  have z2 := size_two a
  clear hy ha
  go_enter Try.func53, Try.ntmps53
  go_wp2_with fail
  refine (hl _).mono ?_
  rintro e w1 ⟨rfl, hb1⟩
  have B := Block.call (Block.new w 57 [.int .i64 1, .int .i64 p]) hb1
  have c0 : w1.cell? ⟨w.heap.size, 0, none⟩ = some (.int .i64 1) := B.cell 0
  go_wp2_with fail
  go_quiet (fail)
  go_wp2_with fail
  refine (q0 _).mono ?_
  rintro e w2 ⟨rfl, hb2⟩
  go_wp2_with fail
  refine (q1 _).mono ?_
  rintro e w3 ⟨rfl, hb3⟩
  have c3 : w3.cell? ⟨w.heap.size, 0, none⟩ = some (.int .i64 1) := (((B.drewN _).call hb2).call hb3).cell 0
  go_wp2_with fail
  refine (q2 _).mono ?_
  rintro e w4 ⟨rfl, hb4⟩
  go_wp2_with fail
  go_ret
  refine ⟨?_, bel_call (bel_call (bel_call (bel_drewN (bel_call (bel_alloc (Below.refl _ _) _) hb1) _) hb2) hb3) hb4⟩
  have e45 : (⟨#[45, 77]⟩ : ByteArray) = strOfNums [45, 77] := rfl
  rw [e45, str_app, str_app, str_app]
  unfold pText
  rw [if_pos rfl, List.append_assoc, List.append_assoc]
  rfl
end Go.Proofs.Ytdjkdfgifajilaa
