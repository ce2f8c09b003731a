/- The walks of the document's 'two' and 'Text'. -/
import Derived.Test.YtdjkdfgifajilaaCivText
import Derived.IntWalk
namespace Go.Proofs.Ytdjkdfgifajilaa
open Go.RowKit

set_option maxRecDepth 100000 in
set_option maxHeartbeats 2000000 in
theorem two_any (n : Nat) (w : World) (hn : n < 100) : Calls Try.prog 51 #[.int .i64 (n : Int)] w fun e w' => e = .returned (.string (strOfNums (Civ.digL 2 n))) ∧ Below w.heap.size w w' := by
  rw [Civ.digL_two]
  have e1 : ((48 + n / 10 % 10 : Nat) : Int) = 48 + (n : Int) / 10 := by omega
  have e2 : ((48 + n % 10 : Nat) : Int) = 48 + (n : Int) % 10 := by omega
  rw [e1, e2]
  have k := conv_shows 2 (shows_built w (U8 [48 + (n : Int) / 10, 48 + (n : Int) % 10]) 5)
  simp only [U8, List.map_cons, List.map_nil, List.length_cons, List.length_nil] at k
  clear e1 e2
  go_enter Try.func51, Try.ntmps51
  go_wp2_with fail
  go_ret
  exact ⟨rfl, bel_alloc (Below.refl _ _) _⟩
theorem digL_four_two (y : Nat) : Civ.digL 4 y = Civ.digL 2 (y / 100) ++ Civ.digL 2 (y % 100) := by
  have a1 : y / 100 / 10 % 10 = y / 1000 % 10 := by omega
  have a2 : y % 100 / 10 % 10 = y / 10 % 10 := by omega
  have a3 : y % 100 % 10 = y % 10 := by omega
  rw [Civ.digL_four, Civ.digL_two, Civ.digL_two, a1, a2, a3]
  rfl
set_option maxRecDepth 100000 in
set_option maxHeartbeats 4000000 in
theorem refText_is {n : Int} {y m d : Nat} (h : IsDate n y m d) (w : World) : Calls Try.prog 28 #[.int .i64 n] w fun e w' => e = .returned (.tuple #[.string (strOfNums (Civ.textL y m d)), .int .i64 0]) ∧ Below w.heap.size w w' := by
  have hc := fun w => refDate_is h w
  obtain ⟨⟨y1, y2, k1, k2, e1, e2⟩, -⟩ := h
  have hdm := (Civ.dim_lo y m).2
  have q0 : ∀ w : World, Calls Try.prog 51 #[.int .i64 ((y : Int) / 100)] w fun e w' => e = .returned (.string (strOfNums (Civ.digL 2 (y / 100)))) ∧ Below w.heap.size w w' := fun w => two_any (y / 100) w (by omega)
  have q1 : ∀ w : World, Calls Try.prog 51 #[.int .i64 ((y : Int) % 100)] w fun e w' => e = .returned (.string (strOfNums (Civ.digL 2 (y % 100)))) ∧ Below w.heap.size w w' := fun w => two_any (y % 100) w (by omega)
  have q2 : ∀ w : World, Calls Try.prog 51 #[.int .i64 (m : Int)] w fun e w' => e = .returned (.string (strOfNums (Civ.digL 2 m))) ∧ Below w.heap.size w w' := fun w => two_any m w (by omega)
  have q3 : ∀ w : World, Calls Try.prog 51 #[.int .i64 (d : Int)] w fun e w' => e = .returned (.string (strOfNums (Civ.digL 2 d))) ∧ Below w.heap.size w w' := fun w => two_any d w (by omega)
  have z0 : (strOfNums (Civ.digL 2 (y / 100))).size = 2 := by rw [strOfNums_size, Civ.digL_two]; rfl
  have z1 : (strOfNums (Civ.digL 2 (y % 100))).size = 2 := by rw [strOfNums_size, Civ.digL_two]; rfl
  have z2 : (strOfNums (Civ.digL 2 m)).size = 2 := by rw [strOfNums_size, Civ.digL_two]; rfl
  have z3 : (strOfNums (Civ.digL 2 d)).size = 2 := by rw [strOfNums_size, Civ.digL_two]; rfl
  have t1 : (y : Int).tdiv 100 = (y : Int) / 100 := Int.tdiv_eq_ediv_of_nonneg (by omega)
  have t2 : (y : Int).tmod 100 = (y : Int) % 100 := Int.tmod_eq_emod_of_nonneg (by omega)
  have t3 : IntKind.i64.wrap ((y : Int) / 100) = (y : Int) / 100 := IntWalk.i64_in _ (by omega)
  have t4 : IntKind.i64.wrap ((y : Int) % 100) = (y : Int) % 100 := IntWalk.i64_in _ (by omega)
  go_enter Try.func28, Try.ntmps28
  go_wp2_with fail
  refine (hc _).mono ?_
  rintro e w1 ⟨rfl, hb1⟩
  go_wp2_with fail
  have B0 : Block (w1.alloc (.cells #[.int .i64 (y : Int), .int .i64 (m : Int), .int .i64 (d : Int)] 26)).drew w1.heap.size 26 [.int .i64 (y : Int), .int .i64 (m : Int), .int .i64 (d : Int)] := Block.new w1 _ _
  have hB0 := (bel_alloc hb1 (.cells #[.int .i64 (y : Int), .int .i64 (m : Int), .int .i64 (d : Int)] 26)).drew
  clear hb1
  go_region_held3 (fun w' => w'.cell? ⟨w1.heap.size, 0, none⟩ = some (.int .i64 (y : Int)) ∧ w'.cell? ⟨w1.heap.size, 1, none⟩ = some (.int .i64 (m : Int)) ∧ w'.cell? ⟨w1.heap.size, 2, none⟩ = some (.int .i64 (d : Int))) (go_keep) (first
    | (go_at_call 51; ((with_reducible refine (q0 _).mono ?_)); rintro e wa ⟨rfl, ha⟩; have B1 := B0.call ha; have s0 := B1.cell 0; have s1 := B1.cell 1; have s2 := B1.cell 2; simp only [List.getElem?_cons_zero, List.getElem?_cons_succ] at s0 s1 s2)
    | (go_at_call 51; ((with_reducible refine (q1 _).mono ?_)); rintro e wb ⟨rfl, hb⟩; have B2 := B1.call hb; have u0 := B2.cell 0; have u1 := B2.cell 1; have u2 := B2.cell 2; simp only [List.getElem?_cons_zero, List.getElem?_cons_succ] at u0 u1 u2)
    | (go_at_call 51; ((with_reducible refine (q2 _).mono ?_)); rintro e wc ⟨rfl, hc⟩; have B3 := B2.call hc; have v0 := B3.cell 0; have v1 := B3.cell 1; have v2 := B3.cell 2; simp only [List.getElem?_cons_zero, List.getElem?_cons_succ] at v0 v1 v2)
    | (go_at_call 51; ((with_reducible refine (q3 _).mono ?_)); rintro e wd ⟨rfl, hd⟩; have B4 := B3.call hd; have x0 := B4.cell 0; have x1 := B4.cell 1; have x2 := B4.cell 2; simp only [List.getElem?_cons_zero, List.getElem?_cons_succ] at x0 x1 x2))
  go_wp2_with fail
  go_ret2
  refine ⟨?_, bel_call (bel_call (bel_call (bel_call hB0 ha) hb) hc) hd⟩
  have e45 : (⟨#[45]⟩ : ByteArray) = strOfNums [45] := rfl
  rw [e45, str_app, str_app, str_app, str_app, str_app]
  unfold Civ.textL
  rw [digL_four_two]
  rfl
theorem text_not {n : Int} (h : ¬ (0 ≤ n ∧ n ≤ 3652058)) (w : World) : Calls Try.prog 27 #[.int .i64 n] w fun e w' => e = .returned (.tuple #[.string ⟨#[]⟩, .int .i64 5]) ∧ Below w.heap.size w w' := by
  have hc := fun w => date_not h w
  clear h
  go_enter Try.func27, Try.ntmps27
  go_wp2_with fail
  refine (hc _).mono ?_
  rintro e w1 ⟨rfl, hb1⟩
  go_wp2_with fail
  go_ret2
  exact ⟨rfl, bel_alloc hb1 _⟩
theorem refText_not {n : Int} (h : ¬ (0 ≤ n ∧ n ≤ 3652058)) (w : World) : Calls Try.prog 28 #[.int .i64 n] w fun e w' => e = .returned (.tuple #[.string ⟨#[]⟩, .int .i64 5]) ∧ Below w.heap.size w w' := by
  have hc := fun w => refDate_not h w
  clear h
  go_enter Try.func28, Try.ntmps28
  go_wp2_with fail
  refine (hc _).mono ?_
  rintro e w1 ⟨rfl, hb1⟩
  go_wp2_with fail
  go_ret2
  exact ⟨rfl, bel_alloc hb1 _⟩
end Go.Proofs.Ytdjkdfgifajilaa
