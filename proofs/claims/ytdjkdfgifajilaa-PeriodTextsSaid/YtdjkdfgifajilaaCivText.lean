/- The walks of 'civil.Text', of the document's 'two' and 'Text'. -/
import Derived.Test.YtdjkdfgifajilaaCivDigits
import Derived.Deep.RegionHeld3
namespace Go.Proofs.Ytdjkdfgifajilaa
open Go.RowKit

theorem str_app (xs ys : List Int) : strOfNums xs ++ strOfNums ys = strOfNums (xs ++ ys) := by
  apply ByteArray.ext
  apply Array.ext'
  simp [strOfNums]
set_option maxRecDepth 100000 in
set_option maxHeartbeats 4000000 in
theorem text_is {n : Int} {y m d : Nat} (h : IsDate n y m d) (w : World) : Calls Try.prog 27 #[.int .i64 n] w fun e w' => e = .returned (.tuple #[.string (strOfNums (Civ.textL y m d)), .int .i64 0]) ∧ Below w.heap.size w w' := by
  have hc := fun w => date_is h w
  obtain ⟨⟨y1, y2, k1, k2, e1, e2⟩, -⟩ := h
  have hdm := (Civ.dim_lo y m).2
  have q1 : ∀ w : World, Calls Try.prog 50 #[.int .i64 (y : Int), .int .i64 4] w fun e w' => e = .returned (.string (strOfNums (Civ.digL 4 y))) ∧ Below w.heap.size w w' := fun w => digits_any y 4 w (by omega) (by omega)
  have q2 : ∀ w : World, Calls Try.prog 50 #[.int .i64 (m : Int), .int .i64 2] w fun e w' => e = .returned (.string (strOfNums (Civ.digL 2 m))) ∧ Below w.heap.size w w' := fun w => digits_any m 2 w (by omega) (by omega)
  have q3 : ∀ w : World, Calls Try.prog 50 #[.int .i64 (d : Int), .int .i64 2] w fun e w' => e = .returned (.string (strOfNums (Civ.digL 2 d))) ∧ Below w.heap.size w w' := fun w => digits_any d 2 w (by omega) (by omega)
  have z1 : (strOfNums (Civ.digL 4 y)).size = 4 := by rw [strOfNums_size, Civ.digL_four]; rfl
  have z2 : (strOfNums (Civ.digL 2 m)).size = 2 := by rw [strOfNums_size, Civ.digL_two]; rfl
  have z3 : (strOfNums (Civ.digL 2 d)).size = 2 := by rw [strOfNums_size, Civ.digL_two]; rfl
  go_enter Try.func27, Try.ntmps27
  go_wp2_with fail
  refine (hc _).mono ?_
  rintro e w1 ⟨rfl, hb1⟩
  go_wp2_with fail
  have B0 : Block (w1.alloc (.cells #[.int .i64 (y : Int), .int .i64 (m : Int), .int .i64 (d : Int)] 26)).drew w1.heap.size 26 [.int .i64 (y : Int), .int .i64 (m : Int), .int .i64 (d : Int)] := Block.new w1 _ _
  have hB0 := (bel_alloc hb1 (.cells #[.int .i64 (y : Int), .int .i64 (m : Int), .int .i64 (d : Int)] 26)).drew
  clear hb1
  go_region_held3 (fun w' => w'.cell? ⟨w1.heap.size, 0, none⟩ = some (.int .i64 (y : Int)) ∧ w'.cell? ⟨w1.heap.size, 1, none⟩ = some (.int .i64 (m : Int)) ∧ w'.cell? ⟨w1.heap.size, 2, none⟩ = some (.int .i64 (d : Int))) (go_keep) (first
    | (go_at_call_of 50 (Value.int IntKind.i64 (y : Int)); refine (q1 _).mono ?_; rintro e wa ⟨rfl, ha⟩; have B1 := B0.call ha; have s0 := B1.cell 0; have s1 := B1.cell 1; have s2 := B1.cell 2; simp only [List.getElem?_cons_zero, List.getElem?_cons_succ] at s0 s1 s2)
    | (go_at_call_of 50 (Value.int IntKind.i64 (m : Int)); refine (q2 _).mono ?_; rintro e wb ⟨rfl, hb⟩; have B2 := B1.call hb; have u0 := B2.cell 0; have u1 := B2.cell 1; have u2 := B2.cell 2; simp only [List.getElem?_cons_zero, List.getElem?_cons_succ] at u0 u1 u2)
    | (go_at_call_of 50 (Value.int IntKind.i64 (d : Int)); refine (q3 _).mono ?_; rintro e wc ⟨rfl, hc⟩; have B3 := B2.call hc; have v0 := B3.cell 0; have v1 := B3.cell 1; have v2 := B3.cell 2; simp only [List.getElem?_cons_zero, List.getElem?_cons_succ] at v0 v1 v2))
  go_wp2_with fail
  go_ret2
  refine ⟨?_, bel_call (bel_call (bel_call hB0 ha) hb) hc⟩
  have e45 : (⟨#[45]⟩ : ByteArray) = strOfNums [45] := rfl
  rw [e45, str_app, str_app, str_app, str_app]
  rfl
end Go.Proofs.Ytdjkdfgifajilaa
