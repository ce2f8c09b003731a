/- The walks of a reader's methods where there is no reader. -/
import Derived.Test.YtnhiipiciondoaaRdRead
namespace Go.Proofs.Ytnhiipiciondoaa
open Go.RowKit Go.Lib

theorem door {P : Program} {fn : Func} {R : Ending → World → Prop} {tmps : Array Value} {w : World} {v : Value} (h1 : (results fn tmps).run P w = .ok v w) (h2 : R (.returned v) w) : bodyPostD P fn R .ret { tmps := tmps, defers := [] } w := ⟨v, h1, h2⟩
/-- No reader stands there. -/
def NoRd (q : Option Addr) (w : World) : Prop := ∀ w1, Below w.heap.size w w1 → Calls Try.prog 51 #[.pointer q] w1 fun e w' => e = .returned (.bool true) ∧ w1 = w'
theorem NoRd.nil (w : World) : NoRd none w := fun w1 _ => none_nil w1
theorem NoRd.zero {w : World} {R : Nat} {A : Option Addr} {n c : Nat} {at_ fe fa : Int} (h : RD w R A n c at_ fe fa false) : NoRd (some ⟨R, 0, none⟩) w := fun w1 hb => none_any R A n c at_ fe fa false w1 (Block.call h hb)
theorem NoRd.call {w w' : World} {q : Option Addr} (h : NoRd q w) (hb : Below w.heap.size w w') : NoRd q w' := fun w1 h1 => h w1 (bel_call hb h1)
set_option maxRecDepth 100000 in
set_option maxHeartbeats 2000000 in
theorem read_int_none (q : Option Addr) (fv : Value) (w : World) (h : NoRd q w) :
    Calls Try.prog 54 #[.pointer q, fv] w fun e w' => e = .returned (.int .i64 0) ∧ Below w.heap.size w w' := by
  have hn := h _ (bel_alloc (bel_alloc (Below.refl _ w) (.cells #[.pointer q] 48)) (.cells #[.int .i64 0] 3))
  have B1 : Block ((w.alloc (.cells #[.pointer q] 48)).alloc (.cells #[.int .i64 0] 3)) (w.heap.size + 1) 3 [.int .i64 0] := block_top (by simp)
  clear h
  go_enter_defers Try.func54, Try.ntmps54
  go_wp2_with fail
  refine hn.mono ?_
  rintro e w1 ⟨rfl, rfl⟩
  go_wp2_with fail
  exact door (res_cell rfl rfl agg_no3 (B1.cell 0)) ⟨rfl, bel_alloc (bel_alloc (Below.refl _ _) _) _⟩
set_option maxRecDepth 100000 in
set_option maxHeartbeats 2000000 in
theorem read_string_none (q : Option Addr) (fv : Value) (w : World) (h : NoRd q w) :
    Calls Try.prog 52 #[.pointer q, fv] w fun e w' => e = .returned (.string ⟨#[]⟩) ∧ Below w.heap.size w w' := by
  have hn := h _ (bel_alloc (bel_alloc (Below.refl _ w) (.cells #[.pointer q] 48)) (.cells #[.string ⟨#[]⟩] 9))
  have B1 : Block ((w.alloc (.cells #[.pointer q] 48)).alloc (.cells #[.string ⟨#[]⟩] 9)) (w.heap.size + 1) 9 [.string ⟨#[]⟩] := block_top (by simp)
  clear h
  go_enter_defers Try.func52, Try.ntmps52
  go_wp2_with fail
  refine hn.mono ?_
  rintro e w1 ⟨rfl, rfl⟩
  go_wp2_with fail
  exact door (res_cell rfl rfl agg_no9 (B1.cell 0)) ⟨rfl, bel_alloc (bel_alloc (Below.refl _ _) _) _⟩
theorem mkf (fn : Fn) (first cap : Array Value) (w : World) : (Instr.makeFunc fn first cap).run Try.prog w = .ok (.func fn first cap) w := rfl
set_option maxRecDepth 100000 in
set_option maxHeartbeats 2000000 in
theorem number_none (q : Option Addr) (low high above : Int) (w : World) (h : NoRd q w) :
    Calls Try.prog 50 #[.pointer q, .int .i64 low, .int .i64 high, .int .i64 above] w fun e w' => e = .returned (.int .i64 0) ∧ Below w.heap.size w w' := by
  have bel := bel_alloc (bel_alloc (bel_alloc (bel_alloc (Below.refl _ w) (.cells #[.pointer q] 48)) (.cells #[.int .i64 low] 3)) (.cells #[.int .i64 high] 3)) (.cells #[.int .i64 above] 35)
  have hr := fun fv => read_int_none q fv _ (h.call bel)
  have hmf := mkf
  clear h
  go_enter Try.func50, Try.ntmps50
  go_wp2_with fail
  refine (hr _).mono ?_
  rintro e w1 ⟨rfl, hb1⟩
  go_wp2_with fail
  go_ret
  exact ⟨rfl, bel_call bel hb1⟩
set_option maxRecDepth 100000 in
set_option maxHeartbeats 2000000 in
theorem int_none (q : Option Addr) (low high : Int) (w : World) (h : NoRd q w) :
    Calls Try.prog 34 #[.pointer q, .int .i64 low, .int .i64 high] w fun e w' => e = .returned (.int .i64 0) ∧ Below w.heap.size w w' := by
  go_enter Try.func34, Try.ntmps34
  go_wp2_with fail
  refine (number_none q low high 5 w h).mono ?_
  rintro e w1 ⟨rfl, hb1⟩
  go_wp2_with fail
  go_ret
  exact ⟨rfl, hb1⟩
set_option maxRecDepth 100000 in
set_option maxHeartbeats 2000000 in
theorem count_none (q : Option Addr) (high : Int) (w : World) (h : NoRd q w) :
    Calls Try.prog 38 #[.pointer q, .int .i64 high] w fun e w' => e = .returned (.int .i64 0) ∧ Below w.heap.size w w' := by
  go_enter Try.func38, Try.ntmps38
  go_wp2_with fail
  refine (number_none q 0 high 3 w h).mono ?_
  rintro e w1 ⟨rfl, hb1⟩
  go_wp2_with fail
  go_ret
  exact ⟨rfl, hb1⟩
set_option maxRecDepth 100000 in
set_option maxHeartbeats 2000000 in
theorem text_none (q : Option Addr) (most : Int) (w : World) (h : NoRd q w) :
    Calls Try.prog 37 #[.pointer q, .int .i64 most] w fun e w' => e = .returned (.string ⟨#[]⟩) ∧ Below w.heap.size w w' := by
  have bel := bel_alloc (bel_alloc (Below.refl _ w) (.cells #[.pointer q] 48)) (.cells #[.int .i64 most] 3)
  have hr := fun fv => read_string_none q fv _ (h.call bel)
  have hmf := mkf
  clear h
  go_enter Try.func37, Try.ntmps37
  go_wp2_with fail
  refine (hr _).mono ?_
  rintro e w1 ⟨rfl, hb1⟩
  go_wp2_with fail
  go_ret
  exact ⟨rfl, bel_call bel hb1⟩
set_option maxRecDepth 100000 in
set_option maxHeartbeats 2000000 in
theorem at_none (q : Option Addr) (w : World) (h : NoRd q w) : Calls Try.prog 35 #[.pointer q] w fun e w' => e = .returned (.int .i64 0) ∧ w = w' := by
  have hn := h w (Below.refl _ _)
  clear h
  go_enter Try.func35, Try.ntmps35
  go_wp2_with fail
  refine hn.mono ?_
  rintro e w1 ⟨rfl, rfl⟩
  go_wp2_with fail
  go_ret
  exact ⟨rfl, rfl⟩
set_option maxRecDepth 100000 in
set_option maxHeartbeats 2000000 in
theorem rfault_none (q : Option Addr) (w : World) (h : NoRd q w) : Calls Try.prog 36 #[.pointer q] w fun e w' => e = .returned (.agg #[.int .i64 1, .int .i64 0]) ∧ Below w.heap.size w w' := by
  have hn := h _ (bel_alloc (Below.refl _ w) (.cells #[.int .i64 0, .int .i64 0] 37))
  have hfl := fun e p w => (show Calls Try.prog 44 #[.int .i64 e, .int .i64 p] w fun r w' => r = .returned (.agg #[.int .i64 e, .int .i64 p]) ∧ Below w.heap.size w w' from fault_any e p w)
  clear h
  go_enter Try.func36, Try.ntmps36
  go_wp2_with fail
  refine hn.mono ?_
  rintro e w1 ⟨rfl, rfl⟩
  go_wp2_with fail
  refine (hfl _ _ _).mono ?_
  rintro e w2 ⟨rfl, hb2⟩
  have hz := (new_block (cs := [.int .i64 0, .int .i64 0]) hb2).1
  have z0 := hz.cell 0
  have z1 := hz.cell 1
  have zf := hz.free
  simp only [List.getElem?_cons_zero, List.getElem?_cons_succ] at z0 z1
  go_wp2_with fail
  exact ret_c (T := 37) rfl rfl rfl ((hz.set 0 (.int .i64 1)).set 1 (.int .i64 0)) agg_fault size_fault ⟨rfl, bel_set (bel_set (bel_call (bel_alloc (Below.refl _ _) _) hb2) (Nat.le_refl _) _) (Nat.le_refl _) _⟩
set_option maxRecDepth 100000 in
set_option maxHeartbeats 2000000 in
theorem end_none (q : Option Addr) (w : World) (h : NoRd q w) : Calls Try.prog 39 #[.pointer q] w fun e w' => e = .returned (.agg #[.int .i64 1, .int .i64 0]) ∧ Below w.heap.size w w' := by
  have hn := rfault_none q _ (h.call (bel_alloc (Below.refl _ w) (.cells #[.int .i64 0, .int .i64 0] 37)))
  clear h
  go_enter Try.func39, Try.ntmps39
  go_wp2_with fail
  refine hn.mono ?_
  rintro e w1 ⟨rfl, hb1⟩
  have hz := (new_block (cs := [.int .i64 0, .int .i64 0]) hb1).1
  have hzl := hz.lt
  go_upto_region 2 with (fail)
  have hz2 := hz.alloc (.cells #[.int .i64 1, .int .i64 0] 37)
  have hx2 := Block.new w1 37 [.int .i64 1, .int .i64 0]
  have bel2 := bel_alloc (bel_call (bel_alloc (Below.refl _ w) (.cells #[.int .i64 0, .int .i64 0] 37)) hb1) (.cells #[.int .i64 1, .int .i64 0] 37)
  obtain ⟨w2, hw2⟩ : ∃ w2, w1.alloc (.cells #[.int .i64 1, .int .i64 0] 37) = w2 := ⟨_, rfl⟩
  have hz2 : Block w2 w.heap.size 37 [.int .i64 0, .int .i64 0] := hw2 ▸ hz2
  have hx2 : Block w2 w1.heap.size 37 [.int .i64 1, .int .i64 0] := hw2 ▸ hx2
  have bel2 : Below w.heap.size w w2 := hw2 ▸ bel2
  rw [hw2]
  clear hw2
  have z0 := hz2.cell 0
  have z1 := hz2.cell 1
  have zf := hz2.free
  have x0 := hx2.cell 0
  have x1 := hx2.cell 1
  simp only [List.getElem?_cons_zero, List.getElem?_cons_succ] at z0 z1 x0 x1
  go_quiet (fail)
  go_wp2_with fail
  exact ret_c (T := 37) rfl rfl rfl (Block.drewN ((hz2.set 0 (.int .i64 1)).set 1 (.int .i64 0)) _) agg_fault size_fault ⟨rfl, bel_drewN (bel_set (bel_set bel2 (Nat.le_refl _) _) (Nat.le_refl _) _) _⟩
end Go.Proofs.Ytnhiipiciondoaa
