/- The walks of 'read' of a number, and of a text, and of what they defer. -/
import Derived.Test.YtnhiipiciondoaaRdPlain
import Derived.Defers
import Derived.Recover
namespace Go.Proofs.Ytnhiipiciondoaa
open Go.RowKit Go.Lib

theorem grown_of_below {w w' : World} (h : Below w.heap.size w w') (row : Option Nat) : w.grownBy w' row := ⟨h.os, h.tape, h.output, h.size, fun k hk _ => h.block k hk⟩
theorem grown_set {w a : World} {g : Nat} {p : Addr} (h : w.grownBy a (some g)) (hp : p.block = g) (u : Value) : w.grownBy (a.setCell p u) (some g) :=
  ⟨h.os, h.tape, h.output, by simpa [World.setCell] using h.size, fun k hk hne => by rw [Below.heap_setCell a p u k (fun e => hne (by rw [e, hp]))]; exact h.block k hk hne⟩
theorem grown_new {w a : World} {r : Option Nat} (h : w.grownBy a r) {p : Addr} (hp : w.heap.size ≤ p.block) (u : Value) : w.grownBy (a.setCell p u) r :=
  ⟨h.os, h.tape, h.output, by simpa [World.setCell] using h.size, fun k hk hne => by rw [Below.heap_setCell a p u k (fun e => by omega)]; exact h.block k hk hne⟩
theorem res_cell {P : Program} {fn : Func} {tmps : Array Value} {w : World} {p : Tmp} {b : Nat} {v : Value} {T : TypeId} (hr : fn.results = #[.cell p T]) (hp : tmps.getD p undef = .pointer (some ⟨b, 0, none⟩)) (ha : ∀ w, (isAgg T).run P w = .ok false w) (hc : w.cell? ⟨b, 0, none⟩ = some v) : (results fn tmps).run P w = .ok v w := by
  simp only [results, hr]
  simp [Sem.run_bind, Result.andThen]
  rw [show tmps[p]?.getD undef = .pointer (some ⟨b, 0, none⟩) by rw [← hp]; simp]
  simp [asAddr, Sem.run_pure, loadVar, Sem.run_bind, ha, Result.andThen, go_sem, hc]
theorem agg_no3 (w : World) : (isAgg 3).run Try.prog w = .ok false w := by kernel_rfl
theorem agg_no9 (w : World) : (isAgg 9).run Try.prog w = .ok false w := by kernel_rfl
/-- A reader behind a call: its place and fault. -/
def RdPost (R : Nat) (A : Option Addr) (n c : Nat) (at_ fe fa : Int) (v : Value) (w : World) (e : Ending) (w' : World) : Prop := e = .returned v ∧ w.grownBy w' (some R) ∧ RD w' R A n c at_ fe fa true
set_option maxRecDepth 100000 in
set_option maxHeartbeats 2000000 in
theorem def_int_err (gf gr gx gn R : Nat) (fe fp : Int) (w : World) (h0 : w.cell? ⟨gf, 0, none⟩ = some (.int .i64 fe)) (h1 : w.cell? ⟨gf, 1, none⟩ = some (.int .i64 fp)) (h2 : w.cell? ⟨gr, 0, none⟩ = some (.pointer (some ⟨R, 0, none⟩)))
    {u2 u3 ux : Value} (h3 : w.cell? ⟨R, 2, none⟩ = some u2) (h4 : w.cell? ⟨R, 3, none⟩ = some u3) (h5 : w.cell? ⟨gx, 0, none⟩ = some ux) (hf2 : ∀ i, w.frozen? ⟨R, i, none⟩ = false) (hfx : ∀ i, w.frozen? ⟨gx, i, none⟩ = false) (_ : ¬ R = gx) (_ : ¬ gx = R) (_ : ¬ R = gf) (_ : ¬ gf = R) (h : ¬ fe = 0) :
    CallsD Try.prog 57 #[.pointer (some ⟨gf, 0, none⟩), .pointer (some ⟨gr, 0, none⟩), .pointer (some ⟨gx, 0, none⟩), .pointer (some ⟨gn, 0, none⟩)] .returning w fun e u' w' => u' = .returning ∧ (e = .returned (.tuple #[]) ∧ w' = ((w.setCell ⟨R, 2, none⟩ (.int .i64 fe)).setCell ⟨R, 3, none⟩ (.int .i64 fp)).setCell ⟨gx, 0, none⟩ (.int .i64 0)) := by
  have e1 : (fe == 0) = false := by simpa using h
  have e2 : (fe != 0) = true := by simpa using h
  clear h
  go_enter_d Try.func57, Try.ntmps57
  go_wp2_with fail
  first | go_end0 | refine bodyPost_ret (results_none rfl _ _ _) rfl ?_
  exact ⟨rfl, rfl⟩
set_option maxRecDepth 100000 in
set_option maxHeartbeats 2000000 in
theorem def_int_ok (gf gr gx gn R : Nat) (nx : Int) (w : World) (h0 : w.cell? ⟨gf, 0, none⟩ = some (.int .i64 0)) (h2 : w.cell? ⟨gr, 0, none⟩ = some (.pointer (some ⟨R, 0, none⟩)))
    {u1 : Value} (h3 : w.cell? ⟨R, 1, none⟩ = some u1) (h5 : w.cell? ⟨gn, 0, none⟩ = some (.int .i64 nx)) (hf2 : ∀ i, w.frozen? ⟨R, i, none⟩ = false) :
    CallsD Try.prog 57 #[.pointer (some ⟨gf, 0, none⟩), .pointer (some ⟨gr, 0, none⟩), .pointer (some ⟨gx, 0, none⟩), .pointer (some ⟨gn, 0, none⟩)] .returning w fun e u' w' => u' = .returning ∧ (e = .returned (.tuple #[]) ∧ w' = w.setCell ⟨R, 1, none⟩ (.int .i64 nx)) := by
  go_enter_d Try.func57, Try.ntmps57
  go_wp2_with fail
  first | go_end0 | refine bodyPost_ret (results_none rfl _ _ _) rfl ?_
  exact ⟨rfl, rfl⟩
set_option maxRecDepth 100000 in
set_option maxHeartbeats 2000000 in
theorem def_string_err (gf gr gx gn R : Nat) (fe fp : Int) (w : World) (h0 : w.cell? ⟨gf, 0, none⟩ = some (.int .i64 fe)) (h1 : w.cell? ⟨gf, 1, none⟩ = some (.int .i64 fp)) (h2 : w.cell? ⟨gr, 0, none⟩ = some (.pointer (some ⟨R, 0, none⟩)))
    {u2 u3 ux : Value} (h3 : w.cell? ⟨R, 2, none⟩ = some u2) (h4 : w.cell? ⟨R, 3, none⟩ = some u3) (h5 : w.cell? ⟨gx, 0, none⟩ = some ux) (hf2 : ∀ i, w.frozen? ⟨R, i, none⟩ = false) (hfx : ∀ i, w.frozen? ⟨gx, i, none⟩ = false) (_ : ¬ R = gx) (_ : ¬ gx = R) (_ : ¬ R = gf) (_ : ¬ gf = R) (h : ¬ fe = 0) :
    CallsD Try.prog 56 #[.pointer (some ⟨gf, 0, none⟩), .pointer (some ⟨gr, 0, none⟩), .pointer (some ⟨gx, 0, none⟩), .pointer (some ⟨gn, 0, none⟩)] .returning w fun e u' w' => u' = .returning ∧ (e = .returned (.tuple #[]) ∧ w' = ((w.setCell ⟨R, 2, none⟩ (.int .i64 fe)).setCell ⟨R, 3, none⟩ (.int .i64 fp)).setCell ⟨gx, 0, none⟩ (.string ⟨#[]⟩)) := by
  have e1 : (fe == 0) = false := by simpa using h
  have e2 : (fe != 0) = true := by simpa using h
  clear h
  go_enter_d Try.func56, Try.ntmps56
  go_wp2_with fail
  first | go_end0 | refine bodyPost_ret (results_none rfl _ _ _) rfl ?_
  exact ⟨rfl, rfl⟩
set_option maxRecDepth 100000 in
set_option maxHeartbeats 2000000 in
theorem def_string_ok (gf gr gx gn R : Nat) (nx : Int) (w : World) (h0 : w.cell? ⟨gf, 0, none⟩ = some (.int .i64 0)) (h2 : w.cell? ⟨gr, 0, none⟩ = some (.pointer (some ⟨R, 0, none⟩)))
    {u1 : Value} (h3 : w.cell? ⟨R, 1, none⟩ = some u1) (h5 : w.cell? ⟨gn, 0, none⟩ = some (.int .i64 nx)) (hf2 : ∀ i, w.frozen? ⟨R, i, none⟩ = false) :
    CallsD Try.prog 56 #[.pointer (some ⟨gf, 0, none⟩), .pointer (some ⟨gr, 0, none⟩), .pointer (some ⟨gx, 0, none⟩), .pointer (some ⟨gn, 0, none⟩)] .returning w fun e u' w' => u' = .returning ∧ (e = .returned (.tuple #[]) ∧ w' = w.setCell ⟨R, 1, none⟩ (.int .i64 nx)) := by
  go_enter_d Try.func56, Try.ntmps56
  go_wp2_with fail
  first | go_end0 | refine bodyPost_ret (results_none rfl _ _ _) rfl ?_
  exact ⟨rfl, rfl⟩
set_option maxRecDepth 100000 in
set_option maxHeartbeats 4000000 in
theorem read_int_err (R : Nat) (A : Option Addr) (n c : Nat) (at_ fe fa : Int) (fv : Value) (w : World) (hR : RD w R A n c at_ fe fa true) (h : ¬ fe = 0) :
    Calls Try.prog 54 #[.pointer (some ⟨R, 0, none⟩), fv] w (RdPost R A n c at_ fe fa (.int .i64 0) w) := by
  have lR := Block.lt hR
  have hR2 : RD ((w.alloc (.cells #[.pointer (some ⟨R, 0, none⟩)] 48)).alloc (.cells #[.int .i64 0] 3)) R A n c at_ fe fa true := (Block.alloc hR _).alloc _
  have hn := none_any R A n c at_ fe fa true _ hR2
  have c2 : w.cell? ⟨R, 2, none⟩ = some (.int .i64 fe) := Block.cell hR 2
  have e1 : (fe == 0) = false := by simpa using h
  have e2 : (fe != 0) = true := by simpa using h
  clear h
  go_enter_defers Try.func54, Try.ntmps54
  go_wp2_with fail
  refine hn.mono ?_
  rintro e w1 ⟨rfl, rfl⟩
  go_wp2_with fail
  exact (show Leaves Try.prog Try.f54 _ _ [] .returning _ from ⟨.int .i64 0, by simp [results, Try.results54, go_sem], rfl, grown_of_below (bel_alloc (bel_alloc (Below.refl _ _) _) _) _, hR2⟩)
set_option maxRecDepth 100000 in
set_option maxHeartbeats 8000000 in
theorem read_int_ok (R : Nat) (A : Option Addr) (n c : Nat) (at_ fa : Int) (caps : Array Value) (v : Int) (nx f2 : Int) (w : World) (hR : RD w R A n c at_ 0 fa true)
    (hcl : ∀ w1, Below w.heap.size w w1 → Calls Try.prog 55 caps w1 fun e w' => e = .returned (.tuple #[.int .i64 v, .int .i64 nx, .agg #[.int .i64 0, .int .i64 f2]]) ∧ Below w1.heap.size w1 w') :
    Calls Try.prog 54 #[.pointer (some ⟨R, 0, none⟩), .func (Fn.func 55) #[] caps] w (RdPost R A n c nx 0 fa (.int .i64 v) w) := by
  have lR := Block.lt hR
  have hR2 : RD ((w.alloc (.cells #[.pointer (some ⟨R, 0, none⟩)] 48)).alloc (.cells #[.int .i64 0] 3)) R A n c at_ 0 fa true := (Block.alloc hR _).alloc _
  have hn := none_any R A n c at_ 0 fa true _ hR2
  have c2 : w.cell? ⟨R, 2, none⟩ = some (.int .i64 0) := Block.cell hR 2
  have hmf : ∀ (fn : Fn) (first cap : Array Value) (w : World), (Instr.makeFunc fn first cap).run Try.prog w = .ok (.func fn first cap) w := fun _ _ _ _ => rfl
  have hcall := hcl ((((w.alloc (.cells #[.pointer (some ⟨R, 0, none⟩)] 48)).alloc (.cells #[.int .i64 0] 3)).alloc (.cells #[.int .i64 0] 3)).alloc (.cells #[.int .i64 0, .int .i64 0] 37)) (bel_alloc (bel_alloc (bel_alloc (bel_alloc (Below.refl _ _) _) _) _) _)
  have B0 := ((((Block.new w 48 [.pointer (some ⟨R, 0, none⟩)]).alloc (.cells #[.int .i64 0] 3)).alloc (.cells #[.int .i64 0] 3)).alloc (.cells #[.int .i64 0, .int .i64 0] 37))
  have B1 : Block ((((w.alloc (.cells #[.pointer (some ⟨R, 0, none⟩)] 48)).alloc (.cells #[.int .i64 0] 3)).alloc (.cells #[.int .i64 0] 3)).alloc (.cells #[.int .i64 0, .int .i64 0] 37)) (w.heap.size + 1) 3 [.int .i64 0] := ((block_top (by simp)).alloc _).alloc _
  have B2 : Block ((((w.alloc (.cells #[.pointer (some ⟨R, 0, none⟩)] 48)).alloc (.cells #[.int .i64 0] 3)).alloc (.cells #[.int .i64 0] 3)).alloc (.cells #[.int .i64 0, .int .i64 0] 37)) (w.heap.size + 1 + 1) 3 [.int .i64 0] := (block_top (by simp)).alloc _
  have B3 : Block ((((w.alloc (.cells #[.pointer (some ⟨R, 0, none⟩)] 48)).alloc (.cells #[.int .i64 0] 3)).alloc (.cells #[.int .i64 0] 3)).alloc (.cells #[.int .i64 0, .int .i64 0] 37)) (w.heap.size + 1 + 1 + 1) 37 [.int .i64 0, .int .i64 0] := block_top (by simp)
  have BR := (((Block.alloc hR2 (.cells #[.int .i64 0] 3)).alloc (.cells #[.int .i64 0, .int .i64 0] 37)))
  clear hcl
  go_enter_defers Try.func54, Try.ntmps54
  go_wp2_with fail
  refine hn.mono ?_
  rintro e w1 ⟨rfl, rfl⟩
  go_wp2_with fail
  refine hcall.mono ?_
  rintro e w2 ⟨rfl, hb2⟩
  have bel2 := bel_call (w := w) (bel_alloc (bel_alloc (bel_alloc (bel_alloc (Below.refl _ _) _) _) _) _) hb2
  have B0 := B0.call hb2
  have B1 := B1.call hb2
  have B2 := B2.call hb2
  have B3 := B3.call hb2
  have BR := Block.call BR hb2
  have k1 : w2.cell? ⟨w.heap.size + 1, 0, none⟩ = some (.int .i64 0) := B1.cell 0
  have k2 : w2.cell? ⟨w.heap.size + 1 + 1, 0, none⟩ = some (.int .i64 0) := B2.cell 0
  have k3 : w2.cell? ⟨w.heap.size + 1 + 1 + 1, 0, none⟩ = some (.int .i64 0) := B3.cell 0
  have k4 : w2.cell? ⟨w.heap.size + 1 + 1 + 1, 1, none⟩ = some (.int .i64 0) := B3.cell 1
  have F1 := B1.free
  have F2 := B2.free
  have F3 := B3.free
  go_wp2_with fail
  refine leaves_cons (f := 57) (args := #[.pointer (some ⟨w.heap.size + 1 + 1 + 1, 0, none⟩), .pointer (some ⟨w.heap.size, 0, none⟩), .pointer (some ⟨w.heap.size + 1, 0, none⟩), .pointer (some ⟨w.heap.size + 1 + 1, 0, none⟩)]) (by simp) (by simp [go_sem]) ?_
  have D1 := ((((B1.set 0 (.int .i64 v)).far (p := ⟨w.heap.size + 1 + 1, 0, none⟩) (by dsimp only; omega) (.int .i64 nx)).far (p := ⟨w.heap.size + 1 + 1 + 1, 0, none⟩) (by dsimp only; omega) (.int .i64 0)).far (p := ⟨w.heap.size + 1 + 1 + 1, 1, none⟩) (by dsimp only; omega) (.int .i64 f2)).set 0 (.int .i64 v)
  have D2 := ((((B2.far (p := ⟨w.heap.size + 1, 0, none⟩) (by dsimp only; omega) (.int .i64 v)).set 0 (.int .i64 nx)).far (p := ⟨w.heap.size + 1 + 1 + 1, 0, none⟩) (by dsimp only; omega) (.int .i64 0)).far (p := ⟨w.heap.size + 1 + 1 + 1, 1, none⟩) (by dsimp only; omega) (.int .i64 f2)).far (p := ⟨w.heap.size + 1, 0, none⟩) (by dsimp only; omega) (.int .i64 v)
  have D3 := ((((B3.far (p := ⟨w.heap.size + 1, 0, none⟩) (by dsimp only; omega) (.int .i64 v)).far (p := ⟨w.heap.size + 1 + 1, 0, none⟩) (by dsimp only; omega) (.int .i64 nx)).set 0 (.int .i64 0)).set 1 (.int .i64 f2)).far (p := ⟨w.heap.size + 1, 0, none⟩) (by dsimp only; omega) (.int .i64 v)
  have D0 := ((((B0.far (p := ⟨w.heap.size + 1, 0, none⟩) (by dsimp only; omega) (.int .i64 v)).far (p := ⟨w.heap.size + 1 + 1, 0, none⟩) (by dsimp only; omega) (.int .i64 nx)).far (p := ⟨w.heap.size + 1 + 1 + 1, 0, none⟩) (by dsimp only; omega) (.int .i64 0)).far (p := ⟨w.heap.size + 1 + 1 + 1, 1, none⟩) (by dsimp only; omega) (.int .i64 f2)).far (p := ⟨w.heap.size + 1, 0, none⟩) (by dsimp only; omega) (.int .i64 v)
  have DR := ((((BR.far (p := ⟨w.heap.size + 1, 0, none⟩) (by dsimp only; omega) (.int .i64 v)).far (p := ⟨w.heap.size + 1 + 1, 0, none⟩) (by dsimp only; omega) (.int .i64 nx)).far (p := ⟨w.heap.size + 1 + 1 + 1, 0, none⟩) (by dsimp only; omega) (.int .i64 0)).far (p := ⟨w.heap.size + 1 + 1 + 1, 1, none⟩) (by dsimp only; omega) (.int .i64 f2)).far (p := ⟨w.heap.size + 1, 0, none⟩) (by dsimp only; omega) (.int .i64 v)
  have hgr := bel_set (p := ⟨w.heap.size + 1, 0, none⟩) (bel_set (p := ⟨w.heap.size + 1 + 1 + 1, 1, none⟩) (bel_set (p := ⟨w.heap.size + 1 + 1 + 1, 0, none⟩) (bel_set (p := ⟨w.heap.size + 1 + 1, 0, none⟩) (bel_set (p := ⟨w.heap.size + 1, 0, none⟩) bel2 (by dsimp only; omega) (.int .i64 v)) (by dsimp only; omega) (.int .i64 nx)) (by dsimp only; omega) (.int .i64 0)) (by dsimp only; omega) (.int .i64 f2)) (by dsimp only; omega) (.int .i64 v)
  have DX := D1.far (p := ⟨R, 1, none⟩) (by dsimp only; omega) (.int .i64 nx)
  have DS := DR.set 1 (.int .i64 nx)
  refine (def_int_ok _ _ (w.heap.size + 1) _ R nx _ (D3.cell 0) (D0.cell 0) (DR.cell 1) (D2.cell 0) DR.free).mono ?_
  rintro e u' w'' ⟨rfl, rfl, rfl⟩
  exact (show Leaves Try.prog Try.f54 _ _ [] .returning _ from ⟨.int .i64 v, res_cell rfl rfl agg_no3 (DX.cell 0), rfl, grown_set (p := ⟨R, 1, none⟩) (grown_of_below hgr _) rfl _, DS⟩)
set_option maxRecDepth 100000 in
set_option maxHeartbeats 8000000 in
theorem read_int_bad (R : Nat) (A : Option Addr) (n c : Nat) (at_ fa : Int) (caps : Array Value) (v : Int) (nx f1 f2 : Int) (w : World) (hR : RD w R A n c at_ 0 fa true)
    (h1 : ¬ f1 = 0)
    (hcl : ∀ w1, Below w.heap.size w w1 → Calls Try.prog 55 caps w1 fun e w' => e = .returned (.tuple #[.int .i64 v, .int .i64 nx, .agg #[.int .i64 f1, .int .i64 f2]]) ∧ Below w1.heap.size w1 w') :
    Calls Try.prog 54 #[.pointer (some ⟨R, 0, none⟩), .func (Fn.func 55) #[] caps] w (RdPost R A n c at_ f1 f2 (.int .i64 0) w) := by
  have lR := Block.lt hR
  have hR2 : RD ((w.alloc (.cells #[.pointer (some ⟨R, 0, none⟩)] 48)).alloc (.cells #[.int .i64 0] 3)) R A n c at_ 0 fa true := (Block.alloc hR _).alloc _
  have hn := none_any R A n c at_ 0 fa true _ hR2
  have c2 : w.cell? ⟨R, 2, none⟩ = some (.int .i64 0) := Block.cell hR 2
  have hmf : ∀ (fn : Fn) (first cap : Array Value) (w : World), (Instr.makeFunc fn first cap).run Try.prog w = .ok (.func fn first cap) w := fun _ _ _ _ => rfl
  have hcall := hcl ((((w.alloc (.cells #[.pointer (some ⟨R, 0, none⟩)] 48)).alloc (.cells #[.int .i64 0] 3)).alloc (.cells #[.int .i64 0] 3)).alloc (.cells #[.int .i64 0, .int .i64 0] 37)) (bel_alloc (bel_alloc (bel_alloc (bel_alloc (Below.refl _ _) _) _) _) _)
  have B0 := ((((Block.new w 48 [.pointer (some ⟨R, 0, none⟩)]).alloc (.cells #[.int .i64 0] 3)).alloc (.cells #[.int .i64 0] 3)).alloc (.cells #[.int .i64 0, .int .i64 0] 37))
  have B1 : Block ((((w.alloc (.cells #[.pointer (some ⟨R, 0, none⟩)] 48)).alloc (.cells #[.int .i64 0] 3)).alloc (.cells #[.int .i64 0] 3)).alloc (.cells #[.int .i64 0, .int .i64 0] 37)) (w.heap.size + 1) 3 [.int .i64 0] := ((block_top (by simp)).alloc _).alloc _
  have B2 : Block ((((w.alloc (.cells #[.pointer (some ⟨R, 0, none⟩)] 48)).alloc (.cells #[.int .i64 0] 3)).alloc (.cells #[.int .i64 0] 3)).alloc (.cells #[.int .i64 0, .int .i64 0] 37)) (w.heap.size + 1 + 1) 3 [.int .i64 0] := (block_top (by simp)).alloc _
  have B3 : Block ((((w.alloc (.cells #[.pointer (some ⟨R, 0, none⟩)] 48)).alloc (.cells #[.int .i64 0] 3)).alloc (.cells #[.int .i64 0] 3)).alloc (.cells #[.int .i64 0, .int .i64 0] 37)) (w.heap.size + 1 + 1 + 1) 37 [.int .i64 0, .int .i64 0] := block_top (by simp)
  have BR := (((Block.alloc hR2 (.cells #[.int .i64 0] 3)).alloc (.cells #[.int .i64 0, .int .i64 0] 37)))
  clear hcl
  go_enter_defers Try.func54, Try.ntmps54
  go_wp2_with fail
  refine hn.mono ?_
  rintro e w1 ⟨rfl, rfl⟩
  go_wp2_with fail
  refine hcall.mono ?_
  rintro e w2 ⟨rfl, hb2⟩
  have bel2 := bel_call (w := w) (bel_alloc (bel_alloc (bel_alloc (bel_alloc (Below.refl _ _) _) _) _) _) hb2
  have B0 := B0.call hb2
  have B1 := B1.call hb2
  have B2 := B2.call hb2
  have B3 := B3.call hb2
  have BR := Block.call BR hb2
  have k1 : w2.cell? ⟨w.heap.size + 1, 0, none⟩ = some (.int .i64 0) := B1.cell 0
  have k2 : w2.cell? ⟨w.heap.size + 1 + 1, 0, none⟩ = some (.int .i64 0) := B2.cell 0
  have k3 : w2.cell? ⟨w.heap.size + 1 + 1 + 1, 0, none⟩ = some (.int .i64 0) := B3.cell 0
  have k4 : w2.cell? ⟨w.heap.size + 1 + 1 + 1, 1, none⟩ = some (.int .i64 0) := B3.cell 1
  have F1 := B1.free
  have F2 := B2.free
  have F3 := B3.free
  go_wp2_with fail
  refine leaves_cons (f := 57) (args := #[.pointer (some ⟨w.heap.size + 1 + 1 + 1, 0, none⟩), .pointer (some ⟨w.heap.size, 0, none⟩), .pointer (some ⟨w.heap.size + 1, 0, none⟩), .pointer (some ⟨w.heap.size + 1 + 1, 0, none⟩)]) (by simp) (by simp [go_sem]) ?_
  have D1 := ((((B1.set 0 (.int .i64 v)).far (p := ⟨w.heap.size + 1 + 1, 0, none⟩) (by dsimp only; omega) (.int .i64 nx)).far (p := ⟨w.heap.size + 1 + 1 + 1, 0, none⟩) (by dsimp only; omega) (.int .i64 f1)).far (p := ⟨w.heap.size + 1 + 1 + 1, 1, none⟩) (by dsimp only; omega) (.int .i64 f2)).set 0 (.int .i64 v)
  have D2 := ((((B2.far (p := ⟨w.heap.size + 1, 0, none⟩) (by dsimp only; omega) (.int .i64 v)).set 0 (.int .i64 nx)).far (p := ⟨w.heap.size + 1 + 1 + 1, 0, none⟩) (by dsimp only; omega) (.int .i64 f1)).far (p := ⟨w.heap.size + 1 + 1 + 1, 1, none⟩) (by dsimp only; omega) (.int .i64 f2)).far (p := ⟨w.heap.size + 1, 0, none⟩) (by dsimp only; omega) (.int .i64 v)
  have D3 := ((((B3.far (p := ⟨w.heap.size + 1, 0, none⟩) (by dsimp only; omega) (.int .i64 v)).far (p := ⟨w.heap.size + 1 + 1, 0, none⟩) (by dsimp only; omega) (.int .i64 nx)).set 0 (.int .i64 f1)).set 1 (.int .i64 f2)).far (p := ⟨w.heap.size + 1, 0, none⟩) (by dsimp only; omega) (.int .i64 v)
  have D0 := ((((B0.far (p := ⟨w.heap.size + 1, 0, none⟩) (by dsimp only; omega) (.int .i64 v)).far (p := ⟨w.heap.size + 1 + 1, 0, none⟩) (by dsimp only; omega) (.int .i64 nx)).far (p := ⟨w.heap.size + 1 + 1 + 1, 0, none⟩) (by dsimp only; omega) (.int .i64 f1)).far (p := ⟨w.heap.size + 1 + 1 + 1, 1, none⟩) (by dsimp only; omega) (.int .i64 f2)).far (p := ⟨w.heap.size + 1, 0, none⟩) (by dsimp only; omega) (.int .i64 v)
  have DR := ((((BR.far (p := ⟨w.heap.size + 1, 0, none⟩) (by dsimp only; omega) (.int .i64 v)).far (p := ⟨w.heap.size + 1 + 1, 0, none⟩) (by dsimp only; omega) (.int .i64 nx)).far (p := ⟨w.heap.size + 1 + 1 + 1, 0, none⟩) (by dsimp only; omega) (.int .i64 f1)).far (p := ⟨w.heap.size + 1 + 1 + 1, 1, none⟩) (by dsimp only; omega) (.int .i64 f2)).far (p := ⟨w.heap.size + 1, 0, none⟩) (by dsimp only; omega) (.int .i64 v)
  have hgr := bel_set (p := ⟨w.heap.size + 1, 0, none⟩) (bel_set (p := ⟨w.heap.size + 1 + 1 + 1, 1, none⟩) (bel_set (p := ⟨w.heap.size + 1 + 1 + 1, 0, none⟩) (bel_set (p := ⟨w.heap.size + 1 + 1, 0, none⟩) (bel_set (p := ⟨w.heap.size + 1, 0, none⟩) bel2 (by dsimp only; omega) (.int .i64 v)) (by dsimp only; omega) (.int .i64 nx)) (by dsimp only; omega) (.int .i64 f1)) (by dsimp only; omega) (.int .i64 f2)) (by dsimp only; omega) (.int .i64 v)
  have DX := (((D1.far (p := ⟨R, 2, none⟩) (by dsimp only; omega) (.int .i64 f1)).far (p := ⟨R, 3, none⟩) (by dsimp only; omega) (.int .i64 f2)).set 0 (.int .i64 0))
  have DS := (((DR.set 2 (.int .i64 f1)).set 3 (.int .i64 f2)).far (p := ⟨w.heap.size + 1, 0, none⟩) (by dsimp only; omega) (.int .i64 0))
  have E3 : Block _ _ 37 [.int .i64 f1, .int .i64 f2] := D3
  have E0 : Block _ _ 48 [.pointer (some ⟨R, 0, none⟩)] := D0
  have ER : Block _ _ 53 [.slice A n c, .int .i64 at_, .int .i64 0, .int .i64 fa, .bool true] := DR
  have E1 : Block _ _ 3 [.int .i64 v] := D1
  have t0 := E3.cell 0
  have t1 := E3.cell 1
  have t2 := E0.cell 0
  have t3 := ER.cell 2
  have t4 := ER.cell 3
  have t5 := E1.cell 0
  simp only [List.getElem?_cons_zero, List.getElem?_cons_succ] at t0 t1 t2 t3 t4 t5
  refine (def_int_err _ _ (w.heap.size + 1) _ R f1 f2 _ t0 t1 t2 t3 t4 t5 DR.free D1.free (by omega) (by omega) (by omega) (by omega) h1).mono ?_
  rintro e u' w'' ⟨rfl, rfl, rfl⟩
  refine (show Leaves Try.prog Try.f54 _ _ [] .returning _ from ⟨.int .i64 0, ?_, rfl, ?_, ?_⟩)
  · exact res_cell rfl rfl agg_no3 (DX.cell 0)
  · exact grown_new (p := ⟨w.heap.size + 1, 0, none⟩) (grown_set (p := ⟨R, 3, none⟩) (grown_set (p := ⟨R, 2, none⟩) (grown_of_below hgr _) rfl _) rfl _) (by dsimp only; omega) _
  · exact DS
set_option maxRecDepth 100000 in
set_option maxHeartbeats 4000000 in
theorem read_string_err (R : Nat) (A : Option Addr) (n c : Nat) (at_ fe fa : Int) (fv : Value) (w : World) (hR : RD w R A n c at_ fe fa true) (h : ¬ fe = 0) :
    Calls Try.prog 52 #[.pointer (some ⟨R, 0, none⟩), fv] w (RdPost R A n c at_ fe fa (.string ⟨#[]⟩) w) := by
  have lR := Block.lt hR
  have hR2 : RD ((w.alloc (.cells #[.pointer (some ⟨R, 0, none⟩)] 48)).alloc (.cells #[.string ⟨#[]⟩] 9)) R A n c at_ fe fa true := (Block.alloc hR _).alloc _
  have hn := none_any R A n c at_ fe fa true _ hR2
  have c2 : w.cell? ⟨R, 2, none⟩ = some (.int .i64 fe) := Block.cell hR 2
  have e1 : (fe == 0) = false := by simpa using h
  have e2 : (fe != 0) = true := by simpa using h
  clear h
  go_enter_defers Try.func52, Try.ntmps52
  go_wp2_with fail
  refine hn.mono ?_
  rintro e w1 ⟨rfl, rfl⟩
  go_wp2_with fail
  exact (show Leaves Try.prog Try.f52 _ _ [] .returning _ from ⟨.string ⟨#[]⟩, by simp [results, Try.results52, go_sem], rfl, grown_of_below (bel_alloc (bel_alloc (Below.refl _ _) _) _) _, hR2⟩)
set_option maxRecDepth 100000 in
set_option maxHeartbeats 8000000 in
theorem read_string_ok (R : Nat) (A : Option Addr) (n c : Nat) (at_ fa : Int) (caps : Array Value) (v : ByteArray) (nx f2 : Int) (w : World) (hR : RD w R A n c at_ 0 fa true)
    (hcl : ∀ w1, Below w.heap.size w w1 → Calls Try.prog 53 caps w1 fun e w' => e = .returned (.tuple #[.string v, .int .i64 nx, .agg #[.int .i64 0, .int .i64 f2]]) ∧ Below w1.heap.size w1 w') :
    Calls Try.prog 52 #[.pointer (some ⟨R, 0, none⟩), .func (Fn.func 53) #[] caps] w (RdPost R A n c nx 0 fa (.string v) w) := by
  have lR := Block.lt hR
  have hR2 : RD ((w.alloc (.cells #[.pointer (some ⟨R, 0, none⟩)] 48)).alloc (.cells #[.string ⟨#[]⟩] 9)) R A n c at_ 0 fa true := (Block.alloc hR _).alloc _
  have hn := none_any R A n c at_ 0 fa true _ hR2
  have c2 : w.cell? ⟨R, 2, none⟩ = some (.int .i64 0) := Block.cell hR 2
  have hmf : ∀ (fn : Fn) (first cap : Array Value) (w : World), (Instr.makeFunc fn first cap).run Try.prog w = .ok (.func fn first cap) w := fun _ _ _ _ => rfl
  have hcall := hcl ((((w.alloc (.cells #[.pointer (some ⟨R, 0, none⟩)] 48)).alloc (.cells #[.string ⟨#[]⟩] 9)).alloc (.cells #[.int .i64 0] 3)).alloc (.cells #[.int .i64 0, .int .i64 0] 37)) (bel_alloc (bel_alloc (bel_alloc (bel_alloc (Below.refl _ _) _) _) _) _)
  have B0 := ((((Block.new w 48 [.pointer (some ⟨R, 0, none⟩)]).alloc (.cells #[.string ⟨#[]⟩] 9)).alloc (.cells #[.int .i64 0] 3)).alloc (.cells #[.int .i64 0, .int .i64 0] 37))
  have B1 : Block ((((w.alloc (.cells #[.pointer (some ⟨R, 0, none⟩)] 48)).alloc (.cells #[.string ⟨#[]⟩] 9)).alloc (.cells #[.int .i64 0] 3)).alloc (.cells #[.int .i64 0, .int .i64 0] 37)) (w.heap.size + 1) 9 [.string ⟨#[]⟩] := ((block_top (by simp)).alloc _).alloc _
  have B2 : Block ((((w.alloc (.cells #[.pointer (some ⟨R, 0, none⟩)] 48)).alloc (.cells #[.string ⟨#[]⟩] 9)).alloc (.cells #[.int .i64 0] 3)).alloc (.cells #[.int .i64 0, .int .i64 0] 37)) (w.heap.size + 1 + 1) 3 [.int .i64 0] := (block_top (by simp)).alloc _
  have B3 : Block ((((w.alloc (.cells #[.pointer (some ⟨R, 0, none⟩)] 48)).alloc (.cells #[.string ⟨#[]⟩] 9)).alloc (.cells #[.int .i64 0] 3)).alloc (.cells #[.int .i64 0, .int .i64 0] 37)) (w.heap.size + 1 + 1 + 1) 37 [.int .i64 0, .int .i64 0] := block_top (by simp)
  have BR := (((Block.alloc hR2 (.cells #[.int .i64 0] 3)).alloc (.cells #[.int .i64 0, .int .i64 0] 37)))
  clear hcl
  go_enter_defers Try.func52, Try.ntmps52
  go_wp2_with fail
  refine hn.mono ?_
  rintro e w1 ⟨rfl, rfl⟩
  go_wp2_with fail
  refine hcall.mono ?_
  rintro e w2 ⟨rfl, hb2⟩
  have bel2 := bel_call (w := w) (bel_alloc (bel_alloc (bel_alloc (bel_alloc (Below.refl _ _) _) _) _) _) hb2
  have B0 := B0.call hb2
  have B1 := B1.call hb2
  have B2 := B2.call hb2
  have B3 := B3.call hb2
  have BR := Block.call BR hb2
  have k1 : w2.cell? ⟨w.heap.size + 1, 0, none⟩ = some (.string ⟨#[]⟩) := B1.cell 0
  have k2 : w2.cell? ⟨w.heap.size + 1 + 1, 0, none⟩ = some (.int .i64 0) := B2.cell 0
  have k3 : w2.cell? ⟨w.heap.size + 1 + 1 + 1, 0, none⟩ = some (.int .i64 0) := B3.cell 0
  have k4 : w2.cell? ⟨w.heap.size + 1 + 1 + 1, 1, none⟩ = some (.int .i64 0) := B3.cell 1
  have F1 := B1.free
  have F2 := B2.free
  have F3 := B3.free
  go_wp2_with fail
  refine leaves_cons (f := 56) (args := #[.pointer (some ⟨w.heap.size + 1 + 1 + 1, 0, none⟩), .pointer (some ⟨w.heap.size, 0, none⟩), .pointer (some ⟨w.heap.size + 1, 0, none⟩), .pointer (some ⟨w.heap.size + 1 + 1, 0, none⟩)]) (by simp) (by simp [go_sem]) ?_
  have D1 := ((((B1.set 0 (.string v)).far (p := ⟨w.heap.size + 1 + 1, 0, none⟩) (by dsimp only; omega) (.int .i64 nx)).far (p := ⟨w.heap.size + 1 + 1 + 1, 0, none⟩) (by dsimp only; omega) (.int .i64 0)).far (p := ⟨w.heap.size + 1 + 1 + 1, 1, none⟩) (by dsimp only; omega) (.int .i64 f2)).set 0 (.string v)
  have D2 := ((((B2.far (p := ⟨w.heap.size + 1, 0, none⟩) (by dsimp only; omega) (.string v)).set 0 (.int .i64 nx)).far (p := ⟨w.heap.size + 1 + 1 + 1, 0, none⟩) (by dsimp only; omega) (.int .i64 0)).far (p := ⟨w.heap.size + 1 + 1 + 1, 1, none⟩) (by dsimp only; omega) (.int .i64 f2)).far (p := ⟨w.heap.size + 1, 0, none⟩) (by dsimp only; omega) (.string v)
  have D3 := ((((B3.far (p := ⟨w.heap.size + 1, 0, none⟩) (by dsimp only; omega) (.string v)).far (p := ⟨w.heap.size + 1 + 1, 0, none⟩) (by dsimp only; omega) (.int .i64 nx)).set 0 (.int .i64 0)).set 1 (.int .i64 f2)).far (p := ⟨w.heap.size + 1, 0, none⟩) (by dsimp only; omega) (.string v)
  have D0 := ((((B0.far (p := ⟨w.heap.size + 1, 0, none⟩) (by dsimp only; omega) (.string v)).far (p := ⟨w.heap.size + 1 + 1, 0, none⟩) (by dsimp only; omega) (.int .i64 nx)).far (p := ⟨w.heap.size + 1 + 1 + 1, 0, none⟩) (by dsimp only; omega) (.int .i64 0)).far (p := ⟨w.heap.size + 1 + 1 + 1, 1, none⟩) (by dsimp only; omega) (.int .i64 f2)).far (p := ⟨w.heap.size + 1, 0, none⟩) (by dsimp only; omega) (.string v)
  have DR := ((((BR.far (p := ⟨w.heap.size + 1, 0, none⟩) (by dsimp only; omega) (.string v)).far (p := ⟨w.heap.size + 1 + 1, 0, none⟩) (by dsimp only; omega) (.int .i64 nx)).far (p := ⟨w.heap.size + 1 + 1 + 1, 0, none⟩) (by dsimp only; omega) (.int .i64 0)).far (p := ⟨w.heap.size + 1 + 1 + 1, 1, none⟩) (by dsimp only; omega) (.int .i64 f2)).far (p := ⟨w.heap.size + 1, 0, none⟩) (by dsimp only; omega) (.string v)
  have hgr := bel_set (p := ⟨w.heap.size + 1, 0, none⟩) (bel_set (p := ⟨w.heap.size + 1 + 1 + 1, 1, none⟩) (bel_set (p := ⟨w.heap.size + 1 + 1 + 1, 0, none⟩) (bel_set (p := ⟨w.heap.size + 1 + 1, 0, none⟩) (bel_set (p := ⟨w.heap.size + 1, 0, none⟩) bel2 (by dsimp only; omega) (.string v)) (by dsimp only; omega) (.int .i64 nx)) (by dsimp only; omega) (.int .i64 0)) (by dsimp only; omega) (.int .i64 f2)) (by dsimp only; omega) (.string v)
  have DX := D1.far (p := ⟨R, 1, none⟩) (by dsimp only; omega) (.int .i64 nx)
  have DS := DR.set 1 (.int .i64 nx)
  refine (def_string_ok _ _ (w.heap.size + 1) _ R nx _ (D3.cell 0) (D0.cell 0) (DR.cell 1) (D2.cell 0) DR.free).mono ?_
  rintro e u' w'' ⟨rfl, rfl, rfl⟩
  exact (show Leaves Try.prog Try.f52 _ _ [] .returning _ from ⟨.string v, res_cell rfl rfl agg_no9 (DX.cell 0), rfl, grown_set (p := ⟨R, 1, none⟩) (grown_of_below hgr _) rfl _, DS⟩)
set_option maxRecDepth 100000 in
set_option maxHeartbeats 8000000 in
theorem read_string_bad (R : Nat) (A : Option Addr) (n c : Nat) (at_ fa : Int) (caps : Array Value) (v : ByteArray) (nx f1 f2 : Int) (w : World) (hR : RD w R A n c at_ 0 fa true)
    (h1 : ¬ f1 = 0)
    (hcl : ∀ w1, Below w.heap.size w w1 → Calls Try.prog 53 caps w1 fun e w' => e = .returned (.tuple #[.string v, .int .i64 nx, .agg #[.int .i64 f1, .int .i64 f2]]) ∧ Below w1.heap.size w1 w') :
    Calls Try.prog 52 #[.pointer (some ⟨R, 0, none⟩), .func (Fn.func 53) #[] caps] w (RdPost R A n c at_ f1 f2 (.string ⟨#[]⟩) w) := by
  have lR := Block.lt hR
  have hR2 : RD ((w.alloc (.cells #[.pointer (some ⟨R, 0, none⟩)] 48)).alloc (.cells #[.string ⟨#[]⟩] 9)) R A n c at_ 0 fa true := (Block.alloc hR _).alloc _
  have hn := none_any R A n c at_ 0 fa true _ hR2
  have c2 : w.cell? ⟨R, 2, none⟩ = some (.int .i64 0) := Block.cell hR 2
  have hmf : ∀ (fn : Fn) (first cap : Array Value) (w : World), (Instr.makeFunc fn first cap).run Try.prog w = .ok (.func fn first cap) w := fun _ _ _ _ => rfl
  have hcall := hcl ((((w.alloc (.cells #[.pointer (some ⟨R, 0, none⟩)] 48)).alloc (.cells #[.string ⟨#[]⟩] 9)).alloc (.cells #[.int .i64 0] 3)).alloc (.cells #[.int .i64 0, .int .i64 0] 37)) (bel_alloc (bel_alloc (bel_alloc (bel_alloc (Below.refl _ _) _) _) _) _)
  have B0 := ((((Block.new w 48 [.pointer (some ⟨R, 0, none⟩)]).alloc (.cells #[.string ⟨#[]⟩] 9)).alloc (.cells #[.int .i64 0] 3)).alloc (.cells #[.int .i64 0, .int .i64 0] 37))
  have B1 : Block ((((w.alloc (.cells #[.pointer (some ⟨R, 0, none⟩)] 48)).alloc (.cells #[.string ⟨#[]⟩] 9)).alloc (.cells #[.int .i64 0] 3)).alloc (.cells #[.int .i64 0, .int .i64 0] 37)) (w.heap.size + 1) 9 [.string ⟨#[]⟩] := ((block_top (by simp)).alloc _).alloc _
  have B2 : Block ((((w.alloc (.cells #[.pointer (some ⟨R, 0, none⟩)] 48)).alloc (.cells #[.string ⟨#[]⟩] 9)).alloc (.cells #[.int .i64 0] 3)).alloc (.cells #[.int .i64 0, .int .i64 0] 37)) (w.heap.size + 1 + 1) 3 [.int .i64 0] := (block_top (by simp)).alloc _
  have B3 : Block ((((w.alloc (.cells #[.pointer (some ⟨R, 0, none⟩)] 48)).alloc (.cells #[.string ⟨#[]⟩] 9)).alloc (.cells #[.int .i64 0] 3)).alloc (.cells #[.int .i64 0, .int .i64 0] 37)) (w.heap.size + 1 + 1 + 1) 37 [.int .i64 0, .int .i64 0] := block_top (by simp)
  have BR := (((Block.alloc hR2 (.cells #[.int .i64 0] 3)).alloc (.cells #[.int .i64 0, .int .i64 0] 37)))
  clear hcl
  go_enter_defers Try.func52, Try.ntmps52
  go_wp2_with fail
  refine hn.mono ?_
  rintro e w1 ⟨rfl, rfl⟩
  go_wp2_with fail
  refine hcall.mono ?_
  rintro e w2 ⟨rfl, hb2⟩
  have bel2 := bel_call (w := w) (bel_alloc (bel_alloc (bel_alloc (bel_alloc (Below.refl _ _) _) _) _) _) hb2
  have B0 := B0.call hb2
  have B1 := B1.call hb2
  have B2 := B2.call hb2
  have B3 := B3.call hb2
  have BR := Block.call BR hb2
  have k1 : w2.cell? ⟨w.heap.size + 1, 0, none⟩ = some (.string ⟨#[]⟩) := B1.cell 0
  have k2 : w2.cell? ⟨w.heap.size + 1 + 1, 0, none⟩ = some (.int .i64 0) := B2.cell 0
  have k3 : w2.cell? ⟨w.heap.size + 1 + 1 + 1, 0, none⟩ = some (.int .i64 0) := B3.cell 0
  have k4 : w2.cell? ⟨w.heap.size + 1 + 1 + 1, 1, none⟩ = some (.int .i64 0) := B3.cell 1
  have F1 := B1.free
  have F2 := B2.free
  have F3 := B3.free
  go_wp2_with fail
  refine leaves_cons (f := 56) (args := #[.pointer (some ⟨w.heap.size + 1 + 1 + 1, 0, none⟩), .pointer (some ⟨w.heap.size, 0, none⟩), .pointer (some ⟨w.heap.size + 1, 0, none⟩), .pointer (some ⟨w.heap.size + 1 + 1, 0, none⟩)]) (by simp) (by simp [go_sem]) ?_
  have D1 := ((((B1.set 0 (.string v)).far (p := ⟨w.heap.size + 1 + 1, 0, none⟩) (by dsimp only; omega) (.int .i64 nx)).far (p := ⟨w.heap.size + 1 + 1 + 1, 0, none⟩) (by dsimp only; omega) (.int .i64 f1)).far (p := ⟨w.heap.size + 1 + 1 + 1, 1, none⟩) (by dsimp only; omega) (.int .i64 f2)).set 0 (.string v)
  have D2 := ((((B2.far (p := ⟨w.heap.size + 1, 0, none⟩) (by dsimp only; omega) (.string v)).set 0 (.int .i64 nx)).far (p := ⟨w.heap.size + 1 + 1 + 1, 0, none⟩) (by dsimp only; omega) (.int .i64 f1)).far (p := ⟨w.heap.size + 1 + 1 + 1, 1, none⟩) (by dsimp only; omega) (.int .i64 f2)).far (p := ⟨w.heap.size + 1, 0, none⟩) (by dsimp only; omega) (.string v)
  have D3 := ((((B3.far (p := ⟨w.heap.size + 1, 0, none⟩) (by dsimp only; omega) (.string v)).far (p := ⟨w.heap.size + 1 + 1, 0, none⟩) (by dsimp only; omega) (.int .i64 nx)).set 0 (.int .i64 f1)).set 1 (.int .i64 f2)).far (p := ⟨w.heap.size + 1, 0, none⟩) (by dsimp only; omega) (.string v)
  have D0 := ((((B0.far (p := ⟨w.heap.size + 1, 0, none⟩) (by dsimp only; omega) (.string v)).far (p := ⟨w.heap.size + 1 + 1, 0, none⟩) (by dsimp only; omega) (.int .i64 nx)).far (p := ⟨w.heap.size + 1 + 1 + 1, 0, none⟩) (by dsimp only; omega) (.int .i64 f1)).far (p := ⟨w.heap.size + 1 + 1 + 1, 1, none⟩) (by dsimp only; omega) (.int .i64 f2)).far (p := ⟨w.heap.size + 1, 0, none⟩) (by dsimp only; omega) (.string v)
  have DR := ((((BR.far (p := ⟨w.heap.size + 1, 0, none⟩) (by dsimp only; omega) (.string v)).far (p := ⟨w.heap.size + 1 + 1, 0, none⟩) (by dsimp only; omega) (.int .i64 nx)).far (p := ⟨w.heap.size + 1 + 1 + 1, 0, none⟩) (by dsimp only; omega) (.int .i64 f1)).far (p := ⟨w.heap.size + 1 + 1 + 1, 1, none⟩) (by dsimp only; omega) (.int .i64 f2)).far (p := ⟨w.heap.size + 1, 0, none⟩) (by dsimp only; omega) (.string v)
  have hgr := bel_set (p := ⟨w.heap.size + 1, 0, none⟩) (bel_set (p := ⟨w.heap.size + 1 + 1 + 1, 1, none⟩) (bel_set (p := ⟨w.heap.size + 1 + 1 + 1, 0, none⟩) (bel_set (p := ⟨w.heap.size + 1 + 1, 0, none⟩) (bel_set (p := ⟨w.heap.size + 1, 0, none⟩) bel2 (by dsimp only; omega) (.string v)) (by dsimp only; omega) (.int .i64 nx)) (by dsimp only; omega) (.int .i64 f1)) (by dsimp only; omega) (.int .i64 f2)) (by dsimp only; omega) (.string v)
  have DX := (((D1.far (p := ⟨R, 2, none⟩) (by dsimp only; omega) (.int .i64 f1)).far (p := ⟨R, 3, none⟩) (by dsimp only; omega) (.int .i64 f2)).set 0 (.string ⟨#[]⟩))
  have DS := (((DR.set 2 (.int .i64 f1)).set 3 (.int .i64 f2)).far (p := ⟨w.heap.size + 1, 0, none⟩) (by dsimp only; omega) (.string ⟨#[]⟩))
  have E3 : Block _ _ 37 [.int .i64 f1, .int .i64 f2] := D3
  have E0 : Block _ _ 48 [.pointer (some ⟨R, 0, none⟩)] := D0
  have ER : Block _ _ 53 [.slice A n c, .int .i64 at_, .int .i64 0, .int .i64 fa, .bool true] := DR
  have E1 : Block _ _ 9 [.string v] := D1
  have t0 := E3.cell 0
  have t1 := E3.cell 1
  have t2 := E0.cell 0
  have t3 := ER.cell 2
  have t4 := ER.cell 3
  have t5 := E1.cell 0
  simp only [List.getElem?_cons_zero, List.getElem?_cons_succ] at t0 t1 t2 t3 t4 t5
  refine (def_string_err _ _ (w.heap.size + 1) _ R f1 f2 _ t0 t1 t2 t3 t4 t5 DR.free D1.free (by omega) (by omega) (by omega) (by omega) h1).mono ?_
  rintro e u' w'' ⟨rfl, rfl, rfl⟩
  refine (show Leaves Try.prog Try.f52 _ _ [] .returning _ from ⟨.string ⟨#[]⟩, ?_, rfl, ?_, ?_⟩)
  · exact res_cell rfl rfl agg_no9 (DX.cell 0)
  · exact grown_new (p := ⟨w.heap.size + 1, 0, none⟩) (grown_set (p := ⟨R, 3, none⟩) (grown_set (p := ⟨R, 2, none⟩) (grown_of_below hgr _) rfl _) rfl _) (by dsimp only; omega) _
  · exact DS
end Go.Proofs.Ytnhiipiciondoaa
