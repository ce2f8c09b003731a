/- Lemmas for it; no condition: TCmp TKit TMap. -/
import Derived.Test.YthmhdaefkhcenaaGreatDoorZ08
import Derived.Deep.RegionHeld3
import Derived.Handy
import Derived.Maps.OwnOps
set_option linter.unusedVariables false
set_option linter.unusedSimpArgs false
namespace Go.Proofs.YthmhdaefkhcenaaGreatDoor
open Go.RowKit

def cmpI (x y : Int) : Int := if x < y then -1 else if y < x then 1 else 0
def or2 (a b : Int) : Int := if a ≠ 0 then a else b
theorem cmpI_lt {x y : Int} (h : x < y) : cmpI x y = -1 := by unfold cmpI; rw [if_pos h]
theorem cmpI_gt {x y : Int} (h : y < x) : cmpI x y = 1 := by unfold cmpI; rw [if_neg (by omega), if_pos h]
theorem cmpI_eq (x : Int) : cmpI x x = 0 := by unfold cmpI; rw [if_neg (by omega), if_neg (by omega)]
theorem cmpI_range (x y : Int) : -1 ≤ cmpI x y ∧ cmpI x y ≤ 1 := by
  rcases (by omega : x < y ∨ y < x ∨ x = y) with h | h | h
  · rw [cmpI_lt h]; omega
  · rw [cmpI_gt h]; omega
  · subst h; rw [cmpI_eq]; omega
theorem cell_top {W : World} {xs : Array Value} {t : TypeId} {g i : Nat} (hg : W.heap.size = g) : (W.alloc (.cells xs t)).cell? ⟨g, i, none⟩ = xs[i]? := by
  subst hg
  exact World.cell?_alloc_new ..
set_option maxRecDepth 100000 in
set_option maxHeartbeats 1000000 in
theorem isNaN_any (x : Int) (w : World) : Calls Tryz.prog 316 #[.int .i64 x] w fun e w' => e = .returned (.bool false) ∧ w = w' := by
  go_enter Tryz.func316, Tryz.ntmps316
  go_wp2
  go_ret
  exact ⟨by first | rfl | simp, rfl⟩
set_option maxRecDepth 100000 in
set_option maxHeartbeats 1000000 in
theorem isNaN_u (x : Int) (w : World) : Calls Tryz.prog 400 #[.int .u64 x] w fun e w' => e = .returned (.bool false) ∧ w = w' := by
  go_enter Tryz.func400, Tryz.ntmps400
  go_wp2
  go_ret
  exact ⟨by first | rfl | simp, rfl⟩
set_option maxRecDepth 100000 in
set_option maxHeartbeats 1000000 in
theorem compare_any (x y : Int) (w : World) : Calls Tryz.prog 266 #[.int .i64 x, .int .i64 y] w fun e w' => e = .returned (.int .i64 (cmpI x y)) ∧ w = w' := by
  rcases (by omega : x < y ∨ (¬ x < y ∧ y < x) ∨ (¬ x < y ∧ ¬ y < x)) with h | ⟨h1, h2⟩ | ⟨h1, h2⟩
  · have hr := Lib.hid (show cmpI x y = -1 by unfold cmpI; rw [if_pos h])
    go_enter Tryz.func266, Tryz.ntmps266
    go_wp2_with (go_at_call 316; refine (isNaN_any _ _).mono ?_; rintro e w1 ⟨rfl, rfl⟩)
    go_ret
    exact ⟨by rw [hr.out]; rfl, rfl⟩
  · have hr := Lib.hid (show cmpI x y = 1 by unfold cmpI; rw [if_neg h1, if_pos h2])
    go_enter Tryz.func266, Tryz.ntmps266
    go_wp2_with (go_at_call 316; refine (isNaN_any _ _).mono ?_; rintro e w1 ⟨rfl, rfl⟩)
    go_ret
    exact ⟨by rw [hr.out]; rfl, rfl⟩
  · have hr := Lib.hid (show cmpI x y = 0 by unfold cmpI; rw [if_neg h1, if_neg h2])
    go_enter Tryz.func266, Tryz.ntmps266
    go_wp2_with (go_at_call 316; refine (isNaN_any _ _).mono ?_; rintro e w1 ⟨rfl, rfl⟩)
    go_ret
    exact ⟨by rw [hr.out]; rfl, rfl⟩
set_option maxRecDepth 100000 in
set_option maxHeartbeats 1000000 in
theorem compare_u (x y : Int) (w : World) : Calls Tryz.prog 347 #[.int .u64 x, .int .u64 y] w fun e w' => e = .returned (.int .i64 (cmpI x y)) ∧ w = w' := by
  rcases (by omega : x < y ∨ (¬ x < y ∧ y < x) ∨ (¬ x < y ∧ ¬ y < x)) with h | ⟨h1, h2⟩ | ⟨h1, h2⟩
  · have hr := Lib.hid (show cmpI x y = -1 by unfold cmpI; rw [if_pos h])
    go_enter Tryz.func347, Tryz.ntmps347
    go_wp2_with (go_at_call 400; refine (isNaN_u _ _).mono ?_; rintro e w1 ⟨rfl, rfl⟩)
    go_ret
    exact ⟨by rw [hr.out]; rfl, rfl⟩
  · have hr := Lib.hid (show cmpI x y = 1 by unfold cmpI; rw [if_neg h1, if_pos h2])
    go_enter Tryz.func347, Tryz.ntmps347
    go_wp2_with (go_at_call 400; refine (isNaN_u _ _).mono ?_; rintro e w1 ⟨rfl, rfl⟩)
    go_ret
    exact ⟨by rw [hr.out]; rfl, rfl⟩
  · have hr := Lib.hid (show cmpI x y = 0 by unfold cmpI; rw [if_neg h1, if_neg h2])
    go_enter Tryz.func347, Tryz.ntmps347
    go_wp2_with (go_at_call 400; refine (isNaN_u _ _).mono ?_; rintro e w1 ⟨rfl, rfl⟩)
    go_ret
    exact ⟨by rw [hr.out]; rfl, rfl⟩
set_option maxRecDepth 100000 in
set_option maxHeartbeats 2000000 in
theorem or2_any (a b : Int) (g : Nat) (w : World) (h0 : w.cell? ⟨g, 0, none⟩ = some (.int .i64 a)) (h1 : w.cell? ⟨g, 1, none⟩ = some (.int .i64 b)) :
    Calls Tryz.prog 265 #[.slice (some ⟨g, 0, none⟩) 2 2] w fun e w' => e = .returned (.int .i64 (or2 a b)) ∧ w = w' := by
  rcases (by omega : a ≠ 0 ∨ (a = 0 ∧ b ≠ 0) ∨ (a = 0 ∧ b = 0)) with h | ⟨ha, h⟩ | ⟨ha, hb⟩
  · have hr := Lib.hid (show or2 a b = a by unfold or2; rw [if_pos h])
    have k1 : (a == 0) = false := by simpa using h
    have k2 : (a != 0) = true := by simpa using h
    clear h
    go_enter Tryz.func265, Tryz.ntmps265
    go_wp2_with fail
    go_loop [8] (fun i => i = .int .i64 0) (fun i => 2 - (intOf i).toNat)
    case atStart => rfl
    case round =>
      subst hrel
      go_wp2_with fail
      go_ret
      exact ⟨by rw [hr.out]; rfl, rfl⟩
  · subst ha
    have hr := Lib.hid (show or2 0 b = b by unfold or2; rw [if_neg (by omega)])
    have k1 : (b == 0) = false := by simpa using h
    have k2 : (b != 0) = true := by simpa using h
    clear h
    go_enter Tryz.func265, Tryz.ntmps265
    go_wp2_with fail
    go_loop [8] (fun i => ∃ k : Nat, k ≤ 1 ∧ i = .int .i64 k) (fun i => 2 - (intOf i).toNat)
    case atStart => exact ⟨0, by omega, rfl⟩
    case round =>
      obtain ⟨k, hk, rfl⟩ := hrel
      rcases (by omega : k = 0 ∨ k = 1) with rfl | rfl
      · go_wp2_with fail
        go_round
        case rel => exact ⟨1, by omega, by first | rfl | go_num⟩
        case measure => simp [intOf]
      · go_wp2_with fail
        go_ret
        exact ⟨by rw [hr.out]; rfl, rfl⟩
  · subst ha
    subst hb
    have hr := Lib.hid (show or2 0 0 = 0 by rfl)
    go_enter Tryz.func265, Tryz.ntmps265
    go_wp2_with fail
    go_loop [8] (fun i => ∃ k : Nat, k ≤ 2 ∧ i = .int .i64 k) (fun i => 2 - (intOf i).toNat)
    case atStart => exact ⟨0, by omega, rfl⟩
    case round =>
      obtain ⟨k, hk, rfl⟩ := hrel
      rcases (by omega : k = 0 ∨ k = 1 ∨ k = 2) with rfl | rfl | rfl
      · go_wp2_with fail
        go_round
        case rel => exact ⟨1, by omega, by first | rfl | go_num⟩
        case measure => simp [intOf]
      · go_wp2_with fail
        go_round
        case rel => exact ⟨2, by omega, by first | rfl | go_num⟩
        case measure => simp [intOf]
      · go_wp2_with fail
        go_ret
        exact ⟨by rw [hr.out]; rfl, rfl⟩
end Go.Proofs.YthmhdaefkhcenaaGreatDoor
namespace Go.Proofs.YthmhdaefkhcenaaGreatDoor
open Go.RowKit

theorem at_world {P : Program} {f : FuncId} {args : Array Value} {Q : Ending → World → Prop} {W : World} (F : World → Prop) (hF : F W) (h : ∀ W, F W → Calls P f args W Q) : Calls P f args W Q := h W hF
theorem at_code {P : Program} {c : Code} {a : Act} {Q : Exit → Act → World → Prop} {W : World} (F : World → Prop) (hF : F W) (h : ∀ W, F W → Code.wp P c Q a W) : Code.wp P c Q a W := h W hF
theorem btop {W : World} {t : TypeId} {g : Nat} {cs : List Value} (hg : W.heap.size = g) : Block (W.alloc (.cells cs.toArray t)) g t cs := hg ▸ Block.new W t cs
theorem bel_trans {w a b : World} (h : Below w.heap.size w a) (h' : Below a.heap.size a b) : Below w.heap.size w b := bel_call h h'
theorem bel_size {w a : World} (h : Below w.heap.size w a) : w.heap.size ≤ a.heap.size := h.size
theorem Block.bel {w w' : World} {g : Nat} {t : TypeId} {cs : List Value} (h : Block w g t cs) (hb : Below w.heap.size w w') : Block w' g t cs := h.call hb
def Has (w : World) (b : Nat) (cs : List Value) : Prop := b < w.heap.size ∧ ∀ j v, cs[j]? = some v → w.cell? ⟨b, j, none⟩ = some v
section
variable {w w' : World} {b : Nat} {cs : List Value}
theorem Has.lt (h : Has w b cs) : b < w.heap.size := h.1
theorem Has.cell (h : Has w b cs) {j : Nat} {v : Value} (hj : cs[j]? = some v) : w.cell? ⟨b, j, none⟩ = some v := h.2 j v hj
theorem Has.call (h : Has w b cs) (hb : Below w.heap.size w w') : Has w' b cs := ⟨Nat.lt_of_lt_of_le h.1 hb.size, fun j v hj => (hb.cell (p := ⟨b, j, none⟩) h.1).trans (h.2 j v hj)⟩
theorem Has.alloc (h : Has w b cs) (o : Obj) : Has (w.alloc o) b cs := ⟨by simp; have := h.1; omega, fun j v hj => (World.cell?_alloc_lt w o ⟨b, j, none⟩ h.1).trans (h.2 j v hj)⟩
theorem Has.drewN (h : Has w b cs) (n : Nat) : Has (w.drewN n) b cs := h
theorem Has.drew (h : Has w b cs) : Has w.drew b cs := h
theorem Has.far (h : Has w b cs) {p : Addr} (hp : b ≠ p.block) (u : Value) : Has (w.setCell p u) b cs := ⟨by simpa [World.setCell] using h.1, fun j v hj => (World.cell?_of_block (w := w) (a := ⟨b, j, none⟩) (Below.heap_setCell w p u b hp)).trans (h.2 j v hj)⟩
theorem Has.grown (h : Has w b cs) {row : Option Nat} (hg : w.grownBy w' row) (hne : some b ≠ row) : Has w' b cs := ⟨Nat.lt_of_lt_of_le h.1 hg.size, fun j v hj => (World.cell?_of_block (w := w) (a := ⟨b, j, none⟩) (hg.block b h.1 hne)).trans (h.2 j v hj)⟩
theorem Block.grown {t : TypeId} (h : Block w b t cs) {row : Option Nat} (hg : w.grownBy w' row) (hne : some b ≠ row) : Block w' b t cs := (hg.block b h.lt hne).trans h
theorem Has.of_block {t : TypeId} (h : Block w b t cs) : Has w b cs := ⟨h.lt, fun j _ hj => (h.cell j).trans hj⟩
theorem Has.of_shows {B size n : Nat} (h : Shows w B size (some ⟨b, 0, none⟩) n cs) (hB : B ≤ w.heap.size) (hn : 0 < n) : Has w b cs := by
  obtain ⟨b', off, e, hb, hc⟩ := h.2 hn
  simp only [Option.some.injEq, Addr.mk.injEq] at e
  obtain ⟨rfl, rfl, _⟩ := e
  refine ⟨by omega, fun j v hj => ?_⟩
  have hl : j < cs.length := (List.getElem?_eq_some_iff.1 hj).1
  have := hc j hl
  rw [Nat.zero_add] at this
  rw [this, List.getD, hj]
  rfl
end
theorem past_alloc (b : Nat) : ∀ (W : World) (o : Obj) (j : Nat), b < W.heap.size → (W.alloc o).cell? ⟨b, j, none⟩ = W.cell? ⟨b, j, none⟩ := fun W o j h => World.cell?_alloc_lt W o ⟨b, j, none⟩ h
section
variable {P : Program} {fn : Func} {R : Ending → World → Prop} {a : Act} {w : World} {T t : TypeId} {b : Nat} {cs : List Value}
theorem ret_ct {x p : Tmp} (hr : fn.results = #[.cell p T, .tmp x]) (hd : a.defers = []) (hp : a.tmps.getD p undef = .pointer (some ⟨b, 0, none⟩)) (hb : Block w b t cs) (ha : ∀ w, (isAgg T).run P w = .ok true w) (hs : ∀ w, (sizeOf T).run P w = .ok cs.length w)
    (hR : R (.returned (.tuple #[.agg cs.toArray, a.tmps.getD x undef])) w) : bodyPost P fn R .ret a w := by
  refine bodyPost_ret (v := .tuple #[.agg cs.toArray, a.tmps.getD x undef]) ?_ hd hR
  simp only [results, hr]
  simp [Sem.run_bind, Result.andThen]
  rw [show a.tmps[p]?.getD undef = .pointer (some ⟨b, 0, none⟩) by rw [← hp]; simp]
  simp [asAddr, Sem.run_pure, run_loadVar_block hb ha hs]
end
def boxC : List Value := [.int .i64 0, .int .i64 0, .int .i64 4, .int .i64 0, .int .i64 4, .int .i64 4, .int .i64 0, .int .i64 4]
end Go.Proofs.YthmhdaefkhcenaaGreatDoor
namespace Go.Proofs.YthmhdaefkhcenaaGreatDoor
open Go.RowKit

def mEnt (k v : Value) (born : Nat) : MapEntry := { key := k, val := v, born := born }
def MapAt (w : World) (r : Nat) (es : List MapEntry) (clock : Nat) : Prop := w.heap[r]? = some (.map es.toArray clock)
section
variable {w w' : World} {r : Nat} {es : List MapEntry} {clock : Nat}
theorem MapAt.lt (h : MapAt w r es clock) : r < w.heap.size := by
  rcases Nat.lt_or_ge r w.heap.size with hlt | hge
  · exact hlt
  · unfold MapAt at h; rw [Array.getElem?_eq_none hge] at h; cases h
theorem MapAt.top {W : World} {r : Nat} (hr : W.heap.size = r) : MapAt (W.alloc (.map #[] 0)) r [] 0 := by
  subst hr
  exact heap_alloc_new W _
theorem MapAt.alloc (h : MapAt w r es clock) (o : Obj) : MapAt (w.alloc o) r es clock := (Below.heap_alloc w o r h.lt).trans h
theorem MapAt.drewN (h : MapAt w r es clock) (n : Nat) : MapAt (w.drewN n) r es clock := h
theorem MapAt.drew (h : MapAt w r es clock) : MapAt w.drew r es clock := h
theorem MapAt.call (h : MapAt w r es clock) (hb : Below w.heap.size w w') : MapAt w' r es clock := (hb.block r h.lt).trans h
theorem MapAt.set (h : MapAt w r es clock) (p : Addr) (u : Value) : MapAt (w.setCell p u) r es clock := by
  unfold MapAt at h ⊢
  simp only [World.setCell, Array.getElem?_modify, h]
  split <;> simp_all
theorem MapAt.grown (h : MapAt w r es clock) {row : Option Nat} (hg : w.grownBy w' row) (hne : some r ≠ row) : MapAt w' r es clock := (hg.block r h.lt hne).trans h
end
section
variable {P : Program} {w : World} {r : Nat} {es : List MapEntry} {clock : Nat} {t K E : TypeId} {key : Value}
theorem get_map (h : MapAt w r es clock) : (getObj r).run P w = .ok (.map es.toArray clock) w := by
  unfold MapAt at h
  simp [getObj, Sem.run, h]
theorem put_map {o : Obj} (h : MapAt w r es clock) : (setObj r o).run P w = .ok () { w with heap := w.heap.setIfInBounds r o } := by
  unfold MapAt at h
  simp [setObj, Sem.run, h]
theorem look_hit {i : Nat} {v : Value} (h : MapAt w r es clock) (hu : P.underlying t = some (.map K E)) (hc : ∀ w, (Instr.checkKey es.isEmpty 10000 K key).run P w = .ok () w) (hf : ∀ w, (Instr.findKey K key es).run P w = .ok (some (i, v)) w) :
    (Instr.lookup t (.map (some r)) key true).run P w = .ok (.tuple #[v, .bool true]) w := by
  simp [Instr.lookup, Sem.run_bind, run_underlying hu, get_map h, hc, hf, Result.andThen]
theorem look_miss {z : Value} (h : MapAt w r es clock) (hu : P.underlying t = some (.map K E)) (hc : ∀ w, (Instr.checkKey es.isEmpty 10000 K key).run P w = .ok () w) (hf : ∀ w, (Instr.findKey K key es).run P w = .ok none w) (hz : ∀ w, (zeroValue E).run P w = .ok z w) :
    (Instr.lookup t (.map (some r)) key true).run P w = .ok (.tuple #[z, .bool false]) w := by
  simp [Instr.lookup, Sem.run_bind, run_underlying hu, get_map h, hc, hf, hz, Result.andThen, -bind_pure_comp]
theorem look_hit1 {i : Nat} {v : Value} (h : MapAt w r es clock) (hu : P.underlying t = some (.map K E)) (hc : ∀ w, (Instr.checkKey es.isEmpty 10000 K key).run P w = .ok () w) (hf : ∀ w, (Instr.findKey K key es).run P w = .ok (some (i, v)) w) :
    (Instr.lookup t (.map (some r)) key false).run P w = .ok v w := by
  simp [Instr.lookup, Sem.run_bind, run_underlying hu, get_map h, hc, hf, Result.andThen]
theorem look_miss1 {z : Value} (h : MapAt w r es clock) (hu : P.underlying t = some (.map K E)) (hc : ∀ w, (Instr.checkKey es.isEmpty 10000 K key).run P w = .ok () w) (hf : ∀ w, (Instr.findKey K key es).run P w = .ok none w) (hz : ∀ w, (zeroValue E).run P w = .ok z w) :
    (Instr.lookup t (.map (some r)) key false).run P w = .ok z w := by
  simp [Instr.lookup, Sem.run_bind, run_underlying hu, get_map h, hc, hf, hz, Result.andThen, -bind_pure_comp]
theorem grown_put (w : World) (r : Nat) (o : Obj) : w.grownBy { w with heap := w.heap.setIfInBounds r o } (some r) :=
  ⟨rfl, rfl, rfl, by simp, fun k _ hne => by
    show (w.heap.setIfInBounds r o)[k]? = _
    rw [Array.getElem?_setIfInBounds]
    rw [if_neg (fun e => hne (by rw [e]))]⟩
theorem upd_new {val : Value} (h : MapAt w r es clock) (hu : P.underlying t = some (.map K E)) (hc : ∀ w, (Instr.checkKey false 10000 K key).run P w = .ok () w) (hf : ∀ w, (Instr.findKey K key es).run P w = .ok none w) :
    ∃ w', (Instr.mapUpdate t (.map (some r)) key val).run P w = .ok () w' ∧ MapAt w' r (es ++ [mEnt key val clock]) (clock + 1) ∧ w.grownBy w' (some r) := by
  have hl := h.lt
  refine ⟨{ w with heap := w.heap.setIfInBounds r (.map (es.toArray.push { key, val, born := clock }) (clock + 1)) }, ?_, ?_, grown_put w r _⟩
  · simp [Instr.mapUpdate, Sem.run_bind, run_underlying hu, get_map h, put_map h, hc, hf, Result.andThen]
  · unfold MapAt
    show (w.heap.setIfInBounds r _)[r]? = _
    rw [Array.getElem?_setIfInBounds_self_of_lt hl]
    simp [mEnt]
end
section
variable {P : Program} {ops : Array Oper} {rest : List Oper} {o : Oper} {a : Act} {Q : Exit → Act → World → Prop} {w : World} {t : TypeId} {m x v : Operand}
theorem wpList_lookup_eq {ok : Bool} {mv xv res : Value} (hg : o.guard = none) (hop : o.op = Op.lookup t m x ok) (hm : a.eval m = mv) (hx : a.eval x = xv) (hrun : (Instr.lookup t mv xv ok).run P w = .ok res w)
    (h : wpList P ops Q rest (a.put o.dst res) w) : wpList P ops Q (o :: rest) a w := by
  refine wpList_plain hg fun K' hK' => ?_
  unfold Oper.wp
  simp [execOp, hop, hm, hx, hrun, Result.andThen]
  exact hK' _ _ h
theorem wpList_update_ex {mv xv vv : Value} (F : World → Prop) (hg : o.guard = none) (hop : o.op = Op.mapUpdate t m x v) (hm : a.eval m = mv) (hx : a.eval x = xv) (hv : a.eval v = vv) (hrun : ∃ w', (Instr.mapUpdate t mv xv vv).run P w = .ok () w' ∧ F w')
    (h : ∀ w', F w' → wpList P ops Q rest (a.put o.dst undef) w') : wpList P ops Q (o :: rest) a w := by
  refine wpList_plain hg fun K' hK' => ?_
  obtain ⟨w', hr, hF⟩ := hrun
  unfold Oper.wp
  simp [execOp, hop, hm, hx, hv, hr, Result.andThen]
  exact hK' _ _ (h w' hF)
end
end Go.Proofs.YthmhdaefkhcenaaGreatDoor
