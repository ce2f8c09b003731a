/- More words for memory. -/
import Derived.Test.YtiomkbpniplfhaaMem
namespace Go.Proofs.Ytiomkbpniplfhaa
open Go.RowKit

/-- 'x[:h]'. -/
theorem cut_to {P : Program} {T E : TypeId} (size : Nat) (hT : P.underlying T = some (.slice E)) (hS : ∀ w, (sizeOf E).run P w = .ok size w) (A : Option Addr) (n c h : Nat) (hh : h ≤ c) (w : World) :
    (Instr.slice T (.slice A n c) none (some (.int .i64 (h : Int))) none).run P w = .ok (.slice A h c) w := by
  have he : P.elem T = E := by simp [Program.elem, hT]
  rw [run_slice_h w T A n c (by rw [he]; exact hT) .i64 h (by omega) (by omega), he, hS]
  simp [sliced, Result.andThen]
  rcases A with _ | ⟨b, off, spot⟩
  · simp
  · simp [Addr.add]
theorem Shows.take {w : World} {B size n h : Nat} {A : Option Addr} {xs : List Value} (hs : Shows w B size A n xs) (hh : h ≤ n) : Shows w B size A h (xs.take (h * size)) := by
  have hm : h * size ≤ n * size := Nat.mul_le_mul_right _ hh
  refine ⟨by rw [List.length_take, hs.1]; omega, fun h0 => ?_⟩
  obtain ⟨b, off, e, hb, hc⟩ := hs.2 (by omega)
  refine ⟨b, off, e, hb, fun j hj => ?_⟩
  rw [List.length_take] at hj
  rw [hc j (by omega)]
  simp [List.getD, show j < h * size by omega]
theorem quiet_l {P : Program} {f : FuncId} {args : Array Value} {w : World} {n : Nat} {v : Value}
    (h : Calls P f args (w.drewN n) fun e w' => e = .returned v ∧ w.drewN n = w') : Calls P f args (w.drewN n) fun e w'' => e = .returned v ∧ ∃ m, w'' = w.drewN m :=
  h.mono fun _ _ ⟨he, hm⟩ => ⟨he, n, hm.symm⟩

/-- Block g is just the cells cs. -/
def Block (w : World) (g : Nat) (t : TypeId) (cs : List Value) : Prop := w.heap[g]? = some (.cells cs.toArray t (0, 0))
section
variable {w w' : World} {g : Nat} {t : TypeId} {cs : List Value}
theorem Block.lt (h : Block w g t cs) : g < w.heap.size := by
  rcases Nat.lt_or_ge g w.heap.size with hlt | hge
  · exact hlt
  · unfold Block at h; rw [Array.getElem?_eq_none hge] at h; cases h
theorem Block.cell (h : Block w g t cs) (i : Nat) : w.cell? ⟨g, i, none⟩ = cs[i]? := by unfold Block at h; simp [World.cell?, h]
theorem Block.free (h : Block w g t cs) (i : Nat) : w.frozen? ⟨g, i, none⟩ = false := by unfold Block at h; simp [World.frozen?, h]
theorem Block.set (h : Block w g t cs) (i : Nat) (u : Value) : Block (w.setCell ⟨g, i, none⟩ u) g t (cs.set i u) := by
  unfold Block at h ⊢
  simp [World.setCell, Array.getElem?_modify, h]
theorem Block.below {B : Nat} (h : Block w g t cs) (hb : Below B w w') (hg : g < B) : Block w' g t cs := (hb.block g hg).trans h
theorem Block.call (h : Block w g t cs) (hb : Below w.heap.size w w') : Block w' g t cs := h.below hb h.lt
theorem Block.drewN (h : Block w g t cs) (n : Nat) : Block (w.drewN n) g t cs := h
theorem Block.shows (h : Block w g t cs) {size n : Nat} (hn : cs.length = n * size) : Shows w (g + 1) size (some ⟨g, 0, none⟩) n cs :=
  ⟨hn, fun _ => ⟨g, 0, rfl, by omega, fun j hj => by rw [Nat.zero_add, h.cell j, List.getD, List.getElem?_eq_getElem hj]; rfl⟩⟩
theorem Block.owns (h : Block w g t cs) {base size n : Nat} (hb : base ≤ g) (hn : cs.length = n * size) (hm : n ≤ maxLen) : w.ownsRow base t size (.slice (some ⟨g, 0, none⟩) n n) n cs :=
  ⟨hn, .inr ⟨g, n, cs.toArray, rfl, hb, h, Nat.le_refl _, hm, by simpa using hn, by rw [← hn]; simp⟩⟩
theorem own_block {base size n : Nat} (h : w.ownsRow base t size (.slice (some ⟨g, 0, none⟩) n n) n cs) : Block w g t cs := by
  rcases h.2 with ⟨hv, _⟩ | ⟨g', cap, cur, hv, _, hg, _, _, hs, ht⟩
  · cases hv
  · simp only [Value.slice.injEq, Option.some.injEq, Addr.mk.injEq, and_true, true_and] at hv
    obtain ⟨rfl, rfl⟩ := hv
    unfold Block
    rw [hg, ← ht, ← hs, List.take_of_length_le (by simp)]
end
theorem shows_row {w : World} {base size n c : Nat} {e : TypeId} {A : Option Addr} {xs : List Value} (h : w.ownsRow base e size (.slice A n c) n xs) : Shows w w.heap.size size A n xs := Shows.of_own h
theorem below_grown {B : Nat} {a w w' : World} {row : Option Nat} (h : Below B a w) (hg : w.grownBy w' row) (hB : B ≤ w.heap.size) (hr : ∀ k, row = some k → B ≤ k) : Below B a w' := h.grown hg hB hr
theorem Shows.call {w w' : World} {B size n : Nat} {A : Option Addr} {xs : List Value} (h : Shows w B size A n xs) (hb : Below w.heap.size w w') (hB : B ≤ w.heap.size) : Shows w' B size A n xs := h.below (hb.mono hB)
/-- A block that was made ahead of a call, behind it. -/
theorem new_block {w w1 : World} {t : TypeId} {cs : List Value} (hb : Below (w.alloc (.cells cs.toArray t)).heap.size (w.alloc (.cells cs.toArray t)) w1) : Block w1 w.heap.size t cs ∧ w.heap.size < w1.heap.size := by
  have hz : w.heap.size < (w.alloc (.cells cs.toArray t)).heap.size := by simp
  exact ⟨(hb.block _ hz).trans (heap_alloc_new w _), Nat.lt_of_lt_of_le hz hb.size⟩
theorem Block.alloc {w : World} {g : Nat} {t : TypeId} {cs : List Value} (h : Block w g t cs) (o : Obj) : Block (w.alloc o) g t cs := (Below.heap_alloc w o g h.lt).trans h
theorem Block.drew {w : World} {g : Nat} {t : TypeId} {cs : List Value} (h : Block w g t cs) : Block w.drew g t cs := h
theorem Block.new (w : World) (t : TypeId) (cs : List Value) : Block (w.alloc (.cells cs.toArray t)) w.heap.size t cs := heap_alloc_new w _
theorem Block.far {w : World} {g : Nat} {t : TypeId} {cs : List Value} (h : Block w g t cs) {p : Addr} (hp : g ≠ p.block) (u : Value) : Block (w.setCell p u) g t cs := (Below.heap_setCell w p u g hp).trans h
/-- A struct's variable is loaded. -/
theorem run_loadVar_block {P : Program} {w : World} {T t : TypeId} {b : Nat} {cs : List Value} (hb : Block w b t cs) (ha : ∀ w, (isAgg T).run P w = .ok true w) (hs : ∀ w, (sizeOf T).run P w = .ok cs.length w) :
    (loadVar T ⟨b, 0, none⟩).run P w = .ok (.agg cs.toArray) w := by
  have hl := run_loadCells_list (P := P) w ⟨b, 0, none⟩ cs (fun j v hj => by
    have e1 : (⟨b, 0, none⟩ : Addr).add j = ⟨b, j, none⟩ := by unfold Addr.add; split <;> simp_all
    rw [e1, hb.cell j, hj])
  simp only [loadVar, Sem.run_bind, ha, Result.andThen, if_true, hs, hl]
  rfl
section
variable {P : Program} {fn : Func} {R : Ending → World → Prop} {a : Act} {w : World} {T t : TypeId} {b : Nat} {cs : List Value}
theorem ret_ttc {x y p : Tmp} (hr : fn.results = #[.tmp x, .tmp y, .cell p T]) (hd : a.defers = []) (hp : a.tmps.getD p undef = .pointer (some ⟨b, 0, none⟩)) (hb : Block w b t cs) (ha : ∀ w, (isAgg T).run P w = .ok true w) (hs : ∀ w, (sizeOf T).run P w = .ok cs.length w)
    (hR : R (.returned (.tuple #[a.tmps.getD x undef, a.tmps.getD y undef, .agg cs.toArray])) w) : bodyPost P fn R .ret a w := by
  refine bodyPost_ret (v := .tuple #[a.tmps.getD x undef, a.tmps.getD y undef, .agg cs.toArray]) ?_ hd hR
  simp only [results, hr]
  simp [Sem.run_bind, Result.andThen]
  rw [show a.tmps[p]?.getD undef = .pointer (some ⟨b, 0, none⟩) by rw [← hp]; simp]
  simp [asAddr, Sem.run_pure, run_loadVar_block hb ha hs]
theorem ret_c {p : Tmp} (hr : fn.results = #[.cell p T]) (hd : a.defers = []) (hp : a.tmps.getD p undef = .pointer (some ⟨b, 0, none⟩)) (hb : Block w b t cs) (ha : ∀ w, (isAgg T).run P w = .ok true w) (hs : ∀ w, (sizeOf T).run P w = .ok cs.length w)
    (hR : R (.returned (.agg cs.toArray)) w) : bodyPost P fn R .ret a w := by
  refine bodyPost_ret (v := .agg cs.toArray) ?_ hd hR
  simp only [results, hr]
  simp [Sem.run_bind, Result.andThen]
  rw [show a.tmps[p]?.getD undef = .pointer (some ⟨b, 0, none⟩) by rw [← hp]; simp]
  simp [asAddr, Sem.run_pure, run_loadVar_block hb ha hs]
end
theorem shows_at (w : World) (xs : List Value) (t : TypeId) (g : Nat) (hg : g = w.heap.size) : Shows (w.alloc (.cells xs.toArray t)) (g + 1) 1 (some ⟨g, 0, none⟩) xs.length xs := hg ▸ shows_built w xs t
theorem bel_grown {w a b : World} {row : Option Nat} (h : Below w.heap.size w a) (hg : a.grownBy b row) (hr : ∀ k, row = some k → w.heap.size ≤ k) : Below w.heap.size w b := h.grown hg h.size hr
end Go.Proofs.Ytiomkbpniplfhaa
