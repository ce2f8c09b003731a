/- Lemmas for it; no condition: Mem Mem2 TSh Full. -/
import Derived.Test.YthmhdaefkhcenaaGreatDoorProg
import Derived.WalkKit
import Derived.WalkSpells
import Derived.WalkLawsBesides
import Derived.KernelRfl
import Derived.Handy
import Derived.Lib.Hide
import Derived.Lib.AppendStr
import Derived.Maps.AppendAt
import Derived.Laws.CopyOwn
import Derived.Deep.QuietTactic
import Derived.BigQuiet
import Derived.Deep.DeepCutAuto
set_option linter.unusedVariables false
set_option linter.unusedSimpArgs false
namespace Go.Proofs.YthmhdaefkhcenaaGreatDoor
open Go.RowKit

def Shows (w : World) (B size : Nat) (A : Option Addr) (n : Nat) (xs : List Value) : Prop :=
  xs.length = n * size ∧ (0 < n → ∃ b off, A = some ⟨b, off, none⟩ ∧ b < B ∧ ∀ j, j < xs.length → w.cell? ⟨b, off + j, none⟩ = some (xs.getD j undef))

section
variable {w w' : World} {B B' size n : Nat} {A : Option Addr} {xs : List Value}
theorem Shows.len (h : Shows w B 1 A n xs) : xs.length = n := by have := h.1; omega
theorem Shows.empty : Shows w B size A 0 [] := ⟨by simp, fun h => absurd h (by omega)⟩
theorem Shows.at_ (h : Shows w B size A n xs) (hn : 0 < n) : ∃ b off, A = some ⟨b, off, none⟩ ∧ b < B ∧ ∀ j, j < xs.length → w.cell? ⟨b, off + j, none⟩ = some (xs.getD j undef) := h.2 hn
theorem Shows.same (h : Shows w B size A n xs) (hk : ∀ p : Addr, p.block < B → w'.cell? p = w.cell? p) : Shows w' B size A n xs :=
  ⟨h.1, fun hn => by
    obtain ⟨b, off, e, hb, hc⟩ := h.2 hn
    exact ⟨b, off, e, hb, fun j hj => (hk _ hb).trans (hc j hj)⟩⟩
theorem Shows.up (h : Shows w B size A n xs) (hB : B ≤ B') : Shows w B' size A n xs :=
  ⟨h.1, fun hn => by
    obtain ⟨b, off, e, hb, hc⟩ := h.2 hn
    exact ⟨b, off, e, by omega, hc⟩⟩
theorem Shows.below (h : Shows w B size A n xs) (hb : Below B w w') : Shows w' B size A n xs := h.same fun _ hp => hb.cell hp
theorem Shows.drewN (h : Shows w B size A n xs) (k : Nat) : Shows (w.drewN k) B size A n xs := h
theorem Shows.drew (h : Shows w B size A n xs) : Shows w.drew B size A n xs := h
theorem Shows.alloc (h : Shows w B size A n xs) (hB : B ≤ w.heap.size) (o : Obj) : Shows (w.alloc o) B size A n xs := h.same fun p hp => World.cell?_alloc_lt w o p (by omega)
theorem Shows.of_own {base : Nat} {e : TypeId} {c : Nat} (h : w.ownsRow base e size (.slice A n c) n xs) : Shows w w.heap.size size A n xs := by
  refine ⟨h.1, fun hn => ?_⟩
  rcases h.2 with ⟨hv, h0⟩ | ⟨g, cap, cur, hv, hb, hg, hnc, hcm, hcs, ht⟩
  · omega
  · injection hv with h1 h2 h3
    refine ⟨g, 0, h1, ?_, fun j hj => ?_⟩
    · rcases Nat.lt_or_ge g w.heap.size with hlt | hge
      · exact hlt
      · rw [Array.getElem?_eq_none hge] at hg; cases hg
    · have hl : xs.length ≤ cur.toList.length := by rw [← ht, List.length_take]; omega
      have hcur : cur.toList[j]? = xs[j]? := by rw [← ht, List.getElem?_take, if_pos (by rw [← h.1]; exact hj)]
      have hc : cur[j]? = some (xs.getD j undef) := by
        rw [← Array.getElem?_toList, hcur, List.getD, List.getElem?_eq_getElem hj]; rfl
      simp [World.cell?, hg, hc]
end

def U8 (l : List Int) : List Value := l.map (Value.int .u8)
def I64 (l : List Int) : List Value := l.map (Value.int .i64)

def Fresh (e : TypeId) (size n : Nat) (xs : List Value) (w : World) (r : Ending) (w' : World) : Prop :=
  ∃ A c, r = .returned (.slice A n c) ∧ w'.ownsRow w.heap.size e size (.slice A n c) n xs ∧ Below w.heap.size w w'

theorem own_form {w : World} {base : Nat} {e : TypeId} {size n : Nat} {v : Value} {xs : List Value} (h : w.ownsRow base e size v n xs) : ∃ A c, v = .slice A n c ∧ n ≤ c ∧ c ≤ maxLen := by
  rcases h.2 with ⟨rfl, rfl⟩ | ⟨g, cap, cur, rfl, _, _, h1, h2, _⟩
  · exact ⟨_, _, rfl, Nat.le_refl _, by simp⟩
  · exact ⟨_, _, rfl, h1, h2⟩

theorem one_is (k : IntKind) (x : Int) : ∀ u ∈ [Value.int k x], u.oneCell' = true := by intro u hu; simp at hu; subst hu; rfl
theorem nums_one (k : IntKind) (xs : List Int) : ∀ u ∈ xs.map (Value.int k), u.oneCell' = true := by
  intro u hu; simp at hu; obtain ⟨a, _, rfl⟩ := hu; rfl

theorem own_below {w w' : World} {base : Nat} {e : TypeId} {size n : Nat} {v : Value} {xs : List Value} (h : w.ownsRow base e size v n xs) (hb : Below w.heap.size w w') : w'.ownsRow base e size v n xs := by
  obtain ⟨h1, h2⟩ := h
  refine ⟨h1, ?_⟩
  rcases h2 with h2 | ⟨g, cap, cur, hv, hg, hc, hr⟩
  · exact .inl h2
  · refine .inr ⟨g, cap, cur, hv, hg, ?_, hr⟩
    rw [hb.block g (by
      rcases Nat.lt_or_ge g w.heap.size with hlt | hge
      · exact hlt
      · rw [Array.getElem?_eq_none hge] at hc; cases hc)]
    exact hc
theorem own_base {w : World} {base base' : Nat} {e : TypeId} {size n : Nat} {v : Value} {xs : List Value} (h : w.ownsRow base e size v n xs) (hb : base' ≤ base) : w.ownsRow base' e size v n xs := by
  obtain ⟨h1, h2⟩ := h
  refine ⟨h1, ?_⟩
  rcases h2 with h2 | ⟨g, cap, cur, hv, hg, hr⟩
  · exact .inl h2
  · exact .inr ⟨g, cap, cur, hv, by omega, hr⟩
theorem bel_step {B : Nat} {a w w' : World} (h : Below B a w) (h' : Below w.heap.size w w') (hB : B ≤ w.heap.size) : Below B a w' := h.trans (h'.mono hB)

theorem bel_alloc {w a : World} (h : Below w.heap.size w a) (o : Obj) : Below w.heap.size w (a.alloc o) := h.alloc h.size o
theorem bel_call {w a b : World} (h : Below w.heap.size w a) (h' : Below a.heap.size a b) : Below w.heap.size w b := bel_step h h' h.size
theorem bel_drewN {w a : World} (h : Below w.heap.size w a) (n : Nat) : Below w.heap.size w (a.drewN n) := ⟨h.os, h.tape, h.output, h.size, h.block⟩
theorem bel_set {w a : World} (h : Below w.heap.size w a) {p : Addr} (hp : w.heap.size ≤ p.block) (u : Value) : Below w.heap.size w (a.setCell p u) := h.setCell hp u
theorem shows_built (w : World) (xs : List Value) (t : TypeId) : Shows (w.alloc (.cells xs.toArray t)) (w.heap.size + 1) 1 (some ⟨w.heap.size, 0, none⟩) xs.length xs := by
  refine ⟨by simp, fun _ => ⟨w.heap.size, 0, rfl, by omega, fun j hj => ?_⟩⟩
  rw [World.cell?_alloc_new]
  simp [List.getD, List.getElem?_eq_getElem hj]
theorem old_cells {W w1 : World} (hb : Below W.heap.size W w1) : (∀ b o, b < W.heap.size → w1.cell? ⟨b, o, none⟩ = W.cell? ⟨b, o, none⟩) ∧ (∀ b o, b < W.heap.size → w1.frozen? ⟨b, o, none⟩ = W.frozen? ⟨b, o, none⟩) :=
  ⟨fun b o h => hb.cell (p := ⟨b, o, none⟩) h, fun b o h => hb.frozen (p := ⟨b, o, none⟩) h⟩

theorem cut_from {P : Program} {T E : TypeId} (size : Nat) (hT : P.underlying T = some (.slice E)) (hS : ∀ w, (sizeOf E).run P w = .ok size w) (A : Option Addr) (n c k : Nat) (hk : k ≤ n) (hc : n ≤ c) :
    ∃ A2, (∀ w, (Instr.slice T (.slice A n c) (some (.int .i64 (k : Int))) none none).run P w = .ok (.slice A2 (n - k) (c - k)) w) ∧
      ∀ w B xs, Shows w B size A n xs → Shows w B size A2 (n - k) (xs.drop (k * size)) := by
  have he : P.elem T = E := by simp [Program.elem, hT]
  refine ⟨if c = k then A else A.map (·.add (k * size)), fun w => ?_, fun w B xs h => ?_⟩
  · rw [run_slice_l w T A n c (by rw [he]; exact hT) .i64 k (by omega) (by omega), he, hS]
    simp [sliced, Result.andThen]
  · refine ⟨by rw [List.length_drop, h.1, Nat.sub_mul], fun hn => ?_⟩
    obtain ⟨b, off, rfl, hb, hcell⟩ := h.2 (by omega)
    rw [if_neg (by omega)]
    refine ⟨b, off + k * size, by simp [Addr.add], hb, fun j hj => ?_⟩
    rw [List.length_drop] at hj
    rw [Nat.add_assoc, hcell _ (by omega)]
    simp [List.getD]

theorem run_append_nothing {P : Program} (w : World) (base : Nat) (t ty e : TypeId) (i : TypeInfo) (size : Nat) (ht : P.underlying t = some (.slice e)) (hi : P.info? e = some i)
    (v : Value) (n : Nat) (xs : List Value) (hown : w.ownsRow base e size v n xs) (c : Nat) : (Builtin.append_ #[t, t] ty #[v, .slice none 0 c]).run P w = .ok v w := by
  rcases hown.2 with ⟨rfl, rfl⟩ | ⟨g, cap, cur, rfl, _, _, hnc, _⟩
  all_goals simp [Builtin.append_, run_underlying ht, sizeOf, typeInfo, hi, Builtin.lenOf, Builtin.firstCells, storeCells]
  omega
theorem wpList_append_shows {P : Program} (w : World) {ops : Array Oper} {rest : List Oper} {o : Oper} {a : Act} {Q : Exit → Act → World → Prop} (hgd : o.guard = none) (s x : Operand) (t : TypeId)
    (ho : o.op = .call { callee := .builtin .append, args := #[s, x], argTypes := #[t, t] })
    (base : Nat) (e : TypeId) (i : TypeInfo) (z : Value) (size bytes : Nat) (ht : P.underlying t = some (.slice e)) (hi : P.info? e = some i) (hz : i.zero = some z)
    (hsize : i.size = size) (hby : i.bytes = bytes) (hzs : z.cells.size = size) (hsz : 0 < size)
    (v : Value) (n : Nat) (xs : List Value) (hs : a.eval s = v) (hown : w.ownsRow base e size v n xs)
    (B : Nat) (A : Option Addr) (m c : Nat) (news : List Value) (hx : a.eval x = .slice A m c) (hr : Shows w B size A m news) (h1 : ∀ u ∈ news, u.oneCell' = true)
    (h63 : n + m ≤ maxLen) (hbytes : (n + m) * bytes ≤ 140737488355328) (hbase : base ≤ w.heap.size)
    (h : ∀ A' c' w', w'.ownsRow base e size (.slice A' (n + m) c') (n + m) (xs ++ news) → w.grownBy w' v.ownBlock → wpList P ops Q rest (a.put o.dst (.slice A' (n + m) c')) w') : wpList P ops Q (o :: rest) a w := by
  refine wpList_plain hgd fun K hK => ?_
  have main : ∃ v' w', (Builtin.append_ #[t, t] o.type #[v, .slice A m c]).run P w = .ok v' w' ∧ w'.ownsRow base e size v' (n + m) (xs ++ news) ∧ w.grownBy w' v.ownBlock := by
    rcases A with _ | ad
    · have hm : m = 0 := by
        rcases Nat.eq_zero_or_pos m with h0 | h0
        · exact h0
        · obtain ⟨_, _, h, _⟩ := hr.2 h0
          cases h
      subst hm
      have hn : news = [] := List.eq_nil_of_length_eq_zero (by simpa using hr.1)
      subst hn
      exact ⟨v, w, run_append_nothing w base t o.type e i size ht hi v n xs hown c, by simpa using hown, World.grownBy.refl w _⟩
    · obtain ⟨v', w', hrun, h2, h3, _⟩ := run_append_own_at (P := P) w base t o.type e i z size bytes ht hi hz hsize hby hzs hsz v n xs hown ad m c news hr.1 (fun j u hu => by
        have hj : j < news.length := (List.getElem?_eq_some_iff.1 hu).1
        have hm : 0 < m := by
          rcases Nat.eq_zero_or_pos m with h0 | h0
          · have := hr.1; subst h0; simp at this; subst this; simp at hj
          · exact h0
        obtain ⟨b, off, he, _, hc⟩ := hr.2 hm
        injection he with he
        subst he
        have e1 : (⟨b, off, none⟩ : Addr).add j = ⟨b, off + j, none⟩ := by unfold Addr.add; split <;> simp_all
        rw [e1, hc j hj, List.getD, hu]; rfl) h1 h63 hbytes hbase
      exact ⟨v', w', hrun, h2, h3⟩
  obtain ⟨v', w', hrun, h2, h3⟩ := main
  obtain ⟨A', c', e1, _⟩ := own_form h2
  subst e1
  unfold Oper.wp execOp
  simp only [ho, resolve, invoke, builtin, Sem.run_bind, Sem.run_pure, Result.andThen_ok, List.map_toArray, List.map_cons, List.map_nil, hs, hx, hrun]
  exact hK _ _ (h _ _ _ h2 h3)
theorem size_u8 (w : World) : (sizeOf 5).run Tryz.prog w = .ok 1 w := by kernel_rfl
end Go.Proofs.YthmhdaefkhcenaaGreatDoor
namespace Go.Proofs.YthmhdaefkhcenaaGreatDoor
open Go.RowKit

theorem cut_to {P : Program} {T E : TypeId} (size : Nat) (hT : P.underlying T = some (.slice E)) (hS : ∀ w, (sizeOf E).run P w = .ok size w) (A : Option Addr) (n c h : Nat) (hh : h ≤ c) (w : World) :
    (Instr.slice T (.slice A n c) none (some (.int .i64 (h : Int))) none).run P w = .ok (.slice A h c) w := by
  have he : P.elem T = E := by simp [Program.elem, hT]
  rw [run_slice_h w T A n c (by rw [he]; exact hT) .i64 h (by omega) (by omega), he, hS]
  simp [sliced, Result.andThen]
  rcases A with _ | ⟨b, off, spot⟩
  · simp
  · simp [Addr.add]
theorem Shows.take {w : World} {B size n h : Nat} {A : Option Addr} {xs : List Value} (hs : Shows w B size A n xs) (hh : h ≤ n) : Shows w B size A h (xs.take (h * size)) := by
  have hm : h * size ≤ n * size := Nat.mul_le_mul_right _ hh
  refine ⟨by rw [List.length_take, hs.1]; omega, fun h0 => ?_⟩
  obtain ⟨b, off, e, hb, hc⟩ := hs.2 (by omega)
  refine ⟨b, off, e, hb, fun j hj => ?_⟩
  rw [List.length_take] at hj
  rw [hc j (by omega)]
  simp [List.getD, show j < h * size by omega]
theorem quiet_l {P : Program} {f : FuncId} {args : Array Value} {w : World} {n : Nat} {v : Value}
    (h : Calls P f args (w.drewN n) fun e w' => e = .returned v ∧ w.drewN n = w') : Calls P f args (w.drewN n) fun e w'' => e = .returned v ∧ ∃ m, w'' = w.drewN m :=
  h.mono fun _ _ ⟨he, hm⟩ => ⟨he, n, hm.symm⟩

def Block (w : World) (g : Nat) (t : TypeId) (cs : List Value) : Prop := w.heap[g]? = some (.cells cs.toArray t (0, 0))
section
variable {w w' : World} {g : Nat} {t : TypeId} {cs : List Value}
theorem Block.lt (h : Block w g t cs) : g < w.heap.size := by
  rcases Nat.lt_or_ge g w.heap.size with hlt | hge
  · exact hlt
  · unfold Block at h; rw [Array.getElem?_eq_none hge] at h; cases h
theorem Block.cell (h : Block w g t cs) (i : Nat) : w.cell? ⟨g, i, none⟩ = cs[i]? := by unfold Block at h; simp [World.cell?, h]
theorem Block.free (h : Block w g t cs) (i : Nat) : w.frozen? ⟨g, i, none⟩ = false := by unfold Block at h; simp [World.frozen?, h]
theorem Block.set (h : Block w g t cs) (i : Nat) (u : Value) : Block (w.setCell ⟨g, i, none⟩ u) g t (cs.set i u) := by
  unfold Block at h ⊢
  simp [World.setCell, Array.getElem?_modify, h]
theorem Block.below {B : Nat} (h : Block w g t cs) (hb : Below B w w') (hg : g < B) : Block w' g t cs := (hb.block g hg).trans h
theorem Block.call (h : Block w g t cs) (hb : Below w.heap.size w w') : Block w' g t cs := h.below hb h.lt
theorem Block.drewN (h : Block w g t cs) (n : Nat) : Block (w.drewN n) g t cs := h
theorem Block.shows (h : Block w g t cs) {size n : Nat} (hn : cs.length = n * size) : Shows w (g + 1) size (some ⟨g, 0, none⟩) n cs :=
  ⟨hn, fun _ => ⟨g, 0, rfl, by omega, fun j hj => by rw [Nat.zero_add, h.cell j, List.getD, List.getElem?_eq_getElem hj]; rfl⟩⟩
theorem Block.owns (h : Block w g t cs) {base size n : Nat} (hb : base ≤ g) (hn : cs.length = n * size) (hm : n ≤ maxLen) : w.ownsRow base t size (.slice (some ⟨g, 0, none⟩) n n) n cs :=
  ⟨hn, .inr ⟨g, n, cs.toArray, rfl, hb, h, Nat.le_refl _, hm, by simpa using hn, by rw [← hn]; simp⟩⟩
theorem own_block {base size n : Nat} (h : w.ownsRow base t size (.slice (some ⟨g, 0, none⟩) n n) n cs) : Block w g t cs := by
  rcases h.2 with ⟨hv, _⟩ | ⟨g', cap, cur, hv, _, hg, _, _, hs, ht⟩
  · cases hv
  · simp only [Value.slice.injEq, Option.some.injEq, Addr.mk.injEq, and_true, true_and] at hv
    obtain ⟨rfl, rfl⟩ := hv
    unfold Block
    rw [hg, ← ht, ← hs, List.take_of_length_le (by simp)]
end
theorem shows_row {w : World} {base size n c : Nat} {e : TypeId} {A : Option Addr} {xs : List Value} (h : w.ownsRow base e size (.slice A n c) n xs) : Shows w w.heap.size size A n xs := Shows.of_own h
theorem below_grown {B : Nat} {a w w' : World} {row : Option Nat} (h : Below B a w) (hg : w.grownBy w' row) (hB : B ≤ w.heap.size) (hr : ∀ k, row = some k → B ≤ k) : Below B a w' := h.grown hg hB hr
theorem Shows.call {w w' : World} {B size n : Nat} {A : Option Addr} {xs : List Value} (h : Shows w B size A n xs) (hb : Below w.heap.size w w') (hB : B ≤ w.heap.size) : Shows w' B size A n xs := h.below (hb.mono hB)
theorem new_block {w w1 : World} {t : TypeId} {cs : List Value} (hb : Below (w.alloc (.cells cs.toArray t)).heap.size (w.alloc (.cells cs.toArray t)) w1) : Block w1 w.heap.size t cs ∧ w.heap.size < w1.heap.size := by
  have hz : w.heap.size < (w.alloc (.cells cs.toArray t)).heap.size := by simp
  exact ⟨(hb.block _ hz).trans (heap_alloc_new w _), Nat.lt_of_lt_of_le hz hb.size⟩
theorem Block.alloc {w : World} {g : Nat} {t : TypeId} {cs : List Value} (h : Block w g t cs) (o : Obj) : Block (w.alloc o) g t cs := (Below.heap_alloc w o g h.lt).trans h
theorem Block.drew {w : World} {g : Nat} {t : TypeId} {cs : List Value} (h : Block w g t cs) : Block w.drew g t cs := h
theorem Block.new (w : World) (t : TypeId) (cs : List Value) : Block (w.alloc (.cells cs.toArray t)) w.heap.size t cs := heap_alloc_new w _
theorem Block.far {w : World} {g : Nat} {t : TypeId} {cs : List Value} (h : Block w g t cs) {p : Addr} (hp : g ≠ p.block) (u : Value) : Block (w.setCell p u) g t cs := (Below.heap_setCell w p u g hp).trans h
theorem run_loadVar_block {P : Program} {w : World} {T t : TypeId} {b : Nat} {cs : List Value} (hb : Block w b t cs) (ha : ∀ w, (isAgg T).run P w = .ok true w) (hs : ∀ w, (sizeOf T).run P w = .ok cs.length w) :
    (loadVar T ⟨b, 0, none⟩).run P w = .ok (.agg cs.toArray) w := by
  have hl := run_loadCells_list (P := P) w ⟨b, 0, none⟩ cs (fun j v hj => by
    have e1 : (⟨b, 0, none⟩ : Addr).add j = ⟨b, j, none⟩ := by unfold Addr.add; split <;> simp_all
    rw [e1, hb.cell j, hj])
  simp only [loadVar, Sem.run_bind, ha, Result.andThen, if_true, hs, hl]
  rfl
section
variable {P : Program} {fn : Func} {R : Ending → World → Prop} {a : Act} {w : World} {T t : TypeId} {b : Nat} {cs : List Value}
theorem ret_ttc {x y p : Tmp} (hr : fn.results = #[.tmp x, .tmp y, .cell p T]) (hd : a.defers = []) (hp : a.tmps.getD p undef = .pointer (some ⟨b, 0, none⟩)) (hb : Block w b t cs) (ha : ∀ w, (isAgg T).run P w = .ok true w) (hs : ∀ w, (sizeOf T).run P w = .ok cs.length w)
    (hR : R (.returned (.tuple #[a.tmps.getD x undef, a.tmps.getD y undef, .agg cs.toArray])) w) : bodyPost P fn R .ret a w := by
  refine bodyPost_ret (v := .tuple #[a.tmps.getD x undef, a.tmps.getD y undef, .agg cs.toArray]) ?_ hd hR
  simp only [results, hr]
  simp [Sem.run_bind, Result.andThen]
  rw [show a.tmps[p]?.getD undef = .pointer (some ⟨b, 0, none⟩) by rw [← hp]; simp]
  simp [asAddr, Sem.run_pure, run_loadVar_block hb ha hs]
theorem ret_c {p : Tmp} (hr : fn.results = #[.cell p T]) (hd : a.defers = []) (hp : a.tmps.getD p undef = .pointer (some ⟨b, 0, none⟩)) (hb : Block w b t cs) (ha : ∀ w, (isAgg T).run P w = .ok true w) (hs : ∀ w, (sizeOf T).run P w = .ok cs.length w)
    (hR : R (.returned (.agg cs.toArray)) w) : bodyPost P fn R .ret a w := by
  refine bodyPost_ret (v := .agg cs.toArray) ?_ hd hR
  simp only [results, hr]
  simp [Sem.run_bind, Result.andThen]
  rw [show a.tmps[p]?.getD undef = .pointer (some ⟨b, 0, none⟩) by rw [← hp]; simp]
  simp [asAddr, Sem.run_pure, run_loadVar_block hb ha hs]
end
theorem shows_at (w : World) (xs : List Value) (t : TypeId) (g : Nat) (hg : g = w.heap.size) : Shows (w.alloc (.cells xs.toArray t)) (g + 1) 1 (some ⟨g, 0, none⟩) xs.length xs := hg ▸ shows_built w xs t
theorem bel_grown {w a b : World} {row : Option Nat} (h : Below w.heap.size w a) (hg : a.grownBy b row) (hr : ∀ k, row = some k → w.heap.size ≤ k) : Below w.heap.size w b := h.grown hg h.size hr
end Go.Proofs.YthmhdaefkhcenaaGreatDoor
namespace Go.Proofs.YthmhdaefkhcenaaGreatDoor
open Go.RowKit

theorem sBel {p : Prop} (h : p := by (repeat' (first | (with_reducible exact Below.refl _ _) | (with_reducible assumption) | (with_reducible refine bel_drewN ?_ _) | (with_reducible refine Below.drew ?_) | (with_reducible refine bel_alloc ?_ _) | (with_reducible refine bel_set ?_ (by first | (simp; done) | (simp; omega)) _)))) : p := h
theorem sBlk {p : Prop} (h : p := by (repeat' (first | (with_reducible assumption) | (with_reducible refine btop ?_; first | (simp; done) | (simp; omega) | omega) | (with_reducible refine Block.alloc ?_ _) | (with_reducible refine Block.drewN ?_ _) | (with_reducible refine Block.drew ?_) | (with_reducible refine Block.call ?_ hb1) | (with_reducible refine Block.call ?_ hb2) | (with_reducible refine Block.call ?_ hb3) | (with_reducible refine Block.call ?_ hb4) | (with_reducible refine Block.call ?_ hb5) | (with_reducible refine Block.call ?_ hb6) | (with_reducible refine Block.call ?_ hb7) | (with_reducible refine Block.call ?_ hb8) | (with_reducible refine Block.call ?_ hb9)))) : p := h
theorem sHas {p : Prop} (h : p := by (repeat' (first | (with_reducible assumption) | (with_reducible refine Has.alloc ?_ _) | (with_reducible refine Has.drewN ?_ _) | (with_reducible refine Has.drew ?_) | (with_reducible refine Has.far ?_ (by first | (simp; done) | (simp; omega)) _) | (with_reducible refine Has.call ?_ hb1) | (with_reducible refine Has.call ?_ hb2) | (with_reducible refine Has.call ?_ hb3) | (with_reducible refine Has.call ?_ hb4) | (with_reducible refine Has.call ?_ hb5) | (with_reducible refine Has.call ?_ hb6) | (with_reducible refine Has.call ?_ hb7) | (with_reducible refine Has.call ?_ hb8) | (with_reducible refine Has.call ?_ hb9) | (refine Has.of_block ?_)))) : p := h
theorem sMapf {p : Prop} (h : p := by (repeat' (first | (with_reducible assumption) | (with_reducible refine MapAt.top ?_; simp; done) | (with_reducible refine MapAt.alloc ?_ _) | (with_reducible refine MapAt.set ?_ _ _) | (with_reducible refine MapAt.drewN ?_ _) | (with_reducible refine MapAt.drew ?_) | (with_reducible refine MapAt.call ?_ hb1) | (with_reducible refine MapAt.call ?_ hb2) | (with_reducible refine MapAt.call ?_ hb3) | (with_reducible refine MapAt.call ?_ hb4) | (with_reducible refine MapAt.call ?_ hb5) | (with_reducible refine MapAt.call ?_ hb6) | (with_reducible refine MapAt.call ?_ hb7) | (with_reducible refine MapAt.call ?_ hb8) | (with_reducible refine MapAt.call ?_ hb9)))) : p := h
theorem sCls {p : Prop} (h : p := by (repeat' (first | exact cells_nil | refine cells_cons (by first | (with_reducible assumption) | (go_simp; done) | (simp [go_sem]; done)) ?_))) : p := h
theorem sFac {p : Prop} (h : p := by (first | (with_reducible assumption) | ((repeat' (first | (with_reducible assumption) | (with_reducible refine Block.drew ?_) | (with_reducible refine Block.alloc ?_ _) | exact True.intro | (with_reducible refine Block.far ?_ (by first | (simp; done) | (simp; omega)) _))); done) | ((repeat' (first | (with_reducible assumption) | (with_reducible refine btop ?_; first | (simp; done) | (simp; omega) | omega) | (with_reducible refine Block.alloc ?_ _) | (with_reducible refine Block.drewN ?_ _) | (with_reducible refine Block.drew ?_) | (with_reducible refine Block.call ?_ hb1) | (with_reducible refine Block.call ?_ hb2) | (with_reducible refine Block.call ?_ hb3) | (with_reducible refine Block.call ?_ hb4) | (with_reducible refine Block.call ?_ hb5) | (with_reducible refine Block.call ?_ hb6) | (with_reducible refine Block.call ?_ hb7) | (with_reducible refine Block.call ?_ hb8) | (with_reducible refine Block.call ?_ hb9))); done) | ((repeat' (first | (with_reducible assumption) | (with_reducible refine Has.drew ?_) | (refine has_top ?_; simp; done) | (with_reducible refine Has.alloc ?_ _) | (with_reducible refine Has.far ?_ (by first | (simp; done) | (simp; omega)) _))); done) | ((repeat' (first | (with_reducible assumption) | (with_reducible refine Has.alloc ?_ _) | (with_reducible refine Has.drewN ?_ _) | (with_reducible refine Has.drew ?_) | (with_reducible refine Has.far ?_ (by first | (simp; done) | (simp; omega)) _) | (with_reducible refine Has.call ?_ hb1) | (with_reducible refine Has.call ?_ hb2) | (with_reducible refine Has.call ?_ hb3) | (with_reducible refine Has.call ?_ hb4) | (with_reducible refine Has.call ?_ hb5) | (with_reducible refine Has.call ?_ hb6) | (with_reducible refine Has.call ?_ hb7) | (with_reducible refine Has.call ?_ hb8) | (with_reducible refine Has.call ?_ hb9) | (refine Has.of_block ?_))); done) | ((repeat' (first | (with_reducible exact Below.refl _ _) | (with_reducible assumption) | (with_reducible refine Below.drew ?_) | (refine Below.alloc ?_ (by simp; omega) _) | (with_reducible refine Below.setCell ?_ (by first | (simp; done) | (simp; omega)) _))); done) | ((repeat' (first | (with_reducible exact Below.refl _ _) | (with_reducible assumption) | (with_reducible refine bel_drewN ?_ _) | (with_reducible refine Below.drew ?_) | (with_reducible refine bel_alloc ?_ _) | (with_reducible refine bel_set ?_ (by first | (simp; done) | (simp; omega)) _))); done) | (intro j; go_simp; done) | omega | (simp; done) | (simp; omega))) : p := h
theorem sFacT {p : Prop} (h : p := by (first | (with_reducible assumption) | ((repeat' (first | (with_reducible assumption) | (with_reducible refine Block.drew ?_) | (with_reducible refine Block.alloc ?_ _) | exact hT | (with_reducible refine Block.far ?_ (by first | (simp; done) | (simp; omega)) _))); done) | ((repeat' (first | (with_reducible assumption) | (with_reducible refine btop ?_; first | (simp; done) | (simp; omega) | omega) | (with_reducible refine Block.alloc ?_ _) | (with_reducible refine Block.drewN ?_ _) | (with_reducible refine Block.drew ?_) | (with_reducible refine Block.call ?_ hb1) | (with_reducible refine Block.call ?_ hb2) | (with_reducible refine Block.call ?_ hb3) | (with_reducible refine Block.call ?_ hb4) | (with_reducible refine Block.call ?_ hb5) | (with_reducible refine Block.call ?_ hb6) | (with_reducible refine Block.call ?_ hb7) | (with_reducible refine Block.call ?_ hb8) | (with_reducible refine Block.call ?_ hb9))); done) | ((repeat' (first | (with_reducible assumption) | (with_reducible refine Has.drew ?_) | (refine has_top ?_; simp; done) | (with_reducible refine Has.alloc ?_ _) | (with_reducible refine Has.far ?_ (by first | (simp; done) | (simp; omega)) _))); done) | ((repeat' (first | (with_reducible assumption) | (with_reducible refine Has.alloc ?_ _) | (with_reducible refine Has.drewN ?_ _) | (with_reducible refine Has.drew ?_) | (with_reducible refine Has.far ?_ (by first | (simp; done) | (simp; omega)) _) | (with_reducible refine Has.call ?_ hb1) | (with_reducible refine Has.call ?_ hb2) | (with_reducible refine Has.call ?_ hb3) | (with_reducible refine Has.call ?_ hb4) | (with_reducible refine Has.call ?_ hb5) | (with_reducible refine Has.call ?_ hb6) | (with_reducible refine Has.call ?_ hb7) | (with_reducible refine Has.call ?_ hb8) | (with_reducible refine Has.call ?_ hb9) | (refine Has.of_block ?_))); done) | ((repeat' (first | (with_reducible exact Below.refl _ _) | (with_reducible assumption) | (with_reducible refine Below.drew ?_) | (refine Below.alloc ?_ (by simp; omega) _) | (with_reducible refine Below.setCell ?_ (by first | (simp; done) | (simp; omega)) _))); done) | ((repeat' (first | (with_reducible exact Below.refl _ _) | (with_reducible assumption) | (with_reducible refine bel_drewN ?_ _) | (with_reducible refine Below.drew ?_) | (with_reducible refine bel_alloc ?_ _) | (with_reducible refine bel_set ?_ (by first | (simp; done) | (simp; omega)) _))); done) | (intro j; go_simp; done) | omega | (simp; done) | (simp; omega))) : p := h
section
variable {w : World} {g : Nat} {t : TypeId} {a0 a1 a2 a3 a4 a5 a6 a7 a8 a9 a10 a11 a12 a13 a14 a15 a16 a17 : Value} {r : List Value}
theorem Block.c1 (h : Block w g t (a0 :: r)) : g < w.heap.size ∧ (∀ i, w.frozen? ⟨g, i, none⟩ = false) ∧ w.cell? ⟨g, 0, none⟩ = some a0 := ⟨h.lt, h.free, h.cell 0⟩
theorem Block.c2 (h : Block w g t (a0 :: a1 :: r)) : g < w.heap.size ∧ (∀ i, w.frozen? ⟨g, i, none⟩ = false) ∧ w.cell? ⟨g, 0, none⟩ = some a0 ∧ w.cell? ⟨g, 1, none⟩ = some a1 := ⟨h.lt, h.free, h.cell 0, h.cell 1⟩
theorem Block.c3 (h : Block w g t (a0 :: a1 :: a2 :: r)) : g < w.heap.size ∧ (∀ i, w.frozen? ⟨g, i, none⟩ = false) ∧ w.cell? ⟨g, 0, none⟩ = some a0 ∧ w.cell? ⟨g, 1, none⟩ = some a1 ∧ w.cell? ⟨g, 2, none⟩ = some a2 := ⟨h.lt, h.free, h.cell 0, h.cell 1, h.cell 2⟩
theorem Block.c4 (h : Block w g t (a0 :: a1 :: a2 :: a3 :: r)) : g < w.heap.size ∧ (∀ i, w.frozen? ⟨g, i, none⟩ = false) ∧ w.cell? ⟨g, 0, none⟩ = some a0 ∧ w.cell? ⟨g, 1, none⟩ = some a1 ∧ w.cell? ⟨g, 2, none⟩ = some a2 ∧ w.cell? ⟨g, 3, none⟩ = some a3 := ⟨h.lt, h.free, h.cell 0, h.cell 1, h.cell 2, h.cell 3⟩
theorem Block.c5 (h : Block w g t (a0 :: a1 :: a2 :: a3 :: a4 :: r)) : g < w.heap.size ∧ (∀ i, w.frozen? ⟨g, i, none⟩ = false) ∧ w.cell? ⟨g, 0, none⟩ = some a0 ∧ w.cell? ⟨g, 1, none⟩ = some a1 ∧ w.cell? ⟨g, 2, none⟩ = some a2 ∧ w.cell? ⟨g, 3, none⟩ = some a3 ∧ w.cell? ⟨g, 4, none⟩ = some a4 := ⟨h.lt, h.free, h.cell 0, h.cell 1, h.cell 2, h.cell 3, h.cell 4⟩
theorem Block.c6 (h : Block w g t (a0 :: a1 :: a2 :: a3 :: a4 :: a5 :: r)) : g < w.heap.size ∧ (∀ i, w.frozen? ⟨g, i, none⟩ = false) ∧ w.cell? ⟨g, 0, none⟩ = some a0 ∧ w.cell? ⟨g, 1, none⟩ = some a1 ∧ w.cell? ⟨g, 2, none⟩ = some a2 ∧ w.cell? ⟨g, 3, none⟩ = some a3 ∧ w.cell? ⟨g, 4, none⟩ = some a4 ∧ w.cell? ⟨g, 5, none⟩ = some a5 := ⟨h.lt, h.free, h.cell 0, h.cell 1, h.cell 2, h.cell 3, h.cell 4, h.cell 5⟩
theorem Block.c7 (h : Block w g t (a0 :: a1 :: a2 :: a3 :: a4 :: a5 :: a6 :: r)) : g < w.heap.size ∧ (∀ i, w.frozen? ⟨g, i, none⟩ = false) ∧ w.cell? ⟨g, 0, none⟩ = some a0 ∧ w.cell? ⟨g, 1, none⟩ = some a1 ∧ w.cell? ⟨g, 2, none⟩ = some a2 ∧ w.cell? ⟨g, 3, none⟩ = some a3 ∧ w.cell? ⟨g, 4, none⟩ = some a4 ∧ w.cell? ⟨g, 5, none⟩ = some a5 ∧ w.cell? ⟨g, 6, none⟩ = some a6 := ⟨h.lt, h.free, h.cell 0, h.cell 1, h.cell 2, h.cell 3, h.cell 4, h.cell 5, h.cell 6⟩
theorem Block.c8 (h : Block w g t (a0 :: a1 :: a2 :: a3 :: a4 :: a5 :: a6 :: a7 :: r)) : g < w.heap.size ∧ (∀ i, w.frozen? ⟨g, i, none⟩ = false) ∧ w.cell? ⟨g, 0, none⟩ = some a0 ∧ w.cell? ⟨g, 1, none⟩ = some a1 ∧ w.cell? ⟨g, 2, none⟩ = some a2 ∧ w.cell? ⟨g, 3, none⟩ = some a3 ∧ w.cell? ⟨g, 4, none⟩ = some a4 ∧ w.cell? ⟨g, 5, none⟩ = some a5 ∧ w.cell? ⟨g, 6, none⟩ = some a6 ∧ w.cell? ⟨g, 7, none⟩ = some a7 := ⟨h.lt, h.free, h.cell 0, h.cell 1, h.cell 2, h.cell 3, h.cell 4, h.cell 5, h.cell 6, h.cell 7⟩
theorem Block.c9 (h : Block w g t (a0 :: a1 :: a2 :: a3 :: a4 :: a5 :: a6 :: a7 :: a8 :: r)) : g < w.heap.size ∧ (∀ i, w.frozen? ⟨g, i, none⟩ = false) ∧ w.cell? ⟨g, 0, none⟩ = some a0 ∧ w.cell? ⟨g, 1, none⟩ = some a1 ∧ w.cell? ⟨g, 2, none⟩ = some a2 ∧ w.cell? ⟨g, 3, none⟩ = some a3 ∧ w.cell? ⟨g, 4, none⟩ = some a4 ∧ w.cell? ⟨g, 5, none⟩ = some a5 ∧ w.cell? ⟨g, 6, none⟩ = some a6 ∧ w.cell? ⟨g, 7, none⟩ = some a7 ∧ w.cell? ⟨g, 8, none⟩ = some a8 := ⟨h.lt, h.free, h.cell 0, h.cell 1, h.cell 2, h.cell 3, h.cell 4, h.cell 5, h.cell 6, h.cell 7, h.cell 8⟩
theorem Block.c10 (h : Block w g t (a0 :: a1 :: a2 :: a3 :: a4 :: a5 :: a6 :: a7 :: a8 :: a9 :: r)) : g < w.heap.size ∧ (∀ i, w.frozen? ⟨g, i, none⟩ = false) ∧ w.cell? ⟨g, 0, none⟩ = some a0 ∧ w.cell? ⟨g, 1, none⟩ = some a1 ∧ w.cell? ⟨g, 2, none⟩ = some a2 ∧ w.cell? ⟨g, 3, none⟩ = some a3 ∧ w.cell? ⟨g, 4, none⟩ = some a4 ∧ w.cell? ⟨g, 5, none⟩ = some a5 ∧ w.cell? ⟨g, 6, none⟩ = some a6 ∧ w.cell? ⟨g, 7, none⟩ = some a7 ∧ w.cell? ⟨g, 8, none⟩ = some a8 ∧ w.cell? ⟨g, 9, none⟩ = some a9 := ⟨h.lt, h.free, h.cell 0, h.cell 1, h.cell 2, h.cell 3, h.cell 4, h.cell 5, h.cell 6, h.cell 7, h.cell 8, h.cell 9⟩
theorem Block.c11 (h : Block w g t (a0 :: a1 :: a2 :: a3 :: a4 :: a5 :: a6 :: a7 :: a8 :: a9 :: a10 :: r)) : g < w.heap.size ∧ (∀ i, w.frozen? ⟨g, i, none⟩ = false) ∧ w.cell? ⟨g, 0, none⟩ = some a0 ∧ w.cell? ⟨g, 1, none⟩ = some a1 ∧ w.cell? ⟨g, 2, none⟩ = some a2 ∧ w.cell? ⟨g, 3, none⟩ = some a3 ∧ w.cell? ⟨g, 4, none⟩ = some a4 ∧ w.cell? ⟨g, 5, none⟩ = some a5 ∧ w.cell? ⟨g, 6, none⟩ = some a6 ∧ w.cell? ⟨g, 7, none⟩ = some a7 ∧ w.cell? ⟨g, 8, none⟩ = some a8 ∧ w.cell? ⟨g, 9, none⟩ = some a9 ∧ w.cell? ⟨g, 10, none⟩ = some a10 := ⟨h.lt, h.free, h.cell 0, h.cell 1, h.cell 2, h.cell 3, h.cell 4, h.cell 5, h.cell 6, h.cell 7, h.cell 8, h.cell 9, h.cell 10⟩
theorem Block.c12 (h : Block w g t (a0 :: a1 :: a2 :: a3 :: a4 :: a5 :: a6 :: a7 :: a8 :: a9 :: a10 :: a11 :: r)) : g < w.heap.size ∧ (∀ i, w.frozen? ⟨g, i, none⟩ = false) ∧ w.cell? ⟨g, 0, none⟩ = some a0 ∧ w.cell? ⟨g, 1, none⟩ = some a1 ∧ w.cell? ⟨g, 2, none⟩ = some a2 ∧ w.cell? ⟨g, 3, none⟩ = some a3 ∧ w.cell? ⟨g, 4, none⟩ = some a4 ∧ w.cell? ⟨g, 5, none⟩ = some a5 ∧ w.cell? ⟨g, 6, none⟩ = some a6 ∧ w.cell? ⟨g, 7, none⟩ = some a7 ∧ w.cell? ⟨g, 8, none⟩ = some a8 ∧ w.cell? ⟨g, 9, none⟩ = some a9 ∧ w.cell? ⟨g, 10, none⟩ = some a10 ∧ w.cell? ⟨g, 11, none⟩ = some a11 := ⟨h.lt, h.free, h.cell 0, h.cell 1, h.cell 2, h.cell 3, h.cell 4, h.cell 5, h.cell 6, h.cell 7, h.cell 8, h.cell 9, h.cell 10, h.cell 11⟩
theorem Block.c13 (h : Block w g t (a0 :: a1 :: a2 :: a3 :: a4 :: a5 :: a6 :: a7 :: a8 :: a9 :: a10 :: a11 :: a12 :: r)) : g < w.heap.size ∧ (∀ i, w.frozen? ⟨g, i, none⟩ = false) ∧ w.cell? ⟨g, 0, none⟩ = some a0 ∧ w.cell? ⟨g, 1, none⟩ = some a1 ∧ w.cell? ⟨g, 2, none⟩ = some a2 ∧ w.cell? ⟨g, 3, none⟩ = some a3 ∧ w.cell? ⟨g, 4, none⟩ = some a4 ∧ w.cell? ⟨g, 5, none⟩ = some a5 ∧ w.cell? ⟨g, 6, none⟩ = some a6 ∧ w.cell? ⟨g, 7, none⟩ = some a7 ∧ w.cell? ⟨g, 8, none⟩ = some a8 ∧ w.cell? ⟨g, 9, none⟩ = some a9 ∧ w.cell? ⟨g, 10, none⟩ = some a10 ∧ w.cell? ⟨g, 11, none⟩ = some a11 ∧ w.cell? ⟨g, 12, none⟩ = some a12 := ⟨h.lt, h.free, h.cell 0, h.cell 1, h.cell 2, h.cell 3, h.cell 4, h.cell 5, h.cell 6, h.cell 7, h.cell 8, h.cell 9, h.cell 10, h.cell 11, h.cell 12⟩
theorem Block.c14 (h : Block w g t (a0 :: a1 :: a2 :: a3 :: a4 :: a5 :: a6 :: a7 :: a8 :: a9 :: a10 :: a11 :: a12 :: a13 :: r)) : g < w.heap.size ∧ (∀ i, w.frozen? ⟨g, i, none⟩ = false) ∧ w.cell? ⟨g, 0, none⟩ = some a0 ∧ w.cell? ⟨g, 1, none⟩ = some a1 ∧ w.cell? ⟨g, 2, none⟩ = some a2 ∧ w.cell? ⟨g, 3, none⟩ = some a3 ∧ w.cell? ⟨g, 4, none⟩ = some a4 ∧ w.cell? ⟨g, 5, none⟩ = some a5 ∧ w.cell? ⟨g, 6, none⟩ = some a6 ∧ w.cell? ⟨g, 7, none⟩ = some a7 ∧ w.cell? ⟨g, 8, none⟩ = some a8 ∧ w.cell? ⟨g, 9, none⟩ = some a9 ∧ w.cell? ⟨g, 10, none⟩ = some a10 ∧ w.cell? ⟨g, 11, none⟩ = some a11 ∧ w.cell? ⟨g, 12, none⟩ = some a12 ∧ w.cell? ⟨g, 13, none⟩ = some a13 := ⟨h.lt, h.free, h.cell 0, h.cell 1, h.cell 2, h.cell 3, h.cell 4, h.cell 5, h.cell 6, h.cell 7, h.cell 8, h.cell 9, h.cell 10, h.cell 11, h.cell 12, h.cell 13⟩
theorem Block.c15 (h : Block w g t (a0 :: a1 :: a2 :: a3 :: a4 :: a5 :: a6 :: a7 :: a8 :: a9 :: a10 :: a11 :: a12 :: a13 :: a14 :: r)) : g < w.heap.size ∧ (∀ i, w.frozen? ⟨g, i, none⟩ = false) ∧ w.cell? ⟨g, 0, none⟩ = some a0 ∧ w.cell? ⟨g, 1, none⟩ = some a1 ∧ w.cell? ⟨g, 2, none⟩ = some a2 ∧ w.cell? ⟨g, 3, none⟩ = some a3 ∧ w.cell? ⟨g, 4, none⟩ = some a4 ∧ w.cell? ⟨g, 5, none⟩ = some a5 ∧ w.cell? ⟨g, 6, none⟩ = some a6 ∧ w.cell? ⟨g, 7, none⟩ = some a7 ∧ w.cell? ⟨g, 8, none⟩ = some a8 ∧ w.cell? ⟨g, 9, none⟩ = some a9 ∧ w.cell? ⟨g, 10, none⟩ = some a10 ∧ w.cell? ⟨g, 11, none⟩ = some a11 ∧ w.cell? ⟨g, 12, none⟩ = some a12 ∧ w.cell? ⟨g, 13, none⟩ = some a13 ∧ w.cell? ⟨g, 14, none⟩ = some a14 := ⟨h.lt, h.free, h.cell 0, h.cell 1, h.cell 2, h.cell 3, h.cell 4, h.cell 5, h.cell 6, h.cell 7, h.cell 8, h.cell 9, h.cell 10, h.cell 11, h.cell 12, h.cell 13, h.cell 14⟩
theorem Block.c16 (h : Block w g t (a0 :: a1 :: a2 :: a3 :: a4 :: a5 :: a6 :: a7 :: a8 :: a9 :: a10 :: a11 :: a12 :: a13 :: a14 :: a15 :: r)) : g < w.heap.size ∧ (∀ i, w.frozen? ⟨g, i, none⟩ = false) ∧ w.cell? ⟨g, 0, none⟩ = some a0 ∧ w.cell? ⟨g, 1, none⟩ = some a1 ∧ w.cell? ⟨g, 2, none⟩ = some a2 ∧ w.cell? ⟨g, 3, none⟩ = some a3 ∧ w.cell? ⟨g, 4, none⟩ = some a4 ∧ w.cell? ⟨g, 5, none⟩ = some a5 ∧ w.cell? ⟨g, 6, none⟩ = some a6 ∧ w.cell? ⟨g, 7, none⟩ = some a7 ∧ w.cell? ⟨g, 8, none⟩ = some a8 ∧ w.cell? ⟨g, 9, none⟩ = some a9 ∧ w.cell? ⟨g, 10, none⟩ = some a10 ∧ w.cell? ⟨g, 11, none⟩ = some a11 ∧ w.cell? ⟨g, 12, none⟩ = some a12 ∧ w.cell? ⟨g, 13, none⟩ = some a13 ∧ w.cell? ⟨g, 14, none⟩ = some a14 ∧ w.cell? ⟨g, 15, none⟩ = some a15 := ⟨h.lt, h.free, h.cell 0, h.cell 1, h.cell 2, h.cell 3, h.cell 4, h.cell 5, h.cell 6, h.cell 7, h.cell 8, h.cell 9, h.cell 10, h.cell 11, h.cell 12, h.cell 13, h.cell 14, h.cell 15⟩
theorem Block.c17 (h : Block w g t (a0 :: a1 :: a2 :: a3 :: a4 :: a5 :: a6 :: a7 :: a8 :: a9 :: a10 :: a11 :: a12 :: a13 :: a14 :: a15 :: a16 :: r)) : g < w.heap.size ∧ (∀ i, w.frozen? ⟨g, i, none⟩ = false) ∧ w.cell? ⟨g, 0, none⟩ = some a0 ∧ w.cell? ⟨g, 1, none⟩ = some a1 ∧ w.cell? ⟨g, 2, none⟩ = some a2 ∧ w.cell? ⟨g, 3, none⟩ = some a3 ∧ w.cell? ⟨g, 4, none⟩ = some a4 ∧ w.cell? ⟨g, 5, none⟩ = some a5 ∧ w.cell? ⟨g, 6, none⟩ = some a6 ∧ w.cell? ⟨g, 7, none⟩ = some a7 ∧ w.cell? ⟨g, 8, none⟩ = some a8 ∧ w.cell? ⟨g, 9, none⟩ = some a9 ∧ w.cell? ⟨g, 10, none⟩ = some a10 ∧ w.cell? ⟨g, 11, none⟩ = some a11 ∧ w.cell? ⟨g, 12, none⟩ = some a12 ∧ w.cell? ⟨g, 13, none⟩ = some a13 ∧ w.cell? ⟨g, 14, none⟩ = some a14 ∧ w.cell? ⟨g, 15, none⟩ = some a15 ∧ w.cell? ⟨g, 16, none⟩ = some a16 := ⟨h.lt, h.free, h.cell 0, h.cell 1, h.cell 2, h.cell 3, h.cell 4, h.cell 5, h.cell 6, h.cell 7, h.cell 8, h.cell 9, h.cell 10, h.cell 11, h.cell 12, h.cell 13, h.cell 14, h.cell 15, h.cell 16⟩
theorem Block.c18 (h : Block w g t (a0 :: a1 :: a2 :: a3 :: a4 :: a5 :: a6 :: a7 :: a8 :: a9 :: a10 :: a11 :: a12 :: a13 :: a14 :: a15 :: a16 :: a17 :: r)) : g < w.heap.size ∧ (∀ i, w.frozen? ⟨g, i, none⟩ = false) ∧ w.cell? ⟨g, 0, none⟩ = some a0 ∧ w.cell? ⟨g, 1, none⟩ = some a1 ∧ w.cell? ⟨g, 2, none⟩ = some a2 ∧ w.cell? ⟨g, 3, none⟩ = some a3 ∧ w.cell? ⟨g, 4, none⟩ = some a4 ∧ w.cell? ⟨g, 5, none⟩ = some a5 ∧ w.cell? ⟨g, 6, none⟩ = some a6 ∧ w.cell? ⟨g, 7, none⟩ = some a7 ∧ w.cell? ⟨g, 8, none⟩ = some a8 ∧ w.cell? ⟨g, 9, none⟩ = some a9 ∧ w.cell? ⟨g, 10, none⟩ = some a10 ∧ w.cell? ⟨g, 11, none⟩ = some a11 ∧ w.cell? ⟨g, 12, none⟩ = some a12 ∧ w.cell? ⟨g, 13, none⟩ = some a13 ∧ w.cell? ⟨g, 14, none⟩ = some a14 ∧ w.cell? ⟨g, 15, none⟩ = some a15 ∧ w.cell? ⟨g, 16, none⟩ = some a16 ∧ w.cell? ⟨g, 17, none⟩ = some a17 := ⟨h.lt, h.free, h.cell 0, h.cell 1, h.cell 2, h.cell 3, h.cell 4, h.cell 5, h.cell 6, h.cell 7, h.cell 8, h.cell 9, h.cell 10, h.cell 11, h.cell 12, h.cell 13, h.cell 14, h.cell 15, h.cell 16, h.cell 17⟩
end
end Go.Proofs.YthmhdaefkhcenaaGreatDoor
namespace Go.Proofs.YthmhdaefkhcenaaGreatDoor
open Go.RowKit Go.Lib

def Full (T : Value → Prop) (w : World) (base : Nat) (e : TypeId) (size : Nat) (A : Option Addr) (n c : Nat) (xs : List Value) : Prop :=
  xs.length = n * size ∧ ((A = none ∧ n = 0 ∧ c = 0) ∨
    ∃ g zs, A = some ⟨g, 0, none⟩ ∧ base ≤ g ∧ w.heap[g]? = some (.cells (xs ++ zs).toArray e (0, 0)) ∧ n ≤ c ∧ c ≤ maxLen ∧ (xs ++ zs).length = c * size ∧ ∀ z ∈ zs, T z)
section
variable {T : Value → Prop} {w w' : World} {base base' : Nat} {e : TypeId} {size n c : Nat} {A : Option Addr} {xs : List Value}
theorem Full.nil (T : Value → Prop) (w : World) (base : Nat) (e : TypeId) (size : Nat) : Full T w base e size none 0 0 [] := ⟨by simp, .inl ⟨rfl, rfl, rfl⟩⟩
theorem Full.owns (h : Full T w base e size A n c xs) : w.ownsRow base e size (.slice A n c) n xs := by
  refine ⟨h.1, ?_⟩
  rcases h.2 with ⟨rfl, rfl, rfl⟩ | ⟨g, zs, rfl, hb, hg, hn, hc, hl, _⟩
  · exact .inl ⟨rfl, rfl⟩
  · exact .inr ⟨g, c, _, rfl, hb, hg, hn, hc, by simpa using hl, by rw [← h.1]; simp⟩
theorem Full.low (h : Full T w base e size A n c xs) (hb : base' ≤ base) : Full T w base' e size A n c xs := by
  refine ⟨h.1, ?_⟩
  rcases h.2 with h1 | ⟨g, zs, hA, hg, hr⟩
  · exact .inl h1
  · exact .inr ⟨g, zs, hA, by omega, hr⟩
theorem Full.lt {g : Nat} (h : Full T w base e size A n c xs) (hA : A = some ⟨g, 0, none⟩) : base ≤ g ∧ g < w.heap.size := by
  rcases h.2 with ⟨h1, _⟩ | ⟨g', zs, hA', hb, hg, _⟩
  · rw [h1] at hA; cases hA
  · rw [hA'] at hA
    injection hA with hA; injection hA with hA; subst hA
    refine ⟨hb, ?_⟩
    rcases Nat.lt_or_ge g' w.heap.size with hlt | hge
    · exact hlt
    · rw [Array.getElem?_eq_none hge] at hg; cases hg
theorem Full.same (h : Full T w base e size A n c xs) (hs : ∀ g, A = some ⟨g, 0, none⟩ → w'.heap[g]? = w.heap[g]?) : Full T w' base e size A n c xs := by
  refine ⟨h.1, ?_⟩
  rcases h.2 with h1 | ⟨g, zs, hA, hb, hg, hr⟩
  · exact .inl h1
  · exact .inr ⟨g, zs, hA, hb, (hs g hA).trans hg, hr⟩
theorem Full.call (h : Full T w base e size A n c xs) (hb : Below w.heap.size w w') : Full T w' base e size A n c xs := h.same fun g hA => hb.block g (h.lt hA).2
theorem Full.alloc (h : Full T w base e size A n c xs) (o : Obj) : Full T (w.alloc o) base e size A n c xs := h.same fun _ hA => Below.heap_alloc _ _ _ (h.lt hA).2
theorem Full.kept {row : Option Nat} (h : Full T w base e size A n c xs) (hg : w.grownBy w' row) (hne : ∀ g, A = some ⟨g, 0, none⟩ → some g ≠ row) : Full T w' base e size A n c xs := h.same fun g hA => hg.block g (h.lt hA).2 (hne g hA)
end

theorem zero_cells {T : Value → Prop} (z : Array Value) (hz : ∀ j (h : j < z.size), T z[j]) (n : Nat) : ∀ v ∈ (Builtin.zeroCells z n).toList, T v := by
  intro v hv
  simp only [Builtin.zeroCells, Array.toList_map, List.mem_map, Array.toList_range, List.mem_range] at hv
  obtain ⟨i, hi, rfl⟩ := hv
  have h0 : 0 < z.size := by
    rcases Nat.eq_zero_or_pos z.size with h | h
    · rw [h] at hi; omega
    · exact h
  have hm : i % z.size < z.size := Nat.mod_lt _ h0
  rw [getElem!_pos z _ hm]
  exact hz _ hm
section
variable {P : Program} (w : World)
theorem full_grown {T : Value → Prop} (base : Nat) (e : TypeId) (z : Value) (size : Nat) (hzs : z.cells.size = size) (hzT : ∀ j (h : j < z.cells.size), T z.cells[j]) (xs news : List Value) (n m old : Nat)
    (hx : xs.length = n * size) (hl : news.length = m * size) (h63 : n + m ≤ maxLen) (hbase : base ≤ w.heap.size) (row : Option Nat) :
    Full T (w.drew.alloc (.cells (xs.toArray ++ news.toArray ++ Builtin.zeroCells z.cells (grownCap w (n + m) old e - (n + m))) e)) base e size (some ⟨w.heap.size, 0, none⟩) (n + m) (grownCap w (n + m) old e) (xs ++ news) ∧
    w.grownBy (w.drew.alloc (.cells (xs.toArray ++ news.toArray ++ Builtin.zeroCells z.cells (grownCap w (n + m) old e - (n + m))) e)) row := by
  have hge := grownCap_ge w (n + m) old e
  have hcm : grownCap w (n + m) old e ≤ maxLen := grownCap_le_maxLen w (n + m) old e h63
  refine ⟨⟨by rw [List.length_append, hx, hl, Nat.add_mul], .inr ⟨w.heap.size, (Builtin.zeroCells z.cells (grownCap w (n + m) old e - (n + m))).toList, rfl, hbase, ?_, hge, hcm, ?_, zero_cells _ hzT _⟩⟩, ⟨rfl, rfl, rfl, by simp, fun k hk _ => Below.heap_alloc w.drew _ k hk⟩⟩
  · rw [show ((xs ++ news) ++ (Builtin.zeroCells z.cells (grownCap w (n + m) old e - (n + m))).toList).toArray = xs.toArray ++ news.toArray ++ Builtin.zeroCells z.cells (grownCap w (n + m) old e - (n + m)) by apply Array.ext'; simp]
    exact heap_alloc_new w.drew _
  · rw [List.length_append, List.length_append, hx, hl, Array.length_toList, size_zeroCells, hzs, ← Nat.add_mul, ← Nat.add_mul]
    congr 1
    omega
theorem full_room {T : Value → Prop} (base g : Nat) (e : TypeId) (size : Nat) (xs zs news : List Value) (n m c : Nat) (hb : base ≤ g) (hg : w.heap[g]? = some (.cells (xs ++ zs).toArray e (0, 0)))
    (hx : xs.length = n * size) (hl : news.length = m * size) (hc : c ≤ maxLen) (hcs : (xs ++ zs).length = c * size) (hT : ∀ z ∈ zs, T z) (hroom : n + m ≤ c) :
    Full T (w.setRow g ((xs ++ zs).toArray.toList.take (n * size) ++ news ++ (xs ++ zs).toArray.toList.drop (n * size + news.length)).toArray) base e size (some ⟨g, 0, none⟩) (n + m) c (xs ++ news) ∧
    w.grownBy (w.setRow g ((xs ++ zs).toArray.toList.take (n * size) ++ news ++ (xs ++ zs).toArray.toList.drop (n * size + news.length)).toArray) (some g) := by
  have e1 : (xs ++ zs).toArray.toList.take (n * size) ++ news ++ (xs ++ zs).toArray.toList.drop (n * size + news.length) = (xs ++ news) ++ zs.drop news.length := by
    rw [← hx]
    simp [List.drop_append]
  rw [e1]
  have hfit : (n + m) * size ≤ c * size := Nat.mul_le_mul_right _ hroom
  rw [Nat.add_mul] at hfit
  rw [List.length_append, hx] at hcs
  refine ⟨⟨by rw [List.length_append, hx, hl, Nat.add_mul], .inr ⟨g, zs.drop news.length, rfl, hb, setRow_heap w g _ _ e _ hg, hroom, hc, ?_, fun z hz => hT z (List.mem_of_mem_drop hz)⟩⟩, ⟨rfl, rfl, rfl, by simp, fun k _ hk => setRow_other w g k _ (fun e => hk (by rw [e]))⟩⟩
  rw [List.length_append, List.length_append, List.length_drop, hx, hl]
  omega
theorem full_block {A : Option Addr} {n c : Nat} : Value.ownBlock (.slice A n c) = A.map (·.block) := by cases A <;> rfl
theorem run_append_full {T : Value → Prop} (base : Nat) (t ty e : TypeId) (i : TypeInfo) (z : Value) (size bytes : Nat) (ht : P.underlying t = some (.slice e)) (hi : P.info? e = some i) (hz : i.zero = some z)
    (hsize : i.size = size) (hby : i.bytes = bytes) (hzs : z.cells.size = size) (hsz : 0 < size) (hzT : ∀ j (h : j < z.cells.size), T z.cells[j])
    (A : Option Addr) (n c : Nat) (xs : List Value) (hf : Full T w base e size A n c xs)
    (B : Nat) (A2 : Option Addr) (m c2 : Nat) (news : List Value) (hr : Shows w B size A2 m news) (h1 : ∀ u ∈ news, u.oneCell' = true)
    (h63 : n + m ≤ maxLen) (hbytes : (n + m) * bytes ≤ 140737488355328) (hbase : base ≤ w.heap.size) :
    ∃ A' c' w', (Builtin.append_ #[t, t] ty #[.slice A n c, .slice A2 m c2]).run P w = .ok (.slice A' (n + m) c') w' ∧ Full T w' base e size A' (n + m) c' (xs ++ news) ∧ w.grownBy w' (Value.ownBlock (.slice A n c)) := by
  rcases Nat.eq_zero_or_pos m with hm | hm
  · subst hm
    have hn : news = [] := List.eq_nil_of_length_eq_zero (by simpa using hr.1)
    subst hn
    refine ⟨A, c, w, ?_, by simpa using hf, World.grownBy.refl w _⟩
    rcases A2 with _ | ad
    · rw [run_append_nothing w base t ty e i size ht hi _ n xs hf.owns c2]
      rfl
    · rcases hf.2 with ⟨rfl, rfl, rfl⟩ | ⟨g, zs, rfl, _, hg, hnc, _, hl, _⟩
      · simp [Builtin.append_, run_underlying ht, sizeOf, typeInfo, hi, Builtin.lenOf, Builtin.firstCells, loadCells, loadCellsFrom]
      · simp [Builtin.append_, run_underlying ht, sizeOf, typeInfo, hi, Builtin.lenOf, Builtin.firstCells, loadCells, loadCellsFrom, hnc, storeCells]
  · obtain ⟨b, off, rfl, _, hc⟩ := hr.2 hm
    have hnews : ∀ j u, news[j]? = some u → w.cell? ((⟨b, off, none⟩ : Addr).add j) = some u := by
      intro j u hu
      have e1 : (⟨b, off, none⟩ : Addr).add j = ⟨b, off + j, none⟩ := by unfold Addr.add; split <;> simp_all
      rw [e1, hc j (List.getElem?_eq_some_iff.1 hu).1, List.getD, hu]; rfl
    subst hsize
    subst hby
    have hsmall : n + m ≤ 9223372036854775807 := by simp only [maxLen] at h63; omega
    rcases hf.2 with ⟨rfl, rfl, rfl⟩ | ⟨g, zs, rfl, hb, hg, hnc, hcm, hl, hT⟩
    · have hx : xs = [] := List.eq_nil_of_length_eq_zero (by simpa using hf.1)
      subst hx
      have hrun := run_append_nil (P := P) w t ty e i z ht hi hz ⟨b, off, none⟩ m c2 news hr.1 hnews hm (by omega) (by have hb := hbytes; simp only [Nat.zero_add] at hb; omega)
      have hgr := full_grown (T := T) w base e z i.size hzs hzT [] news 0 m 0 (by simp) hr.1 h63 hbase (Value.ownBlock (.slice none 0 0))
      simp only [Nat.zero_add, List.nil_append, Array.empty_append] at hgr ⊢
      exact ⟨_, _, _, hrun, hgr.1, hgr.2⟩
    · by_cases hroom : n + m ≤ c
      · have hfit : n * i.size + news.length ≤ (xs ++ zs).toArray.size := by
          rw [hr.1, List.size_toArray, hl, ← Nat.add_mul]; exact Nat.mul_le_mul_right _ hroom
        have hrun := run_append_room (P := P) w t ty e i ht hi g n c (xs ++ zs).toArray hg ⟨b, off, none⟩ m c2 news hr.1 hnews h1 hroom hfit
        have hgr := full_room (T := T) w base g e i.size xs zs news n m c hb hg hf.1 hr.1 hcm hl hT hroom
        exact ⟨_, _, _, hrun, hgr.1, hgr.2⟩
      · have holds : ∀ j u, xs[j]? = some u → w.cell? ((⟨g, 0, none⟩ : Addr).add j) = some u := hf.owns.cells (g := g) rfl
        have hrun := run_append_grow (P := P) w t ty e i z ht hi hz ⟨g, 0, none⟩ n c xs hf.1 holds ⟨b, off, none⟩ m c2 news hr.1 hnews (by omega) (by omega) (growslice_fits (by omega) hbytes)
        have hgr := full_grown (T := T) w base e z i.size hzs hzT xs news n m c hf.1 hr.1 h63 hbase (Value.ownBlock (.slice (some ⟨g, 0, none⟩) n c))
        exact ⟨_, _, _, hrun, hgr.1, hgr.2⟩
theorem wpList_append_full {T : Value → Prop} {ops : Array Oper} {rest : List Oper} {o : Oper} {a : Act} {Q : Exit → Act → World → Prop} (hgd : o.guard = none) (s x : Operand) (t : TypeId)
    (ho : o.op = .call { callee := .builtin .append, args := #[s, x], argTypes := #[t, t] })
    (base : Nat) (e : TypeId) (i : TypeInfo) (z : Value) (size bytes : Nat) (ht : P.underlying t = some (.slice e)) (hi : P.info? e = some i) (hz : i.zero = some z)
    (hsize : i.size = size) (hby : i.bytes = bytes) (hzs : z.cells.size = size) (hsz : 0 < size) (hzT : ∀ j (h : j < z.cells.size), T z.cells[j])
    (A : Option Addr) (n c : Nat) (xs : List Value) (hs : a.eval s = .slice A n c) (hf : Full T w base e size A n c xs)
    (B : Nat) (A2 : Option Addr) (m c2 : Nat) (news : List Value) (hx : a.eval x = .slice A2 m c2) (hr : Shows w B size A2 m news) (h1 : ∀ u ∈ news, u.oneCell' = true)
    (h63 : n + m ≤ maxLen) (hbytes : (n + m) * bytes ≤ 140737488355328) (hbase : base ≤ w.heap.size)
    (h : ∀ A' c' w', Full T w' base e size A' (n + m) c' (xs ++ news) → w.grownBy w' (Value.ownBlock (.slice A n c)) → wpList P ops Q rest (a.put o.dst (.slice A' (n + m) c')) w') : wpList P ops Q (o :: rest) a w := by
  refine wpList_plain hgd fun K hK => ?_
  obtain ⟨A', c', w', hrun, h2, h3⟩ := run_append_full (P := P) w base t o.type e i z size bytes ht hi hz hsize hby hzs hsz hzT A n c xs hf B A2 m c2 news hr h1 h63 hbytes hbase
  unfold Oper.wp execOp
  simp only [ho, resolve, invoke, builtin, Sem.run_bind, Sem.run_pure, Result.andThen_ok, List.map_toArray, List.map_cons, List.map_nil, hs, hx, hrun]
  exact hK _ _ (h _ _ _ h2 h3)
theorem run_append_full_string {T : Value → Prop} (base : Nat) (t u ty e : TypeId) (i : TypeInfo) (ht : P.underlying t = some (.slice e)) (hu : P.underlying u = some .string) (hi : P.info? e = some i) (hz : i.zero = some (.int .u8 0))
    (hsize : i.size = 1) (hby : i.bytes = 1) (hzT : T (.int .u8 0))
    (A : Option Addr) (n c : Nat) (xs : List Value) (hf : Full T w base e 1 A n c xs) (s : ByteArray)
    (h63 : n + s.size ≤ maxLen) (hbytes : n + s.size ≤ 140737488355328) (hbase : base ≤ w.heap.size) :
    ∃ A' c' w', (Builtin.append_ #[t, u] ty #[.slice A n c, .string s]).run P w = .ok (.slice A' (n + s.size) c') w' ∧ Full T w' base e 1 A' (n + s.size) c' (xs ++ strCells s) ∧ w.grownBy w' (Value.ownBlock (.slice A n c)) := by
  have hsmall : n + s.size ≤ 9223372036854775807 := by simp only [maxLen] at h63; omega
  have hxl : xs.length = n := by have := hf.1; omega
  have hzT' : ∀ j (h : j < (Value.int .u8 0).cells.size), T (Value.int .u8 0).cells[j] := by
    intro j h
    have : j = 0 := by simp [Value.cells] at h; omega
    subst this
    exact hzT
  have hsl : (strCells s).length = s.size * 1 := by rw [strCells_length]; omega
  rcases hf.2 with ⟨rfl, rfl, rfl⟩ | ⟨g, zs, rfl, hb, hg, hnc, hcm, hl, hT⟩
  · have hx : xs = [] := List.eq_nil_of_length_eq_zero hxl
    subst hx
    rcases Nat.eq_zero_or_pos s.size with h0 | h0
    · have hs0 : strCells s = [] := List.eq_nil_of_length_eq_zero (by rw [strCells_length]; exact h0)
      refine ⟨none, 0, w, ?_, by rw [hs0, h0]; exact hf, World.grownBy.refl w _⟩
      have hd : s.data = #[] := Array.eq_empty_of_size_eq_zero h0
      have hse : s = ⟨#[]⟩ := by cases s; simp_all
      subst hse
      simp [Builtin.append_, run_underlying ht, run_underlying hu, sizeOf, typeInfo, hi, Builtin.lenOf, Builtin.firstCells, ByteArray.size]
    · have hr := run_append_nil_string (P := P) w t u ty e i (.int .u8 0) ht hu hi hz s h0 (by omega) (by rw [hby]; omega)
      have e0 : s.data.map (fun b => Value.int .u8 b.toNat) = (strCells s).toArray := by apply Array.ext'; simp [strCells]
      rw [e0] at hr
      have hgr := full_grown (T := T) w base e (.int .u8 0) 1 rfl hzT' [] (strCells s) 0 s.size 0 (by simp) hsl h63 hbase (Value.ownBlock (.slice none 0 0))
      simp only [Nat.zero_add, List.nil_append, Array.empty_append] at hgr ⊢
      exact ⟨_, _, _, hr, hgr.1, hgr.2⟩
  · by_cases hroom : n + s.size ≤ c
    · have hfit : n + s.size ≤ (xs ++ zs).toArray.size := by simp only [List.size_toArray, hl]; omega
      have hr := run_append_room_string (P := P) w t u ty e i ht hu hi hsize g n c (xs ++ zs).toArray hg s hroom hfit
      have hgr := full_room (T := T) w base g e 1 xs zs (strCells s) n s.size c hb hg hf.1 hsl hcm hl hT hroom
      rw [Nat.mul_one, strCells_length] at hgr
      exact ⟨_, _, _, hr, hgr.1, hgr.2⟩
    · have holds : ∀ j u, xs[j]? = some u → w.cell? ((⟨g, 0, none⟩ : Addr).add j) = some u := hf.owns.cells (g := g) rfl
      have hr := run_append_grow_string (P := P) w t u ty e i (.int .u8 0) ht hu hi hz ⟨g, 0, none⟩ n c xs (by rw [hsize]; omega) holds s (by omega) (by omega) (by rw [hby]; exact growslice_fits (by omega) (by omega))
      have hgr := full_grown (T := T) w base e (.int .u8 0) 1 rfl hzT' xs (strCells s) n s.size c hf.1 hsl h63 hbase (Value.ownBlock (.slice (some ⟨g, 0, none⟩) n c))
      exact ⟨_, _, _, hr, hgr.1, hgr.2⟩
theorem wpList_append_full_string {T : Value → Prop} {ops : Array Oper} {rest : List Oper} {o : Oper} {a : Act} {Q : Exit → Act → World → Prop} (hgd : o.guard = none) (sl x : Operand) (t u : TypeId)
    (ho : o.op = .call { callee := .builtin .append, args := #[sl, x], argTypes := #[t, u] })
    (base : Nat) (e : TypeId) (i : TypeInfo) (ht : P.underlying t = some (.slice e)) (hu : P.underlying u = some .string) (hi : P.info? e = some i) (hz : i.zero = some (.int .u8 0))
    (hsize : i.size = 1) (hby : i.bytes = 1) (hzT : T (.int .u8 0))
    (A : Option Addr) (n c : Nat) (xs : List Value) (hs : a.eval sl = .slice A n c) (hf : Full T w base e 1 A n c xs) (s : ByteArray) (hx : a.eval x = .string s)
    (h63 : n + s.size ≤ maxLen) (hbytes : n + s.size ≤ 140737488355328) (hbase : base ≤ w.heap.size)
    (h : ∀ A' c' w', Full T w' base e 1 A' (n + s.size) c' (xs ++ strCells s) → w.grownBy w' (Value.ownBlock (.slice A n c)) → wpList P ops Q rest (a.put o.dst (.slice A' (n + s.size) c')) w') : wpList P ops Q (o :: rest) a w := by
  refine wpList_plain hgd fun K hK => ?_
  obtain ⟨A', c', w', hrun, h2, h3⟩ := run_append_full_string (P := P) w base t u o.type e i ht hu hi hz hsize hby hzT A n c xs hf s h63 hbytes hbase
  unfold Oper.wp execOp
  simp only [ho, resolve, invoke, builtin, Sem.run_bind, Sem.run_pure, Result.andThen_ok, List.map_toArray, List.map_cons, List.map_nil, hs, hx, hrun]
  exact hK _ _ (h _ _ _ h2 h3)
end
end Go.Proofs.YthmhdaefkhcenaaGreatDoor
