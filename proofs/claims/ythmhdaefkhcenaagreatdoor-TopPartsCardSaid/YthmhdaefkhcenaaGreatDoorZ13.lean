/- Lemmas for it; no condition: TApp TKept TFrm TFrm2. -/
import Derived.Test.YthmhdaefkhcenaaGreatDoorZ08
import Derived.Test.YthmhdaefkhcenaaGreatDoorZ09
import Derived.Test.YthmhdaefkhcenaaGreatDoorZ10
import Derived.Lib.AppendZerosOnto
set_option linter.unusedVariables false
set_option linter.unusedSimpArgs false
namespace Go.Proofs.YthmhdaefkhcenaaGreatDoor
open Go.RowKit

section
variable {P : Program} {ops : Array Oper} {rest : List Oper} {o : Oper} {a : Act} {Q : Exit → Act → World → Prop} {w : World}
theorem addr_add (b off j : Nat) : (⟨b, off, none⟩ : Addr).add j = ⟨b, off + j, none⟩ := by unfold Addr.add; split <;> simp_all
theorem zero_size (z : Array Value) (n : Nat) : (Builtin.zeroCells z n).size = n * z.size := by simp [Builtin.zeroCells]
theorem pastf_alloc (b : Nat) : ∀ (W : World) (o : Obj) (j : Nat), b < W.heap.size → (W.alloc o).frozen? ⟨b, j, none⟩ = W.frozen? ⟨b, j, none⟩ := fun W o j h => World.frozen?_alloc_old W o ⟨b, j, none⟩ (Nat.ne_of_lt h)
theorem op_append_nil {K : Act → World → Prop} (s x : Operand) (t : TypeId)
    (ho : o.op = .call { callee := .builtin .append, args := #[s, x], argTypes := #[t, t] })
    (e : TypeId) (z : Value) (size bytes : Nat) (ht : P.underlying t = some (.slice e)) (hI : (P.info? e).map (fun i => (i.zero, i.size, i.bytes)) = some (some z, size, bytes)) (hz : z.cells.size = size)
    (b off m c : Nat) (news : List Value) (hs : a.eval s = .slice none 0 0) (hx : a.eval x = .slice (some ⟨b, off, none⟩) m c) (hl : news.length = m * size)
    (hc : ∀ j v, news[j]? = some v → w.cell? ⟨b, off + j, none⟩ = some v) (h0 : 0 < m) (h63 : m ≤ maxLen) (h48 : m * bytes ≤ 140737488355328)
    (h : ∀ (J : Array Value) (k : Nat), J.size = k * size → m + k ≤ maxLen → K (a.put o.dst (.slice (some ⟨w.heap.size, 0, none⟩) m (m + k))) (w.drew.alloc (.cells (news.toArray ++ J) e))) : Oper.wp P o a w K Q := by
  obtain ⟨i, hi, hi2⟩ : ∃ i, P.info? e = some i ∧ (i.zero, i.size, i.bytes) = (some z, size, bytes) := by
    cases hP : P.info? e with
    | none => rw [hP] at hI; cases hI
    | some i => rw [hP] at hI; exact ⟨i, rfl, by simpa using hI⟩
  simp only [Prod.mk.injEq] at hi2
  obtain ⟨hiz, his, hib⟩ := hi2
  have hrun := run_append_nil (P := P) w t o.type e i z ht hi hiz ⟨b, off, none⟩ m c news (by rw [his]; exact hl) (fun j v hv => by rw [addr_add]; exact hc j v hv) h0 (by unfold maxLen at h63; omega) (by rw [hib]; omega)
  have hge := grownCap_ge w m 0 e
  have hle := grownCap_le_maxLen w m 0 e h63
  have := h (Builtin.zeroCells z.cells (grownCap w m 0 e - m)) (grownCap w m 0 e - m) (by rw [zero_size, hz]) (by omega)
  rw [show m + (grownCap w m 0 e - m) = grownCap w m 0 e by omega] at this
  unfold Oper.wp execOp
  simp only [ho, resolve, invoke, builtin, Sem.run_bind, Sem.run_pure, Result.andThen_ok, List.map_toArray, List.map_cons, List.map_nil, hs, hx, hrun]
  exact this
theorem wpList_append_nil (hgd : o.guard = none) (s x : Operand) (t : TypeId)
    (ho : o.op = .call { callee := .builtin .append, args := #[s, x], argTypes := #[t, t] })
    (e : TypeId) (z : Value) (size bytes : Nat) (ht : P.underlying t = some (.slice e)) (hI : (P.info? e).map (fun i => (i.zero, i.size, i.bytes)) = some (some z, size, bytes)) (hz : z.cells.size = size)
    (b off m c : Nat) (news : List Value) (hs : a.eval s = .slice none 0 0) (hx : a.eval x = .slice (some ⟨b, off, none⟩) m c) (hl : news.length = m * size)
    (hc : ∀ j v, news[j]? = some v → w.cell? ⟨b, off + j, none⟩ = some v) (h0 : 0 < m) (h63 : m ≤ maxLen) (h48 : m * bytes ≤ 140737488355328)
    (h : ∀ (J : Array Value) (k : Nat), J.size = k * size → m + k ≤ maxLen → wpList P ops Q rest (a.put o.dst (.slice (some ⟨w.heap.size, 0, none⟩) m (m + k))) (w.drew.alloc (.cells (news.toArray ++ J) e))) : wpList P ops Q (o :: rest) a w :=
  wpList_plain hgd fun K hK => op_append_nil s x t ho e z size bytes ht hI hz b off m c news hs hx hl hc h0 h63 h48 fun J k h1 h2 => hK _ _ (h J k h1 h2)
theorem op_append_over {K : Act → World → Prop} (s x : Operand) (t : TypeId)
    (ho : o.op = .call { callee := .builtin .append, args := #[s, x], argTypes := #[t, t] })
    (e : TypeId) (z : Value) (size bytes : Nat) (ht : P.underlying t = some (.slice e)) (hI : (P.info? e).map (fun i => (i.zero, i.size, i.bytes)) = some (some z, size, bytes)) (hz : z.cells.size = size)
    (g q n old : Nat) (xs : List Value) (b off m c : Nat) (news : List Value) (hs : a.eval s = .slice (some ⟨g, q, none⟩) n old) (hx : a.eval x = .slice (some ⟨b, off, none⟩) m c) (hl0 : xs.length = n * size)
    (hc0 : ∀ j v, xs[j]? = some v → w.cell? ⟨g, q + j, none⟩ = some v) (hl : news.length = m * size)
    (hc : ∀ j v, news[j]? = some v → w.cell? ⟨b, off + j, none⟩ = some v) (hno : old < n + m) (h63 : n + m ≤ maxLen) (h48 : (n + m) * bytes ≤ 140737488355328)
    (h : ∀ (J : Array Value) (k : Nat), J.size = k * size → n + m + k ≤ maxLen → K (a.put o.dst (.slice (some ⟨w.heap.size, 0, none⟩) (n + m) (n + m + k))) (w.drew.alloc (.cells ((xs ++ news).toArray ++ J) e))) : Oper.wp P o a w K Q := by
  obtain ⟨i, hi, hi2⟩ : ∃ i, P.info? e = some i ∧ (i.zero, i.size, i.bytes) = (some z, size, bytes) := by
    cases hP : P.info? e with
    | none => rw [hP] at hI; cases hI
    | some i => rw [hP] at hI; exact ⟨i, rfl, by simpa using hI⟩
  simp only [Prod.mk.injEq] at hi2
  obtain ⟨hiz, his, hib⟩ := hi2
  have hrun := run_append_grow (P := P) w t o.type e i z ht hi hiz ⟨g, q, none⟩ n old xs (by rw [his]; exact hl0) (fun j v hv => by rw [addr_add]; exact hc0 j v hv) ⟨b, off, none⟩ m c news (by rw [his]; exact hl) (fun j v hv => by rw [addr_add]; exact hc j v hv) hno
    (by unfold maxLen at h63; omega) (growslice_fits hno (by rw [hib]; exact h48))
  have hge := grownCap_ge w (n + m) old e
  have hle := grownCap_le_maxLen w (n + m) old e h63
  have := h (Builtin.zeroCells z.cells (grownCap w (n + m) old e - (n + m))) (grownCap w (n + m) old e - (n + m)) (by rw [zero_size, hz]) (by omega)
  rw [show n + m + (grownCap w (n + m) old e - (n + m)) = grownCap w (n + m) old e by omega, ← List.append_toArray] at this
  unfold Oper.wp execOp
  simp only [ho, resolve, invoke, builtin, Sem.run_bind, Sem.run_pure, Result.andThen_ok, List.map_toArray, List.map_cons, List.map_nil, hs, hx, hrun]
  exact this
theorem wpList_append_over (hgd : o.guard = none) (s x : Operand) (t : TypeId)
    (ho : o.op = .call { callee := .builtin .append, args := #[s, x], argTypes := #[t, t] })
    (e : TypeId) (z : Value) (size bytes : Nat) (ht : P.underlying t = some (.slice e)) (hI : (P.info? e).map (fun i => (i.zero, i.size, i.bytes)) = some (some z, size, bytes)) (hz : z.cells.size = size)
    (g q n old : Nat) (xs : List Value) (b off m c : Nat) (news : List Value) (hs : a.eval s = .slice (some ⟨g, q, none⟩) n old) (hx : a.eval x = .slice (some ⟨b, off, none⟩) m c) (hl0 : xs.length = n * size)
    (hc0 : ∀ j v, xs[j]? = some v → w.cell? ⟨g, q + j, none⟩ = some v) (hl : news.length = m * size)
    (hc : ∀ j v, news[j]? = some v → w.cell? ⟨b, off + j, none⟩ = some v) (hno : old < n + m) (h63 : n + m ≤ maxLen) (h48 : (n + m) * bytes ≤ 140737488355328)
    (h : ∀ (J : Array Value) (k : Nat), J.size = k * size → n + m + k ≤ maxLen → wpList P ops Q rest (a.put o.dst (.slice (some ⟨w.heap.size, 0, none⟩) (n + m) (n + m + k))) (w.drew.alloc (.cells ((xs ++ news).toArray ++ J) e))) : wpList P ops Q (o :: rest) a w :=
  wpList_plain hgd fun K hK => op_append_over s x t ho e z size bytes ht hI hz g q n old xs b off m c news hs hx hl0 hc0 hl hc hno h63 h48 fun J k h1 h2 => hK _ _ (h J k h1 h2)
theorem op_append_zeros {K : Act → World → Prop} (s x : Operand) (t tn : TypeId)
    (ho : o.op = .call { callee := .builtin .append, args := #[s, x], argTypes := #[t, tn] })
    (e : TypeId) (z : Value) (size bytes : Nat) (kq kn : IntKind) (ht : P.underlying t = some (.slice e)) (htn : P.underlying tn = some (.int kn)) (hI : (P.info? e).map (fun i => (i.zero, i.size, i.bytes)) = some (some z, size, bytes)) (hz : z.cells.size = size) (hsz : 0 < size)
    (m : Nat) (hs : a.eval s = .slice none 0 0) (hx : a.eval x = .int kq m)
    (h0 : 0 < m) (h63 : m ≤ maxLen) (h48 : m * bytes ≤ 140737488355328)
    (h : ∀ (J : Array Value) (k : Nat), J.size = (m + k) * size → m + k ≤ maxLen → K (a.put o.dst (.slice (some ⟨w.heap.size, 0, none⟩) m (m + k))) (w.drew.alloc (.cells J e))) : Oper.wp P o a w K Q := by
  obtain ⟨i, hi, hi2⟩ : ∃ i, P.info? e = some i ∧ (i.zero, i.size, i.bytes) = (some z, size, bytes) := by
    cases hP : P.info? e with
    | none => rw [hP] at hI; cases hI
    | some i => rw [hP] at hI; exact ⟨i, rfl, by simpa using hI⟩
  simp only [Prod.mk.injEq] at hi2
  obtain ⟨hiz, his, hib⟩ := hi2
  have hrun := Go.Lib.run_append_grow_zeros (P := P) w t tn o.type e i z kq kn ht htn hi hiz none 0 0 [] (run_firstCells_none w.drew i.size 0 0 0) m h0 (by omega) (by omega) (by unfold maxLen at h63; omega) (by rw [hib]; omega) (growslice_fits (by omega) (by rw [hib, Nat.zero_add]; exact h48))
  rw [Nat.zero_add] at hrun
  have hge := grownCap_ge w m 0 e
  have hle := grownCap_le_maxLen w m 0 e h63
  have := h ([].toArray ++ Builtin.zeroCells z.cells m ++ Builtin.zeroCells z.cells (grownCap w m 0 e - m)) (grownCap w m 0 e - m) (by simp [zero_size, hz, Nat.add_mul]) (by omega)
  rw [show m + (grownCap w m 0 e - m) = grownCap w m 0 e by omega] at this
  unfold Oper.wp execOp
  simp only [ho, resolve, invoke, builtin, Sem.run_bind, Sem.run_pure, Result.andThen_ok, List.map_toArray, List.map_cons, List.map_nil, hs, hx, hrun]
  exact this
theorem wpList_append_zeros (hgd : o.guard = none) (s x : Operand) (t tn : TypeId)
    (ho : o.op = .call { callee := .builtin .append, args := #[s, x], argTypes := #[t, tn] })
    (e : TypeId) (z : Value) (size bytes : Nat) (kq kn : IntKind) (ht : P.underlying t = some (.slice e)) (htn : P.underlying tn = some (.int kn)) (hI : (P.info? e).map (fun i => (i.zero, i.size, i.bytes)) = some (some z, size, bytes)) (hz : z.cells.size = size) (hsz : 0 < size)
    (m : Nat) (hs : a.eval s = .slice none 0 0) (hx : a.eval x = .int kq m)
    (h0 : 0 < m) (h63 : m ≤ maxLen) (h48 : m * bytes ≤ 140737488355328)
    (h : ∀ (J : Array Value) (k : Nat), J.size = (m + k) * size → m + k ≤ maxLen → wpList P ops Q rest (a.put o.dst (.slice (some ⟨w.heap.size, 0, none⟩) m (m + k))) (w.drew.alloc (.cells J e))) : wpList P ops Q (o :: rest) a w :=
  wpList_plain hgd fun K hK => op_append_zeros s x t tn ho e z size bytes kq kn ht htn hI hz hsz m hs hx h0 h63 h48 fun J k h1 h2 => hK _ _ (h J k h1 h2)
theorem own_zero {W : World} {e : TypeId} {J : Array Value} {base k size g : Nat} (hg : W.heap[g]? = some (.cells J e (0, 0))) (hb : base ≤ g) (hJ : J.size = k * size) (hm : k ≤ maxLen) :
    W.ownsRow base e size (.slice (some ⟨g, 0, none⟩) 0 k) 0 [] := ⟨by simp, .inr ⟨_, k, J, rfl, hb, hg, by omega, hm, hJ, by simp⟩⟩
theorem own_has {W : World} {e : TypeId} {base size n c : Nat} {A : Option Addr} {xs : List Value} (h : W.ownsRow base e size (.slice A n c) n xs) (hn : 0 < n) : ∃ g, A = some ⟨g, 0, none⟩ ∧ base ≤ g ∧ n ≤ c ∧ Has W g xs := by
  obtain ⟨hl, ⟨h1, rfl⟩ | ⟨g, cap, cur, h1, hb, hg, hnc, hcm, hcs, hx⟩⟩ := h
  · omega
  · injection h1 with h1 h2 h3
    subst h1 h3
    have hs := (Shows.of_own (w := W) (base := base) (e := e) (c := c) ⟨hl, .inr ⟨g, c, cur, rfl, hb, hg, hnc, hcm, hcs, hx⟩⟩)
    exact ⟨g, rfl, hb, hnc, Has.of_shows hs (Nat.le_refl _) hn⟩
theorem wpList_append_own (hgd : o.guard = none) (s x : Operand) (t : TypeId)
    (ho : o.op = .call { callee := .builtin .append, args := #[s, x], argTypes := #[t, t] })
    (e : TypeId) (z : Value) (size bytes : Nat) (ht : P.underlying t = some (.slice e)) (hI : (P.info? e).map (fun i => (i.zero, i.size, i.bytes)) = some (some z, size, bytes)) (hz : z.cells.size = size) (hsz : 0 < size)
    (base : Nat) (v : Value) (n : Nat) (xs : List Value) (hs : a.eval s = v) (hown : w.ownsRow base e size v n xs) (b off m c : Nat) (news : List Value) (hx : a.eval x = .slice (some ⟨b, off, none⟩) m c) (hl : news.length = m * size)
    (hc : ∀ j v, news[j]? = some v → w.cell? ⟨b, off + j, none⟩ = some v) (h1 : ∀ u ∈ news, u.oneCell' = true) (h0 : 0 < m) (h63 : n + m ≤ maxLen) (h48 : (n + m) * bytes ≤ 140737488355328) (hbase : base ≤ w.heap.size)
    (h : ∀ g c' w', base ≤ g → n + m ≤ c' → w'.ownsRow base e size (.slice (some ⟨g, 0, none⟩) (n + m) c') (n + m) (xs ++ news) → Has w' g (xs ++ news) → w.grownBy w' v.ownBlock → wpList P ops Q rest (a.put o.dst (.slice (some ⟨g, 0, none⟩) (n + m) c')) w') : wpList P ops Q (o :: rest) a w := by
  obtain ⟨i, hi, hi2⟩ : ∃ i, P.info? e = some i ∧ (i.zero, i.size, i.bytes) = (some z, size, bytes) := by
    cases hP : P.info? e with
    | none => rw [hP] at hI; cases hI
    | some i => rw [hP] at hI; exact ⟨i, rfl, by simpa using hI⟩
  simp only [Prod.mk.injEq] at hi2
  obtain ⟨hiz, his, hib⟩ := hi2
  refine wpList_append_shows w hgd s x t ho base e i z size bytes ht hi hiz his hib hz hsz v n xs hs hown (b + 1) (some ⟨b, off, none⟩) m c news hx ⟨hl, fun _ => ⟨b, off, rfl, by omega, fun j hj => ?_⟩⟩ h1 h63 h48 hbase ?_
  · rw [hc j news[j] (by simp [hj])]
    simp [List.getD, hj]
  · intro A' c' w' hO hg
    obtain ⟨g, rfl, hb, hnc, hH⟩ := own_has hO (by omega)
    exact h g c' w' hb hnc hO hH hg
theorem op_append_own {K : Act → World → Prop} (s x : Operand) (t : TypeId)
    (ho : o.op = .call { callee := .builtin .append, args := #[s, x], argTypes := #[t, t] })
    (e : TypeId) (z : Value) (size bytes : Nat) (ht : P.underlying t = some (.slice e)) (hI : (P.info? e).map (fun i => (i.zero, i.size, i.bytes)) = some (some z, size, bytes)) (hz : z.cells.size = size) (hsz : 0 < size)
    (base : Nat) (v : Value) (n : Nat) (xs : List Value) (hs : a.eval s = v) (hown : w.ownsRow base e size v n xs) (b off m c : Nat) (news : List Value) (hx : a.eval x = .slice (some ⟨b, off, none⟩) m c) (hl : news.length = m * size)
    (hc : ∀ j v, news[j]? = some v → w.cell? ⟨b, off + j, none⟩ = some v) (h1 : ∀ u ∈ news, u.oneCell' = true) (h0 : 0 < m) (h63 : n + m ≤ maxLen) (h48 : (n + m) * bytes ≤ 140737488355328) (hbase : base ≤ w.heap.size)
    (h : ∀ g c' w', base ≤ g → n + m ≤ c' → w'.ownsRow base e size (.slice (some ⟨g, 0, none⟩) (n + m) c') (n + m) (xs ++ news) → Has w' g (xs ++ news) → w.grownBy w' v.ownBlock → K (a.put o.dst (.slice (some ⟨g, 0, none⟩) (n + m) c')) w') : Oper.wp P o a w K Q := by
  obtain ⟨i, hi, hi2⟩ : ∃ i, P.info? e = some i ∧ (i.zero, i.size, i.bytes) = (some z, size, bytes) := by
    cases hP : P.info? e with
    | none => rw [hP] at hI; cases hI
    | some i => rw [hP] at hI; exact ⟨i, rfl, by simpa using hI⟩
  simp only [Prod.mk.injEq] at hi2
  obtain ⟨hiz, his, hib⟩ := hi2
  obtain ⟨v', w', hrun, h2, h3, _⟩ := run_append_own_at (P := P) w base t o.type e i z size bytes ht hi hiz his hib hz hsz v n xs hown ⟨b, off, none⟩ m c news hl (fun j u hu => by rw [addr_add]; exact hc j u hu) h1 h63 h48 hbase
  obtain ⟨A', c', e1, _⟩ := own_form h2
  subst e1
  obtain ⟨g, rfl, hb, hnc, hH⟩ := own_has h2 (by omega)
  unfold Oper.wp execOp
  simp only [ho, resolve, invoke, builtin, Sem.run_bind, Sem.run_pure, Result.andThen_ok, List.map_toArray, List.map_cons, List.map_nil, hs, hx, hrun]
  exact h g c' w' hb hnc h2 hH h3
theorem own_lt {W : World} {e : TypeId} {base size n c g : Nat} {xs : List Value} (h : W.ownsRow base e size (.slice (some ⟨g, 0, none⟩) n c) n xs) : base ≤ g ∧ g < W.heap.size := by
  obtain ⟨_, ⟨h1, _⟩ | ⟨g', cap, cur, h1, hb, hg, _⟩⟩ := h
  · cases h1
  · injection h1 with h1 h2 h3
    injection h1 with h1
    injection h1 with h1
    subst h1
    exact ⟨hb, (Array.getElem?_eq_some_iff.1 hg).1⟩
theorem own_far {W : World} {e : TypeId} {base size n : Nat} {v : Value} {xs : List Value} (h : W.ownsRow base e size v n xs) {p : Addr} (hp : p.block < base) (u : Value) : (W.setCell p u).ownsRow base e size v n xs := by
  obtain ⟨hl, h1 | ⟨g, cap, cur, h1, hb, hg, hr⟩⟩ := h
  · exact ⟨hl, .inl h1⟩
  · exact ⟨hl, .inr ⟨g, cap, cur, h1, hb, (Below.heap_setCell W p u g (by omega)).trans hg, hr⟩⟩
theorem own_grown {W W' : World} {e : TypeId} {base size n c g : Nat} {xs : List Value} (h : W.ownsRow base e size (.slice (some ⟨g, 0, none⟩) n c) n xs) {row : Option Nat} (hg : W.grownBy W' row) (hne : some g ≠ row) : W'.ownsRow base e size (.slice (some ⟨g, 0, none⟩) n c) n xs := by
  have hlt := (own_lt h).2
  obtain ⟨hl, ⟨h1, _⟩ | ⟨g', cap, cur, h1, hb, hg', hr⟩⟩ := h
  · cases h1
  · injection h1 with h1 h2 h3
    injection h1 with h1
    injection h1 with h1
    subst h1 h3
    exact ⟨hl, .inr ⟨g, c, cur, rfl, hb, (hg.block g hlt hne).trans hg', hr⟩⟩
section
variable {P : Program} {fn : Func} {R : Ending → World → Prop} {a : Act} {w : World} {T t : TypeId} {b : Nat} {cs : List Value}
theorem ret_tc {x p : Tmp} (hr : fn.results = #[.tmp x, .cell p T]) (hd : a.defers = []) (hp : a.tmps.getD p undef = .pointer (some ⟨b, 0, none⟩)) (hb : Block w b t cs) (ha : ∀ w, (isAgg T).run P w = .ok true w) (hs : ∀ w, (sizeOf T).run P w = .ok cs.length w)
    (hR : R (.returned (.tuple #[a.tmps.getD x undef, .agg cs.toArray])) w) : bodyPost P fn R .ret a w := by
  refine bodyPost_ret (v := .tuple #[a.tmps.getD x undef, .agg cs.toArray]) ?_ hd hR
  simp only [results, hr]
  simp [Sem.run_bind, Result.andThen]
  rw [show a.tmps[p]?.getD undef = .pointer (some ⟨b, 0, none⟩) by rw [← hp]; simp]
  simp [asAddr, Sem.run_pure, run_loadVar_block hb ha hs]
end
theorem own_nil {W : World} {e : TypeId} {base size : Nat} : W.ownsRow base e size (.slice none 0 0) 0 [] := ⟨by simp, .inl ⟨rfl, rfl⟩⟩
def CellsAt (w : World) (b k : Nat) (cs : List Value) : Prop := ∀ j v, cs[j]? = some v → w.cell? ⟨b, k + j, none⟩ = some v
theorem cells_nil {w : World} {b k : Nat} : CellsAt w b k [] := fun j v h => by simp at h
theorem cells_cons {w : World} {b k : Nat} {v : Value} {cs : List Value} (h : w.cell? ⟨b, k, none⟩ = some v) (h2 : CellsAt w b (k + 1) cs) : CellsAt w b k (v :: cs) := fun j u hj => by
  cases j with
  | zero => simp at hj; subst hj; exact h
  | succ j => have := h2 j u (by simpa using hj); rw [show k + 1 + j = k + (j + 1) by omega] at this; exact this
theorem has_cells {w : World} {b : Nat} {cs : List Value} (hl : b < w.heap.size) (h : CellsAt w b 0 cs) : Has w b cs := ⟨hl, fun j v hj => by have := h j v hj; rwa [Nat.zero_add] at this⟩
theorem run_loadVar_cells {P : Program} {w : World} {T : TypeId} {b : Nat} {cs : List Value} (h : CellsAt w b 0 cs) (ha : ∀ w, (isAgg T).run P w = .ok true w) (hs : ∀ w, (sizeOf T).run P w = .ok cs.length w) :
    (loadVar T ⟨b, 0, none⟩).run P w = .ok (.agg cs.toArray) w := by
  have hl := run_loadCells_list (P := P) w ⟨b, 0, none⟩ cs (fun j v hj => by
    rw [addr_add]; exact h j v hj)
  simp only [loadVar, Sem.run_bind, ha, Result.andThen, if_true, hs, hl]
  rfl
section
variable {P : Program} {fn : Func} {R : Ending → World → Prop} {a : Act} {w : World} {T : TypeId} {b : Nat} {cs : List Value}
theorem ret_ctS {x p : Tmp} (hr : fn.results = #[.cell p T, .tmp x]) (hd : a.defers = []) (hp : a.tmps.getD p undef = .pointer (some ⟨b, 0, none⟩)) (hb : CellsAt w b 0 cs) (ha : ∀ w, (isAgg T).run P w = .ok true w) (hs : ∀ w, (sizeOf T).run P w = .ok cs.length w)
    (hR : R (.returned (.tuple #[.agg cs.toArray, a.tmps.getD x undef])) w) : bodyPost P fn R .ret a w := by
  refine bodyPost_ret (v := .tuple #[.agg cs.toArray, a.tmps.getD x undef]) ?_ hd hR
  simp only [results, hr]
  simp [Sem.run_bind, Result.andThen]
  rw [show a.tmps[p]?.getD undef = .pointer (some ⟨b, 0, none⟩) by rw [← hp]; simp]
  simp [asAddr, Sem.run_pure, run_loadVar_cells hb ha hs]
theorem ret_cS {p : Tmp} (hr : fn.results = #[.cell p T]) (hd : a.defers = []) (hp : a.tmps.getD p undef = .pointer (some ⟨b, 0, none⟩)) (hb : CellsAt w b 0 cs) (ha : ∀ w, (isAgg T).run P w = .ok true w) (hs : ∀ w, (sizeOf T).run P w = .ok cs.length w)
    (hR : R (.returned (.agg cs.toArray)) w) : bodyPost P fn R .ret a w := by
  refine bodyPost_ret (v := .agg cs.toArray) ?_ hd hR
  simp only [results, hr]
  simp [Sem.run_bind, Result.andThen]
  rw [show a.tmps[p]?.getD undef = .pointer (some ⟨b, 0, none⟩) by rw [← hp]; simp]
  simp [asAddr, Sem.run_pure, run_loadVar_cells hb ha hs]
end
theorem own_top {W : World} {e : TypeId} {news : List Value} {J : Array Value} {base m k size g : Nat} (hg : W.heap.size = g) (hb : base ≤ g) (hl : news.length = m * size) (hJ : J.size = k * size) (hm : m + k ≤ maxLen) :
    (W.alloc (.cells (news.toArray ++ J) e)).ownsRow base e size (.slice (some ⟨g, 0, none⟩) m (m + k)) m news := by
  subst hg
  refine ⟨hl, .inr ⟨_, m + k, news.toArray ++ J, rfl, hb, heap_alloc_new W _, by omega, hm, by simp [hl, hJ, Nat.add_mul], ?_⟩⟩
  rw [← hl]; simp
theorem has_top {W : World} {e : TypeId} {news : List Value} {J : Array Value} {g : Nat} (hg : W.heap.size = g) : Has (W.alloc (.cells (news.toArray ++ J) e)) g news := by
  subst hg
  refine ⟨by simp, fun j v hj => ?_⟩
  have h1 : j < news.length := (List.getElem?_eq_some_iff.1 hj).1
  have e1 := heap_alloc_new W (.cells (news.toArray ++ J) e)
  simp only [World.cell?, e1]
  rw [Array.getElem?_append_left (by simpa using h1)]
  simpa using hj
end
end Go.Proofs.YthmhdaefkhcenaaGreatDoor
namespace Go.Proofs.YthmhdaefkhcenaaGreatDoor
open Go.RowKit

structure Kept (X : List Nat) (w w' : World) : Prop where
  os : w'.os = w.os
  tape : w'.tape = w.tape
  output : w'.output = w.output
  size : w.heap.size ≤ w'.heap.size
  blk : ∀ k, k < w.heap.size → k ∉ X → w'.heap[k]? = w.heap[k]?
section
variable {X Y : List Nat} {w w' a b : World}
theorem Kept.refl (X : List Nat) (w : World) : Kept X w w := ⟨rfl, rfl, rfl, Nat.le_refl _, fun _ _ _ => rfl⟩
theorem Kept.trans (h : Kept X w a) (h' : Kept Y a b) (hY : ∀ k ∈ Y, k ∈ X ∨ w.heap.size ≤ k) : Kept X w b :=
  ⟨h'.os.trans h.os, h'.tape.trans h.tape, h'.output.trans h.output, Nat.le_trans h.size h'.size, fun k hk hX =>
    (h'.blk k (Nat.lt_of_lt_of_le hk h.size) (fun hm => (hY k hm).elim hX (fun e => absurd hk (Nat.not_lt.2 e)))).trans (h.blk k hk hX)⟩
theorem Kept.next (h : Kept X w a) (h' : Kept X a b) : Kept X w b := h.trans h' fun _ hk => .inl hk
theorem Kept.of_below (h : Below w.heap.size w w') : Kept X w w' := ⟨h.os, h.tape, h.output, h.size, fun k hk _ => h.block k hk⟩
theorem Kept.of_grown {R : Nat} (h : w.grownBy w' (some R)) (hR : R ∈ X ∨ w.heap.size ≤ R) : Kept X w w' := ⟨h.os, h.tape, h.output, h.size, fun k hk hX => h.block k hk (by
  intro e
  injection e with e
  subst e
  exact hR.elim hX (fun e => absurd hk (Nat.not_lt.2 e)))⟩
theorem Kept.set (h : Kept X w a) {p : Addr} (hp : p.block ∈ X ∨ w.heap.size ≤ p.block) (u : Value) : Kept X w (a.setCell p u) :=
  ⟨h.os, h.tape, h.output, by simpa [World.setCell] using h.size, fun k hk hX => (Below.heap_setCell a p u k (by
    rintro rfl
    exact hp.elim hX (fun e => absurd hk (Nat.not_lt.2 e)))).trans (h.blk k hk hX)⟩
theorem Kept.alloc (h : Kept X w a) (o : Obj) : Kept X w (a.alloc o) := ⟨h.os, h.tape, h.output, by have := h.size; simp; omega, fun k hk hX => (Below.heap_alloc a o k (Nat.lt_of_lt_of_le hk h.size)).trans (h.blk k hk hX)⟩
theorem Kept.drew (h : Kept X w a) : Kept X w a.drew := ⟨h.os, h.tape, h.output, h.size, h.blk⟩
theorem Kept.drewN (h : Kept X w a) (n : Nat) : Kept X w (a.drewN n) := ⟨h.os, h.tape, h.output, h.size, h.blk⟩
theorem Kept.behind (h : Kept X w a) (hb : Below a.heap.size a b) : Kept X w b := h.trans (Kept.of_below (X := []) hb) (by simp)
theorem Kept.pre (hb : Below w.heap.size w a) (h : Kept X a b) : Kept X w b := (Kept.of_below (X := X) hb).next h
theorem Kept.mono (h : Kept X w a) (hY : ∀ k ∈ X, k ∈ Y ∨ w.heap.size ≤ k) : Kept Y w a := (Kept.refl Y w).trans h hY
theorem Kept.grown {R : Nat} (h : Kept X w a) (h' : a.grownBy b (some R)) (hR : R ∈ X ∨ w.heap.size ≤ R) : Kept X w b := h.trans (Kept.of_grown (X := [R]) h' (by simp)) (by simpa using hR)
theorem Kept.below {B : Nat} (h : Kept X w a) (hX : ∀ k ∈ X, B ≤ k) (hB : B ≤ w.heap.size) : Below B w a := ⟨h.os, h.tape, h.output, h.size, fun k hk => h.blk k (Nat.lt_of_lt_of_le hk hB) fun hm => absurd (hX k hm) (Nat.not_le.2 hk)⟩
theorem Kept.all {B : Nat} (h : Kept [] w a) : Below w.heap.size w a := h.below (by simp) (Nat.le_refl _)
theorem Block.keptX {g : Nat} {t : TypeId} {cs : List Value} (h : Block w g t cs) (hK : Kept X w w') (hX : g ∉ X) : Block w' g t cs := (hK.blk g h.lt hX).trans h
theorem MapAt.keptX {g : Nat} {es : List MapEntry} {clock : Nat} (h : MapAt w g es clock) (hK : Kept X w w') (hX : g ∉ X) : MapAt w' g es clock := (hK.blk g h.lt hX).trans h
theorem Has.keptX {g : Nat} {cs : List Value} (h : Has w g cs) (hK : Kept X w w') (hX : g ∉ X) : Has w' g cs := ⟨Nat.lt_of_lt_of_le h.lt hK.size, fun j _ hj => (World.cell?_of_block (a := ⟨g, j, none⟩) (hK.blk g h.lt hX)).trans (h.cell hj)⟩
theorem Shows.keptX {B size n : Nat} {A : Option Addr} {xs : List Value} (h : Shows w B size A n xs) (hK : Kept X w w') (hB : B ≤ w.heap.size) (hX : ∀ g off, A = some ⟨g, off, none⟩ → g ∉ X) : Shows w' B size A n xs := by
  refine ⟨h.1, fun hn => ?_⟩
  obtain ⟨g, off, e, hb, hc⟩ := h.2 hn
  exact ⟨g, off, e, hb, fun j hj => (World.cell?_of_block (a := ⟨g, off + j, none⟩) (hK.blk g (by omega) (hX g off e))).trans (hc j hj)⟩
theorem own_kept {e : TypeId} {base size n c g : Nat} {xs : List Value} (h : w.ownsRow base e size (.slice (some ⟨g, 0, none⟩) n c) n xs) (hK : Kept X w w') (hX : g ∉ X) : w'.ownsRow base e size (.slice (some ⟨g, 0, none⟩) n c) n xs := by
  have hlt := (own_lt h).2
  obtain ⟨hl, ⟨h1, _⟩ | ⟨g', cap, cur, h1, hb, hg', hr⟩⟩ := h
  · cases h1
  · injection h1 with h1 h2 h3
    injection h1 with h1
    injection h1 with h1
    subst h1 h3
    exact ⟨hl, .inr ⟨g, c, cur, rfl, hb, (hK.blk g hlt hX).trans hg', hr⟩⟩
def Above (b : Nat) (w w' : World) : Prop := w.heap.size ≤ w'.heap.size ∧ ∀ k, b ≤ k → k < w.heap.size → w'.heap[k]? = w.heap[k]?
theorem Kept.above {n : Nat} (h : Kept X w w') (hX : ∀ k ∈ X, k < n ∨ w.heap.size ≤ k) : Above n w w' := ⟨h.size, fun k h0 h1 => h.blk k h1 fun hm => (hX k hm).elim (fun e => absurd h0 (Nat.not_le.2 e)) (fun e => absurd h1 (Nat.not_lt.2 e))⟩
theorem Has.above {g n : Nat} {cs : List Value} (h : Has w g cs) (hA : Above n w w') (hg : n ≤ g) : Has w' g cs := ⟨Nat.lt_of_lt_of_le h.lt hA.1, fun j _ hj => (World.cell?_of_block (a := ⟨g, j, none⟩) (hA.2 g hg h.lt)).trans (h.cell hj)⟩
theorem Above.mono {m n : Nat} (h : Above n w w') (hm : n ≤ m) : Above m w w' := ⟨h.1, fun k h0 h1 => h.2 k (Nat.le_trans hm h0) h1⟩
end
section
variable {P : Program} {fn : Func} {R : Ending → World → Prop} {a : Act} {w : World} {T T2 : TypeId} {b b2 : Nat} {cs cs2 : List Value}
theorem ret_ccS {p q : Tmp} (hr : fn.results = #[.cell p T, .cell q T2]) (hd : a.defers = []) (hp : a.tmps.getD p undef = .pointer (some ⟨b, 0, none⟩)) (hq : a.tmps.getD q undef = .pointer (some ⟨b2, 0, none⟩)) (hb : CellsAt w b 0 cs) (hb2 : CellsAt w b2 0 cs2)
    (ha : ∀ w, (isAgg T).run P w = .ok true w) (hs : ∀ w, (sizeOf T).run P w = .ok cs.length w) (ha2 : ∀ w, (isAgg T2).run P w = .ok true w) (hs2 : ∀ w, (sizeOf T2).run P w = .ok cs2.length w)
    (hR : R (.returned (.tuple #[.agg cs.toArray, .agg cs2.toArray])) w) : bodyPost P fn R .ret a w := by
  refine bodyPost_ret (v := .tuple #[.agg cs.toArray, .agg cs2.toArray]) ?_ hd hR
  simp only [results, hr]
  simp [Sem.run_bind, Result.andThen]
  rw [show a.tmps[p]?.getD undef = .pointer (some ⟨b, 0, none⟩) by rw [← hp]; simp, show a.tmps[q]?.getD undef = .pointer (some ⟨b2, 0, none⟩) by rw [← hq]; simp]
  simp [asAddr, Sem.run_pure, run_loadVar_cells hb ha hs, run_loadVar_cells hb2 ha2 hs2]
end
end Go.Proofs.YthmhdaefkhcenaaGreatDoor
namespace Go.Proofs.YthmhdaefkhcenaaGreatDoor
set_option maxRecDepth 100000
set_option maxHeartbeats 8000000
open Go.RowKit Go.Lib

def crcStep (x : Int) : Int := bits BinOp.xor IntKind.u32 (x / 2) (3988292384 * bits BinOp.and IntKind.u32 x 1 % 4294967296)
def crcN : Nat → Int → Int
  | 0, x => x
  | m + 1, x => crcStep (crcN m x)
def crcCell (i : Nat) : Value := .int .u32 (crcN 8 i)
def crcTab (j : Nat) : List Value := (List.range 256).map fun i => if i < j then crcCell i else .int .u32 0
def crcGo (n c : Int) : Int := bits .xor .u32 (n / 256) (crcN 8 (bits .xor .u8 (n % 256) c).toNat)
def crcSum (xs : List Int) : Int := bits .xor .u32 IntKind.u32.max (xs.foldl crcGo 4294967295)
theorem bits_u8 (op : BinOp) (x y : Int) : 0 ≤ bits op .u8 x y ∧ bits op .u8 x y ≤ 255 := by
  unfold bits
  generalize ((match op with
    | .and => BitVec.ofInt IntKind.u8.bits x &&& BitVec.ofInt IntKind.u8.bits y
    | .or => BitVec.ofInt IntKind.u8.bits x ||| BitVec.ofInt IntKind.u8.bits y
    | .xor => BitVec.ofInt IntKind.u8.bits x ^^^ BitVec.ofInt IntKind.u8.bits y
    | _ => BitVec.ofInt IntKind.u8.bits x &&& ~~~BitVec.ofInt IntKind.u8.bits y).toNat : Int) = z
  rw [IntKind.wrap_u8]
  omega
theorem bits_u32 (op : BinOp) (x y : Int) : 0 ≤ bits op .u32 x y ∧ bits op .u32 x y ≤ 4294967295 := by
  unfold bits
  generalize ((match op with
    | .and => BitVec.ofInt IntKind.u32.bits x &&& BitVec.ofInt IntKind.u32.bits y
    | .or => BitVec.ofInt IntKind.u32.bits x ||| BitVec.ofInt IntKind.u32.bits y
    | .xor => BitVec.ofInt IntKind.u32.bits x ^^^ BitVec.ofInt IntKind.u32.bits y
    | _ => BitVec.ofInt IntKind.u32.bits x &&& ~~~BitVec.ofInt IntKind.u32.bits y).toNat : Int) = z
  rw [IntKind.wrap_u32]
  omega
theorem crcTab_len (j : Nat) : (crcTab j).length = 256 := by simp [crcTab]
theorem crcTab_zero : Tryz.zeroCells372 = (crcTab 0).toArray := by
  have h : crcTab 0 = List.replicate 256 (Value.int .u32 0) := by
    rw [List.eq_replicate_iff]
    exact ⟨crcTab_len 0, fun b hb => by simp [crcTab] at hb; exact hb.2.symm⟩
  rw [h]
  have h2 : Tryz.zeroCells372 = (List.replicate 256 (Value.int .u32 0)).toArray := by kernel_rfl
  exact h2
theorem crcTab_set {j : Nat} (_ : j < 256) : (crcTab j).set j (crcCell j) = crcTab (j + 1) := by
  refine List.ext_getElem (by simp [crcTab]) fun i h1 h2 => ?_
  rw [List.getElem_set]
  by_cases e : j = i
  · subst e; simp [crcTab]
  · rw [if_neg e]
    simp only [crcTab, List.getElem_map, List.getElem_range]
    by_cases h3 : i < j
    · rw [if_pos h3, if_pos (by omega)]
    · rw [if_neg h3, if_neg (by omega)]
theorem crcTab_get {i : Nat} (h : i < 256) : (crcTab 256)[i]? = some (.int .u32 (crcN 8 i)) := by
  simp [crcTab, h, crcCell]
theorem crcTab_one : (crcTab 256).toArray.all (·.oneCell') = true := by
  rw [Array.all_eq_true_iff_forall_mem]
  intro u hu
  simp only [List.mem_toArray, crcTab, List.mem_map] at hu
  obtain ⟨i, _, rfl⟩ := hu
  split <;> rfl
theorem below_setRow {B g : Nat} {w a : World} (h : Below B w a) (hg : B ≤ g) (cs : Array Value) : Below B w (a.setRow g cs) :=
  ⟨h.os, h.tape, h.output, by simpa using h.size, fun k hk => (setRow_other a g k cs (by omega)).trans (h.block k hk)⟩
theorem agg_tab (w : World) : (isAgg 372).run Tryz.prog w = .ok true w := by kernel_rfl
theorem size_tab (w : World) : (sizeOf 372).run Tryz.prog w = .ok 256 w := by kernel_rfl
theorem sums_any (w : World) : Calls Tryz.prog 212 #[] w fun e w' => e = .returned (.agg (crcTab 256).toArray) ∧ Below w.heap.size w w' := by
  go_enter Tryz.func212, Tryz.ntmps212
  go_wp2_with fail
  rw [crcTab_zero]
  go_loopw [3] (fun i wr => ∃ j : Nat, j ≤ 256 ∧ i = .int .i64 j ∧ Block wr w.heap.size 372 (crcTab j) ∧ Below w.heap.size w wr) (fun i _ => 256 - (intOf i).toNat)
  case atStart => exact ⟨0, by omega, rfl, Block.new w _ _, by exact sBel⟩
  case round =>
    obtain ⟨j, hj, rfl, hB, hb⟩ := hrel
    by_cases hjn : j < 256
    · have q1 : (j : Int) < 256 := by omega
      have q0 : (0 : Int) ≤ (j : Int) := by omega
      go_wp2_with fail
      go_loop [8, 2] (fun k n => ∃ (m : Nat), m ≤ 8 ∧ k = .int .i64 m ∧ n = .int .u32 (crcN m j)) (fun k _ => 8 - (intOf k).toNat)
      case atStart => exact ⟨0, by omega, rfl, rfl⟩
      case round =>
        obtain ⟨m, hm, rfl, rfl⟩ := hrel
        by_cases hmn : m < 8
        · have q2 : (m : Int) < 8 := by omega
          go_wp2_with fail
          go_round
          case rel => exact ⟨m + 1, by omega, by simp, rfl⟩
          case measure => simp [intOf]; omega
        · obtain rfl : m = 8 := by omega
          have f0 : wr.frozen? ⟨w.heap.size, j, none⟩ = false := hB.free j
          have l0 : w.heap.size < wr.heap.size := hB.lt
          have k0 : wr.cell? ⟨w.heap.size, j, none⟩ = some ((crcTab j)[j]'(by rw [crcTab_len]; exact hjn)) := by rw [hB.cell]; exact List.getElem?_eq_getElem _
          go_wp2_with fail
          go_roundw
          case rel =>
            refine ⟨j + 1, by omega, by simp, ?_, by exact sBel⟩
            have := hB.set j (crcCell j)
            rw [crcTab_set hjn] at this
            exact this
          case measure => simp [intOf]; omega
    · obtain rfl : j = 256 := by omega
      go_wp2_with (first | (refine wpList_load_row rfl _ _ rfl w.heap.size rfl _ _ (0, 0) (.array _ _) hB rfl rfl rfl ?_) | (refine wpList_store_row rfl _ _ _ rfl w.heap.size _ rfl rfl _ _ hB rfl rfl crcTab_one ?_))
      exact ret_c rfl rfl rfl (setRow_heap wr w.heap.size _ _ _ _ hB) agg_tab (by rw [crcTab_len]; exact size_tab) ⟨rfl, below_setRow hb (Nat.le_refl _) _⟩
def w32 (x : Int) : List Int := [x % 256, x / 256 % 256, x / 65536 % 256, x / 16777216 % 256]
theorem word_any (A : Option Addr) (n c : Nat) (xs : List Int) (x : Int) (base : Nat) (w : World) (hown : w.ownsRow base 5 1 (.slice A n c) n (U8 xs)) (hb : base ≤ w.heap.size) (hn : n ≤ 1000000) :
    Calls Tryz.prog 155 #[.slice A n c, .int .u32 x] w fun e w' => ∃ A' c', e = .returned (.slice A' (n + 4) c') ∧ w'.ownsRow base 5 1 (.slice A' (n + 4) c') (n + 4) (U8 (xs ++ w32 x)) ∧ Below base w w' := by
  go_enter Tryz.func155, Tryz.ntmps155
  go_wp2_with (at_builtin; refine wpList_append_own rfl _ _ 71 rfl 5 _ 1 1 Tryz.underlying71 infoU8 rfl (by decide) base _ n (U8 xs) rfl (own_below hown (by exact sBel)) w.heap.size 0 4 4 (U8 (w32 x)) rfl rfl (by intro j v hj; rw [Nat.zero_add]; exact (Block.cell (btop (cs := U8 (w32 x)) rfl) j).trans hj) (nums_one .u8 _) (by omega) (by unfold maxLen; omega) (by omega) (by simp; omega) ?_; intro g c2 w2 hg hc2 O2 H2 G2)
  go_ret
  refine ⟨some ⟨g, 0, none⟩, c2, rfl, by simpa [U8] using O2, Below.grown (Below.alloc (Below.refl _ _) hb _) G2 (by simp; omega) ?_⟩
  intro k hk
  exact (hown.lt k hk).1
def n32 (xs : List Int) : Int := bits .or .u32 (bits .or .u32 (bits .or .u32 (bits .or .u32 0 (xs.getD 0 0)) (xs.getD 1 0 * 256)) (xs.getD 2 0 * 65536)) (xs.getD 3 0 * 16777216)
theorem number_any (A : Option Addr) (n c B : Nat) (xs : List Int) (w : World) (hs : Shows w B 1 A n (U8 xs)) (h4 : 4 ≤ n) (hb : ∀ x ∈ xs, 0 ≤ x ∧ x ≤ 255) :
    Calls Tryz.prog 226 #[.slice A n c] w fun e w' => e = .returned (.int .u32 (n32 xs)) ∧ w = w' := by
  obtain ⟨b, off, rfl, hbB, hc⟩ := hs.at_ (by omega)
  have hl : xs.length = n := by simpa [U8] using hs.1
  have hx : ∀ j, j < 4 → w.cell? ⟨b, off + j, none⟩ = some (.int .u8 (xs.getD j 0)) ∧ 0 ≤ xs.getD j 0 ∧ xs.getD j 0 ≤ 255 := by
    intro j hj
    have e : xs.getD j 0 = xs[j]'(by omega) := by simp [List.getD, show j < xs.length by omega]
    rw [e]
    refine ⟨?_, hb _ (List.getElem_mem _)⟩
    rw [hc j (by simp [U8]; omega)]
    simp [U8, List.getD, show j < xs.length by omega]
  obtain ⟨x0, r0, r0'⟩ := hx 0 (by omega)
  obtain ⟨x1, r1, r1'⟩ := hx 1 (by omega)
  obtain ⟨x2, r2, r2'⟩ := hx 2 (by omega)
  obtain ⟨x3, r3, r3'⟩ := hx 3 (by omega)
  rw [Nat.add_zero] at x0
  unfold n32
  generalize xs.getD 0 0 = y0 at *
  generalize xs.getD 1 0 = y1 at *
  generalize xs.getD 2 0 = y2 at *
  generalize xs.getD 3 0 = y3 at *
  clear hx hb hc
  have q1 : (1 : Int) < n := by omega
  have q2 : (2 : Int) < n := by omega
  have q3 : (3 : Int) < n := by omega
  have q0 : (0 : Int) < n := by omega
  go_enter Tryz.func226, Tryz.ntmps226
  go_wp2
  (repeat (first | (rw [rounds_succ]; go_wp2) | (refine wp_loop_rounds 5 ?_; rw [rounds_succ]; go_wp2) | (go_quiet (fail); go_wp2)))
  go_returns
  exact ⟨rfl, rfl⟩
theorem or_u32 (a b : Nat) (ha : a < 4294967296) (hb : b < 4294967296) : bits .or .u32 (a : Int) (b : Int) = ((a ||| b : Nat) : Int) := by
  have e : ∀ n : Nat, n < 4294967296 → (BitVec.ofInt 32 (n : Int)).toNat = n := fun n hn => by
    rw [BitVec.ofInt_natCast, BitVec.toNat_ofNat]; exact Nat.mod_eq_of_lt (by omega)
  unfold bits
  show IntKind.u32.wrap (((BitVec.ofInt 32 (a : Int)) ||| (BitVec.ofInt 32 (b : Int))).toNat : Int) = _
  rw [BitVec.toNat_or, e a ha, e b hb, IntKind.wrap_u32]
  have : a ||| b < 2 ^ 32 := Nat.or_lt_two_pow (by omega) (by omega)
  omega
theorem or_add (a b i : Nat) (h : a < 2 ^ i) : a ||| b * 2 ^ i = a + b * 2 ^ i := by
  rw [Nat.or_comm, Nat.mul_comm, ← Nat.two_pow_add_eq_or_of_lt h, Nat.add_comm]
theorem n32_w32 (x : Int) (h0 : 0 ≤ x) (h1 : x ≤ 4294967295) (rest : List Int) : n32 (w32 x ++ rest) = x := by
  obtain ⟨n, rfl⟩ : ∃ n : Nat, x = n := ⟨x.toNat, by omega⟩
  have h2 : n < 4294967296 := by omega
  unfold n32 w32
  simp only [List.cons_append, List.getD_cons_zero, List.getD_cons_succ]
  obtain ⟨a, ha⟩ : ∃ a, n % 256 = a := ⟨_, rfl⟩
  obtain ⟨b, hb⟩ : ∃ b, n / 256 % 256 = b := ⟨_, rfl⟩
  obtain ⟨c, hc⟩ : ∃ c, n / 65536 % 256 = c := ⟨_, rfl⟩
  obtain ⟨d, hd⟩ : ∃ d, n / 16777216 % 256 = d := ⟨_, rfl⟩
  have e0 : (n : Int) % 256 = (a : Int) := by omega
  have e1 : (n : Int) / 256 % 256 * 256 = ((b * 2 ^ 8 : Nat) : Int) := by omega
  have e2 : (n : Int) / 65536 % 256 * 65536 = ((c * 2 ^ 16 : Nat) : Int) := by omega
  have e3 : (n : Int) / 16777216 % 256 * 16777216 = ((d * 2 ^ 24 : Nat) : Int) := by omega
  rw [e0, e1, e2, e3, show (0 : Int) = ((0 : Nat) : Int) from rfl, or_u32 0 a (by omega) (by omega), Nat.zero_or, or_u32 a _ (by omega) (by omega), or_add a b 8 (by omega), or_u32 _ _ (by omega) (by omega), or_add _ c 16 (by omega), or_u32 _ _ (by omega) (by omega), or_add _ d 24 (by omega)]
  omega
theorem crcGo_range (n c : Int) : 0 ≤ crcGo n c ∧ crcGo n c ≤ 4294967295 := bits_u32 _ _ _
theorem crcFold_range (xs : List Int) : ∀ n : Int, 0 ≤ n ∧ n ≤ 4294967295 → 0 ≤ xs.foldl crcGo n ∧ xs.foldl crcGo n ≤ 4294967295 := by
  induction xs with
  | nil => intro n h; exact h
  | cons x xs ih => intro n _; exact ih _ (crcGo_range n x)
theorem crcSum_range (xs : List Int) : 0 ≤ crcSum xs ∧ crcSum xs ≤ 4294967295 := bits_u32 _ _ _
theorem sum_any (A : Option Addr) (n c B : Nat) (xs : List Int) (w : World) (hs : Shows w B 1 A n (U8 xs)) (hB : B ≤ w.heap.size) (hb : ∀ x ∈ xs, 0 ≤ x ∧ x ≤ 255) (hn : n ≤ 1000000) :
    Calls Tryz.prog 156 #[.slice A n c] w fun e w' => e = .returned (.int .u32 (crcSum xs)) ∧ Below w.heap.size w w' := by
  have hl : xs.length = n := by simpa [U8] using hs.1
  go_enter Tryz.func156, Tryz.ntmps156
  go_wp2_with fail
  refine (sums_any w).mono ?_
  rintro e w1 ⟨rfl, hb1⟩
  go_wp2_with (rw [crcTab_zero]; refine wpList_store_row rfl _ _ _ rfl w1.heap.size (crcTab 256).toArray rfl rfl _ (crcTab 0).toArray (Block.new w1 _ _) rfl rfl crcTab_one ?_)
  refine at_code (fun W => Below w.heap.size w W ∧ Block W w1.heap.size 372 (crcTab 256)) ⟨below_setRow (bel_alloc hb1 _) hb1.size _, setRow_heap _ w1.heap.size _ _ _ _ (Block.new w1 _ (crcTab 0))⟩ ?_
  rintro W ⟨bel, hT⟩
  have hsW := hs.call bel hB
  generalize w1.heap.size = g at *
  go_loop [10, 4] (fun i v => ∃ j : Nat, j ≤ n ∧ i = .int .i64 j ∧ v = .int .u32 ((xs.take j).foldl crcGo 4294967295)) (fun i _ => n - (intOf i).toNat)
  case atStart => exact ⟨0, by omega, rfl, rfl⟩
  case round =>
    obtain ⟨j, hj, rfl, rfl⟩ := hrel
    by_cases hjn : j < n
    · obtain ⟨b, off, rfl, hbB, hc⟩ := hsW.at_ (by omega)
      have hjx : j < xs.length := by omega
      have q0 : (0 : Int) ≤ j := by omega
      have q1 : (j : Int) < n := by omega
      have x0 : W.cell? ⟨b, off + j, none⟩ = some (.int .u8 xs[j]) := by
        rw [hc j (by simp [U8]; omega)]
        simp [U8, List.getD, hjx]
      have r0 := hb _ (List.getElem_mem hjx)
      have ht : xs.take (j + 1) = xs.take j ++ [xs[j]] := List.take_succ_eq_append_getElem hjx
      have hf : ((xs.take (j + 1)).foldl crcGo 4294967295) = crcGo ((xs.take j).foldl crcGo 4294967295) xs[j] := by rw [ht, List.foldl_append]; rfl
      have hfr := crcFold_range (xs.take j) 4294967295 (by omega)
      generalize (xs.take j).foldl crcGo 4294967295 = y at *
      have hf0 := Lib.hid hf
      generalize xs[j] = x at *
      obtain ⟨k, hk⟩ : ∃ k : Nat, bits BinOp.xor IntKind.u8 (y % 256) x = (k : Int) := ⟨(bits BinOp.xor IntKind.u8 (y % 256) x).toNat, by have := (bits_u8 .xor (y % 256) x).1; omega⟩
      have hk2 := (bits_u8 .xor (y % 256) x).2
      rw [hk] at hk2
      have t0 : W.cell? ⟨g, k, none⟩ = some (.int .u32 (crcN 8 k)) := by rw [hT.cell]; exact crcTab_get (by omega)
      have hf2 := Lib.hid (hf0.out.trans (by unfold crcGo; rw [hk, Int.toNat_natCast]))
      clear hf0 hf
      have qk : (k : Int) < 256 := by omega
      clear hc hs hsW hT ht hk2
      go_wp2_with fail
      go_round
      case rel => exact ⟨j + 1, by omega, by simp, by rw [hf2.out]⟩
      case measure => simp [intOf]; omega
    · obtain rfl : j = n := by omega
      have hfr := crcFold_range xs 4294967295 (by omega)
      have ht : xs.take j = xs := by rw [← hl]; exact List.take_length
      rw [ht]
      have hcs := Lib.hid (show crcSum xs = bits .xor .u32 IntKind.u32.max (xs.foldl crcGo 4294967295) from rfl)
      generalize xs.foldl crcGo 4294967295 = y at *
      clear ht hs hsW hT
      go_wp2_with fail
      go_returns
      exact ⟨by rw [hcs.out]; first | rfl | simp, bel⟩
end Go.Proofs.YthmhdaefkhcenaaGreatDoor
namespace Go.Proofs.YthmhdaefkhcenaaGreatDoor
open Go.RowKit Go.Lib

def nt32 (x : Int) : Int := bits .xor .u32 IntKind.u32.max x
def frameL (xs : List Int) : List Int := w32 xs.length ++ w32 (nt32 xs.length) ++ xs ++ w32 (crcSum xs)
theorem frameL_len (xs : List Int) : (frameL xs).length = xs.length + 12 := by simp [frameL, w32]
theorem w32_byte (x : Int) : ∀ y ∈ w32 x, 0 ≤ y ∧ y ≤ 255 := by
  intro y hy
  simp only [w32, List.mem_cons, List.not_mem_nil, or_false] at hy
  omega
theorem frameL_byte {xs : List Int} (h : ∀ x ∈ xs, 0 ≤ x ∧ x ≤ 255) : ∀ x ∈ frameL xs, 0 ≤ x ∧ x ≤ 255 := by
  intro x hx
  simp only [frameL, List.mem_append] at hx
  rcases hx with ((hx | hx) | hx) | hx
  · exact w32_byte _ x hx
  · exact w32_byte _ x hx
  · exact h x hx
  · exact w32_byte _ x hx
set_option maxRecDepth 100000 in
set_option maxHeartbeats 8000000 in
theorem put_frame (A : Option Addr) (n c B : Nat) (xs : List Int) (w : World) (hs : Shows w B 1 A n (U8 xs)) (hB : B ≤ w.heap.size) (hb : ∀ x ∈ xs, 0 ≤ x ∧ x ≤ 255) (hn : n ≤ 60000) :
    Calls Tryz.prog 107 #[.slice A n c] w fun e w' => ∃ A' c', e = .returned (.tuple #[.slice A' (frameL xs).length c', .int .i64 0]) ∧ w'.ownsRow w.heap.size 5 1 (.slice A' (frameL xs).length c') (frameL xs).length (U8 (frameL xs)) ∧ Below w.heap.size w w' := by
  obtain ⟨i0, hi, hz0, hz1, hz2⟩ := info_parts infoU8
  have hl : xs.length = n := by simpa [U8] using hs.1
  have q1 : (n : Int) ≤ 65536 := by omega
  go_enter Tryz.func107, Tryz.ntmps107
  go_wp2_with fail
  have hx1 : IntKind.u32.wrap (n : Int) = n := by rw [IntKind.wrap_u32]; omega
  refine (word_any none 0 0 [] n w.heap.size w own_nil (Nat.le_refl _) (by omega)).mono ?_
  rintro e w1 ⟨A1, c1, rfl, O1, hb1⟩
  go_wp2_with fail
  refine (word_any A1 4 c1 (w32 n) (nt32 n) w.heap.size w1 (by simpa using O1) hb1.size (by omega)).mono ?_
  rintro e w2 ⟨A2, c2, rfl, O2, hb2⟩
  have bel2 := hb1.trans hb2
  have S2 := hs.below (bel2.mono hB)
  go_wp2_with (at_builtin; refine wpList_append_shows _ rfl _ _ 71 rfl w.heap.size 5 i0 (.int .u8 0) 1 1 Tryz.underlying71 hi hz0 hz1 hz2 rfl (by decide) (.slice A2 8 c2) 8 (U8 (w32 n ++ w32 (nt32 n))) rfl O2 B A n c (U8 xs) rfl S2 (nums_one .u8 xs) (by unfold maxLen; omega) (by omega) bel2.size ?_; intro A3 c3 w3 O3 G3)
  have bel3 : Below w.heap.size w w3 := bel2.grown G3 bel2.size (fun k hk => (O2.lt k hk).1)
  refine (sum_any A n c B xs w3 (hs.below (bel3.mono hB)) (Nat.le_trans hB bel3.size) hb (by omega)).mono ?_
  rintro e w4 ⟨rfl, hb4⟩
  have bel4 : Below w.heap.size w w4 := bel3.trans (hb4.mono bel3.size)
  have O4 := own_below O3 hb4
  go_wp2_with fail
  refine (word_any A3 (8 + n) c3 (w32 n ++ w32 (nt32 n) ++ xs) (crcSum xs) w.heap.size w4 (by simpa [U8] using O4) bel4.size (by omega)).mono ?_
  rintro e w5 ⟨A5, c5, rfl, O5, hb5⟩
  go_wp2_with fail
  go_returns
  have e1 : (frameL xs).length = 8 + n + 4 := by rw [frameL_len]; omega
  have e2 : frameL xs = w32 n ++ w32 (nt32 n) ++ xs ++ w32 (crcSum xs) := by unfold frameL; rw [hl]
  rw [e1, e2]
  exact ⟨A5, c5, rfl, O5, bel4.trans hb5⟩
end Go.Proofs.YthmhdaefkhcenaaGreatDoor
