/- A slice value of the call's own whose WHOLE room is known to hold cells of a kind: what 'append' makes of it. -/
import Derived.Test.YtnhiipiciondoaaMem2
namespace Go.Proofs.Ytnhiipiciondoaa
open Go.RowKit Go.Lib

/-- '.slice A n c' is nil, or the head of a block that holds xs and behind them a room whose cells are all of the kind T. -/
def Full (T : Value → Prop) (w : World) (base : Nat) (e : TypeId) (size : Nat) (A : Option Addr) (n c : Nat) (xs : List Value) : Prop :=
  xs.length = n * size ∧ ((A = none ∧ n = 0 ∧ c = 0) ∨
    ∃ g zs, A = some ⟨g, 0, none⟩ ∧ base ≤ g ∧ w.heap[g]? = some (.cells (xs ++ zs).toArray e (0, 0)) ∧ n ≤ c ∧ c ≤ maxLen ∧ (xs ++ zs).length = c * size ∧ ∀ z ∈ zs, T z)
section
variable {T : Value → Prop} {w w' : World} {base base' : Nat} {e : TypeId} {size n c : Nat} {A : Option Addr} {xs : List Value}
theorem Full.nil (T : Value → Prop) (w : World) (base : Nat) (e : TypeId) (size : Nat) : Full T w base e size none 0 0 [] := ⟨by simp, .inl ⟨rfl, rfl, rfl⟩⟩
theorem Full.owns (h : Full T w base e size A n c xs) : w.ownsRow base e size (.slice A n c) n xs := by
  refine ⟨h.1, ?_⟩
  rcases h.2 with ⟨rfl, rfl, rfl⟩ | ⟨g, zs, rfl, hb, hg, hn, hc, hl, _⟩
  · exact .inl ⟨rfl, rfl⟩
  · exact .inr ⟨g, c, _, rfl, hb, hg, hn, hc, by simpa using hl, by rw [← h.1]; simp⟩
theorem Full.low (h : Full T w base e size A n c xs) (hb : base' ≤ base) : Full T w base' e size A n c xs := by
  refine ⟨h.1, ?_⟩
  rcases h.2 with h1 | ⟨g, zs, hA, hg, hr⟩
  · exact .inl h1
  · exact .inr ⟨g, zs, hA, by omega, hr⟩
theorem Full.lt {g : Nat} (h : Full T w base e size A n c xs) (hA : A = some ⟨g, 0, none⟩) : base ≤ g ∧ g < w.heap.size := by
  rcases h.2 with ⟨h1, _⟩ | ⟨g', zs, hA', hb, hg, _⟩
  · rw [h1] at hA; cases hA
  · rw [hA'] at hA
    injection hA with hA; injection hA with hA; subst hA
    refine ⟨hb, ?_⟩
    rcases Nat.lt_or_ge g' w.heap.size with hlt | hge
    · exact hlt
    · rw [Array.getElem?_eq_none hge] at hg; cases hg
theorem Full.same (h : Full T w base e size A n c xs) (hs : ∀ g, A = some ⟨g, 0, none⟩ → w'.heap[g]? = w.heap[g]?) : Full T w' base e size A n c xs := by
  refine ⟨h.1, ?_⟩
  rcases h.2 with h1 | ⟨g, zs, hA, hb, hg, hr⟩
  · exact .inl h1
  · exact .inr ⟨g, zs, hA, hb, (hs g hA).trans hg, hr⟩
theorem Full.call (h : Full T w base e size A n c xs) (hb : Below w.heap.size w w') : Full T w' base e size A n c xs := h.same fun g hA => hb.block g (h.lt hA).2
theorem Full.alloc (h : Full T w base e size A n c xs) (o : Obj) : Full T (w.alloc o) base e size A n c xs := h.same fun _ hA => Below.heap_alloc _ _ _ (h.lt hA).2
theorem Full.kept {row : Option Nat} (h : Full T w base e size A n c xs) (hg : w.grownBy w' row) (hne : ∀ g, A = some ⟨g, 0, none⟩ → some g ≠ row) : Full T w' base e size A n c xs := h.same fun g hA => hg.block g (h.lt hA).2 (hne g hA)
end

theorem zero_cells {T : Value → Prop} (z : Array Value) (hz : ∀ j (h : j < z.size), T z[j]) (n : Nat) : ∀ v ∈ (Builtin.zeroCells z n).toList, T v := by
  intro v hv
  simp only [Builtin.zeroCells, Array.toList_map, List.mem_map, Array.toList_range, List.mem_range] at hv
  obtain ⟨i, hi, rfl⟩ := hv
  have h0 : 0 < z.size := by
    rcases Nat.eq_zero_or_pos z.size with h | h
    · rw [h] at hi; omega
    · exact h
  have hm : i % z.size < z.size := Nat.mod_lt _ h0
  rw [getElem!_pos z _ hm]
  exact hz _ hm
section
variable {P : Program} (w : World)
/-- Behind an append that had to grow. -/
theorem full_grown {T : Value → Prop} (base : Nat) (e : TypeId) (z : Value) (size : Nat) (hzs : z.cells.size = size) (hzT : ∀ j (h : j < z.cells.size), T z.cells[j]) (xs news : List Value) (n m old : Nat)
    (hx : xs.length = n * size) (hl : news.length = m * size) (h63 : n + m ≤ maxLen) (hbase : base ≤ w.heap.size) (row : Option Nat) :
    Full T (w.drew.alloc (.cells (xs.toArray ++ news.toArray ++ Builtin.zeroCells z.cells (grownCap w (n + m) old e - (n + m))) e)) base e size (some ⟨w.heap.size, 0, none⟩) (n + m) (grownCap w (n + m) old e) (xs ++ news) ∧
    w.grownBy (w.drew.alloc (.cells (xs.toArray ++ news.toArray ++ Builtin.zeroCells z.cells (grownCap w (n + m) old e - (n + m))) e)) row := by
  have hge := grownCap_ge w (n + m) old e
  have hcm : grownCap w (n + m) old e ≤ maxLen := grownCap_le_maxLen w (n + m) old e h63
  refine ⟨⟨by rw [List.length_append, hx, hl, Nat.add_mul], .inr ⟨w.heap.size, (Builtin.zeroCells z.cells (grownCap w (n + m) old e - (n + m))).toList, rfl, hbase, ?_, hge, hcm, ?_, zero_cells _ hzT _⟩⟩, ⟨rfl, rfl, rfl, by simp, fun k hk _ => Below.heap_alloc w.drew _ k hk⟩⟩
  · rw [show ((xs ++ news) ++ (Builtin.zeroCells z.cells (grownCap w (n + m) old e - (n + m))).toList).toArray = xs.toArray ++ news.toArray ++ Builtin.zeroCells z.cells (grownCap w (n + m) old e - (n + m)) by apply Array.ext'; simp]
    exact heap_alloc_new w.drew _
  · rw [List.length_append, List.length_append, hx, hl, Array.length_toList, size_zeroCells, hzs, ← Nat.add_mul, ← Nat.add_mul]
    congr 1
    omega
/-- Behind an append that had room. -/
theorem full_room {T : Value → Prop} (base g : Nat) (e : TypeId) (size : Nat) (xs zs news : List Value) (n m c : Nat) (hb : base ≤ g) (hg : w.heap[g]? = some (.cells (xs ++ zs).toArray e (0, 0)))
    (hx : xs.length = n * size) (hl : news.length = m * size) (hc : c ≤ maxLen) (hcs : (xs ++ zs).length = c * size) (hT : ∀ z ∈ zs, T z) (hroom : n + m ≤ c) :
    Full T (w.setRow g ((xs ++ zs).toArray.toList.take (n * size) ++ news ++ (xs ++ zs).toArray.toList.drop (n * size + news.length)).toArray) base e size (some ⟨g, 0, none⟩) (n + m) c (xs ++ news) ∧
    w.grownBy (w.setRow g ((xs ++ zs).toArray.toList.take (n * size) ++ news ++ (xs ++ zs).toArray.toList.drop (n * size + news.length)).toArray) (some g) := by
  have e1 : (xs ++ zs).toArray.toList.take (n * size) ++ news ++ (xs ++ zs).toArray.toList.drop (n * size + news.length) = (xs ++ news) ++ zs.drop news.length := by
    rw [← hx]
    simp [List.drop_append]
  rw [e1]
  have hfit : (n + m) * size ≤ c * size := Nat.mul_le_mul_right _ hroom
  rw [Nat.add_mul] at hfit
  rw [List.length_append, hx] at hcs
  refine ⟨⟨by rw [List.length_append, hx, hl, Nat.add_mul], .inr ⟨g, zs.drop news.length, rfl, hb, setRow_heap w g _ _ e _ hg, hroom, hc, ?_, fun z hz => hT z (List.mem_of_mem_drop hz)⟩⟩, ⟨rfl, rfl, rfl, by simp, fun k _ hk => setRow_other w g k _ (fun e => hk (by rw [e]))⟩⟩
  rw [List.length_append, List.length_append, List.length_drop, hx, hl]
  omega
theorem full_block {A : Option Addr} {n c : Nat} : Value.ownBlock (.slice A n c) = A.map (·.block) := by cases A <;> rfl
theorem run_append_full {T : Value → Prop} (base : Nat) (t ty e : TypeId) (i : TypeInfo) (z : Value) (size bytes : Nat) (ht : P.underlying t = some (.slice e)) (hi : P.info? e = some i) (hz : i.zero = some z)
    (hsize : i.size = size) (hby : i.bytes = bytes) (hzs : z.cells.size = size) (hsz : 0 < size) (hzT : ∀ j (h : j < z.cells.size), T z.cells[j])
    (A : Option Addr) (n c : Nat) (xs : List Value) (hf : Full T w base e size A n c xs)
    (B : Nat) (A2 : Option Addr) (m c2 : Nat) (news : List Value) (hr : Shows w B size A2 m news) (h1 : ∀ u ∈ news, u.oneCell' = true)
    (h63 : n + m ≤ maxLen) (hbytes : (n + m) * bytes ≤ 140737488355328) (hbase : base ≤ w.heap.size) :
    ∃ A' c' w', (Builtin.append_ #[t, t] ty #[.slice A n c, .slice A2 m c2]).run P w = .ok (.slice A' (n + m) c') w' ∧ Full T w' base e size A' (n + m) c' (xs ++ news) ∧ w.grownBy w' (Value.ownBlock (.slice A n c)) := by
  rcases Nat.eq_zero_or_pos m with hm | hm
  · subst hm
    have hn : news = [] := List.eq_nil_of_length_eq_zero (by simpa using hr.1)
    subst hn
    refine ⟨A, c, w, ?_, by simpa using hf, World.grownBy.refl w _⟩
    rcases A2 with _ | ad
    · rw [run_append_nothing w base t ty e i size ht hi _ n xs hf.owns c2]
      rfl
    · rcases hf.2 with ⟨rfl, rfl, rfl⟩ | ⟨g, zs, rfl, _, hg, hnc, _, hl, _⟩
      · simp [Builtin.append_, run_underlying ht, sizeOf, typeInfo, hi, Builtin.lenOf, Builtin.firstCells, loadCells, loadCellsFrom]
      · simp [Builtin.append_, run_underlying ht, sizeOf, typeInfo, hi, Builtin.lenOf, Builtin.firstCells, loadCells, loadCellsFrom, hnc, storeCells]
  · obtain ⟨b, off, rfl, _, hc⟩ := hr.2 hm
    have hnews : ∀ j u, news[j]? = some u → w.cell? ((⟨b, off, none⟩ : Addr).add j) = some u := by
      intro j u hu
      have e1 : (⟨b, off, none⟩ : Addr).add j = ⟨b, off + j, none⟩ := by unfold Addr.add; split <;> simp_all
      rw [e1, hc j (List.getElem?_eq_some_iff.1 hu).1, List.getD, hu]; rfl
    subst hsize
    subst hby
    have hsmall : n + m ≤ 9223372036854775807 := by simp only [maxLen] at h63; omega
    rcases hf.2 with ⟨rfl, rfl, rfl⟩ | ⟨g, zs, rfl, hb, hg, hnc, hcm, hl, hT⟩
    · have hx : xs = [] := List.eq_nil_of_length_eq_zero (by simpa using hf.1)
      subst hx
      have hrun := run_append_nil (P := P) w t ty e i z ht hi hz ⟨b, off, none⟩ m c2 news hr.1 hnews hm (by omega) (by have hb := hbytes; simp only [Nat.zero_add] at hb; omega)
      have hgr := full_grown (T := T) w base e z i.size hzs hzT [] news 0 m 0 (by simp) hr.1 h63 hbase (Value.ownBlock (.slice none 0 0))
      simp only [Nat.zero_add, List.nil_append, Array.empty_append] at hgr ⊢
      exact ⟨_, _, _, hrun, hgr.1, hgr.2⟩
    · by_cases hroom : n + m ≤ c
      · have hfit : n * i.size + news.length ≤ (xs ++ zs).toArray.size := by
          rw [hr.1, List.size_toArray, hl, ← Nat.add_mul]; exact Nat.mul_le_mul_right _ hroom
        have hrun := run_append_room (P := P) w t ty e i ht hi g n c (xs ++ zs).toArray hg ⟨b, off, none⟩ m c2 news hr.1 hnews h1 hroom hfit
        have hgr := full_room (T := T) w base g e i.size xs zs news n m c hb hg hf.1 hr.1 hcm hl hT hroom
        exact ⟨_, _, _, hrun, hgr.1, hgr.2⟩
      · have holds : ∀ j u, xs[j]? = some u → w.cell? ((⟨g, 0, none⟩ : Addr).add j) = some u := hf.owns.cells (g := g) rfl
        have hrun := run_append_grow (P := P) w t ty e i z ht hi hz ⟨g, 0, none⟩ n c xs hf.1 holds ⟨b, off, none⟩ m c2 news hr.1 hnews (by omega) (by omega) (growslice_fits (by omega) hbytes)
        have hgr := full_grown (T := T) w base e z i.size hzs hzT xs news n m c hf.1 hr.1 h63 hbase (Value.ownBlock (.slice (some ⟨g, 0, none⟩) n c))
        exact ⟨_, _, _, hrun, hgr.1, hgr.2⟩
theorem wpList_append_full {T : Value → Prop} {ops : Array Oper} {rest : List Oper} {o : Oper} {a : Act} {Q : Exit → Act → World → Prop} (hgd : o.guard = none) (s x : Operand) (t : TypeId)
    (ho : o.op = .call { callee := .builtin .append, args := #[s, x], argTypes := #[t, t] })
    (base : Nat) (e : TypeId) (i : TypeInfo) (z : Value) (size bytes : Nat) (ht : P.underlying t = some (.slice e)) (hi : P.info? e = some i) (hz : i.zero = some z)
    (hsize : i.size = size) (hby : i.bytes = bytes) (hzs : z.cells.size = size) (hsz : 0 < size) (hzT : ∀ j (h : j < z.cells.size), T z.cells[j])
    (A : Option Addr) (n c : Nat) (xs : List Value) (hs : a.eval s = .slice A n c) (hf : Full T w base e size A n c xs)
    (B : Nat) (A2 : Option Addr) (m c2 : Nat) (news : List Value) (hx : a.eval x = .slice A2 m c2) (hr : Shows w B size A2 m news) (h1 : ∀ u ∈ news, u.oneCell' = true)
    (h63 : n + m ≤ maxLen) (hbytes : (n + m) * bytes ≤ 140737488355328) (hbase : base ≤ w.heap.size)
    (h : ∀ A' c' w', Full T w' base e size A' (n + m) c' (xs ++ news) → w.grownBy w' (Value.ownBlock (.slice A n c)) → wpList P ops Q rest (a.put o.dst (.slice A' (n + m) c')) w') : wpList P ops Q (o :: rest) a w := by
  refine wpList_plain hgd fun K hK => ?_
  obtain ⟨A', c', w', hrun, h2, h3⟩ := run_append_full (P := P) w base t o.type e i z size bytes ht hi hz hsize hby hzs hsz hzT A n c xs hf B A2 m c2 news hr h1 h63 hbytes hbase
  unfold Oper.wp execOp
  simp only [ho, resolve, invoke, builtin, Sem.run_bind, Sem.run_pure, Result.andThen_ok, List.map_toArray, List.map_cons, List.map_nil, hs, hx, hrun]
  exact hK _ _ (h _ _ _ h2 h3)
theorem run_append_full_string {T : Value → Prop} (base : Nat) (t u ty e : TypeId) (i : TypeInfo) (ht : P.underlying t = some (.slice e)) (hu : P.underlying u = some .string) (hi : P.info? e = some i) (hz : i.zero = some (.int .u8 0))
    (hsize : i.size = 1) (hby : i.bytes = 1) (hzT : T (.int .u8 0))
    (A : Option Addr) (n c : Nat) (xs : List Value) (hf : Full T w base e 1 A n c xs) (s : ByteArray)
    (h63 : n + s.size ≤ maxLen) (hbytes : n + s.size ≤ 140737488355328) (hbase : base ≤ w.heap.size) :
    ∃ A' c' w', (Builtin.append_ #[t, u] ty #[.slice A n c, .string s]).run P w = .ok (.slice A' (n + s.size) c') w' ∧ Full T w' base e 1 A' (n + s.size) c' (xs ++ strCells s) ∧ w.grownBy w' (Value.ownBlock (.slice A n c)) := by
  have hsmall : n + s.size ≤ 9223372036854775807 := by simp only [maxLen] at h63; omega
  have hxl : xs.length = n := by have := hf.1; omega
  have hzT' : ∀ j (h : j < (Value.int .u8 0).cells.size), T (Value.int .u8 0).cells[j] := by
    intro j h
    have : j = 0 := by simp [Value.cells] at h; omega
    subst this
    exact hzT
  have hsl : (strCells s).length = s.size * 1 := by rw [strCells_length]; omega
  rcases hf.2 with ⟨rfl, rfl, rfl⟩ | ⟨g, zs, rfl, hb, hg, hnc, hcm, hl, hT⟩
  · have hx : xs = [] := List.eq_nil_of_length_eq_zero hxl
    subst hx
    rcases Nat.eq_zero_or_pos s.size with h0 | h0
    · have hs0 : strCells s = [] := List.eq_nil_of_length_eq_zero (by rw [strCells_length]; exact h0)
      refine ⟨none, 0, w, ?_, by rw [hs0, h0]; exact hf, World.grownBy.refl w _⟩
      have hd : s.data = #[] := Array.eq_empty_of_size_eq_zero h0
      have hse : s = ⟨#[]⟩ := by cases s; simp_all
      subst hse
      simp [Builtin.append_, run_underlying ht, run_underlying hu, sizeOf, typeInfo, hi, Builtin.lenOf, Builtin.firstCells, ByteArray.size]
    · have hr := run_append_nil_string (P := P) w t u ty e i (.int .u8 0) ht hu hi hz s h0 (by omega) (by rw [hby]; omega)
      have e0 : s.data.map (fun b => Value.int .u8 b.toNat) = (strCells s).toArray := by apply Array.ext'; simp [strCells]
      rw [e0] at hr
      have hgr := full_grown (T := T) w base e (.int .u8 0) 1 rfl hzT' [] (strCells s) 0 s.size 0 (by simp) hsl h63 hbase (Value.ownBlock (.slice none 0 0))
      simp only [Nat.zero_add, List.nil_append, Array.empty_append] at hgr ⊢
      exact ⟨_, _, _, hr, hgr.1, hgr.2⟩
  · by_cases hroom : n + s.size ≤ c
    · have hfit : n + s.size ≤ (xs ++ zs).toArray.size := by simp only [List.size_toArray, hl]; omega
      have hr := run_append_room_string (P := P) w t u ty e i ht hu hi hsize g n c (xs ++ zs).toArray hg s hroom hfit
      have hgr := full_room (T := T) w base g e 1 xs zs (strCells s) n s.size c hb hg hf.1 hsl hcm hl hT hroom
      rw [Nat.mul_one, strCells_length] at hgr
      exact ⟨_, _, _, hr, hgr.1, hgr.2⟩
    · have holds : ∀ j u, xs[j]? = some u → w.cell? ((⟨g, 0, none⟩ : Addr).add j) = some u := hf.owns.cells (g := g) rfl
      have hr := run_append_grow_string (P := P) w t u ty e i (.int .u8 0) ht hu hi hz ⟨g, 0, none⟩ n c xs (by rw [hsize]; omega) holds s (by omega) (by omega) (by rw [hby]; exact growslice_fits (by omega) (by omega))
      have hgr := full_grown (T := T) w base e (.int .u8 0) 1 rfl hzT' xs (strCells s) n s.size c hf.1 hsl h63 hbase (Value.ownBlock (.slice (some ⟨g, 0, none⟩) n c))
      exact ⟨_, _, _, hr, hgr.1, hgr.2⟩
theorem wpList_append_full_string {T : Value → Prop} {ops : Array Oper} {rest : List Oper} {o : Oper} {a : Act} {Q : Exit → Act → World → Prop} (hgd : o.guard = none) (sl x : Operand) (t u : TypeId)
    (ho : o.op = .call { callee := .builtin .append, args := #[sl, x], argTypes := #[t, u] })
    (base : Nat) (e : TypeId) (i : TypeInfo) (ht : P.underlying t = some (.slice e)) (hu : P.underlying u = some .string) (hi : P.info? e = some i) (hz : i.zero = some (.int .u8 0))
    (hsize : i.size = 1) (hby : i.bytes = 1) (hzT : T (.int .u8 0))
    (A : Option Addr) (n c : Nat) (xs : List Value) (hs : a.eval sl = .slice A n c) (hf : Full T w base e 1 A n c xs) (s : ByteArray) (hx : a.eval x = .string s)
    (h63 : n + s.size ≤ maxLen) (hbytes : n + s.size ≤ 140737488355328) (hbase : base ≤ w.heap.size)
    (h : ∀ A' c' w', Full T w' base e 1 A' (n + s.size) c' (xs ++ strCells s) → w.grownBy w' (Value.ownBlock (.slice A n c)) → wpList P ops Q rest (a.put o.dst (.slice A' (n + s.size) c')) w') : wpList P ops Q (o :: rest) a w := by
  refine wpList_plain hgd fun K hK => ?_
  obtain ⟨A', c', w', hrun, h2, h3⟩ := run_append_full_string (P := P) w base t u o.type e i ht hu hi hz hsize hby hzT A n c xs hf s h63 hbytes hbase
  unfold Oper.wp execOp
  simp only [ho, resolve, invoke, builtin, Sem.run_bind, Sem.run_pure, Result.andThen_ok, List.map_toArray, List.map_cons, List.map_nil, hs, hx, hrun]
  exact hK _ _ (h _ _ _ h2 h3)
end
end Go.Proofs.Ytnhiipiciondoaa
