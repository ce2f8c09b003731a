/- Lemmas for it; no condition: TReg TNe TReg2 TDsk TDskN TFil. -/
import Derived.Test.YthmhdaefkhcenaaGreatDoorZ08
import Derived.Test.YthmhdaefkhcenaaGreatDoorZ13
import Derived.OrdersHeld
import Derived.StillTail
import Derived.Deep.RegionHeld3
set_option linter.unusedVariables false
set_option linter.unusedSimpArgs false
namespace Go.Proofs.YthmhdaefkhcenaaGreatDoor
open Go.RowKit

section
variable {P : Program} {ops : Array Oper} {Q : Exit → Act → World → Prop} {md : Region.Mode} {S : World → Prop} {t : Nat}
def AnyBut (P : Program) (md : Region.Mode) (ops : Array Oper) (Q : Exit → Act → World → Prop) (S : World → Prop) (t : Nat) : Nat → Array Bool → Act → World → Prop
  | 0, l, a, w => Region.ready md ops l = [] ∧ Q .normal a w
  | f + 1, l, a, w => (Region.ready md ops l = [] → Q .normal a w) ∧
    ∀ i ∈ Region.ready md ops l, wpOp P ops Q i (fun a' w' => (i ≠ t → S w') ∧ AnyBut P md ops Q S t f (l.setIfInBounds i true) a' w') a w
theorem AnyBut.any : ∀ (f : Nat) (l : Array Bool) (a : Act) (w : World), AnyBut P md ops Q S t f l a w → wpAny P md ops Q f l a w
  | 0, _, _, _, h => h
  | f + 1, _, _, _, h => ⟨h.1, fun i hi => wpOp_mono (fun a' w' hh => AnyBut.any f _ a' w' hh.2) (h.2 i hi)⟩
theorem op_at {i : Nat} {o : Oper} (h : (ops.toList.drop i).head? = some o) : ops[i]? = some o := by rw [List.head?_drop] at h; simpa using h
theorem listed_of_set {l : Array Bool} {i j : Nat} (h : (l.setIfInBounds j true).getD i true = false) (hij : i ≠ j) : l.getD i true = false := by
  rwa [getD_set_ne true (Ne.symm hij)] at h
theorem AnyBut.first {i : Nat} {oi : Oper} {v : Value} (hi : ops[i]? = some oi) (hsel : ∀ (j : Nat) (o : Oper) cs b, ops[j]? = some o → o.op ≠ .select cs b)
    (hQ : ∀ c a w, Q (.panic c) (a.put oi.dst v) w → Q (.panic c) a w) (hw : Region.waitsFor md ops t i = true ∨ ops.size ≤ t) (hit : i ≠ t) :
    ∀ (f : Nat) (l : Array Bool) (a : Act) (w : World),
      (∀ j oj, ops[j]? = some oj → j ≠ i → l.getD j true = false → (∀ e ∈ oj.after, Region.binds md e = true → e.on ≠ i) → oi.apart ops oj = true) →
      i ∈ Region.ready md ops l → YieldsIf P ops S oi v a → S w → AnyBut P md ops Q S t f (l.setIfInBounds i true) (a.put oi.dst v) w → AnyBut P md ops Q S t (f + 1) l a w := by
  intro f
  induction f with
  | zero =>
    intro l a w _ hr hy hS H
    refine ⟨fun h0 => by rw [h0] at hr; exact absurd hr (by simp), fun j hj => ?_⟩
    rcases Nat.decEq j i with hji | hji
    · exact absurd (ready_mono hj hji) (by rw [H.1]; simp)
    · subst hji; exact hy.wpOp hi hS ⟨fun _ => hS, H⟩
  | succ f ih =>
    intro l a w hfree hr hy hS H
    refine ⟨fun h0 => by rw [h0] at hr; exact absurd hr (by simp), fun j hj => ?_⟩
    rcases Nat.decEq j i with hji | hji
    rotate_left
    · subst hji; exact hy.wpOp hi hS ⟨fun _ => hS, H⟩
    obtain ⟨hjl, oj, hoj, hall⟩ := mem_ready.1 hj
    have hil := (mem_ready.1 hr).1
    have hnot : ∀ e ∈ oj.after, Region.binds md e = true → e.on ≠ i := by
      intro e he hb heq
      have h1 := hall e he hb
      rw [heq, getD_both hil] at h1
      cases h1
    have hjt : j ≠ t := by
      rintro rfl
      rcases hw with hw | hw
      rotate_left
      · have := (Array.getElem?_eq_some_iff.1 hoj).1
        omega
      obtain ⟨ot, hot, e, he, hb, hon⟩ := Region.waitsFor_spec hw
      have : ot = oj := Option.some.inj (hot.symm.trans hoj)
      subst this
      exact hnot e he hb hon
    have h2 := wpOp_putIf hoj (hfree j oj hoj hji hjl hnot) (fun cs b => hsel i oi cs b hi) (fun cs b => hsel j oj cs b hoj) hQ hy (H.2 j (ready_mono hj hji))
    refine wpOp_mono (fun a' w' hh => ⟨fun _ => hh.2.1 hjt, ih (l.setIfInBounds j true) a' w' ?_ (ready_mono hr (Ne.symm hji)) hh.1 (hh.2.1 hjt) ?_⟩) h2
    · intro k ok hk hki hun hno
      refine hfree k ok hk hki ?_ hno
      rcases Nat.decEq j k with hjk | hjk
      · exact listed_of_set hun (Ne.symm hjk)
      · subst hjk; exact hjl
    · rw [Array.setIfInBounds_comm _ _ hji]
      exact hh.2.2
theorem AnyBut.take {i : Nat} {oi : Oper} {v : Value} {f : Nat} {l : Array Bool} {a : Act} {w : World} (hi0 : (ops.toList.drop i).head? = some oi) (hs : Region.noSelect ops = true) (hf : Region.free md ops l i = true)
    (hr : (Region.ready md ops l).contains i = true) (hw : Region.waitsFor md ops t i = true) (hit : i ≠ t) (hQ : ∀ c a w, Q (.panic c) (a.put oi.dst v) w → Q (.panic c) a w)
    (hwa : Region.wanted oi (yielded ops a.tmps) = true) (hy : ∀ w, S w → (execOp a.eval oi).run P w = .ok (.value v) w) (hS : S w)
    (h : AnyBut P md ops Q S t f (l.setIfInBounds i true) (a.put oi.dst v) w) : AnyBut P md ops Q S t (f + 1) l a w :=
  have hi := op_at hi0
  AnyBut.first hi (Region.noSelect_spec hs) hQ (.inl hw) hit f l a w (Region.free_spec hi hf) (by simpa using hr) (.inl ⟨hwa, hy⟩) hS h
theorem AnyBut.take0 {i : Nat} {oi : Oper} {v : Value} {f : Nat} {l : Array Bool} {a : Act} {w : World} (hi0 : (ops.toList.drop i).head? = some oi) (hs : Region.noSelect ops = true) (hf : Region.free md ops l i = true)
    (hr : (Region.ready md ops l).contains i = true) (ht : Nat.ble ops.size t = true) (hit : i ≠ t) (hQ : ∀ c a w, Q (.panic c) (a.put oi.dst v) w → Q (.panic c) a w)
    (hwa : Region.wanted oi (yielded ops a.tmps) = true) (hy : ∀ w, S w → (execOp a.eval oi).run P w = .ok (.value v) w) (hS : S w)
    (h : AnyBut P md ops Q S t f (l.setIfInBounds i true) (a.put oi.dst v) w) : AnyBut P md ops Q S t (f + 1) l a w :=
  have hi := op_at hi0
  AnyBut.first hi (Region.noSelect_spec hs) hQ (.inr (Nat.le_of_ble_eq_true ht)) hit f l a w (Region.free_spec hi hf) (by simpa using hr) (.inl ⟨hwa, hy⟩) hS h
theorem AnyBut.tk (i : Nat) {oi : Oper} {v : Value} {f : Nat} {l : Array Bool} {a b : Act} {w : World} (hS : S w) (hi0 : (ops.toList.drop i).head? = some oi)
    (hy : ∀ w, S w → (execOp a.eval oi).run P w = .ok (.value v) w := by (intro w' hw'; go_simp; try with_reducible rfl))
    (hs : Region.noSelect ops = true := by kernel_rfl) (hf : Region.free md ops l i = true := by kernel_rfl)
    (hr : (Region.ready md ops l).contains i = true := by kernel_rfl) (hw : Region.waitsFor md ops t i = true := by kernel_rfl) (hit : i ≠ t := by decide) (hQ : ∀ c a w, Q (.panic c) (a.put oi.dst v) w → Q (.panic c) a w := by exact fun _ _ _ h => h)
    (hwa : Region.wanted oi (yielded ops a.tmps) = true := by rfl) (hb : a.put oi.dst v = b := by (simp only [Act.put, List.setIfInBounds_toArray, List.set_cons_zero, List.set_cons_succ]; try rfl))
    (h : AnyBut P md ops Q S t f (l.setIfInBounds i true) b w) : AnyBut P md ops Q S t (f + 1) l a w :=
  AnyBut.take hi0 hs hf hr hw hit hQ hwa hy hS (hb ▸ h)
theorem AnyBut.tk0 (i : Nat) {oi : Oper} {v : Value} {f : Nat} {l : Array Bool} {a b : Act} {w : World} (hS : S w) (hi0 : (ops.toList.drop i).head? = some oi)
    (hy : ∀ w, S w → (execOp a.eval oi).run P w = .ok (.value v) w := by (intro w' hw'; go_simp; try with_reducible rfl))
    (hs : Region.noSelect ops = true := by kernel_rfl) (hf : Region.free md ops l i = true := by kernel_rfl)
    (hr : (Region.ready md ops l).contains i = true := by kernel_rfl) (ht : Nat.ble ops.size t = true := by kernel_rfl) (hit : i ≠ t := by decide) (hQ : ∀ c a w, Q (.panic c) (a.put oi.dst v) w → Q (.panic c) a w := by exact fun _ _ _ h => h)
    (hwa : Region.wanted oi (yielded ops a.tmps) = true := by rfl) (hb : a.put oi.dst v = b := by (simp only [Act.put, List.setIfInBounds_toArray, List.set_cons_zero, List.set_cons_succ]; try rfl))
    (h : AnyBut P md ops Q S t f (l.setIfInBounds i true) b w) : AnyBut P md ops Q S t (f + 1) l a w :=
  AnyBut.take0 hi0 hs hf hr ht hit hQ hwa hy hS (hb ▸ h)
theorem AnyBut.one {i : Nat} {o : Oper} {f : Nat} {l : Array Bool} {a : Act} {w : World} (ho0 : (ops.toList.drop i).head? = some o) (hr : Region.ready md ops l = [i]) (hg : o.guard = none)
    (h : ∀ K : Act → World → Prop, (∀ a w, S w → (S w → AnyBut P md ops Q S t f (l.setIfInBounds i true) a w) → K a w) → Oper.wp P o a w K Q) : AnyBut P md ops Q S t (f + 1) l a w := by
  have ho := op_at ho0
  refine ⟨fun h0 => (by rw [h0] at hr; cases hr), fun j hj => ?_⟩
  rw [hr] at hj
  have : j = i := by simpa using hj
  subst this
  unfold wpOp
  simp only [ho, Region.wanted, hg, if_true]
  exact .inl (h _ fun a w h1 h2 => ⟨fun _ => h1, h2 h1⟩)
theorem AnyBut.last {o : Oper} {f : Nat} {l : Array Bool} {a : Act} {w : World} (ho0 : (ops.toList.drop t).head? = some o) (hr : Region.ready md ops l = [t]) (hg : o.guard = none) (hr2 : Region.ready md ops (l.setIfInBounds t true) = [])
    (h : ∀ K : Act → World → Prop, (∀ a w, Q .normal a w → K a w) → Oper.wp P o a w K Q) : AnyBut P md ops Q S t (f + 1) l a w := by
  have ho := op_at ho0
  refine ⟨fun h0 => (by rw [h0] at hr; cases hr), fun j hj => ?_⟩
  rw [hr] at hj
  have : j = t := by simpa using hj
  subst this
  unfold wpOp
  simp only [ho, Region.wanted, hg, if_true]
  refine .inl (h _ fun a w h1 => ⟨fun hn => absurd rfl hn, ?_⟩)
  cases f with
  | zero => exact ⟨hr2, h1⟩
  | succ f => exact ⟨fun _ => h1, by rw [hr2]; simp⟩
theorem AnyBut.done {f : Nat} {l : Array Bool} {a : Act} {w : World} (hr : Region.ready md ops l = []) (h : Q .normal a w) : AnyBut P md ops Q S t f l a w := by
  cases f with
  | zero => exact ⟨hr, h⟩
  | succ f => exact ⟨fun _ => h, by rw [hr]; simp⟩
theorem AnyBut.region {id : Nat} {a : Act} {w : World} (n : Nat) (hn : ops.size = n) (hm : P.follows .mixedOrders = true) (hS : S w.drew) (h : S w.drew → AnyBut P .any ops Q S t n (Array.replicate n false) a w.drew) : (Code.region id ops true).wp P Q a w :=
  by subst hn; exact wp_region_any hm (AnyBut.any _ _ _ _ (h hS))
end
end Go.Proofs.YthmhdaefkhcenaaGreatDoor
namespace Go.Proofs.YthmhdaefkhcenaaGreatDoor
open Go.RowKit Go.Lib

theorem Block.ne_type {w : World} {g h : Nat} {t t' : TypeId} {cs ds : List Value} (hg : Block w g t cs) (hh : Block w h t' ds) (ht : t ≠ t') : g ≠ h := by
  intro e
  subst e
  unfold Block at hg hh
  rw [hg] at hh
  injection hh with hh
  injection hh with _ h2 _
  exact ht h2
theorem Block.ne_map {w : World} {g m : Nat} {t : TypeId} {cs : List Value} {es : List MapEntry} {c : Nat} (hg : Block w g t cs) (hm : MapAt w m es c) : g ≠ m := by
  intro e
  subst e
  unfold Block at hg
  unfold MapAt at hm
  rw [hg] at hm
  cases hm
theorem Has.ne_map {w : World} {g m : Nat} {v : Value} {cs : List Value} {es : List MapEntry} {c : Nat} (hg : Has w g (v :: cs)) (hm : MapAt w m es c) : g ≠ m := by
  intro e
  subst e
  have h := hg.cell (j := 0) rfl
  unfold MapAt at hm
  simp [World.cell?, hm] at h
theorem own_ne_block {w : World} {g h : Nat} {e t : TypeId} {base size n c : Nat} {xs ds : List Value} (hg : w.ownsRow base e size (.slice (some ⟨g, 0, none⟩) n c) n xs) (hh : Block w h t ds) (ht : t ≠ e) : g ≠ h := by
  obtain ⟨_, ⟨h1, _⟩ | ⟨g', cap, cur, h1, _, hgg, _⟩⟩ := hg
  · cases h1
  · injection h1 with h1
    injection h1 with h1
    injection h1 with h1
    subst h1
    intro e
    subst e
    unfold Block at hh
    rw [hgg] at hh
    injection hh with hh
    injection hh with _ h2 _
    exact ht h2.symm
theorem own_set {W : World} {e : TypeId} {base size n c g : Nat} {xs : List Value} (h : W.ownsRow base e size (.slice (some ⟨g, 0, none⟩) n c) n xs) {p : Addr} (hp : g ≠ p.block) (u : Value) : (W.setCell p u).ownsRow base e size (.slice (some ⟨g, 0, none⟩) n c) n xs := by
  obtain ⟨hl, ⟨h1, _⟩ | ⟨g', cap, cur, h1, hb, hgg, hr⟩⟩ := h
  · cases h1
  · injection h1 with h1 h2 h3
    injection h1 with h1
    injection h1 with h1
    subst h1 h3
    exact ⟨hl, .inr ⟨g, c, cur, rfl, hb, (Below.heap_setCell _ _ _ g hp).trans hgg, hr⟩⟩
theorem own_ne_map {w : World} {g m : Nat} {e : TypeId} {base size n c : Nat} {xs : List Value} {es : List MapEntry} {cl : Nat} (hg : w.ownsRow base e size (.slice (some ⟨g, 0, none⟩) n c) n xs) (hh : MapAt w m es cl) : g ≠ m := by
  obtain ⟨_, ⟨h1, _⟩ | ⟨g', cap, cur, h1, _, hgg, _⟩⟩ := hg
  · cases h1
  · injection h1 with h1
    injection h1 with h1
    injection h1 with h1
    subst h1
    intro e
    subst e
    unfold MapAt at hh
    rw [hgg] at hh
    cases hh
section
variable {P : Program} {ops : Array Oper} {rest : List Oper} {o : Oper} {a : Act} {Q : Exit → Act → World → Prop} {w : World}
theorem op_append_own2 {K : Act → World → Prop} (s x : Operand) (t : TypeId)
    (ho : o.op = .call { callee := .builtin .append, args := #[s, x], argTypes := #[t, t] })
    (e : TypeId) (z : Value) (size bytes : Nat) (ht : P.underlying t = some (.slice e)) (hI : (P.info? e).map (fun i => (i.zero, i.size, i.bytes)) = some (some z, size, bytes)) (hz : z.cells.size = size) (hsz : 0 < size)
    (base : Nat) (v : Value) (n : Nat) (xs : List Value) (hs : a.eval s = v) (hown : w.ownsRow base e size v n xs) (b off m c : Nat) (news : List Value) (hx : a.eval x = .slice (some ⟨b, off, none⟩) m c) (hl : news.length = m * size)
    (hc : ∀ j v, news[j]? = some v → w.cell? ⟨b, off + j, none⟩ = some v) (h1 : ∀ u ∈ news, u.oneCell' = true) (h0 : 0 < m) (h63 : n + m ≤ maxLen) (h48 : (n + m) * bytes ≤ 140737488355328) (hbase : base ≤ w.heap.size)
    (h : ∀ g c' w', base ≤ g → n + m ≤ c' → (some g = v.ownBlock ∨ g = w.heap.size) → w'.ownsRow base e size (.slice (some ⟨g, 0, none⟩) (n + m) c') (n + m) (xs ++ news) → Has w' g (xs ++ news) → w.grownBy w' v.ownBlock → K (a.put o.dst (.slice (some ⟨g, 0, none⟩) (n + m) c')) w') : Oper.wp P o a w K Q := by
  obtain ⟨i, hi, hi2⟩ : ∃ i, P.info? e = some i ∧ (i.zero, i.size, i.bytes) = (some z, size, bytes) := by
    cases hP : P.info? e with
    | none => rw [hP] at hI; cases hI
    | some i => rw [hP] at hI; exact ⟨i, rfl, by simpa using hI⟩
  simp only [Prod.mk.injEq] at hi2
  obtain ⟨hiz, his, hib⟩ := hi2
  obtain ⟨v', w', hrun, h2, h3, _, h5⟩ := run_append_own_at (P := P) w base t o.type e i z size bytes ht hi hiz his hib hz hsz v n xs hown ⟨b, off, none⟩ m c news hl (fun j u hu => by rw [addr_add]; exact hc j u hu) h1 h63 h48 hbase
  obtain ⟨A', c', e1, _⟩ := own_form h2
  subst e1
  obtain ⟨g, rfl, hb, hnc, hH⟩ := own_has h2 (by omega)
  unfold Oper.wp execOp
  simp only [ho, resolve, invoke, builtin, Sem.run_bind, Sem.run_pure, Result.andThen_ok, List.map_toArray, List.map_cons, List.map_nil, hs, hx, hrun]
  exact h g c' w' hb hnc (h5.imp (fun e => by simpa [Value.ownBlock] using e) (fun e => by simpa [Value.ownBlock] using e)) h2 hH h3
end
theorem ret_t {P : Program} {fn : Func} {R : Ending → World → Prop} {a : Act} {w : World} {v : Value} {x : Tmp} (hr : fn.results = #[.tmp x]) (hd : a.defers = []) (hv : a.tmps.getD x undef = v) (hR : R (.returned v) w) : bodyPost P fn R .ret a w := by
  refine bodyPost_ret (v := v) ?_ hd hR
  simp only [results, hr]
  simp [Sem.run_bind, Result.andThen, ← hv]

end Go.Proofs.YthmhdaefkhcenaaGreatDoor
namespace Go.Proofs.YthmhdaefkhcenaaGreatDoor
open Go.RowKit

section
variable {P : Program} {ops : Array Oper} {Q : Exit → Act → World → Prop} {md : Region.Mode} {S : World → Prop} {t : Nat}
def AnyTo (P : Program) (md : Region.Mode) (ops : Array Oper) (Q : Exit → Act → World → Prop) (S : World → Prop) (t : Nat) : Nat → Array Bool → Act → World → Prop
  | 0, l, a, w => Region.ready md ops l = [] ∧ Q .normal a w
  | f + 1, l, a, w => (Region.ready md ops l = [] → Q .normal a w) ∧
    ∀ i ∈ Region.ready md ops l, wpOp P ops Q i (fun a' w' => (i ≠ t → S w' ∧ AnyTo P md ops Q S t f (l.setIfInBounds i true) a' w') ∧ (i = t → AnyBut P md ops Q (fun _ => True) 99 f (l.setIfInBounds i true) a' w')) a w
theorem AnyTo.any : ∀ (f : Nat) (l : Array Bool) (a : Act) (w : World), AnyTo P md ops Q S t f l a w → wpAny P md ops Q f l a w
  | 0, _, _, _, h => h
  | f + 1, _, _, _, h => ⟨h.1, fun i hi => wpOp_mono (fun a' w' hh => by
      rcases Nat.decEq i t with e | e
      · exact AnyTo.any f _ a' w' (hh.1 e).2
      · exact AnyBut.any f _ a' w' (hh.2 e)) (h.2 i hi)⟩
theorem AnyTo.first {i : Nat} {oi : Oper} {v : Value} (hi : ops[i]? = some oi) (hsel : ∀ (j : Nat) (o : Oper) cs b, ops[j]? = some o → o.op ≠ .select cs b)
    (hQ : ∀ c a w, Q (.panic c) (a.put oi.dst v) w → Q (.panic c) a w) (hw : Region.waitsFor md ops t i = true ∨ ops.size ≤ t) (hit : i ≠ t) :
    ∀ (f : Nat) (l : Array Bool) (a : Act) (w : World),
      (∀ j oj, ops[j]? = some oj → j ≠ i → l.getD j true = false → (∀ e ∈ oj.after, Region.binds md e = true → e.on ≠ i) → oi.apart ops oj = true) →
      i ∈ Region.ready md ops l → YieldsIf P ops S oi v a → S w → AnyTo P md ops Q S t f (l.setIfInBounds i true) (a.put oi.dst v) w → AnyTo P md ops Q S t (f + 1) l a w := by
  intro f
  induction f with
  | zero =>
    intro l a w _ hr hy hS H
    refine ⟨fun h0 => by rw [h0] at hr; exact absurd hr (by simp), fun j hj => ?_⟩
    rcases Nat.decEq j i with hji | hji
    · exact absurd (ready_mono hj hji) (by rw [H.1]; simp)
    · subst hji; exact hy.wpOp hi hS ⟨fun _ => ⟨hS, H⟩, fun h => absurd h hit⟩
  | succ f ih =>
    intro l a w hfree hr hy hS H
    refine ⟨fun h0 => by rw [h0] at hr; exact absurd hr (by simp), fun j hj => ?_⟩
    rcases Nat.decEq j i with hji | hji
    rotate_left
    · subst hji; exact hy.wpOp hi hS ⟨fun _ => ⟨hS, H⟩, fun h => absurd h hit⟩
    obtain ⟨hjl, oj, hoj, hall⟩ := mem_ready.1 hj
    have hil := (mem_ready.1 hr).1
    have hnot : ∀ e ∈ oj.after, Region.binds md e = true → e.on ≠ i := by
      intro e he hb heq
      have h1 := hall e he hb
      rw [heq, getD_both hil] at h1
      cases h1
    have hjt : j ≠ t := by
      rintro rfl
      rcases hw with hw | hw
      rotate_left
      · have := (Array.getElem?_eq_some_iff.1 hoj).1
        omega
      obtain ⟨ot, hot, e, he, hb, hon⟩ := Region.waitsFor_spec hw
      have : ot = oj := Option.some.inj (hot.symm.trans hoj)
      subst this
      exact hnot e he hb hon
    have h2 := wpOp_putIf hoj (hfree j oj hoj hji hjl hnot) (fun cs b => hsel i oi cs b hi) (fun cs b => hsel j oj cs b hoj) hQ hy (H.2 j (ready_mono hj hji))
    refine wpOp_mono (fun a' w' hh => ⟨fun _ => ⟨(hh.2.1 hjt).1, ih (l.setIfInBounds j true) a' w' ?_ (ready_mono hr (Ne.symm hji)) hh.1 (hh.2.1 hjt).1 ?_⟩, fun h => absurd h hjt⟩) h2
    · intro k ok hk hki hun hno
      refine hfree k ok hk hki ?_ hno
      rcases Nat.decEq j k with hjk | hjk
      · exact listed_of_set hun (Ne.symm hjk)
      · subst hjk; exact hjl
    · rw [Array.setIfInBounds_comm _ _ hji]
      exact (hh.2.1 hjt).2
theorem AnyTo.take {i : Nat} {oi : Oper} {v : Value} {f : Nat} {l : Array Bool} {a : Act} {w : World} (hi0 : (ops.toList.drop i).head? = some oi) (hs : Region.noSelect ops = true) (hf : Region.free md ops l i = true)
    (hr : (Region.ready md ops l).contains i = true) (hw : Region.waitsFor md ops t i = true) (hit : i ≠ t) (hQ : ∀ c a w, Q (.panic c) (a.put oi.dst v) w → Q (.panic c) a w)
    (hwa : Region.wanted oi (yielded ops a.tmps) = true) (hy : ∀ w, S w → (execOp a.eval oi).run P w = .ok (.value v) w) (hS : S w)
    (h : AnyTo P md ops Q S t f (l.setIfInBounds i true) (a.put oi.dst v) w) : AnyTo P md ops Q S t (f + 1) l a w :=
  have hi := op_at hi0
  AnyTo.first hi (Region.noSelect_spec hs) hQ (.inl hw) hit f l a w (Region.free_spec hi hf) (by simpa using hr) (.inl ⟨hwa, hy⟩) hS h
theorem AnyTo.firstT {i : Nat} {oi : Oper} {v : Value} (hi : ops[i]? = some oi) (hsel : ∀ (j : Nat) (o : Oper) cs b, ops[j]? = some o → o.op ≠ .select cs b)
    (hQ : ∀ c a w, Q (.panic c) (a.put oi.dst v) w → Q (.panic c) a w) (hsz : ops.size ≤ 99) (hit : i ≠ t) :
    ∀ (f : Nat) (l : Array Bool) (a : Act) (w : World),
      (∀ j oj, ops[j]? = some oj → j ≠ i → l.getD j true = false → (∀ e ∈ oj.after, Region.binds md e = true → e.on ≠ i) → oi.apart ops oj = true) →
      i ∈ Region.ready md ops l → YieldsIf P ops (fun _ => True) oi v a → S w → AnyTo P md ops Q S t f (l.setIfInBounds i true) (a.put oi.dst v) w → AnyTo P md ops Q S t (f + 1) l a w := by
  intro f
  induction f with
  | zero =>
    intro l a w _ hr hy hS H
    refine ⟨fun h0 => by rw [h0] at hr; exact absurd hr (by simp), fun j hj => ?_⟩
    rcases Nat.decEq j i with hji | hji
    · exact absurd (ready_mono hj hji) (by rw [H.1]; simp)
    · subst hji; exact hy.wpOp hi trivial ⟨fun _ => ⟨hS, H⟩, fun h => absurd h hit⟩
  | succ f ih =>
    intro l a w hfree hr hy hS H
    refine ⟨fun h0 => by rw [h0] at hr; exact absurd hr (by simp), fun j hj => ?_⟩
    rcases Nat.decEq j i with hji | hji
    rotate_left
    · subst hji; exact hy.wpOp hi trivial ⟨fun _ => ⟨hS, H⟩, fun h => absurd h hit⟩
    obtain ⟨hjl, oj, hoj, hall⟩ := mem_ready.1 hj
    have hil := (mem_ready.1 hr).1
    have hnot : ∀ e ∈ oj.after, Region.binds md e = true → e.on ≠ i := by
      intro e he hb heq
      have h1 := hall e he hb
      rw [heq, getD_both hil] at h1
      cases h1
    have h2 := wpOp_putIf hoj (hfree j oj hoj hji hjl hnot) (fun cs b => hsel i oi cs b hi) (fun cs b => hsel j oj cs b hoj) hQ hy (H.2 j (ready_mono hj hji))
    have hfree2 : ∀ k ok, ops[k]? = some ok → k ≠ i → (l.setIfInBounds j true).getD k true = false → (∀ e ∈ ok.after, Region.binds md e = true → e.on ≠ i) → oi.apart ops ok = true := by
      intro k ok hk hki hun hno
      refine hfree k ok hk hki ?_ hno
      rcases Nat.decEq j k with hjk | hjk
      · exact listed_of_set hun (Ne.symm hjk)
      · subst hjk; exact hjl
    refine wpOp_mono (fun a' w' hh => ⟨fun hjt => ⟨(hh.2.1 hjt).1, ih (l.setIfInBounds j true) a' w' hfree2 (ready_mono hr (Ne.symm hji)) hh.1 (hh.2.1 hjt).1 ?_⟩, fun hjt => ?_⟩) h2
    · rw [Array.setIfInBounds_comm _ _ hji]
      exact (hh.2.1 hjt).2
    · have h3 := hh.2.2 hjt
      rw [Array.setIfInBounds_comm _ _ (Ne.symm hji)] at h3
      exact AnyBut.first hi hsel hQ (.inr hsz) (by intro e; have := (Array.getElem?_eq_some_iff.1 hi).1; omega) f _ a' w' hfree2 (ready_mono hr (Ne.symm hji)) hh.1 trivial h3
theorem AnyTo.takeT {i : Nat} {oi : Oper} {v : Value} {f : Nat} {l : Array Bool} {a : Act} {w : World} (hi0 : (ops.toList.drop i).head? = some oi) (hs : Region.noSelect ops = true) (hf : Region.free md ops l i = true)
    (hr : (Region.ready md ops l).contains i = true) (hsz : Nat.ble ops.size 99 = true) (hit : i ≠ t) (hQ : ∀ c a w, Q (.panic c) (a.put oi.dst v) w → Q (.panic c) a w)
    (hwa : Region.wanted oi (yielded ops a.tmps) = true) (hy : ∀ w, (execOp a.eval oi).run P w = .ok (.value v) w) (hS : S w)
    (h : AnyTo P md ops Q S t f (l.setIfInBounds i true) (a.put oi.dst v) w) : AnyTo P md ops Q S t (f + 1) l a w :=
  have hi := op_at hi0
  AnyTo.firstT hi (Region.noSelect_spec hs) hQ (Nat.le_of_ble_eq_true hsz) hit f l a w (Region.free_spec hi hf) (by simpa using hr) (.inl ⟨hwa, fun w _ => hy w⟩) hS h
theorem AnyTo.one {i : Nat} {o : Oper} {f : Nat} {l : Array Bool} {a : Act} {w : World} (ho0 : (ops.toList.drop i).head? = some o) (hr : Region.ready md ops l = [i]) (hg : o.guard = none) (hit : i ≠ t)
    (h : ∀ K : Act → World → Prop, (∀ a w, S w → (S w → AnyTo P md ops Q S t f (l.setIfInBounds i true) a w) → K a w) → Oper.wp P o a w K Q) : AnyTo P md ops Q S t (f + 1) l a w := by
  have ho := op_at ho0
  refine ⟨fun h0 => (by rw [h0] at hr; cases hr), fun j hj => ?_⟩
  rw [hr] at hj
  have : j = i := by simpa using hj
  subst this
  unfold wpOp
  simp only [ho, Region.wanted, hg, if_true]
  exact .inl (h _ fun a w h1 h2 => ⟨fun _ => ⟨h1, h2 h1⟩, fun e => absurd e hit⟩)
theorem AnyTo.turn {o : Oper} {f : Nat} {l : Array Bool} {a : Act} {w : World} (ho0 : (ops.toList.drop t).head? = some o) (hr : Region.ready md ops l = [t]) (hg : o.guard = none)
    (h : ∀ K : Act → World → Prop, (∀ a w, AnyBut P md ops Q (fun _ => True) 99 f (l.setIfInBounds t true) a w → K a w) → Oper.wp P o a w K Q) : AnyTo P md ops Q S t (f + 1) l a w := by
  have ho := op_at ho0
  refine ⟨fun h0 => (by rw [h0] at hr; cases hr), fun j hj => ?_⟩
  rw [hr] at hj
  have : j = t := by simpa using hj
  subst this
  unfold wpOp
  simp only [ho, Region.wanted, hg, if_true]
  exact .inl (h _ fun a w h1 => ⟨fun e => absurd rfl e, fun _ => h1⟩)
theorem AnyTo.region {id : Nat} {a : Act} {w : World} (n : Nat) (hn : ops.size = n) (hm : P.follows .mixedOrders = true) (hS : S w.drew) (h : S w.drew → AnyTo P .any ops Q S t n (Array.replicate n false) a w.drew) : (Code.region id ops true).wp P Q a w :=
  by subst hn; exact wp_region_any hm (AnyTo.any _ _ _ _ (h hS))
end
end Go.Proofs.YthmhdaefkhcenaaGreatDoor
namespace Go.Proofs.YthmhdaefkhcenaaGreatDoor
set_option maxRecDepth 100000
set_option maxHeartbeats 8000000
open Go.RowKit Go.Lib

theorem append_types {P : Program} {t t2 e e2 : TypeId} (ht : P.underlying t = some (.slice e)) (ht2 : P.underlying t2 = some (.slice e2)) (ty : TypeId) (A : Option Addr) (n c : Nat) (x : Value) (w : World) :
    (Builtin.append_ #[t, t2] ty #[.slice A n c, x]).run P w = (Builtin.append_ #[t, t] ty #[.slice A n c, x]).run P w := by
  simp [Builtin.append_, Sem.run_bind, run_underlying ht, run_underlying ht2, Result.andThen]
theorem run_append_shows {P : Program} (w : World) (base : Nat) (t ty e : TypeId) (i : TypeInfo) (z : Value) (size bytes : Nat) (ht : P.underlying t = some (.slice e)) (hi : P.info? e = some i) (hz : i.zero = some z)
    (hsize : i.size = size) (hby : i.bytes = bytes) (hzs : z.cells.size = size) (hsz : 0 < size) (v : Value) (n : Nat) (xs : List Value) (hown : w.ownsRow base e size v n xs)
    (B : Nat) (A : Option Addr) (m c : Nat) (news : List Value) (hr : Shows w B size A m news) (h1 : ∀ u ∈ news, u.oneCell' = true)
    (h63 : n + m ≤ maxLen) (hbytes : (n + m) * bytes ≤ 140737488355328) (hbase : base ≤ w.heap.size) :
    ∃ v' w', (Builtin.append_ #[t, t] ty #[v, .slice A m c]).run P w = .ok v' w' ∧ w'.ownsRow base e size v' (n + m) (xs ++ news) ∧ w.grownBy w' v.ownBlock := by
  rcases A with _ | ad
  · have hm : m = 0 := by
      rcases Nat.eq_zero_or_pos m with h0 | h0
      · exact h0
      · obtain ⟨_, _, h, _⟩ := hr.2 h0
        cases h
    subst hm
    have hn : news = [] := List.eq_nil_of_length_eq_zero (by simpa using hr.1)
    subst hn
    exact ⟨v, w, run_append_nothing w base t ty e i size ht hi v n xs hown c, by simpa using hown, World.grownBy.refl w _⟩
  · obtain ⟨v', w', hrun, h2, h3, _⟩ := run_append_own_at (P := P) w base t ty e i z size bytes ht hi hz hsize hby hzs hsz v n xs hown ad m c news hr.1 (fun j u hu => by
      have hj : j < news.length := (List.getElem?_eq_some_iff.1 hu).1
      have hm : 0 < m := by
        rcases Nat.eq_zero_or_pos m with h0 | h0
        · have := hr.1; subst h0; simp at this; subst this; simp at hj
        · exact h0
      obtain ⟨b, off, he, _, hc⟩ := hr.2 hm
      injection he with he
      subst he
      rw [addr_add, hc j hj, List.getD, hu]; rfl) h1 h63 hbytes hbase
    exact ⟨v', w', hrun, h2, h3⟩
theorem wpList_append_shows2 {P : Program} (w : World) {ops : Array Oper} {rest : List Oper} {o : Oper} {a : Act} {Q : Exit → Act → World → Prop} (hgd : o.guard = none) (s x : Operand) (t t2 : TypeId)
    (ho : o.op = .call { callee := .builtin .append, args := #[s, x], argTypes := #[t, t2] })
    (base : Nat) (e e2 : TypeId) (i : TypeInfo) (z : Value) (size bytes : Nat) (ht : P.underlying t = some (.slice e)) (ht2 : P.underlying t2 = some (.slice e2)) (hi : P.info? e = some i) (hz : i.zero = some z)
    (hsize : i.size = size) (hby : i.bytes = bytes) (hzs : z.cells.size = size) (hsz : 0 < size)
    (A0 : Option Addr) (n c0 : Nat) (xs : List Value) (hs : a.eval s = .slice A0 n c0) (hown : w.ownsRow base e size (.slice A0 n c0) n xs)
    (B : Nat) (A : Option Addr) (m c : Nat) (news : List Value) (hx : a.eval x = .slice A m c) (hr : Shows w B size A m news) (h1 : ∀ u ∈ news, u.oneCell' = true)
    (h63 : n + m ≤ maxLen) (hbytes : (n + m) * bytes ≤ 140737488355328) (hbase : base ≤ w.heap.size)
    (h : ∀ A' c' w', w'.ownsRow base e size (.slice A' (n + m) c') (n + m) (xs ++ news) → w.grownBy w' (Value.slice A0 n c0).ownBlock → wpList P ops Q rest (a.put o.dst (.slice A' (n + m) c')) w') : wpList P ops Q (o :: rest) a w := by
  refine wpList_plain hgd fun K hK => ?_
  obtain ⟨v', w', hrun, h2, h3⟩ := run_append_shows (P := P) w base t o.type e i z size bytes ht hi hz hsize hby hzs hsz (.slice A0 n c0) n xs hown B A m c news hr h1 h63 hbytes hbase
  obtain ⟨A', c', e1, _⟩ := own_form h2
  subst e1
  rw [← append_types ht ht2] at hrun
  unfold Oper.wp execOp
  simp only [ho, resolve, invoke, builtin, Sem.run_bind, Sem.run_pure, Result.andThen_ok, List.map_toArray, List.map_cons, List.map_nil, hs, hx, hrun]
  exact hK _ _ (h _ _ _ h2 h3)
theorem clone_b (a : Addr) (n c B : Nat) (xs : List Int) (w : World) (hs : Shows w B 1 (some a) n (U8 xs)) (hB : B ≤ w.heap.size) (h0 : 0 < n) (hn : n ≤ 1000000) :
    Calls Tryz.prog 89 #[.slice (some a) n c] w fun e w' => ∃ A' c', e = .returned (.slice A' n c') ∧ w'.ownsRow w.heap.size 5 1 (.slice A' n c') n (U8 xs) ∧ Below w.heap.size w w' := by
  obtain ⟨i0, hi, hz0, hz1, hz2⟩ := info_parts infoU8
  have hq : ∀ w, (binOp .eql 71 (.slice (some a) n c) (.slice none 0 0)).run Tryz.prog w = .ok (.bool false) w := fun _ => by kernel_rfl
  go_enter Tryz.func89, Tryz.ntmps89
  go_wp2_with (at_builtin; refine wpList_append_shows _ rfl _ _ 71 rfl w.heap.size 5 i0 (.int .u8 0) 1 1 Tryz.underlying71 hi hz0 hz1 hz2 rfl (by decide) (.slice (some ⟨w.heap.size, 0, none⟩) 0 0) 0 [] rfl (own_zero (J := #[]) (k := 0) (heap_alloc_new w _) (Nat.le_refl _) rfl (by simp)) B (some a) n c (U8 xs) rfl (hs.alloc hB _) (nums_one .u8 xs) (by unfold maxLen; omega) (by omega) (by simp) ?_; intro A3 c3 w3 O3 G3)
  rw [Nat.zero_add] at O3
  go_wp2_with fail
  go_returns
  exact ⟨A3, c3, by first | rfl | simp, by simpa using O3, Below.grown (Below.alloc (Below.refl _ _) (Nat.le_refl _) _) G3 (by simp) (fun k hk => by simp [Value.ownBlock] at hk; omega)⟩
theorem clone_b0 (w : World) : Calls Tryz.prog 89 #[.slice none 0 0] w fun e w' => e = .returned (.slice none 0 0) ∧ Below w.heap.size w w' := by
  have hq : ∀ w, (binOp .eql 71 (.slice none 0 0) (.slice none 0 0)).run Tryz.prog w = .ok (.bool true) w := fun _ => by kernel_rfl
  go_enter Tryz.func89, Tryz.ntmps89
  go_wp2
  go_returns
  exact ⟨rfl, by exact sBel⟩
theorem loose0 (f : Nat) (sv : Value) (w : World) (hF : Block w f 131 [sv, .slice none 0 0]) : Calls Tryz.prog 25 #[.pointer (some ⟨f, 0, none⟩)] w fun e w' => e = .returned (.int .i64 0) ∧ Below w.heap.size w w' := by
  obtain ⟨kl, kf, k0, k1⟩ := hF.c2
  go_enter Tryz.func25, Tryz.ntmps25
  go_wp2
  (repeat (first | (rw [rounds_succ]; go_wp2) | (refine wp_loop_rounds 1 ?_; rw [rounds_succ]; go_wp2) | (go_quiet (fail); go_wp2)))
  exact ret_t rfl rfl rfl ⟨rfl, by exact sBel⟩
theorem loose1 (f lb lc n c : Nat) (A : Option Addr) (sv : Value) (w : World) (hn : n ≤ 1000000) (hF : Block w f 131 [sv, .slice (some ⟨lb, 0, none⟩) 1 lc]) (hL : Has w lb [.iface 202 (.slice A n c)]) : Calls Tryz.prog 25 #[.pointer (some ⟨f, 0, none⟩)] w fun e w' => e = .returned (.int .i64 n) ∧ Below w.heap.size w w' := by
  obtain ⟨kl, kf, k0, k1⟩ := hF.c2
  have ll := hL.lt; have l0 := hL.cell (j := 0) rfl
  go_enter Tryz.func25, Tryz.ntmps25
  go_wp2
  (repeat (first | (rw [rounds_succ]; go_wp2) | (refine wp_loop_rounds 2 ?_; rw [rounds_succ]; go_wp2) | (go_quiet (fail); go_wp2)))
  exact ret_t rfl rfl rfl ⟨rfl, by exact sBel⟩
def SafeV (w : World) (B : Nat) (sv : Value) (xs : List Int) : Prop := (sv = .slice none 0 0 ∧ xs = []) ∨ ∃ a c, sv = .slice (some a) xs.length c ∧ 0 < xs.length ∧ Shows w B 1 (some a) xs.length (U8 xs)
theorem SafeV.call {w w' : World} {B : Nat} {sv : Value} {xs : List Int} (h : SafeV w B sv xs) (hb : Below w.heap.size w w') (hB : B ≤ w.heap.size) : SafeV w' B sv xs := by
  rcases h with h | ⟨a, c, h1, h2, h3⟩
  · exact .inl h
  · exact .inr ⟨a, c, h1, h2, h3.call hb hB⟩
theorem SafeV.alloc {w : World} {B : Nat} {sv : Value} {xs : List Int} (h : SafeV w B sv xs) (hB : B ≤ w.heap.size) (o : Obj) : SafeV (w.alloc o) B sv xs := by
  rcases h with h | ⟨a, c, h1, h2, h3⟩
  · exact .inl h
  · exact .inr ⟨a, c, h1, h2, h3.alloc hB o⟩
theorem clone_safe (B : Nat) (sv : Value) (xs : List Int) (w : World) (h : SafeV w B sv xs) (hB : B ≤ w.heap.size) (hn : xs.length ≤ 1000000) :
    Calls Tryz.prog 89 #[sv] w fun e w' => ∃ A' c', e = .returned (.slice A' xs.length c') ∧ w'.ownsRow w.heap.size 5 1 (.slice A' xs.length c') xs.length (U8 xs) ∧ Below w.heap.size w w' := by
  rcases h with ⟨rfl, rfl⟩ | ⟨a, c, rfl, h2, h3⟩
  · refine (clone_b0 w).mono ?_
    rintro e w' ⟨rfl, hb⟩
    exact ⟨none, 0, rfl, own_nil, hb⟩
  · exact clone_b a xs.length c B xs w h3 hB h2 hn
theorem after0 (f B : Nat) (u : Int) (sv : Value) (xs : List Int) (w : World) (hF : Block w f 131 [sv, .slice none 0 0]) (hS : SafeV w B sv xs) (hB : B ≤ w.heap.size) (hn : xs.length ≤ 1000000) :
    Calls Tryz.prog 55 #[.pointer (some ⟨f, 0, none⟩), .int .i64 u] w fun e w' => ∃ A' c', e = .returned (.slice A' xs.length c') ∧ w'.ownsRow w.heap.size 5 1 (.slice A' xs.length c') xs.length (U8 xs) ∧ Below w.heap.size w w' := by
  have F0 := hF
  obtain ⟨kl, kf, k0, k1⟩ := F0.c2
  go_enter Tryz.func55, Tryz.ntmps55
  go_wp2_with fail
  refine (clone_safe B sv xs w hS hB hn).mono ?_
  rintro e w1 ⟨A, c, rfl, O1, hb1⟩
  have F1 := hF.call hb1
  clear k0 k1 kl kf F0
  obtain ⟨kl, kf, k0, k1⟩ := F1.c2
  go_wp2_with fail
  refine wp_loop_rounds 1 ?_
  rw [rounds_succ]
  go_wp2_with fail
  exact ret_t rfl rfl rfl ⟨A, c, rfl, O1, hb1⟩
theorem ta_more (v : Value) (w : World) : (Instr.typeAssert (.iface 202 v) 133 202 true).run Tryz.prog w = .ok (.tuple #[v, .bool true]) w := by kernel_rfl
theorem after1 (f B lb lc n c : Nat) (A : Option Addr) (sv : Value) (xs ys : List Int) (w : World) (hF : Block w f 131 [sv, .slice (some ⟨lb, 0, none⟩) 1 lc]) (hL : Has w lb [.iface 202 (.slice A n c)]) (hS : SafeV w B sv xs) (hY : Shows w B 1 A n (U8 ys)) (hnc : n ≤ c) (h0 : 0 < n) (hB : B ≤ w.heap.size) (hn : xs.length + n ≤ 1000000) :
    Calls Tryz.prog 55 #[.pointer (some ⟨f, 0, none⟩), .int .i64 n] w fun e w' => ∃ A' c', e = .returned (.slice A' (xs.length + n) c') ∧ w'.ownsRow w.heap.size 5 1 (.slice A' (xs.length + n) c') (xs.length + n) (U8 (xs ++ ys)) ∧ Below w.heap.size w w' := by
  obtain ⟨i0, hi, hz0, hz1, hz2⟩ := info_parts infoU8
  have hta := ta_more
  have q1 : ¬ (n : Int) ≤ 0 := by omega
  have hcut := fun w => cut_to (P := Tryz.prog) (T := 202) (E := 5) 1 Tryz.underlying202 size_u8 A n c n hnc w
  have F0 := hF
  obtain ⟨kl, kf, k0, k1⟩ := F0.c2
  go_enter Tryz.func55, Tryz.ntmps55
  go_wp2_with fail
  refine (clone_safe B sv xs w hS hB (by omega)).mono ?_
  rintro e w1 ⟨A1, c1, rfl, O1, hb1⟩
  have F1 := hF.call hb1
  have L1 := hL.call hb1
  have Y1 := hY.call hb1 hB
  clear k0 k1 kl kf F0
  obtain ⟨kl, kf, k0, k1⟩ := F1.c2
  have ll := L1.lt; have l0 := L1.cell (j := 0) rfl
  go_wp2_with fail
  refine wp_loop_rounds 2 ?_
  rw [rounds_succ]
  go_wp2_with (at_builtin; refine wpList_append_shows2 _ rfl _ _ 71 202 rfl w.heap.size 5 5 i0 (.int .u8 0) 1 1 Tryz.underlying71 Tryz.underlying202 hi hz0 hz1 hz2 rfl (by decide) A1 xs.length c1 (U8 xs) rfl O1 B A n c (U8 ys) rfl Y1 (nums_one .u8 ys) (by unfold maxLen; omega) (by omega) hb1.size ?_; intro A3 c3 w3 O3 G3)
  go_wp2
  rw [rounds_succ]
  go_wp2_with fail
  exact ret_t rfl rfl rfl ⟨A3, c3, rfl, by simpa [U8] using O3, hb1.grown G3 hb1.size (fun k hk => (O1.lt k hk).1)⟩
theorem bytes0 (f B : Nat) (sv : Value) (xs : List Int) (w : World) (hF : Block w f 131 [sv, .slice none 0 0]) (hS : SafeV w B sv xs) (hB : B ≤ w.heap.size) (hn : xs.length ≤ 1000000) :
    Calls Tryz.prog 86 #[.pointer (some ⟨f, 0, none⟩)] w fun e w' => ∃ A' c', e = .returned (.slice A' xs.length c') ∧ w'.ownsRow w.heap.size 5 1 (.slice A' xs.length c') xs.length (U8 xs) ∧ Below w.heap.size w w' := by
  go_enter Tryz.func86, Tryz.ntmps86
  go_wp2_with fail
  refine (loose0 f sv w hF).mono ?_
  rintro e w1 ⟨rfl, hb1⟩
  go_wp2_with fail
  refine (after0 f B 0 sv xs w1 (hF.call hb1) (hS.call hb1 hB) (Nat.le_trans hB hb1.size) hn).mono ?_
  rintro e w2 ⟨A, c, rfl, O2, hb2⟩
  go_wp2_with fail
  exact ret_t rfl rfl rfl ⟨A, c, rfl, own_base O2 hb1.size, bel_call hb1 hb2⟩
theorem bytes1 (f B lb lc n c : Nat) (A : Option Addr) (sv : Value) (xs ys : List Int) (w : World) (hF : Block w f 131 [sv, .slice (some ⟨lb, 0, none⟩) 1 lc]) (hL : Has w lb [.iface 202 (.slice A n c)]) (hS : SafeV w B sv xs) (hY : Shows w B 1 A n (U8 ys)) (hnc : n ≤ c) (h0 : 0 < n) (hB : B ≤ w.heap.size) (hn : xs.length + n ≤ 1000000) :
    Calls Tryz.prog 86 #[.pointer (some ⟨f, 0, none⟩)] w fun e w' => ∃ A' c', e = .returned (.slice A' (xs.length + n) c') ∧ w'.ownsRow w.heap.size 5 1 (.slice A' (xs.length + n) c') (xs.length + n) (U8 (xs ++ ys)) ∧ Below w.heap.size w w' := by
  go_enter Tryz.func86, Tryz.ntmps86
  go_wp2_with fail
  refine (loose1 f lb lc n c A sv w (by omega) hF hL).mono ?_
  rintro e w1 ⟨rfl, hb1⟩
  go_wp2_with fail
  refine (after1 f B lb lc n c A sv xs ys w1 (hF.call hb1) (hL.call hb1) (hS.call hb1 hB) (hY.call hb1 hB) hnc h0 (Nat.le_trans hB hb1.size) hn).mono ?_
  rintro e w2 ⟨A2, c2, rfl, O2, hb2⟩
  go_wp2_with fail
  exact ret_t rfl rfl rfl ⟨A2, c2, rfl, own_base O2 hb1.size, bel_call hb1 hb2⟩
theorem settle0 (f B : Nat) (u : Int) (sv : Value) (xs : List Int) (w : World) (hF : Block w f 131 [sv, .slice none 0 0]) (hS : SafeV w B sv xs) (hB : B ≤ w.heap.size) (hn : xs.length ≤ 1000000) :
    Calls Tryz.prog 26 #[.pointer (some ⟨f, 0, none⟩), .int .i64 u] w fun e w' => ∃ A' c', e = .returned (.tuple #[]) ∧ Block w' f 131 [.slice A' xs.length c', .slice none 0 0] ∧ w'.ownsRow w.heap.size 5 1 (.slice A' xs.length c') xs.length (U8 xs) ∧ Kept [f] w w' := by
  have fl := hF.lt
  go_enter Tryz.func26, Tryz.ntmps26
  go_wp2_with fail
  refine (after0 f B u sv xs w hF hS hB hn).mono ?_
  rintro e w1 ⟨A, c, rfl, O1, hb1⟩
  have F1 := hF.call hb1
  have F2 := F1
  obtain ⟨kl, kf, k0, k1⟩ := F2.c2
  go_wp2_with fail
  go_end0
  exact ⟨A, c, rfl, (F1.set 0 _).set 1 _, own_far (own_far O1 (by simpa using fl) _) (by simpa using fl) _, ((Kept.of_below hb1).set (by simp) _).set (by simp) _⟩
theorem settle1 (f B lb lc n c : Nat) (A : Option Addr) (sv : Value) (xs ys : List Int) (w : World) (hF : Block w f 131 [sv, .slice (some ⟨lb, 0, none⟩) 1 lc]) (hL : Has w lb [.iface 202 (.slice A n c)]) (hS : SafeV w B sv xs) (hY : Shows w B 1 A n (U8 ys)) (hnc : n ≤ c) (h0 : 0 < n) (hB : B ≤ w.heap.size) (hn : xs.length + n ≤ 1000000) :
    Calls Tryz.prog 26 #[.pointer (some ⟨f, 0, none⟩), .int .i64 n] w fun e w' => ∃ A' c', e = .returned (.tuple #[]) ∧ Block w' f 131 [.slice A' (xs.length + n) c', .slice none 0 0] ∧ w'.ownsRow w.heap.size 5 1 (.slice A' (xs.length + n) c') (xs.length + n) (U8 (xs ++ ys)) ∧ Kept [f] w w' := by
  have fl := hF.lt
  go_enter Tryz.func26, Tryz.ntmps26
  go_wp2_with fail
  refine (after1 f B lb lc n c A sv xs ys w hF hL hS hY hnc h0 hB hn).mono ?_
  rintro e w1 ⟨A1, c1, rfl, O1, hb1⟩
  have F1 := hF.call hb1
  have F2 := F1
  obtain ⟨kl, kf, k0, k1⟩ := F2.c2
  go_wp2_with fail
  go_end0
  exact ⟨A1, c1, rfl, (F1.set 0 _).set 1 _, own_far (own_far O1 (by simpa using fl) _) (by simpa using fl) _, ((Kept.of_below hb1).set (by simp) _).set (by simp) _⟩
end Go.Proofs.YthmhdaefkhcenaaGreatDoor
namespace Go.Proofs.YthmhdaefkhcenaaGreatDoor
set_option maxRecDepth 100000
set_option maxHeartbeats 8000000
open Go.RowKit Go.Lib

theorem diskp_ne (d : Nat) (w : World) : (binOp .eql 24 (.pointer (some ⟨d, 0, none⟩)) (.pointer none)).run Tryz.prog w = .ok (.bool false) w := by kernel_rfl
theorem mapd_ne (m : Nat) (w : World) : (binOp .eql 63 (.map (some m)) (.map none)).run Tryz.prog w = .ok (.bool false) w := by kernel_rfl
theorem none_disk (d m : Nat) (a b c : Value) (w : World) (hD : Block w d 70 [.map (some m), a, b, c]) : Calls Tryz.prog 23 #[.pointer (some ⟨d, 0, none⟩)] w fun e w' => e = .returned (.bool false) ∧ Below w.heap.size w w' := by
  have h1 := diskp_ne d
  have h2 := mapd_ne m
  obtain ⟨kl, kf, k0, k1, k2, k3⟩ := hD.c4
  go_enter Tryz.func23, Tryz.ntmps23
  go_wp2
  go_returns
  exact ⟨rfl, by exact sBel⟩
theorem down_disk (d m : Nat) (a b : Value) (x : Bool) (w : World) (hD : Block w d 70 [.map (some m), a, b, .bool x]) : Calls Tryz.prog 84 #[.pointer (some ⟨d, 0, none⟩)] w fun e w' => e = .returned (.int .i64 (if x then 10 else 0)) ∧ Below w.heap.size w w' := by
  go_enter Tryz.func84, Tryz.ntmps84
  go_wp2_with fail
  refine (none_disk d m _ _ _ w hD).mono ?_
  rintro e w1 ⟨rfl, hb1⟩
  have D1 := hD.call hb1
  obtain ⟨kl, kf, k0, k1, k2, k3⟩ := D1.c4
  cases x
  · go_wp2_with fail
    exact ret_t rfl rfl rfl ⟨rfl, by exact sBel⟩
  · go_wp2_with fail
    exact ret_t rfl rfl rfl ⟨rfl, by exact sBel⟩
theorem new_disk (w : World) : Calls Tryz.prog 5 #[] w fun e w' => ∃ d m, e = .returned (.pointer (some ⟨d, 0, none⟩)) ∧ w.heap.size ≤ d ∧ w.heap.size ≤ m ∧ d ≠ m ∧ Block w' d 70 [.map (some m), .int .i64 0, .int .i64 (-1), .bool false] ∧ MapAt w' m [] 0 ∧ Below w.heap.size w w' := by
  have hmm := @run_makeMap Tryz.prog
  go_enter Tryz.func5, Tryz.ntmps5
  go_wp2
  go_returns
  exact ⟨w.heap.size + 1, w.heap.size, rfl, by omega, by omega, by omega, by exact sBlk, by exact sMapf, by exact sBel⟩
end Go.Proofs.YthmhdaefkhcenaaGreatDoor
namespace Go.Proofs.YthmhdaefkhcenaaGreatDoor
set_option maxRecDepth 100000
set_option maxHeartbeats 8000000
open Go.RowKit Go.Lib Go.MapKept

section
variable {P : Program} {w : World} {r : Nat} {es : List MapEntry} {clock : Nat} {t K E : TypeId} {key : Value}
theorem upd_same {i : Nat} {v val : Value} (h : MapAt w r es clock) (hu : P.underlying t = some (.map K E)) (hc : ∀ w, (Instr.checkKey false 10000 K key).run P w = .ok () w) (hf : ∀ w, (Instr.findKey K key es).run P w = .ok (some (i, v)) w)
    (hk : ∀ w, (Instr.keyThatStays (((es.toArray[i]?).map (·.key)).getD key) key).run P w = .ok key w) (he : es.toArray.modify i (fun e => { e with key := key, val := val }) = es.toArray) :
    ∃ w', (Instr.mapUpdate t (.map (some r)) key val).run P w = .ok () w' ∧ MapAt w' r es clock ∧ w.grownBy w' (some r) := by
  have hl := h.lt
  refine ⟨{ w with heap := w.heap.setIfInBounds r (.map es.toArray clock) }, ?_, ?_, grown_put w r _⟩
  · simp only [Instr.mapUpdate, Sem.run_bind, run_underlying hu, Result.andThen, get_map h, hc, hf, hk, he, put_map h]
  · unfold MapAt
    show (w.heap.setIfInBounds r _)[r]? = _
    rw [Array.getElem?_setIfInBounds_self_of_lt hl]
theorem del_at {i : Nat} {v : Value} {tk ty : TypeId} (h : MapAt w r es clock) (hu : P.underlying t = some (.map K E)) (hc : ∀ w, (Instr.checkKey es.isEmpty 10000 K key).run P w = .ok () w) (hf : ∀ w, (Instr.findKey K key es).run P w = .ok (some (i, v)) w) :
    ∃ w', (Builtin.delete_ #[t, tk] ty #[.map (some r), key]).run P w = .ok (.tuple #[]) w' ∧ MapAt w' r (es.eraseIdx i) clock ∧ w.grownBy w' (some r) := by
  have hl := h.lt
  refine ⟨{ w with heap := w.heap.setIfInBounds r (.map (es.toArray.eraseIdxIfInBounds i) clock) }, ?_, ?_, grown_put w r _⟩
  · simp [Builtin.delete_, Sem.run_bind, run_underlying hu, Result.andThen, get_map h, hc, hf, put_map h]
  · unfold MapAt
    show (w.heap.setIfInBounds r _)[r]? = _
    rw [Array.getElem?_setIfInBounds_self_of_lt hl]
    simp
theorem op_delete {o : Oper} {a : Act} {Q : Exit → Act → World → Prop} {K : Act → World → Prop} {m x : Operand} {tk : TypeId} {mv xv : Value} (F : World → Prop) (hop : o.op = .call { callee := .builtin .delete, args := #[m, x], argTypes := #[t, tk] }) (hm : a.eval m = mv) (hx : a.eval x = xv)
    (hrun : ∃ w', (Builtin.delete_ #[t, tk] o.type #[mv, xv]).run P w = .ok (.tuple #[]) w' ∧ F w') (h : ∀ w', F w' → K (a.put o.dst (.tuple #[])) w') : Oper.wp P o a w K Q := by
  obtain ⟨w', hr, hF⟩ := hrun
  unfold Oper.wp execOp
  simp only [hop, resolve, invoke, builtin, Sem.run_bind, Sem.run_pure, Result.andThen_ok, List.map_toArray, List.map_cons, List.map_nil, hm, hx, hr]
  exact h w' hF
end
theorem ck_str (s : ByteArray) (b : Bool) (w : World) : (Instr.checkKey b 10000 9 (.string s)).run Tryz.prog w = .ok () w := run_checkKey (n := 9999) Tryz.underlying9 (by simp [IsKey]) b
theorem zero_file (w : World) : (zeroValue 92).run Tryz.prog w = .ok (.pointer none) w := by kernel_rfl
def fE (s : Value) (f b : Nat) : MapEntry := mEnt s (.pointer (some ⟨f, 0, none⟩)) b
def fs1 (f : Nat) : List MapEntry := [fE (.string ⟨#[108, 111, 103]⟩) f 0]
def fs2 (f g : Nat) : List MapEntry := [fE (.string ⟨#[108, 111, 103]⟩) f 0, fE (.string ⟨#[99, 111, 110, 102, 105, 103, 46, 116, 109, 112]⟩) g 1]
def fs3 (f g : Nat) : List MapEntry := [fE (.string ⟨#[108, 111, 103]⟩) f 0, fE (.string ⟨#[99, 111, 110, 102, 105, 103]⟩) g 2]
theorem file_hit {w : World} {m i f cl : Nat} {es : List MapEntry} {s : ByteArray} (h : MapAt w m es cl) (hf : Instr.findNow .string (.string s) es 0 = some (some (i, .pointer (some ⟨f, 0, none⟩)))) : (Instr.lookup 63 (.map (some m)) (.string s) false).run Tryz.prog w = .ok (.pointer (some ⟨f, 0, none⟩)) w :=
  look_hit1 h Tryz.underlying63 (ck_str s _) (fun _ => run_findKey Tryz.underlying9 hf)
theorem file_miss {w : World} {m cl : Nat} {es : List MapEntry} {s : ByteArray} (h : MapAt w m es cl) (hf : Instr.findNow .string (.string s) es 0 = some none) : (Instr.lookup 63 (.map (some m)) (.string s) false).run Tryz.prog w = .ok (.pointer none) w :=
  look_miss1 h Tryz.underlying63 (ck_str s _) (fun _ => run_findKey Tryz.underlying9 hf) zero_file
theorem find0 (s : ByteArray) : Instr.findNow .string (.string s) [] 0 = some none := rfl
theorem find1_log (f : Nat) : Instr.findNow .string (.string ⟨#[108, 111, 103]⟩) (fs1 f) 0 = some (some (0, .pointer (some ⟨f, 0, none⟩))) := by kernel_rfl
theorem find1_tmp (f : Nat) : Instr.findNow .string (.string ⟨#[99, 111, 110, 102, 105, 103, 46, 116, 109, 112]⟩) (fs1 f) 0 = some none := by kernel_rfl
theorem find1_cfg (f : Nat) : Instr.findNow .string (.string ⟨#[99, 111, 110, 102, 105, 103]⟩) (fs1 f) 0 = some none := by kernel_rfl
theorem find2_tmp (f g : Nat) : Instr.findNow .string (.string ⟨#[99, 111, 110, 102, 105, 103, 46, 116, 109, 112]⟩) (fs2 f g) 0 = some (some (1, .pointer (some ⟨g, 0, none⟩))) := by kernel_rfl
theorem find3_log (f g : Nat) : Instr.findNow .string (.string ⟨#[108, 111, 103]⟩) (fs3 f g) 0 = some (some (0, .pointer (some ⟨f, 0, none⟩))) := by kernel_rfl
theorem find3_tmp (f g : Nat) : Instr.findNow .string (.string ⟨#[99, 111, 110, 102, 105, 103, 46, 116, 109, 112]⟩) (fs3 f g) 0 = some none := by kernel_rfl
theorem find3_cfg (f g : Nat) : Instr.findNow .string (.string ⟨#[99, 111, 110, 102, 105, 103]⟩) (fs3 f g) 0 = some (some (1, .pointer (some ⟨g, 0, none⟩))) := by kernel_rfl
theorem filep_ne (f : Nat) (w : World) : (binOp .eql 92 (.pointer (some ⟨f, 0, none⟩)) (.pointer none)).run Tryz.prog w = .ok (.bool false) w := by kernel_rfl
theorem filep_nil (w : World) : (binOp .eql 92 (.pointer none) (.pointer none)).run Tryz.prog w = .ok (.bool true) w := by kernel_rfl
theorem named_log (w : World) : Calls Tryz.prog 85 #[(.string ⟨#[108, 111, 103]⟩)] w fun e w' => e = .returned (.bool true) ∧ Below w.heap.size w w' := by
  go_enter Tryz.func85, Tryz.ntmps85
  go_wp2
  (repeat (first | (rw [rounds_succ]; go_wp2) | (refine wp_loop_rounds 4 ?_; rw [rounds_succ]; go_wp2) | (go_quiet (fail); go_wp2)))
  exact ret_t rfl rfl rfl ⟨rfl, by exact sBel⟩
theorem named_cfg (w : World) : Calls Tryz.prog 85 #[(.string ⟨#[99, 111, 110, 102, 105, 103]⟩)] w fun e w' => e = .returned (.bool true) ∧ Below w.heap.size w w' := by
  go_enter Tryz.func85, Tryz.ntmps85
  go_wp2
  (repeat (first | (rw [rounds_succ]; go_wp2) | (refine wp_loop_rounds 7 ?_; rw [rounds_succ]; go_wp2) | (go_quiet (fail); go_wp2)))
  exact ret_t rfl rfl rfl ⟨rfl, by exact sBel⟩
theorem named_tmp (w : World) : Calls Tryz.prog 85 #[(.string ⟨#[99, 111, 110, 102, 105, 103, 46, 116, 109, 112]⟩)] w fun e w' => e = .returned (.bool true) ∧ Below w.heap.size w w' := by
  go_enter Tryz.func85, Tryz.ntmps85
  go_wp2
  (repeat (first | (rw [rounds_succ]; go_wp2) | (refine wp_loop_rounds 11 ?_; rw [rounds_succ]; go_wp2) | (go_quiet (fail); go_wp2)))
  exact ret_t rfl rfl rfl ⟨rfl, by exact sBel⟩
theorem open_hit (d md f i cl : Nat) (st : Int) (es : List MapEntry) (s : ByteArray) (w : World) (hD : Block w d 70 [.map (some md), .int .i64 st, .int .i64 (-1), .bool false]) (hM : MapAt w md es cl) (hf : Instr.findNow .string (.string s) es 0 = some (some (i, .pointer (some ⟨f, 0, none⟩)))) :
    Calls Tryz.prog 90 #[.pointer (some ⟨d, 0, none⟩), .string s] w fun e w' => e = .returned (.tuple #[.pointer (some ⟨f, 0, none⟩), .int .i64 0]) ∧ Below w.heap.size w w' := by
  have h1 := filep_ne f
  go_enter Tryz.func90, Tryz.ntmps90
  go_wp2_with fail
  refine (down_disk d md _ _ false w hD).mono ?_
  rintro e w1 ⟨rfl, hb1⟩
  have D1 := hD.call hb1
  have hlk := file_hit (hM.call hb1) hf
  obtain ⟨kl, kf, k0, k1, k2, k3⟩ := D1.c4
  go_wp2_with fail
  go_returns
  exact ⟨by first | rfl | simp, hb1⟩
theorem open_miss (d md cl : Nat) (st : Int) (es : List MapEntry) (s : ByteArray) (w : World) (hD : Block w d 70 [.map (some md), .int .i64 st, .int .i64 (-1), .bool false]) (hM : MapAt w md es cl) (hf : Instr.findNow .string (.string s) es 0 = some none) :
    Calls Tryz.prog 90 #[.pointer (some ⟨d, 0, none⟩), .string s] w fun e w' => e = .returned (.tuple #[.pointer none, .int .i64 6]) ∧ Below w.heap.size w w' := by
  have h1 := filep_nil
  go_enter Tryz.func90, Tryz.ntmps90
  go_wp2_with fail
  refine (down_disk d md _ _ false w hD).mono ?_
  rintro e w1 ⟨rfl, hb1⟩
  have D1 := hD.call hb1
  have hlk := file_miss (hM.call hb1) hf
  obtain ⟨kl, kf, k0, k1, k2, k3⟩ := D1.c4
  go_wp2_with fail
  go_returns
  exact ⟨by first | rfl | simp, hb1⟩
theorem read_miss (d md cl : Nat) (st : Int) (es : List MapEntry) (s : ByteArray) (w : World) (hD : Block w d 70 [.map (some md), .int .i64 st, .int .i64 (-1), .bool false]) (hM : MapAt w md es cl) (hf : Instr.findNow .string (.string s) es 0 = some none) :
    Calls Tryz.prog 56 #[.pointer (some ⟨d, 0, none⟩), .string s] w fun e w' => e = .returned (.tuple #[.slice none 0 0, .int .i64 6]) ∧ Below w.heap.size w w' := by
  go_enter Tryz.func56, Tryz.ntmps56
  go_wp2_with fail
  refine (open_miss d md cl st es s w hD hM hf).mono ?_
  rintro e w1 ⟨rfl, hb1⟩
  go_wp2_with fail
  go_returns
  exact ⟨by first | rfl | simp, hb1⟩
theorem read_hit (d md f i cl B : Nat) (st : Int) (es : List MapEntry) (s : ByteArray) (sv : Value) (xs : List Int) (w : World) (hD : Block w d 70 [.map (some md), .int .i64 st, .int .i64 (-1), .bool false]) (hM : MapAt w md es cl) (hf : Instr.findNow .string (.string s) es 0 = some (some (i, .pointer (some ⟨f, 0, none⟩))))
    (hF : Block w f 131 [sv, .slice none 0 0]) (hS : SafeV w B sv xs) (hB : B ≤ w.heap.size) (hn : xs.length ≤ 1000000) :
    Calls Tryz.prog 56 #[.pointer (some ⟨d, 0, none⟩), .string s] w fun e w' => ∃ A' c', e = .returned (.tuple #[.slice A' xs.length c', .int .i64 0]) ∧ w'.ownsRow w.heap.size 5 1 (.slice A' xs.length c') xs.length (U8 xs) ∧ Below w.heap.size w w' := by
  go_enter Tryz.func56, Tryz.ntmps56
  go_wp2_with fail
  refine (open_hit d md f i cl st es s w hD hM hf).mono ?_
  rintro e w1 ⟨rfl, hb1⟩
  go_wp2_with fail
  refine (bytes0 f B sv xs w1 (hF.call hb1) (hS.call hb1 hB) (Nat.le_trans hB hb1.size) hn).mono ?_
  rintro e w2 ⟨A, c, rfl, O2, hb2⟩
  go_wp2_with fail
  go_returns
  exact ⟨A, c, by first | rfl | simp, own_base O2 hb1.size, bel_call hb1 hb2⟩
end Go.Proofs.YthmhdaefkhcenaaGreatDoor
