/- Rows of rules: as this proof's own words have them, and as the sort's. -/
import Derived.Test.YtiomkbpniplfhaaMatLaw
import Derived.Test.YtiomkbpniplfhaaOpenSix
import Derived.Test.YtiomkbpniplfhaaSrtStable
import Derived.Deep.RegionHeld3
namespace Go.Proofs.Ytiomkbpniplfhaa
open Go.Shelf Go.RowKit Go.Sort

theorem grown_of_below {w w' : World} (h : Below w.heap.size w w') (row : Option Nat) : w.grownBy w' row := ⟨h.os, h.tape, h.output, h.size, fun k hk _ => h.block k hk⟩
theorem grown_set {w a : World} {g : Nat} (h : w.grownBy a (some g)) (p : Addr) (hp : p.block = g) (u : Value) : w.grownBy (a.setCell p u) (some g) :=
  ⟨h.os, h.tape, h.output, by simpa [World.setCell] using h.size, fun k hk hne => by rw [Below.heap_setCell a p u k (fun e => hne (by rw [e, hp]))]; exact h.block k hk hne⟩
theorem grown_drewN {w a : World} {r : Option Nat} (h : w.grownBy a r) (m : Nat) : w.grownBy (a.drewN m) r := ⟨h.os, h.tape, h.output, h.size, h.block⟩
theorem grown_call {w a b : World} {r : Option Nat} (h : w.grownBy a r) (h' : Below a.heap.size a b) : w.grownBy b r := h.trans (grown_of_below h' r)
/-- The row of a list of rules, with room behind. -/
def RowS (w : World) (g : Nat) (l : List S6) (junk : List Value) : Prop := Block w g 28 (RC l ++ junk)
section
variable {w w' : World} {g : Nat} {l : List S6} {junk : List Value}
theorem RowS.six (h : RowS w g l junk) {i : Nat} {x : S6} (hx : l[i]? = some x) : Cells6 w g (i * 6) x := by
  have hi := (List.getElem?_eq_some_iff.1 hx).1
  have k : ∀ j, j < 6 → w.cell? ⟨g, i * 6 + j, none⟩ = x.cs[j]? := by
    intro j hj
    rw [Block.cell h, List.getElem?_append_left (by rw [rc_len]; omega), rc_get hx hj]
  exact ⟨k 0 (by omega), k 1 (by omega), k 2 (by omega), k 3 (by omega), k 4 (by omega), k 5 (by omega)⟩
theorem RowS.call (h : RowS w g l junk) (hb : Below w.heap.size w w') : RowS w' g l junk := Block.call h hb
theorem RowS.set (h : RowS w g l junk) {k : Nat} (hk : k < l.length) (x : S6) : RowS ((((((w.setCell ⟨g, k * 6, none⟩ (.int .i64 x.a)).setCell ⟨g, k * 6 + 1, none⟩ (.int .i64 x.b)).setCell ⟨g, k * 6 + 2, none⟩ (.int .i64 x.c)).setCell ⟨g, k * 6 + 3, none⟩ (.int .i64 x.d)).setCell ⟨g, k * 6 + 4, none⟩ (.int .i64 x.e)).setCell ⟨g, k * 6 + 5, none⟩ (.int .i64 x.f)) g (l.set k x) junk := by
  have := Block.set (Block.set (Block.set (Block.set (Block.set (Block.set h (k * 6) (.int .i64 x.a)) (k * 6 + 1) (.int .i64 x.b)) (k * 6 + 2) (.int .i64 x.c)) (k * 6 + 3) (.int .i64 x.d)) (k * 6 + 4) (.int .i64 x.e)) (k * 6 + 5) (.int .i64 x.f)
  rw [rc_set l k x junk hk] at this
  exact this
theorem RowS.lt (h : RowS w g l junk) : g < w.heap.size := by
  rcases Nat.lt_or_ge g w.heap.size with hlt | hge
  · exact hlt
  · have h' : w.heap[g]? = some (.cells (RC l ++ junk).toArray 28 (0, 0)) := h
    rw [Array.getElem?_eq_none hge] at h'; cases h'
end
/-- The sort's flat row is the list's cells. -/
theorem flat_rc (l : List S6) : flatK S6.cs 6 l.toArray = (RC l).toArray := by
  apply Array.ext_getElem?
  intro t
  rcases Nat.lt_or_ge t (l.length * 6) with h | h
  · have hi : t / 6 < l.length := by omega
    have hx : l[t / 6]? = some (l[t / 6]'hi) := List.getElem?_eq_getElem hi
    have h1 := rc_get hx (k := t % 6) (Nat.mod_lt _ (by omega))
    rw [show t / 6 * 6 + t % 6 = t by omega] at h1
    have hs : t < (flatK S6.cs 6 l.toArray).size := by rw [size_flatK]; simpa using h
    have h2 := get_flatK S6.cs 6 l.toArray t (by simpa using h)
    rw [getElem!_pos _ t hs] at h2
    rw [Array.getElem?_eq_getElem hs, h2, List.getElem?_toArray, h1]
    have hc : (l[t / 6]'hi).cs[t % 6]? = some ((l[t / 6]'hi).cs[t % 6]'(by simp [S6.cs]; omega)) := List.getElem?_eq_getElem _
    rw [hc]
    congr 1
    rw [List.getElem!_toArray, getElem!_pos l _ hi, getElem!_pos (l[t / 6]'hi).cs (t % 6) (by simp [S6.cs]; omega)]
  · rw [Array.getElem?_eq_none (by rw [size_flatK]; simpa using h), List.getElem?_toArray, List.getElem?_eq_none (by rw [rc_len]; exact h)]
theorem cs_len (x : S6) : x.cs.length = 6 := rfl
theorem cs_one (x : S6) : ∀ v ∈ x.cs, v.oneCell' = true := by
  intro v hv
  simp [S6.cs] at hv
  rcases hv with rfl | rfl | rfl | rfl | rfl | rfl <;> rfl
theorem holds_of_row {w : World} {g : Nat} {l : List S6} {junk : List Value} (h : RowS w g l junk) : HoldsK S6.cs 6 w g 0 l.toArray := by
  intro j hj
  rw [size_flatK] at hj
  have hj' : j < (RC l).length := by rw [rc_len]; simpa using hj
  rw [flat_rc, Nat.zero_add, Block.cell h, List.getElem?_append_left hj']
  refine ⟨?_, Block.free h j⟩
  rw [List.getElem?_eq_getElem hj', List.getElem!_toArray, getElem!_pos (RC l) j hj']; rfl
theorem rowK_of_row {w : World} {g : Nat} {l : List S6} {junk : List Value} (h : RowS w g l junk) : RowK S6.cs 6 w g 0 l.toArray := ⟨cs_len, cs_one, holds_of_row h, h.lt⟩
/-- The row behind a sort. -/
theorem row_of_swk {w w' : World} {g : Nat} {l T : List S6} {junk : List Value} (h : RowS w g l junk) (hl : T.length = l.length) (hS : SWK S6.cs 6 w g 0 T.toArray w') : RowS w' g T junk ∧ w.grownBy w' (some g) := by
  obtain ⟨n, os, rfl⟩ := hS
  have hg := h.lt
  have hs : (putRowK S6.cs 6 (Sort.ahead w n) g 0 T.toArray).heap.size = w.heap.size := by
    rw [size_putRowK]; rfl
  have hrow : (putRowK S6.cs 6 (Sort.ahead w n) g 0 T.toArray).heap[g]? = some (.cells (RC T ++ junk).toArray 28 (0, 0)) := by
    have h' : w.heap[g]? = some (.cells (RC l ++ junk).toArray 28 (0, 0)) := h
    show (w.heap.modify g (onCells (putCells id 0 (flatK S6.cs 6 T.toArray))))[g]? = _
    rw [Array.getElem?_modify, if_pos rfl, h']
    simp only [Option.map_some, onCells]
    congr 2
    rw [flat_rc]
    apply Array.ext_getElem?
    intro k
    unfold putCells
    rw [Array.getElem?_mapIdx, List.getElem?_toArray, List.getElem?_toArray]
    have hTl : (RC T).length = (RC l).length := by rw [rc_len, rc_len, hl]
    rcases Nat.lt_or_ge k (RC T).length with hk | hk
    · rw [List.getElem?_append_left (by omega), List.getElem?_append_left hk, List.getElem?_eq_getElem (by omega), List.getElem?_eq_getElem hk]
      simp only [Option.map_some]
      rw [if_pos ⟨Nat.zero_le _, by simpa using hk⟩, Nat.sub_zero, List.getElem!_toArray, getElem!_pos (RC T) k hk]; rfl
    · rw [List.getElem?_append_right (by omega), List.getElem?_append_right hk, hTl]
      cases junk[k - (RC l).length]? with
      | none => rfl
      | some v =>
        simp only [Option.map_some]
        rw [if_neg (by simp; omega)]
  refine ⟨?_, rfl, rfl, rfl, ?_, fun b hb hne => ?_⟩
  · show (grow _ os).heap[g]? = _
    rw [heap_grow_old _ _ (by rw [hs]; exact hg)]
    exact hrow
  · show _ ≤ (grow _ os).heap.size
    rw [size_grow, hs]; omega
  · show (grow _ os).heap[b]? = _
    rw [heap_grow_old _ _ (by rw [hs]; exact hb)]
    show (w.heap.modify g (onCells (putCells id 0 (flatK S6.cs 6 T.toArray))))[b]? = _
    rw [Array.getElem?_modify, if_neg (fun e => hne (by rw [e]))]
/-- The row behind an owned slice. -/
theorem own_row {w : World} {base n c : Nat} {A : Option Addr} {l : List S6} (h : w.ownsRow base 28 6 (.slice A n c) n (RC l)) :
    (A = none ∧ n = 0 ∧ c = 0 ∧ l = []) ∨ ∃ g junk, A = some ⟨g, 0, none⟩ ∧ base ≤ g ∧ g < w.heap.size ∧ RowS w g l junk ∧ n ≤ c ∧ c ≤ maxLen ∧ junk.length + n * 6 = c * 6 := by
  have hl := h.1
  rw [rc_len] at hl
  rcases h.2 with ⟨hv, h0⟩ | ⟨g, cap, cur, hv, hb, hg, hnc, hcm, hcs, ht⟩
  · injection hv with h1 h2 h3
    exact .inl ⟨h1, h2, h3, List.eq_nil_of_length_eq_zero (by omega)⟩
  · injection hv with h1 h2 h3
    subst h1; subst h3
    refine .inr ⟨g, cur.toList.drop (n * 6), rfl, hb, ?_, ?_, hnc, hcm, ?_⟩
    · rcases Nat.lt_or_ge g w.heap.size with hlt | hge
      · exact hlt
      · rw [Array.getElem?_eq_none hge] at hg; cases hg
    · show _ = _
      rw [hg, ← ht, List.take_append_drop]
    · rw [List.length_drop, Array.length_toList, hcs]
      have : n * 6 ≤ c * 6 := Nat.mul_le_mul_right _ hnc
      omega
theorem row_own {w : World} {g n c base : Nat} {l : List S6} {junk : List Value} (h : RowS w g l junk) (hl : l.length = n) (hb : base ≤ g) (hc : c ≤ maxLen) (hj : junk.length + n * 6 = c * 6) : w.ownsRow base 28 6 (.slice (some ⟨g, 0, none⟩) n c) n (RC l) := by
  refine ⟨by rw [rc_len, hl], .inr ⟨g, c, (RC l ++ junk).toArray, rfl, hb, h, by omega, hc, ?_, ?_⟩⟩
  · simp only [List.size_toArray, List.length_append, rc_len, hl]; omega
  · simp only []
    rw [List.take_append_of_le_length (by rw [rc_len, hl]; exact Nat.le_refl _), List.take_of_length_le (by rw [rc_len, hl]; exact Nat.le_refl _)]
/-- 'order' as the sort calls it. -/
theorem cell_top' {W : World} {xs : Array Value} {t : TypeId} {g i : Nat} (hg : W.heap.size = g) : (W.alloc (.cells xs t)).cell? ⟨g, i, none⟩ = xs[i]? := by
  subst hg
  exact World.cell?_alloc_new ..
set_option maxRecDepth 100000 in
set_option maxHeartbeats 4000000 in
theorem order_grown (x y : S6) (w : World) : Calls Try.prog 27 #[(.agg #[.int .i64 x.a, .int .i64 x.b, .int .i64 x.c, .int .i64 x.d, .int .i64 x.e, .int .i64 x.f]), (.agg #[.int .i64 y.a, .int .i64 y.b, .int .i64 y.c, .int .i64 y.d, .int .i64 y.e, .int .i64 y.f])] w fun e w' => e = .returned (.int .i64 (Mat.ord x y)) ∧ ∃ q os', w' = grow (w.drewN q) os' := by
  have hr := Lib.hid (show Mat.ord x y = Mat.or3 (Mat.cmpI x.a y.a) (Mat.cmpI x.b y.b) (Mat.cmpI x.c y.c) from rfl)
  go_enter Try.func27, Try.ntmps27
  go_wp2_with fail
  go_region_held3 (fun w' => w'.cell? ⟨w.heap.size, 0, none⟩ = some (.int .i64 x.a) ∧ w'.cell? ⟨w.heap.size, 1, none⟩ = some (.int .i64 x.b) ∧ w'.cell? ⟨w.heap.size, 2, none⟩ = some (.int .i64 x.c) ∧ w'.cell? ⟨w.heap.size + 1, 0, none⟩ = some (.int .i64 y.a) ∧ w'.cell? ⟨w.heap.size + 1, 1, none⟩ = some (.int .i64 y.b) ∧ w'.cell? ⟨w.heap.size + 1, 2, none⟩ = some (.int .i64 y.c)) (go_keep) (first
    | (go_at_call 41; refine (compare_any _ _ _).mono ?_; rintro e w1 ⟨rfl, rfl⟩)
    | (go_at_call 40; refine (or_any (Mat.cmpI x.a y.a) (Mat.cmpI x.b y.b) (Mat.cmpI x.c y.c) _ _ (by simp [cell_top']) (by simp [cell_top']) (by simp [cell_top'])).mono ?_; rintro e w1 ⟨rfl, rfl⟩))
  go_wp2_with fail
  go_ret
  refine ⟨by rw [hr.out]; rfl, ?_⟩
  rw [alloc_eq_grow, alloc_eq_grow, alloc_eq_grow, grow_grow]
  exact ⟨1, _, grow_grow (w.drewN 1) _ _⟩
theorem order_enters : ∀ args w, (callFunc 27 args).run Try.prog w = .ok (.enter 27 args) w := enters_of Try.func27 (by kernel_rfl) rfl
theorem order_lays (g size : Nat) (w : World) : CmpLays Try.prog 27 #[] S6.cs 6 Mat.ord g 0 size w := fun _ _ _ _ x y => order_grown x y _
theorem ord_swo : SWO (ltOf Mat.ord) where
  irrefl := fun x => decide_eq_false (fun h => Mat.lt_irrefl x ((Mat.ord_lt x x).1 h))
  trans := fun x y z h1 h2 => decide_eq_true ((Mat.ord_lt x z).2 (Mat.lt_trans ((Mat.ord_lt x y).1 (of_decide_eq_true h1)) ((Mat.ord_lt y z).1 (of_decide_eq_true h2))))
  ntrans := fun x y z h1 h2 => decide_eq_false (fun h => by
    have h1 : ¬ Mat.Lt x y := fun h => of_decide_eq_false h1 ((Mat.ord_lt x y).2 h)
    have h2 : ¬ Mat.Lt y z := fun h => of_decide_eq_false h2 ((Mat.ord_lt y z).2 h)
    have h := (Mat.ord_lt x z).1 h
    unfold Mat.Lt at h1 h2 h
    omega)
end Go.Proofs.Ytiomkbpniplfhaa
