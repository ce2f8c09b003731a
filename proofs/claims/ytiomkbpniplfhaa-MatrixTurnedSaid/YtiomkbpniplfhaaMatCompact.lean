/- Lists of rules without those that are the same as the one ahead: plain mathematics; and their rows. -/
import Derived.Test.YtiomkbpniplfhaaMatRow
namespace Go.Proofs.Ytiomkbpniplfhaa.Mat
def ddFrom : S6 → List S6 → List S6
  | _, [] => []
  | p, x :: t => if Same x p then ddFrom x t else x :: ddFrom x t
def dd : List S6 → List S6
  | [] => []
  | x :: t => x :: ddFrom x t
theorem ddFrom_snoc : ∀ (l : List S6) (v y x : S6), ddFrom v (l ++ [y, x]) = ddFrom v (l ++ [y]) ++ (if Same x y then [] else [x]) := by
  intro l
  induction l with
  | nil =>
    intro v y x
    simp only [List.nil_append, ddFrom]
    by_cases h : Same y v
    · by_cases h2 : Same x y <;> simp [h, h2]
    · by_cases h2 : Same x y <;> simp [h, h2]
  | cons a t ih =>
    intro v y x
    simp only [List.cons_append, ddFrom]
    by_cases h : Same a v
    · rw [if_pos h, if_pos h, ih]
    · rw [if_neg h, if_neg h, ih]; rfl
theorem dd_snoc (l : List S6) (y x : S6) : dd (l ++ [y, x]) = dd (l ++ [y]) ++ (if Same x y then [] else [x]) := by
  cases l with
  | nil =>
    simp only [List.nil_append, dd, ddFrom]
    by_cases h2 : Same x y <;> simp [h2]
  | cons a t =>
    simp only [List.cons_append, dd]
    rw [ddFrom_snoc]
theorem take_two {l : List S6} {p : Nat} {y x : S6} (hy : l[p]? = some y) (hx : l[p + 1]? = some x) : l.take (p + 2) = l.take p ++ [y, x] ∧ l.take (p + 1) = l.take p ++ [y] := by
  have h1 : l.take (p + 1) = l.take p ++ [y] := by rw [List.take_add_one, hy]; rfl
  refine ⟨?_, h1⟩
  rw [List.take_add_one, hx, h1]; simp
theorem dd_take {l : List S6} {p : Nat} {y x : S6} (hy : l[p]? = some y) (hx : l[p + 1]? = some x) : dd (l.take (p + 2)) = dd (l.take (p + 1)) ++ (if Same x y then [] else [x]) := by
  obtain ⟨h1, h2⟩ := take_two hy hx
  rw [h1, h2, dd_snoc]
theorem ddFrom_sub : ∀ (l : List S6) (v : S6), (ddFrom v l).Sublist l := by
  intro l
  induction l with
  | nil => intro v; exact List.Sublist.refl _
  | cons x t ih =>
    intro v
    rw [ddFrom]
    split
    · exact (ih x).cons _
    · exact (ih x).cons_cons _
theorem dd_sub (l : List S6) : (dd l).Sublist l := by
  cases l with
  | nil => exact List.Sublist.refl _
  | cons x t => exact (ddFrom_sub t x).cons_cons _
theorem dd_le (l : List S6) : (dd l).length ≤ l.length := (dd_sub l).length_le
theorem dd_one {l : List S6} (h : l.length ≤ 1) : dd l = l := by
  match l, h with
  | [], _ => rfl
  | [x], _ => rfl
end Go.Proofs.Ytiomkbpniplfhaa.Mat
namespace Go.Proofs.Ytiomkbpniplfhaa
open Go.RowKit

set_option maxRecDepth 100000 in
set_option maxHeartbeats 1000000 in
theorem same1_any (x y : S6) (w : World) : Calls Try.prog 39 #[(.agg #[.int .i64 x.a, .int .i64 x.b, .int .i64 x.c, .int .i64 x.d, .int .i64 x.e, .int .i64 x.f]), (.agg #[.int .i64 y.a, .int .i64 y.b, .int .i64 y.c, .int .i64 y.d, .int .i64 y.e, .int .i64 y.f])] w fun e w' => e = .returned (.bool (decide (Mat.Same x y))) ∧ Below w.heap.size w w' := by
  have hs : Hid ((Mat.ord x y == 0) = decide (Mat.Same x y)) := by
    show _ = _
    have := Mat.ord_same x y
    by_cases h : Mat.Same x y
    · rw [this.2 h, decide_eq_true h]; rfl
    · rw [decide_eq_false h]
      exact beq_eq_false_iff_ne.2 (fun e => h (this.1 e))
  have ho := fun w => order_any x y w
  generalize Mat.ord x y = r at ho hs
  go_enter Try.func39, Try.ntmps39
  go_wp2_with (first | (go_at_call 27; refine (ho _).mono ?_; rintro e w1 ⟨rfl, hb1⟩))
  go_ret
  exact ⟨by rw [← hs.out]; rfl, bel_call (bel_alloc (bel_alloc (Below.refl _ _) _) _) hb1⟩
/-- A row is cleared from a place on. -/
theorem run_clear_row {P : Program} (w : World) (t e ty : TypeId) (z : Value) (size : Nat) (ht : P.underlying t = some (.slice e)) (hv : ∀ w, (zeroValue e).run P w = .ok z w) (hz : z.cells.size = size) (h1 : ∀ v ∈ z.cells.toList, v.oneCell' = true) (g o n c : Nat) (cs : List Value) (te : TypeId)
    (hb : Block w g te cs) (hl : o + n * size ≤ cs.length) :
    ∃ zs : List Value, zs.length = n * size ∧ (Builtin.clear_ #[t] ty #[.slice (some ⟨g, o, none⟩) n c]).run P w = .ok (.tuple #[]) (w.setRow g (cs.take o ++ zs ++ cs.drop (o + n * size)).toArray) := by
  rcases Nat.eq_zero_or_pos n with h0 | h0
  · subst h0
    refine ⟨[], by simp, ?_⟩
    have e : w.setRow g (cs.take o ++ [] ++ cs.drop (o + 0 * size)).toArray = w := by
      simp only [List.append_nil, Nat.zero_mul, Nat.add_zero, List.take_append_drop]
      exact setRow_self w g cs.toArray te (0, 0) hb
    rw [e]
    simp [Builtin.clear_, run_underlying ht]
  · have hzl : (Builtin.zeroCells z.cells n).toList.length = n * size := by rw [Array.length_toList, size_zeroCells, hz]
    refine ⟨(Builtin.zeroCells z.cells n).toList, hzl, ?_⟩
    have h1' : ∀ v ∈ (Builtin.zeroCells z.cells n).toList, v.oneCell' = true := by
      intro v hv'
      rw [Array.mem_toList_iff] at hv'
      unfold Builtin.zeroCells at hv'
      rw [Array.mem_map] at hv'
      obtain ⟨i, hi, rfl⟩ := hv'
      rw [Array.mem_range] at hi
      have hp : 0 < z.cells.size := Nat.pos_of_ne_zero fun h => by rw [h, Nat.mul_zero] at hi; omega
      rw [getElem!_pos z.cells _ (Nat.mod_lt _ hp)]
      exact h1 _ (by rw [Array.mem_toList_iff]; exact Array.getElem_mem _)
    have hst := run_storeCells_at (P := P) g o te (Builtin.zeroCells z.cells n).toList 0 cs.toArray w hb (by rw [hzl]; simp; omega) h1'
    obtain ⟨m, rfl⟩ : ∃ m, n = m + 1 := ⟨n - 1, by omega⟩
    simp [Builtin.clear_, run_underlying ht, hv, hst, hzl]

theorem zero_rule (w : World) : (zeroValue 28).run Try.prog w = .ok (.agg #[.int .i64 0, .int .i64 0, .int .i64 0, .int .i64 0, .int .i64 0, .int .i64 0]) w := by kernel_rfl
/-- What stands in the row while it is gone through. -/
def mid (l : List S6) (p : Nat) : List S6 := Mat.dd (l.take p) ++ l.drop (Mat.dd (l.take p)).length
theorem mid_get {l : List S6} {p i : Nat} {x : S6} (hx : l[i]? = some x) (hi : (Mat.dd (l.take p)).length ≤ i) : (mid l p)[i]? = some x := by
  unfold mid
  rw [List.getElem?_append_right hi, List.getElem?_drop, show (Mat.dd (l.take p)).length + (i - (Mat.dd (l.take p)).length) = i by omega, hx]
theorem mid_len {l : List S6} {p : Nat} : (mid l p).length = l.length := by
  have h1 := Mat.dd_le (l.take p)
  have h2 := List.length_take_le' p l
  unfold mid
  simp only [List.length_append, List.length_drop]
  omega
theorem mid_set {l : List S6} {p : Nat} {y x : S6} (hy : l[p]? = some y) (hx : l[p + 1]? = some x) (hne : ¬ Mat.Same x y) : (mid l (p + 1)).set (Mat.dd (l.take (p + 1))).length x = mid l (p + 2) := by
  have hd := Mat.dd_take hy hx
  rw [if_neg hne] at hd
  have h1 := Mat.dd_le (l.take (p + 1))
  have h2 := List.length_take_le (p + 1) l
  have hp := (List.getElem?_eq_some_iff.1 hx).1
  unfold mid
  rw [hd, List.set_append_right _ _ (Nat.le_refl _), Nat.sub_self, List.append_assoc, List.length_append, List.length_cons, List.length_nil]
  congr 1
  rw [List.drop_eq_getElem_cons (by omega)]
  rfl
theorem mid_same {l : List S6} {p : Nat} {y x : S6} (hy : l[p]? = some y) (hx : l[p + 1]? = some x) (he : Mat.Same x y) : Mat.dd (l.take (p + 2)) = Mat.dd (l.take (p + 1)) := by
  have hd := Mat.dd_take hy hx
  rw [if_pos he, List.append_nil] at hd
  exact hd
/-- 'x[k:]' of a row. -/
theorem cut_row (g n c k : Nat) (hk : k < n) (hc : n ≤ c) (w : World) :
    (Instr.slice 22 (.slice (some ⟨g, 0, none⟩) n c) (some (.int .i64 (k : Int))) none none).run Try.prog w = .ok (.slice (some ⟨g, k * 6, none⟩) (n - k) (c - k)) w := by
  have he : (Try.prog).elem 22 = 28 := by kernel_rfl
  rw [run_slice_l w 22 (some ⟨g, 0, none⟩) n c (by rw [he]; exact Try.underlying22) .i64 k (by omega) (by omega), he, size_rule]
  have hne : ¬ c = k := by omega
  simp [sliced, Result.andThen, Addr.add, hne]
  omega
theorem row_clear {w : World} {g n c k : Nat} {l : List S6} {junk : List Value} (h : RowS w g l junk) (hl : l.length = n) (hk : k < n) :
    ∃ w2, (∀ ty : TypeId, (Builtin.clear_ #[22] ty #[.slice (some ⟨g, k * 6, none⟩) (n - k) (c - k)]).run Try.prog w = .ok (.tuple #[]) w2) ∧ w.grownBy w2 (some g) ∧ ∃ junk', RowS w2 g (l.take k) junk' ∧ junk'.length + k * 6 = junk.length + n * 6 := by
  obtain ⟨zs, hz, hrun⟩ := run_clear_row (P := Try.prog) w 22 28 0 (.agg #[.int .i64 0, .int .i64 0, .int .i64 0, .int .i64 0, .int .i64 0, .int .i64 0]) 6 Try.underlying22 zero_rule rfl (by intro v hv; simp [Value.cells] at hv; subst hv; rfl) g (k * 6) (n - k) (c - k) (RC l ++ junk) 28 h (by rw [List.length_append, rc_len]; omega)
  have hg : (w.setRow g ((RC l ++ junk).take (k * 6) ++ zs ++ (RC l ++ junk).drop (k * 6 + (n - k) * 6)).toArray).heap[g]? = some (.cells ((RC l ++ junk).take (k * 6) ++ zs ++ (RC l ++ junk).drop (k * 6 + (n - k) * 6)).toArray 28 (0, 0)) := setRow_heap w g (RC l ++ junk).toArray _ 28 (0, 0) h
  have ht : (RC l ++ junk).take (k * 6) = RC (l.take k) := by rw [List.take_append_of_le_length (by rw [rc_len]; omega), rc_take]
  refine ⟨_, fun _ => hrun, ⟨rfl, rfl, rfl, by simp [World.setRow], fun b hb hne => ?_⟩, zs ++ (RC l ++ junk).drop (k * 6 + (n - k) * 6), ?_, ?_⟩
  · simp only [World.setRow]
    rw [Array.getElem?_modify, if_neg (fun e => hne (by rw [e]))]
  · show _ = _
    rw [hg, ht, List.append_assoc]
  · simp only [List.length_append, List.length_drop, rc_len, hz]
    omega
set_option maxRecDepth 100000 in
set_option maxHeartbeats 8000000 in
theorem compact_any (g n c : Nat) (l : List S6) (junk : List Value) (w : World) (hrow : RowS w g l junk) (hl : l.length = n) (hn : n ≤ 1000000) (hc : n ≤ c) :
    Calls Try.prog 38 #[.slice (some ⟨g, 0, none⟩) n c, .func (Fn.func 39) #[] #[]] w fun e w' =>
      e = .returned (.slice (some ⟨g, 0, none⟩) (Mat.dd l).length c) ∧ w.grownBy w' (some g) ∧ ∃ junk', RowS w' g (Mat.dd l) junk' ∧ junk'.length + (Mat.dd l).length * 6 = junk.length + n * 6 := by
  have Hl := Lib.hid hl
  have hle := Mat.dd_le l
  have Hle := Lib.hid hle
  clear hle
  by_cases h2 : n < 2
  · have hd := Lib.hid (Mat.dd_one (l := l) (by omega))
    clear hl
    go_enter Try.func38, Try.ntmps38
    go_wp2_with fail
    go_ret
    exact ⟨by rw [hd.out, Hl.out]; rfl, grown_of_below (Below.refl _ _) _, junk, by rw [hd.out]; exact hrow, by rw [hd.out, Hl.out]⟩
  · clear hl
    go_enter Try.func38, Try.ntmps38
    go_wp2_with fail
    go_loopw [5] (fun k wr => ∃ i : Nat, i + 1 ≤ n ∧ k = .int .i64 ((i + 1 : Nat) : Int) ∧ Mat.dd (l.take (i + 1)) = l.take (i + 1) ∧ Below w.heap.size w wr) (fun k _ => n - (intOf k).toNat)
    case atStart => exact ⟨0, by omega, rfl, Mat.dd_one (by simp; omega), Below.refl _ _⟩
    case round =>
      obtain ⟨i, hi, rfl, hdd, hbel⟩ := hrel
      have Hdd := Lib.hid hdd
      clear hdd
      have hrw := hrow.call hbel
      by_cases hlt : i + 1 < n
      · obtain ⟨y, hy⟩ : ∃ y, l[i]? = some y := ⟨l[i]'(by rw [Hl.out]; omega), List.getElem?_eq_getElem _⟩
        obtain ⟨x, hx⟩ : ∃ x, l[i + 1]? = some x := ⟨l[i + 1]'(by rw [Hl.out]; omega), List.getElem?_eq_getElem _⟩
        obtain ⟨c1, c2, c3, c4, c5, c6⟩ := hrw.six hx
        obtain ⟨e1, e2, e3, e4, e5, e6⟩ := hrw.six hy
        have hcall := fun w => same1_any x y w
        have Hy := Lib.hid hy
        have Hx := Lib.hid hx
        have q1 : IntKind.i64.wrap ((i : Int) + 1 - 1) = (i : Int) := by rw [IntWalk.i64_in _ (by omega)]; omega
        have q2 : IntKind.i64.wrap (i : Int) = (i : Int) := IntWalk.i64_in _ (by omega)
        have q3 : (0 : Int) ≤ (i : Int) := by omega
        have q4 : (i : Int) < (n : Int) := by omega
        have q7 : (i : Int) + 1 < (n : Int) := by omega
        have q8 : (0 : Int) ≤ (i : Int) + 1 := by omega
        clear hy hx
        by_cases heq : Mat.Same x y
        · have hb := decide_eq_true heq
          rw [hb] at hcall
          have Heq := Lib.hid heq
          clear heq
          go_wp2_with fail
          go_region_held3 (fun w' => w'.cell? ⟨g, (i + 1) * 6, none⟩ = some (.int .i64 x.a) ∧ w'.cell? ⟨g, (i + 1) * 6 + 1, none⟩ = some (.int .i64 x.b) ∧ w'.cell? ⟨g, (i + 1) * 6 + 2, none⟩ = some (.int .i64 x.c) ∧ w'.cell? ⟨g, (i + 1) * 6 + 3, none⟩ = some (.int .i64 x.d) ∧ w'.cell? ⟨g, (i + 1) * 6 + 4, none⟩ = some (.int .i64 x.e) ∧ w'.cell? ⟨g, (i + 1) * 6 + 5, none⟩ = some (.int .i64 x.f) ∧ w'.cell? ⟨g, i * 6, none⟩ = some (.int .i64 y.a) ∧ w'.cell? ⟨g, i * 6 + 1, none⟩ = some (.int .i64 y.b) ∧ w'.cell? ⟨g, i * 6 + 2, none⟩ = some (.int .i64 y.c) ∧ w'.cell? ⟨g, i * 6 + 3, none⟩ = some (.int .i64 y.d) ∧ w'.cell? ⟨g, i * 6 + 4, none⟩ = some (.int .i64 y.e) ∧ w'.cell? ⟨g, i * 6 + 5, none⟩ = some (.int .i64 y.f)) (go_keep) (first
            | (go_at_call 39; refine (hcall _).mono ?_; rintro e w1 ⟨rfl, hb1⟩; have hr1 := RowS.call (w := wr.drew) hrw hb1; obtain ⟨d1, d2, d3, d4, d5, d6⟩ := hr1.six Hx.out; obtain ⟨b1, b2, b3, b4, b5, b6⟩ := hr1.six Hy.out))
          have hcut := fun w => cut_row g n c (i + 1) hlt hc w
          simp only [Int.natCast_add, Int.natCast_one] at hcut
          have hd2 := Mat.dd_take Hy.out Hx.out
          rw [if_pos Heq.out, List.append_nil, Hdd.out] at hd2
          have hlen2 : (Mat.dd (l.take (i + 2))).length = i + 1 := by rw [hd2, List.length_take, Hl.out]; omega
          have hmid2 : mid l (i + 1 + 0 + 1) = l := by
            unfold mid
            rw [show i + 1 + 0 + 1 = i + 2 by omega, hlen2, hd2, List.take_append_drop]
          have Hmid2 := Lib.hid hmid2
          have Hlen2 := Lib.hid hlen2
          have hg1 := grown_of_below (bel_call (w := w) hbel.drew hb1) (some g)
          have Hr1 := Lib.hid hr1
          clear hd2 hlen2 hmid2 c1 c2 c3 c4 c5 c6 e1 e2 e3 e4 e5 e6 d1 d2 d3 d4 d5 d6 b1 b2 b3 b4 b5 b6 hr1 hrw hcall
          go_wp2_with fail
          go_loopw [5, 7] (fun k k2 wr => ∃ m K : Nat, i + 1 + m + 1 ≤ n ∧ k2 = .int .i64 ((m : Int) + 1) ∧ k = .int .i64 (K : Int) ∧ (Mat.dd (l.take (i + 1 + m + 1))).length = K ∧ K ≤ i + 1 + m ∧ RowS wr g (mid l (i + 1 + m + 1)) junk ∧ w.grownBy wr (some g)) (fun _ k2 _ => n - (intOf k2).toNat)
          case atStart => exact ⟨0, i + 1, by omega, rfl, rfl, Hlen2.out, by omega, by rw [Hmid2.out]; exact Hr1.out, hg1⟩
          case round =>
            obtain ⟨m, K, hm, rfl, rfl, hK, hKm, hrow2, hgr⟩ := hrel
            have HK := Lib.hid hK
            clear hK hcut
            by_cases hlt2 : i + 1 + m + 1 < n
            · obtain ⟨y2, hy2⟩ : ∃ y2, l[i + 1 + m]? = some y2 := ⟨l[i + 1 + m]'(by rw [Hl.out]; omega), List.getElem?_eq_getElem _⟩
              obtain ⟨x2, hx2⟩ : ∃ x2, l[i + 1 + m + 1]? = some x2 := ⟨l[i + 1 + m + 1]'(by rw [Hl.out]; omega), List.getElem?_eq_getElem _⟩
              have gx := mid_get (p := i + 1 + m + 1) hx2 (by rw [HK.out]; omega)
              have gy := mid_get (p := i + 1 + m + 1) hy2 (by rw [HK.out]; omega)
              obtain ⟨c1, c2, c3, c4, c5, c6⟩ := hrow2.six gx
              obtain ⟨e1, e2, e3, e4, e5, e6⟩ := hrow2.six gy
              have ex1 : (i + 1 + m + 1) * 6 = (i + 1) * 6 + (m + 1) * 6 := by omega
              have ey1 : (i + 1 + m) * 6 = (i + 1) * 6 + m * 6 := by omega
              rw [ex1] at c1 c2 c3 c4 c5 c6
              rw [ey1] at e1 e2 e3 e4 e5 e6
              have hcall := fun w => same1_any x2 y2 w
              have Hgx := Lib.hid gx
              have Hgy := Lib.hid gy
              have Hx2 := Lib.hid hx2
              have Hy2 := Lib.hid hy2
              have q1 : IntKind.i64.wrap ((m : Int) + 1 - 1) = (m : Int) := by rw [IntWalk.i64_in _ (by omega)]; omega
              have q2 : IntKind.i64.wrap (m : Int) = (m : Int) := IntWalk.i64_in _ (by omega)
              have q3 : (0 : Int) ≤ (m : Int) := by omega
              have q4 : (m : Int) < ((n - (i + 1) : Nat) : Int) := by omega
              have q7 : (m : Int) + 1 < ((n - (i + 1) : Nat) : Int) := by omega
              have q8 : (0 : Int) ≤ (m : Int) + 1 := by omega
              have q9 : m < n - (i + 1) := by omega
              have q10 : m + 1 < n - (i + 1) := by omega
              clear gx gy hx2 hy2 ex1 ey1
              by_cases heq2 : Mat.Same x2 y2
              · have hb := decide_eq_true heq2
                rw [hb] at hcall
                have Heq2 := Lib.hid heq2
                clear heq2
                go_wp2_with fail
                go_region_held3 (fun w' => w'.cell? ⟨g, (i + 1) * 6 + (m + 1) * 6, none⟩ = some (.int .i64 x2.a) ∧ w'.cell? ⟨g, (i + 1) * 6 + (m + 1) * 6 + 1, none⟩ = some (.int .i64 x2.b) ∧ w'.cell? ⟨g, (i + 1) * 6 + (m + 1) * 6 + 2, none⟩ = some (.int .i64 x2.c) ∧ w'.cell? ⟨g, (i + 1) * 6 + (m + 1) * 6 + 3, none⟩ = some (.int .i64 x2.d) ∧ w'.cell? ⟨g, (i + 1) * 6 + (m + 1) * 6 + 4, none⟩ = some (.int .i64 x2.e) ∧ w'.cell? ⟨g, (i + 1) * 6 + (m + 1) * 6 + 5, none⟩ = some (.int .i64 x2.f) ∧ w'.cell? ⟨g, (i + 1) * 6 + m * 6, none⟩ = some (.int .i64 y2.a) ∧ w'.cell? ⟨g, (i + 1) * 6 + m * 6 + 1, none⟩ = some (.int .i64 y2.b) ∧ w'.cell? ⟨g, (i + 1) * 6 + m * 6 + 2, none⟩ = some (.int .i64 y2.c) ∧ w'.cell? ⟨g, (i + 1) * 6 + m * 6 + 3, none⟩ = some (.int .i64 y2.d) ∧ w'.cell? ⟨g, (i + 1) * 6 + m * 6 + 4, none⟩ = some (.int .i64 y2.e) ∧ w'.cell? ⟨g, (i + 1) * 6 + m * 6 + 5, none⟩ = some (.int .i64 y2.f)) (go_keep) (first
                  | (go_at_call 39; refine (hcall _).mono ?_; rintro e w3 ⟨rfl, hb3⟩; have hr3 := RowS.call (w := wr.drew) hrow2 hb3; obtain ⟨d1, d2, d3, d4, d5, d6⟩ := hr3.six Hgx.out; obtain ⟨b1, b2, b3, b4, b5, b6⟩ := hr3.six Hgy.out; rw [show (i + 1 + m + 1) * 6 = (i + 1) * 6 + (m + 1) * 6 by omega] at d1 d2 d3 d4 d5 d6; rw [show (i + 1 + m) * 6 = (i + 1) * 6 + m * 6 by omega] at b1 b2 b3 b4 b5 b6))
                have hsame := mid_same Hy2.out Hx2.out Heq2.out
                have HK2 := Lib.hid (hsame.trans rfl : Mat.dd (l.take (i + 1 + m + 2)) = Mat.dd (l.take (i + 1 + m + 1)))
                have hrow3 : RowS w3 g (mid l (i + 1 + m + 2)) junk := by unfold mid; rw [HK2.out]; exact hr3
                have Hrow3 := Lib.hid hrow3
                have hg3 := grown_call (b := w3) (show w.grownBy wr.drew (some g) from grown_drewN hgr 1) hb3
                clear hsame hrow3 d1 d2 d3 d4 d5 d6 b1 b2 b3 b4 b5 b6 c1 c2 c3 c4 c5 c6 e1 e2 e3 e4 e5 e6 hr3
                go_wp2_with fail
                go_roundw
                case rel => exact ⟨m + 1, K, by omega, by go_num, rfl, by rw [show i + 1 + (m + 1) + 1 = i + 1 + m + 2 by omega, HK2.out]; exact HK.out, by omega, Hrow3.out, hg3⟩
                case measure => simp [intOf]; omega
              · have hb := decide_eq_false heq2
                rw [hb] at hcall
                have Heq2 := Lib.hid heq2
                clear heq2
                go_wp2_with fail
                go_region_held3 (fun w' => w'.cell? ⟨g, (i + 1) * 6 + (m + 1) * 6, none⟩ = some (.int .i64 x2.a) ∧ w'.cell? ⟨g, (i + 1) * 6 + (m + 1) * 6 + 1, none⟩ = some (.int .i64 x2.b) ∧ w'.cell? ⟨g, (i + 1) * 6 + (m + 1) * 6 + 2, none⟩ = some (.int .i64 x2.c) ∧ w'.cell? ⟨g, (i + 1) * 6 + (m + 1) * 6 + 3, none⟩ = some (.int .i64 x2.d) ∧ w'.cell? ⟨g, (i + 1) * 6 + (m + 1) * 6 + 4, none⟩ = some (.int .i64 x2.e) ∧ w'.cell? ⟨g, (i + 1) * 6 + (m + 1) * 6 + 5, none⟩ = some (.int .i64 x2.f) ∧ w'.cell? ⟨g, (i + 1) * 6 + m * 6, none⟩ = some (.int .i64 y2.a) ∧ w'.cell? ⟨g, (i + 1) * 6 + m * 6 + 1, none⟩ = some (.int .i64 y2.b) ∧ w'.cell? ⟨g, (i + 1) * 6 + m * 6 + 2, none⟩ = some (.int .i64 y2.c) ∧ w'.cell? ⟨g, (i + 1) * 6 + m * 6 + 3, none⟩ = some (.int .i64 y2.d) ∧ w'.cell? ⟨g, (i + 1) * 6 + m * 6 + 4, none⟩ = some (.int .i64 y2.e) ∧ w'.cell? ⟨g, (i + 1) * 6 + m * 6 + 5, none⟩ = some (.int .i64 y2.f)) (go_keep) (first
                  | (go_at_call 39; refine (hcall _).mono ?_; rintro e w3 ⟨rfl, hb3⟩; have hr3 := RowS.call (w := wr.drew) hrow2 hb3; obtain ⟨d1, d2, d3, d4, d5, d6⟩ := hr3.six Hgx.out; obtain ⟨b1, b2, b3, b4, b5, b6⟩ := hr3.six Hgy.out; rw [show (i + 1 + m + 1) * 6 = (i + 1) * 6 + (m + 1) * 6 by omega] at d1 d2 d3 d4 d5 d6; rw [show (i + 1 + m) * 6 = (i + 1) * 6 + m * 6 by omega] at b1 b2 b3 b4 b5 b6))
                have hset := mid_set Hy2.out Hx2.out Heq2.out
                rw [HK.out] at hset
                have Hset := Lib.hid hset
                have hKl : K < (mid l (i + 1 + m + 1)).length := by rw [mid_len, Hl.out]; omega
                have hst := hr3.set hKl x2
                rw [Hset.out] at hst
                have Hst := Lib.hid hst
                have hg3 := grown_call (b := w3) (show w.grownBy wr.drew (some g) from grown_drewN hgr 1) hb3
                have HK2 : Hid ((Mat.dd (l.take (i + 1 + m + 2))).length = K + 1) := by
                  have := Mat.dd_take Hy2.out Hx2.out
                  rw [if_neg Heq2.out] at this
                  show _ = _
                  rw [this, List.length_append, HK.out]; rfl
                have z1 := (hr3.six Hgx.out).1
                have hKlt : K < n := by omega
                obtain ⟨v0, hv0⟩ : ∃ v, w3.cell? ⟨g, K * 6, none⟩ = some v := by
                  rw [Block.cell hr3]
                  exact ⟨_, List.getElem?_eq_getElem (by rw [List.length_append, rc_len, mid_len, Hl.out]; omega)⟩
                obtain ⟨v1, hv1⟩ : ∃ v, w3.cell? ⟨g, K * 6 + 1, none⟩ = some v := by
                  rw [Block.cell hr3]
                  exact ⟨_, List.getElem?_eq_getElem (by rw [List.length_append, rc_len, mid_len, Hl.out]; omega)⟩
                obtain ⟨v2, hv2⟩ : ∃ v, w3.cell? ⟨g, K * 6 + 2, none⟩ = some v := by
                  rw [Block.cell hr3]
                  exact ⟨_, List.getElem?_eq_getElem (by rw [List.length_append, rc_len, mid_len, Hl.out]; omega)⟩
                obtain ⟨v3, hv3⟩ : ∃ v, w3.cell? ⟨g, K * 6 + 3, none⟩ = some v := by
                  rw [Block.cell hr3]
                  exact ⟨_, List.getElem?_eq_getElem (by rw [List.length_append, rc_len, mid_len, Hl.out]; omega)⟩
                obtain ⟨v4, hv4⟩ : ∃ v, w3.cell? ⟨g, K * 6 + 4, none⟩ = some v := by
                  rw [Block.cell hr3]
                  exact ⟨_, List.getElem?_eq_getElem (by rw [List.length_append, rc_len, mid_len, Hl.out]; omega)⟩
                obtain ⟨v5, hv5⟩ : ∃ v, w3.cell? ⟨g, K * 6 + 5, none⟩ = some v := by
                  rw [Block.cell hr3]
                  exact ⟨_, List.getElem?_eq_getElem (by rw [List.length_append, rc_len, mid_len, Hl.out]; omega)⟩
                have hf0 := Block.free hr3
                clear hset hst c1 c2 c3 c4 c5 c6 e1 e2 e3 e4 e5 e6
                go_wp2_with fail
                go_roundw
                case rel => exact ⟨m + 1, K + 1, by omega, by go_num, by go_num, by rw [show i + 1 + (m + 1) + 1 = i + 1 + m + 2 by omega]; exact HK2.out, by omega, by rw [show i + 1 + (m + 1) + 1 = i + 1 + m + 2 by omega]; exact Hst.out, grown_set (grown_set (grown_set (grown_set (grown_set (grown_set hg3 _ rfl _) _ rfl _) _ rfl _) _ rfl _) _ rfl _) _ rfl _⟩
                case measure => simp [intOf]; omega
            · have hend : i + 1 + m + 1 = n := by omega
              have hKn : K < n := by omega
              obtain ⟨w4, hclr, hg4, junk4, hrow4, hj4⟩ := row_clear (c := c) hrow2 (by rw [mid_len, Hl.out]) hKn
              have hcK := fun w => cut_row g n c K hKn hc w
              have hcT := fun w => cut_to (P := Try.prog) 6 Try.underlying22 size_rule (some ⟨g, 0, none⟩) n c K (by omega) w
              have hfin : (mid l (i + 1 + m + 1)).take K = Mat.dd l := by
                unfold mid
                rw [HK.out, List.take_append_of_le_length (by rw [HK.out]; exact Nat.le_refl _), List.take_of_length_le (by rw [HK.out]; exact Nat.le_refl _), hend, List.take_of_length_le (by rw [Hl.out]; exact Nat.le_refl _)]
              rw [hfin] at hrow4
              have hKd : Hid ((Mat.dd l).length = K) := by
                have := HK.out
                rw [hend, List.take_of_length_le (by rw [Hl.out]; exact Nat.le_refl _)] at this
                exact this
              have Hrow4 := Lib.hid hrow4
              have Hj4 := Lib.hid hj4
              have Hg4 := Lib.hid (hgr.trans hg4)
              clear hfin hrow4 hj4 hg4 hend
              have hlt3 : ¬ (m : Int) + 1 < ((n - (i + 1) : Nat) : Int) := by omega
              go_wp2_with fail
              go_ret
              exact ⟨by rw [hKd.out]; rfl, Hg4.out, junk4, Hrow4.out, by rw [hKd.out]; exact Hj4.out⟩
        · have hb := decide_eq_false heq
          rw [hb] at hcall
          have Heq := Lib.hid heq
          clear heq
          go_wp2_with fail
          go_region_held3 (fun w' => w'.cell? ⟨g, (i + 1) * 6, none⟩ = some (.int .i64 x.a) ∧ w'.cell? ⟨g, (i + 1) * 6 + 1, none⟩ = some (.int .i64 x.b) ∧ w'.cell? ⟨g, (i + 1) * 6 + 2, none⟩ = some (.int .i64 x.c) ∧ w'.cell? ⟨g, (i + 1) * 6 + 3, none⟩ = some (.int .i64 x.d) ∧ w'.cell? ⟨g, (i + 1) * 6 + 4, none⟩ = some (.int .i64 x.e) ∧ w'.cell? ⟨g, (i + 1) * 6 + 5, none⟩ = some (.int .i64 x.f) ∧ w'.cell? ⟨g, i * 6, none⟩ = some (.int .i64 y.a) ∧ w'.cell? ⟨g, i * 6 + 1, none⟩ = some (.int .i64 y.b) ∧ w'.cell? ⟨g, i * 6 + 2, none⟩ = some (.int .i64 y.c) ∧ w'.cell? ⟨g, i * 6 + 3, none⟩ = some (.int .i64 y.d) ∧ w'.cell? ⟨g, i * 6 + 4, none⟩ = some (.int .i64 y.e) ∧ w'.cell? ⟨g, i * 6 + 5, none⟩ = some (.int .i64 y.f)) (go_keep) (first
            | (go_at_call 39; refine (hcall _).mono ?_; rintro e w1 ⟨rfl, hb1⟩; have hr1 := RowS.call (w := wr.drew) hrw hb1; obtain ⟨d1, d2, d3, d4, d5, d6⟩ := hr1.six Hx.out; obtain ⟨b1, b2, b3, b4, b5, b6⟩ := hr1.six Hy.out))
          have hd2 := Mat.dd_take Hy.out Hx.out
          rw [if_neg Heq.out, Hdd.out] at hd2
          have hd3 : Hid (Mat.dd (l.take (i + 1 + 1)) = l.take (i + 1 + 1)) := by
            show _ = _
            rw [show i + 1 + 1 = i + 2 by omega, hd2, List.take_add_one (i := i + 1), Hx.out]; rfl
          have hb2 := bel_call (w := w) hbel.drew hb1
          clear hd2 c1 c2 c3 c4 c5 c6 e1 e2 e3 e4 e5 e6 d1 d2 d3 d4 d5 d6 b1 b2 b3 b4 b5 b6 hr1 hrw hcall
          go_wp2_with fail
          go_roundw
          case rel => exact ⟨i + 1, by omega, by go_num, hd3.out, hb2⟩
          case measure => simp [intOf]; omega
      · have hend : i + 1 = n := by omega
        have hd : Hid (Mat.dd l = l) := by
          have := Hdd.out
          rw [hend, List.take_of_length_le (by rw [Hl.out]; exact Nat.le_refl _)] at this
          exact this
        clear hend
        go_wp2_with fail
        go_ret
        exact ⟨by rw [hd.out, Hl.out]; rfl, grown_of_below hbel _, junk, by rw [hd.out]; exact hrw, by rw [hd.out, Hl.out]⟩
end Go.Proofs.Ytiomkbpniplfhaa
