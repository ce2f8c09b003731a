/- The walks of 'octet.PutText' and 'octet.PutList'. -/
import Derived.Test.YtnhiipiciondoaaOctPut
namespace Go.Proofs.Ytnhiipiciondoaa
open Go.RowKit Go.Lib

/-- The bytes of a text as numbers. -/
def nums (s : ByteArray) : List Int := s.data.toList.map fun b => (b.toNat : Int)
theorem nums_len (s : ByteArray) : (nums s).length = s.size := by unfold nums; rw [List.length_map, Array.length_toList]; rfl
theorem nums_cells (s : ByteArray) : strCells s = U8 (nums s) := by simp [strCells, U8, nums]
def putT (s : ByteArray) : List Int := Oct.putN (Oct.zig s.size) ++ nums s
set_option maxRecDepth 100000 in
set_option maxHeartbeats 400000 in
theorem putText_any (s : ByteArray) (w : World) (hs : s.size ≤ 65536) :
    Calls Try.prog 15 #[.string s] w (Fresh 5 1 (putT s).length (U8 (putT s)) w) := by
  obtain ⟨i0, hi, hz0, hz1, hz2⟩ := info_parts infoU8
  have hl10 := Oct.putN_len10 (Oct.zig_lt s.size (by omega) (by omega))
  go_enter Try.func15, Try.ntmps15
  go_wp2_with (first
    | (go_at_call 12; refine (put_any _ _ (by omega) (by omega)).mono ?_; rintro e w1 ⟨A, c, rfl, hown, hbel⟩)
    | (at_builtin; refine wpList_append_own_string _ rfl _ _ 23 9 rfl w.heap.size 5 i0 Try.underlying23 Try.underlying9 hi hz0 hz1 hz2 _ _ _ rfl hown s rfl (by unfold maxLen; omega) (by omega) hbel.size ?_; intro v' w2 hown2 hg2 _))
  go_ret
  obtain ⟨A', c', e', _⟩ := own_form hown2
  subst e'
  refine ⟨A', c', by simp [putT, nums_len], by simpa [putT, nums_len, nums_cells, U8] using hown2, ?_⟩
  exact hbel.grown hg2 hbel.size (fun g hg => (hown.lt g hg).1)

/-- A list of numbers as bytes. -/
def putAll (l : List Int) : List Int := l.flatMap fun n => Oct.putN (Oct.zig n)
def putL (l : List Int) : List Int := Oct.putN (Oct.zig l.length) ++ putAll l
theorem putAll_len (l : List Int) (h : ∀ x ∈ l, -9223372036854775808 ≤ x ∧ x ≤ 9223372036854775807) : (putAll l).length ≤ 10 * l.length := by
  induction l with
  | nil => simp [putAll]
  | cons x l ih =>
    have h1 := h x (by simp)
    have h2 := Oct.putN_len10 (Oct.zig_lt x h1.1 h1.2)
    have h3 := ih fun y hy => h y (by simp [hy])
    simp only [putAll, List.flatMap_cons, List.length_append, List.length_cons] at h3 ⊢
    omega
theorem putAll_take {l : List Int} {j : Nat} {x : Int} (h : l[j]? = some x) : putAll (l.take (j + 1)) = putAll (l.take j) ++ Oct.putN (Oct.zig x) := by
  rw [List.take_add_one, h]; simp [putAll]
set_option maxRecDepth 100000 in
set_option maxHeartbeats 400000 in
theorem putList_any (A : Option Addr) (n c : Nat) (l : List Int) (B : Nat) (w : World) (ha : Shows w B 1 A n (I64 l)) (hB : B ≤ w.heap.size) (hn : n ≤ 65536)
    (hx : ∀ x ∈ l, -9223372036854775808 ≤ x ∧ x ≤ 9223372036854775807) :
    Calls Try.prog 16 #[.slice A n c] w (Fresh 5 1 (putL l).length (U8 (putL l)) w) := by
  obtain ⟨i0, hi, hz0, hz1, hz2⟩ := info_parts infoU8
  have hl : l.length = n := by have := ha.len; simpa [I64] using this
  have Hl := Lib.hid hl
  have hl10 := Oct.putN_len10 (Oct.zig_lt n (by omega) (by omega))
  have Hx := Lib.hid hx
  clear hl hx
  go_enter Try.func16, Try.ntmps16
  go_wp2_with (go_at_call 12; refine (put_any _ _ (by omega) (by omega)).mono ?_; rintro e w1 ⟨A1, c1, rfl, hown1, hbel1⟩)
  go_loopw [3, 11] (fun v i wr => ∃ (j m : Nat) (Aj : Option Addr) (cj : Nat), j ≤ n ∧ i = .int .i64 j ∧ v = .slice Aj m cj ∧ m ≤ 10 * j + 10 ∧ wr.ownsRow w.heap.size 5 1 (.slice Aj m cj) m (U8 (Oct.putN (Oct.zig n) ++ putAll (l.take j))) ∧ Below w.heap.size w wr)
    (fun _ i _ => n - (intOf i).toNat)
  case atStart => exact ⟨0, _, A1, c1, by omega, rfl, rfl, by omega, by simpa [putAll] using hown1, hbel1⟩
  case round =>
    obtain ⟨j, m, Aj, cj, hj, rfl, rfl, hm, hown, hbel⟩ := hrel
    by_cases hlt : j < n
    · obtain ⟨b, off, rfl, hb, hcell⟩ := ha.at_ (by omega)
      obtain ⟨x, hxe⟩ : ∃ x, l[j]? = some x := ⟨l[j]'(by rw [Hl.out]; exact hlt), List.getElem?_eq_getElem _⟩
      have hcx := hcell j (by simp [I64, Hl.out]; omega)
      have hcx2 : wr.cell? ⟨b, off + j, none⟩ = some (.int .i64 x) := by
        rw [hbel.cell (show b < w.heap.size by omega), hcx]
        simp [I64, hxe]
      have hx1 := Hx.out x (List.mem_of_getElem? hxe)
      have hx10 := Oct.putN_len10 (Oct.zig_lt x hx1.1 hx1.2)
      have Hs := Lib.hid (putAll_take hxe)
      clear hcell hcx hxe
      go_wp2_with (first
        | (go_at_call 12; refine (put_any _ _ hx1.1 hx1.2).mono ?_; rintro e w2 ⟨A2, c2, rfl, hown2, hbel2⟩)
        | (at_builtin; refine wpList_append_shows _ rfl _ _ 23 rfl w.heap.size 5 i0 (.int .u8 0) 1 1 Try.underlying23 hi hz0 hz1 hz2 rfl (by decide) _ _ _ rfl (own_below hown hbel2) _ A2 _ c2 _ rfl (Shows.of_own hown2) (nums_one _ _) (by unfold maxLen; omega) (by omega) (by have := hbel.size; have := hbel2.size; omega) ?_; intro A3 c3 w3 hown3 hg3))
      have hb3 : Below w.heap.size w w3 := (bel_step hbel hbel2 hbel.size).grown hg3 (by have := hbel.size; have := hbel2.size; omega) (fun g hg => (hown.lt g hg).1)
      go_roundw
      case rel => exact ⟨j + 1, _, A3, c3, by omega, by go_num, rfl, by omega, by rw [Hs.out]; simpa [U8] using hown3, hb3⟩
      case measure => simp [intOf]; omega
    · have hjn : j = n := by omega
      subst hjn
      go_wp2
      go_ret
      have e := hown.1
      have e2 : Oct.putN (Oct.zig j) ++ putAll (l.take j) = putL l := by rw [putL, Hl.out, List.take_of_length_le (by rw [Hl.out]; exact Nat.le_refl _)]
      rw [e2] at hown
      rw [e2] at e
      have hm2 : (putL l).length = m := by simpa [U8] using e
      rw [← hm2] at hown
      exact ⟨Aj, cj, by simp [hm2], hown, hbel⟩
end Go.Proofs.Ytnhiipiciondoaa
