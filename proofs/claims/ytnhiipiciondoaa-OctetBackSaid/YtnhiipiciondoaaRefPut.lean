/- The walk of the document's own 'Put', 'PutText', 'PutList'. -/
import Derived.Test.YtnhiipiciondoaaOctPuts
namespace Go.Proofs.Ytnhiipiciondoaa
open Go.RowKit Go.Lib

theorem zig_not (n : Int) (h0 : -9223372036854775808 ≤ n) (h1 : n < 0) :
    bits .xor .u64 IntKind.u64.max (IntKind.u64.wrap (IntKind.u64.wrap n * 2)) = (Oct.zig n : Int) := by
  have e1 : IntKind.u64.wrap (IntKind.u64.wrap n * 2) = ((18446744073709551615 - (-2 * n - 1).toNat : Nat) : Int) := by simp only [IntKind.wrap_u64]; omega
  rw [e1, show IntKind.u64.max = ((18446744073709551615 : Nat) : Int) from rfl, u64_xor_nat _ _ (by omega) (by omega), Nat.xor_comm, Oct.nat_xor_ones _ (by omega)]
  unfold Oct.zig; rw [if_neg (by omega)]; omega
set_option maxRecDepth 100000 in
set_option maxHeartbeats 800000 in
theorem refPut_any (n : Int) (w : World) (h0 : -9223372036854775808 ≤ n) (h1 : n ≤ 9223372036854775807) :
    Calls Try.prog 17 #[.int .i64 n] w (Fresh 5 1 (Oct.putN (Oct.zig n)).length (U8 (Oct.putN (Oct.zig n))) w) := by
  obtain ⟨i0, hi, hz0, hz1, hz2⟩ := info_parts infoU8
  have hx1 : ¬ n < 0 → n * 2 = (Oct.zig n : Int) := fun h => by unfold Oct.zig; rw [if_pos (by omega)]; omega
  have hx2 := zig_not n h0
  have hlt := Oct.zig_lt n h0 h1
  obtain ⟨k, hk⟩ : ∃ k, Oct.zig n = k := ⟨_, rfl⟩
  rw [hk] at hx1 hx2 hlt ⊢
  clear hk
  have hl10 := Oct.putN_len10 hlt
  have Hlt := Lib.hid hlt
  clear hlt
  have hx : (n < 0 ∧ bits .xor .u64 IntKind.u64.max (IntKind.u64.wrap (IntKind.u64.wrap n * 2)) = (k : Int)) ∨ (¬ n < 0 ∧ Hid (n * 2 = (k : Int))) := by
    by_cases hn : n < 0
    · exact .inl ⟨hn, hx2 hn⟩
    · exact .inr ⟨hn, hx1 hn⟩
  clear hx1 hx2
  rcases hx with ⟨hn, hx⟩ | ⟨hn, hx⟩
  all_goals
    go_enter Try.func17, Try.ntmps17
    go_wp2_with fail
    go_loopw [4, 3] (fun v r wr => ∃ (acc : List Int) (rank m : Nat), acc ++ Oct.putN rank = Oct.putN k ∧ m = acc.length ∧ rank ≤ k ∧ r = .int .u64 rank ∧ wr.ownsRow w.heap.size 5 1 v m (U8 acc) ∧ Below w.heap.size w wr)
      (fun _ r _ => (intOf r).toNat)
    case atStart => first | exact ⟨[], k, 0, rfl, rfl, Nat.le_refl _, rfl, World.ownsRow_nil _ _ _ _, Below.refl _ _⟩ | exact ⟨[], k, 0, rfl, rfl, Nat.le_refl _, by rw [hx.out], World.ownsRow_nil _ _ _ _, Below.refl _ _⟩
    case round =>
      obtain ⟨acc, rank, m, hacc, hm, hrk, rfl, hown, hbel⟩ := hrel
      have Hacc := Lib.hid hacc; clear hacc h0 h1 hx
      have hal : m + (Oct.putN rank).length = (Oct.putN k).length := by rw [← Hacc.out, hm]; simp
      have Hm := Lib.hid hm; clear hm
      have hp1 := Oct.putN_pos rank
      by_cases hr : rank < 128
      · go_wp2_with (at_builtin; refine wpList_append_own _ rfl _ _ 23 rfl w.heap.size 5 i0 (.int .u8 0) 1 1 Try.underlying23 hi hz0 hz1 hz2 rfl (by decide) _ _ _ rfl (hown.alloc _) ⟨wr.heap.size, 0, none⟩ 1 1 [.int .u8 rank] rfl rfl (cell_one_new _ _ _) (one_is _ _) (by unfold maxLen; omega) (by omega) (by have := hbel.size; simp; omega) ?_; intro v' w1 hown' hgrow _)
        go_ret
        have e := Hacc.out
        rw [Oct.putN_small hr] at e
        obtain ⟨A, c, e2, _⟩ := own_form hown'
        rw [e2] at hown' ⊢
        rw [← e]
        refine ⟨A, c, by simp [Hm.out], ?_, ?_⟩
        · simpa [U8, Hm.out] using hown'
        · exact (hbel.alloc hbel.size _).grown hgrow (by have := hbel.size; simp; omega) (fun g hg => (hown.lt g hg).1)
      · have hq : IntKind.u64.wrap ((rank : Int) / 128) = (rank : Int) / 128 := by have := Hlt.out; rw [IntKind.wrap_u64]; omega
        go_wp2_with (at_builtin; refine wpList_append_own _ rfl _ _ 23 rfl w.heap.size 5 i0 (.int .u8 0) 1 1 Try.underlying23 hi hz0 hz1 hz2 rfl (by decide) _ _ _ rfl (hown.alloc _) ⟨wr.heap.size, 0, none⟩ 1 1 [.int .u8 ((rank : Int) % 128 + 128)] rfl rfl (cell_one_new _ _ _) (one_is _ _) (by unfold maxLen; omega) (by omega) (by have := hbel.size; simp; omega) ?_; intro v' w1 hown' hgrow _)
        have hb' := (hbel.alloc hbel.size (.cells #[.int .u8 ((rank : Int) % 128 + 128)] 5)).grown hgrow (by have := hbel.size; simp; omega) (fun g hg => (hown.lt g hg).1)
        have hs := Lib.hid (put_step acc k rank Hacc.out hr)
        clear hgrow hown hq
        go_roundw
        case rel => exact ⟨acc ++ [(rank : Int) % 128 + 128], rank / 128, m + 1, hs.out, by simp [Hm.out], by omega, by simp, by simpa [U8] using hown', hb'⟩
        case measure => simp [intOf]; omega
set_option maxRecDepth 100000 in
set_option maxHeartbeats 400000 in
theorem refPutText_any (s : ByteArray) (w : World) (hs : s.size ≤ 65536) :
    Calls Try.prog 18 #[.string s] w (Fresh 5 1 (putT s).length (U8 (putT s)) w) := by
  obtain ⟨i0, hi, hz0, hz1, hz2⟩ := info_parts infoU8
  have hl10 := Oct.putN_len10 (Oct.zig_lt s.size (by omega) (by omega))
  go_enter Try.func18, Try.ntmps18
  go_wp2_with (first
    | (go_at_call 17; refine (refPut_any _ _ (by omega) (by omega)).mono ?_; rintro e w1 ⟨A, c, rfl, hown, hbel⟩)
    | (at_builtin; refine wpList_append_own_string _ rfl _ _ 23 9 rfl w.heap.size 5 i0 Try.underlying23 Try.underlying9 hi hz0 hz1 hz2 _ _ _ rfl hown s rfl (by unfold maxLen; omega) (by omega) hbel.size ?_; intro v' w2 hown2 hg2 _))
  go_ret
  obtain ⟨A', c', e', _⟩ := own_form hown2
  subst e'
  refine ⟨A', c', by simp [putT, nums_len], by simpa [putT, nums_len, nums_cells, U8] using hown2, ?_⟩
  exact hbel.grown hg2 hbel.size (fun g hg => (hown.lt g hg).1)

set_option maxRecDepth 100000 in
set_option maxHeartbeats 400000 in
theorem refPutList_any (A : Option Addr) (n c : Nat) (l : List Int) (B : Nat) (w : World) (ha : Shows w B 1 A n (I64 l)) (hB : B ≤ w.heap.size) (hn : n ≤ 65536)
    (hx : ∀ x ∈ l, -9223372036854775808 ≤ x ∧ x ≤ 9223372036854775807) :
    Calls Try.prog 19 #[.slice A n c] w (Fresh 5 1 (putL l).length (U8 (putL l)) w) := by
  obtain ⟨i0, hi, hz0, hz1, hz2⟩ := info_parts infoU8
  have hl : l.length = n := by have := ha.len; simpa [I64] using this
  have Hl := Lib.hid hl
  have hl10 := Oct.putN_len10 (Oct.zig_lt n (by omega) (by omega))
  have Hx := Lib.hid hx
  clear hl hx
  go_enter Try.func19, Try.ntmps19
  go_wp2_with (go_at_call 17; refine (refPut_any _ _ (by omega) (by omega)).mono ?_; rintro e w1 ⟨A1, c1, rfl, hown1, hbel1⟩)
  go_loopw [3, 4] (fun v i wr => ∃ (j m : Nat) (Aj : Option Addr) (cj : Nat), j ≤ n ∧ i = .int .i64 j ∧ v = .slice Aj m cj ∧ m ≤ 10 * j + 10 ∧ wr.ownsRow w.heap.size 5 1 (.slice Aj m cj) m (U8 (Oct.putN (Oct.zig n) ++ putAll (l.take j))) ∧ Below w.heap.size w wr)
    (fun _ i _ => n - (intOf i).toNat)
  case atStart => exact ⟨0, _, A1, c1, by omega, rfl, rfl, by omega, by simpa [putAll] using hown1, hbel1⟩
  case round =>
    obtain ⟨j, m, Aj, cj, hj, rfl, rfl, hm, hown, hbel⟩ := hrel
    by_cases hlt : j < n
    · obtain ⟨b, off, rfl, hb, hcell⟩ := ha.at_ (by omega)
      obtain ⟨x, hxe⟩ : ∃ x, l[j]? = some x := ⟨l[j]'(by rw [Hl.out]; exact hlt), List.getElem?_eq_getElem _⟩
      have hcx := hcell j (by simp [I64, Hl.out]; omega)
      have hcx2 : wr.cell? ⟨b, off + j, none⟩ = some (.int .i64 x) := by
        rw [hbel.cell (show b < w.heap.size by omega), hcx]
        simp [I64, hxe]
      have hx1 := Hx.out x (List.mem_of_getElem? hxe)
      have hx10 := Oct.putN_len10 (Oct.zig_lt x hx1.1 hx1.2)
      have Hs := Lib.hid (putAll_take hxe)
      clear hcell hcx hxe
      go_wp2_with (first
        | (go_at_call 17; refine (refPut_any _ _ hx1.1 hx1.2).mono ?_; rintro e w2 ⟨A2, c2, rfl, hown2, hbel2⟩)
        | (at_builtin; refine wpList_append_shows _ rfl _ _ 23 rfl w.heap.size 5 i0 (.int .u8 0) 1 1 Try.underlying23 hi hz0 hz1 hz2 rfl (by decide) _ _ _ rfl (own_below hown hbel2) _ A2 _ c2 _ rfl (Shows.of_own hown2) (nums_one _ _) (by unfold maxLen; omega) (by omega) (by have := hbel.size; have := hbel2.size; omega) ?_; intro A3 c3 w3 hown3 hg3))
      have hb3 : Below w.heap.size w w3 := (bel_step hbel hbel2 hbel.size).grown hg3 (by have := hbel.size; have := hbel2.size; omega) (fun g hg => (hown.lt g hg).1)
      go_roundw
      case rel => exact ⟨j + 1, _, A3, c3, by omega, by go_num, rfl, by omega, by rw [Hs.out]; simpa [U8] using hown3, hb3⟩
      case measure => simp [intOf]; omega
    · have hjn : j = n := by omega
      subst hjn
      go_wp2
      go_ret
      have e := hown.1
      have e2 : Oct.putN (Oct.zig j) ++ putAll (l.take j) = putL l := by rw [putL, Hl.out, List.take_of_length_le (by rw [Hl.out]; exact Nat.le_refl _)]
      rw [e2] at hown
      rw [e2] at e
      have hm2 : (putL l).length = m := by simpa [U8] using e
      rw [← hm2] at hown
      exact ⟨Aj, cj, by simp [hm2], hown, hbel⟩
end Go.Proofs.Ytnhiipiciondoaa
