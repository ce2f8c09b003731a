/- The walks of 'octet.Put', 'PutText', 'PutList' once more: the whole room of what they hand back is known to hold bytes. -/
import Derived.Test.YtnhiipiciondoaaOctPuts
import Derived.Test.YtnhiipiciondoaaFull
namespace Go.Proofs.Ytnhiipiciondoaa
open Go.RowKit Go.Lib

/-- A byte's cell. -/
def IsB (v : Value) : Prop := ∃ x : Int, v = .int .u8 x ∧ 0 ≤ x ∧ x ≤ 255
theorem isB_zero : ∀ j (h : j < (Value.int .u8 0).cells.size), IsB (Value.int .u8 0).cells[j] := by
  intro j h
  have : j = 0 := by simp [Value.cells] at h; omega
  subst this
  exact ⟨0, rfl, by omega, by omega⟩
/-- As 'Fresh', the whole room known. -/
def FreshB (n : Nat) (xs : List Value) (w : World) (r : Ending) (w' : World) : Prop :=
  ∃ A c, r = .returned (.slice A n c) ∧ Full IsB w' w.heap.size 5 1 A n c xs ∧ Below w.heap.size w w'
theorem full_rows {w w' : World} {A : Option Addr} {n c : Nat} {base e size : Nat} {T : Value → Prop} {xs : List Value} (h : Full T w base e size A n c xs) (hg : w.grownBy w' (Value.ownBlock (.slice A n c))) {B : Nat} {a : World} (hb : Below B a w) (hB : B ≤ w.heap.size) (hbase : B ≤ base) : Below B a w' :=
  hb.grown hg hB fun g hgb => by
    have := (h.owns.lt g hgb).1
    omega
set_option maxRecDepth 100000 in
set_option maxHeartbeats 400000 in
theorem putF_any (n : Int) (w : World) (h0 : -9223372036854775808 ≤ n) (h1 : n ≤ 9223372036854775807) :
    Calls Try.prog 12 #[.int .i64 n] w (FreshB (Oct.putN (Oct.zig n)).length (U8 (Oct.putN (Oct.zig n))) w) := by
  obtain ⟨i0, hi, hz0, hz1, hz2⟩ := info_parts infoU8
  have hx := Oct.zig_bits n h0 h1
  have hlt := Oct.zig_lt n h0 h1
  obtain ⟨k, hk⟩ : ∃ k, Oct.zig n = k := ⟨_, rfl⟩
  rw [hk] at hx hlt ⊢
  clear hk
  have hl10 := Oct.putN_len10 hlt
  go_enter Try.func12, Try.ntmps12
  go_wp2_with fail
  clear hx hlt h0 h1
  go_loopw [4, 3] (fun v r wr => ∃ (acc : List Int) (rank m : Nat) (A : Option Addr) (c : Nat), acc ++ Oct.putN rank = Oct.putN k ∧ m = acc.length ∧ r = .int .u64 rank ∧ v = .slice A m c ∧ Full IsB wr w.heap.size 5 1 A m c (U8 acc) ∧ Below w.heap.size w wr)
    (fun _ r _ => (intOf r).toNat)
  case atStart => exact ⟨[], k, 0, none, 0, rfl, rfl, rfl, rfl, Full.nil _ _ _ _ _, Below.refl _ _⟩
  case round =>
    obtain ⟨acc, rank, m, A, c, hacc, hm, rfl, rfl, hf, hbel⟩ := hrel
    have Hacc := Lib.hid hacc; clear hacc
    have hal : m + (Oct.putN rank).length = (Oct.putN k).length := by rw [← Hacc.out, hm]; simp
    have Hm := Lib.hid hm; clear hm
    have hp1 := Oct.putN_pos rank
    by_cases hr : rank < 128
    · go_wp2_with (at_builtin; refine wpList_append_full _ rfl _ _ 23 rfl w.heap.size 5 i0 (.int .u8 0) 1 1 Try.underlying23 hi hz0 hz1 hz2 rfl (by decide) isB_zero A m c _ rfl (hf.alloc _) _ (some ⟨wr.heap.size, 0, none⟩) 1 1 [.int .u8 rank] rfl (shows_built wr [.int .u8 rank] 5) (one_is _ _) (by unfold maxLen; omega) (by omega) (by have := hbel.size; simp; omega) ?_; intro A' c' w1 hf' hgrow)
      go_ret
      have e := Hacc.out
      rw [Oct.putN_small hr] at e
      rw [← e]
      refine ⟨A', c', by simp [Hm.out], ?_, full_rows (hf.alloc _) hgrow (bel_alloc hbel _) (by have := hbel.size; simp; omega) (Nat.le_refl _)⟩
      simpa [U8, Hm.out] using hf'
    · have hb8 := Oct.u8_or128 ((rank : Int) % 256) (by omega) (by omega)
      rw [show (rank : Int) % 256 % 128 = (rank : Int) % 128 by omega] at hb8
      go_wp2_with (at_builtin; refine wpList_append_full _ rfl _ _ 23 rfl w.heap.size 5 i0 (.int .u8 0) 1 1 Try.underlying23 hi hz0 hz1 hz2 rfl (by decide) isB_zero A m c _ rfl (hf.alloc _) _ (some ⟨wr.heap.size, 0, none⟩) 1 1 [.int .u8 ((rank : Int) % 128 + 128)] rfl (shows_built wr [.int .u8 ((rank : Int) % 128 + 128)] 5) (one_is _ _) (by unfold maxLen; omega) (by omega) (by have := hbel.size; simp; omega) ?_; intro A' c' w1 hf' hgrow)
      have hb' := full_rows (hf.alloc _) hgrow (bel_alloc hbel _) (by have := hbel.size; simp; omega) (Nat.le_refl _)
      have hs := Lib.hid (put_step acc k rank Hacc.out hr)
      clear hgrow hf hb8
      go_roundw
      case rel => exact ⟨acc ++ [(rank : Int) % 128 + 128], rank / 128, m + 1, A', c', hs.out, by simp [Hm.out], by simp, rfl, by simpa [U8] using hf', hb'⟩
      case measure => simp [intOf]; omega
set_option maxRecDepth 100000 in
set_option maxHeartbeats 400000 in
theorem putTextF_any (s : ByteArray) (w : World) (hs : s.size ≤ 65536) :
    Calls Try.prog 15 #[.string s] w (FreshB (putT s).length (U8 (putT s)) w) := by
  obtain ⟨i0, hi, hz0, hz1, hz2⟩ := info_parts infoU8
  have hl10 := Oct.putN_len10 (Oct.zig_lt s.size (by omega) (by omega))
  go_enter Try.func15, Try.ntmps15
  go_wp2_with (first
    | (go_at_call 12; refine (putF_any _ _ (by omega) (by omega)).mono ?_; rintro e w1 ⟨A, c, rfl, hf, hbel⟩)
    | (at_builtin; refine wpList_append_full_string _ rfl _ _ 23 9 rfl w.heap.size 5 i0 Try.underlying23 Try.underlying9 hi hz0 hz1 hz2 ⟨0, rfl, by omega, by omega⟩ A _ c _ rfl hf s rfl (by unfold maxLen; omega) (by omega) hbel.size ?_; intro A' c' w2 hf2 hg2))
  go_ret
  refine ⟨A', c', by simp [putT, nums_len], by simpa [putT, nums_len, nums_cells, U8] using hf2, full_rows hf hg2 hbel hbel.size (Nat.le_refl _)⟩
set_option maxRecDepth 100000 in
set_option maxHeartbeats 400000 in
theorem putListF_any (A : Option Addr) (n c : Nat) (l : List Int) (B : Nat) (w : World) (ha : Shows w B 1 A n (I64 l)) (hB : B ≤ w.heap.size) (hn : n ≤ 65536)
    (hx : ∀ x ∈ l, -9223372036854775808 ≤ x ∧ x ≤ 9223372036854775807) :
    Calls Try.prog 16 #[.slice A n c] w (FreshB (putL l).length (U8 (putL l)) w) := by
  obtain ⟨i0, hi, hz0, hz1, hz2⟩ := info_parts infoU8
  have hl : l.length = n := by have := ha.len; simpa [I64] using this
  have Hl := Lib.hid hl
  have hl10 := Oct.putN_len10 (Oct.zig_lt n (by omega) (by omega))
  have Hx := Lib.hid hx
  clear hl hx
  go_enter Try.func16, Try.ntmps16
  go_wp2_with (go_at_call 12; refine (putF_any _ _ (by omega) (by omega)).mono ?_; rintro e w1 ⟨A1, c1, rfl, hf1, hbel1⟩)
  go_loopw [3, 11] (fun v i wr => ∃ (j m : Nat) (Aj : Option Addr) (cj : Nat), j ≤ n ∧ i = .int .i64 j ∧ v = .slice Aj m cj ∧ m ≤ 10 * j + 10 ∧ Full IsB wr w.heap.size 5 1 Aj m cj (U8 (Oct.putN (Oct.zig n) ++ putAll (l.take j))) ∧ Below w.heap.size w wr)
    (fun _ i _ => n - (intOf i).toNat)
  case atStart => exact ⟨0, _, A1, c1, by omega, rfl, rfl, by omega, by simpa [putAll] using hf1, hbel1⟩
  case round =>
    obtain ⟨j, m, Aj, cj, hj, rfl, rfl, hm, hf, hbel⟩ := hrel
    by_cases hlt : j < n
    · obtain ⟨b, off, rfl, hb, hcell⟩ := ha.at_ (by omega)
      obtain ⟨x, hxe⟩ : ∃ x, l[j]? = some x := ⟨l[j]'(by rw [Hl.out]; exact hlt), List.getElem?_eq_getElem _⟩
      have hcx := hcell j (by simp [I64, Hl.out]; omega)
      have hcx2 : wr.cell? ⟨b, off + j, none⟩ = some (.int .i64 x) := by
        rw [hbel.cell (show b < w.heap.size by omega), hcx]
        simp [I64, hxe]
      have hx1 := Hx.out x (List.mem_of_getElem? hxe)
      have hx10 := Oct.putN_len10 (Oct.zig_lt x hx1.1 hx1.2)
      have Hs := Lib.hid (putAll_take hxe)
      clear hcell hcx hxe
      go_wp2_with (first
        | (go_at_call 12; refine (putF_any _ _ hx1.1 hx1.2).mono ?_; rintro e w2 ⟨A2, c2, rfl, hf2, hbel2⟩)
        | (at_builtin; refine wpList_append_full _ rfl _ _ 23 rfl w.heap.size 5 i0 (.int .u8 0) 1 1 Try.underlying23 hi hz0 hz1 hz2 rfl (by decide) isB_zero Aj m cj _ rfl (hf.call hbel2) _ A2 _ c2 _ rfl (Shows.of_own hf2.owns) (nums_one _ _) (by unfold maxLen; omega) (by omega) (by have := hbel.size; have := hbel2.size; omega) ?_; intro A3 c3 w3 hf3 hg3))
      have hb3 : Below w.heap.size w w3 := full_rows (hf.call hbel2) hg3 (bel_call hbel hbel2) (by have := hbel.size; have := hbel2.size; omega) (Nat.le_refl _)
      go_roundw
      case rel => exact ⟨j + 1, _, A3, c3, by omega, by go_num, rfl, by omega, by rw [Hs.out]; simpa [U8] using hf3, hb3⟩
      case measure => simp [intOf]; omega
    · have hjn : j = n := by omega
      subst hjn
      go_wp2
      go_ret
      have e := hf.1
      have e2 : Oct.putN (Oct.zig j) ++ putAll (l.take j) = putL l := by rw [putL, Hl.out, List.take_of_length_le (by rw [Hl.out]; exact Nat.le_refl _)]
      rw [e2] at hf
      rw [e2] at e
      have hm2 : (putL l).length = m := by simpa [U8] using e
      rw [← hm2] at hf
      exact ⟨Aj, cj, by simp [hm2], hf, hbel⟩
end Go.Proofs.Ytnhiipiciondoaa
