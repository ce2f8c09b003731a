/- The walk of 'octet.Put': it hands back the bytes of the number, in new memory. No condition but that the number fits its kind. -/
import Derived.Test.YtnhiipiciondoaaOctBits
import Derived.Test.YtnhiipiciondoaaMem
namespace Go.Proofs.Ytnhiipiciondoaa
open Go.RowKit

theorem infoU8 : (Try.prog.info? 5).map (fun i => (i.zero, i.size, i.bytes)) = some (some (.int .u8 0), 1, 1) := by kernel_rfl
theorem put_step (acc : List Int) (k rank : Nat) (hk : acc ++ Oct.putN rank = Oct.putN k) (h : ¬ rank < 128) : (acc ++ [(rank : Int) % 128 + 128]) ++ Oct.putN (rank / 128) = Oct.putN k := by
  rw [← hk, Oct.putN_big h]
  have : ((rank % 128 + 128 : Nat) : Int) = (rank : Int) % 128 + 128 := by omega
  rw [this]; simp
set_option maxRecDepth 100000 in
set_option maxHeartbeats 400000 in
theorem put_any (n : Int) (w : World) (h0 : -9223372036854775808 ≤ n) (h1 : n ≤ 9223372036854775807) :
    Calls Try.prog 12 #[.int .i64 n] w (Fresh 5 1 (Oct.putN (Oct.zig n)).length (U8 (Oct.putN (Oct.zig n))) w) := by
  obtain ⟨i0, hi, hz0, hz1, hz2⟩ := info_parts infoU8
  have hx := Oct.zig_bits n h0 h1
  have hlt := Oct.zig_lt n h0 h1
  obtain ⟨k, hk⟩ : ∃ k, Oct.zig n = k := ⟨_, rfl⟩
  rw [hk] at hx hlt ⊢
  clear hk
  have hl10 := Oct.putN_len10 hlt
  go_enter Try.func12, Try.ntmps12
  go_wp2_with fail
  clear hx hlt h0 h1
  go_loopw [4, 3] (fun v r wr => ∃ (acc : List Int) (rank : Nat), acc ++ Oct.putN rank = Oct.putN k ∧ r = .int .u64 rank ∧ wr.ownsRow w.heap.size 5 1 v acc.length (U8 acc) ∧ Below w.heap.size w wr)
    (fun _ r _ => (intOf r).toNat)
  case atStart => 
    exact ⟨[], k, rfl, rfl, World.ownsRow_nil _ _ _ _, Below.refl _ _⟩
  case round =>
    obtain ⟨acc, rank, hacc, rfl, hown, hbel⟩ := hrel
    have Hacc := Lib.hid hacc; clear hacc
    have hal : acc.length + (Oct.putN rank).length = (Oct.putN k).length := by rw [← Hacc.out]; simp
    have hp1 := Oct.putN_pos rank
    by_cases hr : rank < 128
    · go_wp2_with (at_builtin; refine wpList_append_own _ rfl _ _ 23 rfl w.heap.size 5 i0 (.int .u8 0) 1 1 Try.underlying23 hi hz0 hz1 hz2 rfl (by decide) _ _ _ rfl (hown.alloc _) ⟨wr.heap.size, 0, none⟩ 1 1 [.int .u8 rank] rfl rfl ?c1 ?c2 ?c3 ?c4 ?c5 ?_)
      case c1 => exact (cell_one_new _ _ _)
      case c2 => exact one_is _ _
      case c3 => unfold maxLen; omega
      case c4 => omega
      case c5 => have := hbel.size; simp; omega
      intro v' w1 hown' hgrow _
      go_wp2
      go_ret
      have e := Hacc.out
      rw [Oct.putN_small hr] at e
      obtain ⟨A, c, rfl, _⟩ := own_form hown'
      rw [← e]
      refine ⟨A, c, by simp, ?_, ?_⟩
      · simpa [U8] using hown'
      · exact (hbel.alloc hbel.size _).grown hgrow (by have := hbel.size; simp; omega) (fun g hg => (hown.lt g hg).1)
    · have hb8 := Oct.u8_or128 ((rank : Int) % 256) (by omega) (by omega)
      rw [show (rank : Int) % 256 % 128 = (rank : Int) % 128 by omega] at hb8
      go_wp2_with (at_builtin; refine wpList_append_own _ rfl _ _ 23 rfl w.heap.size 5 i0 (.int .u8 0) 1 1 Try.underlying23 hi hz0 hz1 hz2 rfl (by decide) _ _ _ rfl (hown.alloc _) ⟨wr.heap.size, 0, none⟩ 1 1 [.int .u8 ((rank : Int) % 128 + 128)] rfl rfl ?c1 ?c2 ?c3 ?c4 ?c5 ?_)
      case c1 => exact (cell_one_new _ _ _)
      case c2 => exact one_is _ _
      case c3 => unfold maxLen; omega
      case c4 => omega
      case c5 => have := hbel.size; simp; omega
      intro v' w1 hown' hgrow _
      have hb' := (hbel.alloc hbel.size (.cells #[.int .u8 ((rank : Int) % 128 + 128)] 5)).grown hgrow (by have := hbel.size; simp; omega) (fun g hg => (hown.lt g hg).1)
      have hs := Lib.hid (put_step acc k rank Hacc.out hr)
      clear hgrow hown hb8
      go_wp2
      go_roundw
      case rel => exact ⟨acc ++ [(rank : Int) % 128 + 128], rank / 128, hs.out, by simp, by simpa [U8] using hown', hb'⟩
      case measure => simp [intOf]; omega
end Go.Proofs.Ytnhiipiciondoaa
