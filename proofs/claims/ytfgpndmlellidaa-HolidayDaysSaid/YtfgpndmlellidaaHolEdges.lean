/- The walks of the document's 'covers', 'edges'. -/
import Derived.Test.YtfgpndmlellidaaHolBase
namespace Go.Proofs.Ytfgpndmlellidaa
open Go.RowKit

set_option maxRecDepth 100000 in
set_option maxHeartbeats 4000000 in
theorem covers_any (A : Option Addr) (n c : Nat) (l : List S6) (jj q d : Int) (B : Nat) (w : World) (ha : Shows w B 6 A n (RC l)) (hB : B ≤ w.heap.size) (hn : n ≤ maxLen) :
    Calls Try.prog 31 #[.slice A n c, .int .i64 jj, .int .i64 q, .int .i64 d] w fun e w' => e = .returned (.bool (Hol.cov l jj q d)) ∧ Below w.heap.size w w' := by
  rcases hA : Hol.asF l jj q d with _ | x
  · have hs := ras_any A n c l jj q d B w ha hB hn (xr := S6.zero) (bt := false) (by rw [hA]; rfl)
    have hr := Lib.hid (show Hol.cov l jj q d = false by unfold Hol.cov; rw [hA]; rfl)
    clear hA
    go_enter Try.func31, Try.ntmps31
    go_wp2_with fail
    refine hs.mono ?_
    rintro e w1 ⟨rfl, hb1⟩
    go_wp2_with fail
    go_ret
    exact ⟨by rw [hr.out]; rfl, bel_alloc hb1 _⟩
  · have hs := ras_any A n c l jj q d B w ha hB hn (xr := x) (bt := true) (by rw [hA]; rfl)
    have hr := Lib.hid (show Hol.cov l jj q d = true by unfold Hol.cov; rw [hA]; rfl)
    clear hA
    go_enter Try.func31, Try.ntmps31
    go_wp2_with fail
    refine hs.mono ?_
    rintro e w1 ⟨rfl, hb1⟩
    go_wp2_with fail
    go_ret
    exact ⟨by rw [hr.out]; rfl, bel_alloc hb1 _⟩
theorem info3 : (Try.prog.info? 3).map (fun i => (i.zero, i.size, i.bytes)) = some (some (.int .i64 0), 1, 8) := by kernel_rfl
theorem i64_append (a b : List Int) : I64 (a ++ b) = I64 a ++ I64 b := by simp [I64]
/-- The edges that are handed back. -/
def EdgesR (l : List S6) (a z : Int) (w : World) (e : Ending) (w' : World) : Prop := ∃ (xs : List Int) (A : Option Addr) (c : Nat), Hol.Edges l a z xs ∧ xs[xs.length - 1]? = some (z + 1) ∧ e = .returned (.slice A xs.length c) ∧ w'.ownsRow w.heap.size 3 1 (.slice A xs.length c) xs.length (I64 xs) ∧ Below w.heap.size w w'
set_option maxRecDepth 100000 in
set_option maxHeartbeats 16000000 in
theorem edges_any (A : Option Addr) (n c : Nat) (l : List S6) (a z : Int) (B : Nat) (w : World) (ha : Shows w B 6 A n (RC l)) (hB : B ≤ w.heap.size) (hn : n ≤ maxLen) (hf : Fit6 l) (h0 : 0 ≤ a) (haz : a ≤ z) (hz : z ≤ 3652058) :
    Calls Try.prog 30 #[.slice A n c, .int .i64 a, .int .i64 z] w (EdgesR l a z w) := by
  obtain ⟨i0, hi, hz0, hz1, hz2⟩ := info_parts info3
  have Hl := Lib.hid ha.num6
  have Hf := Lib.hid hf
  unfold maxLen at hn
  clear hf
  go_enter Try.func30, Try.ntmps30
  go_wp2_with fail
  go_loopw [7, 8] (fun s7 s8 wr => ∃ (xs : List Int) (u : Int) (A' : Option Addr) (c' : Nat), s7 = .slice A' xs.length c' ∧ s8 = .int .i64 u ∧ a ≤ u ∧ u ≤ z ∧ Hol.Edges l a z xs ∧ xs[xs.length - 1]? = some u ∧ wr.ownsRow w.heap.size 3 1 (.slice A' xs.length c') xs.length (I64 xs) ∧ Below w.heap.size w wr) (fun _ s8 _ => (z + 1 - intOf s8).toNat)
  case atStart => exact ⟨[a], a, _, _, rfl, rfl, Int.le_refl _, haz, Hol.edges_one l haz, rfl, (Block.new w 3 [.int .i64 a]).owns (Nat.le_refl _) rfl (by simp [maxLen]), bel_alloc (Below.refl _ _) _⟩
  case round =>
    obtain ⟨xs, u, A', c', rfl, rfl, u0, u1, hE, hlast, hown, hbel⟩ := hrel
    obtain ⟨wo, rfl⟩ : ∃ wo : World, wo = wr := ⟨_, rfl⟩
    have HE := Lib.hid hE
    have Hlast := Lib.hid hlast
    have hlen := Hol.edges_len hE
    have har := ha.call hbel hB
    obtain ⟨K, hK⟩ : ∃ K, xs.length = K := ⟨_, rfl⟩
    have HKK := Lib.hid hK
    rw [hK] at hown hlen ⊢
    clear hE hlast hK
    go_wp2_with fail
    go_loopw [9, 10] (fun s9 s10 wr => ∃ (k : Nat) (nx : Int), k ≤ n ∧ s9 = .int .i64 nx ∧ s10 = .int .i64 k ∧ Hol.nextE (l.take k) u (z + 1) = nx ∧ u < nx ∧ nx ≤ z + 1 ∧ wo = wr) (fun _ s10 _ => n - (intOf s10).toNat)
    case atStart => exact ⟨0, z + 1, by omega, rfl, rfl, rfl, by omega, Int.le_refl _, rfl⟩
    case round =>
      obtain ⟨k, nx, hk, rfl, rfl, hnx, n0, n1, rfl⟩ := hrel
      have Hnx := Lib.hid hnx
      clear hnx
      by_cases hlt : k < n
      · obtain ⟨x, hx⟩ : ∃ x, l[k]? = some x := ⟨l[k]'(by rw [Hl.out]; exact hlt), List.getElem?_eq_getElem _⟩
        have hst := Hol.nextE_take hx u (z + 1)
        rw [Hnx.out] at hst
        have hbd := Hol.edgeStep_bd n0 x
        have hin := Hf.out x (List.mem_of_getElem? hx)
        obtain ⟨_, _, ⟨ic0, ic1⟩, ⟨id0, id1⟩, _⟩ := hin
        obtain ⟨b, off, rfl, hb, g⟩ := har.six hx
        obtain ⟨c1, c2, c3, c4, c5, c6⟩ := g
        have q3 : (0 : Int) ≤ (k : Int) := by omega
        have q4 : (k : Int) < (n : Int) := by omega
        obtain ⟨bd1, bd2, _, _⟩ := hbd
        obtain ⟨nx2, hnx2⟩ : ∃ nx2, Hol.edgeStep u nx x = nx2 := ⟨_, rfl⟩
        rw [hnx2] at hst bd1 bd2
        have Hst := Lib.hid hst
        clear hst hx
        by_cases f1 : u < x.c
        rotate_left
        · skip
          by_cases e1 : u ≤ x.d
          rotate_left
          · skip
            have hv : nx2 = nx := by rw [← hnx2]; unfold Hol.edgeStep; simp only; split <;> split <;> omega
            have Hv := Lib.hid hv
            clear hv hnx2
            go_wp2_with fail
            go_roundw
            case rel => exact ⟨k + 1, nx2, by omega, by rw [Hv.out], by go_num, Hst.out, bd1, by omega, by first | trivial | rfl⟩
            case measure => simp [intOf]; omega
          by_cases e2 : x.d = 9223372036854775807
          · skip
            have hv : nx2 = nx := by rw [← hnx2]; unfold Hol.edgeStep; simp only; split <;> split <;> omega
            have Hv := Lib.hid hv
            clear hv hnx2
            have ew : IntKind.i64.wrap (x.d + 1) = -9223372036854775808 := by rw [e2]; decide
            have e3 : ¬ u < -9223372036854775808 := by omega
            rw [e2] at c4
            clear e2 e1 ew
            have ew : wrap64 9223372036854775808 = -9223372036854775808 := by decide +kernel
            go_wp2_with fail
            go_roundw
            case rel => exact ⟨k + 1, nx2, by omega, by rw [Hv.out], by go_num, Hst.out, bd1, by omega, by first | trivial | rfl⟩
            case measure => simp [intOf]; omega
          have e3 : x.d + 1 ≤ 9223372036854775807 := by omega
          have e4 : u < x.d + 1 := by omega
          by_cases e5 : x.d + 1 < nx
          · skip
            have hv : nx2 = x.d + 1 := by rw [← hnx2]; unfold Hol.edgeStep; simp only; split <;> split <;> omega
            have Hv := Lib.hid hv
            clear hv hnx2
            go_wp2_with fail
            go_roundw
            case rel => exact ⟨k + 1, nx2, by omega, by rw [Hv.out], by go_num, Hst.out, bd1, by omega, by first | trivial | rfl⟩
            case measure => simp [intOf]; omega
          · skip
            have hv : nx2 = nx := by rw [← hnx2]; unfold Hol.edgeStep; simp only; split <;> split <;> omega
            have Hv := Lib.hid hv
            clear hv hnx2
            go_wp2_with fail
            go_roundw
            case rel => exact ⟨k + 1, nx2, by omega, by rw [Hv.out], by go_num, Hst.out, bd1, by omega, by first | trivial | rfl⟩
            case measure => simp [intOf]; omega
        by_cases f2 : x.c < nx
        · skip
          by_cases e1 : u ≤ x.d
          rotate_left
          · skip
            have hv : nx2 = x.c := by rw [← hnx2]; unfold Hol.edgeStep; simp only; split <;> split <;> omega
            have Hv := Lib.hid hv
            clear hv hnx2
            go_wp2_with fail
            go_roundw
            case rel => exact ⟨k + 1, nx2, by omega, by rw [Hv.out], by go_num, Hst.out, bd1, by omega, by first | trivial | rfl⟩
            case measure => simp [intOf]; omega
          by_cases e2 : x.d = 9223372036854775807
          · skip
            have hv : nx2 = x.c := by rw [← hnx2]; unfold Hol.edgeStep; simp only; split <;> split <;> omega
            have Hv := Lib.hid hv
            clear hv hnx2
            have ew : IntKind.i64.wrap (x.d + 1) = -9223372036854775808 := by rw [e2]; decide
            have e3 : ¬ u < -9223372036854775808 := by omega
            rw [e2] at c4
            clear e2 e1 ew
            have ew : wrap64 9223372036854775808 = -9223372036854775808 := by decide +kernel
            go_wp2_with fail
            go_roundw
            case rel => exact ⟨k + 1, nx2, by omega, by rw [Hv.out], by go_num, Hst.out, bd1, by omega, by first | trivial | rfl⟩
            case measure => simp [intOf]; omega
          have e3 : x.d + 1 ≤ 9223372036854775807 := by omega
          have e4 : u < x.d + 1 := by omega
          by_cases e5 : x.d + 1 < x.c
          · skip
            have hv : nx2 = x.d + 1 := by rw [← hnx2]; unfold Hol.edgeStep; simp only; split <;> split <;> omega
            have Hv := Lib.hid hv
            clear hv hnx2
            go_wp2_with fail
            go_roundw
            case rel => exact ⟨k + 1, nx2, by omega, by rw [Hv.out], by go_num, Hst.out, bd1, by omega, by first | trivial | rfl⟩
            case measure => simp [intOf]; omega
          · skip
            have hv : nx2 = x.c := by rw [← hnx2]; unfold Hol.edgeStep; simp only; split <;> split <;> omega
            have Hv := Lib.hid hv
            clear hv hnx2
            go_wp2_with fail
            go_roundw
            case rel => exact ⟨k + 1, nx2, by omega, by rw [Hv.out], by go_num, Hst.out, bd1, by omega, by first | trivial | rfl⟩
            case measure => simp [intOf]; omega
        by_cases e1 : u ≤ x.d
        rotate_left
        · skip
          have hv : nx2 = nx := by rw [← hnx2]; unfold Hol.edgeStep; simp only; split <;> split <;> omega
          have Hv := Lib.hid hv
          clear hv hnx2
          go_wp2_with fail
          go_roundw
          case rel => exact ⟨k + 1, nx2, by omega, by rw [Hv.out], by go_num, Hst.out, bd1, by omega, by first | trivial | rfl⟩
          case measure => simp [intOf]; omega
        by_cases e2 : x.d = 9223372036854775807
        · skip
          have hv : nx2 = nx := by rw [← hnx2]; unfold Hol.edgeStep; simp only; split <;> split <;> omega
          have Hv := Lib.hid hv
          clear hv hnx2
          have ew : IntKind.i64.wrap (x.d + 1) = -9223372036854775808 := by rw [e2]; decide
          have e3 : ¬ u < -9223372036854775808 := by omega
          rw [e2] at c4
          clear e2 e1 ew
          have ew : wrap64 9223372036854775808 = -9223372036854775808 := by decide +kernel
          go_wp2_with fail
          go_roundw
          case rel => exact ⟨k + 1, nx2, by omega, by rw [Hv.out], by go_num, Hst.out, bd1, by omega, by first | trivial | rfl⟩
          case measure => simp [intOf]; omega
        have e3 : x.d + 1 ≤ 9223372036854775807 := by omega
        have e4 : u < x.d + 1 := by omega
        by_cases e5 : x.d + 1 < nx
        · skip
          have hv : nx2 = x.d + 1 := by rw [← hnx2]; unfold Hol.edgeStep; simp only; split <;> split <;> omega
          have Hv := Lib.hid hv
          clear hv hnx2
          go_wp2_with fail
          go_roundw
          case rel => exact ⟨k + 1, nx2, by omega, by rw [Hv.out], by go_num, Hst.out, bd1, by omega, by first | trivial | rfl⟩
          case measure => simp [intOf]; omega
        · skip
          have hv : nx2 = nx := by rw [← hnx2]; unfold Hol.edgeStep; simp only; split <;> split <;> omega
          have Hv := Lib.hid hv
          clear hv hnx2
          go_wp2_with fail
          go_roundw
          case rel => exact ⟨k + 1, nx2, by omega, by rw [Hv.out], by go_num, Hst.out, bd1, by omega, by first | trivial | rfl⟩
          case measure => simp [intOf]; omega
      · obtain rfl : k = n := by omega
        have hfin := Lib.hid (show Hol.nextE l u (z + 1) = nx by rw [← Hnx.out, List.take_of_length_le (by rw [Hl.out]; exact Nat.le_refl _)])
        have hE2 := Hol.edges_snoc HE.out Hlast.out u1
        rw [hfin.out] at hE2
        have HE2 := Lib.hid hE2
        have hlen2 := Hol.edges_len hE2
        rw [List.length_append, List.length_singleton, HKK.out] at hlen2
        have Hl2 : Hid ((xs ++ [nx]).length = K + 1) := by show _ = _; rw [List.length_append, List.length_singleton, HKK.out]
        have Hlast2 : Hid ((xs ++ [nx])[(xs ++ [nx]).length - 1]? = some nx) := by show _ = _; rw [Hl2.out, Nat.add_sub_cancel, List.getElem?_append_right (by rw [HKK.out]; exact Nat.le_refl _), HKK.out, Nat.sub_self]; rfl
        clear hE2
        by_cases hnz : z < nx
        · obtain rfl : nx = z + 1 := by omega
          go_wp2_with (at_builtin; refine wpList_append_own _ rfl _ _ 48 rfl w.heap.size 3 i0 (.int .i64 0) 1 8 Try.underlying48 hi hz0 hz1 hz2 rfl (by decide) (.slice A' K c') K (I64 xs) rfl (hown.alloc _) ⟨wo.heap.size, 0, none⟩ 1 1 [.int .i64 (z + 1)] rfl rfl ?c1 ?c2 ?c3 ?c4 ?c5 ?_)
          case c1 => exact cell_one_new _ _ _
          case c2 => exact one_is _ _
          case c3 => unfold maxLen; omega
          case c4 => omega
          case c5 => have := hbel.size; simp; omega
          intro v' w2 hown2 hg2 _
          obtain ⟨A2, c2, rfl, _⟩ := own_form hown2
          go_wp2_with fail
          go_ret
          exact ⟨xs ++ [z + 1], A2, c2, HE2.out, Hlast2.out, by rw [Hl2.out]; rfl, by rw [Hl2.out, i64_append]; exact hown2, bel_grown (bel_alloc hbel _) hg2 (fun g hg => (hown.lt g hg).1)⟩
        · go_wp2_with (at_builtin; refine wpList_append_own _ rfl _ _ 48 rfl w.heap.size 3 i0 (.int .i64 0) 1 8 Try.underlying48 hi hz0 hz1 hz2 rfl (by decide) (.slice A' K c') K (I64 xs) rfl (hown.alloc _) ⟨wo.heap.size, 0, none⟩ 1 1 [.int .i64 nx] rfl rfl ?d1 ?d2 ?d3 ?d4 ?d5 ?_)
          case d2 => first | exact one_is _ _ | rfl | simp [Value.oneCell']
          case d3 => unfold maxLen; omega
          case d4 => omega
          case d5 => have := hbel.size; simp; omega
          intro v' w2 hown2 hg2 _
          obtain ⟨A2, c2, rfl, _⟩ := own_form hown2
          go_wp2_with fail
          go_roundw
          case rel => exact ⟨xs ++ [nx], nx, A2, c2, by rw [Hl2.out], rfl, by omega, by omega, HE2.out, Hlast2.out, by rw [Hl2.out, i64_append]; exact hown2, bel_grown (bel_alloc hbel _) hg2 (fun g hg => (hown.lt g hg).1)⟩
          case measure => simp [intOf]; omega
end Go.Proofs.Ytfgpndmlellidaa
