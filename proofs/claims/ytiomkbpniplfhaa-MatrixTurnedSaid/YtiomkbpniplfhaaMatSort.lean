/- The walks of 'matrix.Sort' and of what it calls: slices.Clone, Reverse, SortStableFunc, CompactFunc. -/
import Derived.Test.YtiomkbpniplfhaaMatSrtPlain
import Derived.Shelf.SlicesQ.Reverse
namespace Go.Proofs.Ytiomkbpniplfhaa
open Go.Shelf Go.RowKit Go.Sort

set_option maxRecDepth 100000 in
set_option maxHeartbeats 2000000 in
theorem clone_any (A : Option Addr) (n c : Nat) (l : List S6) (B : Nat) (w : World) (ha : Shows w B 6 A n (RC l)) (hB : B ≤ w.heap.size) (hn : n ≤ 1000000) :
    Calls Try.prog 35 #[.slice A n c] w (Fresh 28 6 n (RC l) w) := by
  obtain ⟨i0, hi, hz0, hz1, hz2⟩ := info_parts infoR
  rcases A with _ | ad
  · have h0 : n = 0 := by
      rcases Nat.eq_zero_or_pos n with h0 | h0
      · exact h0
      · obtain ⟨_, _, h, _⟩ := ha.2 h0
        cases h
    have hl : l = [] := List.eq_nil_of_length_eq_zero (by rw [ha.num6, h0])
    subst hl
    subst h0
    go_enter Try.func35, Try.ntmps35
    have hnil := fun w => Lib.run_eql_slice_nil (P := Try.prog) w 22 28 none 0 c 0 0 Try.underlying22
    go_wp2_with fail
    go_ret
    exact ⟨none, 0, rfl, World.ownsRow_nil _ _ _ _, Below.refl _ _⟩
  · have hnil := fun w => Lib.run_eql_slice_nil (P := Try.prog) w 22 28 (some ad) n c 0 0 Try.underlying22
    go_enter Try.func35, Try.ntmps35
    have ho : (w.alloc (.cells #[] 28)).ownsRow w.heap.size 28 6 (.slice (some ⟨w.heap.size, 0, none⟩) 0 0) 0 [] := (show Block _ _ 28 [] from Block.new w 28 []).owns (Nat.le_refl _) rfl (Nat.zero_le _)
    go_wp2_with (at_builtin; refine wpList_append_shows _ rfl _ _ 22 rfl w.heap.size 28 i0 (.agg #[.int .i64 0, .int .i64 0, .int .i64 0, .int .i64 0, .int .i64 0, .int .i64 0]) 6 48 Try.underlying22 hi hz0 hz1 hz2 rfl (by decide) (.slice (some ⟨w.heap.size, 0, none⟩) 0 0) 0 [] rfl ho B (some ad) n c (RC l) rfl (ha.alloc hB _) (rc_one _) (by unfold maxLen; omega) (by omega) (by simp) ?_; intro A2 c2 w2 hown2 hg2)
    go_ret
    exact ⟨A2, c2, by simp, by simpa using hown2, bel_grown (bel_alloc (Below.refl _ _) _) hg2 (fun g hg => by simp [Value.ownBlock] at hg; omega)⟩
def revRen : Go.Shelf.Ren := ⟨fun | 35 => 36 | n => n, fun | 22 => 22 | 23 => 28 | 0 => 0 | 3 => 3 | 4 => 4 | n => n, fun | n => n⟩
theorem rev_lays : SlLaysE0.n35 Try.prog revRen where
  mixed := by kernel_rfl
  f35 := ⟨Try.f36.name, by kernel_rfl, Try.func36.trans (congrArg some (by kernel_rfl))⟩
  t0 := Try.underlying0
  a0 := Try.isAgg0
  z0 := Try.sizeOf0
  v0 := Try.zeroValue0
  t3 := Try.underlying3
  a3 := Try.isAgg3
  z3 := Try.sizeOf3
  v3 := Try.zeroValue3
  t4 := Try.underlying4
  a4 := Try.isAgg4
  z4 := Try.sizeOf4
  v4 := Try.zeroValue4
  t22 := Try.underlying22
  a22 := Try.isAgg22
  z22 := Try.sizeOf22
  v22 := Try.zeroValue22
theorem reverse_any (g n c : Nat) (l : List S6) (junk : List Value) (w : World) (hrow : RowS w g l junk) (hl : l.length = n) (hn : n ≤ 1000000) :
    Calls Try.prog 36 #[.slice (some ⟨g, 0, none⟩) n c] w fun e w' => e = .returned (.tuple #[]) ∧ SWK S6.cs 6 w g 0 l.reverse.toArray w' := by
  have h := AnyQ.slices_Reverse rev_lays 6 Try.isAgg28 Try.sizeOf28 S6.cs cs_len cs_one g 0 c l.toArray w (holds_of_row hrow) (by simp; omega)
  have h : Calls Try.prog 36 #[.slice (some ⟨g, 0, none⟩) l.toArray.size c] w fun e w' => e = .returned (.tuple #[]) ∧ ∃ n, w' = putRowK S6.cs 6 (Sort.ahead w n) g 0 l.toArray.reverse := h
  rw [show l.toArray.size = n by simpa using hl] at h
  refine h.mono ?_
  rintro e w' ⟨he, m, rfl⟩
  refine ⟨he, m, #[], ?_⟩
  unfold sortWorldK
  rw [grow_empty, List.reverse_toArray]
set_option maxRecDepth 100000 in
set_option maxHeartbeats 1000000 in
theorem reverse_nil (A : Option Addr) (c : Nat) (w : World) : Calls Try.prog 36 #[.slice A 0 c] w fun e w' => e = .returned (.tuple #[]) ∧ w = w' := by
  go_enter Try.func36, Try.ntmps36
  go_wp2_with fail
  refine wp_loop_rounds 1 ?_
  rw [rounds_succ]
  go_wp2_with fail
  go_end0
  exact ⟨rfl, rfl⟩
set_option maxRecDepth 100000 in
set_option maxHeartbeats 1000000 in
theorem insertion_nil (A : Option Addr) (c : Nat) (w : World) : Calls Try.prog 49 #[.slice A 0 c, .int .i64 0, .int .i64 0, .func (.func 27) #[] #[]] w fun e w' => e = .returned (.tuple #[]) ∧ w = w' := by
  go_enter Try.func49, Try.ntmps49
  go_wp2_with fail
  refine wp_loop_rounds 1 ?_
  rw [rounds_succ]
  go_wp2_with fail
  go_end0
  exact ⟨rfl, rfl⟩
set_option maxRecDepth 100000 in
set_option maxHeartbeats 1000000 in
theorem stable_nil (A : Option Addr) (c : Nat) (w : World) : Calls Try.prog 47 #[.slice A 0 c, .int .i64 0, .func (.func 27) #[] #[]] w fun e w' => e = .returned (.tuple #[]) ∧ w = w' := by
  have hc := fun w => insertion_nil A c w
  go_enter Try.func47, Try.ntmps47
  go_wp2_with fail
  refine wp_loop_rounds 1 ?_
  rw [rounds_succ]
  go_wp2_with (first | (go_at_call 49; refine (hc _).mono ?_; rintro e w1 ⟨rfl, rfl⟩))
  refine wp_loop_rounds 1 ?_
  rw [rounds_succ]
  go_wp2_with fail
  go_end0
  exact ⟨rfl, rfl⟩
set_option maxRecDepth 100000 in
set_option maxHeartbeats 1000000 in
theorem sort_nil (A : Option Addr) (c : Nat) (w : World) : Calls Try.prog 37 #[.slice A 0 c, .func (.func 27) #[] #[]] w fun e w' => e = .returned (.tuple #[]) ∧ w = w' := by
  have hc := fun w => stable_nil A c w
  go_enter Try.func37, Try.ntmps37
  go_wp2_with (first | (go_at_call 47; refine (hc _).mono ?_; rintro e w1 ⟨rfl, rfl⟩))
  go_end0
  exact ⟨rfl, rfl⟩
set_option maxRecDepth 100000 in
set_option maxHeartbeats 1000000 in
theorem compact_nil (A : Option Addr) (c : Nat) (w : World) : Calls Try.prog 38 #[.slice A 0 c, .func (Fn.func 39) #[] #[]] w fun e w' => e = .returned (.slice A 0 c) ∧ w = w' := by
  go_enter Try.func38, Try.ntmps38
  go_wp2_with fail
  go_ret
  exact ⟨rfl, rfl⟩
set_option maxRecDepth 100000 in
set_option maxHeartbeats 2000000 in
theorem msort_any (A : Option Addr) (n c : Nat) (l : List S6) (B : Nat) (w : World) (ha : Shows w B 6 A n (RC l)) (hB : B ≤ w.heap.size) (hn : n ≤ 1000000) :
    Calls Try.prog 23 #[.slice A n c] w (Fresh 28 6 (Mat.srt l).length (RC (Mat.srt l)) w) := by
  have hl := ha.num6
  have hcl := clone_any A n c l B w ha hB hn
  clear ha
  go_enter Try.func23, Try.ntmps23
  go_wp2_with fail
  refine hcl.mono ?_
  rintro e w1 ⟨A1, c1, rfl, ho1, hb1⟩
  rcases own_row ho1 with ⟨rfl, hn0, rfl, hl0⟩ | ⟨g, junk, rfl, hg1, hg2, hrow, hnc, hcm, hj⟩
  · subst hl0
    subst hn0
    go_wp2_with fail
    refine (reverse_nil _ _ _).mono ?_
    rintro e w2 ⟨rfl, rfl⟩
    go_wp2_with fail
    refine (sort_nil _ _ _).mono ?_
    rintro e w2 ⟨rfl, rfl⟩
    go_wp2_with fail
    refine (compact_nil _ _ _).mono ?_
    rintro e w2 ⟨rfl, rfl⟩
    go_wp2_with fail
    go_ret
    exact ⟨none, 0, rfl, World.ownsRow_nil _ _ _ _, hb1⟩
  · have hl1 : l.toArray.size = n := by simpa using hl
    go_wp2_with fail
    refine (reverse_any g n c1 l junk _ hrow hl hn).mono ?_
    rintro e w2 ⟨rfl, hS2⟩
    go_wp2_with fail
    refine (sortProg.sortStable S6.cs Mat.ord ord_swo 27 #[] g 0 c1 n l.toArray w1 _ order_enters (order_lays g _ w1) (rowK_of_row hrow) hl1 hn l.reverse (by simpa using hl) hS2).mono ?_
    rintro e w3 ⟨rfl, T, hS3, hT, hst⟩
    obtain ⟨hrow3, hgr3⟩ := row_of_swk hrow (by omega) hS3
    go_wp2_with fail
    refine (compact_any g n c1 T junk _ hrow3 hT hn hnc).mono ?_
    rintro e w4 ⟨rfl, hgr4, junk4, hrow4, hj4⟩
    go_wp2_with fail
    go_ret
    rw [Mat.dd_stab hst] at hrow4 hj4
    refine ⟨some ⟨g, 0, none⟩, c1, ?_, row_own hrow4 rfl (by omega) hcm (by omega), bel_grown hb1 (hgr3.trans hgr4) (fun k hk => by injection hk with hk; omega)⟩
    rw [← Mat.dd_stab hst]; rfl
end Go.Proofs.Ytiomkbpniplfhaa
