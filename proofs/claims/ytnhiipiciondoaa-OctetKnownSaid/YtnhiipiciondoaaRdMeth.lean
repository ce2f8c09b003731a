/- The walks of a reader's methods. -/
import Derived.Test.YtnhiipiciondoaaRdNone
namespace Go.Proofs.Ytnhiipiciondoaa
open Go.RowKit Go.Lib

/-- A number is read between two bounds: its value, the reader's place and fault behind it. -/
def rdN (g : Int × Int × Int × Int) (at_ fe fa low high above : Int) : Int × Int × Int × Int :=
  if fe ≠ 0 then (0, at_, fe, fa) else if (nfault g at_ low high above).1 = 0 then (g.1, g.2.1, 0, fa) else (0, at_, (nfault g at_ low high above).1, (nfault g at_ low high above).2)
/-- A text is read. -/
def rdT (g : List Int × Int × Int × Int) (at_ fe fa : Int) : List Int × Int × Int × Int :=
  if fe ≠ 0 then ([], at_, fe, fa) else if g.2.2.1 = 0 then (g.1, g.2.1, 0, fa) else ([], at_, g.2.2.1, g.2.2.2)
theorem Shows.kept {w w' : World} {B R size n : Nat} {A : Option Addr} {xs : List Value} (h : Shows w B size A n xs) (hg : w.grownBy w' (some R)) (hBR : B ≤ R) (hB : B ≤ w.heap.size) : Shows w' B size A n xs := h.same fun p hp => by
  unfold World.cell?
  rw [hg.block p.block (by omega) (by intro e; injection e with e; omega)]
theorem Block.kept {w w' : World} {g R : Nat} {t : TypeId} {cs : List Value} (h : Block w g t cs) (hg : w.grownBy w' (some R)) (hne : g ≠ R) : Block w' g t cs := (hg.block g h.lt (by intro e; injection e with e; exact hne e)).trans h
theorem RdPost.low {R : Nat} {A : Option Addr} {n c : Nat} {at_ fe fa : Int} {v : Value} {w W : World} {e : Ending} {w' : World} (h : RdPost R A n c at_ fe fa v W e w') (hb : Below w.heap.size w W) : RdPost R A n c at_ fe fa v w e w' :=
  ⟨h.1, (grown_of_below hb (some R)).trans h.2.1, h.2.2⟩
set_option maxRecDepth 100000 in
set_option maxHeartbeats 4000000 in
theorem number_made (R : Nat) (A : Option Addr) (n c : Nat) (xs : List Int) (at_ fe fa low high above : Int) (B : Nat) (w : World) (hR : RD w R A n c at_ fe fa true) (ha : Shows w B 1 A n (U8 xs)) (hB : B ≤ w.heap.size) (hn : n ≤ maxLen) (hc : n ≤ c) (hx : ∀ x ∈ xs, 0 ≤ x ∧ x ≤ 255) (a0 : 0 ≤ at_) (a1 : at_ ≤ 9223372036854775807)
    {v a' e' p' : Int} (hst : rdN (Oct.getB xs at_) at_ fe fa low high above = (v, a', e', p')) :
    Calls Try.prog 50 #[.pointer (some ⟨R, 0, none⟩), .int .i64 low, .int .i64 high, .int .i64 above] w (RdPost R A n c a' e' p' (.int .i64 v) w) := by
  have bel := bel_alloc (bel_alloc (bel_alloc (bel_alloc (Below.refl _ w) (.cells #[.pointer (some ⟨R, 0, none⟩)] 48)) (.cells #[.int .i64 low] 3)) (.cells #[.int .i64 high] 3)) (.cells #[.int .i64 above] 35)
  have hRW : RD ((((w.alloc (.cells #[.pointer (some ⟨R, 0, none⟩)] 48)).alloc (.cells #[.int .i64 low] 3)).alloc (.cells #[.int .i64 high] 3)).alloc (.cells #[.int .i64 above] 35)) R A n c at_ fe fa true := (((Block.alloc hR _).alloc _).alloc _).alloc _
  have hmf := mkf
  by_cases h0 : fe = 0
  · subst h0
    obtain ⟨q0, q1, q2, q3, hr⟩ : ∃ q0 q1 q2 q3, Oct.getB xs at_ = (q0, q1, q2, q3) := ⟨_, _, _, _, rfl⟩
    obtain ⟨f1, f2, hf⟩ : ∃ f1 f2, nfault (q0, q1, q2, q3) at_ low high above = (f1, f2) := ⟨_, _, rfl⟩
    unfold rdN at hst
    rw [if_neg (by simp), hr, hf] at hst
    simp only at hst
    have haW : Shows ((((w.alloc (.cells #[.pointer (some ⟨R, 0, none⟩)] 48)).alloc (.cells #[.int .i64 low] 3)).alloc (.cells #[.int .i64 high] 3)).alloc (.cells #[.int .i64 above] 35)) B 1 A n (U8 xs) := ha.below (bel.mono hB)
    have K0 : Block ((((w.alloc (.cells #[.pointer (some ⟨R, 0, none⟩)] 48)).alloc (.cells #[.int .i64 low] 3)).alloc (.cells #[.int .i64 high] 3)).alloc (.cells #[.int .i64 above] 35)) w.heap.size 48 [.pointer (some ⟨R, 0, none⟩)] := (((Block.new w _ _).alloc _).alloc _).alloc _
    have K1 : Block ((((w.alloc (.cells #[.pointer (some ⟨R, 0, none⟩)] 48)).alloc (.cells #[.int .i64 low] 3)).alloc (.cells #[.int .i64 high] 3)).alloc (.cells #[.int .i64 above] 35)) (w.heap.size + 1) 3 [.int .i64 low] := ((block_top (by simp)).alloc _).alloc _
    have K2 : Block ((((w.alloc (.cells #[.pointer (some ⟨R, 0, none⟩)] 48)).alloc (.cells #[.int .i64 low] 3)).alloc (.cells #[.int .i64 high] 3)).alloc (.cells #[.int .i64 above] 35)) (w.heap.size + 1 + 1) 3 [.int .i64 high] := (block_top (by simp)).alloc _
    have K3 : Block ((((w.alloc (.cells #[.pointer (some ⟨R, 0, none⟩)] 48)).alloc (.cells #[.int .i64 low] 3)).alloc (.cells #[.int .i64 high] 3)).alloc (.cells #[.int .i64 above] 35)) (w.heap.size + 1 + 1 + 1) 35 [.int .i64 above] := block_top (by simp)
    have hsz := bel.size
    have hcl := fun (w1 : World) (hb : Below (World.heap ((((w.alloc (.cells #[.pointer (some ⟨R, 0, none⟩)] 48)).alloc (.cells #[.int .i64 low] 3)).alloc (.cells #[.int .i64 high] 3)).alloc (.cells #[.int .i64 above] 35))).size ((((w.alloc (.cells #[.pointer (some ⟨R, 0, none⟩)] 48)).alloc (.cells #[.int .i64 low] 3)).alloc (.cells #[.int .i64 high] 3)).alloc (.cells #[.int .i64 above] 35)) w1) => number1_any w.heap.size (w.heap.size + 1 + 1) (w.heap.size + 1 + 1 + 1) (w.heap.size + 1) R A n c xs at_ 0 fa low high above true B w1 ((K0.call hb).cell 0) ((K2.call hb).cell 0) ((K3.call hb).cell 0) ((K1.call hb).cell 0) (Block.call hRW hb) (haW.call hb (Nat.le_trans hB hsz)) (Nat.le_trans hB (Nat.le_trans hsz hb.size)) hn hc hx a0 a1 hr hf
    by_cases h1 : f1 = 0
    · subst h1
      rw [if_pos rfl] at hst
      have Hst := Lib.hid hst
      have hrd := read_int_ok R A n c at_ fa #[.pointer (some ⟨w.heap.size, 0, none⟩), .pointer (some ⟨w.heap.size + 1 + 1, 0, none⟩), .pointer (some ⟨w.heap.size + 1 + 1 + 1, 0, none⟩), .pointer (some ⟨w.heap.size + 1, 0, none⟩)] q0 q1 f2 _ hRW hcl
      clear hst hcl K0 K1 K2 K3 hr hf
      go_enter Try.func50, Try.ntmps50
      go_wp2_with fail
      refine hrd.mono ?_
      rintro e w1 ⟨rfl, hg, hR1⟩
      go_wp2_with fail
      go_ret
      have h := Hst.out
      simp only [Prod.mk.injEq] at h
      obtain ⟨rfl, rfl, rfl, rfl⟩ := h
      exact RdPost.low ⟨rfl, hg, hR1⟩ bel
    · rw [if_neg h1] at hst
      have Hst := Lib.hid hst
      have hrd := read_int_bad R A n c at_ fa #[.pointer (some ⟨w.heap.size, 0, none⟩), .pointer (some ⟨w.heap.size + 1 + 1, 0, none⟩), .pointer (some ⟨w.heap.size + 1 + 1 + 1, 0, none⟩), .pointer (some ⟨w.heap.size + 1, 0, none⟩)] q0 q1 f1 f2 _ hRW h1 hcl
      clear hst hcl K0 K1 K2 K3 hr hf h1
      go_enter Try.func50, Try.ntmps50
      go_wp2_with fail
      refine hrd.mono ?_
      rintro e w1 ⟨rfl, hg, hR1⟩
      go_wp2_with fail
      go_ret
      have h := Hst.out
      simp only [Prod.mk.injEq] at h
      obtain ⟨rfl, rfl, rfl, rfl⟩ := h
      exact RdPost.low ⟨rfl, hg, hR1⟩ bel
  · unfold rdN at hst
    rw [if_pos h0] at hst
    have Hst := Lib.hid hst
    have hrd := fun fv => read_int_err R A n c at_ fe fa fv _ hRW h0
    clear hst h0
    go_enter Try.func50, Try.ntmps50
    go_wp2_with fail
    refine (hrd _).mono ?_
    rintro e w1 ⟨rfl, hg, hR1⟩
    go_wp2_with fail
    go_ret
    have h := Hst.out
    simp only [Prod.mk.injEq] at h
    obtain ⟨rfl, rfl, rfl, rfl⟩ := h
    exact RdPost.low ⟨rfl, hg, hR1⟩ bel
set_option maxRecDepth 100000 in
set_option maxHeartbeats 2000000 in
theorem int_made (R : Nat) (A : Option Addr) (n c : Nat) (xs : List Int) (at_ fe fa low high : Int) (B : Nat) (w : World) (hR : RD w R A n c at_ fe fa true) (ha : Shows w B 1 A n (U8 xs)) (hB : B ≤ w.heap.size) (hn : n ≤ maxLen) (hc : n ≤ c) (hx : ∀ x ∈ xs, 0 ≤ x ∧ x ≤ 255) (a0 : 0 ≤ at_) (a1 : at_ ≤ 9223372036854775807)
    {v a' e' p' : Int} (hst : rdN (Oct.getB xs at_) at_ fe fa low high 5 = (v, a', e', p')) :
    Calls Try.prog 34 #[.pointer (some ⟨R, 0, none⟩), .int .i64 low, .int .i64 high] w (RdPost R A n c a' e' p' (.int .i64 v) w) := by
  have hm := number_made R A n c xs at_ fe fa low high 5 B w hR ha hB hn hc hx a0 a1 hst
  clear hst
  go_enter Try.func34, Try.ntmps34
  go_wp2_with fail
  refine hm.mono ?_
  rintro e w1 ⟨rfl, hg, hR1⟩
  go_wp2_with fail
  go_ret
  exact ⟨rfl, hg, hR1⟩
set_option maxRecDepth 100000 in
set_option maxHeartbeats 2000000 in
theorem count_made (R : Nat) (A : Option Addr) (n c : Nat) (xs : List Int) (at_ fe fa high : Int) (B : Nat) (w : World) (hR : RD w R A n c at_ fe fa true) (ha : Shows w B 1 A n (U8 xs)) (hB : B ≤ w.heap.size) (hn : n ≤ maxLen) (hc : n ≤ c) (hx : ∀ x ∈ xs, 0 ≤ x ∧ x ≤ 255) (a0 : 0 ≤ at_) (a1 : at_ ≤ 9223372036854775807)
    {v a' e' p' : Int} (hst : rdN (Oct.getB xs at_) at_ fe fa 0 high 3 = (v, a', e', p')) :
    Calls Try.prog 38 #[.pointer (some ⟨R, 0, none⟩), .int .i64 high] w (RdPost R A n c a' e' p' (.int .i64 v) w) := by
  have hm := number_made R A n c xs at_ fe fa 0 high 3 B w hR ha hB hn hc hx a0 a1 hst
  clear hst
  go_enter Try.func38, Try.ntmps38
  go_wp2_with fail
  refine hm.mono ?_
  rintro e w1 ⟨rfl, hg, hR1⟩
  go_wp2_with fail
  go_ret
  exact ⟨rfl, hg, hR1⟩
set_option maxRecDepth 100000 in
set_option maxHeartbeats 2000000 in
theorem at_made (R : Nat) (A : Option Addr) (n c : Nat) (at_ fe fa : Int) (w : World) (hR : RD w R A n c at_ fe fa true) : Calls Try.prog 35 #[.pointer (some ⟨R, 0, none⟩)] w fun e w' => e = .returned (.int .i64 at_) ∧ w = w' := by
  have hn := none_any R A n c at_ fe fa true w hR
  have c1 : w.cell? ⟨R, 1, none⟩ = some (.int .i64 at_) := Block.cell hR 1
  go_enter Try.func35, Try.ntmps35
  go_wp2_with fail
  refine hn.mono ?_
  rintro e w1 ⟨rfl, rfl⟩
  go_wp2_with fail
  go_ret
  exact ⟨rfl, rfl⟩
set_option maxRecDepth 100000 in
set_option maxHeartbeats 2000000 in
theorem rfault_made (R : Nat) (A : Option Addr) (n c : Nat) (at_ fe fa : Int) (w : World) (hR : RD w R A n c at_ fe fa true) : Calls Try.prog 36 #[.pointer (some ⟨R, 0, none⟩)] w fun e w' => e = .returned (.agg #[.int .i64 fe, .int .i64 fa]) ∧ Below w.heap.size w w' := by
  have lR := Block.lt hR
  have hn := none_any R A n c at_ fe fa true _ (Block.alloc hR (.cells #[.int .i64 0, .int .i64 0] 37))
  have c2 : w.cell? ⟨R, 2, none⟩ = some (.int .i64 fe) := Block.cell hR 2
  have c3 : w.cell? ⟨R, 3, none⟩ = some (.int .i64 fa) := Block.cell hR 3
  go_enter Try.func36, Try.ntmps36
  go_wp2_with fail
  refine hn.mono ?_
  rintro e w1 ⟨rfl, rfl⟩
  go_wp2_with fail
  exact ret_c (T := 37) rfl rfl rfl (Block.new w 37 [.int .i64 fe, .int .i64 fa]) agg_fault size_fault ⟨rfl, bel_alloc (Below.refl _ _) _⟩
/-- What 'End' tells. -/
def rdE (n : Nat) (at_ fe fa : Int) : Int × Int := if fe = 0 ∧ at_ < (n : Int) then (4, at_) else (fe, fa)
end Go.Proofs.Ytnhiipiciondoaa
