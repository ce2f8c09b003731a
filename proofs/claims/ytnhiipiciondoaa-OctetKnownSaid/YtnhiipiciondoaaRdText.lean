/- The walks of a reader's 'Text', 'End', of 'New'. -/
import Derived.Test.YtnhiipiciondoaaRdMeth
namespace Go.Proofs.Ytnhiipiciondoaa
open Go.RowKit Go.Lib

set_option maxRecDepth 100000 in
set_option maxHeartbeats 4000000 in
theorem text1_any (g0 g1 R : Nat) (A : Option Addr) (n c : Nat) (xs : List Int) (at_ fe fa most : Int) (made : Bool) (B : Nat) (w : World)
    (h0 : w.cell? ⟨g0, 0, none⟩ = some (.pointer (some ⟨R, 0, none⟩))) (h1 : w.cell? ⟨g1, 0, none⟩ = some (.int .i64 most))
    (hR : RD w R A n c at_ fe fa made) (ha : Shows w B 1 A n (U8 xs)) (hB : B ≤ w.heap.size) (hn : n ≤ 70000) (hc : n ≤ c) (hx : ∀ x ∈ xs, 0 ≤ x ∧ x ≤ 255) (a0 : 0 ≤ at_) (a1 : at_ ≤ 9223372036854775807) {s : List Int} {q1 q2 q3 : Int} (hr : getT xs at_ most = (s, q1, q2, q3)) :
    Calls Try.prog 53 #[.pointer (some ⟨g0, 0, none⟩), .pointer (some ⟨g1, 0, none⟩)] w fun e w' =>
      e = .returned (.tuple #[.string (strOfNums s), .int .i64 q1, .agg #[.int .i64 q2, .int .i64 q3]]) ∧ Below w.heap.size w w' := by
  have l0 := World.block_lt_of_cell? w _ h0
  have l1 := World.block_lt_of_cell? w _ h1
  have lR := Block.lt hR
  simp only at l0 l1
  have c0 : w.cell? ⟨R, 0, none⟩ = some (.slice A n c) := Block.cell hR 0
  have c1 : w.cell? ⟨R, 1, none⟩ = some (.int .i64 at_) := Block.cell hR 1
  have hA1 := text_is (c := c) hr (show Shows ((w.alloc (.cells #[.int .i64 0, .int .i64 0] 37)).drew) B 1 A n (U8 xs) from (ha.alloc hB _).drew) (by simp; omega) hn hc hx (by omega) a1
  have n1 : ¬ w.heap.size = g0 := by omega
  have n2 : ¬ g0 = w.heap.size := by omega
  have n3 : ¬ w.heap.size = R := by omega
  have n4 : ¬ R = w.heap.size := by omega
  have n5 : ¬ w.heap.size = g1 := by omega
  have n6 : ¬ g1 = w.heap.size := by omega
  clear hr ha hx
  go_enter Try.func53, Try.ntmps53
  go_wp2_with fail
  go_region_held3 (fun w' => w'.cell? ⟨g0, 0, none⟩ = some (.pointer (some ⟨R, 0, none⟩)) ∧ w'.cell? ⟨R, 0, none⟩ = some (.slice A n c) ∧ w'.cell? ⟨R, 1, none⟩ = some (.int .i64 at_) ∧ w'.cell? ⟨g1, 0, none⟩ = some (.int .i64 most)) (go_keep) (first
    | (go_at_call 25; refine hA1.mono ?_; rintro e w1 ⟨rfl, hb1⟩; have bel1 := bel_call (w := w) (bel_drewN (bel_alloc (Below.refl _ _) _) 1) hb1; have k0 := (bel1.cell (p := ⟨g0, 0, none⟩) l0).trans h0; have k1 := (bel1.cell (p := ⟨R, 0, none⟩) lR).trans c0; have k2 := (bel1.cell (p := ⟨R, 1, none⟩) lR).trans c1; have k3 := (bel1.cell (p := ⟨g1, 0, none⟩) l1).trans h1; have kz := Block.call (w := ((w.alloc (.cells #[.int .i64 0, .int .i64 0] 37)).drew)) (g := w.heap.size) (t := 37) (cs := [.int .i64 0, .int .i64 0]) (Block.new w 37 [.int .i64 0, .int .i64 0]) hb1; have z0 : w1.cell? ⟨w.heap.size, 0, none⟩ = some (.int .i64 0) := kz.cell 0; have z1 : w1.cell? ⟨w.heap.size, 1, none⟩ = some (.int .i64 0) := kz.cell 1; have zf := kz.free))
  go_wp2_with fail
  exact ret_ttc (T := 37) rfl rfl rfl ((kz.set 0 (.int .i64 q2)).set 1 (.int .i64 q3)) agg_fault size_fault ⟨rfl, bel_set (bel_set bel1 (Nat.le_refl _) _) (Nat.le_refl _) _⟩
set_option maxRecDepth 100000 in
set_option maxHeartbeats 4000000 in
theorem text_made (R : Nat) (A : Option Addr) (n c : Nat) (xs : List Int) (at_ fe fa most : Int) (B : Nat) (w : World) (hR : RD w R A n c at_ fe fa true) (ha : Shows w B 1 A n (U8 xs)) (hB : B ≤ w.heap.size) (hn : n ≤ 70000) (hc : n ≤ c) (hx : ∀ x ∈ xs, 0 ≤ x ∧ x ≤ 255) (a0 : 0 ≤ at_) (a1 : at_ ≤ 9223372036854775807)
    {v : List Int} {a' e' p' : Int} (hst : rdT (getT xs at_ most) at_ fe fa = (v, a', e', p')) :
    Calls Try.prog 37 #[.pointer (some ⟨R, 0, none⟩), .int .i64 most] w (RdPost R A n c a' e' p' (.string (strOfNums v)) w) := by
  have bel := bel_alloc (bel_alloc (Below.refl _ w) (.cells #[.pointer (some ⟨R, 0, none⟩)] 48)) (.cells #[.int .i64 most] 3)
  have hRW : RD ((w.alloc (.cells #[.pointer (some ⟨R, 0, none⟩)] 48)).alloc (.cells #[.int .i64 most] 3)) R A n c at_ fe fa true := (Block.alloc hR _).alloc _
  have hmf := mkf
  have hnil : strOfNums [] = ⟨#[]⟩ := rfl
  by_cases h0 : fe = 0
  · subst h0
    obtain ⟨s, q1, q2, q3, hr⟩ : ∃ q0 q1 q2 q3, getT xs at_ most = (q0, q1, q2, q3) := ⟨_, _, _, _, rfl⟩
    unfold rdT at hst
    rw [if_neg (by simp), hr] at hst
    simp only at hst
    have haW : Shows ((w.alloc (.cells #[.pointer (some ⟨R, 0, none⟩)] 48)).alloc (.cells #[.int .i64 most] 3)) B 1 A n (U8 xs) := ha.below (bel.mono hB)
    have K0 : Block ((w.alloc (.cells #[.pointer (some ⟨R, 0, none⟩)] 48)).alloc (.cells #[.int .i64 most] 3)) w.heap.size 48 [.pointer (some ⟨R, 0, none⟩)] := (Block.new w _ _).alloc _
    have K1 : Block ((w.alloc (.cells #[.pointer (some ⟨R, 0, none⟩)] 48)).alloc (.cells #[.int .i64 most] 3)) (w.heap.size + 1) 3 [.int .i64 most] := block_top (by simp)
    have hsz := bel.size
    have hcl := fun (w1 : World) (hb : Below (World.heap ((w.alloc (.cells #[.pointer (some ⟨R, 0, none⟩)] 48)).alloc (.cells #[.int .i64 most] 3))).size ((w.alloc (.cells #[.pointer (some ⟨R, 0, none⟩)] 48)).alloc (.cells #[.int .i64 most] 3)) w1) => text1_any w.heap.size (w.heap.size + 1) R A n c xs at_ 0 fa most true B w1 ((K0.call hb).cell 0) ((K1.call hb).cell 0) (Block.call hRW hb) (haW.call hb (Nat.le_trans hB hsz)) (Nat.le_trans hB (Nat.le_trans hsz hb.size)) hn hc hx a0 a1 hr
    by_cases h1 : q2 = 0
    · subst h1
      rw [if_pos rfl] at hst
      have Hst := Lib.hid hst
      have hrd := read_string_ok R A n c at_ fa #[.pointer (some ⟨w.heap.size, 0, none⟩), .pointer (some ⟨w.heap.size + 1, 0, none⟩)] (strOfNums s) q1 q3 _ hRW hcl
      clear hst hcl K0 K1 hr hnil
      go_enter Try.func37, Try.ntmps37
      go_wp2_with fail
      refine hrd.mono ?_
      rintro e w1 ⟨rfl, hg, hR1⟩
      go_wp2_with fail
      go_ret
      have h := Hst.out
      simp only [Prod.mk.injEq] at h
      obtain ⟨rfl, rfl, rfl, rfl⟩ := h
      exact RdPost.low ⟨rfl, hg, hR1⟩ bel
    · rw [if_neg h1] at hst
      have Hst := Lib.hid hst
      have hrd := read_string_bad R A n c at_ fa #[.pointer (some ⟨w.heap.size, 0, none⟩), .pointer (some ⟨w.heap.size + 1, 0, none⟩)] (strOfNums s) q1 q2 q3 _ hRW h1 hcl
      clear hst hcl K0 K1 hr h1 hnil
      go_enter Try.func37, Try.ntmps37
      go_wp2_with fail
      refine hrd.mono ?_
      rintro e w1 ⟨rfl, hg, hR1⟩
      go_wp2_with fail
      go_ret
      have h := Hst.out
      simp only [Prod.mk.injEq] at h
      obtain ⟨rfl, rfl, rfl, rfl⟩ := h
      exact RdPost.low ⟨rfl, hg, hR1⟩ bel
  · unfold rdT at hst
    rw [if_pos h0] at hst
    have Hst := Lib.hid hst
    have hrd := fun fv => read_string_err R A n c at_ fe fa fv _ hRW h0
    clear hst h0 hnil
    go_enter Try.func37, Try.ntmps37
    go_wp2_with fail
    refine (hrd _).mono ?_
    rintro e w1 ⟨rfl, hg, hR1⟩
    go_wp2_with fail
    go_ret
    have h := Hst.out
    simp only [Prod.mk.injEq] at h
    obtain ⟨rfl, rfl, rfl, rfl⟩ := h
    exact RdPost.low ⟨rfl, hg, hR1⟩ bel
set_option maxRecDepth 100000 in
set_option maxHeartbeats 4000000 in
theorem end_made (R : Nat) (A : Option Addr) (n c : Nat) (at_ fe fa : Int) (w : World) (hR : RD w R A n c at_ fe fa true) {e1 e2 : Int} (he : rdE n at_ fe fa = (e1, e2)) : Calls Try.prog 39 #[.pointer (some ⟨R, 0, none⟩)] w fun e w' => e = .returned (.agg #[.int .i64 e1, .int .i64 e2]) ∧ Below w.heap.size w w' := by
  have lR := Block.lt hR
  have hfl := fun e p w => (show Calls Try.prog 44 #[.int .i64 e, .int .i64 p] w fun r w' => r = .returned (.agg #[.int .i64 e, .int .i64 p]) ∧ Below w.heap.size w w' from fault_any e p w)
  have hn := rfault_made R A n c at_ fe fa _ (Block.alloc hR (.cells #[.int .i64 0, .int .i64 0] 37))
  have He := Lib.hid he
  have hR2 := Block.alloc hR (.cells #[.int .i64 0, .int .i64 0] 37)
  clear he
  go_enter Try.func39, Try.ntmps39
  go_wp2_with fail
  refine hn.mono ?_
  rintro e w1 ⟨rfl, hb1⟩
  have hz := (new_block (cs := [.int .i64 0, .int .i64 0]) hb1).1
  have hR1 := hR2.call hb1
  have hzl := hz.lt
  go_upto_region 2 with (fail)
  have hz2 := hz.alloc (.cells #[.int .i64 fe, .int .i64 fa] 37)
  have hR3 := hR1.alloc (.cells #[.int .i64 fe, .int .i64 fa] 37)
  have hx2 := Block.new w1 37 [.int .i64 fe, .int .i64 fa]
  have bel2 := bel_alloc (bel_call (bel_alloc (Below.refl _ w) (.cells #[.int .i64 0, .int .i64 0] 37)) hb1) (.cells #[.int .i64 fe, .int .i64 fa] 37)
  obtain ⟨w2, hw2⟩ : ∃ w2, w1.alloc (.cells #[.int .i64 fe, .int .i64 fa] 37) = w2 := ⟨_, rfl⟩
  have hz2 : Block w2 w.heap.size 37 [.int .i64 0, .int .i64 0] := hw2 ▸ hz2
  have hx2 : Block w2 w1.heap.size 37 [.int .i64 fe, .int .i64 fa] := hw2 ▸ hx2
  have hR3 : RD w2 R A n c at_ fe fa true := hw2 ▸ hR3
  have bel2 : Below w.heap.size w w2 := hw2 ▸ bel2
  rw [hw2]
  clear hw2 hn hR2 hR1 hR
  have z0 : w2.cell? ⟨w.heap.size, 0, none⟩ = some (.int .i64 0) := hz2.cell 0
  have z1 : w2.cell? ⟨w.heap.size, 1, none⟩ = some (.int .i64 0) := hz2.cell 1
  have zf := hz2.free
  have x0 : w2.cell? ⟨w1.heap.size, 0, none⟩ = some (.int .i64 fe) := hx2.cell 0
  have x1 : w2.cell? ⟨w1.heap.size, 1, none⟩ = some (.int .i64 fa) := hx2.cell 1
  have r0 : w2.cell? ⟨R, 0, none⟩ = some (.slice A n c) := Block.cell hR3 0
  have r1 : w2.cell? ⟨R, 1, none⟩ = some (.int .i64 at_) := Block.cell hR3 1
  by_cases h0 : fe = 0
  · have t1 : (fe == 0) = true := by simpa using h0
    by_cases hlt : at_ < (n : Int)
    · have hr := Lib.hid (Prod.mk.inj (show ((4 : Int), at_) = (e1, e2) by have := He.out; unfold rdE at this; rw [if_pos ⟨h0, hlt⟩] at this; exact this))
      clear h0
      go_quiet (fail)
      go_wp2_with fail
      refine (hfl _ _ _).mono ?_
      rintro e w3 ⟨rfl, hb3⟩
      have hz3 : Block w3 w.heap.size 37 [.int .i64 0, .int .i64 0] := Block.call (Block.drewN hz2 _) hb3
      have bel3 := bel_call (bel_drewN bel2 _) hb3
      clear z0 z1 zf
      have z0 : w3.cell? ⟨w.heap.size, 0, none⟩ = some (.int .i64 0) := hz3.cell 0
      have z1 : w3.cell? ⟨w.heap.size, 1, none⟩ = some (.int .i64 0) := hz3.cell 1
      have zf := hz3.free
      go_wp2_with fail
      exact ret_c (T := 37) rfl rfl rfl ((hz3.set 0 (.int .i64 4)).set 1 (.int .i64 at_)) agg_fault size_fault ⟨by rw [← hr.out.1, ← hr.out.2]; rfl, bel_set (bel_set bel3 (Nat.le_refl _) _) (Nat.le_refl _) _⟩
    · have hr := Lib.hid (Prod.mk.inj (show (fe, fa) = (e1, e2) by have := He.out; unfold rdE at this; rw [if_neg (fun h => hlt h.2)] at this; exact this))
      clear h0
      go_quiet (fail)
      go_wp2_with fail
      exact ret_c (T := 37) rfl rfl rfl (Block.drewN ((hz2.set 0 (.int .i64 fe)).set 1 (.int .i64 fa)) _) agg_fault size_fault ⟨by rw [← hr.out.1, ← hr.out.2]; rfl, bel_drewN (bel_set (bel_set bel2 (Nat.le_refl _) _) (Nat.le_refl _) _) _⟩
  · have t1 : (fe == 0) = false := by simpa using h0
    have hr := Lib.hid (Prod.mk.inj (show (fe, fa) = (e1, e2) by have := He.out; unfold rdE at this; rw [if_neg (fun h => h0 h.1)] at this; exact this))
    clear h0
    go_quiet (fail)
    go_wp2_with fail
    exact ret_c (T := 37) rfl rfl rfl (Block.drewN ((hz2.set 0 (.int .i64 fe)).set 1 (.int .i64 fa)) _) agg_fault size_fault ⟨by rw [← hr.out.1, ← hr.out.2]; rfl, bel_drewN (bel_set (bel_set bel2 (Nat.le_refl _) _) (Nat.le_refl _) _) _⟩
/-- What 'New' makes. -/
def Made (xs : List Int) (n : Nat) (w : World) (e : Ending) (w' : World) : Prop := ∃ (R : Nat) (A : Option Addr) (c : Nat), e = .returned (.pointer (some ⟨R, 0, none⟩)) ∧ RD w' R A n c 0 0 0 true ∧ Shows w' R 1 A n (U8 xs) ∧ n ≤ c ∧ w.heap.size ≤ R ∧ Below w.heap.size w w'
set_option maxRecDepth 100000 in
set_option maxHeartbeats 4000000 in
theorem new_any (A : Option Addr) (n c : Nat) (xs : List Int) (B : Nat) (w : World) (ha : Shows w B 1 A n (U8 xs)) (_ : B ≤ w.heap.size) (hn : n ≤ 70000) : Calls Try.prog 33 #[.slice A n c] w (Made xs n w) := by
  obtain ⟨i0, hi, hz0, hz1, hz2⟩ := info_parts infoU8
  go_enter Try.func33, Try.ntmps33
  go_wp2_with (at_builtin; refine wpList_append_shows _ rfl _ _ 23 rfl w.heap.size 5 i0 (.int .u8 0) 1 1 Try.underlying23 hi hz0 hz1 hz2 rfl (by decide) (.slice none 0 0) 0 [] rfl (World.ownsRow_nil _ _ _ _) B A n c (U8 xs) rfl ha (nums_one .u8 xs) (by unfold maxLen; omega) (by omega) (Nat.le_refl _) ?_; intro A2 c2 w2 hown2 hg2)
  have hown2 : w2.ownsRow w.heap.size 5 1 (.slice A2 (0 + n) c2) (0 + n) (U8 xs) := by simpa using hown2
  rw [Nat.zero_add] at hown2
  have bel2 : Below w.heap.size w w2 := bel_grown (Below.refl _ _) hg2 (fun g hg => by simp [Value.ownBlock] at hg)
  have hs := Shows.of_own hown2
  obtain ⟨A3, c3, he, hnc, _⟩ := own_form hown2
  injection he with e1 e2 e3
  subst e1; subst e3
  clear hown2 hg2
  go_wp2_with fail
  go_ret
  exact ⟨w2.heap.size, A2, c2, by simp, Block.new w2 53 [.slice A2 n c2, .int .i64 0, .int .i64 0, .int .i64 0, .bool true], hs.alloc (Nat.le_refl _) _, hnc, bel2.size, bel_alloc bel2 _⟩
end Go.Proofs.Ytnhiipiciondoaa
