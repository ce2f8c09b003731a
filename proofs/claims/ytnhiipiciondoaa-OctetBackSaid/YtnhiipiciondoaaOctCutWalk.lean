/- The walk of 'apportionlaw05.OctetCut'. -/
import Derived.Test.YtnhiipiciondoaaOctIs
import Derived.Test.YtnhiipiciondoaaOctPlain3
import Derived.Test.YtnhiipiciondoaaKitPick
import Derived.Test.YtnhiipiciondoaaOctPutsWalk
namespace Go.Proofs.Ytnhiipiciondoaa
open Go.RowKit Go.Lib

theorem u8_take (xs : List Int) (k : Nat) : (U8 xs).take (k * 1) = U8 (xs.take k) := by simp [U8]
theorem take_mem {P : Int → Prop} {xs : List Int} {k : Nat} (h : ∀ x ∈ xs, P x) : ∀ x ∈ xs.take k, P x := fun x hx => h x (List.mem_of_mem_take hx)
set_option maxRecDepth 100000 in
set_option maxHeartbeats 2000000 in
theorem cut_walk (n : Int) (s : ByteArray) (A : Option Addr) (kl c : Nat) (l : List Int) (at_ : Int) (w : World) (hn : -9223372036854775808 ≤ n ∧ n ≤ 9223372036854775807) (hs : s.size ≤ maxLen) (hl : Shows w w.heap.size 1 A kl (I64 l))
    (hx : ∀ x ∈ l, -9223372036854775808 ≤ x ∧ x ≤ 9223372036854775807) (_ : kl ≤ c) (_ : c ≤ maxLen) (hat : -9223372036854775808 ≤ at_ ∧ at_ ≤ 9223372036854775807) :
    Calls Try.prog 7 #[.int .i64 n, .string s, .slice A kl c, .int .i64 at_] w fun e w' => e = .returned (.bool true) ∧ Below w.heap.size w w' := by
  obtain ⟨n0, n1⟩ := hn
  obtain ⟨a0, a1⟩ := hat
  unfold maxLen at hs
  by_cases hbig : 300 < s.size ∨ 100 < kl
  · rcases hbig with h | h
    · go_enter Try.func7, Try.ntmps7
      go_wp2_with fail
      refine (awake_true _).mono ?_
      rintro e w1 ⟨rfl, hb1⟩
      go_wp2_with fail
      go_ret
      exact ⟨rfl, hb1⟩
    · by_cases h2 : 300 < s.size
      all_goals
        go_enter Try.func7, Try.ntmps7
        go_wp2_with fail
        refine (awake_true _).mono ?_
        rintro e w1 ⟨rfl, hb1⟩
        go_wp2_with fail
        go_ret
        exact ⟨rfl, hb1⟩
  · have hs3 : ¬ 300 < s.size := by omega
    have hk1 : ¬ 100 < kl := by omega
    clear hbig
    have hll : l.length = kl := by have := hl.len; simpa [I64] using this
    have l1 := Oct.putN_pos (Oct.zig n)
    have l2 := Oct.putN_len10 (Oct.zig_lt n n0 n1)
    have l3 : 1 ≤ (putT s).length ∧ (putT s).length ≤ 400 := by
      have := Oct.putN_pos (Oct.zig s.size); have := Oct.putN_len10 (Oct.zig_lt s.size (by omega) (by omega))
      simp only [putT, List.length_append, nums_len]; omega
    have l4 : 1 ≤ (putL l).length ∧ (putL l).length ≤ 2000 := by
      have := Oct.putN_pos (Oct.zig l.length); have := Oct.putN_len10 (Oct.zig_lt l.length (by omega) (by omega)); have := putAll_len l hx
      simp only [putL, List.length_append]; omega
    have cutN := fun k (hk : k < (Oct.putN (Oct.zig n)).length) => Oct.getB_cut (xs := (Oct.putN (Oct.zig n)).take k) (at_ := 0) (k := k) ⟨n0, n1⟩ (by omega) (by simp) hk
    have cutT := fun k (hk : k < (putT s).length) => parts _ _ (getT_cut (most := 1000) (by omega) (by omega) rfl hk)
    have cutL := fun k (hk : k < (putL l).length) => parts _ _ (getLs_cut (most := 1000) (by omega) hx (by omega) rfl hk)
    have pN := Oct.putN_bytes (Oct.zig n)
    have pT := putT_bytes s
    have pL := putL_bytes l
    have qN := fun w => put_any n w n0 n1
    have qT := fun w => putText_any s w (by omega)
    generalize Oct.putN (Oct.zig n) = xN at *
    generalize putT s = xT at *
    obtain ⟨l3, l3'⟩ := l3
    obtain ⟨l4, l4'⟩ := l4
    have CN := Lib.hid cutN
    have CT := Lib.hid cutT
    have CL := Lib.hid cutL
    have Hll := Lib.hid hll
    clear cutN cutT cutL hll
    go_enter Try.func7, Try.ntmps7
    go_wp2_with fail
    refine (awake_true _).mono ?_
    rintro e w1 ⟨rfl, hb1⟩
    go_wp2_with fail
    refine (qN _).mono ?_
    rintro e w2 ⟨A2, c2, rfl, o2, hb2⟩
    go_wp2_with fail
    refine (qT _).mono ?_
    rintro e w3 ⟨A3, c3, rfl, o3, hb3⟩
    have z1 := hb1.size
    have z2 := hb2.size
    have z3 := hb3.size
    go_wp2_with fail
    refine (putList_any A kl c l _ _ (((hl.call hb1 (Nat.le_refl _)).call hb2 z1).call hb3 (by omega)) (by omega) (by omega) hx).mono ?_
    rintro e w4 ⟨A4, c4, rfl, o4, hb4⟩
    have z4 := hb4.size
    have o2' := own_below (own_below o2 hb3) hb4
    have o3' := own_below o3 hb4
    go_wp2_with fail
    refine (pick_any at_ xN.length _ a0 a1 l1 (by omega)).mono ?_
    rintro e w5 ⟨k, hk, rfl, rfl⟩
    obtain ⟨_, _, e2, m2, m2'⟩ := own_form o2'
    injection e2 with e2 e3 e4; subst e2; subst e4
    have k2 := fun w => cut_to (P := Try.prog) 1 Try.underlying23 size_u8 A2 xN.length c2 k (by omega) w
    have s2 := (Shows.of_own o2').take (Nat.le_of_lt hk)
    rw [u8_take] at s2
    go_wp2_with fail
    refine (get_is (CN.out k hk) s2 (by unfold maxLen; omega) (Nat.le_refl _) (by omega) (take_mem pN) (by omega) (by omega)).mono ?_
    rintro e w6 ⟨rfl, hb6⟩
    go_wp2_with fail
    refine (pick_any at_ xT.length _ a0 a1 l3 (by omega)).mono ?_
    rintro e w7 ⟨k', hk', rfl, rfl⟩
    have o3' := own_below o3' hb6
    have o4' := own_below o4 hb6
    obtain ⟨_, _, e2, m3, m3'⟩ := own_form o3'
    injection e2 with e2 e3 e4; subst e2; subst e4
    have k3 := fun w => cut_to (P := Try.prog) 1 Try.underlying23 size_u8 A3 xT.length c3 k' (by omega) w
    have s3 := (Shows.of_own o3').take (Nat.le_of_lt hk')
    rw [u8_take] at s3
    obtain ⟨t0, t1, t3, ht⟩ := CT.out k' hk'
    go_wp2_with fail
    refine (text_is ht (s3.alloc (Nat.le_refl _) _) (by simp) (by omega) (by omega) (take_mem pT) (by omega) (by omega)).mono ?_
    rintro e w7 ⟨rfl, hb7⟩
    obtain ⟨bf, zf⟩ := new_block (cs := [_, _]) hb7
    go_wp2_with fail
    refine (pick_any at_ (putL l).length _ a0 a1 l4 (by omega)).mono ?_
    rintro e w8 ⟨k'', hk'', rfl, rfl⟩
    have o4' := own_below (o4'.alloc _) hb7
    obtain ⟨_, _, e2, m4, m4'⟩ := own_form o4'
    injection e2 with e2 e3 e4; subst e2; subst e4
    have k4 := fun w => cut_to (P := Try.prog) 1 Try.underlying23 size_u8 A4 (putL l).length c4 k'' (by omega) w
    have s4 := (Shows.of_own o4').take (Nat.le_of_lt hk'')
    rw [u8_take] at s4
    obtain ⟨g0, g1, g3, hg⟩ := CL.out k'' hk''
    go_wp2_with fail
    refine (list_is hg (s4.alloc (Nat.le_refl _) _) (by simp) (by omega) (by omega) (take_mem pL) (by omega) (by omega)).mono ?_
    rintro e w8 ⟨A8, c8, rfl, o8, hb8⟩
    obtain ⟨bg, zg⟩ := new_block (cs := [_, _]) hb8
    have bf8 := (bf.alloc _).call hb8
    have f0 := bf8.cell 0
    have g00 := bg.cell 0
    simp only [List.getElem?_cons_zero] at f0 g00
    have zf8 := bf8.lt
    go_wp2_with fail
    go_ret
    exact ⟨rfl, bel_alloc (bel_call (bel_alloc (bel_call (bel_alloc (bel_call (bel_call (bel_call (bel_call hb1 hb2) hb3) hb4) hb6) _) hb7) _) hb8) _⟩
end Go.Proofs.Ytnhiipiciondoaa
