/- The walk of the statement 'OctetKnown'. -/
import Derived.Test.YtnhiipiciondoaaRdMeth
import Derived.Test.YtnhiipiciondoaaRdText
import Derived.Test.YtnhiipiciondoaaOctAwake
import Derived.Test.YtnhiipiciondoaaOctGetsWalk
import Derived.Test.YtnhiipiciondoaaOctIs
import Derived.Test.YtnhiipiciondoaaOctPuts
namespace Go.Proofs.Ytnhiipiciondoaa
open Go.RowKit Go.Lib

theorem ok1 : Oct.putN (Oct.zig 0) = [0] := by rw [show Oct.zig 0 = 0 by decide, Oct.putN_small (by omega)]; rfl
theorem ok2 : Oct.putN (Oct.zig (-1)) = [1] := by rw [show Oct.zig (-1) = 1 by decide, Oct.putN_small (by omega)]; rfl
theorem ok3 : Oct.putN (Oct.zig 64) = [128, 1] := by rw [show Oct.zig 64 = 128 by decide, Oct.putN_big (by omega), Oct.putN_small (by omega)]; rfl
theorem ok4 : putL [1, -1] = [4, 2, 1] := by decide +kernel
theorem okg1 : Oct.getB [128, 0] 0 = (0, 0, 4, 1) := by decide +kernel
theorem okg2 : Oct.getB [128] 0 = (0, 0, 4, 1) := by decide +kernel
theorem okg3 : Oct.getB [] 1 = (0, 0, 5, 0) := by decide +kernel
theorem okt1 : getT [4, 97, 98] 0 2 = ([97, 98], 3, 0, 0) := by decide +kernel
theorem okt2 : getT [4, 97, 98] 0 1 = ([], 0, 3, 0) := by decide +kernel
theorem okt3 : getT [1] 0 9 = ([], 0, 5, 0) := by decide +kernel
theorem okt4 : getT [4, 97] 0 9 = ([], 0, 4, 2) := by decide +kernel
theorem oks : strOfNums [97, 98] = (⟨#[97, 98]⟩ : ByteArray) := by decide +kernel
theorem oks0 : strOfNums [] = (⟨#[]⟩ : ByteArray) := by decide +kernel
theorem okr1 : rdN (Oct.getB [2, 4] 0) 0 0 0 0 9 5 = (1, 1, 0, 0) := by decide +kernel
theorem okr2 : rdN (Oct.getB [2, 4] 1) 1 0 0 0 1 5 = (0, 1, 5, 1) := by decide +kernel
theorem okr3 : rdN (Oct.getB [2, 4] 1) 1 5 1 0 9 5 = (0, 1, 5, 1) := by decide +kernel
theorem Block.two {w : World} {g : Nat} {t : TypeId} {a b : Int} (h : Block w g t [.int .i64 a, .int .i64 b]) : w.cell? ⟨g, 0, none⟩ = some (.int .i64 a) ∧ w.cell? ⟨g, 1, none⟩ = some (.int .i64 b) := ⟨h.cell 0, h.cell 1⟩
theorem okl (w : World) : Shows (w.alloc (.cells #[.int .i64 1, .int .i64 (-1)] 3)) (w.heap.size + 1) 1 (some ⟨w.heap.size, 0, none⟩) 2 (I64 [1, -1]) := shows_built w (I64 [1, -1]) 3
theorem okm : ∀ x ∈ ([1, -1] : List Int), -9223372036854775808 ≤ x ∧ x ≤ 9223372036854775807 := by decide
theorem okp (w : World) (b : Nat) (hb : b = w.heap.size) : Calls Try.prog 16 #[.slice (some ⟨b, 0, none⟩) 2 2] (w.alloc (.cells #[.int .i64 1, .int .i64 (-1)] 3)) (Fresh 5 1 3 (U8 [4, 2, 1]) (w.alloc (.cells #[.int .i64 1, .int .i64 (-1)] 3))) := by
  subst hb
  have h := putList_any (some ⟨w.heap.size, 0, none⟩) 2 2 [1, -1] (w.heap.size + 1) (w.alloc (.cells #[.int .i64 1, .int .i64 (-1)] 3)) (okl w) (by simp) (by decide) okm
  rw [ok4] at h
  exact h
theorem c_okg1 (w : World) (b : Nat) (hb : b = w.heap.size) : Calls Try.prog 23 #[.slice (some ⟨b, 0, none⟩) 2 2, .int .i64 0] (w.alloc (.cells #[.int .u8 128, .int .u8 0] 5)) fun e w' => e = .returned (.tuple #[.int .i64 0, .int .i64 0, .agg #[.int .i64 4, .int .i64 1]]) ∧ Below (w.alloc (.cells #[.int .u8 128, .int .u8 0] 5)).heap.size (w.alloc (.cells #[.int .u8 128, .int .u8 0] 5)) w' := by
  subst hb
  have h := get_is (c := 2) okg1 (show Shows (w.alloc (.cells #[.int .u8 128, .int .u8 0] 5)) (w.heap.size + 1) 1 (some ⟨w.heap.size, 0, none⟩) 2 (U8 [128, 0]) from shows_built w (U8 [128, 0]) 5) (by unfold maxLen; decide) (by simp) (by decide) (by decide) (by decide) (by decide)
  exact h
theorem c_okg2 (w : World) (b : Nat) (hb : b = w.heap.size) : Calls Try.prog 23 #[.slice (some ⟨b, 0, none⟩) 1 1, .int .i64 0] (w.alloc (.cells #[.int .u8 128] 5)) fun e w' => e = .returned (.tuple #[.int .i64 0, .int .i64 0, .agg #[.int .i64 4, .int .i64 1]]) ∧ Below (w.alloc (.cells #[.int .u8 128] 5)).heap.size (w.alloc (.cells #[.int .u8 128] 5)) w' := by
  subst hb
  have h := get_is (c := 1) okg2 (show Shows (w.alloc (.cells #[.int .u8 128] 5)) (w.heap.size + 1) 1 (some ⟨w.heap.size, 0, none⟩) 1 (U8 [128]) from shows_built w (U8 [128]) 5) (by unfold maxLen; decide) (by simp) (by decide) (by decide) (by decide) (by decide)
  exact h
theorem c_okt1 (w : World) (b : Nat) (hb : b = w.heap.size) : Calls Try.prog 25 #[.slice (some ⟨b, 0, none⟩) 3 3, .int .i64 0, .int .i64 2] (w.alloc (.cells #[.int .u8 4, .int .u8 97, .int .u8 98] 5)) fun e w' => e = .returned (.tuple #[.string ⟨#[97, 98]⟩, .int .i64 3, .agg #[.int .i64 0, .int .i64 0]]) ∧ Below (w.alloc (.cells #[.int .u8 4, .int .u8 97, .int .u8 98] 5)).heap.size (w.alloc (.cells #[.int .u8 4, .int .u8 97, .int .u8 98] 5)) w' := by
  subst hb
  have h := text_is (c := 3) okt1 (show Shows (w.alloc (.cells #[.int .u8 4, .int .u8 97, .int .u8 98] 5)) (w.heap.size + 1) 1 (some ⟨w.heap.size, 0, none⟩) 3 (U8 [4, 97, 98]) from shows_built w (U8 [4, 97, 98]) 5) (by simp) (by decide) (by decide) (by decide) (by decide) (by decide)
  rw [oks] at h
  exact h
theorem c_okt2 (w : World) (b : Nat) (hb : b = w.heap.size) : Calls Try.prog 25 #[.slice (some ⟨b, 0, none⟩) 3 3, .int .i64 0, .int .i64 1] (w.alloc (.cells #[.int .u8 4, .int .u8 97, .int .u8 98] 5)) fun e w' => e = .returned (.tuple #[.string ⟨#[]⟩, .int .i64 0, .agg #[.int .i64 3, .int .i64 0]]) ∧ Below (w.alloc (.cells #[.int .u8 4, .int .u8 97, .int .u8 98] 5)).heap.size (w.alloc (.cells #[.int .u8 4, .int .u8 97, .int .u8 98] 5)) w' := by
  subst hb
  have h := text_is (c := 3) okt2 (show Shows (w.alloc (.cells #[.int .u8 4, .int .u8 97, .int .u8 98] 5)) (w.heap.size + 1) 1 (some ⟨w.heap.size, 0, none⟩) 3 (U8 [4, 97, 98]) from shows_built w (U8 [4, 97, 98]) 5) (by simp) (by decide) (by decide) (by decide) (by decide) (by decide)
  rw [oks0] at h
  exact h
theorem c_okt3 (w : World) (b : Nat) (hb : b = w.heap.size) : Calls Try.prog 25 #[.slice (some ⟨b, 0, none⟩) 1 1, .int .i64 0, .int .i64 9] (w.alloc (.cells #[.int .u8 1] 5)) fun e w' => e = .returned (.tuple #[.string ⟨#[]⟩, .int .i64 0, .agg #[.int .i64 5, .int .i64 0]]) ∧ Below (w.alloc (.cells #[.int .u8 1] 5)).heap.size (w.alloc (.cells #[.int .u8 1] 5)) w' := by
  subst hb
  have h := text_is (c := 1) okt3 (show Shows (w.alloc (.cells #[.int .u8 1] 5)) (w.heap.size + 1) 1 (some ⟨w.heap.size, 0, none⟩) 1 (U8 [1]) from shows_built w (U8 [1]) 5) (by simp) (by decide) (by decide) (by decide) (by decide) (by decide)
  rw [oks0] at h
  exact h
theorem c_okt4 (w : World) (b : Nat) (hb : b = w.heap.size) : Calls Try.prog 25 #[.slice (some ⟨b, 0, none⟩) 2 2, .int .i64 0, .int .i64 9] (w.alloc (.cells #[.int .u8 4, .int .u8 97] 5)) fun e w' => e = .returned (.tuple #[.string ⟨#[]⟩, .int .i64 0, .agg #[.int .i64 4, .int .i64 2]]) ∧ Below (w.alloc (.cells #[.int .u8 4, .int .u8 97] 5)).heap.size (w.alloc (.cells #[.int .u8 4, .int .u8 97] 5)) w' := by
  subst hb
  have h := text_is (c := 2) okt4 (show Shows (w.alloc (.cells #[.int .u8 4, .int .u8 97] 5)) (w.heap.size + 1) 1 (some ⟨w.heap.size, 0, none⟩) 2 (U8 [4, 97]) from shows_built w (U8 [4, 97]) 5) (by simp) (by decide) (by decide) (by decide) (by decide) (by decide)
  rw [oks0] at h
  exact h
theorem c_new (w : World) (b : Nat) (hb : b = w.heap.size) : Calls Try.prog 33 #[.slice (some ⟨b, 0, none⟩) 2 2] (w.alloc (.cells #[.int .u8 2, .int .u8 4] 5)) (Made [2, 4] 2 (w.alloc (.cells #[.int .u8 2, .int .u8 4] 5))) := by
  subst hb
  exact new_any _ 2 _ [2, 4] (w.heap.size + 1) _ (show Shows (w.alloc (.cells #[.int .u8 2, .int .u8 4] 5)) (w.heap.size + 1) 1 (some ⟨w.heap.size, 0, none⟩) 2 (U8 [2, 4]) from shows_built w (U8 [2, 4]) 5) (by simp) (by decide)
set_option maxRecDepth 100000 in
set_option maxHeartbeats 16000000 in
theorem oknown_walk (w : World) : Calls Try.prog 8 #[] w fun e w' => e = .returned (.bool true) ∧ Below w.heap.size w w' := by
  go_enter Try.func8, Try.ntmps8
  go_wp2_with fail
  refine (put_any 0 _ (by decide) (by decide)).mono ?_
  rw [ok1]
  rintro e w1 ⟨A1, c1, rfl, hown1, hb1⟩
  have b1 := bel_call (Below.refl _ _) hb1
  go_wp2_with fail
  refine (same_any _ _ _ _ _ _ [0] [0] _ _ _ ((Shows.of_own hown1).alloc (Nat.le_refl _) _) (show Shows (w1.alloc (.cells #[.int .u8 0] 5)) _ 1 _ 1 _ from shows_built w1 (U8 [0]) 5) (by decide) (by decide)).mono ?_
  rw [show sameB [0] [0] = true by decide]
  rintro e w0 ⟨rfl, rfl⟩
  have b1 := bel_alloc b1 (.cells #[.int .u8 0] 5)
  clear hown1 hb1
  go_wp2_with fail
  refine (put_any (-1) _ (by decide) (by decide)).mono ?_
  rw [ok2]
  rintro e w2 ⟨A2, c2, rfl, hown2, hb2⟩
  have b2 := bel_call b1 hb2
  go_wp2_with fail
  refine (same_any _ _ _ _ _ _ [1] [1] _ _ _ ((Shows.of_own hown2).alloc (Nat.le_refl _) _) (show Shows (w2.alloc (.cells #[.int .u8 1] 5)) _ 1 _ 1 _ from shows_built w2 (U8 [1]) 5) (by decide) (by decide)).mono ?_
  rw [show sameB [1] [1] = true by decide]
  rintro e w0 ⟨rfl, rfl⟩
  have b2 := bel_alloc b2 (.cells #[.int .u8 1] 5)
  clear hown2 hb2
  go_wp2_with fail
  refine (put_any 64 _ (by decide) (by decide)).mono ?_
  rw [ok3]
  rintro e w3 ⟨A3, c3, rfl, hown3, hb3⟩
  have b3 := bel_call b2 hb3
  go_wp2_with fail
  refine (same_any _ _ _ _ _ _ [128, 1] [128, 1] _ _ _ ((Shows.of_own hown3).alloc (Nat.le_refl _) _) (show Shows (w3.alloc (.cells #[.int .u8 128, .int .u8 1] 5)) _ 1 _ 2 _ from shows_built w3 (U8 [128, 1]) 5) (by decide) (by decide)).mono ?_
  rw [show sameB [128, 1] [128, 1] = true by decide]
  rintro e w0 ⟨rfl, rfl⟩
  have b3 := bel_alloc b3 (.cells #[.int .u8 128, .int .u8 1] 5)
  clear hown3 hb3
  go_wp2_with fail
  refine (okp _ _ (by simp)).mono ?_
  rintro e w4 ⟨A4, c4, rfl, hown4, hb4⟩
  have b4 := bel_call (bel_alloc b3 _) hb4
  go_wp2_with fail
  refine (same_any _ _ _ _ _ _ [4, 2, 1] [4, 2, 1] _ _ _ ((Shows.of_own hown4).alloc (Nat.le_refl _) _) (show Shows (w4.alloc (.cells #[.int .u8 4, .int .u8 2, .int .u8 1] 5)) _ 1 _ 3 _ from shows_built w4 (U8 [4, 2, 1]) 5) (by decide) (by decide)).mono ?_
  rw [show sameB [4, 2, 1] [4, 2, 1] = true by decide]
  rintro e w0 ⟨rfl, rfl⟩
  have b4 := bel_alloc b4 (.cells #[.int .u8 4, .int .u8 2, .int .u8 1] 5)
  clear hown4 hb4
  go_wp2_with fail
  refine (c_okg1 _ _ (by simp)).mono ?_
  rintro e w5 ⟨rfl, hb5⟩
  have b5 := bel_call (bel_alloc b4 _) hb5
  have f5 := Block.new w5 37 [.int .i64 4, .int .i64 1]
  have b5 := bel_alloc b5 (.cells #[.int .i64 4, .int .i64 1] 37)
  clear hb5 b4
  go_wp2_with fail
  refine (c_okg2 _ _ (by simp)).mono ?_
  rintro e w6 ⟨rfl, hb6⟩
  have b6 := bel_call (bel_alloc b5 _) hb6
  have f5 := Block.step (f5.alloc _) hb6 (.cells #[.int .i64 4, .int .i64 1] 37)
  have f6 := Block.new w6 37 [.int .i64 4, .int .i64 1]
  have b6 := bel_alloc b6 (.cells #[.int .i64 4, .int .i64 1] 37)
  clear hb6 b5
  go_wp2_with fail
  refine (get_is okg3 (show Shows _ 0 1 none 0 (U8 []) from ⟨rfl, fun h => absurd h (by omega)⟩) (by unfold maxLen; decide) (Nat.zero_le _) (by decide) (by decide) (by decide) (by decide)).mono ?_
  rintro e w7 ⟨rfl, hb7⟩
  have b7 := bel_call b6 hb7
  have f5 := Block.step f5 hb7 (.cells #[.int .i64 5, .int .i64 0] 37)
  have f6 := Block.step f6 hb7 (.cells #[.int .i64 5, .int .i64 0] 37)
  have f7 := Block.new w7 37 [.int .i64 5, .int .i64 0]
  have b7 := bel_alloc b7 (.cells #[.int .i64 5, .int .i64 0] 37)
  clear hb7 b6
  go_wp2_with fail
  refine (c_okt1 _ _ (by simp)).mono ?_
  rintro e w8 ⟨rfl, hb8⟩
  have b8 := bel_call (bel_alloc b7 _) hb8
  have f5 := Block.step (f5.alloc _) hb8 (.cells #[.int .i64 0, .int .i64 0] 37)
  have f6 := Block.step (f6.alloc _) hb8 (.cells #[.int .i64 0, .int .i64 0] 37)
  have f7 := Block.step (f7.alloc _) hb8 (.cells #[.int .i64 0, .int .i64 0] 37)
  have f8 := Block.new w8 37 [.int .i64 0, .int .i64 0]
  have b8 := bel_alloc b8 (.cells #[.int .i64 0, .int .i64 0] 37)
  clear hb8 b7
  go_wp2_with fail
  refine (c_okt2 _ _ (by simp)).mono ?_
  rintro e w9 ⟨rfl, hb9⟩
  have b9 := bel_call (bel_alloc b8 _) hb9
  have f5 := Block.step (f5.alloc _) hb9 (.cells #[.int .i64 3, .int .i64 0] 37)
  have f6 := Block.step (f6.alloc _) hb9 (.cells #[.int .i64 3, .int .i64 0] 37)
  have f7 := Block.step (f7.alloc _) hb9 (.cells #[.int .i64 3, .int .i64 0] 37)
  have f8 := Block.step (f8.alloc _) hb9 (.cells #[.int .i64 3, .int .i64 0] 37)
  have f9 := Block.new w9 37 [.int .i64 3, .int .i64 0]
  have b9 := bel_alloc b9 (.cells #[.int .i64 3, .int .i64 0] 37)
  clear hb9 b8
  go_wp2_with fail
  refine (c_okt3 _ _ (by simp)).mono ?_
  rintro e w10 ⟨rfl, hb10⟩
  have b10 := bel_call (bel_alloc b9 _) hb10
  have f5 := Block.step (f5.alloc _) hb10 (.cells #[.int .i64 5, .int .i64 0] 37)
  have f6 := Block.step (f6.alloc _) hb10 (.cells #[.int .i64 5, .int .i64 0] 37)
  have f7 := Block.step (f7.alloc _) hb10 (.cells #[.int .i64 5, .int .i64 0] 37)
  have f8 := Block.step (f8.alloc _) hb10 (.cells #[.int .i64 5, .int .i64 0] 37)
  have f9 := Block.step (f9.alloc _) hb10 (.cells #[.int .i64 5, .int .i64 0] 37)
  have f10 := Block.new w10 37 [.int .i64 5, .int .i64 0]
  have b10 := bel_alloc b10 (.cells #[.int .i64 5, .int .i64 0] 37)
  clear hb10 b9
  go_wp2_with fail
  refine (c_okt4 _ _ (by simp)).mono ?_
  rintro e w11 ⟨rfl, hb11⟩
  have b11 := bel_call (bel_alloc b10 _) hb11
  have f5 := Block.step (f5.alloc _) hb11 (.cells #[.int .i64 4, .int .i64 2] 37)
  have f6 := Block.step (f6.alloc _) hb11 (.cells #[.int .i64 4, .int .i64 2] 37)
  have f7 := Block.step (f7.alloc _) hb11 (.cells #[.int .i64 4, .int .i64 2] 37)
  have f8 := Block.step (f8.alloc _) hb11 (.cells #[.int .i64 4, .int .i64 2] 37)
  have f9 := Block.step (f9.alloc _) hb11 (.cells #[.int .i64 4, .int .i64 2] 37)
  have f10 := Block.step (f10.alloc _) hb11 (.cells #[.int .i64 4, .int .i64 2] 37)
  have f11 := Block.new w11 37 [.int .i64 4, .int .i64 2]
  have b11 := bel_alloc b11 (.cells #[.int .i64 4, .int .i64 2] 37)
  clear hb11 b10
  obtain ⟨f50, f51⟩ := f5.two
  obtain ⟨f60, f61⟩ := f6.two
  obtain ⟨f70, f71⟩ := f7.two
  obtain ⟨f90, f91⟩ := f9.two
  obtain ⟨f100, f101⟩ := f10.two
  obtain ⟨f110, f111⟩ := f11.two
  clear f8
  go_wp2_with fail
  refine (c_new _ _ (by simp)).mono ?_
  rintro e w12 ⟨R, A, c, rfl, hR, hsR, hnc, hRl, hb12⟩
  have b12 := bel_call (bel_alloc b11 _) hb12
  have hRw : w.heap.size ≤ R := by have := b11.size; have hq : (World.alloc (World.alloc w11 (.cells #[.int .i64 4, .int .i64 2] 37)) (.cells #[.int .u8 2, .int .u8 4] 5)).heap.size ≤ R := hRl; simp at hq this; omega
  have hRl2 := Block.lt hR
  go_wp2_with fail
  refine (int_made R A 2 c [2, 4] 0 0 0 0 9 R _ hR hsR (by omega) (by unfold maxLen; decide) hnc (by decide) (by decide) (by decide) okr1).mono ?_
  rintro e w13 ⟨rfl, hg13, hR13⟩
  have s13 := hsR.kept hg13 (Nat.le_refl _) (by omega)
  have b13 := bel_grown b12 hg13 (fun k hk => by injection hk with hk; omega)
  have l13 := Block.lt hR13
  go_wp2_with fail
  refine (int_made R A 2 c [2, 4] 1 0 0 0 1 R _ hR13 s13 (by omega) (by unfold maxLen; decide) hnc (by decide) (by decide) (by decide) okr2).mono ?_
  rintro e w14 ⟨rfl, hg14, hR14⟩
  have s14 := s13.kept hg14 (Nat.le_refl _) (by omega)
  have b14 := bel_grown b13 hg14 (fun k hk => by injection hk with hk; omega)
  have l14 := Block.lt hR14
  go_wp2_with fail
  refine (awake_true _).mono ?_
  rintro e w15 ⟨rfl, hb15⟩
  have hR15 := Block.call hR14 hb15
  have s15 := s14.call hb15 (by omega)
  have b15 := bel_call b14 hb15
  go_wp2_with fail
  refine (at_made R A 2 c 1 5 1 _ hR15).mono ?_
  rintro e w16 ⟨rfl, rfl⟩
  go_wp2_with fail
  refine (rfault_made R A 2 c 1 5 1 _ hR15).mono ?_
  rintro e w17 ⟨rfl, hb17⟩
  have hR17 := Block.call hR15 hb17
  have l15 := Block.lt hR15
  have l17 := Block.lt hR17
  have s17 := s15.call hb17 (by omega)
  have b17 := bel_call b15 hb17
  go_wp2_with fail
  refine (int_made R A 2 c [2, 4] 1 5 1 0 9 R _ hR17 s17 (by omega) (by unfold maxLen; decide) hnc (by decide) (by decide) (by decide) okr3).mono ?_
  rintro e w18 ⟨rfl, hg18, hR18⟩
  have b18 := bel_grown b17 hg18 (fun k hk => by injection hk with hk; omega)
  go_wp2_with fail
  go_ret
  exact ⟨rfl, b18⟩
end Go.Proofs.Ytnhiipiciondoaa
