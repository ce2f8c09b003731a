/- The walk of the statement 'DatedKnown'. -/
import Derived.Test.YtoedhcenmbpeeaaDatRefDrop
import Derived.Test.YtoedhcenmbpeeaaDatBetween
namespace Go.Proofs.Ytoedhcenmbpeeaa
open Go.RowKit

theorem kn1 : Dat.putF smp 15 6 = ([(10, 5), (15, 6), (20, 7), (30, 7)], 0) := by decide +kernel
theorem kn2 : Dat.putF smp 20 8 = ([(10, 5), (20, 8), (30, 7)], 0) := by decide +kernel
theorem kn3 : Dat.dropF smp 20 = ([(10, 5), (30, 7)], 0) := by decide +kernel
theorem kn4 : Dat.dropF smp 21 = (smp, 0) := by decide +kernel
theorem kn5 : Dat.betF smp 12 40 = [(12, 5), (20, 7)] := by decide +kernel
theorem kn6 : Dat.betF smp 0 9 = [] := by decide +kernel
theorem kn7 : Dat.chk [(20, 0), (10, 0)] = 2 := by decide +kernel
abbrev SO : Obj := .cells #[.int .i64 10, .int .i64 5, .int .i64 20, .int .i64 7, .int .i64 30, .int .i64 7] 31
/-- A list in new memory, behind a world of before. -/
def Got (w : World) (n : Nat) (l : List (Int × Int)) (A : Option Addr) (w' : World) : Prop := Shows w' w'.heap.size 2 A n (DC l) ∧ Below w.heap.size w w'
theorem got_of {w w' : World} {base n c : Nat} {l : List (Int × Int)} {A : Option Addr} (ho : w'.ownsRow base 31 2 (.slice A n c) n (DC l)) (hb : Below (w.alloc SO).heap.size (w.alloc SO) w') : Got w n l A w' :=
  ⟨Shows.of_own ho, bel_call (bel_alloc (Below.refl _ w) _) hb⟩
theorem put1 (w : World) : Calls Try.prog 21 #[.slice (some ⟨w.heap.size, 0, none⟩) 3 3, .int .i64 15, .int .i64 6] (w.alloc SO) fun e w' => ∃ A c, e = .returned (.tuple #[.slice A 4 c, .int .i64 0]) ∧ Got w 4 [(10, 5), (15, 6), (20, 7), (30, 7)] A w' := by
  have h := put_any (some ⟨w.heap.size, 0, none⟩) 3 3 smp 15 6 _ _ (smp_shows w) (by simp) (by omega) smp_fits
  rw [kn1] at h
  exact h.mono fun e w' ⟨A, c, he, ho, hb⟩ => ⟨A, c, he, got_of ho hb⟩
theorem put2 (w : World) : Calls Try.prog 21 #[.slice (some ⟨w.heap.size, 0, none⟩) 3 3, .int .i64 20, .int .i64 8] (w.alloc SO) fun e w' => ∃ A c, e = .returned (.tuple #[.slice A 3 c, .int .i64 0]) ∧ Got w 3 [(10, 5), (20, 8), (30, 7)] A w' := by
  have h := put_any (some ⟨w.heap.size, 0, none⟩) 3 3 smp 20 8 _ _ (smp_shows w) (by simp) (by omega) smp_fits
  rw [kn2] at h
  exact h.mono fun e w' ⟨A, c, he, ho, hb⟩ => ⟨A, c, he, got_of ho hb⟩
theorem drop1 (w : World) : Calls Try.prog 23 #[.slice (some ⟨w.heap.size, 0, none⟩) 3 3, .int .i64 20] (w.alloc SO) fun e w' => ∃ A c, e = .returned (.tuple #[.slice A 2 c, .int .i64 0]) ∧ Got w 2 [(10, 5), (30, 7)] A w' := by
  have h := drop_any (some ⟨w.heap.size, 0, none⟩) 3 3 smp 20 _ _ (smp_shows w) (by simp) (by omega) smp_fits
  rw [kn3] at h
  exact h.mono fun e w' ⟨A, c, he, ho, hb⟩ => ⟨A, c, he, got_of ho hb⟩
theorem drop2 (w : World) : Calls Try.prog 23 #[.slice (some ⟨w.heap.size, 0, none⟩) 3 3, .int .i64 21] (w.alloc SO) fun e w' => ∃ A c, e = .returned (.tuple #[.slice A 3 c, .int .i64 0]) ∧ Got w 3 smp A w' := by
  have h := drop_any (some ⟨w.heap.size, 0, none⟩) 3 3 smp 21 _ _ (smp_shows w) (by simp) (by omega) smp_fits
  rw [kn4] at h
  exact h.mono fun e w' ⟨A, c, he, ho, hb⟩ => ⟨A, c, he, got_of ho hb⟩
theorem bet1 (w : World) : Calls Try.prog 16 #[.slice (some ⟨w.heap.size, 0, none⟩) 3 3, .int .i64 12, .int .i64 40] (w.alloc SO) fun e w' => ∃ A c, e = .returned (.slice A 2 c) ∧ Got w 2 [(12, 5), (20, 7)] A w' := by
  have h := between_any (some ⟨w.heap.size, 0, none⟩) 3 3 smp 12 40 _ _ (smp_shows w) (by simp) (by unfold maxLen; omega) smp_fits (by omega)
  rw [kn5] at h
  exact h.mono fun e w' ⟨A, c, he, ho, hb⟩ => ⟨A, c, he, got_of ho hb⟩
theorem bet2 (w : World) : Calls Try.prog 16 #[.slice (some ⟨w.heap.size, 0, none⟩) 3 3, .int .i64 0, .int .i64 9] (w.alloc SO) fun e w' => ∃ A c, e = .returned (.slice A 0 c) ∧ Got w 0 [] A w' := by
  have h := between_any (some ⟨w.heap.size, 0, none⟩) 3 3 smp 0 9 _ _ (smp_shows w) (by simp) (by unfold maxLen; omega) smp_fits (by omega)
  rw [kn6] at h
  exact h.mono fun e w' ⟨A, c, he, ho, hb⟩ => ⟨A, c, he, got_of ho hb⟩
/-- A list against a block of literals just built. -/
theorem lit_same {w : World} {B n : Nat} {A : Option Addr} {l : List (Int × Int)} (c : Nat) (h : Shows w B 2 A n (DC l)) (hB : B ≤ w.heap.size) (hn : n ≤ 1000) :
    Calls Try.prog 13 #[.slice A n c, .slice (some ⟨w.heap.size, 0, none⟩) n n] (w.alloc (.cells (DC l).toArray 31)) fun e w' => e = .returned (.bool true) ∧ Below w.heap.size w w' := by
  have hl := h.num
  refine (sameDated_eq (h.alloc hB _) ((show Block _ w.heap.size 31 (DC l) from Block.new w _ (DC l)).shows (size := 2) (n := n) (by rw [dc_len, hl])) rfl (by unfold maxLen; omega)).mono ?_
  rintro e w' ⟨rfl, m, rfl⟩
  exact ⟨rfl, bel_drewN (bel_alloc (Below.refl _ w) _) m⟩
set_option maxRecDepth 100000 in
set_option maxHeartbeats 8000000 in
theorem dknown_walk (w : World) : Calls Try.prog 7 #[] w fun e w' => e = .returned (.bool true) ∧ Below w.heap.size w w' := by
  go_enter Try.func7, Try.ntmps7
  go_wp2_with fail
  refine (sample_any _).mono ?_
  rintro e w1 ⟨rfl, rfl⟩
  go_wp2_with fail
  refine (put1 _).mono ?_
  rintro e w1 ⟨A1, c1, rfl, s1, b1⟩
  go_wp2_with fail
  refine (sample_any _).mono ?_
  rintro e w2 ⟨rfl, rfl⟩
  go_wp2_with fail
  refine (put2 _).mono ?_
  rintro e w2 ⟨A2, c2, rfl, s2, b2⟩
  go_wp2_with fail
  refine (sample_any _).mono ?_
  rintro e w3 ⟨rfl, rfl⟩
  go_wp2_with fail
  refine (drop1 _).mono ?_
  rintro e w3 ⟨A3, c3, rfl, s3, b3⟩
  go_wp2_with fail
  refine (sample_any _).mono ?_
  rintro e w4 ⟨rfl, rfl⟩
  go_wp2_with fail
  refine (drop2 _).mono ?_
  rintro e w4 ⟨A4, c4, rfl, s4, b4⟩
  have z12 := b2.size
  have z23 := b3.size
  have z34 := b4.size
  have t1 := ((s1.call b2 (Nat.le_refl _)).call b3 z12).call b4 (by omega)
  have t2 := (s2.call b3 (Nat.le_refl _)).call b4 z23
  have t3 := s3.call b4 (Nat.le_refl _)
  have bel4 := bel_call (bel_call (bel_call b1 b2) b3) b4
  clear s1 s2 s3 b1 b2 b3 b4
  go_wp2_with fail
  refine (lit_same c1 t1 (by omega) (by omega)).mono ?_
  rintro e w5 ⟨rfl, b5⟩
  have z5 := b5.size
  go_wp2_with fail
  refine (lit_same c2 (t2.call b5 (by omega)) (by omega) (by omega)).mono ?_
  rintro e w6 ⟨rfl, b6⟩
  have z6 := b6.size
  go_wp2_with fail
  refine (lit_same c3 ((t3.call b5 (by omega)).call b6 (by omega)) (by omega) (by omega)).mono ?_
  rintro e w7 ⟨rfl, b7⟩
  have z7 := b7.size
  go_wp2_with fail
  refine (sample_any _).mono ?_
  rintro e w8 ⟨rfl, rfl⟩
  go_wp2_with fail
  refine (lit_same (l := smp) c4 (((s4.call b5 (by omega)).call b6 (by omega)).call b7 (by omega)) (by omega) (by omega)).mono ?_
  rintro e w8 ⟨rfl, b8⟩
  have bel8 := bel_call (bel_call (bel_call (bel_call bel4 b5) b6) b7) b8
  clear t1 t2 t3 s4 b5 b6 b7 b8
  go_wp2_with fail
  refine (sample_any _).mono ?_
  rintro e w9 ⟨rfl, rfl⟩
  go_wp2_with fail
  refine (bet1 _).mono ?_
  rintro e w9 ⟨A9, c9, rfl, s9, b9⟩
  go_wp2_with fail
  refine (lit_same c9 s9 (Nat.le_refl _) (by omega)).mono ?_
  rintro e w10 ⟨rfl, b10⟩
  go_wp2_with fail
  refine (sample_any _).mono ?_
  rintro e w11 ⟨rfl, rfl⟩
  go_wp2_with fail
  refine (bet2 _).mono ?_
  rintro e w11 ⟨A11, c11, rfl, s11, b11⟩
  go_wp2_with fail
  refine (awake_true _).mono ?_
  rintro e w12 ⟨rfl, b12⟩
  go_wp2_with fail
  have hck := check_any (some ⟨w12.heap.size, 0, none⟩) 2 2 [(20, 0), (10, 0)] (w12.heap.size + 1) _ ((show Block _ w12.heap.size 31 (DC [(20, 0), (10, 0)]) from Block.new w12 _ (DC [(20, 0), (10, 0)])).shows rfl) (by simp) (by unfold maxLen; omega) (by decide)
  rw [kn7] at hck
  refine hck.mono ?_
  rintro e w13 ⟨rfl, b13⟩
  go_wp2_with fail
  go_ret
  exact ⟨rfl, bel_call (bel_alloc (bel_call (bel_call (bel_call (bel_call bel8 b9) b10) b11) b12) _) b13⟩
end Go.Proofs.Ytoedhcenmbpeeaa
