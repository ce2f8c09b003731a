/- The walk of 'apportionlaw05.OctetGets'. -/
import Derived.Test.YtnhiipiciondoaaRefGetL
import Derived.Test.YtnhiipiciondoaaKitBytes
namespace Go.Proofs.Ytnhiipiciondoaa
open Go.RowKit Go.Lib

theorem Block.step {W w' : World} {g : Nat} {t : TypeId} {cs : List Value} (h : Block W g t cs) (hb : Below W.heap.size W w') (o : Obj) : Block (w'.alloc o) g t cs := (h.call hb).alloc o
theorem bel_next {w W w' : World} (h : Below w.heap.size w W) (hb : Below W.heap.size W w') (o : Obj) : Below w.heap.size w (w'.alloc o) := bel_alloc (bel_call h hb) o
theorem lent_shows {w : World} {g k : Nat} {xs : List Int} (hl : xs.length = k) (h : Block w g 5 (U8 (lentB xs))) : Shows w (g + 1) 1 (some ⟨g, 0, none⟩) k (U8 xs) := by
  have := (h.shows (size := 1) (n := k + 3) (by simp [U8, lentB, markB, hl])).take (show k ≤ k + 3 by omega)
  rwa [show (U8 (lentB xs)).take (k * 1) = U8 xs by simp [U8, lentB, hl]] at this
theorem getMany_len (xs : List Int) (hx : ∀ x ∈ xs, 0 ≤ x ∧ x ≤ 255) : ∀ (k : Nat) (at_ : Int) (acc : List Int), at_ ≤ xs.length → ((getMany xs k at_ acc).1.length : Int) ≤ (acc.length : Int) + (xs.length - at_) := by
  intro k
  induction k with
  | zero => intro at_ acc h; simp [getMany]; omega
  | succ k ih =>
    intro at_ acc h
    rw [getMany]
    split
    · simp; omega
    · rename_i h0
      have hf := (Oct.getB_facts xs at_ hx).2 (by simpa using h0)
      have := ih (Oct.getB xs at_).2.1 (acc ++ [(Oct.getB xs at_).1]) hf.2.1
      simp only [List.length_append, List.length_cons, List.length_nil] at this
      omega
theorem getLs_le (xs : List Int) (hx : ∀ x ∈ xs, 0 ≤ x ∧ x ≤ 255) (at_ most : Int) : (getLs xs at_ most).1.length ≤ xs.length := by
  rw [getLs_len]
  by_cases h : (lenB xs at_ most).2.2.1 = 0
  · obtain ⟨n, nx, he, _, hn, _⟩ := lenB_good hx h
    rw [if_neg (by simpa using h), he]
    have := getMany_len xs hx n nx [] (by omega)
    simp at this ⊢
    omega
  · rw [if_pos h]; simp
set_option maxRecDepth 100000 in
set_option maxHeartbeats 8000000 in
theorem gets_walk (A : Option Addr) (k c : Nat) (xs : List Int) (at_ most : Int) (w : World) (hb : Shows w w.heap.size 1 A k (U8 xs)) (hx : ∀ x ∈ xs, 0 ≤ x ∧ x ≤ 255) (hkc : k ≤ c) (_ : c ≤ maxLen)
    (ha : -9223372036854775808 ≤ at_ ∧ at_ ≤ 9223372036854775807) (_ : -9223372036854775808 ≤ most ∧ most ≤ 9223372036854775807) :
    Calls Try.prog 5 #[.slice A k c, .int .i64 at_, .int .i64 most] w fun e w' => e = .returned (.bool true) ∧ Below w.heap.size w w' := by
  obtain ⟨a0, a1⟩ := ha
  by_cases h5 : 5000 < k
  · go_enter Try.func5, Try.ntmps5
    go_wp2_with fail
    go_ret
    exact ⟨rfl, Below.refl _ _⟩
  · have hl : xs.length = k := by have := hb.len; simpa [U8] using this
    have Hx := Lib.hid hx
    obtain ⟨g0, g1, g2, g3, hgb⟩ : ∃ g0 g1 g2 g3, Oct.getB xs at_ = (g0, g1, g2, g3) := ⟨_, _, _, _, rfl⟩
    obtain ⟨s0, s1, s2, s3, hgt⟩ : ∃ s0 s1 s2 s3, getT xs at_ most = (s0, s1, s2, s3) := ⟨_, _, _, _, rfl⟩
    obtain ⟨l0, l1, l2, l3, hgl⟩ : ∃ l0 l1 l2 l3, getLs xs at_ most = (l0, l1, l2, l3) := ⟨_, _, _, _, rfl⟩
    have hll : l0.length ≤ 65600 := by have := getLs_le xs hx at_ most; rw [hgl] at this; simp only at this; omega
    have q1 := fun (A : Option Addr) (c B : Nat) (w : World) (h : Shows w B 1 A k (U8 xs)) (hB : B ≤ w.heap.size) (hc : k ≤ c) => get_is (c := c) hgb h (by unfold maxLen; omega) hB hc Hx.out a0 a1
    have q2 := fun (A : Option Addr) (c B : Nat) (w : World) (h : Shows w B 1 A k (U8 xs)) (hB : B ≤ w.heap.size) (hc : k ≤ c) => refGet_is (c := c) hgb h (by unfold maxLen; omega) hB hc Hx.out a0 a1
    have q3 := fun (A : Option Addr) (c B : Nat) (w : World) (h : Shows w B 1 A k (U8 xs)) (hB : B ≤ w.heap.size) (hc : k ≤ c) => getText_any A k c xs at_ most B w h hB (by omega) hc Hx.out a0 a1
    have q4 := fun (A : Option Addr) (c B : Nat) (w : World) (h : Shows w B 1 A k (U8 xs)) (hB : B ≤ w.heap.size) (hc : k ≤ c) => refGetText_any A k c xs at_ most B w h hB (by omega) hc Hx.out a0 a1
    have q5 := fun (A : Option Addr) (c B : Nat) (w : World) (h : Shows w B 1 A k (U8 xs)) (hB : B ≤ w.heap.size) (hc : k ≤ c) => getList_any A k c xs at_ most B w h hB (by omega) hc Hx.out a0 a1
    have q6 := fun (A : Option Addr) (c B : Nat) (w : World) (h : Shows w B 1 A k (U8 xs)) (hB : B ≤ w.heap.size) (hc : k ≤ c) => refGetList_any A k c xs at_ most B w h hB (by omega) hc Hx.out a0 a1
    rw [hgt] at q3 q4
    rw [hgl] at q5 q6
    simp only [tv, fv] at q3 q4
    have Hl := Lib.hid hl
    clear hgb hgt hgl hl hx
    go_enter Try.func5, Try.ntmps5
    go_wp2_with fail
    refine (lentBytes_any A k c xs _ _ hb (Nat.le_refl _) (by omega)).mono ?_
    rintro e w1 ⟨g, rfl, hg, hblk1, hb1⟩
    have z1 := hb1.size
    have sh1 : Shows w1 (g + 1) 1 (some ⟨g, 0, none⟩) k (U8 xs) := lent_shows Hl.out hblk1
    have gl := hblk1.lt
    go_wp2_with fail
    refine (q1 _ (k + 3) _ _ sh1 gl (by omega)).mono ?_
    rintro e w2 ⟨rfl, hb2⟩
    have z2 := hb2.size
    have bel2 := bel_next hb1 hb2 (.cells #[.int .i64 g2, .int .i64 g3] 37)
    have p2 : Block (w2.alloc (.cells #[.int .i64 g2, .int .i64 g3] 37)) w2.heap.size 37 [.int .i64 g2, .int .i64 g3] := Block.new w2 _ _
    have y2 : Block (w2.alloc (.cells #[.int .i64 g2, .int .i64 g3] 37)) g 5 (U8 (lentB xs)) := hblk1.step hb2 _
    go_wp2_with fail
    refine (q2 _ c _ _ (hb.below bel2) bel2.size hkc).mono ?_
    rintro e w3 ⟨rfl, hb3⟩
    have bel3 := bel_next bel2 hb3 (.cells #[.int .i64 g2, .int .i64 g3] 37)
    have p3 : Block (w3.alloc (.cells #[.int .i64 g2, .int .i64 g3] 37)) w3.heap.size 37 [.int .i64 g2, .int .i64 g3] := Block.new w3 _ _
    have y3 := y2.step hb3 (.cells #[.int .i64 g2, .int .i64 g3] 37)
    have sh3 : Shows (w3.alloc (.cells #[.int .i64 g2, .int .i64 g3] 37)) (g + 1) 1 (some ⟨g, 0, none⟩) k (U8 xs) := lent_shows Hl.out y3
    go_wp2_with fail
    refine (q3 _ (k + 3) _ _ sh3 y3.lt (by omega)).mono ?_
    rintro e w4 ⟨rfl, hb4⟩
    have bel4 := bel_next bel3 hb4 (.cells #[.int .i64 s2, .int .i64 s3] 37)
    have p4 : Block (w4.alloc (.cells #[.int .i64 s2, .int .i64 s3] 37)) w4.heap.size 37 [.int .i64 s2, .int .i64 s3] := Block.new w4 _ _
    have y4 := y3.step hb4 (.cells #[.int .i64 s2, .int .i64 s3] 37)
    go_wp2_with fail
    refine (q4 _ c _ _ (hb.below bel4) bel4.size hkc).mono ?_
    rintro e w5 ⟨rfl, hb5⟩
    have bel5 := bel_next bel4 hb5 (.cells #[.int .i64 s2, .int .i64 s3] 37)
    have p5 : Block (w5.alloc (.cells #[.int .i64 s2, .int .i64 s3] 37)) w5.heap.size 37 [.int .i64 s2, .int .i64 s3] := Block.new w5 _ _
    have y5 := y4.step hb5 (.cells #[.int .i64 s2, .int .i64 s3] 37)
    have sh5 : Shows (w5.alloc (.cells #[.int .i64 s2, .int .i64 s3] 37)) (g + 1) 1 (some ⟨g, 0, none⟩) k (U8 xs) := lent_shows Hl.out y5
    go_wp2_with fail
    refine (q5 _ (k + 3) _ _ sh5 y5.lt (by omega)).mono ?_
    rintro e w6 ⟨X6, d6, rfl, o6, hb6⟩
    simp only at o6
    have bel6 := bel_next bel5 hb6 (.cells #[.int .i64 l2, .int .i64 l3] 37)
    have p6 : Block (w6.alloc (.cells #[.int .i64 l2, .int .i64 l3] 37)) w6.heap.size 37 [.int .i64 l2, .int .i64 l3] := Block.new w6 _ _
    have y6 := y5.step hb6 (.cells #[.int .i64 l2, .int .i64 l3] 37)
    have o6' := own_below o6 (bel_alloc (Below.refl _ _) (.cells #[.int .i64 l2, .int .i64 l3] 37))
    go_wp2_with fail
    refine (q6 _ c _ _ (hb.below bel6) bel6.size hkc).mono ?_
    rintro e w7 ⟨X7, d7, rfl, o7, hb7⟩
    simp only at o7
    have bel7 := bel_next bel6 hb7 (.cells #[.int .i64 l2, .int .i64 l3] 37)
    have p7 : Block (w7.alloc (.cells #[.int .i64 l2, .int .i64 l3] 37)) w7.heap.size 37 [.int .i64 l2, .int .i64 l3] := Block.new w7 _ _
    have y7 := y6.step hb7 (.cells #[.int .i64 l2, .int .i64 l3] 37)
    have x6 := (Shows.of_own (own_below o6' hb7)).alloc (Nat.le_refl _) (.cells #[.int .i64 l2, .int .i64 l3] 37)
    have x7 := (Shows.of_own o7).alloc (Nat.le_refl _) (.cells #[.int .i64 l2, .int .i64 l3] 37)
    have r2 := ((((p2.step hb3 (.cells #[.int .i64 g2, .int .i64 g3] 37)).step hb4 (.cells #[.int .i64 s2, .int .i64 s3] 37)).step hb5 (.cells #[.int .i64 s2, .int .i64 s3] 37)).step hb6 (.cells #[.int .i64 l2, .int .i64 l3] 37)).step hb7 (.cells #[.int .i64 l2, .int .i64 l3] 37)
    have r3 := (((p3.step hb4 (.cells #[.int .i64 s2, .int .i64 s3] 37)).step hb5 (.cells #[.int .i64 s2, .int .i64 s3] 37)).step hb6 (.cells #[.int .i64 l2, .int .i64 l3] 37)).step hb7 (.cells #[.int .i64 l2, .int .i64 l3] 37)
    have r4 := ((p4.step hb5 (.cells #[.int .i64 s2, .int .i64 s3] 37)).step hb6 (.cells #[.int .i64 l2, .int .i64 l3] 37)).step hb7 (.cells #[.int .i64 l2, .int .i64 l3] 37)
    have r5 := (p5.step hb6 (.cells #[.int .i64 l2, .int .i64 l3] 37)).step hb7 (.cells #[.int .i64 l2, .int .i64 l3] 37)
    have r6 := p6.step hb7 (.cells #[.int .i64 l2, .int .i64 l3] 37)
    have c20 := r2.cell 0
    have c21 := r2.cell 1
    have c30 := r3.cell 0
    have c31 := r3.cell 1
    have c40 := r4.cell 0
    have c41 := r4.cell 1
    have c50 := r5.cell 0
    have c51 := r5.cell 1
    have c60 := r6.cell 0
    have c61 := r6.cell 1
    have c70 := p7.cell 0
    have c71 := p7.cell 1
    simp only [List.getElem?_cons_zero, List.getElem?_cons_succ] at c20 c21 c30 c31 c40 c41 c50 c51 c60 c61 c70 c71
    go_wp2_with fail
    refine (sameInts_eq x6 x7 rfl (by omega)).mono ?_
    rintro e w8 ⟨rfl, m, rfl⟩
    go_wp2_with fail
    refine (keptBytes_yes _ A k (k + 3) c xs _ _ _ rfl ((y7.drewN m).shows (by simp [U8, lentB, markB, Hl.out])) ((hb.below bel7).drewN m) y7.lt bel7.size (by omega) Hx.out).mono ?_
    rintro e w9 ⟨rfl, hb9⟩
    go_wp2_with fail
    refine (awake_true _).mono ?_
    rintro e w10 ⟨rfl, hb10⟩
    go_wp2_with fail
    go_ret
    exact ⟨rfl, bel_call (bel_call (bel_drewN bel7 m) hb9) hb10⟩
end Go.Proofs.Ytnhiipiciondoaa
