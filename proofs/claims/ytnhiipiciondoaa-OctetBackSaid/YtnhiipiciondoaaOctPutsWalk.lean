/- The walk of 'apportionlaw05.OctetPuts'. -/
import Derived.Test.YtnhiipiciondoaaOctAwake
import Derived.Test.YtnhiipiciondoaaRefPut
import Derived.Test.YtnhiipiciondoaaKitOver
import Derived.Test.YtnhiipiciondoaaKitInts
namespace Go.Proofs.Ytnhiipiciondoaa
open Go.RowKit Go.Lib

theorem sameB_refl (xs : List Int) : sameB xs xs = true := decide_eq_true rfl
theorem nums_bytes (s : ByteArray) : ∀ x ∈ nums s, 0 ≤ x ∧ x ≤ 255 := by
  intro x hx
  simp only [nums, List.mem_map] at hx
  obtain ⟨b, _, rfl⟩ := hx
  have := b.toNat_lt
  omega
theorem putT_bytes (s : ByteArray) : ∀ x ∈ putT s, 0 ≤ x ∧ x ≤ 255 := by
  intro x hx
  rcases List.mem_append.1 hx with h | h
  · exact Oct.putN_bytes _ x h
  · exact nums_bytes s x h
theorem putL_bytes (l : List Int) : ∀ x ∈ putL l, 0 ≤ x ∧ x ≤ 255 := by
  intro x hx
  rcases List.mem_append.1 hx with h | h
  · exact Oct.putN_bytes _ x h
  · simp only [putAll, List.mem_flatMap] at h
    obtain ⟨y, _, hy⟩ := h
    exact Oct.putN_bytes _ x hy
/-- What is owned stays owned while another block is written. -/
theorem own_apart {w w' : World} {base e size n c : Nat} {A : Option Addr} {xs : List Value} {A2 : Option Addr} {n2 c2 : Nat} (h : w.ownsRow base e size (.slice A n c) n xs) (hg : w.grownBy w' (Value.ownBlock (.slice A2 n2 c2)))
    (hlt : ∀ g, Value.ownBlock (.slice A2 n2 c2) = some g → g < base) : w'.ownsRow base e size (.slice A n c) n xs :=
  h.kept hg (by
    rcases h0 : Value.ownBlock (.slice A n c) with _ | g
    · exact .inl rfl
    · refine .inr fun e => ?_
      have h1 := (h.lt g h0).1
      have h2 := hlt g e.symm
      omega)
theorem full_apart {T : Value → Prop} {w w' : World} {base e size n c : Nat} {A : Option Addr} {xs : List Value} {A2 : Option Addr} {n2 c2 : Nat} (h : Full T w base e size A n c xs) (hg : w.grownBy w' (Value.ownBlock (.slice A2 n2 c2)))
    (hlt : ∀ g, Value.ownBlock (.slice A2 n2 c2) = some g → g < base) : Full T w' base e size A n c xs :=
  h.kept hg fun g hA e => by
    have h1 := (h.lt hA).1
    have h2 := hlt g e.symm
    omega
set_option maxRecDepth 100000 in
set_option maxHeartbeats 2000000 in
theorem puts_walk (n : Int) (s : ByteArray) (A : Option Addr) (k c : Nat) (l : List Int) (w : World) (hn : -9223372036854775808 ≤ n ∧ n ≤ 9223372036854775807) (hs : s.size ≤ maxLen) (hl : Shows w w.heap.size 1 A k (I64 l))
    (hx : ∀ x ∈ l, -9223372036854775808 ≤ x ∧ x ≤ 9223372036854775807) (_ : k ≤ c) (_ : c ≤ maxLen) :
    Calls Try.prog 4 #[.int .i64 n, .string s, .slice A k c] w fun e w' => e = .returned (.bool true) ∧ Below w.heap.size w w' := by
  obtain ⟨n0, n1⟩ := hn
  unfold maxLen at hs
  by_cases hs5 : 5000 < s.size
  · go_enter Try.func4, Try.ntmps4
    go_wp2_with fail
    go_ret
    exact ⟨rfl, Below.refl _ _⟩
  · by_cases hk2 : 2000 < k
    · go_enter Try.func4, Try.ntmps4
      go_wp2_with fail
      go_ret
      exact ⟨rfl, Below.refl _ _⟩
    · have hll : l.length = k := by have := hl.len; simpa [I64] using this
      have Hll := Lib.hid hll
      clear hll
      go_enter Try.func4, Try.ntmps4
      go_wp2_with fail
      refine (lentInts_any A k c l _ _ hl (Nat.le_refl _) (by omega)).mono ?_
      rintro e w1 ⟨g, rfl, hg, hblk1, hb1⟩
      go_wp2_with fail
      refine (putF_any n _ n0 n1).mono ?_
      rintro e w2 ⟨A2, c2, rfl, f2, hb2⟩
      go_wp2_with fail
      refine (putTextF_any s _ (by omega)).mono ?_
      rintro e w3 ⟨A3, c3, rfl, f3, hb3⟩
      have z1 := hb1.size
      have z2 := hb2.size
      have z3 := hb3.size
      have hblk3 := (hblk1.call hb2).call hb3
      have hsh : Shows w3 (g + 1) 1 (some ⟨g, 0, none⟩) k (I64 l) := by
        have := (hblk3.shows (size := 1) (n := k + 3) (by simp [I64, lentI, markI, Hll.out])).take (show k ≤ k + 3 by omega)
        rwa [show (I64 (lentI l)).take (k * 1) = I64 l by simp [I64, lentI, Hll.out]] at this
      go_wp2_with fail
      refine (putListF_any _ k (k + 3) l _ _ hsh hblk3.lt (by omega) hx).mono ?_
      rintro e w4 ⟨A4, c4, rfl, f4, hb4⟩
      have z4 := hb4.size
      clear hsh
      go_wp2_with fail
      refine (refPut_any n _ n0 n1).mono ?_
      rintro e w5 ⟨X5, d5, rfl, o5, hb5⟩
      have z5 := hb5.size
      go_wp2_with fail
      refine (refPutText_any s _ (by omega)).mono ?_
      rintro e w6 ⟨X6, d6, rfl, o6, hb6⟩
      have z6 := hb6.size
      have hl6 := (((((hl.call hb1 (Nat.le_refl _)).call hb2 z1).call hb3 (by omega)).call hb4 (by omega)).call hb5 (by omega)).call hb6 (by omega)
      go_wp2_with fail
      refine (refPutList_any A k c l _ _ hl6 (by omega) (by omega) hx).mono ?_
      rintro e w7 ⟨X7, d7, rfl, o7, hb7⟩
      have z7 := hb7.size
      -- what is known in w7
      have f2' := ((((f2.call hb3).call hb4).call hb5).call hb6).call hb7
      have f3' := (((f3.call hb4).call hb5).call hb6).call hb7
      have f4' := ((f4.call hb5).call hb6).call hb7
      have o5' := own_below (own_below o5 hb6) hb7
      have o6' := own_below o6 hb7
      have hblk7 := (((hblk3.call hb4).call hb5).call hb6).call hb7
      have hl7 := hl6.call hb7 (by omega)
      go_wp2_with fail
      refine (same_is (sameB_refl _) (Shows.of_own f2'.owns) (Shows.of_own o5') (Oct.putN_bytes _) (Oct.putN_bytes _)).mono ?_
      rintro e w8 ⟨rfl, rfl⟩
      go_wp2_with fail
      refine (same_is (sameB_refl _) (Shows.of_own f3'.owns) (Shows.of_own o6') (putT_bytes _) (putT_bytes _)).mono ?_
      rintro e w8 ⟨rfl, rfl⟩
      go_wp2_with fail
      refine (same_is (sameB_refl _) (Shows.of_own f4'.owns) (Shows.of_own o7) (putL_bytes _) (putL_bytes _)).mono ?_
      rintro e w8 ⟨rfl, rfl⟩
      go_wp2_with fail
      refine (keptInts_yes _ A k (k + 3) c l _ _ _ rfl (hblk7.shows (by simp [I64, lentI, markI, Hll.out])) hl7 hblk7.lt (by omega) (by omega)).mono ?_
      rintro e w8 ⟨rfl, hb8⟩
      have z8 := hb8.size
      go_wp2_with fail
      refine (overBytes_any A2 _ c2 _ _ _ (f2'.call hb8) (Oct.putN_bytes _)).mono ?_
      rintro e w9 ⟨rfl, g9⟩
      have l2 := fun g => (f2.owns.lt g)
      have f3' := full_apart (f3'.call hb8) g9 (fun g hg => (l2 g hg).2)
      have f4' := full_apart (f4'.call hb8) g9 (fun g hg => by have := (l2 g hg).2; omega)
      have o5' := own_apart (own_below o5' hb8) g9 (fun g hg => by have := (l2 g hg).2; omega)
      have b9 := full_rows (f2'.call hb8) g9 (bel_call (bel_call (bel_call (bel_call (bel_call (bel_call (bel_call hb1 hb2) hb3) hb4) hb5) hb6) hb7) hb8) (by omega) z1
      go_wp2_with fail
      refine (overBytes_any A3 _ c3 _ _ _ f3' (putT_bytes _)).mono ?_
      rintro e w10 ⟨rfl, g10⟩
      have l3 := fun g => (f3.owns.lt g)
      have f4' := full_apart f4' g10 (fun g hg => (l3 g hg).2)
      have o5' := own_apart o5' g10 (fun g hg => by have := (l3 g hg).2; omega)
      have z9 := g9.size
      have b10 := full_rows f3' g10 b9 (by omega) (by omega)
      go_wp2_with fail
      refine (overBytes_any A4 _ c4 _ _ _ f4' (putL_bytes _)).mono ?_
      rintro e w11 ⟨rfl, g11⟩
      have l4 := fun g => (f4.owns.lt g)
      have o5' := own_apart o5' g11 (fun g hg => (l4 g hg).2)
      have z10 := g10.size
      have b11 := full_rows f4' g11 b10 (by omega) (by omega)
      have z11 := g11.size
      go_wp2_with fail
      refine (put_any n _ n0 n1).mono ?_
      rintro e w12 ⟨A12, c12, rfl, o12, hb12⟩
      go_wp2_with fail
      refine (same_is (sameB_refl _) (Shows.of_own o12) (Shows.of_own (own_below o5' hb12)) (Oct.putN_bytes _) (Oct.putN_bytes _)).mono ?_
      rintro e w13 ⟨rfl, rfl⟩
      go_wp2_with fail
      refine (awake_true _).mono ?_
      rintro e w14 ⟨rfl, hb14⟩
      go_wp2_with fail
      go_ret
      exact ⟨rfl, bel_call (bel_call b11 hb12) hb14⟩
end Go.Proofs.Ytnhiipiciondoaa
