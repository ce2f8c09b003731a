/- The walks of the document's digits and Text. -/
import Derived.Test.YtdjkdfgifajilaaSpText2
import Derived.Test.YtdjkdfgifajilaaSpOf2
import Derived.Deep.RegionWith
namespace Go.Proofs.Ytdjkdfgifajilaa
open Go.RowKit Go.Lib

theorem w64 {n : Int} (h : -9223372036854775808 ≤ n ∧ n ≤ 9223372036854775807) : IntKind.i64.wrap n = n := by rw [IntKind.wrap_i64]; omega
theorem size_dig (k n : Nat) : (strOfNums (Civ.digL k n)).size = k := by
  rw [strOfNums_size]
  induction k generalizing n with
  | zero => rfl
  | succ k ih => simp [Civ.digL, ih]
theorem conv_one (w : World) (x : Int) (b : Nat) (hb : b = w.heap.size) : (convert 53 9 (.slice (some ⟨b, 0, none⟩) 1 1)).run Try.prog (w.alloc (.cells #[.int .u8 x] 5)) = .ok (.string (strOfNums [x])) (w.alloc (.cells #[.int .u8 x] 5)) := by
  subst hb
  exact conv_shows 1 (shows_built w (U8 [x]) 5)
theorem conv_drew (w : World) (x : Int) : (convert 53 9 (.slice (some ⟨w.heap.size, 0, none⟩) 1 1)).run Try.prog (w.alloc (.cells #[.int .u8 x] 5)).drew = .ok (.string (strOfNums [x])) (w.alloc (.cells #[.int .u8 x] 5)).drew :=
  conv_shows 1 (Shows.drew (shows_built w (U8 [x]) 5))
theorem conv_after {w w1 : World} {x : Int} (hb : Below (w.alloc (.cells #[.int .u8 x] 5)).drew.heap.size (w.alloc (.cells #[.int .u8 x] 5)).drew w1) : (convert 53 9 (.slice (some ⟨w.heap.size, 0, none⟩) 1 1)).run Try.prog w1 = .ok (.string (strOfNums [x])) w1 :=
  conv_shows 1 (Shows.call (Shows.drew (shows_built w (U8 [x]) 5)) hb (by simp))
set_option maxRecDepth 100000 in
set_option maxHeartbeats 4000000 in
theorem rdig_any (k : Nat) : k ≤ 4 → ∀ (n : Nat), n ≤ 10000 → ∀ w : World, Calls Try.prog 55 #[.int .i64 (n : Int), .int .i64 (k : Int)] w fun e w' => e = .returned (.string (strOfNums (Civ.digL k n))) ∧ Below w.heap.size w w' := by
  induction k with
  | zero =>
    intro _ n hn w
    go_enter Try.func55, Try.ntmps55
    go_wp2_with fail
    go_ret
    exact ⟨rfl, Below.refl _ _⟩
  | succ k ih =>
    intro hk n hn w
    have hc : ∀ (v u : Int), v = (n : Int) / 10 → u = (k : Int) → ∀ w : World, Calls Try.prog 55 #[.int .i64 v, .int .i64 u] w fun e w' => e = .returned (.string (strOfNums (Civ.digL k (n / 10)))) ∧ Below w.heap.size w w' := by
      intro v u hv hu w
      subst hv hu
      exact ih (by omega) (n / 10) (by omega) w
    have z := size_dig k (n / 10)
    have z1 : ∀ x : Int, (strOfNums [x]).size = 1 := fun x => by rw [strOfNums_size]; rfl
    have hn0 : (0 : Int) ≤ (n : Int) % 10 ∧ (n : Int) % 10 ≤ 9 := by omega
    have e1 : IntKind.i64.wrap ((n : Int).tdiv 10) = (n : Int) / 10 := by rw [Int.tdiv_eq_ediv_of_nonneg (by omega), w64 (by omega)]
    have e0 : IntKind.i64.wrap (((k + 1 : Nat) : Int) - 1) = (k : Int) := by rw [w64 (by omega)]; omega
    have e2 : ((48 + n % 10 : Nat) : Int) = 48 + (n : Int) % 10 := by omega
    have e3 : strOfNums (Civ.digL (k + 1) n) = strOfNums (Civ.digL k (n / 10)) ++ strOfNums [48 + (n : Int) % 10] := by rw [str_app, ← e2]; rfl
    rw [e3]
    have kc := fun (w : World) (x : Int) => conv_one w x w.heap.size rfl
    have kc2 := fun (w : World) (x : Int) => conv_drew w x
    clear e2 e3 ih e1 e0
    go_enter Try.func55, Try.ntmps55
    go_wp2_with fail
    go_region_with (go_at_call 55; refine (hc _ _ (by first | rfl | omega | (rw [w64 (by omega)]) | (rw [w64 (by omega)]; omega)) (by first | rfl | omega | (rw [w64 (by omega)]) | (rw [w64 (by omega)]; omega)) _).mono ?_; rintro e w1 ⟨rfl, hb1⟩; try (have kd := conv_after hb1))
    all_goals
      go_wp2_with fail
      go_ret
      first
      | exact ⟨rfl, hb1⟩
      | exact ⟨rfl, bel_alloc (bel_call (bel_drewN (Below.refl _ _) 1) hb1) _⟩
      | exact ⟨rfl, bel_call (bel_drewN (bel_alloc (Below.refl _ _) _) 1) hb1⟩
theorem digL_four2 (y : Nat) : Civ.digL 4 y = Civ.digL 2 (y / 100) ++ Civ.digL 2 y := by
  have a1 : y / 100 / 10 % 10 = y / 1000 % 10 := by omega
  rw [Civ.digL_four, Civ.digL_two, Civ.digL_two, a1]
  rfl
/-- The document's digits, at a number told otherwise. -/
theorem rdig_at {k n : Nat} (hk : k ≤ 4) (hn : n ≤ 10000) {v : Int} (hv : v = n) (u : Int) (hu : u = k) (w : World) : Calls Try.prog 55 #[.int .i64 v, .int .i64 u] w fun e w' => e = .returned (.string (strOfNums (Civ.digL k n))) ∧ Below w.heap.size w w' := by
  subst hv hu
  exact rdig_any k hk n hn w
set_option maxRecDepth 100000 in
set_option maxHeartbeats 4000000 in
theorem rtext_month {p : Int} {y a : Nat} (h0 : 0 ≤ p) (hp : p * 1 < 119988) (hy : p * 1 / 12 + 1 = y) (ha : p * 1 % 12 / 1 + 1 = a) (w : World) :
    Calls Try.prog 34 #[.int .i64 1, .int .i64 p] w fun e w' => e = .returned (.tuple #[.string (strOfNums (pText 1 y a)), .int .i64 0]) ∧ Below w.heap.size w w' := by
  have hl := fun w => begins_is (k := 1) (n := 1) (p := p) (.inl ⟨rfl, rfl⟩) h0 hp w
  have hq : 0 ≤ p * 1 := by omega
  have q1 : ∀ w : World, Calls Try.prog 55 #[.int .i64 (p * 1 / 12 + 1), .int .i64 4] w fun e w' => e = .returned (.string (strOfNums (Civ.digL 4 y))) ∧ Below w.heap.size w w' := fun w => rdig_at (k := 4) (by decide) (by omega) hy 4 rfl w
  have q2 : ∀ w : World, Calls Try.prog 55 #[.int .i64 (p * 1 % 12 + 1), .int .i64 2] w fun e w' => e = .returned (.string (strOfNums (Civ.digL 2 a))) ∧ Below w.heap.size w w' := fun w => rdig_at (k := 2) (by decide) (by omega) (by omega) 2 rfl w
  have z2 := size_dig 2 a
  have z1 := size_dig 4 y
  clear hy ha
  simp only [Int.mul_one] at hl q1 q2 hq hp
  go_enter Try.func34, Try.ntmps34
  go_wp2_with fail
  refine (hl _).mono ?_
  rintro e w1 ⟨rfl, rfl⟩
  go_wp2_with fail
  refine (q1 _).mono ?_
  rintro e w2 ⟨rfl, hb2⟩
  go_wp2_with fail
  refine (q2 _).mono ?_
  rintro e w3 ⟨rfl, hb3⟩
  go_wp2_with fail
  go_ret2
  refine ⟨?_, bel_call hb2 hb3⟩
  have e45 : (⟨#[45, 77]⟩ : ByteArray) = strOfNums [45, 77] := rfl
  rw [e45, str_app, str_app]
  unfold pText
  rw [if_pos rfl, List.append_assoc, ← digL_four2 y]
  rfl
set_option maxRecDepth 100000 in
set_option maxHeartbeats 4000000 in
theorem rtext_quarter {p : Int} {y a : Nat} (h0 : 0 ≤ p) (hp : p * 3 < 119988) (hy : p * 3 / 12 + 1 = y) (ha : p * 3 % 12 / 3 + 1 = a) (w : World) :
    Calls Try.prog 34 #[.int .i64 2, .int .i64 p] w fun e w' => e = .returned (.tuple #[.string (strOfNums (pText 2 y a)), .int .i64 0]) ∧ Below w.heap.size w w' := by
  have hl := fun w => begins_is (k := 2) (n := 3) (p := p) (.inr (.inl ⟨rfl, rfl⟩)) h0 hp w
  have hq : 0 ≤ p * 3 := by omega
  have q1 : ∀ w : World, Calls Try.prog 55 #[.int .i64 (p * 3 / 12 + 1), .int .i64 4] w fun e w' => e = .returned (.string (strOfNums (Civ.digL 4 y))) ∧ Below w.heap.size w w' := fun w => rdig_at (k := 4) (by decide) (by omega) hy 4 rfl w
  have q2 : ∀ w : World, Calls Try.prog 55 #[.int .i64 ((p * 3 % 12 + 1) / 3 + 1), .int .i64 1] w fun e w' => e = .returned (.string (strOfNums (Civ.digL 1 a))) ∧ Below w.heap.size w w' := fun w => rdig_at (k := 1) (by decide) (by omega) (by omega) 1 rfl w
  have z2 := size_dig 1 a
  have z1 := size_dig 4 y
  clear hy ha
  generalize p * 3 = q at *
  go_enter Try.func34, Try.ntmps34
  go_wp2_with fail
  refine (hl _).mono ?_
  rintro e w1 ⟨rfl, rfl⟩
  go_wp2_with fail
  refine (q1 _).mono ?_
  rintro e w2 ⟨rfl, hb2⟩
  go_wp2_with fail
  refine (q2 _).mono ?_
  rintro e w3 ⟨rfl, hb3⟩
  go_wp2_with fail
  go_ret2
  refine ⟨?_, bel_call hb2 hb3⟩
  have e45 : (⟨#[45, 81]⟩ : ByteArray) = strOfNums [45, 81] := rfl
  rw [e45, str_app, str_app]
  unfold pText
  rw [if_neg (by decide), if_pos rfl, List.append_assoc, ← digL_four2 y]
  rfl
set_option maxRecDepth 100000 in
set_option maxHeartbeats 4000000 in
theorem rtext_half {p : Int} {y a : Nat} (h0 : 0 ≤ p) (hp : p * 6 < 119988) (hy : p * 6 / 12 + 1 = y) (ha : p * 6 % 12 / 6 + 1 = a) (w : World) :
    Calls Try.prog 34 #[.int .i64 3, .int .i64 p] w fun e w' => e = .returned (.tuple #[.string (strOfNums (pText 3 y a)), .int .i64 0]) ∧ Below w.heap.size w w' := by
  have hl := fun w => begins_is (k := 3) (n := 6) (p := p) (.inr (.inr (.inl ⟨rfl, rfl⟩))) h0 hp w
  have hq : 0 ≤ p * 6 := by omega
  have q1 : ∀ w : World, Calls Try.prog 55 #[.int .i64 (p * 6 / 12 + 1), .int .i64 4] w fun e w' => e = .returned (.string (strOfNums (Civ.digL 4 y))) ∧ Below w.heap.size w w' := fun w => rdig_at (k := 4) (by decide) (by omega) hy 4 rfl w
  have q2 : ∀ w : World, Calls Try.prog 55 #[.int .i64 ((p * 6 % 12 + 1) / 6 + 1), .int .i64 1] w fun e w' => e = .returned (.string (strOfNums (Civ.digL 1 a))) ∧ Below w.heap.size w w' := fun w => rdig_at (k := 1) (by decide) (by omega) (by omega) 1 rfl w
  have z2 := size_dig 1 a
  have z1 := size_dig 4 y
  clear hy ha
  generalize p * 6 = q at *
  go_enter Try.func34, Try.ntmps34
  go_wp2_with fail
  refine (hl _).mono ?_
  rintro e w1 ⟨rfl, rfl⟩
  go_wp2_with fail
  refine (q1 _).mono ?_
  rintro e w2 ⟨rfl, hb2⟩
  go_wp2_with fail
  refine (q2 _).mono ?_
  rintro e w3 ⟨rfl, hb3⟩
  go_wp2_with fail
  go_ret2
  refine ⟨?_, bel_call hb2 hb3⟩
  have e45 : (⟨#[45, 72]⟩ : ByteArray) = strOfNums [45, 72] := rfl
  rw [e45, str_app, str_app]
  unfold pText
  rw [if_neg (by decide), if_neg (by decide), if_pos rfl, List.append_assoc, ← digL_four2 y]
  rfl
set_option maxRecDepth 100000 in
set_option maxHeartbeats 4000000 in
theorem rtext_year {p : Int} {y a : Nat} (h0 : 0 ≤ p) (hp : p * 12 < 119988) (hy : p * 12 / 12 + 1 = y) (ha : p * 12 % 12 / 12 + 1 = a) (w : World) :
    Calls Try.prog 34 #[.int .i64 4, .int .i64 p] w fun e w' => e = .returned (.tuple #[.string (strOfNums (pText 4 y a)), .int .i64 0]) ∧ Below w.heap.size w w' := by
  have hl := fun w => begins_is (k := 4) (n := 12) (p := p) (.inr (.inr (.inr ⟨rfl, rfl⟩))) h0 hp w
  have hq : 0 ≤ p * 12 := by omega
  have q1 : ∀ w : World, Calls Try.prog 55 #[.int .i64 (p * 12 / 12 + 1), .int .i64 4] w fun e w' => e = .returned (.string (strOfNums (Civ.digL 4 y))) ∧ Below w.heap.size w w' := fun w => rdig_at (k := 4) (by decide) (by omega) hy 4 rfl w
  have z1 := size_dig 4 y
  clear hy ha
  generalize p * 12 = q at *
  go_enter Try.func34, Try.ntmps34
  go_wp2_with fail
  refine (hl _).mono ?_
  rintro e w1 ⟨rfl, rfl⟩
  go_wp2_with fail
  refine (q1 _).mono ?_
  rintro e w2 ⟨rfl, hb2⟩
  go_wp2_with fail
  go_ret2
  refine ⟨?_, hb2⟩
  unfold pText
  rw [if_neg (by decide), if_neg (by decide), if_neg (by decide), List.append_nil, ← digL_four2 y]
  rfl
theorem rtext_is {k n p : Int} {y a : Nat} (h : InKind k n) (h0 : 0 ≤ p) (hp : p * n < 119988) (hy : p * n / 12 + 1 = y) (ha : p * n % 12 / n + 1 = a) (w : World) :
    Calls Try.prog 34 #[.int .i64 k, .int .i64 p] w fun e w' => e = .returned (.tuple #[.string (strOfNums (pText k y a)), .int .i64 0]) ∧ Below w.heap.size w w' := by
  rcases h with ⟨rfl, rfl⟩ | ⟨rfl, rfl⟩ | ⟨rfl, rfl⟩ | ⟨rfl, rfl⟩
  · exact rtext_month h0 hp hy ha w
  · exact rtext_quarter h0 hp hy ha w
  · exact rtext_half h0 hp hy ha w
  · exact rtext_year h0 hp hy ha w
set_option maxRecDepth 100000 in
theorem rtext_not {k : Int} (h : k < 1 ∨ 4 < k) (p : Int) (w : World) :
    Calls Try.prog 34 #[.int .i64 k, .int .i64 p] w fun e w' => e = .returned (.tuple #[.string ⟨#[]⟩, .int .i64 2]) ∧ Below w.heap.size w w' := by
  have hl := begins_not h p
  clear h
  go_enter Try.func34, Try.ntmps34
  go_wp2_with fail
  refine (hl _).mono ?_
  rintro e w1 ⟨rfl, rfl⟩
  go_wp2_with fail
  go_ret2
  exact ⟨rfl, Below.refl _ _⟩
set_option maxRecDepth 100000 in
theorem rtext_out {k n p : Int} (h : InKind k n) (hp : p < 0 ∨ 119988 ≤ p * n) (w : World) :
    Calls Try.prog 34 #[.int .i64 k, .int .i64 p] w fun e w' => e = .returned (.tuple #[.string ⟨#[]⟩, .int .i64 5]) ∧ Below w.heap.size w w' := by
  have hl := begins_out h hp
  clear h hp
  go_enter Try.func34, Try.ntmps34
  go_wp2_with fail
  refine (hl _).mono ?_
  rintro e w1 ⟨rfl, rfl⟩
  go_wp2_with fail
  go_ret2
  exact ⟨rfl, Below.refl _ _⟩
end Go.Proofs.Ytdjkdfgifajilaa
