/- The walks of 'matrix.of', of the document's 'of'. -/
import Derived.Test.YtiomkbpniplfhaaMatOf
namespace Go.Proofs.Ytiomkbpniplfhaa.Mat
theorem of_later {l : List S6} (hok : Ok l) {j q d : Int} {k : Nat} (hH : ∀ x, l[k]? = some x → ¬ Lt x (key j q d)) (hns : ∀ x, l[k]? = some x → ¬ Same x (key j q d)) : ∀ (m : Nat) (y : S6), l[m]? = some y → k ≤ m → Lt (key j q d) y := by
  intro m y hy hm
  have hml := (List.getElem?_eq_some_iff.1 hy).1
  obtain ⟨x, hx⟩ : ∃ x, l[k]? = some x := ⟨l[k]'(by omega), List.getElem?_eq_getElem _⟩
  have h1 : Lt (key j q d) x := by
    rcases lt_or x (key j q d) with h | h | h
    · exact absurd h (hH x hx)
    · exact absurd h (hns x hx)
    · exact h
  rcases Nat.lt_or_ge k m with h | h
  · exact lt_trans h1 (ok_pair hok hx hy h)
  · obtain rfl : m = k := by omega
    rw [hx] at hy; injection hy with hy; subst hy; exact h1
theorem of_found {l : List S6} (hok : Ok l) {j q d : Int} {k : Nat} {x : S6} (hx : l[k]? = some x) (hs : Same x (key j q d)) : ofF l j q d = some x := by
  have h1 := hs
  unfold Same at h1
  rw [key_a, key_b, key_c] at h1
  refine find_at hx (fun h => lt_irrefl _ (same_lt hs h)) (fun m y hy hm => ?_) h1.1 h1.2.1
  exact same_lt (same_symm hs) (ok_pair hok hx hy hm)
end Go.Proofs.Ytiomkbpniplfhaa.Mat
namespace Go.Proofs.Ytiomkbpniplfhaa
open Go.RowKit

theorem block_top {W : World} {t : TypeId} {g : Nat} {cs : List Value} (hg : W.heap.size = g) : Block (W.alloc (.cells cs.toArray t)) g t cs := hg ▸ Block.new W t cs
/-- A struct stored over another one. -/
theorem six_stored {w : World} {g : Nat} {t : TypeId} {x y : S6} (h : Block w g t x.cs) : Block ((((((w.setCell ⟨g, 0, none⟩ (.int .i64 y.a)).setCell ⟨g, 1, none⟩ (.int .i64 y.b)).setCell ⟨g, 2, none⟩ (.int .i64 y.c)).setCell ⟨g, 3, none⟩ (.int .i64 y.d)).setCell ⟨g, 4, none⟩ (.int .i64 y.e)).setCell ⟨g, 5, none⟩ (.int .i64 y.f)) g t y.cs :=
  (((((h.set 0 _).set 1 _).set 2 _).set 3 _).set 4 _).set 5 _
theorem six_far {w v : World} {g : Nat} (h : Below w.heap.size w v) (hg : w.heap.size ≤ g) (a b c d e f : Value) : Below w.heap.size w ((((((v.setCell ⟨g, 0, none⟩ a).setCell ⟨g, 1, none⟩ b).setCell ⟨g, 2, none⟩ c).setCell ⟨g, 3, none⟩ d).setCell ⟨g, 4, none⟩ e).setCell ⟨g, 5, none⟩ f) :=
  (((((h.setCell hg _).setCell hg _).setCell hg _).setCell hg _).setCell hg _).setCell hg _
set_option maxRecDepth 100000 in
set_option maxHeartbeats 8000000 in
theorem of_any (A : Option Addr) (n c : Nat) (l : List S6) (j q d : Int) (B : Nat) (w : World) (ha : Shows w B 6 A n (RC l)) (hB : B ≤ w.heap.size) (hok : Mat.Ok l) {x : S6} {bt : Bool} (hr : Mat.hand (Mat.ofF l j q d) = (x, bt)) :
    Calls Try.prog 30 #[.slice A n c, .int .i64 j, .int .i64 q, .int .i64 d] w fun e w' => e = .returned (.tuple #[(.agg #[.int .i64 x.a, .int .i64 x.b, .int .i64 x.c, .int .i64 x.d, .int .i64 x.e, .int .i64 x.f]), .bool bt]) ∧ Below w.heap.size w w' := by
  have hs := fun (w' : World) (h : Shows w' B 6 A n (RC l)) (h' : B ≤ w'.heap.size) => search_any A n c l j q d B w' h h' hok
  have Hl := Lib.hid ha.num6
  have hn := hok.1
  rw [Hl.out] at hn
  go_enter Try.func30, Try.ntmps30
  go_wp2_with fail
  refine (hs _ (ha.alloc hB _) (by simp; omega)).mono ?_
  rintro e w1 ⟨k, bf, hk, hbf, hL, hH, rfl, hb1⟩
  rw [Hl.out] at hk
  have hbel := bel_call (bel_alloc (Below.refl _ w) _) hb1
  obtain ⟨hz, hzl⟩ := new_block (cs := [.int .i64 0, .int .i64 0, .int .i64 0, .int .i64 0, .int .i64 0, .int .i64 0]) hb1
  have z1 := hz.cell 0; have z2 := hz.cell 1; have z3 := hz.cell 2; have z4 := hz.cell 3; have z5 := hz.cell 4; have z6 := hz.cell 5; have zf := hz.free
  have hz' : Block w1 w.heap.size 28 S6.zero.cs := hz
  have ha1 := ha.call hbel hB
  rcases bf with _ | _
  · have hns : ∀ x, l[k]? = some x → ¬ Mat.Same x (Mat.key j q d) := fun x hx h => by have := hbf.2 ⟨x, hx, h⟩; cases this
    have hlat := Mat.of_later hok hH hns
    clear hbf hH hns
    rcases k with _ | i
    · rw [Mat.find_first (fun m y hy => hlat m y hy (Nat.zero_le _))] at hr
      obtain ⟨rfl, rfl⟩ := Prod.mk.inj (show (S6.zero, false) = (x, bt) from hr)
      clear hr hlat hs hL
      go_wp2_with fail
      exact ret_ct (T := 28) rfl rfl rfl (six_stored (y := S6.zero) hz') agg_rule size_rule ⟨rfl, six_far hbel (Nat.le_refl _) _ _ _ _ _ _⟩
    · obtain ⟨y, hy⟩ : ∃ y, l[i]? = some y := ⟨l[i]'(by rw [Hl.out]; omega), List.getElem?_eq_getElem _⟩
      have hLy := hL i y hy (by omega)
      have hl2 : ∀ (m : Nat) (z : S6), l[m]? = some z → i < m → Mat.Lt (Mat.key j q d) z := fun m z hz hm => hlat m z hz hm
      obtain ⟨b, off, rfl, hb, g⟩ := ha1.six hy
      have hne : ¬ b = w.heap.size := by omega
      have hne2 : ¬ w.heap.size = b := by omega
      obtain ⟨c1, c2, c3, c4, c5, c6⟩ := g
      have q1 : IntKind.i64.wrap ((i : Int) + 1 - 1) = (i : Int) := by rw [IntWalk.i64_in _ (by omega)]; omega
      have q2 : IntKind.i64.wrap (i : Int) = (i : Int) := IntWalk.i64_in _ (by omega)
      have q3 : (0 : Int) ≤ (i : Int) := by omega
      have q4 : (i : Int) < (n : Int) := by omega
      by_cases h1 : y.a = j
      · by_cases h2 : y.b = q
        · rw [Mat.find_at hy (Mat.lt_asymm hLy) hl2 h1 h2] at hr
          obtain ⟨rfl, rfl⟩ := Prod.mk.inj (show (y, true) = (x, bt) from hr)
          have e1 : (y.a != j) = false := by simpa using h1
          have e2 : (y.b != q) = false := by simpa using h2
          have e3 : (y.a == j) = true := by simpa using h1
          have e4 : (y.b == q) = true := by simpa using h2
          clear hr hlat hs hL hl2 hLy hy h1 h2 hk hn
          go_wp2_with fail
          exact ret_ct (T := 28) rfl rfl rfl (six_stored (y := y) hz') agg_rule size_rule ⟨rfl, six_far hbel (Nat.le_refl _) _ _ _ _ _ _⟩
        · rw [Mat.find_no hok hy (Mat.lt_asymm hLy) hl2 (.inr h2)] at hr
          obtain ⟨rfl, rfl⟩ := Prod.mk.inj (show (S6.zero, false) = (x, bt) from hr)
          have e1 : (y.a != j) = false := by simpa using h1
          have e2 : (y.b != q) = true := by simpa using h2
          have e3 : (y.a == j) = true := by simpa using h1
          have e4 : (y.b == q) = false := by simpa using h2
          clear hr hlat hs hL hl2 hLy hy h1 h2 hk hn
          go_wp2_with fail
          exact ret_ct (T := 28) rfl rfl rfl (six_stored (y := S6.zero) hz') agg_rule size_rule ⟨rfl, six_far hbel (Nat.le_refl _) _ _ _ _ _ _⟩
      · rw [Mat.find_no hok hy (Mat.lt_asymm hLy) hl2 (.inl h1)] at hr
        obtain ⟨rfl, rfl⟩ := Prod.mk.inj (show (S6.zero, false) = (x, bt) from hr)
        have e1 : (y.a != j) = true := by simpa using h1
        have e3 : (y.a == j) = false := by simpa using h1
        clear hr hlat hs hL hl2 hLy hy h1 hk hn
        go_wp2_with fail
        exact ret_ct (T := 28) rfl rfl rfl (six_stored (y := S6.zero) hz') agg_rule size_rule ⟨rfl, six_far hbel (Nat.le_refl _) _ _ _ _ _ _⟩
  · obtain ⟨y, hy, hsm⟩ := hbf.1 rfl
    have hkn := (List.getElem?_eq_some_iff.1 hy).1
    rw [Hl.out] at hkn
    rw [Mat.of_found hok hy hsm] at hr
    obtain ⟨rfl, rfl⟩ := Prod.mk.inj (show (y, true) = (x, bt) from hr)
    unfold Mat.Same at hsm
    rw [Mat.key_a, Mat.key_b, Mat.key_c] at hsm
    obtain ⟨h1, h2, h3⟩ := hsm
    obtain ⟨b, off, rfl, hb, g⟩ := ha1.six hy
    have hne : ¬ b = w.heap.size := by omega
    have hne2 : ¬ w.heap.size = b := by omega
    obtain ⟨c1, c2, c3, c4, c5, c6⟩ := g
    have q3 : (0 : Int) ≤ (k : Int) := by omega
    have q4 : (k : Int) < (n : Int) := by omega
    have e1 : (y.a != j) = false := by simpa using h1
    have e2 : (y.b != q) = false := by simpa using h2
    have e3 : (y.a == j) = true := by simpa using h1
    have e4 : (y.b == q) = true := by simpa using h2
    clear hr hbf hs hL hH hy h1 h2 h3 hk hn
    go_wp2_with fail
    exact ret_ct (T := 28) rfl rfl rfl (six_stored (y := y) hz') agg_rule size_rule ⟨rfl, six_far hbel (Nat.le_refl _) _ _ _ _ _ _⟩
set_option maxRecDepth 100000 in
set_option maxHeartbeats 8000000 in
theorem rof_any (A : Option Addr) (n c : Nat) (l : List S6) (jj q d : Int) (B : Nat) (w : World) (ha : Shows w B 6 A n (RC l)) (hB : B ≤ w.heap.size) (hn : n ≤ maxLen) {xr : S6} {bt : Bool} (hr : Mat.hand (Mat.ofF l jj q d) = (xr, bt)) :
    Calls Try.prog 31 #[.slice A n c, .int .i64 jj, .int .i64 q, .int .i64 d] w fun e w' => e = .returned (.tuple #[(.agg #[.int .i64 xr.a, .int .i64 xr.b, .int .i64 xr.c, .int .i64 xr.d, .int .i64 xr.e, .int .i64 xr.f]), .bool bt]) ∧ Below w.heap.size w w' := by
  have Hl := Lib.hid ha.num6
  have Hr := Lib.hid hr
  unfold maxLen at hn
  clear hr
  go_enter Try.func31, Try.ntmps31
  go_wp2_with fail
  go_loopw [12, 11] (fun i s11 wr => ∃ (j : Nat) (x : S6) (b : Bool), j ≤ n ∧ i = .int .i64 j ∧ s11 = .bool b ∧ Mat.hand (Mat.ofF (l.take j) jj q d) = (x, b) ∧ Block wr w.heap.size 28 [.int .i64 0, .int .i64 0, .int .i64 0, .int .i64 0, .int .i64 0, .int .i64 0] ∧ Block wr (w.heap.size + 1) 28 x.cs ∧ Below w.heap.size w wr) (fun i _ _ => n - (intOf i).toNat)
  case atStart => exact ⟨0, S6.zero, false, by omega, rfl, rfl, rfl, (Block.new w _ _).alloc _, block_top (by simp), bel_alloc (bel_alloc (Below.refl _ _) _) _⟩
  case round =>
    obtain ⟨j, x, b, hj, rfl, rfl, hof, hz, hx, hbel⟩ := hrel
    have Hof := Lib.hid hof
    clear hof
    have har := ha.call hbel hB
    have z1 := hz.cell 0; have z2 := hz.cell 1; have z3 := hz.cell 2; have z4 := hz.cell 3; have z5 := hz.cell 4; have z6 := hz.cell 5; have zf := hz.free
    obtain ⟨x1, x2, x3, x4, x5, x6⟩ := Block.six hx
    have xf := hx.free
    have hg1 : ¬ w.heap.size = w.heap.size + 1 := by omega
    have hg2 : ¬ w.heap.size + 1 = w.heap.size := by omega
    by_cases hlt : j < n
    · obtain ⟨y, hye⟩ : ∃ y, l[j]? = some y := ⟨l[j]'(by rw [Hl.out]; exact hlt), List.getElem?_eq_getElem _⟩
      have hst := Mat.of_take hye jj q d
      obtain ⟨bb, off, rfl, hb, g⟩ := har.six hye
      obtain ⟨c1, c2, c3, c4, c5, c6⟩ := g
      have hne : ¬ bb = w.heap.size + 1 := by omega
      have hne2 : ¬ w.heap.size + 1 = bb := by omega
      have q3 : (0 : Int) ≤ (j : Int) := by omega
      have q4 : (j : Int) < (n : Int) := by omega
      by_cases h1 : y.a = jj
      · have e1 : (y.a == jj) = true := by simpa using h1
        by_cases h2 : y.b = q
        · have e2 : (y.b == q) = true := by simpa using h2
          by_cases h3 : y.c ≤ d
          · rw [if_pos (by unfold Mat.inB; simp; omega)] at hst
            have Hst := Lib.hid (show Mat.hand (Mat.ofF (l.take (j + 1)) jj q d) = (y, true) by rw [hst]; rfl)
            clear hst hye h1 h2
            go_wp2_with fail
            go_roundw
            case rel => exact ⟨j + 1, y, true, by omega, by go_num, rfl, Hst.out, (((((hz.far hg1 _).far hg1 _).far hg1 _).far hg1 _).far hg1 _).far hg1 _, six_stored hx, six_far hbel (by omega) _ _ _ _ _ _⟩
            case measure => simp [intOf]; omega
          · rw [if_neg (by unfold Mat.inB; simp; omega)] at hst
            have Hst := Lib.hid (show Mat.hand (Mat.ofF (l.take (j + 1)) jj q d) = (x, b) by rw [hst]; exact Hof.out)
            clear hst hye h1 h2
            go_wp2_with fail
            go_roundw
            case rel => exact ⟨j + 1, x, b, by omega, by go_num, rfl, Hst.out, hz, hx, hbel⟩
            case measure => simp [intOf]; omega
        · have e2 : (y.b == q) = false := by simpa using h2
          rw [if_neg (by unfold Mat.inB; simp; omega)] at hst
          have Hst := Lib.hid (show Mat.hand (Mat.ofF (l.take (j + 1)) jj q d) = (x, b) by rw [hst]; exact Hof.out)
          clear hst hye h1 h2
          go_wp2_with fail
          go_roundw
          case rel => exact ⟨j + 1, x, b, by omega, by go_num, rfl, Hst.out, hz, hx, hbel⟩
          case measure => simp [intOf]; omega
      · have e1 : (y.a == jj) = false := by simpa using h1
        rw [if_neg (by unfold Mat.inB; simp; omega)] at hst
        have Hst := Lib.hid (show Mat.hand (Mat.ofF (l.take (j + 1)) jj q d) = (x, b) by rw [hst]; exact Hof.out)
        clear hst hye h1
        go_wp2_with fail
        go_roundw
        case rel => exact ⟨j + 1, x, b, by omega, by go_num, rfl, Hst.out, hz, hx, hbel⟩
        case measure => simp [intOf]; omega
    · obtain rfl : j = n := by omega
      go_wp2_with fail
      have hr := Hof.out
      rw [List.take_of_length_le (by rw [Hl.out]; exact Nat.le_refl _), Hr.out] at hr
      obtain ⟨rfl, rfl⟩ := Prod.mk.inj hr
      exact ret_ct (T := 28) rfl rfl rfl (six_stored (x := S6.zero) (y := xr) hz) agg_rule size_rule ⟨rfl, six_far hbel (Nat.le_refl _) _ _ _ _ _ _⟩
end Go.Proofs.Ytiomkbpniplfhaa
