/- The walk of 'holiday.of'. -/
import Derived.Test.YtfgpndmlellidaaHolOf
namespace Go.Proofs.Ytfgpndmlellidaa
open Go.RowKit

/-- A struct stored over another one. -/
theorem six_stored {w : World} {g : Nat} {t : TypeId} {x y : S6} (h : Block w g t x.cs) : Block ((((((w.setCell ⟨g, 0, none⟩ (.int .i64 y.a)).setCell ⟨g, 1, none⟩ (.int .i64 y.b)).setCell ⟨g, 2, none⟩ (.int .i64 y.c)).setCell ⟨g, 3, none⟩ (.int .i64 y.d)).setCell ⟨g, 4, none⟩ (.int .i64 y.e)).setCell ⟨g, 5, none⟩ (.int .i64 y.f)) g t y.cs :=
  (((((h.set 0 _).set 1 _).set 2 _).set 3 _).set 4 _).set 5 _
theorem six_far {w v : World} {g : Nat} (h : Below w.heap.size w v) (hg : w.heap.size ≤ g) (a b c d e f : Value) : Below w.heap.size w ((((((v.setCell ⟨g, 0, none⟩ a).setCell ⟨g, 1, none⟩ b).setCell ⟨g, 2, none⟩ c).setCell ⟨g, 3, none⟩ d).setCell ⟨g, 4, none⟩ e).setCell ⟨g, 5, none⟩ f) :=
  (((((h.setCell hg _).setCell hg _).setCell hg _).setCell hg _).setCell hg _).setCell hg _
set_option maxRecDepth 100000 in
set_option maxHeartbeats 8000000 in
theorem of_any (A : Option Addr) (n c : Nat) (l : List S6) (j q d : Int) (B : Nat) (w : World) (ha : Shows w B 6 A n (RC l)) (hB : B ≤ w.heap.size) (hok : Hol.Ok l) {x : S6} {bt : Bool} (hr : Hol.hand (Hol.ofP l j q d) = (x, bt)) :
    Calls Try.prog 27 #[.slice A n c, .int .i64 j, .int .i64 q, .int .i64 d] w fun e w' => e = .returned (.tuple #[(.agg #[.int .i64 x.a, .int .i64 x.b, .int .i64 x.c, .int .i64 x.d, .int .i64 x.e, .int .i64 x.f]), .bool bt]) ∧ Below w.heap.size w w' := by
  have hs := fun (w' : World) (h : Shows w' B 6 A n (RC l)) (h' : B ≤ w'.heap.size) => search_any A n c l j q d B w' h h' hok
  have Hl := Lib.hid ha.num6
  have hn := hok.1
  rw [Hl.out] at hn
  go_enter Try.func27, Try.ntmps27
  go_wp2_with fail
  refine (hs _ (ha.alloc hB _) (by simp; omega)).mono ?_
  rintro e w1 ⟨k, bf, hk, hL, hH, rfl, hb1⟩
  rw [Hl.out] at hk
  have hbel := bel_call (bel_alloc (Below.refl _ w) _) hb1
  obtain ⟨hz, hzl⟩ := new_block (cs := [.int .i64 0, .int .i64 0, .int .i64 0, .int .i64 0, .int .i64 0, .int .i64 0]) hb1
  have z1 := hz.cell 0
  have z2 := hz.cell 1
  have z3 := hz.cell 2
  have z4 := hz.cell 3
  have z5 := hz.cell 4
  have z6 := hz.cell 5
  have zf := hz.free
  have hz' : Block w1 w.heap.size 28 S6.zero.cs := hz
  have ha1 := ha.call hbel hB
  by_cases hlt : k < n
  · obtain ⟨y, hy⟩ : ∃ y, l[k]? = some y := ⟨l[k]'(by rw [Hl.out]; exact hlt), List.getElem?_eq_getElem _⟩
    obtain ⟨b, off, rfl, hb, g⟩ := ha1.six hy
    have hne : ¬ b = w.heap.size := by omega
    have hne2 : ¬ w.heap.size = b := by omega
    obtain ⟨c1, c2, c3, c4, c5, c6⟩ := g
    have hH := hH y hy
    have q2 : (0 : Int) ≤ (k : Int) := by omega
    have q3 : (k : Int) < (n : Int) := by omega
    have q4 : ((k : Int) == (n : Int)) = false := by simp; omega
    by_cases h1 : y.a = j
    · by_cases h2 : y.b = q
      · rw [Hol.of_hit hL hy hH h1 h2] at hr
        obtain ⟨rfl, rfl⟩ := Prod.mk.inj hr
        have e1 : (y.a != j) = false := by simpa using h1
        have e2 : (y.b != q) = false := by simpa using h2
        have e3 : (y.a == j) = true := by simpa using h1
        have e4 : (y.b == q) = true := by simpa using h2
        clear hL hH hr hs hy h1 h2 hn hk
        go_wp2_with fail
        exact ret_ct (T := 28) rfl rfl rfl (six_stored (y := y) hz') agg_hol size_hol ⟨rfl, six_far hbel (Nat.le_refl _) _ _ _ _ _ _⟩
      · rw [Hol.of_none hok hL (fun z hz => by rw [hy] at hz; injection hz with hz; subst hz; exact ⟨hH, .inr h2⟩)] at hr
        obtain ⟨rfl, rfl⟩ := Prod.mk.inj hr
        have e1 : (y.a != j) = false := by simpa using h1
        have e2 : (y.b != q) = true := by simpa using h2
        have e3 : (y.a == j) = true := by simpa using h1
        have e4 : (y.b == q) = false := by simpa using h2
        clear hL hH hr hs hy h1 h2 hn hk
        go_wp2_with fail
        exact ret_ct (T := 28) rfl rfl rfl (six_stored (y := S6.zero) hz') agg_hol size_hol ⟨rfl, six_far hbel (Nat.le_refl _) _ _ _ _ _ _⟩
    · rw [Hol.of_none hok hL (fun z hz => by rw [hy] at hz; injection hz with hz; subst hz; exact ⟨hH, .inl h1⟩)] at hr
      obtain ⟨rfl, rfl⟩ := Prod.mk.inj hr
      have e1 : (y.a != j) = true := by simpa using h1
      have e3 : (y.a == j) = false := by simpa using h1
      clear hL hH hr hs hy h1 hn hk
      go_wp2_with fail
      exact ret_ct (T := 28) rfl rfl rfl (six_stored (y := S6.zero) hz') agg_hol size_hol ⟨rfl, six_far hbel (Nat.le_refl _) _ _ _ _ _ _⟩
  · obtain rfl : k = n := by omega
    rw [Hol.of_none hok hL (fun z hz => by rw [List.getElem?_eq_none (by rw [Hl.out]; exact Nat.le_refl _)] at hz; cases hz)] at hr
    obtain ⟨rfl, rfl⟩ := Prod.mk.inj hr
    clear hL hH hr hs hn hk
    go_wp2_with fail
    exact ret_ct (T := 28) rfl rfl rfl (six_stored (y := S6.zero) hz') agg_hol size_hol ⟨rfl, six_far hbel (Nat.le_refl _) _ _ _ _ _ _⟩
end Go.Proofs.Ytfgpndmlellidaa
