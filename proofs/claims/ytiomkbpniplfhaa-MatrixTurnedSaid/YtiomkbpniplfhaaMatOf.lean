/- The walks of 'slices.BinarySearchFunc' as 'matrix.of' calls it. -/
import Derived.Test.YtiomkbpniplfhaaMatCheck
namespace Go.Proofs.Ytiomkbpniplfhaa
open Go.RowKit

section
variable {P : Program} {fn : Func} {R : Ending → World → Prop} {a : Act} {w : World} {T t : TypeId} {b : Nat} {cs : List Value}
theorem ret_ct {x p : Tmp} (hr : fn.results = #[.cell p T, .tmp x]) (hd : a.defers = []) (hp : a.tmps.getD p undef = .pointer (some ⟨b, 0, none⟩)) (hb : Block w b t cs) (ha : ∀ w, (isAgg T).run P w = .ok true w) (hs : ∀ w, (sizeOf T).run P w = .ok cs.length w)
    (hR : R (.returned (.tuple #[.agg cs.toArray, a.tmps.getD x undef])) w) : bodyPost P fn R .ret a w := by
  refine bodyPost_ret (v := .tuple #[.agg cs.toArray, a.tmps.getD x undef]) ?_ hd hR
  simp only [results, hr]
  simp [Sem.run_bind, Result.andThen]
  rw [show a.tmps[p]?.getD undef = .pointer (some ⟨b, 0, none⟩) by rw [← hp]; simp]
  simp [asAddr, Sem.run_pure, run_loadVar_block hb ha hs]
end
theorem agg_rule (w : World) : (isAgg 28).run Try.prog w = .ok true w := by kernel_rfl
theorem size_rule (w : World) : (sizeOf 28).run Try.prog w = .ok 6 w := by kernel_rfl
/-- What the search finds. -/
def Found (l : List S6) (j q d : Int) (w : World) (e : Ending) (w' : World) : Prop := ∃ (k : Nat) (bf : Bool), k ≤ l.length ∧ (bf = true ↔ ∃ x, l[k]? = some x ∧ Mat.Same x (Mat.key j q d)) ∧ (∀ i x, l[i]? = some x → i < k → Mat.Lt x (Mat.key j q d)) ∧ (∀ x, l[k]? = some x → ¬ Mat.Lt x (Mat.key j q d)) ∧ e = .returned (.tuple #[.int .i64 k, .bool bf]) ∧ Below w.heap.size w w'
set_option maxRecDepth 100000 in
set_option maxHeartbeats 8000000 in
theorem search_any (A : Option Addr) (n c : Nat) (l : List S6) (j q d : Int) (B : Nat) (w : World) (ha : Shows w B 6 A n (RC l)) (hB : B ≤ w.heap.size) (hok : Mat.Ok l) :
    Calls Try.prog 42 #[.slice A n c, .agg #[.int .i64 j, .int .i64 q, .int .i64 d, .int .i64 0, .int .i64 0, .int .i64 0], .func (Fn.func 27) #[] #[]] w (Found l j q d w) := by
  have hl := ha.num6
  have hn := hok.1
  rw [hl] at hn
  have Hl := Lib.hid hl
  clear hl
  go_enter Try.func42, Try.ntmps42
  go_wp2_with fail
  go_loopw [9, 10] (fun s9 s10 wr => ∃ (lo hi : Nat), lo ≤ hi ∧ hi ≤ n ∧ s9 = .int .i64 lo ∧ s10 = .int .i64 hi ∧ (∀ t x, l[t]? = some x → t < lo → Mat.Lt x (Mat.key j q d)) ∧ (∀ t x, l[t]? = some x → hi ≤ t → ¬ Mat.Lt x (Mat.key j q d)) ∧ Below (w.alloc (.cells #[.int .i64 j, .int .i64 q, .int .i64 d, .int .i64 0, .int .i64 0, .int .i64 0] 28)).heap.size (w.alloc (.cells #[.int .i64 j, .int .i64 q, .int .i64 d, .int .i64 0, .int .i64 0, .int .i64 0] 28)) wr) (fun i j _ => (intOf j - intOf i).toNat)
  case atStart => exact ⟨0, n, by omega, by omega, rfl, rfl, fun t x _ h => by omega, fun t x h h' => by have := (List.getElem?_eq_some_iff.1 h).1; have := Hl.out; omega, Below.refl _ _⟩
  case round =>
    obtain ⟨lo, hi, hlh, hhn, rfl, rfl, hL, hH, hbel⟩ := hrel
    have HL := Lib.hid hL
    have HH := Lib.hid hH
    clear hL hH
    have hkey : Block wr w.heap.size 28 [.int .i64 j, .int .i64 q, .int .i64 d, .int .i64 0, .int .i64 0, .int .i64 0] := (Block.new w _ _).call hbel
    have k1 := hkey.cell 0
    have k2 := hkey.cell 1
    have k3 := hkey.cell 2
    have k4 := hkey.cell 3
    have k5 := hkey.cell 4
    have k6 := hkey.cell 5
    have hbel0 := bel_call (bel_alloc (Below.refl _ w) _) hbel
    by_cases hlt : lo < hi
    · obtain ⟨k, hk⟩ : ∃ k, (lo + hi) / 2 = k := ⟨_, rfl⟩
      have e1 : lo ≤ k := by omega
      have e2 : k < hi := by omega
      have ek : ((lo : Int) + (hi : Int)) / 2 = (k : Int) := by omega
      obtain ⟨x, hx⟩ : ∃ x, l[k]? = some x := ⟨l[k]'(by rw [Hl.out]; omega), List.getElem?_eq_getElem _⟩
      obtain ⟨b, off, rfl, hb, g⟩ := ha.six hx
      have g := g.below hbel0 (by omega)
      have g0 := g
      obtain ⟨c1, c2, c3, c4, c5, c6⟩ := g0
      have Hx := Lib.hid hx
      have hcall := fun w => order_any x (Mat.key j q d) w
      have hlt' := Mat.ord_lt x (Mat.key j q d)
      obtain ⟨r, hr⟩ : ∃ r, Mat.ord x (Mat.key j q d) = r := ⟨_, rfl⟩
      rw [hr] at hcall hlt'
      have q2 : (0 : Int) ≤ (k : Int) := by omega
      have q3 : (k : Int) < (n : Int) := by omega
      clear hr hx hk
      by_cases hneg : r < 0
      · have hlx := Lib.hid (hlt'.1 hneg)
        clear hlt'
        go_wp2_with fail
        go_region_held3 (fun w' => w'.cell? ⟨b, off + k * 6, none⟩ = some (.int .i64 x.a) ∧ w'.cell? ⟨b, off + k * 6 + 1, none⟩ = some (.int .i64 x.b) ∧ w'.cell? ⟨b, off + k * 6 + 2, none⟩ = some (.int .i64 x.c) ∧ w'.cell? ⟨b, off + k * 6 + 3, none⟩ = some (.int .i64 x.d) ∧ w'.cell? ⟨b, off + k * 6 + 4, none⟩ = some (.int .i64 x.e) ∧ w'.cell? ⟨b, off + k * 6 + 5, none⟩ = some (.int .i64 x.f) ∧ w'.cell? ⟨w.heap.size, 0, none⟩ = some (.int .i64 j) ∧ w'.cell? ⟨w.heap.size, 1, none⟩ = some (.int .i64 q) ∧ w'.cell? ⟨w.heap.size, 2, none⟩ = some (.int .i64 d) ∧ w'.cell? ⟨w.heap.size, 3, none⟩ = some (.int .i64 0) ∧ w'.cell? ⟨w.heap.size, 4, none⟩ = some (.int .i64 0) ∧ w'.cell? ⟨w.heap.size, 5, none⟩ = some (.int .i64 0)) (go_keep) (first
          | (go_at_call 27; refine (hcall _).mono ?_; rintro e w2 ⟨rfl, hb2⟩; have kx2 := Cells6.call (w := wr.drew) g hb2; obtain ⟨z1, z2, z3, z4, z5, z6⟩ := kx2; have kk := Block.call (w := wr.drew) hkey hb2; have v1 := kk.cell 0; have v2 := kk.cell 1; have v3 := kk.cell 2; have v4 := kk.cell 3; have v5 := kk.cell 4; have v6 := kk.cell 5))
        go_wp2_with fail
        go_roundw
        case rel => exact ⟨k + 1, hi, by omega, by omega, by go_num, rfl, fun t y hy ht => by
          rcases Nat.lt_or_ge t k with h | h
          · exact Mat.lt_trans (Mat.ok_pair hok hy Hx.out h) hlx.out
          · obtain rfl : t = k := by omega
            rw [Hx.out] at hy; injection hy with hy; subst hy; exact hlx.out, HH.out, hbel.drew.trans (hb2.mono (by have := hbel.size; exact this))⟩
        case measure => simp [intOf]; omega
      · have hlx := Lib.hid (fun h => hneg (hlt'.2 h))
        clear hlt'
        go_wp2_with fail
        go_region_held3 (fun w' => w'.cell? ⟨b, off + k * 6, none⟩ = some (.int .i64 x.a) ∧ w'.cell? ⟨b, off + k * 6 + 1, none⟩ = some (.int .i64 x.b) ∧ w'.cell? ⟨b, off + k * 6 + 2, none⟩ = some (.int .i64 x.c) ∧ w'.cell? ⟨b, off + k * 6 + 3, none⟩ = some (.int .i64 x.d) ∧ w'.cell? ⟨b, off + k * 6 + 4, none⟩ = some (.int .i64 x.e) ∧ w'.cell? ⟨b, off + k * 6 + 5, none⟩ = some (.int .i64 x.f) ∧ w'.cell? ⟨w.heap.size, 0, none⟩ = some (.int .i64 j) ∧ w'.cell? ⟨w.heap.size, 1, none⟩ = some (.int .i64 q) ∧ w'.cell? ⟨w.heap.size, 2, none⟩ = some (.int .i64 d) ∧ w'.cell? ⟨w.heap.size, 3, none⟩ = some (.int .i64 0) ∧ w'.cell? ⟨w.heap.size, 4, none⟩ = some (.int .i64 0) ∧ w'.cell? ⟨w.heap.size, 5, none⟩ = some (.int .i64 0)) (go_keep) (first
          | (go_at_call 27; refine (hcall _).mono ?_; rintro e w2 ⟨rfl, hb2⟩; have kx2 := Cells6.call (w := wr.drew) g hb2; obtain ⟨z1, z2, z3, z4, z5, z6⟩ := kx2; have kk := Block.call (w := wr.drew) hkey hb2; have v1 := kk.cell 0; have v2 := kk.cell 1; have v3 := kk.cell 2; have v4 := kk.cell 3; have v5 := kk.cell 4; have v6 := kk.cell 5))
        go_wp2_with fail
        go_roundw
        case rel => exact ⟨lo, k, by omega, by omega, rfl, rfl, HL.out, fun t y hy ht => by
          rcases Nat.lt_or_ge k t with h | h
          · intro hly
            exact hlx.out (Mat.lt_trans (Mat.ok_pair hok Hx.out hy h) hly)
          · obtain rfl : t = k := by omega
            rw [Hx.out] at hy; injection hy with hy; subst hy; exact hlx.out, hbel.drew.trans (hb2.mono (by have := hbel.size; exact this))⟩
        case measure => simp [intOf]; omega
    · obtain rfl : lo = hi := by omega
      by_cases hln : lo < n
      · obtain ⟨k, rfl⟩ : ∃ k, k = lo := ⟨_, rfl⟩
        obtain ⟨x, hx⟩ : ∃ x, l[k]? = some x := ⟨l[k]'(by rw [Hl.out]; omega), List.getElem?_eq_getElem _⟩
        obtain ⟨b, off, rfl, hb, g⟩ := ha.six hx
        have g := g.below hbel0 (by omega)
        have g0 := g
        obtain ⟨c1, c2, c3, c4, c5, c6⟩ := g0
        have Hx := Lib.hid hx
        have hcall := fun w => order_any x (Mat.key j q d) w
        obtain ⟨r, hr⟩ : ∃ r, Mat.ord x (Mat.key j q d) = r := ⟨_, rfl⟩
        rw [hr] at hcall
        have hsm := Mat.ord_same x (Mat.key j q d)
        rw [hr] at hsm
        have Hiff : Hid ((r == 0) = true ↔ ∃ y, some x = some y ∧ Mat.Same y (Mat.key j q d)) := by
          constructor
          · intro h; exact ⟨x, rfl, hsm.1 (by simpa using h)⟩
          · rintro ⟨y, hy, h⟩
            injection hy with hy
            subst hy
            simpa using hsm.2 h
        have q2 : (0 : Int) ≤ (k : Int) := by omega
        have q3 : (k : Int) < (n : Int) := by omega
        have d3 : decide ((k : Int) < (n : Int)) = true := decide_eq_true q3
        clear hr hx hsm
        go_wp2_with fail
        go_region_held3 (fun w' => w'.cell? ⟨b, off + k * 6, none⟩ = some (.int .i64 x.a) ∧ w'.cell? ⟨b, off + k * 6 + 1, none⟩ = some (.int .i64 x.b) ∧ w'.cell? ⟨b, off + k * 6 + 2, none⟩ = some (.int .i64 x.c) ∧ w'.cell? ⟨b, off + k * 6 + 3, none⟩ = some (.int .i64 x.d) ∧ w'.cell? ⟨b, off + k * 6 + 4, none⟩ = some (.int .i64 x.e) ∧ w'.cell? ⟨b, off + k * 6 + 5, none⟩ = some (.int .i64 x.f) ∧ w'.cell? ⟨w.heap.size, 0, none⟩ = some (.int .i64 j) ∧ w'.cell? ⟨w.heap.size, 1, none⟩ = some (.int .i64 q) ∧ w'.cell? ⟨w.heap.size, 2, none⟩ = some (.int .i64 d) ∧ w'.cell? ⟨w.heap.size, 3, none⟩ = some (.int .i64 0) ∧ w'.cell? ⟨w.heap.size, 4, none⟩ = some (.int .i64 0) ∧ w'.cell? ⟨w.heap.size, 5, none⟩ = some (.int .i64 0)) (go_keep) (first
          | (go_at_call 27; refine (hcall _).mono ?_; rintro e w2 ⟨rfl, hb2⟩; have kx2 := Cells6.call (w := wr.drew) g hb2; obtain ⟨z1, z2, z3, z4, z5, z6⟩ := kx2; have kk := Block.call (w := wr.drew) hkey hb2; have v1 := kk.cell 0; have v2 := kk.cell 1; have v3 := kk.cell 2; have v4 := kk.cell 3; have v5 := kk.cell 4; have v6 := kk.cell 5))
        go_wp2_with fail
        go_ret2
        exact ⟨k, _, by rw [Hl.out]; omega, by rw [Hx.out]; exact Hiff.out, HL.out, fun y hy => HH.out k y hy (Nat.le_refl _), rfl, bel_call (w := w) hbel0.drew hb2⟩
      · obtain rfl : lo = n := by omega
        have d3 : decide ((lo : Int) < (lo : Int)) = false := decide_eq_false (by omega)
        go_wp2_with fail
        go_quiet (fail)
        go_wp2_with fail
        go_ret2
        exact ⟨lo, _, by rw [Hl.out]; omega, by rw [List.getElem?_eq_none (by rw [Hl.out]; exact Nat.le_refl _)]; simp, HL.out, fun y hy => HH.out lo y hy (Nat.le_refl _), rfl, bel_drewN hbel0 _⟩
end Go.Proofs.Ytiomkbpniplfhaa
