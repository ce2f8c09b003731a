/- Lemmas for it; no condition: TSlab. -/
import Derived.Test.YthmhdaefkhcenaaGreatDoorZ08
import Derived.Test.YthmhdaefkhcenaaGreatDoorZ14
import Derived.Test.YthmhdaefkhcenaaGreatDoorZ34
import Derived.Deep.Upon
set_option linter.unusedVariables false
set_option linter.unusedSimpArgs false
namespace Go.Proofs.YthmhdaefkhcenaaGreatDoor
open Go.RowKit

theorem info_edge : (Tryz.prog.info? 541).map (fun i => (i.zero, i.size, i.bytes)) = some (some (.agg #[.int .i64 0, .int .i64 0, .int .i64 0, .int .i64 0]), 4, 32) := by kernel_rfl
def edC : List Value := [.int .i64 4, .int .i64 0, .int .i64 4, .int .i64 4, .int .i64 0, .int .i64 0, .int .i64 0, .int .i64 4]
set_option maxRecDepth 100000 in
set_option maxHeartbeats 8000000 in
theorem edges_slab (rb rc b c : Nat) (w : World) (hr : Has w rb [.slice (some ⟨b, 0, none⟩) 4 c]) (h : Has w b boxC) :
    Calls Tryz.prog 354 #[.agg #[.slice (some ⟨rb, 0, none⟩) 1 rc]] w fun e w' => ∃ g c', e = .returned (.slice (some ⟨g, 0, none⟩) 2 c') ∧ w.heap.size ≤ g ∧ 2 ≤ c' ∧ Has w' g edC ∧ Below w.heap.size w w' := by
  have kl := hr.lt; have k0 := hr.cell (j := 0) rfl
  have hl := h.lt
  go_enter Tryz.func354, Tryz.ntmps354
  go_wp2_with fail
  refine wp_loop_rounds 2 ?_
  rw [rounds_succ]
  go_wp2_with fail
  refine wp_loop_rounds 5 ?_
  rw [rounds_succ]
  refine at_code (fun W => Below w.heap.size w W) (by exact sBel) ?_
  rintro W0 bel0
  have H0 := h.call bel0
  have al := H0.lt; have a0 := H0.cell (j := 0) rfl; have a1 := H0.cell (j := 1) rfl; have a2 := H0.cell (j := 2) rfl; have a3 := H0.cell (j := 3) rfl; have a4 := H0.cell (j := 4) rfl; have a5 := H0.cell (j := 5) rfl; have a6 := H0.cell (j := 6) rfl; have a7 := H0.cell (j := 7) rfl
  go_wp2_with fail
  refine at_code (fun W => Below w.heap.size w W) (by exact sBel) ?_
  clear a0 a1 a2 a3 a4 a5 a6 a7 al
  rintro W1 bel1
  have H1 := h.call bel1
  have hz1 := bel1.size
  have al := H1.lt; have a0 := H1.cell (j := 0) rfl; have a1 := H1.cell (j := 1) rfl; have a2 := H1.cell (j := 2) rfl; have a3 := H1.cell (j := 3) rfl; have a4 := H1.cell (j := 4) rfl; have a5 := H1.cell (j := 5) rfl; have a6 := H1.cell (j := 6) rfl; have a7 := H1.cell (j := 7) rfl
  go_wp2_with (at_builtin; refine wpList_append_nil rfl _ _ 535 rfl 541 _ 4 32 Tryz.underlying535 info_edge rfl (W1.heap.size + 1 + 1) 0 1 1 [.int .i64 4, .int .i64 0, .int .i64 4, .int .i64 4] rfl rfl rfl (by intro j v hj; rw [Nat.zero_add]; exact (Block.cell (btop (cs := [.int .i64 4, .int .i64 0, .int .i64 4, .int .i64 4]) (by simp)) j).trans hj) (by omega) (by unfold maxLen; omega) (by omega) ?_; intro J k hJ hk)
  refine at_code (fun W => Below w.heap.size w W ∧ W.ownsRow w.heap.size 541 4 (.slice (some ⟨W1.heap.size + 1 + 1 + 1, 0, none⟩) 1 (1 + k)) 1 [.int .i64 4, .int .i64 0, .int .i64 4, .int .i64 4]) ⟨by exact sBel, own_top (by simp) (by omega) rfl hJ hk⟩ ?_
  clear a0 a1 a2 a3 a4 a5 a6 a7 al
  rintro W2 ⟨bel2, own2⟩
  have H2 := h.call bel2
  have al := H2.lt; have a0 := H2.cell (j := 0) rfl; have a1 := H2.cell (j := 1) rfl; have a2 := H2.cell (j := 2) rfl; have a3 := H2.cell (j := 3) rfl; have a4 := H2.cell (j := 4) rfl; have a5 := H2.cell (j := 5) rfl; have a6 := H2.cell (j := 6) rfl; have a7 := H2.cell (j := 7) rfl
  go_wp2_with fail
  refine at_code (fun W => Below w.heap.size w W ∧ W.ownsRow w.heap.size 541 4 (.slice (some ⟨W1.heap.size + 1 + 1 + 1, 0, none⟩) 1 (1 + k)) 1 [.int .i64 4, .int .i64 0, .int .i64 4, .int .i64 4]) ⟨by exact sBel, own_below own2 (by exact sBel)⟩ ?_
  clear a0 a1 a2 a3 a4 a5 a6 a7 al
  rintro W3 ⟨bel3, own3⟩
  have H3 := h.call bel3
  have hz3 := bel3.size
  have al := H3.lt; have a0 := H3.cell (j := 0) rfl; have a1 := H3.cell (j := 1) rfl; have a2 := H3.cell (j := 2) rfl; have a3 := H3.cell (j := 3) rfl; have a4 := H3.cell (j := 4) rfl; have a5 := H3.cell (j := 5) rfl; have a6 := H3.cell (j := 6) rfl; have a7 := H3.cell (j := 7) rfl
  go_wp2_with (at_builtin; refine wpList_append_own rfl _ _ 535 rfl 541 _ 4 32 Tryz.underlying535 info_edge rfl (by omega) w.heap.size _ 1 _ rfl (own_below own3 (by exact sBel)) (W3.heap.size + 1 + 1) 0 1 1 [.int .i64 0, .int .i64 0, .int .i64 0, .int .i64 4] rfl rfl (by intro j v hj; rw [Nat.zero_add]; exact (Block.cell (btop (cs := [.int .i64 0, .int .i64 0, .int .i64 0, .int .i64 4]) (by simp)) j).trans hj) (by intro u hu; simp at hu; rcases hu with rfl | rfl <;> rfl) (by omega) (by unfold maxLen; omega) (by omega) (by simp; omega) ?_; intro g c' w4 hg hc' hO4 hH4 hg4)
  have bel4 : Below w.heap.size w w4 := bel_grown (a := ((W3.alloc _).alloc _).alloc _) (by exact sBel) hg4 (fun k hk => by cases hk; show w.heap.size ≤ W1.heap.size + 1 + 1 + 1; omega)
  clear a0 a1 a2 a3 a4 a5 a6 a7 al
  go_wp2_with fail
  rw [rounds_succ]
  go_wp2_with fail
  rw [rounds_succ]
  go_wp2_with fail
  go_returns
  exact ⟨g, c', rfl, hg, hc', hH4, bel4⟩
theorem holds_has {w : World} {b : Nat} {zs : List Int} (h : Has w b (zs.map (Value.int .i64))) (hf : ∀ j, w.frozen? ⟨b, j, none⟩ = false) : Go.Sort.Holds (Value.int .i64) w b 0 zs.toArray := fun j hj => by
  have hj' : j < zs.length := by simpa using hj
  refine ⟨?_, hf _⟩
  rw [Nat.zero_add]
  refine h.cell ?_
  simp [hj']
theorem sort4_int (b c : Nat) (w : World) (h : Has w b [.int .i64 0, .int .i64 0, .int .i64 4, .int .i64 4]) (hf : ∀ j, w.frozen? ⟨b, j, none⟩ = false) : Calls Tryz.prog 353 #[.slice (some ⟨b, 0, none⟩) 4 c] w fun e w' => e = .returned (.tuple #[]) ∧ Below w.heap.size w w' := by
  have hh := holds_has (zs := [0, 0, 4, 4]) h hf
  refine (Tryz.slices_Sort_int b 0 c [0, 0, 4, 4] w hh h.lt (by simp)).mono ?_
  rintro e w' ⟨rfl, n, os, rfl⟩
  refine ⟨rfl, ?_⟩
  rw [List.mergeSort_of_pairwise (by simp)]
  rw [Go.Sort.putRow_self (Value.int .i64) (Go.Sort.ahead w n) b 0 _ (show Go.Sort.Holds (Value.int .i64) (Go.Sort.ahead w n) b 0 _ from hh)]
  exact ⟨rfl, rfl, rfl, by simp [Go.Sort.ahead], fun k hk => Go.Sort.heap_grow_old (Go.Sort.ahead w n) os hk⟩
theorem own_frozen {W : World} {e : TypeId} {base size n c g : Nat} {xs : List Value} (h : W.ownsRow base e size (.slice (some ⟨g, 0, none⟩) n c) n xs) (j : Nat) : W.frozen? ⟨g, j, none⟩ = false := by
  obtain ⟨_, ⟨h1, _⟩ | ⟨g', cap, cur, h1, hb, hg, _⟩⟩ := h
  · cases h1
  · injection h1 with h1 h2 h3
    injection h1 with h1
    injection h1 with h1
    subst h1
    simp [World.frozen?, hg]
theorem set_grown {w : World} {wr : World} {g : Nat} (h : w.grownBy wr (some g)) (j : Nat) (u : Value) : w.grownBy (wr.setCell ⟨g, j, none⟩ u) (some g) :=
  ⟨h.os, h.tape, h.output, by simpa using h.size, fun k hk hne => (Below.heap_setCell wr ⟨g, j, none⟩ u k (fun e => hne (by rw [e]))).trans (h.block k hk hne)⟩
theorem grown_setCells {w : World} {b : Nat} : ∀ (vs : List Value) (o : Nat) (wr : World), w.grownBy wr (some b) → w.grownBy (wr.setCells b o vs) (some b)
  | [], _, _, h => h
  | v :: vs, o, wr, h => grown_setCells vs (o + 1) _ (set_grown h o v)
theorem compact4_int (b c : Nat) (w : World) (hnc : 4 ≤ c) (hH : Has w b [.int .i64 0, .int .i64 0, .int .i64 4, .int .i64 4]) (hf : ∀ j, w.frozen? ⟨b, j, none⟩ = false) :
    Calls Tryz.prog 267 #[.slice (some ⟨b, 0, none⟩) 4 c] w fun e w' => e = .returned (.slice (some ⟨b, 0, none⟩) 2 c) ∧ Has w' b [.int .i64 0, .int .i64 4] ∧ w.grownBy w' (some b) := by
  refine (Tryz.slices_Compact_int_cells b 0 4 c [0, 0, 4, 4] w (by simp) (by omega) hnc ?_ (fun j _ => hf _)).mono ?_
  · intro j hj
    rw [Nat.zero_add]
    refine hH.cell ?_
    simp at hj
    rcases (by omega : j = 0 ∨ j = 1 ∨ j = 2 ∨ j = 3) with rfl | rfl | rfl | rfl <;> rfl
  · rintro e w' ⟨rfl, q, rfl⟩
    change _ ∧ Has ((w.drewN q).setCells b 0 [.int .i64 0, .int .i64 4, .int .i64 0, .int .i64 0]) b _ ∧ w.grownBy ((w.drewN q).setCells b 0 [.int .i64 0, .int .i64 4, .int .i64 0, .int .i64 0]) _
    have hin := World.cell?_setCells_in b [.int .i64 0, .int .i64 4, .int .i64 0, .int .i64 0] 0 (w.drewN q) (fun j hj => by
      simp at hj
      rw [Nat.zero_add, show (w.drewN q).cell? ⟨b, j, none⟩ = w.cell? ⟨b, j, none⟩ from rfl]
      rcases (by omega : j = 0 ∨ j = 1 ∨ j = 2 ∨ j = 3) with rfl | rfl | rfl | rfl
      · rw [hH.cell (j := 0) rfl]; rfl
      · rw [hH.cell (j := 1) rfl]; rfl
      · rw [hH.cell (j := 2) rfl]; rfl
      · rw [hH.cell (j := 3) rfl]; rfl)
    have hg := grown_setCells (w := w) (b := b) [.int .i64 0, .int .i64 4, .int .i64 0, .int .i64 0] 0 (w.drewN q) ⟨rfl, rfl, rfl, Nat.le_refl _, fun _ _ _ => rfl⟩
    exact ⟨by rfl, has_cells (Nat.lt_of_lt_of_le hH.lt hg.size) (cells_cons (hin 0 (by simp)) (cells_cons (hin 1 (by simp)) cells_nil)), hg⟩
def SlabsOk (W : World) (S : Nat) : Prop := ∃ ha hc oa oc ea ec, Block W S 537 [.bool true, .slice (some ⟨ha, 0, none⟩) 2 hc, .slice (some ⟨oa, 0, none⟩) 2 oc, .slice (some ⟨ea, 0, none⟩) 2 ec] ∧
  Has W ha [.int .i64 0, .int .i64 4] ∧ Has W oa [.int .i64 0, .int .i64 2] ∧ Has W ea edC ∧ 2 ≤ hc ∧ 2 ≤ oc ∧ 2 ≤ ec
theorem SlabsOk.call {W W' : World} {S : Nat} (h : SlabsOk W S) (hb : Below W.heap.size W W') : SlabsOk W' S := by
  obtain ⟨ha, hc, oa, oc, ea, ec, B, H, O, E, h1⟩ := h
  exact ⟨ha, hc, oa, oc, ea, ec, B.call hb, H.call hb, O.call hb, E.call hb, h1⟩
end Go.Proofs.YthmhdaefkhcenaaGreatDoor
