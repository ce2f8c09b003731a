/- Lemmas for it; no condition: TApart2. -/
import Derived.Test.YthmhdaefkhcenaaGreatDoorZ08
import Derived.Test.YthmhdaefkhcenaaGreatDoorZ24
import Derived.Test.YthmhdaefkhcenaaGreatDoorZ28
set_option linter.unusedVariables false
set_option linter.unusedSimpArgs false
namespace Go.Proofs.YthmhdaefkhcenaaGreatDoor
open Go.RowKit Go.Shelf
attribute [local go_sem] Oper.semAt_some

theorem block_own (B g : Nat) (t : TypeId) (cs : List Value) : OwnFrom B (fun (_ : Unit) W => Block W g t cs) := fun _ A C row h hg hr => by
  have hne : some g ≠ row := fun e => by
    obtain ⟨_, o, ho, hc⟩ := hr g e.symm
    unfold Block at h
    rw [h] at ho
    injection ho with ho
    subst ho
    cases hc
  exact h.grown hg hne
theorem keeps_below {B : Nat} {w w' : World} (h : Below w.heap.size w w') : KeepsFrom B w w' := KeepsFrom.of_grownBy (row := none) ⟨h.os, h.tape, h.output, h.size, fun k hk _ => h.block k hk⟩ (fun r e => by cases e)
theorem cell_past {w : World} {g i : Nat} {v : Value} {o : Obj} (h : w.cell? ⟨g, i, none⟩ = some v) (hg : g < w.heap.size) : (w.alloc o).cell? ⟨g, i, none⟩ = some v := (World.cell?_alloc_lt w o _ hg).trans h
theorem red4 (x : Nat) : ∃ x' : Nat, (x' = 0 ∨ x' = 1 ∨ x' = 2 ∨ x' = 3) ∧ eI x = eI x' ∧ eP x = eP x' := by
  rcases x with _ | _ | _ | x
  · exact ⟨0, by omega, rfl, rfl⟩
  · exact ⟨1, by omega, rfl, rfl⟩
  · exact ⟨2, by omega, rfl, rfl⟩
  · exact ⟨3, by omega, rfl, rfl⟩
theorem edges_stops (n : Nat) (hn : 1 ≤ n) (Bn n₀ b c : Nat) (w : World) (hBn : Block w Bn 82 [.slice (some ⟨b, 0, none⟩) 4 c]) (hB0 : Bn < n₀) (hb0 : b < n₀) (hw : n₀ ≤ w.heap.size) (hH : Has w b boxC) :
    SeqStopsK Fence.wide n Tryz.prog 397 #[.pointer (some ⟨Bn, 0, none⟩)] eN (Below n₀) (fun ys => ys = [0, 1, 2, 3]) (fun pre => pre <+: [0, 1, 2, 3]) 4 w := fun l J Jx W hW hJ _ hY h0 =>
  edges1_in n hn l Bn n₀ b c J Jx hY W hJ (hBn.below hW hBn.lt) hB0 hb0 (Nat.le_trans hw hW.size) (hH.call hW) h0
set_option maxRecDepth 100000 in
set_option maxHeartbeats 8000000 in
theorem apart_in (n : Nat) (hn : 6 ≤ n) (b c : Nat) (w : World) (h : Has w b boxC) : CallsIn Fence.wide n Tryz.prog 300 #[.slice (some ⟨b, 0, none⟩) 4 c] w fun e w' => e = .returned (.tuple #[.agg #[.int .i64 0, .int .i64 0], .bool false]) ∧ Below w.heap.size w w' := by
  have h1 : 1 ≤ n := by omega
  refine callsIn_of_wp_marks Tryz.func300 rfl trivial ?_ rfl
  simp only [Tryz.ntmps300, List.size_toArray, List.length_cons, List.length_nil, Nat.reduceAdd, Nat.reduceSub, Array.replicate_succ, Array.replicate_zero, List.push_toArray, List.append_toArray, List.nil_append, List.cons_append]
  gi_wp2_with (refine ⟨trivial, ?_⟩; gi_at_call 344; refine (edges_in Fence.wide (n - 1) trivial rfl b c _).mono ?_; rintro e w' ⟨rfl, rfl⟩)
  have hl := h.lt
  have hF : ∃ W0, (((w.alloc (.cells #[.slice (some ⟨b, 0, none⟩) 4 c] 82)).alloc (.cells #[.int .i64 0, .int .i64 0] 194)).alloc (.cells #[.bool false] 4)).alloc (.cells #[.slice (some ⟨b, 0, none⟩) 4 c] 82) = W0 ∧ Below w.heap.size w W0 ∧ W0.heap.size = w.heap.size + 4 ∧ Has W0 b boxC ∧
      Block W0 w.heap.size 82 [.slice (some ⟨b, 0, none⟩) 4 c] ∧ Block W0 (w.heap.size + 1) 194 [.int .i64 0, .int .i64 0] ∧ Block W0 (w.heap.size + 1 + 1) 4 [.bool false] ∧ Block W0 (w.heap.size + 1 + 1 + 1) 82 [.slice (some ⟨b, 0, none⟩) 4 c] :=
    ⟨_, rfl, by exact sBel, by simp, by exact sHas, by exact sBlk, by exact sBlk, by exact sBlk, by exact sBlk⟩
  obtain ⟨W0, hW0, bel0, hsz, H0, B0, B1, B2, B3⟩ := hF
  rw [hW0]
  clear hW0
  refine wpIn_rangeFunc_ownH (F := Fence.wide) rfl h1 (gf := 397) (lb := #[.pointer (some ⟨w.heap.size + 1 + 1 + 1, 0, none⟩)]) rfl trivial (enters_of Tryz.func397 (by kernel_rfl) rfl)
    (edges_stops (n - 1) (by omega) (w.heap.size + 1 + 1 + 1) W0.heap.size b c W0 B3 (by omega) (by omega) (Nat.le_refl _) H0) belowK_t (belowK_b (Nat.le_refl _)) (Below.refl _ _) (fun _ => rfl)
    (fun _ W => Below W0.heap.size W0 W)
    (fun _ _ _ => False)
    (ownFrom_below (Nat.le_refl _) (Nat.le_refl _))
    (fun _ _ _ _ _ hs _ _ => hs)
    (Below.refl _ _)
    (fun x a' W => ∃ B4 B5, (W0.heap.size ≤ B4 ∧ W0.heap.size ≤ B5 ∧ a' = { tmps := #[.slice (some ⟨b, 0, none⟩) 4 c, .pointer (some ⟨w.heap.size, 0, none⟩), .pointer (some ⟨w.heap.size + 1, 0, none⟩), .pointer (some ⟨w.heap.size + 1 + 1, 0, none⟩), .pointer (some ⟨B4, 0, none⟩), .pointer (some ⟨B5, 0, none⟩), undef, undef, .slice (some ⟨b, 0, none⟩) 4 c, .func (.func 397) #[] #[.pointer (some ⟨w.heap.size + 1 + 1 + 1, 0, none⟩)], .int .i64 (eI x), .agg #[.int .i64 (eP x).1, .int .i64 (eP x).2.1, .int .i64 (eP x).2.2.1, .int .i64 (eP x).2.2.2], undef, undef, undef, undef, undef, undef, undef, undef, undef, undef, undef, undef, undef, undef, undef, undef, undef, undef, undef, undef, undef, undef, undef, undef, undef, undef, undef, undef, undef, undef, undef, undef, undef, undef], defers := [] }) ∧ Block W B4 3 [.int .i64 (eI x)] ∧ Block W B5 526 [.int .i64 (eP x).1, .int .i64 (eP x).2.1, .int .i64 (eP x).2.2.1, .int .i64 (eP x).2.2.2])
    (fun x a' _ X Y row hs hg hr => by obtain ⟨B4, B5, e1, e2, e3⟩ := hs; exact ⟨B4, B5, e1, block_own _ _ _ _ () X Y row e2 hg hr, block_own _ _ _ _ () X Y row e3 hg hr⟩)
    ?assign ?body ?done ?stop
  case assign =>
    intro l pre x W K hB1 hK
    simp only [eN, eV]
    gi_wp2
    have hz := hB1.size
    exact hK _ _ (((KeepsOthers.alloc _ _).trans (KeepsOthers.alloc _ _)).from _) (((Below.refl _ W).alloc hz _).alloc (by simp; omega) _) ((hB1.alloc hz _).alloc (by simp; omega) _) ⟨W.heap.size, W.heap.size + 1, ⟨hz, by omega, by simp⟩, by exact sBlk, by exact sBlk⟩
  case body =>
    rintro l pre x a' W hlW ⟨r, hr⟩ hB1 ⟨B4, B5, ⟨q4, q5, rfl⟩, C4, C5⟩ hlt
    have hz := hB1.size
    have cB : W.cell? ⟨w.heap.size, 0, none⟩ = some (.slice (some ⟨b, 0, none⟩) 4 c) := (hB1.cell (p := ⟨w.heap.size, 0, none⟩) (by simp; omega)).trans (B0.cell 0)
    have HW : Has W b boxC := H0.call hB1
    have h1' : 1 ≤ n - 1 - 1 := by omega
    gi_wp2_with (refine ⟨trivial, ?_⟩; gi_at_call 344; refine (CallsIn.inRound l (edges_in Fence.wide (n - 1 - 1 - 1) trivial rfl b c _)).mono ?_; rintro e w' ⟨rfl, rfl⟩)
    have hr' : (W.alloc (.cells #[.slice (some ⟨b, 0, none⟩) 4 c] 82)).heap[l]? = some (.loop r) := (Below.heap_alloc W _ l (Array.getElem?_eq_some_iff.1 hr).1).trans hr
    have K4 := C4.alloc (.cells #[.slice (some ⟨b, 0, none⟩) 4 c] 82)
    have K5 := C5.alloc (.cells #[.slice (some ⟨b, 0, none⟩) 4 c] 82)
    have l4 := C4.lt
    have l5 := C5.lt
    refine wpIn_rangeFunc_ownN (F := Fence.wide.inRound l) (l₀ := l) (r₀ := r) rfl hr' h1' (gf := 397) (lb := #[.pointer (some ⟨W.heap.size, 0, none⟩)]) rfl trivial (enters_of Tryz.func397 (by kernel_rfl) rfl)
      ((edges_stops (n - 1 - 1 - 1) (by omega) W.heap.size (W.heap.size + 1) b c _ (Block.new W 82 [.slice (some ⟨b, 0, none⟩) 4 c]) (by omega) (by have := HW.lt; omega) (by simp) (HW.alloc _)).inRound l) belowK_t (belowK_b (by simp)) (Below.refl _ _) (fun _ => rfl)
      (fun _ W' => Below (W.heap.size + 1) (W.alloc (.cells #[.slice (some ⟨b, 0, none⟩) 4 c] 82)) W' ∧ KeepsFrom W0.heap.size W W')
      (fun _ _ _ => False)
      (OwnFrom.and (ownFrom_below (by simp) (by simp)) (ownFrom_keepsFrom (by simp)))
      (fun _ _ _ _ _ hs _ _ => hs)
      ⟨Below.refl _ _, (KeepsOthers.alloc _ _).from _⟩
      (fun y a'' W' => ∃ B7, (W.heap.size + 1 ≤ B7 ∧ a'' = { tmps := #[.slice (some ⟨b, 0, none⟩) 4 c, .pointer (some ⟨w.heap.size, 0, none⟩), .pointer (some ⟨w.heap.size + 1, 0, none⟩), .pointer (some ⟨w.heap.size + 1 + 1, 0, none⟩), .pointer (some ⟨B4, 0, none⟩), .pointer (some ⟨B5, 0, none⟩), .int .i64 (eI y), .pointer (some ⟨B7, 0, none⟩), .slice (some ⟨b, 0, none⟩) 4 c, .func (.func 397) #[] #[.pointer (some ⟨w.heap.size + 1 + 1 + 1, 0, none⟩)], .int .i64 (eI x), .agg #[.int .i64 (eP x).1, .int .i64 (eP x).2.1, .int .i64 (eP x).2.2.1, .int .i64 (eP x).2.2.2], .slice (some ⟨b, 0, none⟩) 4 c, .func (.func 397) #[] #[.pointer (some ⟨W.heap.size, 0, none⟩)], .int .i64 (eI y), .agg #[.int .i64 (eP y).1, .int .i64 (eP y).2.1, .int .i64 (eP y).2.2.1, .int .i64 (eP y).2.2.2], undef, undef, undef, undef, undef, undef, undef, undef, undef, undef, undef, undef, undef, undef, undef, undef, undef, undef, undef, undef, undef, undef, undef, undef, undef, undef, undef, undef, undef, undef], defers := [] }) ∧ Block W' B7 526 [.int .i64 (eP y).1, .int .i64 (eP y).2.1, .int .i64 (eP y).2.2.1, .int .i64 (eP y).2.2.2])
      (fun y a'' _ X Y row hs hg hr => by obtain ⟨B7, e1, e2⟩ := hs; exact ⟨B7, e1, block_own _ _ _ _ () X Y row e2 hg hr⟩)
      ?assign2 ?body2 ?done2 ?stop2
    case assign2 =>
      rintro l2 pre' y W' K ⟨hi, hk⟩ hK
      simp only [eN, eV]
      gi_wp2
      have hz2 := hi.size
      simp at hz2
      exact hK _ _ ((KeepsOthers.alloc _ _).from _) ((Below.refl _ W').alloc (by omega) _) ⟨hi.alloc (by omega) _, hk.trans ((KeepsOthers.alloc _ _).from _)⟩ ⟨W'.heap.size, ⟨by omega, by simp⟩, by exact sBlk⟩
    case body2 =>
      rintro l2 pre' y a'' W' hl2 _ ⟨hi, hk⟩ ⟨B7, ⟨q7, rfl⟩, C7⟩ hlt2
      have hz2 := hi.size
      simp at hz2
      have N4 : Block W' B4 3 [.int .i64 (eI x)] := K4.below hi (by omega)
      have N5 : Block W' B5 526 [.int .i64 (eP x).1, .int .i64 (eP x).2.1, .int .i64 (eP x).2.2.1, .int .i64 (eP x).2.2.2] := K5.below hi (by omega)
      have cB2 : W'.cell? ⟨w.heap.size, 0, none⟩ = some (.slice (some ⟨b, 0, none⟩) 4 c) := (hi.cell (p := ⟨w.heap.size, 0, none⟩) (by simp; omega)).trans (cell_past cB (by omega))
      obtain ⟨x', hx'⟩ : ∃ x' : Nat, (x' = 0 ∨ x' = 1 ∨ x' = 2 ∨ x' = 3) ∧ eI x = eI x' ∧ eP x = eP x' := red4 x
      obtain ⟨y', hy'⟩ : ∃ y' : Nat, (y' = 0 ∨ y' = 1 ∨ y' = 2 ∨ y' = 3) ∧ eI y = eI y' ∧ eP y = eP y' := red4 y
      rw [hx'.2.1] at N4 ⊢
      rw [hx'.2.2] at N5 ⊢
      rw [hy'.2.1]
      rw [hy'.2.2] at C7 ⊢
      obtain ⟨iil, iif, ii0⟩ := N4.c1
      obtain ⟨pl, pf, p0, p1, p2, p3⟩ := N5.c4
      obtain ⟨ql, qf, q0, q1, q2, q3⟩ := C7.c4
      have go : ∀ w', Below W'.heap.size W' w' → KeepsFrom (W.alloc (.cells #[.slice (some ⟨b, 0, none⟩) 4 c] 82)).heap.size W' w' ∧ Below (W.heap.size + 1) W' w' ∧ Below (W.heap.size + 1) (W.alloc (.cells #[.slice (some ⟨b, 0, none⟩) 4 c] 82)) w' ∧ KeepsFrom W0.heap.size W w' := fun w' hb =>
        ⟨keeps_below hb, hb.mono (by omega), hi.trans (hb.mono (by omega)), hk.trans (keeps_below hb)⟩
      clear N4 N5 C7 K4 K5 C4 C5
      rcases hx'.1 with rfl | rfl | rfl | rfl <;> rcases hy'.1 with rfl | rfl | rfl | rfl
      all_goals
        simp only [eI, eP] at *
        first
          | (gi_wp2 <;> first | exact go _ (Below.refl _ _) | (exfalso; rename_i hu _; simp [undef] at hu; done))
          | ((gi_wp2_with (refine ⟨trivial, fun _ => by omega, ?_⟩; first
              | (with_reducible refine (CallsIn.inRound l2 (CallsIn.inRound l (callsIn_wide.2 (meets_00404404 _)))).mono ?_; rintro e w' ⟨rfl, hb1⟩)
              | (with_reducible refine (CallsIn.inRound l2 (CallsIn.inRound l (callsIn_wide.2 (meets_40440400 _)))).mono ?_; rintro e w' ⟨rfl, hb1⟩))) <;> first | exact go _ hb1 | exact go _ (Below.refl _ _) | (exfalso; rename_i hu _; simp [undef] at hu; done) | fail)
    case done2 =>
      rintro ys' W' rfl ⟨hi, hk⟩
      gi_wp2
      have hb2 : Below W0.heap.size W W' := ((Below.refl _ W).alloc (by omega) _).trans (hi.mono (by omega))
      exact ⟨hk, hb2, hB1.trans hb2⟩
    case stop2 =>
      rintro c pre' W' _ h
      exact h.elim
  case done =>
    rintro D zs W hD rfl hB1 hK
    have hz := hB1.size
    have C1 : Block W (w.heap.size + 1) 194 [.int .i64 0, .int .i64 0] := B1.below hB1 (by omega)
    have C2 : Block W (w.heap.size + 1 + 1) 4 [.bool false] := B2.below hB1 (by omega)
    obtain ⟨fl, ff, f0, f1⟩ := C1.c2
    obtain ⟨gl, gf, g0⟩ := C2.c1
    gi_wp2
    have hK1 := (KeepsOthers.setCell W ⟨w.heap.size + 1, 0, none⟩ (.int .i64 0)).same D _ hK rfl
    have hK2 := (KeepsOthers.setCell _ ⟨w.heap.size + 1, 1, none⟩ (.int .i64 0)).same D _ hK1 rfl
    have hK3 := (KeepsOthers.setCell _ ⟨w.heap.size + 1 + 1, 0, none⟩ (.bool false)).same D _ hK2 rfl
    refine ⟨by simp, .inl ⟨_, _, rfl, run_takeDeferred hK3, ?_⟩⟩
    have F1 := Block.far ((C1.set 0 (.int .i64 0)).set 1 (.int .i64 0)) (p := ⟨w.heap.size + 1 + 1, 0, none⟩) (by simp) (.bool false)
    have G1 := ((C2.far (p := ⟨w.heap.size + 1, 0, none⟩) (by simp) (.int .i64 0)).far (p := ⟨w.heap.size + 1, 1, none⟩) (by simp) (.int .i64 0)).set 0 (.bool false)
    have ne1 : some (w.heap.size + 1) ≠ some D := by intro e; injection e with e; have hz3 := hK3; rw [← e] at hz3; unfold Block at F1; rw [hz3] at F1; cases F1
    have ne2 : some (w.heap.size + 1 + 1) ≠ some D := by intro e; injection e with e; have hz3 := hK3; rw [← e] at hz3; unfold Block at G1; rw [hz3] at G1; cases G1
    have F2 := F1.grown (grownBy_putObj' _ D (.deferred none)) ne1
    have G2 := (G1.grown (grownBy_putObj' _ D (.deferred none)) ne2).cell 0
    have hbl : Below w.heap.size w (((W.setCell ⟨w.heap.size + 1, 0, none⟩ (.int .i64 0)).setCell ⟨w.heap.size + 1, 1, none⟩ (.int .i64 0)).setCell ⟨w.heap.size + 1 + 1, 0, none⟩ (.bool false)) := bel_set (bel_set (bel_set (bel_call bel0 hB1) (by simp) _) (by simp) _) (by simp; omega) _
    refine ⟨.tuple #[.agg #[.int .i64 0, .int .i64 0], .bool false], ?_, rfl, hbl.trans (belowK_b (w := w) (Nat.le_refl _) _ D _ _ (by omega) hK3 rfl rfl)⟩
    have f0' := F2.cell 0
    have f1' := F2.cell 1
    simp only [List.set_cons_zero, List.set_cons_succ, List.getElem?_cons_zero, List.getElem?_cons_succ] at f0' f1' G2
    simp [results, Tryz.f300, go_sem, f0', f1', G2]
  case stop =>
    rintro D c pre W _ _ h _
    exact h.elim
theorem apart_ok : ApartOk := fun b c w h => callsIn_wide.1 (apart_in 6 (by omega) b c w h)
end Go.Proofs.YthmhdaefkhcenaaGreatDoor
