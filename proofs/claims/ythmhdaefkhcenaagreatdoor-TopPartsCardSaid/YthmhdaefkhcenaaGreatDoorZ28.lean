/- Lemmas for it; no condition: TApart. -/
import Derived.Test.YthmhdaefkhcenaaGreatDoorZ10
import Derived.RangeFuncNested
import Derived.RangeFuncBound
import Derived.RangeFuncCalls
import Derived.RangeFuncLeaves
import Derived.Shelf.Abstract
import Derived.Shelf.RegionOpen
import Derived.OwnWalkIn
import Derived.TacticsInMore
import Derived.LoopNIn
import Derived.LoopIn
import Derived.Sort.CutIn
set_option linter.unusedVariables false
set_option linter.unusedSimpArgs false
namespace Go.Proofs.YthmhdaefkhcenaaGreatDoor
set_option maxRecDepth 100000
set_option maxHeartbeats 8000000
open Go.RowKit Go.Shelf
attribute [local go_sem] Oper.semAt_some

def eP : Nat → Int × Int × Int × Int | 0 => (0, 0, 4, 0) | 1 => (4, 0, 4, 4) | 2 => (4, 4, 0, 4) | _ => (0, 4, 0, 0)
def eV (j : Nat) : Value := .agg #[.int .i64 (eP j).1, .int .i64 (eP j).2.1, .int .i64 (eP j).2.2.1, .int .i64 (eP j).2.2.2]
def eI : Nat → Int | 0 => 0 | 1 => 1 | 2 => 2 | _ => 3
def eN (j : Nat) : Array Value := #[.int .i64 (eI j), eV j]
theorem edges_in (F : Fence) (n : Nat) (h5 : F.fn 344) (hro : F.round = none) (b c : Nat) (w : World) :
    CallsIn F n Tryz.prog 344 #[.slice (some ⟨b, 0, none⟩) 4 c] w fun e w' => e = .returned (.func (.func 397) #[] #[.pointer (some ⟨w.heap.size, 0, none⟩)]) ∧ w' = w.alloc (.cells #[.slice (some ⟨b, 0, none⟩) 4 c] 82) := by
  refine callsIn_of_wp Tryz.func344 rfl h5 ?_ hro
  simp only [Tryz.ntmps344, List.size_toArray, List.length_cons, List.length_nil, Nat.reduceAdd, Nat.reduceSub, Array.replicate_succ, Array.replicate_zero, List.push_toArray, List.append_toArray, List.nil_append, List.cons_append]
  gi_wp2
  go_ret
  exact ⟨rfl, rfl⟩
theorem bel_next {B : Nat} {W wr W' : World} {o : Obj} (h : Below B W wr) (h' : Below B (wr.alloc o).drew W') (hB : B ≤ wr.heap.size := by omega) : Below B W W' := ((h.alloc hB o).drew).trans h'
theorem one_way {A B : Prop} {e : Ending} (h : (e = .returned (.bool true) ∧ A) ∨ (e = .returned (.bool false) ∧ B)) : ∃ t, e = .returned (.bool t) ∧ ((t = true ∧ A) ∨ (t = false ∧ B)) := by
  rcases h with ⟨h, a⟩ | ⟨h, b⟩
  · exact ⟨true, h, .inl ⟨rfl, a⟩⟩
  · exact ⟨false, h, .inr ⟨rfl, b⟩⟩
theorem edges1_in (n : Nat) (hn : 1 ≤ n) (l Bn n₀ b c : Nat) (J Jx : List Nat → World → Prop)
    (hY : ∀ pre x W, J pre W → pre.length < 4 → YieldAt Fence.wide (n - 1) Tryz.prog l (eN x) W fun e W' =>
      (e = .returned (.bool true) ∧ J (pre ++ [x]) W' ∧ Below n₀ W W') ∨ (e = .returned (.bool false) ∧ Jx (pre ++ [x]) W'))
    (W : World) (hJ : AbidesFrom W.heap.size J) (hBn : Block W Bn 82 [.slice (some ⟨b, 0, none⟩) 4 c]) (hB0 : Bn < n₀) (hb0 : b < n₀) (hw : n₀ ≤ W.heap.size) (hH : Has W b boxC) (h0 : J [] W) :
    CallsIn Fence.wide n Tryz.prog 397 #[.func (.yield l) #[] #[], .pointer (some ⟨Bn, 0, none⟩)] W fun e W' => (∃ v, e = .returned v) ∧
      ((∃ ys, ys = [0, 1, 2, 3] ∧ J ys W') ∨ (∃ pre, pre <+: [0, 1, 2, 3] ∧ Jx pre W')) := by
  refine callsIn_of_wp Tryz.func397 rfl trivial ?_ rfl
  simp only [Tryz.ntmps397, List.size_toArray, List.length_cons, List.length_nil, Nat.reduceAdd, Nat.reduceSub, Array.replicate_succ, Array.replicate_zero, List.push_toArray, List.append_toArray, List.nil_append, List.cons_append]
  have cB := hBn.cell 0
  simp only [List.getElem?_cons_zero] at cB
  gi_wp2
  gi_loopw [7] (fun p wr => ∃ j : Nat, j ≤ 4 ∧ p = .int .i64 j ∧ J (([0, 1, 2, 3] : List Nat).take j) wr ∧ Below n₀ W wr) (fun p _ => 4 - (intOf p).toNat)
  case atStart => exact ⟨0, by omega, rfl, h0, Below.refl _ _⟩
  case round =>
    obtain ⟨j, hj, rfl, hJ1, bel⟩ := hrel
    have cB1 := (bel.cell (p := ⟨Bn, 0, none⟩) hB0).trans cB
    have hz := bel.size
    have hz1 : Bn < wr.heap.size := by omega
    have hz2 : b < wr.heap.size := by omega
    have cBa : ∀ o, (wr.alloc o).cell? ⟨Bn, 0, none⟩ = some (.slice (some ⟨b, 0, none⟩) 4 c) := fun o => (World.cell?_alloc_lt wr o _ hz1).trans cB1
    have hA : ∀ o, J (([0, 1, 2, 3] : List Nat).take j) ((wr.alloc o).drew) := fun o => hJ _ _ _ none (hJ _ _ _ none hJ1 (World.grownBy_alloc wr o none) (fun r e => by cases e)) (show (wr.alloc o).grownBy (wr.alloc o).drew none from ⟨rfl, rfl, rfl, Nat.le_refl _, fun _ _ _ => rfl⟩) (fun r e => by cases e)
    rcases (by omega : j = 0 ∨ j = 1 ∨ j = 2 ∨ j = 3 ∨ j = 4) with rfl | rfl | rfl | rfl | rfl
    · as_aux_lemma =>
        have k0 := (bel.cell (p := ⟨b, 0, none⟩) hb0).trans (hH.cell (j := 0) rfl)
        have k1 := (bel.cell (p := ⟨b, 1, none⟩) hb0).trans (hH.cell (j := 1) rfl)
        have k2 := (bel.cell (p := ⟨b, 2, none⟩) hb0).trans (hH.cell (j := 2) rfl)
        have k3 := (bel.cell (p := ⟨b, 3, none⟩) hb0).trans (hH.cell (j := 3) rfl)
        obtain ⟨fn, tmps, assign, body, hy, hR⟩ := hY _ 0 _ (hA (.cells #[.int .i64 0, .int .i64 0] 46)) (by simp)
        dsimp only [eN, eV, eP, eI] at hy
        clear hY hA hJ hH hBn
        gi_wp2
        gi_cut [25] from 26 (fun s25 wx => ∃ t : Bool, s25 = .bool (!t) ∧ ((t = true ∧ J (([0, 1, 2, 3] : List Nat).take 1) wx ∧ Below n₀ W wx) ∨ (t = false ∧ Jx (([0, 1, 2, 3] : List Nat).take 1) wx)))
        case first =>
          gi_region_with (refine hR.mono ?_; rintro e W3 hq; obtain ⟨t, rfl, hT⟩ := one_way hq)
          all_goals gi_wp2
          all_goals gi_meet
          all_goals exact ⟨t, rfl, hT.imp (fun h => ⟨h.1, h.2.1, (bel_next bel h.2.2)⟩) id⟩
        case rest =>
          obtain ⟨t, rfl, ⟨rfl, hJ3, bel3⟩ | ⟨rfl, hJ3⟩⟩ := hcut
          · gi_wp2
            go_roundw
            case rel => exact ⟨1, by omega, rfl, hJ3, bel3⟩
            case measure => simp [intOf]
          · gi_wp2
            refine bodyPost_ret (results_none rfl _ _ _) rfl ?_
            exact ⟨⟨_, rfl⟩, .inr ⟨_, List.take_prefix _ _, hJ3⟩⟩
    · as_aux_lemma =>
        have k0 := (bel.cell (p := ⟨b, 2, none⟩) hb0).trans (hH.cell (j := 2) rfl)
        have k1 := (bel.cell (p := ⟨b, 3, none⟩) hb0).trans (hH.cell (j := 3) rfl)
        have k2 := (bel.cell (p := ⟨b, 4, none⟩) hb0).trans (hH.cell (j := 4) rfl)
        have k3 := (bel.cell (p := ⟨b, 5, none⟩) hb0).trans (hH.cell (j := 5) rfl)
        obtain ⟨fn, tmps, assign, body, hy, hR⟩ := hY _ 1 _ (hA (.cells #[.int .i64 4, .int .i64 0] 46)) (by simp)
        dsimp only [eN, eV, eP, eI] at hy
        clear hY hA hJ hH hBn
        gi_wp2
        gi_cut [25] from 26 (fun s25 wx => ∃ t : Bool, s25 = .bool (!t) ∧ ((t = true ∧ J (([0, 1, 2, 3] : List Nat).take 2) wx ∧ Below n₀ W wx) ∨ (t = false ∧ Jx (([0, 1, 2, 3] : List Nat).take 2) wx)))
        case first =>
          gi_region_with (refine hR.mono ?_; rintro e W3 hq; obtain ⟨t, rfl, hT⟩ := one_way hq)
          all_goals gi_wp2
          all_goals gi_meet
          all_goals exact ⟨t, rfl, hT.imp (fun h => ⟨h.1, h.2.1, (bel_next bel h.2.2)⟩) id⟩
        case rest =>
          obtain ⟨t, rfl, ⟨rfl, hJ3, bel3⟩ | ⟨rfl, hJ3⟩⟩ := hcut
          · gi_wp2
            go_roundw
            case rel => exact ⟨2, by omega, rfl, hJ3, bel3⟩
            case measure => simp [intOf]
          · gi_wp2
            refine bodyPost_ret (results_none rfl _ _ _) rfl ?_
            exact ⟨⟨_, rfl⟩, .inr ⟨_, List.take_prefix _ _, hJ3⟩⟩
    · as_aux_lemma =>
        have k0 := (bel.cell (p := ⟨b, 4, none⟩) hb0).trans (hH.cell (j := 4) rfl)
        have k1 := (bel.cell (p := ⟨b, 5, none⟩) hb0).trans (hH.cell (j := 5) rfl)
        have k2 := (bel.cell (p := ⟨b, 6, none⟩) hb0).trans (hH.cell (j := 6) rfl)
        have k3 := (bel.cell (p := ⟨b, 7, none⟩) hb0).trans (hH.cell (j := 7) rfl)
        obtain ⟨fn, tmps, assign, body, hy, hR⟩ := hY _ 2 _ (hA (.cells #[.int .i64 4, .int .i64 4] 46)) (by simp)
        dsimp only [eN, eV, eP, eI] at hy
        clear hY hA hJ hH hBn
        gi_wp2
        gi_cut [25] from 26 (fun s25 wx => ∃ t : Bool, s25 = .bool (!t) ∧ ((t = true ∧ J (([0, 1, 2, 3] : List Nat).take 3) wx ∧ Below n₀ W wx) ∨ (t = false ∧ Jx (([0, 1, 2, 3] : List Nat).take 3) wx)))
        case first =>
          gi_region_with (refine hR.mono ?_; rintro e W3 hq; obtain ⟨t, rfl, hT⟩ := one_way hq)
          all_goals gi_wp2
          all_goals gi_meet
          all_goals exact ⟨t, rfl, hT.imp (fun h => ⟨h.1, h.2.1, (bel_next bel h.2.2)⟩) id⟩
        case rest =>
          obtain ⟨t, rfl, ⟨rfl, hJ3, bel3⟩ | ⟨rfl, hJ3⟩⟩ := hcut
          · gi_wp2
            go_roundw
            case rel => exact ⟨3, by omega, rfl, hJ3, bel3⟩
            case measure => simp [intOf]
          · gi_wp2
            refine bodyPost_ret (results_none rfl _ _ _) rfl ?_
            exact ⟨⟨_, rfl⟩, .inr ⟨_, List.take_prefix _ _, hJ3⟩⟩
    · as_aux_lemma =>
        have k0 := (bel.cell (p := ⟨b, 6, none⟩) hb0).trans (hH.cell (j := 6) rfl)
        have k1 := (bel.cell (p := ⟨b, 7, none⟩) hb0).trans (hH.cell (j := 7) rfl)
        have k2 := (bel.cell (p := ⟨b, 0, none⟩) hb0).trans (hH.cell (j := 0) rfl)
        have k3 := (bel.cell (p := ⟨b, 1, none⟩) hb0).trans (hH.cell (j := 1) rfl)
        obtain ⟨fn, tmps, assign, body, hy, hR⟩ := hY _ 3 _ (hA (.cells #[.int .i64 0, .int .i64 4] 46)) (by simp)
        dsimp only [eN, eV, eP, eI] at hy
        clear hY hA hJ hH hBn
        gi_wp2
        gi_cut [25] from 26 (fun s25 wx => ∃ t : Bool, s25 = .bool (!t) ∧ ((t = true ∧ J (([0, 1, 2, 3] : List Nat).take 4) wx ∧ Below n₀ W wx) ∨ (t = false ∧ Jx (([0, 1, 2, 3] : List Nat).take 4) wx)))
        case first =>
          gi_region_with (refine hR.mono ?_; rintro e W3 hq; obtain ⟨t, rfl, hT⟩ := one_way hq)
          all_goals gi_wp2
          all_goals gi_meet
          all_goals exact ⟨t, rfl, hT.imp (fun h => ⟨h.1, h.2.1, (bel_next bel h.2.2)⟩) id⟩
        case rest =>
          obtain ⟨t, rfl, ⟨rfl, hJ3, bel3⟩ | ⟨rfl, hJ3⟩⟩ := hcut
          · gi_wp2
            go_roundw
            case rel => exact ⟨4, by omega, rfl, hJ3, bel3⟩
            case measure => simp [intOf]
          · gi_wp2
            refine bodyPost_ret (results_none rfl _ _ _) rfl ?_
            exact ⟨⟨_, rfl⟩, .inr ⟨_, List.take_prefix _ _, hJ3⟩⟩
    · gi_wp2
      go_end0
      exact ⟨⟨_, rfl⟩, .inl ⟨_, rfl, hJ1⟩⟩
end Go.Proofs.YthmhdaefkhcenaaGreatDoor
