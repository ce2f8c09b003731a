/- The walk of 'slices.Delete', as 'dated.Drop' calls it. -/
import Derived.Test.YtoedhcenmbpeeaaDatRow
import Derived.Deep.AppendLies
namespace Go.Proofs.Ytoedhcenmbpeeaa
open Go.RowKit

set_option maxRecDepth 100000 in
set_option maxHeartbeats 4000000 in
theorem delete_any (g n c i : Nat) (l : List (Int × Int)) (junk : List Value) (w : World) (hrow : RowD w g l junk) (hl : l.length = n) (hi : i < n) (hnc : n ≤ c) (hn : n ≤ 1000) (hj : junk.length + n * 2 = c * 2) :
    Calls Try.prog 34 #[.slice (some ⟨g, 0, none⟩) n c, .int .i64 (i : Int), .int .i64 ((i : Int) + 1)] w fun e w' =>
      e = .returned (.slice (some ⟨g, 0, none⟩) (n - 1) c) ∧ w.grownBy w' (some g) ∧ ∃ junk', RowD w' g (del l i) junk' ∧ junk'.length + (n - 1) * 2 = c * 2 := by
  have he : (Try.prog).elem 22 = 31 := by kernel_rfl
  obtain ⟨V, hV⟩ : ∃ V, ∀ w, (Instr.slice 22 (.slice (some ⟨g, 0, none⟩) n c) (some (.int .i64 (i : Int))) (some (.int .i64 ((i : Int) + 1))) (some (.int .i64 (n : Int)))).run Try.prog w = .ok V w := by
    refine ⟨sliced (some ⟨g, 0, none⟩) i (i + 1) n 2, fun w => ?_⟩
    rw [run_slice_lhm w 22 (some ⟨g, 0, none⟩) n c (by rw [he]; exact Try.underlying22) .i64 .i64 .i64 i (i + 1) n (by omega) (by omega) (by omega) (by omega), he, size_dated]
    rfl
  have hT := fun w => cut_to (P := Try.prog) 2 Try.underlying22 size_dated (some ⟨g, 0, none⟩) n c i (by omega) w
  obtain ⟨ad, hF, hFs, _⟩ := cut_some ⟨g, 0, none⟩ n c (i + 1) (by omega) hnc
  have hF' : ∀ w, (Instr.slice 22 (.slice (some ⟨g, 0, none⟩) n c) (some (.int .i64 ((i : Int) + 1))) none none).run Try.prog w = .ok (.slice (some ad) (n - (i + 1)) (c - (i + 1))) w := hF
  have hrd : RowD w.drew g l junk := hrow
  have hsrc := hFs w.drew (g + 1) l (by have := row_shows hrd; rw [hl] at this; exact this)
  have happ := row_append (w := w.drew) hrd hsrc i c (c - (i + 1)) (by omega) (by rw [List.length_append, dc_len]; omega)
  rw [show i + (n - (i + 1)) = n - 1 by omega] at happ
  obtain ⟨hb2, hg2⟩ := block_put hrd (i * 2) (DC (l.drop (i + 1)))
  rw [put_in l (l.drop (i + 1)) junk i (by rw [List.length_drop]; omega)] at hb2 hg2 happ
  rw [List.length_drop, hl, show i + (n - (i + 1)) = n - 1 by omega] at hb2 hg2 happ
  have hL : (l.take i ++ l.drop (i + 1) ++ l.drop (n - 1)).length = n := by simp only [List.length_append, List.length_take, List.length_drop]; omega
  have hLt : (l.take i ++ l.drop (i + 1) ++ l.drop (n - 1)).take (n - 1) = del l i := by
    unfold del
    rw [List.take_append_of_le_length (by simp only [List.length_append, List.length_take, List.length_drop]; omega), List.take_of_length_le (by simp only [List.length_append, List.length_take, List.length_drop]; omega)]
  generalize l.take i ++ l.drop (i + 1) ++ l.drop (n - 1) = L at hb2 hg2 happ hL hLt
  obtain ⟨w2, hw2⟩ : ∃ w2, w.drew.setRow g (DC L ++ junk).toArray = w2 := ⟨_, rfl⟩
  rw [hw2] at hb2 hg2 happ
  obtain ⟨w4, hclr, hg4, junk4, hrow4, hj4⟩ := row_clear (c := c) (k := n - 1) (n := n) (show RowD w2 g L junk from hb2) hL (by omega)
  rw [hLt] at hrow4
  rw [show n - (n - 1) = 1 by omega] at hclr
  have hC : ∀ w, (Instr.slice 22 (.slice (some ⟨g, 0, none⟩) (n - 1) c) (some (.int .i64 ((n - 1 : Nat) : Int))) (some (.int .i64 (n : Int))) none).run Try.prog w = .ok (.slice (some ⟨g, (n - 1) * 2, none⟩) 1 (c - (n - 1))) w := by
    intro w
    rw [run_slice_lh w 22 (some ⟨g, 0, none⟩) (n - 1) c (by rw [he]; exact Try.underlying22) .i64 .i64 ((n - 1 : Nat) : Int) n (by omega) (by omega) (by omega), he, size_dated]
    have hne : ¬ c = n - 1 := by omega
    simp [sliced, Result.andThen, Addr.add, hne]
    omega
  have d1 : ((i : Int) == (i : Int) + 1) = false := by simp; omega
  have q1 : ¬ (i : Int) = (i : Int) + 1 := by omega
  have Hrow4 := Lib.hid hrow4
  have Hg := Lib.hid (World.grownBy.trans (World.grownBy.trans (show w.grownBy w.drew (some g) from ⟨rfl, rfl, rfl, Nat.le_refl _, fun _ _ _ => rfl⟩) hg2) hg4)
  have Hj4 := Lib.hid hj4
  clear hrow4 hg4 hj4 hg2 hb2 hw2 hL hLt hF hFs hl he hsrc
  go_enter Try.func34, Try.ntmps34
  go_wp2_with fail
  go_region_law (refine step_append_runI rfl _ _ 22 22 rfl _ _ (by simp [Act.eval, Act.put]) (by simp [Act.eval, Act.put]) (happ _) ?_)
  go_wp2_with fail
  go_ret
  exact ⟨rfl, Hg.out, junk4, Hrow4.out, by have := Hj4.out; omega⟩
end Go.Proofs.Ytoedhcenmbpeeaa
