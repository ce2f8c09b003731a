/- The walk of token.Upper. -/
import Derived.Test.YtkdgomalhngagaaDoorTkBase
import Derived.Laws.IdiomStrings
namespace Go.Proofs.YtkdgomalhngagaaDoor
open Go.RowKit Go.Lib

/-- Block g is just the cells cs, with a mark. -/
def BlockM (w : World) (g : Nat) (t : TypeId) (cs : List Value) (m : Nat × Nat) : Prop := w.heap[g]? = some (.cells cs.toArray t m)
section
variable {w w' : World} {g : Nat} {t : TypeId} {cs : List Value} {m : Nat × Nat}
theorem BlockM.lt (h : BlockM w g t cs m) : g < w.heap.size := by
  rcases Nat.lt_or_ge g w.heap.size with hlt | hge
  · exact hlt
  · unfold BlockM at h; rw [Array.getElem?_eq_none hge] at h; cases h
theorem BlockM.cell (h : BlockM w g t cs m) (i : Nat) : w.cell? ⟨g, i, none⟩ = cs[i]? := by unfold BlockM at h; simp [World.cell?, h]
theorem BlockM.free (h : BlockM w g t cs m) {i : Nat} (hi : i < m.1) : w.frozen? ⟨g, i, none⟩ = false := by unfold BlockM at h; simp [World.frozen?, h]; omega
theorem BlockM.set (h : BlockM w g t cs m) (i : Nat) (u : Value) : BlockM (w.setCell ⟨g, i, none⟩ u) g t (cs.set i u) m := by
  unfold BlockM at h ⊢
  simp [World.setCell, Array.getElem?_modify, h]
theorem BlockM.call (h : BlockM w g t cs m) (hb : Below w.heap.size w w') : BlockM w' g t cs m := (hb.block g h.lt).trans h
end
/-- '[]byte(s)': a new row. -/
theorem conv_new (s : ByteArray) (w : World) : ∃ (W1 : World) (cap : Nat) (junk : List Value) (m : Nat × Nat), (convert 9 42 (.string s)).run Tryd.prog w = .ok (.slice (some ⟨w.heap.size, 0, none⟩) s.size cap) W1 ∧
    BlockM W1 w.heap.size 5 (U8 (nums s) ++ junk) m ∧ Below w.heap.size w W1 ∧ s.size ≤ m.1 := by
  refine ⟨w.drew.alloc (.cells (bytesRow s (grownCap w s.size 0 5)) 5 ((bytesRow s (grownCap w s.size 0 5)).size, (bytesRow s (grownCap w s.size 0 5)).size + 1)), grownCap w s.size 0 5, List.replicate (grownCap w s.size 0 5 - s.size) (.int .u8 0), ((bytesRow s (grownCap w s.size 0 5)).size, (bytesRow s (grownCap w s.size 0 5)).size + 1), run_bytes_of_string w 9 42 5 s Tryd.underlying9 Tryd.underlying42 Tryd.underlying5, ?_, ?_, ?_⟩
  · have e : (bytesRow s (grownCap w s.size 0 5)) = (U8 (nums s) ++ List.replicate (grownCap w s.size 0 5 - s.size) (Value.int .u8 0)).toArray := by
      apply Array.ext'
      simp [bytesRow, U8, nums]
    unfold BlockM
    rw [← e]
    exact heap_alloc_new _ _
  · exact bel_alloc (bel_drewN (Below.refl _ _) 1) _
  · simp [bytesRow]
theorem up_set (xs : List Int) (junk : List Value) (a : Nat) (ha : a < xs.length) (v : Int) (hv : v = Tok.up (xs.getD a 0)) :
    (U8 ((xs.take a).map Tok.up ++ xs.drop a) ++ junk).set a (.int .u8 v) = U8 ((xs.take (a + 1)).map Tok.up ++ xs.drop (a + 1)) ++ junk := by
  have hl : ((xs.take a).map Tok.up).length = a := by simp; omega
  have hx : xs.getD a 0 = xs[a] := by rw [List.getD_eq_getElem?_getD, List.getElem?_eq_getElem ha]; rfl
  rw [List.drop_eq_getElem_cons ha, List.take_add_one, List.getElem?_eq_getElem ha]
  unfold U8
  rw [List.map_append, List.map_append, List.map_append, List.map_append, List.map_cons, List.append_assoc, List.append_assoc, List.set_append_right _ _ (by simp; omega)]
  simp only [List.length_map, List.length_take]
  rw [show a - min a xs.length = 0 by omega, List.cons_append, List.set_cons_zero]
  rw [hv, hx]
  simp only [Option.toList_some, List.map_cons, List.map_nil, List.append_assoc, List.cons_append, List.nil_append]
theorem up_keep (xs : List Int) (a : Nat) (ha : a < xs.length) (hv : Tok.up (xs.getD a 0) = xs.getD a 0) : (xs.take a).map Tok.up ++ xs.drop a = (xs.take (a + 1)).map Tok.up ++ xs.drop (a + 1) := by
  have hx : xs.getD a 0 = xs[a] := by rw [List.getD_eq_getElem?_getD, List.getElem?_eq_getElem ha]; rfl
  rw [List.drop_eq_getElem_cons ha, List.take_add_one, List.getElem?_eq_getElem ha]
  rw [hx] at hv
  rw [List.map_append]
  simp only [Option.toList_some, List.map_cons, List.map_nil, hv, List.append_assoc, List.singleton_append]
theorem up_cell (xs : List Int) (junk : List Value) (a : Nat) (ha : a < xs.length) : (U8 ((xs.take a).map Tok.up ++ xs.drop a) ++ junk)[a]? = some (.int .u8 (xs.getD a 0)) := by
  have hx : xs.getD a 0 = xs[a] := by rw [List.getD_eq_getElem?_getD, List.getElem?_eq_getElem ha]; rfl
  rw [hx, List.drop_eq_getElem_cons ha]
  unfold U8
  rw [List.map_append, List.map_cons, List.append_assoc, List.getElem?_append_right (by simp; omega)]
  simp only [List.length_map, List.length_take]
  rw [show a - min a xs.length = 0 by omega]
  rfl
set_option maxRecDepth 100000 in
set_option maxHeartbeats 2000000 in
theorem upper_any (s : ByteArray) (hs : s.size ≤ 9223372036854775807) (w : World) :
    Calls Tryd.prog 14 #[.string s] w fun e w' => e = .returned (.string (strOfNums ((nums s).map Tok.up))) ∧ Below w.heap.size w w' := by
  obtain ⟨W1, cap, junk, m, kc, hB, hbel1, hm⟩ := conv_new s w
  have Hl := Lib.hid (nums_len s)
  go_enter Tryd.func14, Tryd.ntmps14
  go_wp2_with fail
  go_loopw [10] (fun i wr => ∃ (a : Nat), a ≤ s.size ∧ i = .int .i64 a ∧ BlockM wr w.heap.size 5 (U8 (((nums s).take a).map Tok.up ++ (nums s).drop a) ++ junk) m ∧ Below w.heap.size w wr) (fun i _ => s.size - (intOf i).toNat)
  case atStart => exact ⟨0, by omega, rfl, by simpa using hB, hbel1⟩
  case round =>
    obtain ⟨a, ha, rfl, hBr, hbel⟩ := hrel
    by_cases hlt : a < s.size
    · have hal : a < (nums s).length := by rw [Hl.out]; exact hlt
      have c0 := hBr.cell a
      rw [up_cell _ _ _ hal] at c0
      have f0 := hBr.free (i := a) (by omega)
      have hb := cAt_byte s a
      have hset := fun v hv => up_set (nums s) junk a hal v hv
      have hkeep := up_keep (nums s) a hal
      have q1 : (a : Int) < (s.size : Int) := by omega
      change _ = some (Value.int .u8 (cAt s a)) at c0
      change ∀ v, v = Tok.up (cAt s a) → _ at hset
      change Tok.up (cAt s a) = cAt s a → _ at hkeep
      have Hset := Lib.hid hset
      have Hkeep := Lib.hid hkeep
      clear hset hkeep
      generalize cAt s a = c at *
      by_cases h1 : 97 ≤ c
      · have t1 : decide (c ≥ 97) = true := decide_eq_true h1
        by_cases h2 : c ≤ 122
        · have hv : c - 97 + 65 = Tok.up c := by unfold Tok.up; rw [if_pos ⟨h1, h2⟩]; omega
          have Hv := Lib.hid hv
          clear hv
          go_wp2_with fail
          go_roundw
          case rel =>
            refine ⟨a + 1, by omega, by go_num, ?_, bel_set hbel (Nat.le_refl _) _⟩
            rw [← Hset.out _ Hv.out]
            exact hBr.set a _
          case measure => simp [intOf]; omega
        · have hv : Tok.up c = c := by unfold Tok.up; rw [if_neg (by omega)]
          have Hv := Lib.hid hv
          clear hv
          go_wp2_with fail
          go_roundw
          case rel => exact ⟨a + 1, by omega, by go_num, by rw [← Hkeep.out Hv.out]; exact hBr, hbel⟩
          case measure => simp [intOf]; omega
      · have t1 : decide (c ≥ 97) = false := decide_eq_false h1
        have hv : Tok.up c = c := by unfold Tok.up; rw [if_neg (by omega)]
        have Hv := Lib.hid hv
        clear hv
        go_wp2_with fail
        go_roundw
        case rel => exact ⟨a + 1, by omega, by go_num, by rw [← Hkeep.out Hv.out]; exact hBr, hbel⟩
        case measure => simp [intOf]; omega
    · obtain rfl : a = s.size := by omega
      have hsh : Shows wr (w.heap.size + 1) 1 (some ⟨w.heap.size, 0, none⟩) s.size (U8 ((nums s).map Tok.up)) := by
        refine ⟨by simp [U8, Hl.out], fun _ => ⟨w.heap.size, 0, rfl, by omega, fun j hj => ?_⟩⟩
        have hj' : j < (nums s).length := by simpa [U8] using hj
        rw [Nat.zero_add, hBr.cell j, List.take_of_length_le (by rw [Hl.out]; exact Nat.le_refl _), List.drop_of_length_le (by rw [Hl.out]; exact Nat.le_refl _), List.append_nil, List.getElem?_append_left hj, List.getD, List.getElem?_eq_getElem hj]; rfl
      have k := conv_shows cap hsh
      go_wp2_with fail
      go_ret
      exact ⟨rfl, hbel⟩
end Go.Proofs.YtkdgomalhngagaaDoor
