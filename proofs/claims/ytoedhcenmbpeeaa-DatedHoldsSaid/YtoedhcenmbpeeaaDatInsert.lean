/- The walk of 'slices.Insert', as 'dated.Put' calls it. -/
import Derived.Test.YtoedhcenmbpeeaaDatRow
import Derived.Deep.AppendLies
namespace Go.Proofs.Ytoedhcenmbpeeaa
open Go.RowKit

theorem ins_len (l : List (Int × Int)) (i : Nat) (x : Int × Int) (h : i ≤ l.length) : (ins l i x).length = l.length + 1 := by
  unfold ins; simp only [List.length_append, List.length_take, List.length_drop, List.length_cons, List.length_nil]; omega
set_option maxRecDepth 100000 in
set_option maxHeartbeats 2000000 in
/-- At the end. -/
theorem insert_end (A : Option Addr) (n c base vb : Nat) (l : List (Int × Int)) (x : Int × Int) (w : World) (ho : w.ownsRow base 31 2 (.slice A n c) n (DC l)) (hv : Block w vb 31 (DC [x])) (hbase : base ≤ w.heap.size) (hn : n ≤ 1000) (hnc : n ≤ c) :
    Calls Try.prog 33 #[.slice A n c, .int .i64 (n : Int), .slice (some ⟨vb, 0, none⟩) 1 1] w fun e w' =>
      ∃ A' c', e = .returned (.slice A' (n + 1) c') ∧ w'.ownsRow base 31 2 (.slice A' (n + 1) c') (n + 1) (DC (ins l n x)) ∧ w.grownBy w' (Value.slice A n c).ownBlock := by
  obtain ⟨i0, hi, hz0, hz1, hz2⟩ := info_parts infoD
  have hl : l.length = n := by have := ho.1; rw [dc_len] at this; omega
  obtain ⟨A2, hcut, _⟩ := cut_from (P := Try.prog) 2 Try.underlying22 size_dated A n c n (Nat.le_refl _) hnc
  have hins : ins l n x = l ++ [x] := by unfold ins; rw [List.take_of_length_le (by omega), List.drop_of_length_le (by omega), List.append_nil]
  have Hins := Lib.hid hins
  have hvs := Block.shows hv (size := 2) (n := 1) rfl
  clear hl hins
  go_enter Try.func33, Try.ntmps33
  go_wp2_with (at_builtin; refine wpList_append_shows _ rfl _ _ 22 rfl base 31 i0 (.agg #[.int .i64 0, .int .i64 0]) 2 16 Try.underlying22 hi hz0 hz1 hz2 rfl (by decide) _ n (DC l) rfl ho _ (some ⟨vb, 0, none⟩) 1 1 (DC [x]) rfl hvs (dc_one _) (by unfold maxLen; omega) (by omega) hbase ?_; intro A3 c3 w3 hown3 hg3)
  go_ret
  exact ⟨A3, c3, rfl, by rw [Hins.out, dc_append]; exact hown3, hg3⟩
set_option maxRecDepth 100000 in
set_option maxHeartbeats 4000000 in
/-- In the midst, with room. -/
theorem insert_room (g n c i vb : Nat) (l : List (Int × Int)) (junk : List Value) (x : Int × Int) (w : World) (hrow : RowD w g l junk) (hl : l.length = n) (hj : junk.length + n * 2 = c * 2) (hv : Block w vb 31 (DC [x])) (hne : vb ≠ g) (hi : i < n) (hn : n ≤ 1000) (hnc : n + 1 ≤ c) :
    Calls Try.prog 33 #[.slice (some ⟨g, 0, none⟩) n c, .int .i64 (i : Int), .slice (some ⟨vb, 0, none⟩) 1 1] w fun e w' =>
      e = .returned (.slice (some ⟨g, 0, none⟩) (n + 1) c) ∧ w.grownBy w' (some g) ∧ ∃ junk', RowD w' g (ins l i x) junk' ∧ junk'.length + (n + 1) * 2 = c * 2 := by
  have he : (Try.prog).elem 22 = 31 := by kernel_rfl
  obtain ⟨ad0, hc0, _, _⟩ := cut_some ⟨g, 0, none⟩ n c i (by omega) (by omega)
  have hcT := fun w => cut_to (P := Try.prog) 2 Try.underlying22 size_dated (some ⟨g, 0, none⟩) n c (n + 1) (by omega) w
  obtain ⟨ad1, hc1, _, hd1⟩ := cut_some ⟨g, 0, none⟩ (n + 1) c (i + 1) (by omega) (by omega)
  obtain ⟨ad2, hc2, _, hd2⟩ := cut_some ⟨g, 0, none⟩ (n + 1) c i (by omega) (by omega)
  have hd1 := hd1 (by omega)
  have hd2 := hd2 (by omega)
  have e1 : ∀ j, (⟨g, 0, none⟩ : Addr).add j = ⟨g, j, none⟩ := by intro j; unfold Addr.add; split <;> simp_all
  rw [e1] at hd1 hd2
  subst hd1
  subst hd2
  have hov : ∀ lb cb, (callFunc 37 #[.slice (some ⟨vb, 0, none⟩) 1 1, .slice (some ⟨g, (i + 1) * 2, none⟩) lb cb]).run Try.prog w = .ok (.value (.bool false)) w := fun lb cb => by
    have hsa : w.shape? vb = some (31, 2) := by unfold World.shape?; unfold Block at hv; rw [hv]; rfl
    have hsb : w.shape? g = some (31, (DC l ++ junk).length) := by unfold World.shape?; unfold RowD Block at hrow; rw [hrow]; rfl
    rw [run_callFunc_extern Try.func37 (by kernel_rfl) (by kernel_rfl) (by kernel_rfl) (e := Extern.SlicesOverlaps.overlaps #[22, 22] #[4]) (by kernel_rfl),
      Lib.run_overlaps_apart w 22 4 31 Try.underlying22 2 size_dated ⟨vb, 0, none⟩ ⟨g, (i + 1) * 2, none⟩ 1 1 lb cb hne 31 31 2 (DC l ++ junk).length hsa hsb (by rw [List.length_append, dc_len]; omega) (hv.free 0) (hv.free 2)]
    rfl
  have hrd : RowD w.drew g l junk := hrow
  have hsrc := row_from hrd (i := i) (by omega)
  have hcp1 := row_copy (w := w.drew) hrd hsrc (i + 1) (n + 1 - (i + 1)) (c - (i + 1)) (n + 1 - i) (c - i) (by rw [hl]; simp only [Nat.min_def]; split <;> omega) (by rw [List.length_append, dc_len]; omega)
  obtain ⟨hb2, hg2⟩ := block_put hrd ((i + 1) * 2) (DC (l.drop i))
  rw [put_out l (l.drop i) junk (i + 1) (by rw [List.length_drop]; omega) (by omega)] at hb2 hg2 hcp1
  have hjd : (junk.drop ((i + 1 + (l.drop i).length - l.length) * 2)).length + (n + 1) * 2 = c * 2 := by rw [List.length_drop, List.length_drop]; omega
  generalize junk.drop ((i + 1 + (l.drop i).length - l.length) * 2) = junk2 at hb2 hg2 hcp1 hjd
  have hL : (l.take (i + 1) ++ l.drop i).length = n + 1 := by simp only [List.length_append, List.length_take, List.length_drop]; omega
  have hLt : (l.take (i + 1) ++ l.drop i).take i ++ [x] ++ (l.take (i + 1) ++ l.drop i).drop (i + 1) = ins l i x := by
    unfold ins
    rw [List.take_append_of_le_length (by rw [List.length_take]; omega), List.take_take, Nat.min_eq_left (by omega), List.drop_append_of_le_length (by rw [List.length_take]; omega), List.drop_of_length_le (by rw [List.length_take]; omega), List.nil_append]
  generalize l.take (i + 1) ++ l.drop i = L at hb2 hg2 hcp1 hL hLt
  obtain ⟨w2, hw2⟩ : ∃ w2, w.drew.setRow g (DC L ++ junk2).toArray = w2 := ⟨_, rfl⟩
  rw [hw2] at hb2 hg2 hcp1
  have hv2 : Block w2 vb 31 (DC [x]) := (hg2.block vb (Block.lt hv) (fun e => hne (Option.some.inj e))).trans hv
  have hcp2 := row_copy (w := w2) hb2 (Block.shows hv2 (size := 2) (n := 1) rfl) i (n + 1 - i) (c - i) 1 1 (by simp only [Nat.min_def]; split <;> omega) (by rw [List.length_append, dc_len]; omega)
  obtain ⟨hb3, hg3⟩ := block_put hb2 (i * 2) (DC [x])
  rw [put_in L [x] junk2 i (by simp only [List.length_cons, List.length_nil]; omega)] at hb3 hg3 hcp2
  rw [show i + [x].length = i + 1 from rfl, hLt] at hb3 hg3 hcp2
  obtain ⟨w3, hw3⟩ : ∃ w3, w2.setRow g (DC (ins l i x) ++ junk2).toArray = w3 := ⟨_, rfl⟩
  rw [hw3] at hb3 hg3 hcp2
  have Hrow := Lib.hid (show RowD w3 g (ins l i x) junk2 from hb3)
  have Hg := Lib.hid (World.grownBy.trans (World.grownBy.trans (show w.grownBy w.drew (some g) from ⟨rfl, rfl, rfl, Nat.le_refl _, fun _ _ _ => rfl⟩) hg2) hg3)
  have Hj := Lib.hid hjd
  have d1 : ((i : Int) == (n : Int)) = false := by simp; omega
  have q1 : ¬ (i : Int) = (n : Int) := by omega
  have q2 : ¬ (c : Int) < (n : Int) + 1 := by omega
  have hw1 : IntKind.i64.wrap ((i : Int) + 1) = (i : Int) + 1 := by rw [IntKind.wrap_i64]; omega
  have hb1 : (0 : Int) ≤ (i : Int) + 1 := by omega
  have htn : ((i : Int) + 1).toNat = i + 1 := by omega
  have hb2' : ¬ (c = i + 1) := by omega
  have hb3' : (i : Int) ≤ (n : Int) := by omega
  have hb5' : (i : Int) + 1 ≤ (n : Int) + 1 := by omega
  have hb6' : (i : Int) ≤ (n : Int) + 1 := by omega
  have hb4' : ¬ (c = i) := by omega
  have hc1' : ∀ w, (Instr.slice 22 (.slice (some ⟨g, 0, none⟩) (n + 1) c) (some (.int .i64 ((i : Int) + 1))) none none).run Try.prog w = .ok (.slice (some ⟨g, (i + 1) * 2, none⟩) (n + 1 - (i + 1)) (c - (i + 1))) w := hc1
  have hcT' : ∀ w, (Instr.slice 22 (.slice (some ⟨g, 0, none⟩) n c) none (some (.int .i64 ((n : Int) + 1))) none).run Try.prog w = .ok (.slice (some ⟨g, 0, none⟩) (n + 1) c) w := hcT
  clear hjd hb3 hg3 hw3 hb2 hg2 hw2 hv2 hL hLt hsrc hl hj he hc1 hcT e1
  go_enter Try.func33, Try.ntmps33
  go_wp2_with (simp only [hov])
  go_region_law (refine step_copy_runI rfl _ _ 22 22 rfl _ _ (by simp [Act.eval, Act.put]) (by simp [Act.eval, Act.put]) (hcp1 _) ?_)
  go_wp2_with (at_builtin; refine wpList_copy_runI _ rfl _ _ 22 22 rfl _ _ rfl rfl (hcp2 _) ?_)
  go_ret
  exact ⟨rfl, Hg.out, junk2, Hrow.out, Hj.out⟩
set_option maxRecDepth 100000 in
set_option maxHeartbeats 4000000 in
/-- In the midst, without room: a new row. -/
theorem insert_grow (g n c i vb : Nat) (l : List (Int × Int)) (junk : List Value) (x : Int × Int) (w : World) (hrow : RowD w g l junk) (hl : l.length = n) (hv : Block w vb 31 (DC [x])) (hi : i < n) (hn : n ≤ 1000) (hnc : n ≤ c) (hroom : c < n + 1) :
    Calls Try.prog 33 #[.slice (some ⟨g, 0, none⟩) n c, .int .i64 (i : Int), .slice (some ⟨vb, 0, none⟩) 1 1] w fun e w' =>
      ∃ c', e = .returned (.slice (some ⟨w.heap.size, 0, none⟩) (n + 1) c') ∧ w'.ownsRow w.heap.size 31 2 (.slice (some ⟨w.heap.size, 0, none⟩) (n + 1) c') (n + 1) (DC (ins l i x)) ∧ Below w.heap.size w w' := by
  have he : (Try.prog).elem 22 = 31 := by kernel_rfl
  obtain ⟨i0, hi0, hz0, hz1, hz2⟩ := info_parts infoD
  obtain ⟨ad0, hc0, _, hd0⟩ := cut_some ⟨g, 0, none⟩ n c i (by omega) (by omega)
  have hd0 := hd0 (by omega)
  have e1 : ∀ j, (⟨g, 0, none⟩ : Addr).add j = ⟨g, j, none⟩ := by intro j; unfold Addr.add; split <;> simp_all
  rw [e1] at hd0
  subst hd0
  have hcT := fun w => cut_to (P := Try.prog) 2 Try.underlying22 size_dated (some ⟨g, 0, none⟩) n c i (by omega) w
  have hwg := Block.lt hrow
  have hwv := Block.lt hv
  have hsh := row_shows (show RowD w.drew g l junk from hrow)
  rw [hl] at hsh
  have hold : (Builtin.firstCells i0.size i (.slice (some ⟨g, 0, none⟩) i c)).run Try.prog w.drew = .ok (DC (l.take i)).toArray w.drew := by
    rw [hz1]
    refine run_firstCells_some w.drew 2 i ⟨g, 0, none⟩ i c (DC (l.take i)) (by rw [dc_len, List.length_take]; omega) (fun j v hj => ?_)
    have hjl := (List.getElem?_eq_some_iff.1 hj).1
    rw [dc_len, List.length_take] at hjl
    have hj2 : j < (DC l).length := by rw [dc_len]; omega
    rw [← dc_take, List.getElem?_take] at hj
    split at hj
    · rw [e1, Block.cell (show Block w.drew g _ _ from hrow), List.getElem?_append_left hj2, hj]
    · cases hj
  have hG1 := grownCap_ge w (n + 1) c 31
  have hG2 := grownCap_le_maxLen w (n + 1) c 31 (by unfold maxLen; omega)
  have hz := fun ty => Lib.run_append_grow_zeros (P := Try.prog) w 22 3 ty 31 i0 _ .i64 .i64 Try.underlying22 Try.underlying3 hi0 hz0 (some ⟨g, 0, none⟩) i c (DC (l.take i)) hold (n + 1 - i) (by omega) (by omega) (by omega) (by omega) (by rw [hz2]; omega) (by rw [hz2, show i + (n + 1 - i) = n + 1 by omega]; exact growslice_fits hroom (by omega))
  rw [show i + (n + 1 - i) = n + 1 by omega] at hz
  generalize grownCap w (n + 1) c 31 = G at hz hG1 hG2
  have hcells : (DC (l.take i)).toArray ++ Builtin.zeroCells (Value.agg #[.int .i64 0, .int .i64 0]).cells (n + 1 - i) ++ Builtin.zeroCells (Value.agg #[.int .i64 0, .int .i64 0]).cells (G - (n + 1)) = (DC (l.take i ++ List.replicate (n + 1 - i) (0, 0)) ++ DC (List.replicate (G - (n + 1)) (0, 0))).toArray := by
    apply Array.toList_inj.1
    simp only [Array.toList_append, zeros_dc, dc_append]
  rw [hcells] at hz
  have hL : (l.take i ++ List.replicate (n + 1 - i) ((0, 0) : Int × Int)).length = n + 1 := by simp only [List.length_append, List.length_take, List.length_replicate]; omega
  have hL1 : (l.take i ++ List.replicate (n + 1 - i) ((0, 0) : Int × Int)).take i ++ [x] ++ (l.take i ++ List.replicate (n + 1 - i) ((0, 0) : Int × Int)).drop (i + 1) = l.take i ++ [x] ++ List.replicate (n - i) (0, 0) := by
    rw [List.take_append_of_le_length (by rw [List.length_take]; omega), List.take_take, Nat.min_self, List.drop_append, List.drop_of_length_le (by rw [List.length_take]; omega), List.nil_append, List.length_take, Nat.min_eq_left (by omega), show i + 1 - i = 1 by omega, List.drop_replicate, show n + 1 - i - 1 = n - i by omega]
  have hL2 : (l.take i ++ [x] ++ List.replicate (n - i) ((0, 0) : Int × Int)).take (i + 1) ++ l.drop i ++ (l.take i ++ [x] ++ List.replicate (n - i) ((0, 0) : Int × Int)).drop (i + 1 + (l.drop i).length) = ins l i x := by
    unfold ins
    have h1 : (l.take i ++ [x]).length = i + 1 := by simp only [List.length_append, List.length_take, List.length_cons, List.length_nil]; omega
    have h2 : (l.take i ++ [x] ++ List.replicate (n - i) ((0, 0) : Int × Int)).drop (i + 1 + (l.drop i).length) = [] := by
      apply List.drop_of_length_le
      simp only [List.length_append, List.length_take, List.length_drop, List.length_replicate, List.length_cons, List.length_nil]
      omega
    rw [h2, List.append_nil, List.take_append_of_le_length (by omega), List.take_of_length_le (by omega)]
  have hLl : (l.take i ++ [x] ++ List.replicate (n - i) ((0, 0) : Int × Int)).length = n + 1 := by simp only [List.length_append, List.length_take, List.length_replicate, List.length_cons, List.length_nil]; omega
  generalize hLL : l.take i ++ List.replicate (n + 1 - i) ((0, 0) : Int × Int) = L at hz hL hL1
  generalize hMM : l.take i ++ [x] ++ List.replicate (n - i) ((0, 0) : Int × Int) = M at hL1 hL2 hLl
  have hjunk : (DC (List.replicate (G - (n + 1)) ((0, 0) : Int × Int))).length = (G - (n + 1)) * 2 := by rw [dc_len, List.length_replicate]
  generalize DC (List.replicate (G - (n + 1)) ((0, 0) : Int × Int)) = junk1 at hz hjunk
  have hb1 : Block (w.drew.alloc (.cells (DC L ++ junk1).toArray 31)) w.heap.size 31 (DC L ++ junk1) := Block.new w.drew 31 (DC L ++ junk1)
  have bel1 : Below w.heap.size w (w.drew.alloc (.cells (DC L ++ junk1).toArray 31)) := bel_alloc (Below.refl _ w).drew _
  obtain ⟨w1, hw1⟩ : ∃ w1, w.drew.alloc (.cells (DC L ++ junk1).toArray 31) = w1 := ⟨_, rfl⟩
  rw [hw1] at hz hb1 bel1
  have hv1 := (bel1.block vb hwv).trans hv
  have hcpA := row_copy (w := w1) hb1 (Block.shows (show Block w1 vb _ (DC [x]) from hv1) (size := 2) (n := 1) rfl) i (n + 1 - i) (G - i) 1 1 (by simp only [Nat.min_def]; split <;> omega) (by rw [List.length_append, dc_len]; omega)
  obtain ⟨hb2, hg2⟩ := block_put hb1 (i * 2) (DC [x])
  rw [put_in L [x] junk1 i (by simp only [List.length_cons, List.length_nil]; omega)] at hb2 hg2 hcpA
  rw [show i + [x].length = i + 1 from rfl, hL1] at hb2 hg2 hcpA
  have bel2 := bel_grown bel1 hg2 (fun k hk => by injection hk with hk; omega)
  obtain ⟨w2, hw2⟩ : ∃ w2, w1.setRow w.heap.size (DC M ++ junk1).toArray = w2 := ⟨_, rfl⟩
  rw [hw2] at hb2 hcpA bel2
  have hrow2 : RowD w2.drew g l junk := (bel2.block g hwg).trans hrow
  have hsrc := row_from hrow2 (i := i) (by omega)
  rw [hl] at hsrc
  have hcpB := row_copy (w := w2.drew) (g := w.heap.size) hb2 hsrc (i + 1) (n + 1 - (i + 1)) (G - (i + 1)) (n - i) (c - i) (by simp only [Nat.min_def]; split <;> omega) (by rw [List.length_append, dc_len]; omega)
  obtain ⟨hb3, hg3⟩ := block_put (w := w2.drew) hb2 ((i + 1) * 2) (DC (l.drop i))
  rw [put_in M (l.drop i) junk1 (i + 1) (by rw [List.length_drop]; omega), hL2] at hb3 hg3 hcpB
  have bel3 := bel_grown bel2.drew hg3 (fun k hk => by injection hk with hk; omega)
  obtain ⟨w3, hw3⟩ : ∃ w3, w2.drew.setRow w.heap.size (DC (ins l i x) ++ junk1).toArray = w3 := ⟨_, rfl⟩
  rw [hw3] at hb3 hcpB bel3
  have hown := row_own (n := n + 1) (c := G) (base := w.heap.size) (show RowD w3 w.heap.size (ins l i x) junk1 from hb3) (by rw [ins_len l i x (by omega), hl]) (Nat.le_refl _) hG2 (by omega)
  have Hown := Lib.hid hown
  have Hb := Lib.hid bel3
  obtain ⟨ad3, hc3, _, hd3⟩ := cut_some ⟨w.heap.size, 0, none⟩ (n + 1) G i (by omega) hG1
  have hd3 := hd3 (by omega)
  have e2 : ∀ j, (⟨w.heap.size, 0, none⟩ : Addr).add j = ⟨w.heap.size, j, none⟩ := by intro j; unfold Addr.add; split <;> simp_all
  rw [e2] at hd3
  subst hd3
  have hkk : IntKind.i64.wrap ((n : Int) + 1 - (i : Int)) = (n : Int) + 1 - (i : Int) := by rw [IntKind.wrap_i64]; omega
  rw [show ((n + 1 - i : Nat) : Int) = (n : Int) + 1 - (i : Int) by omega] at hz
  have d1 : ((i : Int) == (n : Int)) = false := by simp; omega
  have q1 : ¬ (i : Int) = (n : Int) := by omega
  have q2 : (c : Int) < (n : Int) + 1 := by omega
  have hw1' : IntKind.i64.wrap ((i : Int) + 1) = (i : Int) + 1 := by rw [IntKind.wrap_i64]; omega
  have hb1' : (0 : Int) ≤ (i : Int) + 1 := by omega
  have htn : ((i : Int) + 1).toNat = i + 1 := by omega
  have hb2' : ¬ (G = i + 1) := by omega
  have hb3' : (i : Int) ≤ (n : Int) := by omega
  have hb5' : (i : Int) + 1 ≤ (n : Int) + 1 := by omega
  have hb6' : (i : Int) ≤ (n : Int) + 1 := by omega
  have hb4' : ¬ (c = i) := by omega
  have hb7' : ¬ (G = i) := by omega
  clear hown bel3 bel2 bel1 hb1 hb2 hb3 hg2 hg3 hw1 hw2 hw3 hsrc hrow2 hv1 hL hL1 hL2 hLl hLL hMM hcells hold hsh hl he e1 e2 hjunk hG1 hG2 hi0 hz0 hz1 hz2
  go_enter Try.func33, Try.ntmps33
  go_wp2_with (first
    | (at_builtin; refine Lib.wpList_append_run _ rfl _ _ _ _ rfl _ _ rfl rfl _ _ (hz _) ?_)
    | (at_builtin; refine wpList_copy_runI _ rfl _ _ 22 22 rfl _ _ rfl rfl (hcpA _) ?_))
  go_region_law (refine step_copy_runI rfl _ _ 22 22 rfl _ _ (by simp [Act.eval, Act.put]) (by simp [Act.eval, Act.put]) (hcpB _) ?_)
  go_wp2_with fail
  go_ret
  exact ⟨G, rfl, Hown.out, Hb.out⟩
end Go.Proofs.Ytoedhcenmbpeeaa
