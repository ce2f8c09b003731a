/- Lemmas for it; no condition: TBook4 TBook5. -/
import Derived.Test.YthmhdaefkhcenaaGreatDoorZ08
import Derived.Test.YthmhdaefkhcenaaGreatDoorZ14
import Derived.Test.YthmhdaefkhcenaaGreatDoorZ37
import Derived.Test.YthmhdaefkhcenaaGreatDoorZ45
set_option linter.unusedVariables false
set_option linter.unusedSimpArgs false
namespace Go.Proofs.YthmhdaefkhcenaaGreatDoor
open Go.RowKit Go.Lib

theorem make_int (w : World) : (Instr.makeSlice 22 (.int .i64 1) (.int .i64 1)).run Tryz.prog w = .ok (.slice (some ⟨w.heap.size, 0, none⟩) 1 1) (w.alloc (.cells #[.int .i64 0] 3)) := by kernel_rfl
set_option maxRecDepth 100000 in
set_option maxHeartbeats 8000000 in
theorem add_sale (bb m : Nat) (l : List (Int × Nat)) (id day : Int) (ab ac tb tc n r t : Nat) (hid0 : 1 ≤ id) (hid1 : id ≤ 1099511627775) (hd0 : 0 ≤ day) (hd1 : day ≤ 3652058) (hn : n ≤ 4611686018427387904) (hr : r ≤ 1000000) (ht : t ≤ 4611686018427387904) (w : World) (hA : Has w ab [.int .i64 n]) (hT : Has w tb (tlV n r t))
    (hB : Block w bb 137 [.slice none 0 0, .map (some m)]) (hM : MapAt w m (bEs l 0) l.length) (hx : ∀ p ∈ l, p.1 ≠ id) (hnd : ((l ++ [(id, w.heap.size)]).map Prod.fst).Nodup) :
    Calls Tryz.prog 52 #[.pointer (some ⟨bb, 0, none⟩), .agg (saleC id day ab ac tb tc).toArray] w fun e w' => ∃ g c' kb ga ca ub uc gb ib ic, e = .returned (.tuple #[.slice (some ⟨g, 0, none⟩) 1 c', .int .i64 0]) ∧ 1 ≤ c' ∧ (w.heap.size ≤ ga ∧ w.heap.size ≤ ub ∧ w.heap.size ≤ kb ∧ ga < gb ∧ ub < gb ∧ kb < gb ∧ gb < ib ∧ ib < g) ∧ Has w' g (tlV n r t) ∧
      Block w' bb 137 [.slice (some ⟨ib, 0, none⟩) 1 ic, .map (some m)] ∧ w'.ownsRow w.heap.size 3 1 (.slice (some ⟨ib, 0, none⟩) 1 ic) 1 [.int .i64 id] ∧ MapAt w' m (bEs (l ++ [(id, kb)]) 0) (l ++ [(id, kb)]).length ∧
      Block w' kb 208 (keptS id day ga ca ub uc gb 1) ∧ Has w' ga [.int .i64 n] ∧ Has w' ub (tlV n r t) ∧ Block w' gb 3 [.int .i64 0] ∧ Kept [bb, m] w w' := by
  go_enter Tryz.func52, Tryz.ntmps52
  simp only [saleC]
  go_wp2_with fail
  refine (may_sale bb m _ l id day ab ac tb tc n r t hid0 hid1 hd0 hd1 hn hr ht _ (hA.alloc _) (hT.alloc _) (hB.alloc _) (MapAt.alloc hM _) hx).mono ?_
  rintro e w1 ⟨rfl, hb1⟩
  have bel1 : Below w.heap.size w w1 := bel_call (by exact sBel) hb1
  have X1 : Block w1 w.heap.size 88 [.int .i64 1, .int .i64 id, .int .i64 0, .int .i64 day, .slice (some ⟨ab, 0, none⟩) 1 ac, .slice (some ⟨tb, 0, none⟩) 1 tc] := Block.call (by exact sBlk) hb1
  clear hb1
  have Xp := X1
  obtain ⟨xl, xf, x0, x1, x2, x3, x4, x5⟩ := Xp.c6
  go_wp2_with fail
  refine AnyTo.region (S := fun w' => w'.cell? ⟨w.heap.size, 4, none⟩ = some (.slice (some ⟨ab, 0, none⟩) 1 ac) ∧ w'.cell? ⟨w.heap.size, 5, none⟩ = some (.slice (some ⟨tb, 0, none⟩) 1 tc)) (t := 7) 10 rfl (by kernel_rfl) ?_ ?_
  · exact ⟨x4, x5⟩
  intro hS
  (refine AnyTo.take (i := 0) (v := ?_) rfl (by kernel_rfl) (by kernel_rfl) (by kernel_rfl) (by kernel_rfl) (by decide) (fun _ _ _ h => h) (by rfl) ?_ hS ?_; rotate_left; (intro w' hw'; go_simp; try with_reducible rfl); try simp only [Act.put, List.setIfInBounds_toArray, List.set_cons_zero, List.set_cons_succ])
  (refine AnyTo.take (i := 1) (v := ?_) rfl (by kernel_rfl) (by kernel_rfl) (by kernel_rfl) (by kernel_rfl) (by decide) (fun _ _ _ h => h) (by rfl) ?_ hS ?_; rotate_left; (intro w' hw'; go_simp; try with_reducible rfl); try simp only [Act.put, List.setIfInBounds_toArray, List.set_cons_zero, List.set_cons_succ])
  (refine AnyTo.take (i := 3) (v := ?_) rfl (by kernel_rfl) (by kernel_rfl) (by kernel_rfl) (by kernel_rfl) (by decide) (fun _ _ _ h => h) (by rfl) ?_ hS ?_; rotate_left; (intro w' hw'; go_simp; try with_reducible rfl); try simp only [Act.put, List.setIfInBounds_toArray, List.set_cons_zero, List.set_cons_succ])
  (refine AnyTo.take (i := 4) (v := ?_) rfl (by kernel_rfl) (by kernel_rfl) (by kernel_rfl) (by kernel_rfl) (by decide) (fun _ _ _ h => h) (by rfl) ?_ hS ?_; rotate_left; (intro w' hw'; go_simp; try with_reducible rfl); try simp only [Act.put, List.setIfInBounds_toArray, List.set_cons_zero, List.set_cons_succ])
  clear hS
  refine AnyTo.one (i := 2) rfl (by kernel_rfl) rfl (by decide) ?_; intro K hK
  go_wp2_with fail
  refine (clone1 ab ac n w1.drew (hA.call bel1).drew).mono ?_
  rintro e w2 ⟨ga, ca, rfl, hga, HA2, O2, hb2⟩
  have bel2 : Below w.heap.size w w2 := bel_call (by exact sBel) hb2
  have X2 : Block w2 w.heap.size 88 [.int .i64 1, .int .i64 id, .int .i64 0, .int .i64 day, .slice (some ⟨ab, 0, none⟩) 1 ac, .slice (some ⟨tb, 0, none⟩) 1 tc] := X1.drew.call hb2
  clear x0 x1 x2 x3 x4 x5 xl xf Xp hb2
  have Xp := X2
  obtain ⟨xl, xf, x0, x1, x2, x3, x4, x5⟩ := Xp.c6
  refine hK _ _ ?_ ?_ <;> clear hK K; rotate_left; intro hS; rotate_left
  · exact ⟨x4, x5⟩
  (refine AnyTo.take (i := 6) (v := ?_) rfl (by kernel_rfl) (by kernel_rfl) (by kernel_rfl) (by kernel_rfl) (by decide) (fun _ _ _ h => h) (by rfl) ?_ hS ?_; rotate_left; (intro w' hw'; go_simp; try with_reducible rfl); try simp only [Act.put, List.setIfInBounds_toArray, List.set_cons_zero, List.set_cons_succ])
  clear hS
  refine AnyTo.one (i := 5) rfl (by kernel_rfl) rfl (by decide) ?_; intro K hK
  go_wp2_with fail
  refine (clone_tl tb tc n r t w2 (hT.call bel2)).mono ?_
  rintro e w3 ⟨ub, uc, rfl, hub, huc, HT3, hb3⟩
  have bel3 : Below w.heap.size w w3 := bel_call bel2 hb3
  have X3 : Block w3 w.heap.size 88 [.int .i64 1, .int .i64 id, .int .i64 0, .int .i64 day, .slice (some ⟨ab, 0, none⟩) 1 ac, .slice (some ⟨tb, 0, none⟩) 1 tc] := X2.call hb3
  have HA3 := HA2.call hb3
  clear x0 x1 x2 x3 x4 x5 xl xf Xp hb3
  have Xp := X3
  obtain ⟨xl, xf, x0, x1, x2, x3, x4, x5⟩ := Xp.c6
  refine hK _ _ ?_ ?_ <;> clear hK K; rotate_left; intro hS; rotate_left
  · exact ⟨x4, x5⟩
  clear hS
  refine AnyTo.turn rfl (by kernel_rfl) rfl ?_; intro K hK
  go_simp
  refine hK _ _ ?_
  clear hK K
  have X4 : Block _ w.heap.size 88 [.int .i64 1, .int .i64 id, .int .i64 0, .int .i64 day, .slice (some ⟨ga, 0, none⟩) 1 ca, .slice (some ⟨tb, 0, none⟩) 1 tc] := X3.set 4 (.slice (some ⟨ga, 0, none⟩) 1 ca)
  clear x0 x1 x2 x3 x4 x5 xl xf Xp
  have Xp := X4
  obtain ⟨xl, xf, x0, x1, x2, x3, x4, x5⟩ := Xp.c6
  have hS : (fun _ : World => True) w3 := trivial
  refine AnyBut.one (i := 8) rfl (by kernel_rfl) rfl ?_; intro K hK
  go_simp
  refine hK _ _ trivial ?_
  clear hK K
  intro _
  refine AnyBut.one (i := 9) rfl (by kernel_rfl) rfl ?_; intro K hK
  go_simp
  refine hK _ _ trivial ?_
  clear hK K
  intro _
  refine AnyBut.done (by kernel_rfl) ?_
  clear hS
  have X5 : Block _ w.heap.size 88 [.int .i64 1, .int .i64 id, .int .i64 0, .int .i64 day, .slice (some ⟨ga, 0, none⟩) 1 ca, .slice (some ⟨ub, 0, none⟩) 1 uc] := X4.set 5 (.slice (some ⟨ub, 0, none⟩) 1 uc)
  have hz1 : ga ≠ w.heap.size := by have := X1.lt; simp at hga; omega
  have hz2 : ub ≠ w.heap.size := by have := X2.lt; omega
  have HA5 : Has _ ga [.int .i64 n] := (HA3.far (p := ⟨w.heap.size, 4, none⟩) hz1 (.slice (some ⟨ga, 0, none⟩) 1 ca)).far (p := ⟨w.heap.size, 5, none⟩) hz1 (.slice (some ⟨ub, 0, none⟩) 1 uc)
  have HT5 : Has _ ub (tlV n r t) := (HT3.far (p := ⟨w.heap.size, 4, none⟩) hz2 (.slice (some ⟨ga, 0, none⟩) 1 ca)).far (p := ⟨w.heap.size, 5, none⟩) hz2 (.slice (some ⟨ub, 0, none⟩) 1 uc)
  have bel5 : Below w.heap.size w ((w3.setCell ⟨w.heap.size, 4, none⟩ (.slice (some ⟨ga, 0, none⟩) 1 ca)).setCell ⟨w.heap.size, 5, none⟩ (.slice (some ⟨ub, 0, none⟩) 1 uc)) := by exact sBel
  clear x0 x1 x2 x3 x4 x5 xl xf Xp X4 X3 X2 X1 HA3 HA2 HT3 O2
  generalize (w3.setCell ⟨w.heap.size, 4, none⟩ (.slice (some ⟨ga, 0, none⟩) 1 ca)).setCell ⟨w.heap.size, 5, none⟩ (.slice (some ⟨ub, 0, none⟩) 1 uc) = w5 at X5 HA5 HT5 bel5 ⊢
  have Xp := X5
  obtain ⟨xl, xf, x0, x1, x2, x3, x4, x5⟩ := Xp.c6
  go_wp2_with fail
  refine (of_sale id day ga ca ub uc _).mono ?_
  rintro e w6 ⟨rfl, hb6⟩
  have bel6 : Below w.heap.size w w6 := bel_call (by exact sBel) hb6
  have X6 : Block w6 w.heap.size 88 [.int .i64 1, .int .i64 id, .int .i64 0, .int .i64 day, .slice (some ⟨ga, 0, none⟩) 1 ca, .slice (some ⟨ub, 0, none⟩) 1 uc] := Block.call (by exact sBlk) hb6
  have K6 : Block w6 w5.heap.size 208 [.int .i64 1, .int .i64 id, .int .i64 0, .int .i64 day, .slice (some ⟨ga, 0, none⟩) 1 ca, .slice (some ⟨ub, 0, none⟩) 1 uc, .slice none 0 0, .slice none 0 0, .bool false] := Block.call (by exact sBlk) hb6
  have HA6 : Has w6 ga [.int .i64 n] := Has.call (by exact sHas) hb6
  have HT6 : Has w6 ub (tlV n r t) := Has.call (by exact sHas) hb6
  have z5 := X5.lt
  have z5a := HA5.lt
  have z5b := HT5.lt
  clear x0 x1 x2 x3 x4 x5 xl xf Xp X5 HA5 HT5 hb6
  have t1 := ta_ss
  have Xp := X6
  obtain ⟨xl, xf, x0, x1, x2, x3, x4, x5⟩ := Xp.c6
  have Kp := K6
  obtain ⟨kl, kf, k0, k1, k2, k3, k4, k5, k6, k7, k8⟩ := Kp.c9
  simp only [saleC]
  go_upto_region 11 with (fail)
  refine AnyBut.region (S := fun w' => w'.cell? ⟨w.heap.size, 4, none⟩ = some (.slice (some ⟨ga, 0, none⟩) 1 ca) ∧ w'.cell? ⟨w.heap.size, 5, none⟩ = some (.slice (some ⟨ub, 0, none⟩) 1 uc)) (t := 13) 14 rfl (by kernel_rfl) ?_ ?_
  · constructor <;> go_simp
  intro hS
  refine AnyBut.tk 0 hS rfl (h := ?_); refine AnyBut.tk 1 hS rfl (h := ?_); refine AnyBut.tk 2 hS rfl (h := ?_); refine AnyBut.tk 3 hS rfl (h := ?_); refine AnyBut.tk 4 hS rfl (h := ?_); refine AnyBut.tk 5 hS rfl (h := ?_); refine AnyBut.tk 6 hS rfl (h := ?_); refine AnyBut.tk 8 hS rfl (h := ?_); refine AnyBut.tk 9 hS rfl (h := ?_)
  clear hS
  refine AnyBut.two (i := 7) (j := 10) rfl rfl (by kernel_rfl) rfl rfl ?_ ?_
  · intro K hK
    have hmk := make_int
    go_simp
    refine hK _ _ ?_ ?_ <;> clear hK K; rotate_left; intro hS; rotate_left
    · constructor <;> go_simp
    clear hS
    refine AnyBut.one (i := 10) rfl (by kernel_rfl) rfl ?_; intro K hK
    go_simp
    refine hK _ _ ?_ ?_ <;> clear hK K; rotate_left; intro hS; rotate_left
    · constructor <;> go_simp
    (refine AnyBut.one (i := 11) rfl (by kernel_rfl) rfl ?_; intro K hK; go_simp; refine hK _ _ hS ?_; clear hK K; intro _); (refine AnyBut.one (i := 12) rfl (by kernel_rfl) rfl ?_; intro K hK; go_simp; refine hK _ _ hS ?_; clear hK K; intro _)
    clear hS
    refine AnyBut.last rfl (by kernel_rfl) rfl (by kernel_rfl) ?_; intro K hK; go_simp; refine hK _ _ ?_; clear hK K
    have X7 : Block _ w.heap.size 88 [.int .i64 1, .int .i64 id, .int .i64 0, .int .i64 day, .slice (some ⟨ga, 0, none⟩) 1 ca, .slice (some ⟨ub, 0, none⟩) 1 uc] := ((((X6.far (p := ⟨w5.heap.size, 6, none⟩) (by show w.heap.size ≠ w5.heap.size; omega) (.slice (some ⟨ub, 0, none⟩) 1 uc)).far (p := ⟨w5.heap.size, 7, none⟩) (by show w.heap.size ≠ w5.heap.size; omega) (.slice (some ⟨w6.heap.size + 1, 0, none⟩) 1 1)).alloc (.cells #[.int .i64 1, .int .i64 id, .int .i64 0, .int .i64 day, .slice (some ⟨ga, 0, none⟩) 1 ca, .slice (some ⟨ub, 0, none⟩) 1 uc] 224)).alloc (.cells #[.int .i64 0] 3)).drew
    have K7 : Block _ w5.heap.size 208 (keptS id day ga ca ub uc (w6.heap.size + 1) 1) := ((((K6.set 6 (.slice (some ⟨ub, 0, none⟩) 1 uc)).set 7 (.slice (some ⟨w6.heap.size + 1, 0, none⟩) 1 1)).alloc (.cells #[.int .i64 1, .int .i64 id, .int .i64 0, .int .i64 day, .slice (some ⟨ga, 0, none⟩) 1 ca, .slice (some ⟨ub, 0, none⟩) 1 uc] 224)).alloc (.cells #[.int .i64 0] 3)).drew
    clear x0 x1 x2 x3 x4 x5 xl xf Xp k0 k1 k2 k3 k4 k5 k6 k7 k8 kl kf Kp
    have hk1 : ga ≠ w5.heap.size := by omega
    have hk2 : ub ≠ w5.heap.size := by omega
    have HA7 : Has (((((w6.setCell ⟨w5.heap.size, 6, none⟩ (.slice (some ⟨ub, 0, none⟩) 1 uc)).setCell ⟨w5.heap.size, 7, none⟩ (.slice (some ⟨w6.heap.size + 1, 0, none⟩) 1 1)).alloc (.cells #[.int .i64 1, .int .i64 id, .int .i64 0, .int .i64 day, .slice (some ⟨ga, 0, none⟩) 1 ca, .slice (some ⟨ub, 0, none⟩) 1 uc] 224)).alloc (.cells #[.int .i64 0] 3)).drew) ga [.int .i64 n] := by exact sHas
    have HT7 : Has (((((w6.setCell ⟨w5.heap.size, 6, none⟩ (.slice (some ⟨ub, 0, none⟩) 1 uc)).setCell ⟨w5.heap.size, 7, none⟩ (.slice (some ⟨w6.heap.size + 1, 0, none⟩) 1 1)).alloc (.cells #[.int .i64 1, .int .i64 id, .int .i64 0, .int .i64 day, .slice (some ⟨ga, 0, none⟩) 1 ca, .slice (some ⟨ub, 0, none⟩) 1 uc] 224)).alloc (.cells #[.int .i64 0] 3)).drew) ub (tlV n r t) := by exact sHas
    have bel7 : Below w.heap.size w (((((w6.setCell ⟨w5.heap.size, 6, none⟩ (.slice (some ⟨ub, 0, none⟩) 1 uc)).setCell ⟨w5.heap.size, 7, none⟩ (.slice (some ⟨w6.heap.size + 1, 0, none⟩) 1 1)).alloc (.cells #[.int .i64 1, .int .i64 id, .int .i64 0, .int .i64 day, .slice (some ⟨ga, 0, none⟩) 1 ca, .slice (some ⟨ub, 0, none⟩) 1 uc] 224)).alloc (.cells #[.int .i64 0] 3)).drew) := by exact sBel
    have G7 : Block (((((w6.setCell ⟨w5.heap.size, 6, none⟩ (.slice (some ⟨ub, 0, none⟩) 1 uc)).setCell ⟨w5.heap.size, 7, none⟩ (.slice (some ⟨w6.heap.size + 1, 0, none⟩) 1 1)).alloc (.cells #[.int .i64 1, .int .i64 id, .int .i64 0, .int .i64 day, .slice (some ⟨ga, 0, none⟩) 1 ca, .slice (some ⟨ub, 0, none⟩) 1 uc] 224)).alloc (.cells #[.int .i64 0] 3)).drew) (w6.heap.size + 1) 3 [.int .i64 0] := by exact sBlk
    generalize ((((w6.setCell ⟨w5.heap.size, 6, none⟩ (.slice (some ⟨ub, 0, none⟩) 1 uc)).setCell ⟨w5.heap.size, 7, none⟩ (.slice (some ⟨w6.heap.size + 1, 0, none⟩) 1 1)).alloc (.cells #[.int .i64 1, .int .i64 id, .int .i64 0, .int .i64 day, .slice (some ⟨ga, 0, none⟩) 1 ca, .slice (some ⟨ub, 0, none⟩) 1 uc] 224)).alloc (.cells #[.int .i64 0] 3)).drew = w7 at X7 K7 HA7 HT7 bel7 G7 ⊢
    have B7 := hB.call bel7
    have B7p := B7
    obtain ⟨bl, bf, b0, b1⟩ := B7p.c2
    have X7p := X7
    obtain ⟨xl, xf, x0, x1, x2, x3, x4, x5⟩ := X7p.c6
    go_upto_region 18 with (fail)
    refine AnyBut.region (S := fun w' => w'.cell? ⟨bb, 0, none⟩ = some (.slice none 0 0) ∧ w'.cell? ⟨w.heap.size, 1, none⟩ = some (.int .i64 id)) (t := 11) 12 rfl (by kernel_rfl) ?_ ?_
    · exact ⟨b0, x1⟩
    intro hS
    refine AnyBut.tk 0 hS rfl (h := ?_); refine AnyBut.tk 1 hS rfl (h := ?_); refine AnyBut.tk 2 hS rfl (h := ?_); refine AnyBut.tk 3 hS rfl (h := ?_); refine AnyBut.tk 4 hS rfl (h := ?_); refine AnyBut.tk 5 hS rfl (h := ?_); refine AnyBut.tk 6 hS rfl (h := ?_)
    clear hS
    refine AnyBut.one (i := 7) rfl (by kernel_rfl) rfl ?_; intro K hK; go_simp; refine hK _ _ ?_ ?_ <;> clear hK K; rotate_left; intro hS; rotate_left
    · constructor <;> go_simp
    clear hS
    refine AnyBut.one (i := 8) rfl (by kernel_rfl) rfl ?_; intro K hK
    refine op_append_nil _ _ 22 rfl 3 _ 1 8 Tryz.underlying22 info_int rfl w7.heap.size 0 1 1 [.int .i64 id] rfl rfl rfl (by intro j v hj; rw [Nat.zero_add]; exact (Block.cell (btop (cs := [.int .i64 id]) rfl) j).trans hj) (by omega) (by unfold maxLen; omega) (by omega) ?_
    intro J k hJ hk
    refine hK _ _ ?_ ?_ <;> clear hK K; rotate_left; intro hS; rotate_left
    · constructor <;> go_simp
    have hBpos : bb < w.heap.size := hB.lt
    have zb1 := bel1.size
    have zb2 := bel2.size
    have zb3 : w1.heap.size ≤ ga := hga
    have hw7 : w.heap.size < w7.heap.size := X7.lt
    have X8 : Block _ w.heap.size 88 [.int .i64 1, .int .i64 id, .int .i64 0, .int .i64 day, .slice (some ⟨ga, 0, none⟩) 1 ca, .slice (some ⟨ub, 0, none⟩) 1 uc] := (((X7.alloc (.cells #[.int .i64 id] 3)).drew.alloc (.cells ([.int .i64 id].toArray ++ J) 3))).drew
    (refine AnyBut.one (i := 9) rfl (by kernel_rfl) rfl ?_; intro K hK; go_simp; refine hK _ _ hS ?_; clear hK K; intro _); (refine AnyBut.one (i := 10) rfl (by kernel_rfl) rfl ?_; intro K hK; go_simp; refine hK _ _ hS ?_; clear hK K; intro _)
    clear hS
    refine AnyBut.last rfl (by kernel_rfl) rfl (by kernel_rfl) ?_; intro K hK; go_simp; refine hK _ _ ?_; clear hK K
    go_upto_region 19 with (fail)
    refine at_code (fun W => Kept [bb] w7 W ∧ Block W bb 137 [.slice (some ⟨w7.heap.size + 1, 0, none⟩) 1 (1 + k), .map (some m)] ∧ W.ownsRow w.heap.size 3 1 (.slice (some ⟨w7.heap.size + 1, 0, none⟩) 1 (1 + k)) 1 [.int .i64 id] ∧ w7.heap.size + 1 < W.heap.size) ⟨?_, ?_, ?_, ?_⟩ ?_
    · repeat' (first | exact Kept.refl _ _ | refine Kept.alloc ?_ _ | refine Kept.drew ?_ | refine Kept.set ?_ (by simp) _)
    · repeat' (first | exact B7.set 0 _ | refine Block.alloc ?_ _ | refine Block.drew ?_)
    · exact own_top (by simp) (by omega) rfl (by simpa using hJ) (by omega)
    · simp
    rintro w8 ⟨K8, B8, O8, z8⟩
    clear b0 b1 bl bf B7p x0 x1 x2 x3 x4 x5 xl xf X7p X8 hJ
    have zb5 : bb < w5.heap.size := by omega
    have zb6 : w5.heap.size ≤ w6.heap.size := by have := bel6.size; have := K6.lt; omega
    have hbm : bb ≠ m := by intro e; subst e; unfold Block at hB; unfold MapAt at hM; rw [hM] at hB; cases hB
    have X9 := X7.keptX K8 (by simp; omega)
    have K9 := K7.keptX K8 (by simp; omega)
    have HA9 := HA7.keptX K8 (by simp; omega)
    have HT9 := HT7.keptX K8 (by simp; omega)
    have G9 := G7.keptX K8 (by simp; omega)
    have M9 : MapAt w8 m (bEs l 0) l.length := (hM.call bel7).keptX K8 (by simpa using hbm.symm)
    have Kw : Kept [bb, m] w w8 := (Kept.of_below bel7).trans K8 (by simp)
    obtain ⟨w9, hup, M10, Gr⟩ := book_upd (b := w5.heap.size) (MapAt.drew M9) hx
    replace Gr : w8.grownBy w9 (some m) := ⟨Gr.os, Gr.tape, Gr.output, Gr.size, Gr.block⟩
    have hgr : ∀ {g t cs}, Block w8 g t cs → g ≠ m → Block w9 g t cs := fun h hne => Block.grown h Gr (by simpa using hne)
    obtain ⟨bl, bf, b0, b1⟩ := B8.c2
    obtain ⟨xl, xf, x0, x1, x2, x3, x4, x5⟩ := X9.c6
    refine AnyBut.region (S := fun w' => w'.cell? ⟨bb, 1, none⟩ = some (.map (some m)) ∧ w'.cell? ⟨w.heap.size, 1, none⟩ = some (.int .i64 id)) (t := 7) 8 rfl (by kernel_rfl) ?_ ?_
    · exact ⟨b1, x1⟩
    intro hS
    refine AnyBut.tk 0 hS rfl (h := ?_); refine AnyBut.tk 1 hS rfl (h := ?_); refine AnyBut.tk 2 hS rfl (h := ?_); refine AnyBut.tk 3 hS rfl (h := ?_); refine AnyBut.tk 4 hS rfl (h := ?_); refine AnyBut.tk 5 hS rfl (h := ?_); refine AnyBut.tk 6 hS rfl (h := ?_)
    clear hS
    refine AnyBut.last rfl (by kernel_rfl) rfl (by kernel_rfl) ?_; intro K hK; go_simp; refine hK _ _ ?_; clear hK K
    clear hup b0 b1 bl bf x0 x1 x2 x3 x4 x5 xl xf
    have kw : Kept [bb, m] w w9 := Kw.trans (Kept.of_grown (X := [m]) (w := w8) Gr (by simp)) (by simp)
    have hkm : w5.heap.size ≠ m := by have := hM.lt; omega
    have B9 : Block w9 bb 137 [.slice (some ⟨w7.heap.size + 1, 0, none⟩) 1 (1 + k), .map (some m)] := hgr B8 hbm
    have X10 := hgr X9 (by have := hM.lt; omega)
    have K10 := hgr K9 hkm
    have G10 := hgr G9 (by have := hM.lt; omega)
    have HA10 : Has w9 ga [.int .i64 n] := Has.grown (w := w8) HA9 Gr (by have := hM.lt; simp; omega)
    have HT10 : Has w9 ub (tlV n r t) := Has.grown (w := w8) HT9 Gr (by have := hM.lt; simp; omega)
    have O10 := own_grown (W := w8) O8 Gr (by have := hM.lt; simp; omega)
    obtain ⟨xl, xf, x0, x1, x2, x3, x4, x5⟩ := X10.c6
    go_wp2_with fail
    refine (lines_book bb m w5.heap.size ub uc n r t _ (l ++ [(id, w5.heap.size)]) id _ w9 B9 M10 (by simp) (by simpa using hnd) K10 rfl HT10).mono ?_
    rintro e w10 ⟨g, c', rfl, hg, hc', HG, hb10⟩
    go_wp2_with fail
    go_returns
    exact ⟨g, c', w5.heap.size, ga, ca, ub, uc, w6.heap.size + 1, w7.heap.size + 1, 1 + k, rfl, hc', ⟨by omega, by omega, by omega, by omega, by omega, by have := K6.lt; omega, by have := G7.lt; omega, by have := kw.size; have := (own_lt O10).2; omega⟩, HG, B9.call hb10, own_below O10 hb10, M10.call hb10, K10.call hb10, HA10.call hb10, HT10.call hb10, G10.call hb10, kw.behind hb10⟩
  · intro K hK
    go_simp
    refine hK _ _ ?_ ?_ <;> clear hK K; rotate_left; intro hS; rotate_left
    · constructor <;> go_simp
    clear hS
    refine AnyBut.one (i := 7) rfl (by kernel_rfl) rfl ?_; intro K hK
    have hmk := make_int
    go_simp
    refine hK _ _ ?_ ?_ <;> clear hK K; rotate_left; intro hS; rotate_left
    · constructor <;> go_simp
    (refine AnyBut.one (i := 11) rfl (by kernel_rfl) rfl ?_; intro K hK; go_simp; refine hK _ _ hS ?_; clear hK K; intro _); (refine AnyBut.one (i := 12) rfl (by kernel_rfl) rfl ?_; intro K hK; go_simp; refine hK _ _ hS ?_; clear hK K; intro _)
    clear hS
    refine AnyBut.last rfl (by kernel_rfl) rfl (by kernel_rfl) ?_; intro K hK; go_simp; refine hK _ _ ?_; clear hK K
    have X7 : Block _ w.heap.size 88 [.int .i64 1, .int .i64 id, .int .i64 0, .int .i64 day, .slice (some ⟨ga, 0, none⟩) 1 ca, .slice (some ⟨ub, 0, none⟩) 1 uc] := ((((X6.far (p := ⟨w5.heap.size, 6, none⟩) (by show w.heap.size ≠ w5.heap.size; omega) (.slice (some ⟨ub, 0, none⟩) 1 uc)).far (p := ⟨w5.heap.size, 7, none⟩) (by show w.heap.size ≠ w5.heap.size; omega) (.slice (some ⟨w6.heap.size + 1, 0, none⟩) 1 1)).alloc (.cells #[.int .i64 1, .int .i64 id, .int .i64 0, .int .i64 day, .slice (some ⟨ga, 0, none⟩) 1 ca, .slice (some ⟨ub, 0, none⟩) 1 uc] 224)).alloc (.cells #[.int .i64 0] 3)).drew
    have K7 : Block _ w5.heap.size 208 (keptS id day ga ca ub uc (w6.heap.size + 1) 1) := ((((K6.set 6 (.slice (some ⟨ub, 0, none⟩) 1 uc)).set 7 (.slice (some ⟨w6.heap.size + 1, 0, none⟩) 1 1)).alloc (.cells #[.int .i64 1, .int .i64 id, .int .i64 0, .int .i64 day, .slice (some ⟨ga, 0, none⟩) 1 ca, .slice (some ⟨ub, 0, none⟩) 1 uc] 224)).alloc (.cells #[.int .i64 0] 3)).drew
    clear x0 x1 x2 x3 x4 x5 xl xf Xp k0 k1 k2 k3 k4 k5 k6 k7 k8 kl kf Kp
    have hk1 : ga ≠ w5.heap.size := by omega
    have hk2 : ub ≠ w5.heap.size := by omega
    have HA7 : Has (((((w6.setCell ⟨w5.heap.size, 6, none⟩ (.slice (some ⟨ub, 0, none⟩) 1 uc)).setCell ⟨w5.heap.size, 7, none⟩ (.slice (some ⟨w6.heap.size + 1, 0, none⟩) 1 1)).alloc (.cells #[.int .i64 1, .int .i64 id, .int .i64 0, .int .i64 day, .slice (some ⟨ga, 0, none⟩) 1 ca, .slice (some ⟨ub, 0, none⟩) 1 uc] 224)).alloc (.cells #[.int .i64 0] 3)).drew) ga [.int .i64 n] := by exact sHas
    have HT7 : Has (((((w6.setCell ⟨w5.heap.size, 6, none⟩ (.slice (some ⟨ub, 0, none⟩) 1 uc)).setCell ⟨w5.heap.size, 7, none⟩ (.slice (some ⟨w6.heap.size + 1, 0, none⟩) 1 1)).alloc (.cells #[.int .i64 1, .int .i64 id, .int .i64 0, .int .i64 day, .slice (some ⟨ga, 0, none⟩) 1 ca, .slice (some ⟨ub, 0, none⟩) 1 uc] 224)).alloc (.cells #[.int .i64 0] 3)).drew) ub (tlV n r t) := by exact sHas
    have bel7 : Below w.heap.size w (((((w6.setCell ⟨w5.heap.size, 6, none⟩ (.slice (some ⟨ub, 0, none⟩) 1 uc)).setCell ⟨w5.heap.size, 7, none⟩ (.slice (some ⟨w6.heap.size + 1, 0, none⟩) 1 1)).alloc (.cells #[.int .i64 1, .int .i64 id, .int .i64 0, .int .i64 day, .slice (some ⟨ga, 0, none⟩) 1 ca, .slice (some ⟨ub, 0, none⟩) 1 uc] 224)).alloc (.cells #[.int .i64 0] 3)).drew) := by exact sBel
    have G7 : Block (((((w6.setCell ⟨w5.heap.size, 6, none⟩ (.slice (some ⟨ub, 0, none⟩) 1 uc)).setCell ⟨w5.heap.size, 7, none⟩ (.slice (some ⟨w6.heap.size + 1, 0, none⟩) 1 1)).alloc (.cells #[.int .i64 1, .int .i64 id, .int .i64 0, .int .i64 day, .slice (some ⟨ga, 0, none⟩) 1 ca, .slice (some ⟨ub, 0, none⟩) 1 uc] 224)).alloc (.cells #[.int .i64 0] 3)).drew) (w6.heap.size + 1) 3 [.int .i64 0] := by exact sBlk
    generalize ((((w6.setCell ⟨w5.heap.size, 6, none⟩ (.slice (some ⟨ub, 0, none⟩) 1 uc)).setCell ⟨w5.heap.size, 7, none⟩ (.slice (some ⟨w6.heap.size + 1, 0, none⟩) 1 1)).alloc (.cells #[.int .i64 1, .int .i64 id, .int .i64 0, .int .i64 day, .slice (some ⟨ga, 0, none⟩) 1 ca, .slice (some ⟨ub, 0, none⟩) 1 uc] 224)).alloc (.cells #[.int .i64 0] 3)).drew = w7 at X7 K7 HA7 HT7 bel7 G7 ⊢
    have B7 := hB.call bel7
    have B7p := B7
    obtain ⟨bl, bf, b0, b1⟩ := B7p.c2
    have X7p := X7
    obtain ⟨xl, xf, x0, x1, x2, x3, x4, x5⟩ := X7p.c6
    go_upto_region 18 with (fail)
    refine AnyBut.region (S := fun w' => w'.cell? ⟨bb, 0, none⟩ = some (.slice none 0 0) ∧ w'.cell? ⟨w.heap.size, 1, none⟩ = some (.int .i64 id)) (t := 11) 12 rfl (by kernel_rfl) ?_ ?_
    · exact ⟨b0, x1⟩
    intro hS
    refine AnyBut.tk 0 hS rfl (h := ?_); refine AnyBut.tk 1 hS rfl (h := ?_); refine AnyBut.tk 2 hS rfl (h := ?_); refine AnyBut.tk 3 hS rfl (h := ?_); refine AnyBut.tk 4 hS rfl (h := ?_); refine AnyBut.tk 5 hS rfl (h := ?_); refine AnyBut.tk 6 hS rfl (h := ?_)
    clear hS
    refine AnyBut.one (i := 7) rfl (by kernel_rfl) rfl ?_; intro K hK; go_simp; refine hK _ _ ?_ ?_ <;> clear hK K; rotate_left; intro hS; rotate_left
    · constructor <;> go_simp
    clear hS
    refine AnyBut.one (i := 8) rfl (by kernel_rfl) rfl ?_; intro K hK
    refine op_append_nil _ _ 22 rfl 3 _ 1 8 Tryz.underlying22 info_int rfl w7.heap.size 0 1 1 [.int .i64 id] rfl rfl rfl (by intro j v hj; rw [Nat.zero_add]; exact (Block.cell (btop (cs := [.int .i64 id]) rfl) j).trans hj) (by omega) (by unfold maxLen; omega) (by omega) ?_
    intro J k hJ hk
    refine hK _ _ ?_ ?_ <;> clear hK K; rotate_left; intro hS; rotate_left
    · constructor <;> go_simp
    have hBpos : bb < w.heap.size := hB.lt
    have zb1 := bel1.size
    have zb2 := bel2.size
    have zb3 : w1.heap.size ≤ ga := hga
    have hw7 : w.heap.size < w7.heap.size := X7.lt
    have X8 : Block _ w.heap.size 88 [.int .i64 1, .int .i64 id, .int .i64 0, .int .i64 day, .slice (some ⟨ga, 0, none⟩) 1 ca, .slice (some ⟨ub, 0, none⟩) 1 uc] := (((X7.alloc (.cells #[.int .i64 id] 3)).drew.alloc (.cells ([.int .i64 id].toArray ++ J) 3))).drew
    (refine AnyBut.one (i := 9) rfl (by kernel_rfl) rfl ?_; intro K hK; go_simp; refine hK _ _ hS ?_; clear hK K; intro _); (refine AnyBut.one (i := 10) rfl (by kernel_rfl) rfl ?_; intro K hK; go_simp; refine hK _ _ hS ?_; clear hK K; intro _)
    clear hS
    refine AnyBut.last rfl (by kernel_rfl) rfl (by kernel_rfl) ?_; intro K hK; go_simp; refine hK _ _ ?_; clear hK K
    go_upto_region 19 with (fail)
    refine at_code (fun W => Kept [bb] w7 W ∧ Block W bb 137 [.slice (some ⟨w7.heap.size + 1, 0, none⟩) 1 (1 + k), .map (some m)] ∧ W.ownsRow w.heap.size 3 1 (.slice (some ⟨w7.heap.size + 1, 0, none⟩) 1 (1 + k)) 1 [.int .i64 id] ∧ w7.heap.size + 1 < W.heap.size) ⟨?_, ?_, ?_, ?_⟩ ?_
    · repeat' (first | exact Kept.refl _ _ | refine Kept.alloc ?_ _ | refine Kept.drew ?_ | refine Kept.set ?_ (by simp) _)
    · repeat' (first | exact B7.set 0 _ | refine Block.alloc ?_ _ | refine Block.drew ?_)
    · exact own_top (by simp) (by omega) rfl (by simpa using hJ) (by omega)
    · simp
    rintro w8 ⟨K8, B8, O8, z8⟩
    clear b0 b1 bl bf B7p x0 x1 x2 x3 x4 x5 xl xf X7p X8 hJ
    have zb5 : bb < w5.heap.size := by omega
    have zb6 : w5.heap.size ≤ w6.heap.size := by have := bel6.size; have := K6.lt; omega
    have hbm : bb ≠ m := by intro e; subst e; unfold Block at hB; unfold MapAt at hM; rw [hM] at hB; cases hB
    have X9 := X7.keptX K8 (by simp; omega)
    have K9 := K7.keptX K8 (by simp; omega)
    have HA9 := HA7.keptX K8 (by simp; omega)
    have HT9 := HT7.keptX K8 (by simp; omega)
    have G9 := G7.keptX K8 (by simp; omega)
    have M9 : MapAt w8 m (bEs l 0) l.length := (hM.call bel7).keptX K8 (by simpa using hbm.symm)
    have Kw : Kept [bb, m] w w8 := (Kept.of_below bel7).trans K8 (by simp)
    obtain ⟨w9, hup, M10, Gr⟩ := book_upd (b := w5.heap.size) (MapAt.drew M9) hx
    replace Gr : w8.grownBy w9 (some m) := ⟨Gr.os, Gr.tape, Gr.output, Gr.size, Gr.block⟩
    have hgr : ∀ {g t cs}, Block w8 g t cs → g ≠ m → Block w9 g t cs := fun h hne => Block.grown h Gr (by simpa using hne)
    obtain ⟨bl, bf, b0, b1⟩ := B8.c2
    obtain ⟨xl, xf, x0, x1, x2, x3, x4, x5⟩ := X9.c6
    refine AnyBut.region (S := fun w' => w'.cell? ⟨bb, 1, none⟩ = some (.map (some m)) ∧ w'.cell? ⟨w.heap.size, 1, none⟩ = some (.int .i64 id)) (t := 7) 8 rfl (by kernel_rfl) ?_ ?_
    · exact ⟨b1, x1⟩
    intro hS
    refine AnyBut.tk 0 hS rfl (h := ?_); refine AnyBut.tk 1 hS rfl (h := ?_); refine AnyBut.tk 2 hS rfl (h := ?_); refine AnyBut.tk 3 hS rfl (h := ?_); refine AnyBut.tk 4 hS rfl (h := ?_); refine AnyBut.tk 5 hS rfl (h := ?_); refine AnyBut.tk 6 hS rfl (h := ?_)
    clear hS
    refine AnyBut.last rfl (by kernel_rfl) rfl (by kernel_rfl) ?_; intro K hK; go_simp; refine hK _ _ ?_; clear hK K
    clear hup b0 b1 bl bf x0 x1 x2 x3 x4 x5 xl xf
    have kw : Kept [bb, m] w w9 := Kw.trans (Kept.of_grown (X := [m]) (w := w8) Gr (by simp)) (by simp)
    have hkm : w5.heap.size ≠ m := by have := hM.lt; omega
    have B9 : Block w9 bb 137 [.slice (some ⟨w7.heap.size + 1, 0, none⟩) 1 (1 + k), .map (some m)] := hgr B8 hbm
    have X10 := hgr X9 (by have := hM.lt; omega)
    have K10 := hgr K9 hkm
    have G10 := hgr G9 (by have := hM.lt; omega)
    have HA10 : Has w9 ga [.int .i64 n] := Has.grown (w := w8) HA9 Gr (by have := hM.lt; simp; omega)
    have HT10 : Has w9 ub (tlV n r t) := Has.grown (w := w8) HT9 Gr (by have := hM.lt; simp; omega)
    have O10 := own_grown (W := w8) O8 Gr (by have := hM.lt; simp; omega)
    obtain ⟨xl, xf, x0, x1, x2, x3, x4, x5⟩ := X10.c6
    go_wp2_with fail
    refine (lines_book bb m w5.heap.size ub uc n r t _ (l ++ [(id, w5.heap.size)]) id _ w9 B9 M10 (by simp) (by simpa using hnd) K10 rfl HT10).mono ?_
    rintro e w10 ⟨g, c', rfl, hg, hc', HG, hb10⟩
    go_wp2_with fail
    go_returns
    exact ⟨g, c', w5.heap.size, ga, ca, ub, uc, w6.heap.size + 1, w7.heap.size + 1, 1 + k, rfl, hc', ⟨by omega, by omega, by omega, by omega, by omega, by have := K6.lt; omega, by have := G7.lt; omega, by have := kw.size; have := (own_lt O10).2; omega⟩, HG, B9.call hb10, own_below O10 hb10, M10.call hb10, K10.call hb10, HA10.call hb10, HT10.call hb10, G10.call hb10, kw.behind hb10⟩
end Go.Proofs.YthmhdaefkhcenaaGreatDoor
namespace Go.Proofs.YthmhdaefkhcenaaGreatDoor
open Go.RowKit Go.Lib

set_option maxRecDepth 100000 in
set_option maxHeartbeats 8000000 in
theorem add_ref (bb m kb ib k ic lo : Nat) (ids : List Value) (l : List (Int × Nat)) (id of day ds : Int) (ab ac sb sc tb tc gb n r t x back : Nat) (hid0 : 1 ≤ id) (hid1 : id ≤ 1099511627775) (hof0 : 1 ≤ of) (hof1 : of ≤ 1099511627775) (hd0 : 0 ≤ day) (hd1 : day ≤ 3652058) (hn0 : x ≠ 0) (hnp : 0 < n) (hn : n ≤ 1073741824) (hr : r ≤ 1000000) (ht : t ≤ 1073741824) (hbx : back + x ≤ n) (w : World)
    (hB : Block w bb 137 [.slice (some ⟨ib, 0, none⟩) k ic, .map (some m)]) (hI : w.ownsRow lo 3 1 (.slice (some ⟨ib, 0, none⟩) k ic) k ids) (hlo : lo ≤ w.heap.size) (hk : k ≤ 1000) (hM : MapAt w m (bEs l 0) l.length) (hx : (of, kb) ∈ l) (hd : (l.map Prod.fst).Nodup) (hid : ∀ p ∈ l, p.1 ≠ id)
    (hnd : ∀ z : Nat, ((l ++ [(id, z)]).map Prod.fst).Nodup) (hK : Block w kb 208 (keptS of ds sb sc tb tc gb 1)) (hS : Has w sb [.int .i64 n]) (hT : Has w tb (tlV n r t)) (hG : Block w gb 3 [.int .i64 back]) (hA : Has w ab [.int .i64 x]) (hds : ds ≤ day) (hig : ib ≠ gb) :
    Calls Tryz.prog 52 #[.pointer (some ⟨bb, 0, none⟩), .agg (refC id of day ab ac).toArray] w fun e w' => ∃ g c' kr ga ca lb lc ib2 ic2, e = .returned (.tuple #[.slice (some ⟨g, 0, none⟩) 1 c', .int .i64 0]) ∧ 1 ≤ c' ∧ (w.heap.size ≤ g ∧ w.heap.size ≤ kr ∧ w.heap.size ≤ lb ∧ (ib2 = ib ∨ w.heap.size ≤ ib2)) ∧ Has w' g (tlV x r (backF t n back (back + x))) ∧
      Block w' bb 137 [.slice (some ⟨ib2, 0, none⟩) (k + 1) ic2, .map (some m)] ∧ w'.ownsRow lo 3 1 (.slice (some ⟨ib2, 0, none⟩) (k + 1) ic2) (k + 1) (ids ++ [.int .i64 id]) ∧ MapAt w' m (bEs (l ++ [(id, kr)]) 0) (l ++ [(id, kr)]).length ∧
      Block w' kr 208 (keptR id of day ga ca lb lc) ∧ Has w' lb (tlV x r (backF t n back (back + x))) ∧ Block w' gb 3 [.int .i64 ((back + x : Nat) : Int)] ∧ Kept [bb, m, ib, gb] w w' := by
  go_enter Tryz.func52, Tryz.ntmps52
  simp only [refC]
  go_wp2_with fail
  refine (may_refund bb m kb _ l id of day ds ab ac sb sc tb tc gb 1 n x back hid0 hid1 hof0 hof1 hd0 hd1 hn0 _ (hB.alloc _) (MapAt.alloc hM _) hx hd hid (hK.alloc _) (hS.alloc _) (Has.of_block (hG.alloc _)) (hA.alloc _) hds (by omega) hn (by omega) false (by simp; omega)).mono ?_
  rintro e w1 ⟨rfl, hb1⟩
  have bel1 : Below w.heap.size w w1 := bel_call (by exact sBel) hb1
  have X1 : Block w1 w.heap.size 88 [.int .i64 2, .int .i64 id, .int .i64 of, .int .i64 day, .slice (some ⟨ab, 0, none⟩) 1 ac, .slice none 0 0] := Block.call (by exact sBlk) hb1
  clear hb1
  have Xp := X1
  obtain ⟨xl, xf, x0, x1, x2, x3, x4, x5⟩ := Xp.c6
  go_wp2_with fail
  refine AnyTo.region (S := fun w' => w'.cell? ⟨w.heap.size, 4, none⟩ = some (.slice (some ⟨ab, 0, none⟩) 1 ac) ∧ w'.cell? ⟨w.heap.size, 5, none⟩ = some (.slice none 0 0)) (t := 7) 10 rfl (by kernel_rfl) ?_ ?_
  · exact ⟨x4, x5⟩
  have hSS := hS
  clear hS
  intro hS
  (refine AnyTo.take (i := 0) (v := ?_) rfl (by kernel_rfl) (by kernel_rfl) (by kernel_rfl) (by kernel_rfl) (by decide) (fun _ _ _ h => h) (by rfl) ?_ hS ?_; rotate_left; (intro w' hw'; go_simp; try with_reducible rfl); try simp only [Act.put, List.setIfInBounds_toArray, List.set_cons_zero, List.set_cons_succ])
  (refine AnyTo.take (i := 1) (v := ?_) rfl (by kernel_rfl) (by kernel_rfl) (by kernel_rfl) (by kernel_rfl) (by decide) (fun _ _ _ h => h) (by rfl) ?_ hS ?_; rotate_left; (intro w' hw'; go_simp; try with_reducible rfl); try simp only [Act.put, List.setIfInBounds_toArray, List.set_cons_zero, List.set_cons_succ])
  (refine AnyTo.take (i := 3) (v := ?_) rfl (by kernel_rfl) (by kernel_rfl) (by kernel_rfl) (by kernel_rfl) (by decide) (fun _ _ _ h => h) (by rfl) ?_ hS ?_; rotate_left; (intro w' hw'; go_simp; try with_reducible rfl); try simp only [Act.put, List.setIfInBounds_toArray, List.set_cons_zero, List.set_cons_succ])
  (refine AnyTo.take (i := 4) (v := ?_) rfl (by kernel_rfl) (by kernel_rfl) (by kernel_rfl) (by kernel_rfl) (by decide) (fun _ _ _ h => h) (by rfl) ?_ hS ?_; rotate_left; (intro w' hw'; go_simp; try with_reducible rfl); try simp only [Act.put, List.setIfInBounds_toArray, List.set_cons_zero, List.set_cons_succ])
  clear hS
  refine AnyTo.one (i := 2) rfl (by kernel_rfl) rfl (by decide) ?_; intro K hKK
  go_wp2_with fail
  refine (clone1 ab ac x w1.drew (hA.call bel1).drew).mono ?_
  rintro e w2 ⟨ga, ca, rfl, hga, HA2, O2, hb2⟩
  have bel2 : Below w.heap.size w w2 := bel_call (by exact sBel) hb2
  have X2 : Block w2 w.heap.size 88 [.int .i64 2, .int .i64 id, .int .i64 of, .int .i64 day, .slice (some ⟨ab, 0, none⟩) 1 ac, .slice none 0 0] := X1.drew.call hb2
  clear x0 x1 x2 x3 x4 x5 xl xf Xp hb2
  have Xp := X2
  obtain ⟨xl, xf, x0, x1, x2, x3, x4, x5⟩ := Xp.c6
  refine hKK _ _ ?_ ?_ <;> clear hKK K
  · exact ⟨x4, x5⟩
  intro hS
  (refine AnyTo.take (i := 6) (v := ?_) rfl (by kernel_rfl) (by kernel_rfl) (by kernel_rfl) (by kernel_rfl) (by decide) (fun _ _ _ h => h) (by rfl) ?_ hS ?_; rotate_left; (intro w' hw'; go_simp; try with_reducible rfl); try simp only [Act.put, List.setIfInBounds_toArray, List.set_cons_zero, List.set_cons_succ])
  clear hS
  refine AnyTo.one (i := 5) rfl (by kernel_rfl) rfl (by decide) ?_; intro K hKK
  go_wp2_with fail
  refine (clone_tl0 w2).mono ?_
  rintro e w3 ⟨rfl, hb3⟩
  have bel3 : Below w.heap.size w w3 := bel_call bel2 hb3
  have X3 : Block w3 w.heap.size 88 [.int .i64 2, .int .i64 id, .int .i64 of, .int .i64 day, .slice (some ⟨ab, 0, none⟩) 1 ac, .slice none 0 0] := X2.call hb3
  have HA3 := HA2.call hb3
  clear x0 x1 x2 x3 x4 x5 xl xf Xp hb3
  have Xp := X3
  obtain ⟨xl, xf, x0, x1, x2, x3, x4, x5⟩ := Xp.c6
  refine hKK _ _ ?_ ?_ <;> clear hKK K
  · exact ⟨x4, x5⟩
  intro hS
  clear hS
  refine AnyTo.turn rfl (by kernel_rfl) rfl ?_; intro K hKK
  go_simp
  refine hKK _ _ ?_
  clear hKK K
  have X4 : Block _ w.heap.size 88 [.int .i64 2, .int .i64 id, .int .i64 of, .int .i64 day, .slice (some ⟨ga, 0, none⟩) 1 ca, .slice none 0 0] := X3.set 4 (.slice (some ⟨ga, 0, none⟩) 1 ca)
  clear x0 x1 x2 x3 x4 x5 xl xf Xp
  have Xp := X4
  obtain ⟨xl, xf, x0, x1, x2, x3, x4, x5⟩ := Xp.c6
  have hS : (fun _ : World => True) w3 := trivial
  refine AnyBut.one (i := 8) rfl (by kernel_rfl) rfl ?_; intro K hKK
  go_simp
  refine hKK _ _ trivial ?_
  clear hKK K
  intro _
  refine AnyBut.one (i := 9) rfl (by kernel_rfl) rfl ?_; intro K hKK
  go_simp
  refine hKK _ _ trivial ?_
  clear hKK K
  intro _
  refine AnyBut.done (by kernel_rfl) ?_
  clear hS
  have X5 : Block _ w.heap.size 88 [.int .i64 2, .int .i64 id, .int .i64 of, .int .i64 day, .slice (some ⟨ga, 0, none⟩) 1 ca, .slice none 0 0] := X4.set 5 (.slice none 0 0)
  have hz1 : ga ≠ w.heap.size := by have := X1.lt; simp at hga; omega
  have HA5 : Has _ ga [.int .i64 x] := (HA3.far (p := ⟨w.heap.size, 4, none⟩) hz1 (.slice (some ⟨ga, 0, none⟩) 1 ca)).far (p := ⟨w.heap.size, 5, none⟩) hz1 (.slice none 0 0)
  have bel5 : Below w.heap.size w ((w3.setCell ⟨w.heap.size, 4, none⟩ (.slice (some ⟨ga, 0, none⟩) 1 ca)).setCell ⟨w.heap.size, 5, none⟩ (.slice none 0 0)) := by exact sBel
  have zb1 := bel1.size
  have zb3 : w1.heap.size ≤ ga := hga
  clear x0 x1 x2 x3 x4 x5 xl xf Xp X4 X3 X2 X1 HA3 HA2 O2
  generalize (w3.setCell ⟨w.heap.size, 4, none⟩ (.slice (some ⟨ga, 0, none⟩) 1 ca)).setCell ⟨w.heap.size, 5, none⟩ (.slice none 0 0) = w5 at X5 HA5 bel5 ⊢
  have Xp := X5
  obtain ⟨xl, xf, x0, x1, x2, x3, x4, x5⟩ := Xp.c6
  have t1 := ta_rs
  have t2 := ta_rr
  go_wp2_with fail
  refine (of_ref id of day ga ca _).mono ?_
  rintro e w6 ⟨rfl, hb6⟩
  have bel6 : Below w.heap.size w w6 := bel_call (by exact sBel) hb6
  have X6 : Block w6 w.heap.size 88 [.int .i64 2, .int .i64 id, .int .i64 of, .int .i64 day, .slice (some ⟨ga, 0, none⟩) 1 ca, .slice none 0 0] := Block.call (by exact sBlk) hb6
  have K6 : Block w6 w5.heap.size 208 [.int .i64 2, .int .i64 id, .int .i64 of, .int .i64 day, .slice (some ⟨ga, 0, none⟩) 1 ca, .slice none 0 0, .slice none 0 0, .slice none 0 0, .bool false] := Block.call (by exact sBlk) hb6
  have HA6 : Has w6 ga [.int .i64 x] := Has.call (by exact sHas) hb6
  have z5 := X5.lt
  have z5a := HA5.lt
  have z6 := K6.lt
  clear x0 x1 x2 x3 x4 x5 xl xf Xp X5 HA5 hb6
  simp only [refC]
  go_upto_region 14 with (fail)
  refine at_code (fun W => Below w6.heap.size w6 W ∧ Block W w6.heap.size 217 [.int .i64 2, .int .i64 id, .int .i64 of, .int .i64 day, .slice (some ⟨ga, 0, none⟩) 1 ca, .slice none 0 0]) ⟨by exact sBel, by exact sBlk⟩ ?_
  rintro w7 ⟨bel7, R7⟩
  have bel7' := bel_call bel6 bel7
  have R7p := R7
  obtain ⟨xl, xf, x0, x1, x2, x3, x4, x5⟩ := R7p.c6
  refine AnyBut.region (S := fun w' => w'.cell? ⟨w6.heap.size, 0, none⟩ = some (.int .i64 2) ∧ w'.cell? ⟨w6.heap.size, 1, none⟩ = some (.int .i64 id) ∧ w'.cell? ⟨w6.heap.size, 2, none⟩ = some (.int .i64 of) ∧ w'.cell? ⟨w6.heap.size, 3, none⟩ = some (.int .i64 day) ∧ w'.cell? ⟨w6.heap.size, 4, none⟩ = some (.slice (some ⟨ga, 0, none⟩) 1 ca) ∧ w'.cell? ⟨w6.heap.size, 5, none⟩ = some (.slice none 0 0)) (t := 10) 11 rfl (by kernel_rfl) ?_ ?_
  · exact ⟨x0, x1, x2, x3, x4, x5⟩
  intro hS
  refine AnyBut.tk 0 hS rfl (h := ?_); refine AnyBut.tk 1 hS rfl (h := ?_); refine AnyBut.tk 2 hS rfl (h := ?_); refine AnyBut.tk 3 hS rfl (h := ?_); refine AnyBut.tk 4 hS rfl (h := ?_); refine AnyBut.tk 5 hS rfl (h := ?_)
  clear hS
  refine AnyBut.one (i := 6) rfl (by kernel_rfl) rfl ?_; intro K hKK
  have K7 := K6.call bel7
  go_wp2_with fail
  refine (sale_book bb m kb _ l of _ w7.drew (hB.call bel7').drew (hM.call bel7').drew hx hd (hK.call bel7').drew rfl).mono ?_
  rintro e w8 ⟨rfl, hb8⟩
  have bel8 : Below w.heap.size w w8 := bel_call (bel_drewN bel7' 1) hb8
  have R8 := R7.drew.call hb8
  have K8 := K7.drew.call hb8
  have X8 := ((X6.call bel7).drew).call hb8
  have A8 := ((HA6.call bel7).drew).call hb8
  clear x0 x1 x2 x3 x4 x5 xl xf R7p
  have R8p := R8
  obtain ⟨xl, xf, x0, x1, x2, x3, x4, x5⟩ := R8p.c6
  refine hKK _ _ ?_ ?_ <;> clear hKK K
  · exact ⟨x0, x1, x2, x3, x4, x5⟩
  intro hS
  clear hS
  refine AnyBut.one (i := 7) rfl (by kernel_rfl) rfl ?_; intro K hKK
  have hkg : kb ≠ gb := hK.ne_type hG (by decide)
  have hgl := hG.lt
  have hlr := lines_ref kb id of day ds ga ca sb sc tb tc gb n r t x back hnp hn hr ht hn0 hbx w8 (hK.call bel8) (hT.call bel8) (hG.call bel8) A8 hkg (by omega)
  simp only [refC] at hlr
  go_wp2_with fail
  refine hlr.mono ?_
  rintro e w9 ⟨lb, lc, rfl, hlc, hlb, L9, G9, kp9⟩
  clear hlr
  have R9 := R8.keptX kp9 (by simp; omega)
  have K9 := K8.keptX kp9 (by simp; omega)
  have X9 := X8.keptX kp9 (by simp; omega)
  have z8 := bel8.size
  clear x0 x1 x2 x3 x4 x5 xl xf R8p
  have R9p := R9
  obtain ⟨xl, xf, x0, x1, x2, x3, x4, x5⟩ := R9p.c6
  have K9p := K9
  obtain ⟨kl, kf, k0, k1, k2, k3, k4, k5, k6, k7, k8⟩ := K9p.c9
  refine hKK _ _ ?_ ?_ <;> clear hKK K
  · exact ⟨x0, x1, x2, x3, x4, x5⟩
  intro hS
  (refine AnyBut.one (i := 8) rfl (by kernel_rfl) rfl ?_; intro K hK; go_simp; refine hK _ _ hS ?_; clear hK K; intro _); (refine AnyBut.one (i := 9) rfl (by kernel_rfl) rfl ?_; intro K hK; go_simp; refine hK _ _ hS ?_; clear hK K; intro _)
  clear hS
  refine AnyBut.last rfl (by kernel_rfl) rfl (by kernel_rfl) ?_; intro K hK; go_simp; refine hK _ _ ?_; clear hK K
  go_upto_region 18 with (fail)
  have z6' := K8.lt
  refine at_code (fun W => Kept [gb] w W ∧ Block W w.heap.size 88 [.int .i64 2, .int .i64 id, .int .i64 of, .int .i64 day, .slice (some ⟨ga, 0, none⟩) 1 ca, .slice none 0 0] ∧ Block W w5.heap.size 208 (keptR id of day ga ca lb lc) ∧ Has W lb (tlV x r (backF t n back (back + x))) ∧ Block W gb 3 [.int .i64 ((back + x : Nat) : Int)]) ⟨((Kept.of_below bel8).trans kp9 (by simp)).set (by simp; omega) _, X9.far (by simp; omega) _, K9.set 6 _, L9.far (by simp; omega) _, G9.far (by simp; omega) _⟩ ?_
  clear x0 x1 x2 x3 x4 x5 xl xf R9p k0 k1 k2 k3 k4 k5 k6 k7 k8 kl kf K9p K9 X9 R9 L9 G9 R8 K8 X8 A8 R7 K7 X6 K6 HA6 t1 t2
  rintro w10 ⟨kp10, X10, K10, L10, G10⟩
  have hbg : bb ≠ gb := hB.ne_type hG (by decide)
  have hmg : m ≠ gb := fun e => hG.ne_map hM e.symm
  have B10 := hB.keptX kp10 (by simpa using hbg)
  have M10 := hM.keptX kp10 (by simpa using hmg)
  have I10 := own_kept hI kp10 (by simpa using hig)
  have z10 := kp10.size
  have zB := hB.lt
  have zM := hM.lt
  have zI := own_lt hI
  have hbi : ib ≠ bb := own_ne_block hI hB (by decide)
  have hbm := hB.ne_map hM
  have him : ib ≠ m := own_ne_map hI hM
  have B10p := B10
  obtain ⟨bl, bf, b0, b1⟩ := B10p.c2
  have X10p := X10
  obtain ⟨xl, xf, x0, x1, x2, x3, x4, x5⟩ := X10p.c6
  refine AnyBut.region (S := fun w' => w'.cell? ⟨bb, 0, none⟩ = some (.slice (some ⟨ib, 0, none⟩) k ic) ∧ w'.cell? ⟨w.heap.size, 1, none⟩ = some (.int .i64 id)) (t := 11) 12 rfl (by kernel_rfl) ?_ ?_
  · exact ⟨b0, x1⟩
  intro hS
  refine AnyBut.tk 0 hS rfl (h := ?_); refine AnyBut.tk 1 hS rfl (h := ?_); refine AnyBut.tk 2 hS rfl (h := ?_); refine AnyBut.tk 3 hS rfl (h := ?_); refine AnyBut.tk 4 hS rfl (h := ?_); refine AnyBut.tk 5 hS rfl (h := ?_); refine AnyBut.tk 6 hS rfl (h := ?_)
  clear hS
  refine AnyBut.one (i := 7) rfl (by kernel_rfl) rfl ?_; intro K hK; go_simp; refine hK _ _ ?_ ?_ <;> clear hK K; rotate_left; intro hS; rotate_left
  · constructor <;> go_simp
  clear hS
  refine AnyBut.one (i := 8) rfl (by kernel_rfl) rfl ?_; intro K hKK
  refine op_append_own2 _ _ 22 rfl 3 _ 1 8 Tryz.underlying22 info_int rfl (by decide) lo (.slice (some ⟨ib, 0, none⟩) k ic) k ids rfl (own_below I10 (by exact sBel)) w10.heap.size 0 1 1 [.int .i64 id] rfl rfl
    (by intro j v hj; rw [Nat.zero_add]; exact (Block.cell (btop (cs := [.int .i64 id]) rfl) j).trans hj) (by intro u hu; simp at hu; subst hu; rfl) (by omega) (by unfold maxLen; omega) (by omega) (by simp; omega) ?_
  intro g2 c2 w11 hg2 hc2 hgn O11 H11 G11
  have kp11 : Kept [ib] w10 w11 := ((Kept.refl _ _).alloc _).drew.trans (Kept.of_grown (X := [ib]) (by simpa [Value.ownBlock] using G11) (by simp)) (by simp)
  have hg2' : g2 = ib ∨ w10.heap.size ≤ g2 := by rcases hgn with e | e <;> simp [Value.ownBlock] at e <;> omega
  have B11 := B10.keptX kp11 (by simpa using hbi.symm)
  have X11 := X10.keptX kp11 (by simp; omega)
  clear b0 b1 bl bf B10p x0 x1 x2 x3 x4 x5 xl xf X10p
  have B11p := B11
  obtain ⟨bl, bf, b0, b1⟩ := B11p.c2
  have X11p := X11
  obtain ⟨xl, xf, x0, x1, x2, x3, x4, x5⟩ := X11p.c6
  refine hKK _ _ ?_ ?_ <;> clear hKK K
  · exact ⟨b0, x1⟩
  intro hS
  (refine AnyBut.one (i := 9) rfl (by kernel_rfl) rfl ?_; intro K hK; go_simp; refine hK _ _ hS ?_; clear hK K; intro _); (refine AnyBut.one (i := 10) rfl (by kernel_rfl) rfl ?_; intro K hK; go_simp; refine hK _ _ hS ?_; clear hK K; intro _)
  clear hS
  refine AnyBut.last rfl (by kernel_rfl) rfl (by kernel_rfl) ?_; intro K hK; go_simp; refine hK _ _ ?_; clear hK K
  go_upto_region 19 with (fail)
  have z11 := kp11.size
  have hbk : w5.heap.size ≠ ib := by omega
  refine at_code (fun W => Kept [bb, ib] w10 W ∧ Block W bb 137 [.slice (some ⟨g2, 0, none⟩) (k + 1) c2, .map (some m)] ∧ W.ownsRow lo 3 1 (.slice (some ⟨g2, 0, none⟩) (k + 1) c2) (k + 1) (ids ++ [.int .i64 id])) ⟨(kp11.mono (by simp)).set (by simp) _, B11.set 0 _, own_set O11 (own_ne_block O11 B11 (by decide)) _⟩ ?_
  clear b0 b1 bl bf B11p x0 x1 x2 x3 x4 x5 xl xf X11p B11 X11 kp11 O11 H11 G11
  rintro w12 ⟨kp12, B12, O12⟩
  have X12 := X10.keptX kp12 (by simp; omega)
  have K12 := K10.keptX kp12 (by simp; omega)
  have L12 := L10.keptX kp12 (by simp; omega)
  have G12 := G10.keptX kp12 (by simp; omega)
  have M12 := M10.keptX kp12 (by simp; omega)
  have kq12 : Kept [bb, m, ib, gb] w w12 := (kp10.mono (by simp)).trans kp12 (by simp)
  have z12 := kp12.size
  obtain ⟨w13, hup, M13, Gr⟩ := book_upd (b := w5.heap.size) (MapAt.drew M12) hid
  replace Gr : w12.grownBy w13 (some m) := ⟨Gr.os, Gr.tape, Gr.output, Gr.size, Gr.block⟩
  have B12p := B12
  obtain ⟨bl, bf, b0, b1⟩ := B12p.c2
  have X12p := X12
  obtain ⟨xl, xf, x0, x1, x2, x3, x4, x5⟩ := X12p.c6
  refine AnyBut.region (S := fun w' => w'.cell? ⟨bb, 1, none⟩ = some (.map (some m)) ∧ w'.cell? ⟨w.heap.size, 1, none⟩ = some (.int .i64 id)) (t := 7) 8 rfl (by kernel_rfl) ?_ ?_
  · exact ⟨b1, x1⟩
  intro hS
  refine AnyBut.tk 0 hS rfl (h := ?_); refine AnyBut.tk 1 hS rfl (h := ?_); refine AnyBut.tk 2 hS rfl (h := ?_); refine AnyBut.tk 3 hS rfl (h := ?_); refine AnyBut.tk 4 hS rfl (h := ?_); refine AnyBut.tk 5 hS rfl (h := ?_); refine AnyBut.tk 6 hS rfl (h := ?_)
  clear hS
  refine AnyBut.last rfl (by kernel_rfl) rfl (by kernel_rfl) ?_; intro K hK; go_simp; refine hK _ _ ?_; clear hK K
  clear hup b0 b1 bl bf x0 x1 x2 x3 x4 x5 xl xf B12p X12p
  have kq13 : Kept [bb, m, ib, gb] w w13 := kq12.trans (Kept.of_grown (X := [m]) Gr (by simp)) (by simp)
  have B13 := B12.grown Gr (by simpa using hbm)
  have X13 := X12.grown Gr (by simp; omega)
  have K13 := K12.grown Gr (by simp; omega)
  have L13 := L12.grown Gr (by simp; omega)
  have G13 := G12.grown Gr (by simpa using hmg.symm)
  have O13 := own_grown O12 Gr (by have := own_ne_map O12 M12; simpa using this)
  obtain ⟨xl, xf, x0, x1, x2, x3, x4, x5⟩ := X13.c6
  go_wp2_with fail
  refine (lines_book bb m w5.heap.size lb lc x r (backF t n back (back + x)) _ (l ++ [(id, w5.heap.size)]) id _ w13 B13 M13 (by simp) (hnd _) K13 rfl L13).mono ?_
  rintro e w14 ⟨g, c', rfl, hg, hc', HG, hb14⟩
  go_wp2_with fail
  go_returns
  have z13 := kq13.size
  exact ⟨g, c', w5.heap.size, ga, ca, lb, lc, g2, c2, rfl, hc', ⟨by omega, by omega, by omega, by omega⟩, HG, B13.call hb14, own_below O13 hb14, M13.call hb14, K13.call hb14, L13.call hb14, G13.call hb14, kq13.behind hb14⟩
end Go.Proofs.YthmhdaefkhcenaaGreatDoor
