/- Lemmas for it; no condition: TCfr6 TCfg3 TCfg4. -/
import Derived.Test.YthmhdaefkhcenaaGreatDoorZ08
import Derived.Test.YthmhdaefkhcenaaGreatDoorZ17
import Derived.Test.YthmhdaefkhcenaaGreatDoorZ18
set_option linter.unusedVariables false
set_option linter.unusedSimpArgs false
namespace Go.Proofs.YthmhdaefkhcenaaGreatDoor
open Go.RowKit Go.Lib

theorem info_point : (Tryz.prog.info? 46).map (fun i => (i.zero, i.size, i.bytes)) = some (some (.agg #[.int .i64 0, .int .i64 0]), 2, 16) := by kernel_rfl
set_option maxRecDepth 100000 in
set_option maxHeartbeats 8000000 in
theorem list4_point_r (x0 y0 x1 y1 x2 y2 x3 y3 : Int) (qb p i R : Nat) (tp : TypeId) (cs : List Value) (A : Option Addr) (c : Nat) (xs l : List Int) (B : Nat) (w : World) (h : RdL w R A c xs (4 :: x0 :: y0 :: x1 :: y1 :: x2 :: y2 :: x3 :: y3 :: l) B) (hx0 : I64r x0) (hy0 : I64r y0) (hx1 : I64r x1) (hy1 : I64r y1) (hx2 : I64r x2) (hy2 : I64r y2) (hx3 : I64r x3) (hy3 : I64r y3) (hq : Block w qb 275 [.pointer (some ⟨R, 0, none⟩)]) (hqR : qb ≠ R) (hqp : qb ≠ p)
    (hP : Block w p tp cs) (hi : cs[i]? = some (.slice none 0 0)) (hpR : p ≠ R) (hBp : B ≤ p) :
    Calls Tryz.prog 171 #[.iface 273 (.pointer (some ⟨qb, 0, none⟩)), .pointer (some ⟨p, i, none⟩), (.func (.func 140) #[] #[])] w fun e w' => e = .returned (.tuple #[]) ∧ RdL w' R A c xs l B ∧ Kept [R, p] w w' ∧ ∃ g cg, Block w' p tp (cs.set i (.slice (some ⟨g, 0, none⟩) 4 cg)) ∧ 4 ≤ cg ∧ w.heap.size ≤ g ∧ Has w' g [.int .i64 x0, .int .i64 y0, .int .i64 x1, .int .i64 y1, .int .i64 x2, .int .i64 y2, .int .i64 x3, .int .i64 y3] := by
  have hna := nil_count_r
  have hpl := hP.lt
  have hql := hq.lt
  have hRl := h.lt
  have c0 : w.cell? ⟨p, i, none⟩ = some (.slice none 0 0) := by rw [hP.cell]; exact hi
  have hil : i < cs.length := (List.getElem?_eq_some_iff.1 hi).1
  go_enter Tryz.func171, Tryz.ntmps171
  go_wp2_with fail
  refine AnyBut.region (S := fun w' => w'.cell? ⟨p, i, none⟩ = some (.slice none 0 0)) (t := 99) 10 rfl (by kernel_rfl) ?_ ?_
  · go_simp
  intro hS
  refine AnyBut.tk0 0 hS rfl (h := ?_); refine AnyBut.tk0 1 hS rfl (h := ?_); refine AnyBut.tk0 2 hS rfl (h := ?_); refine AnyBut.tk0 3 hS rfl (h := ?_); refine AnyBut.tk0 4 hS rfl (h := ?_); refine AnyBut.tk0 5 hS rfl (h := ?_); refine AnyBut.tk0 6 hS rfl (h := ?_); refine AnyBut.tk0 7 hS rfl (h := ?_)
  refine AnyBut.one (i := 8) rfl (by kernel_rfl) rfl ?_; intro K hK
  go_wp2_with fail
  refine (count_r qb R A c xs (x0 :: y0 :: x1 :: y1 :: x2 :: y2 :: x3 :: y3 :: l) 4 _ B _ (h.call (by exact sBel)) (by omega) (by omega) hq.drew).mono ?_
  rintro e u0 ⟨rfl, h0, G1⟩
  have P0 : Block u0 p tp cs := Block.grown hP.drew G1 (by simpa using hpR)
  have q0 : Block u0 qb 275 [.pointer (some ⟨R, 0, none⟩)] := Block.grown hq.drew G1 (by simpa using hqR)
  have c1 : u0.cell? ⟨p, i, none⟩ = some (.slice none 0 0) := by rw [P0.cell]; exact hi
  have K0 : Kept [R, p] w u0 := Kept.grown (Kept.drew (Kept.refl _ w)) G1 (by simp)
  refine hK _ _ c1 ?_
  clear hS c0 G1
  intro hS
  refine AnyBut.tk0 9 hS rfl (h := ?_)
  refine AnyBut.done (by kernel_rfl) ?_
  go_wp2_with fail
  refine wp_loop_rounds 5 ?_
  rw [rounds_succ]
  -- round 0
  go_wp2_with fail
  refine (fine_r qb R A c xs _ B u0 h0 q0).mono ?_
  rintro e w2 ⟨rfl, hb2⟩
  have h2 := h0.call hb2
  have P2 := P0.call hb2
  have q2 := q0.call hb2
  have ql2 := q2.lt
  have pl2 := P2.lt
  have hRl2 := h2.lt
  have K2 := K0.behind hb2
  go_wp2_with fail
  refine (place_r qb w2.heap.size 0 R 46 [.int .i64 0, .int .i64 0] A c xs (x1 :: y1 :: x2 :: y2 :: x3 :: y3 :: l) x0 y0 B _ (h2.call (by exact sBel)) hx0 hy0 (q2.alloc _) hqR (by omega) (btop rfl) (by simp) (by omega) (by have := h2.le; omega)).mono ?_
  rintro e w3 ⟨rfl, h3, D3, K3⟩
  have P3 : Block w3 p tp cs := (P2.alloc _).keptX K3 (by simp; omega)
  have q3 : Block w3 qb 275 [.pointer (some ⟨R, 0, none⟩)] := (q2.alloc _).keptX K3 (by simp; omega)
  have pl3 := P3.lt
  have ql3 := q3.lt
  have c3 : w3.cell? ⟨p, i, none⟩ = some (.slice none 0 0) := by rw [P3.cell]; first | exact hi | simp [hil]
  have f3 := P3.free
  have D4 : Block w3 w2.heap.size 46 [.int .i64 x0, .int .i64 y0] := D3
  have KB : Kept [R, p] w w3 := (K2.alloc _).trans K3 (by intro k hk; simp at hk ⊢; have := K2.size; omega)
  have zz : w2.heap.size + 1 ≤ w3.heap.size := by have := K3.size; simpa using this
  clear D3 K2 P2 hb2 h2 q2
  obtain ⟨dl, df, d0, d1⟩ := D4.c2
  have past_p := past_alloc p; have pastf_p := pastf_alloc p; have pl1_p : p < w3.heap.size + 1 := (by omega); have pl2_p : p < w3.heap.size + 1 + 1 := (by omega); have pl3_p : p < w3.heap.size + 1 + 1 + 1 := (by omega); have pl4_p : p < w3.heap.size + 1 + 1 + 1 + 1 := (by omega)
  go_wp2_with fail
  refine AnyBut.region (S := fun w' => w'.cell? ⟨p, i, none⟩ = some (.slice none 0 0) ∧ w'.cell? ⟨w2.heap.size, 0, none⟩ = some (.int .i64 x0) ∧ w'.cell? ⟨w2.heap.size, 1, none⟩ = some (.int .i64 y0)) (t := 8) 9 rfl (by kernel_rfl) ?_ ?_
  · refine ⟨?_, ?_, ?_⟩ <;> go_simp
  clear hS
  intro hS
  refine AnyBut.tk 0 hS rfl (h := ?_); refine AnyBut.tk 1 hS rfl (h := ?_); refine AnyBut.tk 2 hS rfl (h := ?_); refine AnyBut.tk 3 hS rfl (h := ?_); refine AnyBut.tk 4 hS rfl (h := ?_)
  refine AnyBut.one (i := 5) rfl (by kernel_rfl) rfl ?_; intro K hK; go_simp; refine hK _ _ ?_ ?_ <;> clear hK K; rotate_left; intro hS; rotate_left
  · refine ⟨?_, ?_, ?_⟩ <;> go_simp
  refine AnyBut.one (i := 6) rfl (by kernel_rfl) rfl ?_; intro K hK
  refine op_append_nil _ _ 82 rfl 46 _ 2 16 Tryz.underlying82 info_point rfl w3.heap.size 0 1 1 [.int .i64 x0, .int .i64 y0] rfl rfl rfl (by intro j v hj; rw [Nat.zero_add]; exact (Block.cell (Block.drew (btop (cs := [.int .i64 x0, .int .i64 y0]) (by simp))) j).trans hj) (by omega) (by unfold maxLen; omega) (by omega) ?_
  intro J k hJ hk
  refine hK _ _ ?_ ?_ <;> clear hK K; rotate_left; intro hS; rotate_left
  · refine ⟨?_, ?_, ?_⟩ <;> go_simp
  (refine AnyBut.one (i := 7) rfl (by kernel_rfl) rfl ?_; intro K hK; go_simp; refine hK _ _ hS ?_; clear hK K; intro _)
  refine AnyBut.last rfl (by kernel_rfl) rfl (by kernel_rfl) ?_; intro K hK; go_simp; refine hK _ _ ?_; clear hK K
  go_wp2_with fail
  have hbl : Below (w3.setCell ⟨p, i, none⟩ (.slice (some ⟨w3.heap.size + 1, 0, none⟩) 1 (1 + k))).heap.size (w3.setCell ⟨p, i, none⟩ (.slice (some ⟨w3.heap.size + 1, 0, none⟩) 1 (1 + k))) ((((w3.setCell ⟨p, i, none⟩ (.slice (some ⟨w3.heap.size + 1, 0, none⟩) 1 (1 + k))).alloc (.cells #[.int .i64 x0, .int .i64 y0] 46)).alloc (.cells ([.int .i64 x0, .int .i64 y0].toArray ++ J) 46))).drew.drew := by exact sBel
  obtain ⟨g1, hg1⟩ : ∃ g, w3.heap.size + 1 = g := ⟨_, rfl⟩
  obtain ⟨c1', hc1⟩ : ∃ c, 1 + k = c := ⟨_, rfl⟩
  rw [hg1, hc1] at hbl ⊢
  refine at_code (fun W => RdL W R A c xs (x1 :: y1 :: x2 :: y2 :: x3 :: y3 :: l) B ∧ Block W p tp (cs.set i (.slice (some ⟨g1, 0, none⟩) 1 c1')) ∧ Block W qb 275 [.pointer (some ⟨R, 0, none⟩)] ∧ Kept [R, p] w W ∧ W.ownsRow w.heap.size 46 2 (.slice (some ⟨g1, 0, none⟩) 1 c1') 1 [.int .i64 x0, .int .i64 y0])
    ⟨(h3.far hpR hBp _).call hbl, (P3.set i _).call hbl, (q3.far hqp _).call hbl, (KB.set (p := ⟨p, i, none⟩) (by simp) _).behind hbl, ?_⟩ ?_
  · subst hc1
    exact own_top (by simp; omega) (by have := KB.size; omega) rfl hJ (by omega)
  clear hbl hS c3 f3 P3 h3 q3 KB D4 d0 d1 dl df
  rintro u1 ⟨h1, P1, q1, K1, O1⟩
  have hcc1 : 1 ≤ c1' := by omega
  -- round 1
  go_wp2_with fail
  refine (fine_r qb R A c xs _ B u1 h1 q1).mono ?_
  rintro e w2 ⟨rfl, hb2⟩
  have h2 := h1.call hb2
  have P2 := P1.call hb2
  have q2 := q1.call hb2
  have ql2 := q2.lt
  have pl2 := P2.lt
  have hRl2 := h2.lt
  have K2 := K1.behind hb2
  have o2 := own_below O1 hb2
  have ol2 := own_lt o2
  go_wp2_with fail
  refine (place_r qb w2.heap.size 0 R 46 [.int .i64 0, .int .i64 0] A c xs (x2 :: y2 :: x3 :: y3 :: l) x1 y1 B _ (h2.call (by exact sBel)) hx1 hy1 (q2.alloc _) hqR (by omega) (btop rfl) (by simp) (by omega) (by have := h2.le; omega)).mono ?_
  rintro e w3 ⟨rfl, h3, D3, K3⟩
  have P3 : Block w3 p tp (cs.set i (.slice (some ⟨g1, 0, none⟩) 1 c1')) := (P2.alloc _).keptX K3 (by simp; omega)
  have q3 : Block w3 qb 275 [.pointer (some ⟨R, 0, none⟩)] := (q2.alloc _).keptX K3 (by simp; omega)
  have pl3 := P3.lt
  have ql3 := q3.lt
  have c3 : w3.cell? ⟨p, i, none⟩ = some (.slice (some ⟨g1, 0, none⟩) 1 c1') := by rw [P3.cell]; first | exact hi | simp [hil]
  have f3 := P3.free
  have D4 : Block w3 w2.heap.size 46 [.int .i64 x1, .int .i64 y1] := D3
  have KB : Kept [R, p] w w3 := (K2.alloc _).trans K3 (by intro k hk; simp at hk ⊢; have := K2.size; omega)
  have zz : w2.heap.size + 1 ≤ w3.heap.size := by have := K3.size; simpa using this
  have o3 := own_kept (own_below o2 (Below.alloc (Below.refl _ _) (Nat.le_refl _) (.cells #[.int .i64 0, .int .i64 0] 46))) K3 (by simp; omega)
  have ol3 := own_lt o3
  clear D3 K2 P2 hb2 h2 q2
  obtain ⟨dl, df, d0, d1⟩ := D4.c2
  have past_p := past_alloc p; have pastf_p := pastf_alloc p; have pl1_p : p < w3.heap.size + 1 := (by omega); have pl2_p : p < w3.heap.size + 1 + 1 := (by omega); have pl3_p : p < w3.heap.size + 1 + 1 + 1 := (by omega); have pl4_p : p < w3.heap.size + 1 + 1 + 1 + 1 := (by omega)
  go_wp2_with fail
  refine AnyBut.region (S := fun w' => w'.cell? ⟨p, i, none⟩ = some (.slice (some ⟨g1, 0, none⟩) 1 c1') ∧ w'.cell? ⟨w2.heap.size, 0, none⟩ = some (.int .i64 x1) ∧ w'.cell? ⟨w2.heap.size, 1, none⟩ = some (.int .i64 y1)) (t := 8) 9 rfl (by kernel_rfl) ?_ ?_
  · refine ⟨?_, ?_, ?_⟩ <;> go_simp
  clear hS
  intro hS
  refine AnyBut.tk 0 hS rfl (h := ?_); refine AnyBut.tk 1 hS rfl (h := ?_); refine AnyBut.tk 2 hS rfl (h := ?_); refine AnyBut.tk 3 hS rfl (h := ?_); refine AnyBut.tk 4 hS rfl (h := ?_)
  refine AnyBut.one (i := 5) rfl (by kernel_rfl) rfl ?_; intro K hK; go_simp; refine hK _ _ ?_ ?_ <;> clear hK K; rotate_left; intro hS; rotate_left
  · refine ⟨?_, ?_, ?_⟩ <;> go_simp
  refine AnyBut.one (i := 6) rfl (by kernel_rfl) rfl ?_; intro K hK
  refine op_append_own _ _ 82 rfl 46 _ 2 16 Tryz.underlying82 info_point rfl (by omega) w.heap.size _ 1 [.int .i64 x0, .int .i64 y0] rfl (own_below o3 (by exact sBel)) w3.heap.size 0 1 1 [.int .i64 x1, .int .i64 y1] rfl rfl (by intro j v hj; rw [Nat.zero_add]; exact (Block.cell (Block.drew (btop (cs := [.int .i64 x1, .int .i64 y1]) (by simp))) j).trans hj) (by intro u hu; simp at hu; rcases hu with rfl | rfl <;> rfl) (by omega) (by unfold maxLen; omega) (by omega) (by have := KB.size; simp; omega) ?_
  intro g2 c2' W4 hgb hcc2 O4 H4 G4
  have K4 : Kept [g1] w3 W4 := ((Kept.drew (Kept.refl _ w3)).alloc _).grown G4 (by simp)
  have P4 : Block W4 p tp (cs.set i (.slice (some ⟨g1, 0, none⟩) 1 c1')) := P3.keptX K4 (by simp; omega)
  have p4 : W4.cell? ⟨p, i, none⟩ = some (.slice (some ⟨g1, 0, none⟩) 1 c1') := by rw [P4.cell]; first | exact hi | simp [hil]
  have f4 := P4.free
  have D5 := D4.keptX K4 (by simp; omega)
  have x4 : W4.cell? ⟨w2.heap.size, 0, none⟩ = some (.int .i64 x1) := D5.cell 0
  have y4 : W4.cell? ⟨w2.heap.size, 1, none⟩ = some (.int .i64 y1) := D5.cell 1
  refine hK _ _ ⟨p4, x4, y4⟩ ?_
  clear hS
  intro hS
  (refine AnyBut.one (i := 7) rfl (by kernel_rfl) rfl ?_; intro K hK; go_simp; refine hK _ _ hS ?_; clear hK K; intro _)
  refine AnyBut.last rfl (by kernel_rfl) rfl (by kernel_rfl) ?_; intro K hK; go_simp; refine hK _ _ ?_; clear hK K
  go_wp2_with fail
  refine at_code (fun W => RdL W R A c xs (x2 :: y2 :: x3 :: y3 :: l) B ∧ Block W p tp (cs.set i (.slice (some ⟨g2, 0, none⟩) 2 c2')) ∧ Block W qb 275 [.pointer (some ⟨R, 0, none⟩)] ∧ Kept [R, p] w W ∧ W.ownsRow w.heap.size 46 2 (.slice (some ⟨g2, 0, none⟩) 2 c2') 2 [.int .i64 x0, .int .i64 y0, .int .i64 x1, .int .i64 y1])
    ⟨((h3.keptX K4 (by simp; omega) (by simp; have := h.le; omega)).far hpR hBp _), by simpa using P4.set i (.slice (some ⟨g2, 0, none⟩) 2 c2'), (q3.keptX K4 (by simp; omega)).far hqp _, (KB.trans K4 (by intro k hk; simp at hk; omega)).set (p := ⟨p, i, none⟩) (by simp) _, own_far O4 (by simpa using hpl) _⟩ ?_
  clear hS c3 f3 P3 h3 q3 KB D4 d0 d1 dl df K4 P4 p4 f4 D5 x4 y4 O4 H4 G4 o2 o3 ol2 ol3
  rintro u2 ⟨h2, P2, q2, K2, O2⟩
  -- round 2
  go_wp2_with fail
  refine (fine_r qb R A c xs _ B u2 h2 q2).mono ?_
  rintro e w2 ⟨rfl, hb2⟩
  have h2 := h2.call hb2
  have P2 := P2.call hb2
  have q2 := q2.call hb2
  have ql2 := q2.lt
  have pl2 := P2.lt
  have hRl2 := h2.lt
  have K2 := K2.behind hb2
  have o2 := own_below O2 hb2
  have ol2 := own_lt o2
  go_wp2_with fail
  refine (place_r qb w2.heap.size 0 R 46 [.int .i64 0, .int .i64 0] A c xs (x3 :: y3 :: l) x2 y2 B _ (h2.call (by exact sBel)) hx2 hy2 (q2.alloc _) hqR (by omega) (btop rfl) (by simp) (by omega) (by have := h2.le; omega)).mono ?_
  rintro e w3 ⟨rfl, h3, D3, K3⟩
  have P3 : Block w3 p tp (cs.set i (.slice (some ⟨g2, 0, none⟩) 2 c2')) := (P2.alloc _).keptX K3 (by simp; omega)
  have q3 : Block w3 qb 275 [.pointer (some ⟨R, 0, none⟩)] := (q2.alloc _).keptX K3 (by simp; omega)
  have pl3 := P3.lt
  have ql3 := q3.lt
  have c3 : w3.cell? ⟨p, i, none⟩ = some (.slice (some ⟨g2, 0, none⟩) 2 c2') := by rw [P3.cell]; first | exact hi | simp [hil]
  have f3 := P3.free
  have D4 : Block w3 w2.heap.size 46 [.int .i64 x2, .int .i64 y2] := D3
  have KB : Kept [R, p] w w3 := (K2.alloc _).trans K3 (by intro k hk; simp at hk ⊢; have := K2.size; omega)
  have zz : w2.heap.size + 1 ≤ w3.heap.size := by have := K3.size; simpa using this
  have o3 := own_kept (own_below o2 (Below.alloc (Below.refl _ _) (Nat.le_refl _) (.cells #[.int .i64 0, .int .i64 0] 46))) K3 (by simp; omega)
  have ol3 := own_lt o3
  clear D3 K2 P2 hb2 h2 q2
  obtain ⟨dl, df, d0, d1⟩ := D4.c2
  have past_p := past_alloc p; have pastf_p := pastf_alloc p; have pl1_p : p < w3.heap.size + 1 := (by omega); have pl2_p : p < w3.heap.size + 1 + 1 := (by omega); have pl3_p : p < w3.heap.size + 1 + 1 + 1 := (by omega); have pl4_p : p < w3.heap.size + 1 + 1 + 1 + 1 := (by omega)
  go_wp2_with fail
  refine AnyBut.region (S := fun w' => w'.cell? ⟨p, i, none⟩ = some (.slice (some ⟨g2, 0, none⟩) 2 c2') ∧ w'.cell? ⟨w2.heap.size, 0, none⟩ = some (.int .i64 x2) ∧ w'.cell? ⟨w2.heap.size, 1, none⟩ = some (.int .i64 y2)) (t := 8) 9 rfl (by kernel_rfl) ?_ ?_
  · refine ⟨?_, ?_, ?_⟩ <;> go_simp
  clear hS
  intro hS
  refine AnyBut.tk 0 hS rfl (h := ?_); refine AnyBut.tk 1 hS rfl (h := ?_); refine AnyBut.tk 2 hS rfl (h := ?_); refine AnyBut.tk 3 hS rfl (h := ?_); refine AnyBut.tk 4 hS rfl (h := ?_)
  refine AnyBut.one (i := 5) rfl (by kernel_rfl) rfl ?_; intro K hK; go_simp; refine hK _ _ ?_ ?_ <;> clear hK K; rotate_left; intro hS; rotate_left
  · refine ⟨?_, ?_, ?_⟩ <;> go_simp
  refine AnyBut.one (i := 6) rfl (by kernel_rfl) rfl ?_; intro K hK
  refine op_append_own _ _ 82 rfl 46 _ 2 16 Tryz.underlying82 info_point rfl (by omega) w.heap.size _ 2 [.int .i64 x0, .int .i64 y0, .int .i64 x1, .int .i64 y1] rfl (own_below o3 (by exact sBel)) w3.heap.size 0 1 1 [.int .i64 x2, .int .i64 y2] rfl rfl (by intro j v hj; rw [Nat.zero_add]; exact (Block.cell (Block.drew (btop (cs := [.int .i64 x2, .int .i64 y2]) (by simp))) j).trans hj) (by intro u hu; simp at hu; rcases hu with rfl | rfl <;> rfl) (by omega) (by unfold maxLen; omega) (by omega) (by have := KB.size; simp; omega) ?_
  intro g3 c3' W4 hgb hcc3 O4 H4 G4
  have K4 : Kept [g2] w3 W4 := ((Kept.drew (Kept.refl _ w3)).alloc _).grown G4 (by simp)
  have P4 : Block W4 p tp (cs.set i (.slice (some ⟨g2, 0, none⟩) 2 c2')) := P3.keptX K4 (by simp; omega)
  have p4 : W4.cell? ⟨p, i, none⟩ = some (.slice (some ⟨g2, 0, none⟩) 2 c2') := by rw [P4.cell]; first | exact hi | simp [hil]
  have f4 := P4.free
  have D5 := D4.keptX K4 (by simp; omega)
  have x4 : W4.cell? ⟨w2.heap.size, 0, none⟩ = some (.int .i64 x2) := D5.cell 0
  have y4 : W4.cell? ⟨w2.heap.size, 1, none⟩ = some (.int .i64 y2) := D5.cell 1
  refine hK _ _ ⟨p4, x4, y4⟩ ?_
  clear hS
  intro hS
  (refine AnyBut.one (i := 7) rfl (by kernel_rfl) rfl ?_; intro K hK; go_simp; refine hK _ _ hS ?_; clear hK K; intro _)
  refine AnyBut.last rfl (by kernel_rfl) rfl (by kernel_rfl) ?_; intro K hK; go_simp; refine hK _ _ ?_; clear hK K
  go_wp2_with fail
  refine at_code (fun W => RdL W R A c xs (x3 :: y3 :: l) B ∧ Block W p tp (cs.set i (.slice (some ⟨g3, 0, none⟩) 3 c3')) ∧ Block W qb 275 [.pointer (some ⟨R, 0, none⟩)] ∧ Kept [R, p] w W ∧ W.ownsRow w.heap.size 46 2 (.slice (some ⟨g3, 0, none⟩) 3 c3') 3 [.int .i64 x0, .int .i64 y0, .int .i64 x1, .int .i64 y1, .int .i64 x2, .int .i64 y2])
    ⟨((h3.keptX K4 (by simp; omega) (by simp; have := h.le; omega)).far hpR hBp _), by simpa using P4.set i (.slice (some ⟨g3, 0, none⟩) 3 c3'), (q3.keptX K4 (by simp; omega)).far hqp _, (KB.trans K4 (by intro k hk; simp at hk; omega)).set (p := ⟨p, i, none⟩) (by simp) _, own_far O4 (by simpa using hpl) _⟩ ?_
  clear hS c3 f3 P3 h3 q3 KB D4 d0 d1 dl df K4 P4 p4 f4 D5 x4 y4 O4 H4 G4 o2 o3 ol2 ol3
  rintro u3 ⟨h3, P3, q3, K3, O3⟩
  -- round 3
  go_wp2_with fail
  refine (fine_r qb R A c xs _ B u3 h3 q3).mono ?_
  rintro e w2 ⟨rfl, hb2⟩
  have h2 := h3.call hb2
  have P2 := P3.call hb2
  have q2 := q3.call hb2
  have ql2 := q2.lt
  have pl2 := P2.lt
  have hRl2 := h2.lt
  have K2 := K3.behind hb2
  have o2 := own_below O3 hb2
  have ol2 := own_lt o2
  go_wp2_with fail
  refine (place_r qb w2.heap.size 0 R 46 [.int .i64 0, .int .i64 0] A c xs (l) x3 y3 B _ (h2.call (by exact sBel)) hx3 hy3 (q2.alloc _) hqR (by omega) (btop rfl) (by simp) (by omega) (by have := h2.le; omega)).mono ?_
  rintro e w3 ⟨rfl, h3, D3, K3⟩
  have P3 : Block w3 p tp (cs.set i (.slice (some ⟨g3, 0, none⟩) 3 c3')) := (P2.alloc _).keptX K3 (by simp; omega)
  have q3 : Block w3 qb 275 [.pointer (some ⟨R, 0, none⟩)] := (q2.alloc _).keptX K3 (by simp; omega)
  have pl3 := P3.lt
  have ql3 := q3.lt
  have c3 : w3.cell? ⟨p, i, none⟩ = some (.slice (some ⟨g3, 0, none⟩) 3 c3') := by rw [P3.cell]; first | exact hi | simp [hil]
  have f3 := P3.free
  have D4 : Block w3 w2.heap.size 46 [.int .i64 x3, .int .i64 y3] := D3
  have KB : Kept [R, p] w w3 := (K2.alloc _).trans K3 (by intro k hk; simp at hk ⊢; have := K2.size; omega)
  have zz : w2.heap.size + 1 ≤ w3.heap.size := by have := K3.size; simpa using this
  have o3 := own_kept (own_below o2 (Below.alloc (Below.refl _ _) (Nat.le_refl _) (.cells #[.int .i64 0, .int .i64 0] 46))) K3 (by simp; omega)
  have ol3 := own_lt o3
  clear D3 K2 P2 hb2 h2 q2
  obtain ⟨dl, df, d0, d1⟩ := D4.c2
  have past_p := past_alloc p; have pastf_p := pastf_alloc p; have pl1_p : p < w3.heap.size + 1 := (by omega); have pl2_p : p < w3.heap.size + 1 + 1 := (by omega); have pl3_p : p < w3.heap.size + 1 + 1 + 1 := (by omega); have pl4_p : p < w3.heap.size + 1 + 1 + 1 + 1 := (by omega)
  go_wp2_with fail
  refine AnyBut.region (S := fun w' => w'.cell? ⟨p, i, none⟩ = some (.slice (some ⟨g3, 0, none⟩) 3 c3') ∧ w'.cell? ⟨w2.heap.size, 0, none⟩ = some (.int .i64 x3) ∧ w'.cell? ⟨w2.heap.size, 1, none⟩ = some (.int .i64 y3)) (t := 8) 9 rfl (by kernel_rfl) ?_ ?_
  · refine ⟨?_, ?_, ?_⟩ <;> go_simp
  clear hS
  intro hS
  refine AnyBut.tk 0 hS rfl (h := ?_); refine AnyBut.tk 1 hS rfl (h := ?_); refine AnyBut.tk 2 hS rfl (h := ?_); refine AnyBut.tk 3 hS rfl (h := ?_); refine AnyBut.tk 4 hS rfl (h := ?_)
  refine AnyBut.one (i := 5) rfl (by kernel_rfl) rfl ?_; intro K hK; go_simp; refine hK _ _ ?_ ?_ <;> clear hK K; rotate_left; intro hS; rotate_left
  · refine ⟨?_, ?_, ?_⟩ <;> go_simp
  refine AnyBut.one (i := 6) rfl (by kernel_rfl) rfl ?_; intro K hK
  refine op_append_own _ _ 82 rfl 46 _ 2 16 Tryz.underlying82 info_point rfl (by omega) w.heap.size _ 3 [.int .i64 x0, .int .i64 y0, .int .i64 x1, .int .i64 y1, .int .i64 x2, .int .i64 y2] rfl (own_below o3 (by exact sBel)) w3.heap.size 0 1 1 [.int .i64 x3, .int .i64 y3] rfl rfl (by intro j v hj; rw [Nat.zero_add]; exact (Block.cell (Block.drew (btop (cs := [.int .i64 x3, .int .i64 y3]) (by simp))) j).trans hj) (by intro u hu; simp at hu; rcases hu with rfl | rfl <;> rfl) (by omega) (by unfold maxLen; omega) (by omega) (by have := KB.size; simp; omega) ?_
  intro g4 c4' W4 hgb hcc4 O4 H4 G4
  have K4 : Kept [g3] w3 W4 := ((Kept.drew (Kept.refl _ w3)).alloc _).grown G4 (by simp)
  have P4 : Block W4 p tp (cs.set i (.slice (some ⟨g3, 0, none⟩) 3 c3')) := P3.keptX K4 (by simp; omega)
  have p4 : W4.cell? ⟨p, i, none⟩ = some (.slice (some ⟨g3, 0, none⟩) 3 c3') := by rw [P4.cell]; first | exact hi | simp [hil]
  have f4 := P4.free
  have D5 := D4.keptX K4 (by simp; omega)
  have x4 : W4.cell? ⟨w2.heap.size, 0, none⟩ = some (.int .i64 x3) := D5.cell 0
  have y4 : W4.cell? ⟨w2.heap.size, 1, none⟩ = some (.int .i64 y3) := D5.cell 1
  refine hK _ _ ⟨p4, x4, y4⟩ ?_
  clear hS
  intro hS
  (refine AnyBut.one (i := 7) rfl (by kernel_rfl) rfl ?_; intro K hK; go_simp; refine hK _ _ hS ?_; clear hK K; intro _)
  refine AnyBut.last rfl (by kernel_rfl) rfl (by kernel_rfl) ?_; intro K hK; go_simp; refine hK _ _ ?_; clear hK K
  go_wp2_with fail
  refine at_code (fun W => RdL W R A c xs (l) B ∧ Block W p tp (cs.set i (.slice (some ⟨g4, 0, none⟩) 4 c4')) ∧ Block W qb 275 [.pointer (some ⟨R, 0, none⟩)] ∧ Kept [R, p] w W ∧ W.ownsRow w.heap.size 46 2 (.slice (some ⟨g4, 0, none⟩) 4 c4') 4 [.int .i64 x0, .int .i64 y0, .int .i64 x1, .int .i64 y1, .int .i64 x2, .int .i64 y2, .int .i64 x3, .int .i64 y3])
    ⟨((h3.keptX K4 (by simp; omega) (by simp; have := h.le; omega)).far hpR hBp _), by simpa using P4.set i (.slice (some ⟨g4, 0, none⟩) 4 c4'), (q3.keptX K4 (by simp; omega)).far hqp _, (KB.trans K4 (by intro k hk; simp at hk; omega)).set (p := ⟨p, i, none⟩) (by simp) _, own_far O4 (by simpa using hpl) _⟩ ?_
  clear hS c3 f3 P3 h3 q3 KB D4 d0 d1 dl df K4 P4 p4 f4 D5 x4 y4 O4 H4 G4 o2 o3 ol2 ol3
  rintro u4 ⟨h4, P4, q4, K4, O4⟩
  go_wp2_with fail
  go_end0
  obtain ⟨g, hgA, hgb, hgc, hH⟩ := own_has O4 (by omega)
  injection hgA with hgA
  injection hgA with hgA
  subst hgA
  exact ⟨rfl, h4, K4, g4, c4', P4, by omega, hgb, hH⟩
end Go.Proofs.YthmhdaefkhcenaaGreatDoor
namespace Go.Proofs.YthmhdaefkhcenaaGreatDoor
set_option maxRecDepth 100000
set_option maxHeartbeats 8000000
open Go.RowKit Go.Lib

def ItemW (wb : Nat) (w : World) (F : FuncId) (p : Addr) (v : List Int) : Prop := ∀ W ys, WrAt W wb ys → KeptW wb w W → (ys ++ bytesOf v).length ≤ 80000 →
  Calls Tryz.prog F #[.iface 107 (.pointer (some ⟨wb, 0, none⟩)), .pointer (some p)] W fun e w' => e = .returned (.tuple #[]) ∧ WrAt w' wb (ys ++ bytesOf v) ∧ KeptW wb W w'
theorem list_rule_w (wb l li : Nat) (xs : List Int) (w : World) (hW : WrAt w wb xs) (hl : ∀ W, KeptW wb w W → W.cell? ⟨l, li, none⟩ = some (.slice none 0 0)) (hb : (xs ++ bytesOf ([0])).length ≤ 80000) :
    Calls Tryz.prog 74 #[.iface 107 (.pointer (some ⟨wb, 0, none⟩)), .pointer (some ⟨l, li, none⟩), (.func (.func 75) #[] #[])] w fun e w' => e = .returned (.tuple #[]) ∧ WrAt w' wb (xs ++ bytesOf ([0])) ∧ KeptW wb w w' := by
  have hna := nil_count
  have c0 := hl w (KeptW.refl wb w)
  simp only [List.length_append] at hb
  go_enter Tryz.func74, Tryz.ntmps74
  go_wp2_with fail
  refine AnyBut.region (S := fun w' => w'.cell? ⟨l, li, none⟩ = some (.slice none 0 0)) (t := 99) 10 rfl (by kernel_rfl) ?_ ?_
  · go_simp
  intro hS
  refine AnyBut.tk0 0 hS rfl (h := ?_); refine AnyBut.tk0 1 hS rfl (h := ?_); refine AnyBut.tk0 2 hS rfl (h := ?_); refine AnyBut.tk0 3 hS rfl (h := ?_); refine AnyBut.tk0 4 hS rfl (h := ?_); refine AnyBut.tk0 5 hS rfl (h := ?_); refine AnyBut.tk0 6 hS rfl (h := ?_); refine AnyBut.tk0 7 hS rfl (h := ?_)
  refine AnyBut.one (i := 8) rfl (by kernel_rfl) rfl ?_; intro K hK
  go_wp2_with fail
  refine (count_w wb 0 xs _ (hW.call (by exact sBel)) (by unfold I64r; omega) (by omega)).mono ?_
  rintro e w1 ⟨rfl, hW1, hK1⟩
  have hQ1 : KeptW wb w w1 := KeptW.pre (by exact sBel) hW.lt hK1
  have c1 := hl w1 hQ1
  refine hK _ _ c1 ?_
  clear hS
  intro hS
  refine AnyBut.tk0 9 hS rfl (h := ?_)
  refine AnyBut.done (by kernel_rfl) ?_
  go_wp2_with fail
  refine wp_loop_rounds 1 ?_
  rw [rounds_succ]
  go_wp2_with fail
  go_end0
  refine ⟨rfl, ?_, hQ1⟩
  first | exact hW1 | (show WrAt _ wb (xs ++ bytesOf ([0])); simp only [bytesOf_append, ← List.append_assoc]; exact hW1)
theorem list_cert_w (wb l li : Nat) (xs : List Int) (w : World) (hW : WrAt w wb xs) (hl : ∀ W, KeptW wb w W → W.cell? ⟨l, li, none⟩ = some (.slice none 0 0)) (hb : (xs ++ bytesOf ([0])).length ≤ 80000) :
    Calls Tryz.prog 76 #[.iface 107 (.pointer (some ⟨wb, 0, none⟩)), .pointer (some ⟨l, li, none⟩), (.func (.func 77) #[] #[])] w fun e w' => e = .returned (.tuple #[]) ∧ WrAt w' wb (xs ++ bytesOf ([0])) ∧ KeptW wb w w' := by
  have hna := nil_count
  have c0 := hl w (KeptW.refl wb w)
  simp only [List.length_append] at hb
  go_enter Tryz.func76, Tryz.ntmps76
  go_wp2_with fail
  refine AnyBut.region (S := fun w' => w'.cell? ⟨l, li, none⟩ = some (.slice none 0 0)) (t := 99) 10 rfl (by kernel_rfl) ?_ ?_
  · go_simp
  intro hS
  refine AnyBut.tk0 0 hS rfl (h := ?_); refine AnyBut.tk0 1 hS rfl (h := ?_); refine AnyBut.tk0 2 hS rfl (h := ?_); refine AnyBut.tk0 3 hS rfl (h := ?_); refine AnyBut.tk0 4 hS rfl (h := ?_); refine AnyBut.tk0 5 hS rfl (h := ?_); refine AnyBut.tk0 6 hS rfl (h := ?_); refine AnyBut.tk0 7 hS rfl (h := ?_)
  refine AnyBut.one (i := 8) rfl (by kernel_rfl) rfl ?_; intro K hK
  go_wp2_with fail
  refine (count_w wb 0 xs _ (hW.call (by exact sBel)) (by unfold I64r; omega) (by omega)).mono ?_
  rintro e w1 ⟨rfl, hW1, hK1⟩
  have hQ1 : KeptW wb w w1 := KeptW.pre (by exact sBel) hW.lt hK1
  have c1 := hl w1 hQ1
  refine hK _ _ c1 ?_
  clear hS
  intro hS
  refine AnyBut.tk0 9 hS rfl (h := ?_)
  refine AnyBut.done (by kernel_rfl) ?_
  go_wp2_with fail
  refine wp_loop_rounds 1 ?_
  rw [rounds_succ]
  go_wp2_with fail
  go_end0
  refine ⟨rfl, ?_, hQ1⟩
  first | exact hW1 | (show WrAt _ wb (xs ++ bytesOf ([0])); simp only [bytesOf_append, ← List.append_assoc]; exact hW1)
theorem list_holiday_w (wb l li : Nat) (xs : List Int) (w : World) (hW : WrAt w wb xs) (hl : ∀ W, KeptW wb w W → W.cell? ⟨l, li, none⟩ = some (.slice none 0 0)) (hb : (xs ++ bytesOf ([0])).length ≤ 80000) :
    Calls Tryz.prog 78 #[.iface 107 (.pointer (some ⟨wb, 0, none⟩)), .pointer (some ⟨l, li, none⟩), (.func (.func 79) #[] #[])] w fun e w' => e = .returned (.tuple #[]) ∧ WrAt w' wb (xs ++ bytesOf ([0])) ∧ KeptW wb w w' := by
  have hna := nil_count
  have c0 := hl w (KeptW.refl wb w)
  simp only [List.length_append] at hb
  go_enter Tryz.func78, Tryz.ntmps78
  go_wp2_with fail
  refine AnyBut.region (S := fun w' => w'.cell? ⟨l, li, none⟩ = some (.slice none 0 0)) (t := 99) 10 rfl (by kernel_rfl) ?_ ?_
  · go_simp
  intro hS
  refine AnyBut.tk0 0 hS rfl (h := ?_); refine AnyBut.tk0 1 hS rfl (h := ?_); refine AnyBut.tk0 2 hS rfl (h := ?_); refine AnyBut.tk0 3 hS rfl (h := ?_); refine AnyBut.tk0 4 hS rfl (h := ?_); refine AnyBut.tk0 5 hS rfl (h := ?_); refine AnyBut.tk0 6 hS rfl (h := ?_); refine AnyBut.tk0 7 hS rfl (h := ?_)
  refine AnyBut.one (i := 8) rfl (by kernel_rfl) rfl ?_; intro K hK
  go_wp2_with fail
  refine (count_w wb 0 xs _ (hW.call (by exact sBel)) (by unfold I64r; omega) (by omega)).mono ?_
  rintro e w1 ⟨rfl, hW1, hK1⟩
  have hQ1 : KeptW wb w w1 := KeptW.pre (by exact sBel) hW.lt hK1
  have c1 := hl w1 hQ1
  refine hK _ _ c1 ?_
  clear hS
  intro hS
  refine AnyBut.tk0 9 hS rfl (h := ?_)
  refine AnyBut.done (by kernel_rfl) ?_
  go_wp2_with fail
  refine wp_loop_rounds 1 ?_
  rw [rounds_succ]
  go_wp2_with fail
  go_end0
  refine ⟨rfl, ?_, hQ1⟩
  first | exact hW1 | (show WrAt _ wb (xs ++ bytesOf ([0])); simp only [bytesOf_append, ← List.append_assoc]; exact hW1)
theorem list_street_w (wb l li : Nat) (xs : List Int) (w : World) (hW : WrAt w wb xs) (hl : ∀ W, KeptW wb w W → W.cell? ⟨l, li, none⟩ = some (.slice none 0 0)) (hb : (xs ++ bytesOf ([0])).length ≤ 80000) :
    Calls Tryz.prog 80 #[.iface 107 (.pointer (some ⟨wb, 0, none⟩)), .pointer (some ⟨l, li, none⟩), (.func (.func 81) #[] #[])] w fun e w' => e = .returned (.tuple #[]) ∧ WrAt w' wb (xs ++ bytesOf ([0])) ∧ KeptW wb w w' := by
  have hna := nil_count
  have c0 := hl w (KeptW.refl wb w)
  simp only [List.length_append] at hb
  go_enter Tryz.func80, Tryz.ntmps80
  go_wp2_with fail
  refine AnyBut.region (S := fun w' => w'.cell? ⟨l, li, none⟩ = some (.slice none 0 0)) (t := 99) 10 rfl (by kernel_rfl) ?_ ?_
  · go_simp
  intro hS
  refine AnyBut.tk0 0 hS rfl (h := ?_); refine AnyBut.tk0 1 hS rfl (h := ?_); refine AnyBut.tk0 2 hS rfl (h := ?_); refine AnyBut.tk0 3 hS rfl (h := ?_); refine AnyBut.tk0 4 hS rfl (h := ?_); refine AnyBut.tk0 5 hS rfl (h := ?_); refine AnyBut.tk0 6 hS rfl (h := ?_); refine AnyBut.tk0 7 hS rfl (h := ?_)
  refine AnyBut.one (i := 8) rfl (by kernel_rfl) rfl ?_; intro K hK
  go_wp2_with fail
  refine (count_w wb 0 xs _ (hW.call (by exact sBel)) (by unfold I64r; omega) (by omega)).mono ?_
  rintro e w1 ⟨rfl, hW1, hK1⟩
  have hQ1 : KeptW wb w w1 := KeptW.pre (by exact sBel) hW.lt hK1
  have c1 := hl w1 hQ1
  refine hK _ _ c1 ?_
  clear hS
  intro hS
  refine AnyBut.tk0 9 hS rfl (h := ?_)
  refine AnyBut.done (by kernel_rfl) ?_
  go_wp2_with fail
  refine wp_loop_rounds 1 ?_
  rw [rounds_succ]
  go_wp2_with fail
  go_end0
  refine ⟨rfl, ?_, hQ1⟩
  first | exact hW1 | (show WrAt _ wb (xs ++ bytesOf ([0])); simp only [bytesOf_append, ← List.append_assoc]; exact hW1)
theorem list_point_w (wb l li b cc : Nat) (v0 v1 v2 v3 : List Int) (xs : List Int) (w : World) (hW : WrAt w wb xs) (hl : ∀ W, KeptW wb w W → W.cell? ⟨l, li, none⟩ = some (.slice (some ⟨b, 0, none⟩) 4 cc)) (it0 : ItemW wb w 140 ⟨b, 0, none⟩ v0) (it1 : ItemW wb w 140 ⟨b, 2, none⟩ v1) (it2 : ItemW wb w 140 ⟨b, 4, none⟩ v2) (it3 : ItemW wb w 140 ⟨b, 6, none⟩ v3) (hb : (xs ++ bytesOf ([4] ++ v0 ++ v1 ++ v2 ++ v3)).length ≤ 80000) :
    Calls Tryz.prog 171 #[.iface 107 (.pointer (some ⟨wb, 0, none⟩)), .pointer (some ⟨l, li, none⟩), (.func (.func 140) #[] #[])] w fun e w' => e = .returned (.tuple #[]) ∧ WrAt w' wb (xs ++ bytesOf ([4] ++ v0 ++ v1 ++ v2 ++ v3)) ∧ KeptW wb w w' := by
  have hna := nil_count
  have c0 := hl w (KeptW.refl wb w)
  simp only [bytesOf_append, ← List.append_assoc, List.length_append] at hb
  go_enter Tryz.func171, Tryz.ntmps171
  go_wp2_with fail
  refine AnyBut.region (S := fun w' => w'.cell? ⟨l, li, none⟩ = some (.slice (some ⟨b, 0, none⟩) 4 cc)) (t := 99) 10 rfl (by kernel_rfl) ?_ ?_
  · go_simp
  intro hS
  refine AnyBut.tk0 0 hS rfl (h := ?_); refine AnyBut.tk0 1 hS rfl (h := ?_); refine AnyBut.tk0 2 hS rfl (h := ?_); refine AnyBut.tk0 3 hS rfl (h := ?_); refine AnyBut.tk0 4 hS rfl (h := ?_); refine AnyBut.tk0 5 hS rfl (h := ?_); refine AnyBut.tk0 6 hS rfl (h := ?_); refine AnyBut.tk0 7 hS rfl (h := ?_)
  refine AnyBut.one (i := 8) rfl (by kernel_rfl) rfl ?_; intro K hK
  go_wp2_with fail
  refine (count_w wb 4 xs _ (hW.call (by exact sBel)) (by unfold I64r; omega) (by omega)).mono ?_
  rintro e w1 ⟨rfl, hW1, hK1⟩
  have hQ1 : KeptW wb w w1 := KeptW.pre (by exact sBel) hW.lt hK1
  have c1 := hl w1 hQ1
  refine hK _ _ c1 ?_
  clear hS
  intro hS
  refine AnyBut.tk0 9 hS rfl (h := ?_)
  refine AnyBut.done (by kernel_rfl) ?_
  go_wp2_with fail
  refine wp_loop_rounds 5 ?_
  rw [rounds_succ]
  go_wp2_with fail
  refine (fine_w wb _).mono ?_
  rintro e w' ⟨rfl, rfl⟩
  go_wp2_with fail
  refine (it0 _ _ hW1 hQ1 (by simp only [List.length_append]; omega)).mono ?_
  rintro e w2 ⟨rfl, hW2, hK2⟩
  have hQ2 := hQ1.trans hK2
  go_wp2_with fail
  rw [rounds_succ]
  go_wp2_with fail
  refine (fine_w wb _).mono ?_
  rintro e w' ⟨rfl, rfl⟩
  go_wp2_with fail
  refine (it1 _ _ hW2 hQ2 (by simp only [List.length_append]; omega)).mono ?_
  rintro e w3 ⟨rfl, hW3, hK3⟩
  have hQ3 := hQ2.trans hK3
  go_wp2_with fail
  rw [rounds_succ]
  go_wp2_with fail
  refine (fine_w wb _).mono ?_
  rintro e w' ⟨rfl, rfl⟩
  go_wp2_with fail
  refine (it2 _ _ hW3 hQ3 (by simp only [List.length_append]; omega)).mono ?_
  rintro e w4 ⟨rfl, hW4, hK4⟩
  have hQ4 := hQ3.trans hK4
  go_wp2_with fail
  rw [rounds_succ]
  go_wp2_with fail
  refine (fine_w wb _).mono ?_
  rintro e w' ⟨rfl, rfl⟩
  go_wp2_with fail
  refine (it3 _ _ hW4 hQ4 (by simp only [List.length_append]; omega)).mono ?_
  rintro e w5 ⟨rfl, hW5, hK5⟩
  have hQ5 := hQ4.trans hK5
  go_wp2_with fail
  rw [rounds_succ]
  go_wp2_with fail
  go_end0
  refine ⟨rfl, ?_, hQ5⟩
  first | exact hW5 | (show WrAt _ wb (xs ++ bytesOf ([4] ++ v0 ++ v1 ++ v2 ++ v3)); simp only [bytesOf_append, ← List.append_assoc]; exact hW5)
theorem list_dated_w (wb l li b cc : Nat) (v0 : List Int) (xs : List Int) (w : World) (hW : WrAt w wb xs) (hl : ∀ W, KeptW wb w W → W.cell? ⟨l, li, none⟩ = some (.slice (some ⟨b, 0, none⟩) 1 cc)) (it0 : ItemW wb w 139 ⟨b, 0, none⟩ v0) (hb : (xs ++ bytesOf ([1] ++ v0)).length ≤ 80000) :
    Calls Tryz.prog 138 #[.iface 107 (.pointer (some ⟨wb, 0, none⟩)), .pointer (some ⟨l, li, none⟩), (.func (.func 139) #[] #[])] w fun e w' => e = .returned (.tuple #[]) ∧ WrAt w' wb (xs ++ bytesOf ([1] ++ v0)) ∧ KeptW wb w w' := by
  have hna := nil_count
  have c0 := hl w (KeptW.refl wb w)
  simp only [bytesOf_append, ← List.append_assoc, List.length_append] at hb
  go_enter Tryz.func138, Tryz.ntmps138
  go_wp2_with fail
  refine AnyBut.region (S := fun w' => w'.cell? ⟨l, li, none⟩ = some (.slice (some ⟨b, 0, none⟩) 1 cc)) (t := 99) 10 rfl (by kernel_rfl) ?_ ?_
  · go_simp
  intro hS
  refine AnyBut.tk0 0 hS rfl (h := ?_); refine AnyBut.tk0 1 hS rfl (h := ?_); refine AnyBut.tk0 2 hS rfl (h := ?_); refine AnyBut.tk0 3 hS rfl (h := ?_); refine AnyBut.tk0 4 hS rfl (h := ?_); refine AnyBut.tk0 5 hS rfl (h := ?_); refine AnyBut.tk0 6 hS rfl (h := ?_); refine AnyBut.tk0 7 hS rfl (h := ?_)
  refine AnyBut.one (i := 8) rfl (by kernel_rfl) rfl ?_; intro K hK
  go_wp2_with fail
  refine (count_w wb 1 xs _ (hW.call (by exact sBel)) (by unfold I64r; omega) (by omega)).mono ?_
  rintro e w1 ⟨rfl, hW1, hK1⟩
  have hQ1 : KeptW wb w w1 := KeptW.pre (by exact sBel) hW.lt hK1
  have c1 := hl w1 hQ1
  refine hK _ _ c1 ?_
  clear hS
  intro hS
  refine AnyBut.tk0 9 hS rfl (h := ?_)
  refine AnyBut.done (by kernel_rfl) ?_
  go_wp2_with fail
  refine wp_loop_rounds 2 ?_
  rw [rounds_succ]
  go_wp2_with fail
  refine (fine_w wb _).mono ?_
  rintro e w' ⟨rfl, rfl⟩
  go_wp2_with fail
  refine (it0 _ _ hW1 hQ1 (by simp only [List.length_append]; omega)).mono ?_
  rintro e w2 ⟨rfl, hW2, hK2⟩
  have hQ2 := hQ1.trans hK2
  go_wp2_with fail
  rw [rounds_succ]
  go_wp2_with fail
  go_end0
  refine ⟨rfl, ?_, hQ2⟩
  first | exact hW2 | (show WrAt _ wb (xs ++ bytesOf ([1] ++ v0)); simp only [bytesOf_append, ← List.append_assoc]; exact hW2)
theorem list_ring_w (wb l li b cc : Nat) (v0 : List Int) (xs : List Int) (w : World) (hW : WrAt w wb xs) (hl : ∀ W, KeptW wb w W → W.cell? ⟨l, li, none⟩ = some (.slice (some ⟨b, 0, none⟩) 1 cc)) (it0 : ItemW wb w 137 ⟨b, 0, none⟩ v0) (hb : (xs ++ bytesOf ([1] ++ v0)).length ≤ 80000) :
    Calls Tryz.prog 136 #[.iface 107 (.pointer (some ⟨wb, 0, none⟩)), .pointer (some ⟨l, li, none⟩), (.func (.func 137) #[] #[])] w fun e w' => e = .returned (.tuple #[]) ∧ WrAt w' wb (xs ++ bytesOf ([1] ++ v0)) ∧ KeptW wb w w' := by
  have hna := nil_count
  have c0 := hl w (KeptW.refl wb w)
  simp only [bytesOf_append, ← List.append_assoc, List.length_append] at hb
  go_enter Tryz.func136, Tryz.ntmps136
  go_wp2_with fail
  refine AnyBut.region (S := fun w' => w'.cell? ⟨l, li, none⟩ = some (.slice (some ⟨b, 0, none⟩) 1 cc)) (t := 99) 10 rfl (by kernel_rfl) ?_ ?_
  · go_simp
  intro hS
  refine AnyBut.tk0 0 hS rfl (h := ?_); refine AnyBut.tk0 1 hS rfl (h := ?_); refine AnyBut.tk0 2 hS rfl (h := ?_); refine AnyBut.tk0 3 hS rfl (h := ?_); refine AnyBut.tk0 4 hS rfl (h := ?_); refine AnyBut.tk0 5 hS rfl (h := ?_); refine AnyBut.tk0 6 hS rfl (h := ?_); refine AnyBut.tk0 7 hS rfl (h := ?_)
  refine AnyBut.one (i := 8) rfl (by kernel_rfl) rfl ?_; intro K hK
  go_wp2_with fail
  refine (count_w wb 1 xs _ (hW.call (by exact sBel)) (by unfold I64r; omega) (by omega)).mono ?_
  rintro e w1 ⟨rfl, hW1, hK1⟩
  have hQ1 : KeptW wb w w1 := KeptW.pre (by exact sBel) hW.lt hK1
  have c1 := hl w1 hQ1
  refine hK _ _ c1 ?_
  clear hS
  intro hS
  refine AnyBut.tk0 9 hS rfl (h := ?_)
  refine AnyBut.done (by kernel_rfl) ?_
  go_wp2_with fail
  refine wp_loop_rounds 2 ?_
  rw [rounds_succ]
  go_wp2_with fail
  refine (fine_w wb _).mono ?_
  rintro e w' ⟨rfl, rfl⟩
  go_wp2_with fail
  refine (it0 _ _ hW1 hQ1 (by simp only [List.length_append]; omega)).mono ?_
  rintro e w2 ⟨rfl, hW2, hK2⟩
  have hQ2 := hQ1.trans hK2
  go_wp2_with fail
  rw [rounds_succ]
  go_wp2_with fail
  go_end0
  refine ⟨rfl, ?_, hQ2⟩
  first | exact hW2 | (show WrAt _ wb (xs ++ bytesOf ([1] ++ v0)); simp only [bytesOf_append, ← List.append_assoc]; exact hW2)
theorem list_juris_w (wb l li b cc : Nat) (v0 : List Int) (xs : List Int) (w : World) (hW : WrAt w wb xs) (hl : ∀ W, KeptW wb w W → W.cell? ⟨l, li, none⟩ = some (.slice (some ⟨b, 0, none⟩) 1 cc)) (it0 : ItemW wb w 71 ⟨b, 0, none⟩ v0) (hb : (xs ++ bytesOf ([1] ++ v0)).length ≤ 80000) :
    Calls Tryz.prog 70 #[.iface 107 (.pointer (some ⟨wb, 0, none⟩)), .pointer (some ⟨l, li, none⟩), (.func (.func 71) #[] #[])] w fun e w' => e = .returned (.tuple #[]) ∧ WrAt w' wb (xs ++ bytesOf ([1] ++ v0)) ∧ KeptW wb w w' := by
  have hna := nil_count
  have c0 := hl w (KeptW.refl wb w)
  simp only [bytesOf_append, ← List.append_assoc, List.length_append] at hb
  go_enter Tryz.func70, Tryz.ntmps70
  go_wp2_with fail
  refine AnyBut.region (S := fun w' => w'.cell? ⟨l, li, none⟩ = some (.slice (some ⟨b, 0, none⟩) 1 cc)) (t := 99) 10 rfl (by kernel_rfl) ?_ ?_
  · go_simp
  intro hS
  refine AnyBut.tk0 0 hS rfl (h := ?_); refine AnyBut.tk0 1 hS rfl (h := ?_); refine AnyBut.tk0 2 hS rfl (h := ?_); refine AnyBut.tk0 3 hS rfl (h := ?_); refine AnyBut.tk0 4 hS rfl (h := ?_); refine AnyBut.tk0 5 hS rfl (h := ?_); refine AnyBut.tk0 6 hS rfl (h := ?_); refine AnyBut.tk0 7 hS rfl (h := ?_)
  refine AnyBut.one (i := 8) rfl (by kernel_rfl) rfl ?_; intro K hK
  go_wp2_with fail
  refine (count_w wb 1 xs _ (hW.call (by exact sBel)) (by unfold I64r; omega) (by omega)).mono ?_
  rintro e w1 ⟨rfl, hW1, hK1⟩
  have hQ1 : KeptW wb w w1 := KeptW.pre (by exact sBel) hW.lt hK1
  have c1 := hl w1 hQ1
  refine hK _ _ c1 ?_
  clear hS
  intro hS
  refine AnyBut.tk0 9 hS rfl (h := ?_)
  refine AnyBut.done (by kernel_rfl) ?_
  go_wp2_with fail
  refine wp_loop_rounds 2 ?_
  rw [rounds_succ]
  go_wp2_with fail
  refine (fine_w wb _).mono ?_
  rintro e w' ⟨rfl, rfl⟩
  go_wp2_with fail
  refine (it0 _ _ hW1 hQ1 (by simp only [List.length_append]; omega)).mono ?_
  rintro e w2 ⟨rfl, hW2, hK2⟩
  have hQ2 := hQ1.trans hK2
  go_wp2_with fail
  rw [rounds_succ]
  go_wp2_with fail
  go_end0
  refine ⟨rfl, ?_, hQ2⟩
  first | exact hW2 | (show WrAt _ wb (xs ++ bytesOf ([1] ++ v0)); simp only [bytesOf_append, ← List.append_assoc]; exact hW2)
theorem list_rated_w (wb l li b cc : Nat) (v0 : List Int) (xs : List Int) (w : World) (hW : WrAt w wb xs) (hl : ∀ W, KeptW wb w W → W.cell? ⟨l, li, none⟩ = some (.slice (some ⟨b, 0, none⟩) 1 cc)) (it0 : ItemW wb w 73 ⟨b, 0, none⟩ v0) (hb : (xs ++ bytesOf ([1] ++ v0)).length ≤ 80000) :
    Calls Tryz.prog 72 #[.iface 107 (.pointer (some ⟨wb, 0, none⟩)), .pointer (some ⟨l, li, none⟩), (.func (.func 73) #[] #[])] w fun e w' => e = .returned (.tuple #[]) ∧ WrAt w' wb (xs ++ bytesOf ([1] ++ v0)) ∧ KeptW wb w w' := by
  have hna := nil_count
  have c0 := hl w (KeptW.refl wb w)
  simp only [bytesOf_append, ← List.append_assoc, List.length_append] at hb
  go_enter Tryz.func72, Tryz.ntmps72
  go_wp2_with fail
  refine AnyBut.region (S := fun w' => w'.cell? ⟨l, li, none⟩ = some (.slice (some ⟨b, 0, none⟩) 1 cc)) (t := 99) 10 rfl (by kernel_rfl) ?_ ?_
  · go_simp
  intro hS
  refine AnyBut.tk0 0 hS rfl (h := ?_); refine AnyBut.tk0 1 hS rfl (h := ?_); refine AnyBut.tk0 2 hS rfl (h := ?_); refine AnyBut.tk0 3 hS rfl (h := ?_); refine AnyBut.tk0 4 hS rfl (h := ?_); refine AnyBut.tk0 5 hS rfl (h := ?_); refine AnyBut.tk0 6 hS rfl (h := ?_); refine AnyBut.tk0 7 hS rfl (h := ?_)
  refine AnyBut.one (i := 8) rfl (by kernel_rfl) rfl ?_; intro K hK
  go_wp2_with fail
  refine (count_w wb 1 xs _ (hW.call (by exact sBel)) (by unfold I64r; omega) (by omega)).mono ?_
  rintro e w1 ⟨rfl, hW1, hK1⟩
  have hQ1 : KeptW wb w w1 := KeptW.pre (by exact sBel) hW.lt hK1
  have c1 := hl w1 hQ1
  refine hK _ _ c1 ?_
  clear hS
  intro hS
  refine AnyBut.tk0 9 hS rfl (h := ?_)
  refine AnyBut.done (by kernel_rfl) ?_
  go_wp2_with fail
  refine wp_loop_rounds 2 ?_
  rw [rounds_succ]
  go_wp2_with fail
  refine (fine_w wb _).mono ?_
  rintro e w' ⟨rfl, rfl⟩
  go_wp2_with fail
  refine (it0 _ _ hW1 hQ1 (by simp only [List.length_append]; omega)).mono ?_
  rintro e w2 ⟨rfl, hW2, hK2⟩
  have hQ2 := hQ1.trans hK2
  go_wp2_with fail
  rw [rounds_succ]
  go_wp2_with fail
  go_end0
  refine ⟨rfl, ?_, hQ2⟩
  first | exact hW2 | (show WrAt _ wb (xs ++ bytesOf ([1] ++ v0)); simp only [bytesOf_append, ← List.append_assoc]; exact hW2)
end Go.Proofs.YthmhdaefkhcenaaGreatDoor
namespace Go.Proofs.YthmhdaefkhcenaaGreatDoor
set_option maxRecDepth 100000
set_option maxHeartbeats 8000000
open Go.RowKit Go.Lib

theorem place_item (wb p i : Nat) (x y : Int) (w : World) (hx : I64r x) (hy : I64r y) (hp : ∀ W, KeptW wb w W → W.cell? ⟨p, i, none⟩ = some (.int .i64 x) ∧ W.cell? ⟨p, i + 1, none⟩ = some (.int .i64 y)) : ItemW wb w 140 ⟨p, i, none⟩ [x, y] := fun W ys hW hK hb =>
  place_w wb p i x y ys W hW hx hy (fun W' h => hp W' (hK.trans h)) (by simp at hb; omega)
theorem day_w (wb p i : Nat) (x y : Int) (xs : List Int) (w : World) (hW : WrAt w wb xs) (hx : I64r x) (hy : I64r y) (hp : ∀ W, KeptW wb w W → W.cell? ⟨p, i, none⟩ = some (.int .i64 x) ∧ W.cell? ⟨p, i + 1, none⟩ = some (.int .i64 y)) (hb : xs.length ≤ 90000) :
    Calls Tryz.prog 139 #[.iface 107 (.pointer (some ⟨wb, 0, none⟩)), .pointer (some ⟨p, i, none⟩)] w fun e w' => e = .returned (.tuple #[]) ∧ WrAt w' wb (xs ++ bytesOf [x, y]) ∧ KeptW wb w w' := by
  have wl := hW.lt
  obtain ⟨k0, k1⟩ := hp w (KeptW.refl wb w)
  go_enter Tryz.func139, Tryz.ntmps139
  go_wp2_with fail
  refine AnyBut.region (S := fun _ => True) (t := 99) 9 rfl (by kernel_rfl) trivial ?_
  intro hS
  refine AnyBut.tk0 0 hS rfl (h := ?_); refine AnyBut.tk0 1 hS rfl (h := ?_); refine AnyBut.tk0 2 hS rfl (h := ?_); refine AnyBut.tk0 3 hS rfl (h := ?_); refine AnyBut.tk0 4 hS rfl (h := ?_); refine AnyBut.tk0 5 hS rfl (h := ?_); refine AnyBut.tk0 6 hS rfl (h := ?_)
  refine AnyBut.one (i := 7) rfl (by kernel_rfl) rfl ?_; intro K hK; go_simp; refine hK _ _ ?_ ?_ <;> clear hK K; rotate_left; intro hS; rotate_left
  · trivial
  refine AnyBut.one (i := 8) rfl (by kernel_rfl) rfl ?_; intro K hK
  go_wp2_with fail
  have hKa : ∀ W, KeptW wb ((w.alloc (.cells #[.pointer (some ⟨p, i, none⟩), .pointer (some ⟨p, i + 1, none⟩)] 161)).drew) W → KeptW wb w W := fun W h => KeptW.pre (by exact sBel) wl h
  refine (numbers_w wb w.heap.size 2 2 161 [(p, i), (p, i + 1)] [x, y] xs _ (hW.call (by exact sBel)) (by decide) (by omega) (Block.drew (btop rfl)) rfl rfl ?_ (by simp; omega)).mono ?_
  · intro j q v hq hv
    rcases j with _ | _ | j
    · simp at hq hv
      subst hq hv
      exact ⟨hx, fun W h => (hp W (hKa W h)).1⟩
    · simp at hq hv
      subst hq hv
      exact ⟨hy, fun W h => (hp W (hKa W h)).2⟩
    · simp at hq
  rintro e w1 ⟨rfl, hW1, hK1⟩
  refine hK _ _ trivial ?_
  intro _
  refine AnyBut.done (by kernel_rfl) ?_
  go_end0
  exact ⟨rfl, hW1, hKa _ hK1⟩
theorem day_item (wb p i : Nat) (x y : Int) (w : World) (hx : I64r x) (hy : I64r y) (hp : ∀ W, KeptW wb w W → W.cell? ⟨p, i, none⟩ = some (.int .i64 x) ∧ W.cell? ⟨p, i + 1, none⟩ = some (.int .i64 y)) : ItemW wb w 139 ⟨p, i, none⟩ [x, y] := fun W ys hW hK hb =>
  day_w wb p i x y ys W hW hx hy (fun W' h => hp W' (hK.trans h)) (by simp at hb; omega)
theorem ItemW.kept {wb : Nat} {w w' : World} {F : FuncId} {p : Addr} {v : List Int} (h : ItemW wb w F p v) (hk : KeptW wb w w') : ItemW wb w' F p v := fun W ys hW hK hb => h W ys hW (hk.trans hK) hb
theorem ring_item (wb l li b cc : Nat) (v0 v1 v2 v3 : List Int) (w : World) (hl : ∀ W, KeptW wb w W → W.cell? ⟨l, li, none⟩ = some (.slice (some ⟨b, 0, none⟩) 4 cc)) (it0 : ItemW wb w 140 ⟨b, 0, none⟩ v0) (it1 : ItemW wb w 140 ⟨b, 2, none⟩ v1) (it2 : ItemW wb w 140 ⟨b, 4, none⟩ v2) (it3 : ItemW wb w 140 ⟨b, 6, none⟩ v3) :
    ItemW wb w 137 ⟨l, li, none⟩ ([4] ++ v0 ++ v1 ++ v2 ++ v3) := by
  intro W ys hW hK hb
  go_enter Tryz.func137, Tryz.ntmps137
  go_wp2_with fail
  refine (list_point_w wb l li b cc v0 v1 v2 v3 ys W hW (fun W' h => hl W' (hK.trans h)) (it0.kept hK) (it1.kept hK) (it2.kept hK) (it3.kept hK) hb).mono ?_
  rintro e w1 ⟨rfl, hW1, hK1⟩
  go_wp2_with fail
  go_end0
  exact ⟨rfl, hW1, hK1⟩
theorem rated_item (wb p i b cc : Nat) (x : Int) (v : List Int) (w : World) (hx : I64r x) (hp : ∀ W, KeptW wb w W → W.cell? ⟨p, i, none⟩ = some (.int .i64 x)) (hl : ∀ W, KeptW wb w W → W.cell? ⟨p, i + 1, none⟩ = some (.slice (some ⟨b, 0, none⟩) 1 cc)) (it0 : ItemW wb w 139 ⟨b, 0, none⟩ v) :
    ItemW wb w 73 ⟨p, i, none⟩ ([x] ++ ([1] ++ v)) := by
  intro W ys hW hK hb
  have wl := hW.lt
  simp only [bytesOf_append, ← List.append_assoc, List.length_append] at hb
  go_enter Tryz.func73, Tryz.ntmps73
  go_wp2_with fail
  have hKa : ∀ W', KeptW wb (W.alloc (.cells #[.pointer (some ⟨p, i, none⟩)] 161)) W' → KeptW wb W W' := fun W' h => KeptW.pre (by exact sBel) wl h
  refine (numbers_w wb W.heap.size 1 1 161 [(p, i)] [x] ys _ (hW.call (by exact sBel)) (by decide) (by omega) (btop rfl) rfl rfl ?_ (by simp; omega)).mono ?_
  · intro j q v hq hv
    rcases j with _ | j
    · simp at hq hv
      subst hq hv
      exact ⟨hx, fun W' h => hp W' (hK.trans (hKa W' h))⟩
    · simp at hq
  rintro e w1 ⟨rfl, hW1, hK1⟩
  have hQ1 := hKa _ hK1
  go_wp2_with fail
  refine (list_dated_w wb p (i + 1) b cc v (ys ++ bytesOf [x]) w1 hW1 (fun W' h => hl W' (hK.trans (hQ1.trans h))) (it0.kept (hK.trans hQ1)) (by simp only [bytesOf_append, ← List.append_assoc, List.length_append]; omega)).mono ?_
  rintro e w2 ⟨rfl, hW2, hK2⟩
  go_wp2_with fail
  go_end0
  refine ⟨rfl, ?_, hQ1.trans hK2⟩
  show WrAt _ wb (ys ++ bytesOf ([x] ++ ([1] ++ v)))
  rw [bytesOf_append, ← List.append_assoc]
  exact hW2
theorem juris_item (wb p rb cc : Nat) (x0 x1 x2 x3 : Int) (v : List Int) (w : World) (h0 : I64r x0) (h1 : I64r x1) (h2 : I64r x2) (h3 : I64r x3) (hp : ∀ W, KeptW wb w W → W.cell? ⟨p, 0, none⟩ = some (.int .i64 x0) ∧ W.cell? ⟨p, 1, none⟩ = some (.int .i64 x1) ∧ W.cell? ⟨p, 2, none⟩ = some (.int .i64 x2) ∧ W.cell? ⟨p, 3, none⟩ = some (.int .i64 x3))
    (hl : ∀ W, KeptW wb w W → W.cell? ⟨p, 4, none⟩ = some (.slice (some ⟨rb, 0, none⟩) 1 cc)) (it0 : ItemW wb w 137 ⟨rb, 0, none⟩ v) :
    ItemW wb w 71 ⟨p, 0, none⟩ ([x0, x1, x2, x3] ++ ([1] ++ v)) := by
  intro W ys hW hQ hb
  have wl := hW.lt
  simp only [bytesOf_append, ← List.append_assoc, List.length_append] at hb
  go_enter Tryz.func71, Tryz.ntmps71
  go_wp2_with fail
  refine AnyBut.region (S := fun _ => True) (t := 99) 15 rfl (by kernel_rfl) trivial ?_
  intro hS
  refine AnyBut.tk0 0 hS rfl (h := ?_); refine AnyBut.tk0 1 hS rfl (h := ?_); refine AnyBut.tk0 2 hS rfl (h := ?_); refine AnyBut.tk0 3 hS rfl (h := ?_); refine AnyBut.tk0 4 hS rfl (h := ?_); refine AnyBut.tk0 5 hS rfl (h := ?_); refine AnyBut.tk0 6 hS rfl (h := ?_); refine AnyBut.tk0 7 hS rfl (h := ?_); refine AnyBut.tk0 8 hS rfl (h := ?_); refine AnyBut.tk0 9 hS rfl (h := ?_); refine AnyBut.tk0 10 hS rfl (h := ?_); refine AnyBut.tk0 11 hS rfl (h := ?_); refine AnyBut.tk0 12 hS rfl (h := ?_)
  refine AnyBut.one (i := 13) rfl (by kernel_rfl) rfl ?_; intro K hK; go_simp; refine hK _ _ ?_ ?_ <;> clear hK K; rotate_left; intro hS; rotate_left
  · trivial
  refine AnyBut.one (i := 14) rfl (by kernel_rfl) rfl ?_; intro K hK
  go_wp2_with fail
  have hKa : ∀ W', KeptW wb ((W.alloc (.cells #[.pointer (some ⟨p, 0, none⟩), .pointer (some ⟨p, 1, none⟩), .pointer (some ⟨p, 2, none⟩), .pointer (some ⟨p, 3, none⟩)] 161)).drew) W' → KeptW wb W W' := fun W' h => KeptW.pre (by exact sBel) wl h
  refine (numbers_w wb W.heap.size 4 4 161 [(p, 0), (p, 1), (p, 2), (p, 3)] [x0, x1, x2, x3] ys _ (hW.call (by exact sBel)) (by decide) (by omega) (Block.drew (btop rfl)) rfl rfl ?_ (by simp; omega)).mono ?_
  · intro j q v hq hv
    rcases j with _ | _ | _ | _ | j
    · simp at hq hv
      subst hq hv
      exact ⟨h0, fun W' h => (hp W' (hQ.trans (hKa W' h))).1⟩
    · simp at hq hv
      subst hq hv
      exact ⟨h1, fun W' h => (hp W' (hQ.trans (hKa W' h))).2.1⟩
    · simp at hq hv
      subst hq hv
      exact ⟨h2, fun W' h => (hp W' (hQ.trans (hKa W' h))).2.2.1⟩
    · simp at hq hv
      subst hq hv
      exact ⟨h3, fun W' h => (hp W' (hQ.trans (hKa W' h))).2.2.2⟩
    · simp at hq
  rintro e w1 ⟨rfl, hW1, hK1⟩
  have hQ1 := hKa _ hK1
  refine hK _ _ trivial ?_
  intro _
  refine AnyBut.done (by kernel_rfl) ?_
  go_wp2_with fail
  refine (list_ring_w wb p 4 rb cc v (ys ++ bytesOf [x0, x1, x2, x3]) w1 hW1 (fun W' h => hl W' (hQ.trans (hQ1.trans h))) (it0.kept (hQ.trans hQ1)) (by simp only [bytesOf_append, ← List.append_assoc, List.length_append]; omega)).mono ?_
  rintro e w2 ⟨rfl, hW2, hK2⟩
  go_wp2_with fail
  go_end0
  refine ⟨rfl, ?_, hQ1.trans hK2⟩
  show WrAt _ wb (ys ++ bytesOf ([x0, x1, x2, x3] ++ ([1] ++ v)))
  rw [bytesOf_append, ← List.append_assoc]
  exact hW2
end Go.Proofs.YthmhdaefkhcenaaGreatDoor
