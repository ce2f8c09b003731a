/- Lemmas for it; no condition: TCfr5. -/
import Derived.Test.YthmhdaefkhcenaaGreatDoorZ08
import Derived.Test.YthmhdaefkhcenaaGreatDoorZ17
set_option linter.unusedVariables false
set_option linter.unusedSimpArgs false
namespace Go.Proofs.YthmhdaefkhcenaaGreatDoor
set_option maxRecDepth 100000
set_option maxHeartbeats 8000000
open Go.RowKit Go.Lib

theorem nil_count_r (a : Addr) (w : World) : (nilAhead 807 273 (.pointer (some a)) "apportion/config.count").run Tryz.prog w = .ok (some false) w := by kernel_rfl
theorem RdL.keptX {X : List Nat} {w w' : World} {R : Nat} {A : Option Addr} {c : Nat} {xs l : List Int} {B : Nat} (h : RdL w R A c xs l B) (hK : Kept X w w') (hR : R ∉ X) (hB : ∀ k ∈ X, B ≤ k) : RdL w' R A c xs l B := by
  have hl := h.lt
  have hle := h.le
  obtain ⟨k, fa, hR1, hd⟩ := h.rd
  exact ⟨⟨k, fa, Block.keptX hR1 hK hR, hd⟩, h.sh.same fun a ha => World.cell?_of_block (hK.blk a.block (by omega) fun hm => absurd (hB _ hm) (by omega)), h.le, h.cap, h.len, h.byt⟩
structure Firm (Post : Nat → World → List Value → Prop) : Prop where
  st : ∀ n W W' cs, Post n W cs → Above n W W' → Post n W' cs
  mo : ∀ n m W cs, Post n W cs → m ≤ n → Post m W cs
theorem info_dated : (Tryz.prog.info? 78).map (fun i => (i.zero, i.size, i.bytes)) = some (some (.agg #[.int .i64 0, .int .i64 0]), 2, 16) := by kernel_rfl
theorem list1_dated_r {Post : Nat → World → List Value → Prop} (hF : Firm Post) (v : List Int) (qb p i R : Nat) (tp : TypeId) (cs : List Value) (A : Option Addr) (c : Nat) (xs l : List Int) (B : Nat) (w : World) (h : RdL w R A c xs (1 :: (v ++ l)) B) (hq : Block w qb 275 [.pointer (some ⟨R, 0, none⟩)]) (hqR : qb ≠ R) (hqp : qb ≠ p)
    (hP : Block w p tp cs) (hi : cs[i]? = some (.slice none 0 0)) (hpR : p ≠ R) (hBp : B ≤ p)
    (hit : ∀ (g : Nat) (W : World), RdL W R A c xs (v ++ l) B → Block W qb 275 [.pointer (some ⟨R, 0, none⟩)] → qb ≠ g → Block W g 78 [.int .i64 0, .int .i64 0] → g ≠ R → B ≤ g →
      Calls Tryz.prog 139 #[.iface 273 (.pointer (some ⟨qb, 0, none⟩)), .pointer (some ⟨g, 0, none⟩)] W fun e w' => e = .returned (.tuple #[]) ∧ RdL w' R A c xs l B ∧ Kept [R, g] W w' ∧ ∃ d0 d1, Block w' g 78 [d0, d1] ∧ Post W.heap.size w' [d0, d1]) :
    Calls Tryz.prog 138 #[.iface 273 (.pointer (some ⟨qb, 0, none⟩)), .pointer (some ⟨p, i, none⟩), (.func (.func 139) #[] #[])] w fun e w' => e = .returned (.tuple #[]) ∧ RdL w' R A c xs l B ∧ Kept [R, p] w w' ∧ ∃ g cg d0 d1, Block w' p tp (cs.set i (.slice (some ⟨g, 0, none⟩) 1 cg)) ∧ 1 ≤ cg ∧ w.heap.size ≤ g ∧ Has w' g [d0, d1] ∧ Post w.heap.size w' [d0, d1] := by
  have hna := nil_count_r
  have hpl := hP.lt
  have hql := hq.lt
  have c0 : w.cell? ⟨p, i, none⟩ = some (.slice none 0 0) := by rw [hP.cell]; exact hi
  go_enter Tryz.func138, Tryz.ntmps138
  go_wp2_with fail
  refine AnyBut.region (S := fun w' => w'.cell? ⟨p, i, none⟩ = some (.slice none 0 0)) (t := 99) 10 rfl (by kernel_rfl) ?_ ?_
  · go_simp
  intro hS
  refine AnyBut.tk0 0 hS rfl (h := ?_); refine AnyBut.tk0 1 hS rfl (h := ?_); refine AnyBut.tk0 2 hS rfl (h := ?_); refine AnyBut.tk0 3 hS rfl (h := ?_); refine AnyBut.tk0 4 hS rfl (h := ?_); refine AnyBut.tk0 5 hS rfl (h := ?_); refine AnyBut.tk0 6 hS rfl (h := ?_); refine AnyBut.tk0 7 hS rfl (h := ?_)
  refine AnyBut.one (i := 8) rfl (by kernel_rfl) rfl ?_; intro K hK
  go_wp2_with fail
  refine (count_r qb R A c xs (v ++ l) 1 _ B _ (h.call (by exact sBel)) (by omega) (by omega) hq.drew).mono ?_
  rintro e w1 ⟨rfl, h1, G1⟩
  have P1 : Block w1 p tp cs := Block.grown hP.drew G1 (by simpa using hpR)
  have q1 : Block w1 qb 275 [.pointer (some ⟨R, 0, none⟩)] := Block.grown hq.drew G1 (by simpa using hqR)
  have c1 : w1.cell? ⟨p, i, none⟩ = some (.slice none 0 0) := by rw [P1.cell]; exact hi
  refine hK _ _ c1 ?_
  clear hS
  intro hS
  refine AnyBut.tk0 9 hS rfl (h := ?_)
  refine AnyBut.done (by kernel_rfl) ?_
  go_wp2_with fail
  refine wp_loop_rounds 2 ?_
  rw [rounds_succ]
  go_wp2_with fail
  refine (fine_r qb R A c xs _ B w1 h1 q1).mono ?_
  rintro e w2 ⟨rfl, hb2⟩
  have h2 := h1.call hb2
  have P2 := P1.call hb2
  have q2 := q1.call hb2
  have ql2 := q2.lt
  have pl2 := P2.lt
  go_wp2_with fail
  refine (hit w2.heap.size _ (h2.call (by exact sBel)) (q2.alloc _) (by omega) (btop rfl) (by have := h2.lt; omega) (by have := h2.lt; have := h2.le; omega)).mono ?_
  rintro e w3 ⟨rfl, h3, K3, d0, d1, D4, F3⟩
  have P3 : Block w3 p tp cs := (P2.alloc _).keptX K3 (by simp; omega)
  have pl3 := P3.lt
  have c3 : w3.cell? ⟨p, i, none⟩ = some (.slice none 0 0) := by rw [P3.cell]; exact hi
  have f3 := P3.free
  obtain ⟨kl, kf, k0, k1⟩ := D4.c2
  have past_p := past_alloc p; have pastf_p := pastf_alloc p; have pl1_p : p < w3.heap.size + 1 := (by omega); have pl2_p : p < w3.heap.size + 1 + 1 := (by omega); have pl3_p : p < w3.heap.size + 1 + 1 + 1 := (by omega); have pl4_p : p < w3.heap.size + 1 + 1 + 1 + 1 := (by omega)
  go_wp2_with fail
  refine AnyBut.region (S := fun w' => w'.cell? ⟨p, i, none⟩ = some (.slice none 0 0) ∧ w'.cell? ⟨w2.heap.size, 0, none⟩ = some d0 ∧ w'.cell? ⟨w2.heap.size, 1, none⟩ = some d1) (t := 8) 9 rfl (by kernel_rfl) ?_ ?_
  · refine ⟨?_, ?_, ?_⟩ <;> go_simp
  clear hS
  intro hS
  refine AnyBut.tk 0 hS rfl (h := ?_); refine AnyBut.tk 1 hS rfl (h := ?_); refine AnyBut.tk 2 hS rfl (h := ?_); refine AnyBut.tk 3 hS rfl (h := ?_); refine AnyBut.tk 4 hS rfl (h := ?_)
  refine AnyBut.one (i := 5) rfl (by kernel_rfl) rfl ?_; intro K hK; go_simp; refine hK _ _ ?_ ?_ <;> clear hK K; rotate_left; intro hS; rotate_left
  · refine ⟨?_, ?_, ?_⟩ <;> go_simp
  refine AnyBut.one (i := 6) rfl (by kernel_rfl) rfl ?_; intro K hK
  refine op_append_nil _ _ 79 rfl 78 _ 2 16 Tryz.underlying79 info_dated rfl w3.heap.size 0 1 1 [d0, d1] rfl rfl rfl (by intro j v hj; rw [Nat.zero_add]; exact (Block.cell (Block.drew (btop (cs := [d0, d1]) (by simp))) j).trans hj) (by omega) (by unfold maxLen; omega) (by omega) ?_
  intro J k hJ hk
  refine hK _ _ ?_ ?_ <;> clear hK K; rotate_left; intro hS; rotate_left
  · refine ⟨?_, ?_, ?_⟩ <;> go_simp
  (refine AnyBut.one (i := 7) rfl (by kernel_rfl) rfl ?_; intro K hK; go_simp; refine hK _ _ hS ?_; clear hK K; intro _)
  refine AnyBut.last rfl (by kernel_rfl) rfl (by kernel_rfl) ?_; intro K hK; go_simp; refine hK _ _ ?_; clear hK K
  go_wp2_with fail
  rw [rounds_succ]
  go_wp2_with fail
  go_end0
  have z1 := G1.size
  have z2 := hb2.size
  have z3 := K3.size
  simp at z3
  have z1' : w.heap.size ≤ w1.heap.size := z1
  have hbl : Below (w3.setCell ⟨p, i, none⟩ (.slice (some ⟨w3.heap.size + 1, 0, none⟩) 1 (1 + k))).heap.size (w3.setCell ⟨p, i, none⟩ (.slice (some ⟨w3.heap.size + 1, 0, none⟩) 1 (1 + k))) ((((w3.setCell ⟨p, i, none⟩ (.slice (some ⟨w3.heap.size + 1, 0, none⟩) 1 (1 + k))).alloc (.cells #[d0, d1] 78)).alloc (.cells ([d0, d1].toArray ++ J) 78))).drew.drew := by exact sBel
  have KA : Kept [R, p] w w2 := (Kept.grown (Kept.drew (Kept.refl _ w)) G1 (by simp)).behind hb2
  have KB : Kept [R, p] w w3 := (KA.alloc _).trans K3 (by intro k hk; simp at hk ⊢; omega)
  have ab : Above (w2.heap.size + 1) w3 _ := ((Kept.refl [p] w3).set (p := ⟨p, i, none⟩) (by simp) (.slice (some ⟨w3.heap.size + 1, 0, none⟩) 1 (1 + k))).above (n := w2.heap.size + 1) (by intro k hk; simp at hk; omega)
  have ac : Above (w2.heap.size + 1) _ _ := (Kept.of_below (X := []) hbl).above (n := w2.heap.size + 1) (by simp)
  refine ⟨rfl, (h3.far hpR hBp _).call hbl, (KB.set (p := ⟨p, i, none⟩) (by simp) _).behind hbl, w3.heap.size + 1, 1 + k, d0, d1, (P3.set i _).call hbl, by omega, by omega, (has_top (news := [d0, d1]) (by simp)).drew.drew, hF.mo _ _ _ _ (hF.st _ _ _ _ (hF.st _ _ _ _ ?_ ab) ac) (by omega)⟩
  simpa using F3
theorem info_ring : (Tryz.prog.info? 82).map (fun i => (i.zero, i.size, i.bytes)) = some (some (.slice none 0 0), 1, 24) := by kernel_rfl
theorem list1_ring_r {Post : Nat → World → List Value → Prop} (hF : Firm Post) (v : List Int) (qb p i R : Nat) (tp : TypeId) (cs : List Value) (A : Option Addr) (c : Nat) (xs l : List Int) (B : Nat) (w : World) (h : RdL w R A c xs (1 :: (v ++ l)) B) (hq : Block w qb 275 [.pointer (some ⟨R, 0, none⟩)]) (hqR : qb ≠ R) (hqp : qb ≠ p)
    (hP : Block w p tp cs) (hi : cs[i]? = some (.slice none 0 0)) (hpR : p ≠ R) (hBp : B ≤ p)
    (hit : ∀ (g : Nat) (W : World), RdL W R A c xs (v ++ l) B → Block W qb 275 [.pointer (some ⟨R, 0, none⟩)] → qb ≠ g → Block W g 82 [.slice none 0 0] → g ≠ R → B ≤ g →
      Calls Tryz.prog 137 #[.iface 273 (.pointer (some ⟨qb, 0, none⟩)), .pointer (some ⟨g, 0, none⟩)] W fun e w' => e = .returned (.tuple #[]) ∧ RdL w' R A c xs l B ∧ Kept [R, g] W w' ∧ ∃ s0 n0 c0, Block w' g 82 [(.slice s0 n0 c0)] ∧ Post W.heap.size w' [(.slice s0 n0 c0)]) :
    Calls Tryz.prog 136 #[.iface 273 (.pointer (some ⟨qb, 0, none⟩)), .pointer (some ⟨p, i, none⟩), (.func (.func 137) #[] #[])] w fun e w' => e = .returned (.tuple #[]) ∧ RdL w' R A c xs l B ∧ Kept [R, p] w w' ∧ ∃ g cg s0 n0 c0, Block w' p tp (cs.set i (.slice (some ⟨g, 0, none⟩) 1 cg)) ∧ 1 ≤ cg ∧ w.heap.size ≤ g ∧ Has w' g [(.slice s0 n0 c0)] ∧ Post w.heap.size w' [(.slice s0 n0 c0)] := by
  have hna := nil_count_r
  have hpl := hP.lt
  have hql := hq.lt
  have c0 : w.cell? ⟨p, i, none⟩ = some (.slice none 0 0) := by rw [hP.cell]; exact hi
  go_enter Tryz.func136, Tryz.ntmps136
  go_wp2_with fail
  refine AnyBut.region (S := fun w' => w'.cell? ⟨p, i, none⟩ = some (.slice none 0 0)) (t := 99) 10 rfl (by kernel_rfl) ?_ ?_
  · go_simp
  intro hS
  refine AnyBut.tk0 0 hS rfl (h := ?_); refine AnyBut.tk0 1 hS rfl (h := ?_); refine AnyBut.tk0 2 hS rfl (h := ?_); refine AnyBut.tk0 3 hS rfl (h := ?_); refine AnyBut.tk0 4 hS rfl (h := ?_); refine AnyBut.tk0 5 hS rfl (h := ?_); refine AnyBut.tk0 6 hS rfl (h := ?_); refine AnyBut.tk0 7 hS rfl (h := ?_)
  refine AnyBut.one (i := 8) rfl (by kernel_rfl) rfl ?_; intro K hK
  go_wp2_with fail
  refine (count_r qb R A c xs (v ++ l) 1 _ B _ (h.call (by exact sBel)) (by omega) (by omega) hq.drew).mono ?_
  rintro e w1 ⟨rfl, h1, G1⟩
  have P1 : Block w1 p tp cs := Block.grown hP.drew G1 (by simpa using hpR)
  have q1 : Block w1 qb 275 [.pointer (some ⟨R, 0, none⟩)] := Block.grown hq.drew G1 (by simpa using hqR)
  have c1 : w1.cell? ⟨p, i, none⟩ = some (.slice none 0 0) := by rw [P1.cell]; exact hi
  refine hK _ _ c1 ?_
  clear hS
  intro hS
  refine AnyBut.tk0 9 hS rfl (h := ?_)
  refine AnyBut.done (by kernel_rfl) ?_
  go_wp2_with fail
  refine wp_loop_rounds 2 ?_
  rw [rounds_succ]
  go_wp2_with fail
  refine (fine_r qb R A c xs _ B w1 h1 q1).mono ?_
  rintro e w2 ⟨rfl, hb2⟩
  have h2 := h1.call hb2
  have P2 := P1.call hb2
  have q2 := q1.call hb2
  have ql2 := q2.lt
  have pl2 := P2.lt
  go_wp2_with fail
  refine (hit w2.heap.size _ (h2.call (by exact sBel)) (q2.alloc _) (by omega) (btop rfl) (by have := h2.lt; omega) (by have := h2.lt; have := h2.le; omega)).mono ?_
  rintro e w3 ⟨rfl, h3, K3, s0, n0, c0, D4, F3⟩
  have P3 : Block w3 p tp cs := (P2.alloc _).keptX K3 (by simp; omega)
  have pl3 := P3.lt
  have c3 : w3.cell? ⟨p, i, none⟩ = some (.slice none 0 0) := by rw [P3.cell]; exact hi
  have f3 := P3.free
  obtain ⟨kl, kf, k0⟩ := D4.c1
  have past_p := past_alloc p; have pastf_p := pastf_alloc p; have pl1_p : p < w3.heap.size + 1 := (by omega); have pl2_p : p < w3.heap.size + 1 + 1 := (by omega); have pl3_p : p < w3.heap.size + 1 + 1 + 1 := (by omega); have pl4_p : p < w3.heap.size + 1 + 1 + 1 + 1 := (by omega)
  go_wp2_with fail
  refine AnyBut.region (S := fun w' => w'.cell? ⟨p, i, none⟩ = some (.slice none 0 0) ∧ w'.cell? ⟨w2.heap.size, 0, none⟩ = some (.slice s0 n0 c0)) (t := 8) 9 rfl (by kernel_rfl) ?_ ?_
  · refine ⟨?_, ?_⟩ <;> go_simp
  clear hS
  intro hS
  refine AnyBut.tk 0 hS rfl (h := ?_); refine AnyBut.tk 1 hS rfl (h := ?_); refine AnyBut.tk 2 hS rfl (h := ?_); refine AnyBut.tk 3 hS rfl (h := ?_); refine AnyBut.tk 4 hS rfl (h := ?_)
  refine AnyBut.one (i := 5) rfl (by kernel_rfl) rfl ?_; intro K hK; go_simp; refine hK _ _ ?_ ?_ <;> clear hK K; rotate_left; intro hS; rotate_left
  · refine ⟨?_, ?_⟩ <;> go_simp
  refine AnyBut.one (i := 6) rfl (by kernel_rfl) rfl ?_; intro K hK
  refine op_append_nil _ _ 37 rfl 82 _ 1 24 Tryz.underlying37 info_ring rfl w3.heap.size 0 1 1 [(.slice s0 n0 c0)] rfl rfl rfl (by intro j v hj; rw [Nat.zero_add]; exact (Block.cell (Block.drew (btop (cs := [(.slice s0 n0 c0)]) (by simp))) j).trans hj) (by omega) (by unfold maxLen; omega) (by omega) ?_
  intro J k hJ hk
  refine hK _ _ ?_ ?_ <;> clear hK K; rotate_left; intro hS; rotate_left
  · refine ⟨?_, ?_⟩ <;> go_simp
  (refine AnyBut.one (i := 7) rfl (by kernel_rfl) rfl ?_; intro K hK; go_simp; refine hK _ _ hS ?_; clear hK K; intro _)
  refine AnyBut.last rfl (by kernel_rfl) rfl (by kernel_rfl) ?_; intro K hK; go_simp; refine hK _ _ ?_; clear hK K
  go_wp2_with fail
  rw [rounds_succ]
  go_wp2_with fail
  go_end0
  have z1 := G1.size
  have z2 := hb2.size
  have z3 := K3.size
  simp at z3
  have z1' : w.heap.size ≤ w1.heap.size := z1
  have hbl : Below (w3.setCell ⟨p, i, none⟩ (.slice (some ⟨w3.heap.size + 1, 0, none⟩) 1 (1 + k))).heap.size (w3.setCell ⟨p, i, none⟩ (.slice (some ⟨w3.heap.size + 1, 0, none⟩) 1 (1 + k))) ((((w3.setCell ⟨p, i, none⟩ (.slice (some ⟨w3.heap.size + 1, 0, none⟩) 1 (1 + k))).alloc (.cells #[(.slice s0 n0 c0)] 82)).alloc (.cells ([(.slice s0 n0 c0)].toArray ++ J) 82))).drew.drew := by exact sBel
  have KA : Kept [R, p] w w2 := (Kept.grown (Kept.drew (Kept.refl _ w)) G1 (by simp)).behind hb2
  have KB : Kept [R, p] w w3 := (KA.alloc _).trans K3 (by intro k hk; simp at hk ⊢; omega)
  have ab : Above (w2.heap.size + 1) w3 _ := ((Kept.refl [p] w3).set (p := ⟨p, i, none⟩) (by simp) (.slice (some ⟨w3.heap.size + 1, 0, none⟩) 1 (1 + k))).above (n := w2.heap.size + 1) (by intro k hk; simp at hk; omega)
  have ac : Above (w2.heap.size + 1) _ _ := (Kept.of_below (X := []) hbl).above (n := w2.heap.size + 1) (by simp)
  refine ⟨rfl, (h3.far hpR hBp _).call hbl, (KB.set (p := ⟨p, i, none⟩) (by simp) _).behind hbl, w3.heap.size + 1, 1 + k, s0, n0, c0, (P3.set i _).call hbl, by omega, by omega, (has_top (news := [(.slice s0 n0 c0)]) (by simp)).drew.drew, hF.mo _ _ _ _ (hF.st _ _ _ _ (hF.st _ _ _ _ ?_ ab) ac) (by omega)⟩
  simpa using F3
theorem info_rated : (Tryz.prog.info? 81).map (fun i => (i.zero, i.size, i.bytes)) = some (some (.agg #[.int .i64 0, .slice none 0 0]), 2, 32) := by kernel_rfl
theorem list1_rated_r {Post : Nat → World → List Value → Prop} (hF : Firm Post) (v : List Int) (qb p i R : Nat) (tp : TypeId) (cs : List Value) (A : Option Addr) (c : Nat) (xs l : List Int) (B : Nat) (w : World) (h : RdL w R A c xs (1 :: (v ++ l)) B) (hq : Block w qb 275 [.pointer (some ⟨R, 0, none⟩)]) (hqR : qb ≠ R) (hqp : qb ≠ p)
    (hP : Block w p tp cs) (hi : cs[i]? = some (.slice none 0 0)) (hpR : p ≠ R) (hBp : B ≤ p)
    (hit : ∀ (g : Nat) (W : World), RdL W R A c xs (v ++ l) B → Block W qb 275 [.pointer (some ⟨R, 0, none⟩)] → qb ≠ g → Block W g 81 [.int .i64 0, .slice none 0 0] → g ≠ R → B ≤ g →
      Calls Tryz.prog 73 #[.iface 273 (.pointer (some ⟨qb, 0, none⟩)), .pointer (some ⟨g, 0, none⟩)] W fun e w' => e = .returned (.tuple #[]) ∧ RdL w' R A c xs l B ∧ Kept [R, g] W w' ∧ ∃ d0 d1, Block w' g 81 [d0, d1] ∧ Post W.heap.size w' [d0, d1]) :
    Calls Tryz.prog 72 #[.iface 273 (.pointer (some ⟨qb, 0, none⟩)), .pointer (some ⟨p, i, none⟩), (.func (.func 73) #[] #[])] w fun e w' => e = .returned (.tuple #[]) ∧ RdL w' R A c xs l B ∧ Kept [R, p] w w' ∧ ∃ g cg d0 d1, Block w' p tp (cs.set i (.slice (some ⟨g, 0, none⟩) 1 cg)) ∧ 1 ≤ cg ∧ w.heap.size ≤ g ∧ Has w' g [d0, d1] ∧ Post w.heap.size w' [d0, d1] := by
  have hna := nil_count_r
  have hpl := hP.lt
  have hql := hq.lt
  have c0 : w.cell? ⟨p, i, none⟩ = some (.slice none 0 0) := by rw [hP.cell]; exact hi
  go_enter Tryz.func72, Tryz.ntmps72
  go_wp2_with fail
  refine AnyBut.region (S := fun w' => w'.cell? ⟨p, i, none⟩ = some (.slice none 0 0)) (t := 99) 10 rfl (by kernel_rfl) ?_ ?_
  · go_simp
  intro hS
  refine AnyBut.tk0 0 hS rfl (h := ?_); refine AnyBut.tk0 1 hS rfl (h := ?_); refine AnyBut.tk0 2 hS rfl (h := ?_); refine AnyBut.tk0 3 hS rfl (h := ?_); refine AnyBut.tk0 4 hS rfl (h := ?_); refine AnyBut.tk0 5 hS rfl (h := ?_); refine AnyBut.tk0 6 hS rfl (h := ?_); refine AnyBut.tk0 7 hS rfl (h := ?_)
  refine AnyBut.one (i := 8) rfl (by kernel_rfl) rfl ?_; intro K hK
  go_wp2_with fail
  refine (count_r qb R A c xs (v ++ l) 1 _ B _ (h.call (by exact sBel)) (by omega) (by omega) hq.drew).mono ?_
  rintro e w1 ⟨rfl, h1, G1⟩
  have P1 : Block w1 p tp cs := Block.grown hP.drew G1 (by simpa using hpR)
  have q1 : Block w1 qb 275 [.pointer (some ⟨R, 0, none⟩)] := Block.grown hq.drew G1 (by simpa using hqR)
  have c1 : w1.cell? ⟨p, i, none⟩ = some (.slice none 0 0) := by rw [P1.cell]; exact hi
  refine hK _ _ c1 ?_
  clear hS
  intro hS
  refine AnyBut.tk0 9 hS rfl (h := ?_)
  refine AnyBut.done (by kernel_rfl) ?_
  go_wp2_with fail
  refine wp_loop_rounds 2 ?_
  rw [rounds_succ]
  go_wp2_with fail
  refine (fine_r qb R A c xs _ B w1 h1 q1).mono ?_
  rintro e w2 ⟨rfl, hb2⟩
  have h2 := h1.call hb2
  have P2 := P1.call hb2
  have q2 := q1.call hb2
  have ql2 := q2.lt
  have pl2 := P2.lt
  go_wp2_with fail
  refine (hit w2.heap.size _ (h2.call (by exact sBel)) (q2.alloc _) (by omega) (btop rfl) (by have := h2.lt; omega) (by have := h2.lt; have := h2.le; omega)).mono ?_
  rintro e w3 ⟨rfl, h3, K3, d0, d1, D4, F3⟩
  have P3 : Block w3 p tp cs := (P2.alloc _).keptX K3 (by simp; omega)
  have pl3 := P3.lt
  have c3 : w3.cell? ⟨p, i, none⟩ = some (.slice none 0 0) := by rw [P3.cell]; exact hi
  have f3 := P3.free
  obtain ⟨kl, kf, k0, k1⟩ := D4.c2
  have past_p := past_alloc p; have pastf_p := pastf_alloc p; have pl1_p : p < w3.heap.size + 1 := (by omega); have pl2_p : p < w3.heap.size + 1 + 1 := (by omega); have pl3_p : p < w3.heap.size + 1 + 1 + 1 := (by omega); have pl4_p : p < w3.heap.size + 1 + 1 + 1 + 1 := (by omega)
  go_wp2_with fail
  refine AnyBut.region (S := fun w' => w'.cell? ⟨p, i, none⟩ = some (.slice none 0 0) ∧ w'.cell? ⟨w2.heap.size, 0, none⟩ = some d0 ∧ w'.cell? ⟨w2.heap.size, 1, none⟩ = some d1) (t := 8) 9 rfl (by kernel_rfl) ?_ ?_
  · refine ⟨?_, ?_, ?_⟩ <;> go_simp
  clear hS
  intro hS
  refine AnyBut.tk 0 hS rfl (h := ?_); refine AnyBut.tk 1 hS rfl (h := ?_); refine AnyBut.tk 2 hS rfl (h := ?_); refine AnyBut.tk 3 hS rfl (h := ?_); refine AnyBut.tk 4 hS rfl (h := ?_)
  refine AnyBut.one (i := 5) rfl (by kernel_rfl) rfl ?_; intro K hK; go_simp; refine hK _ _ ?_ ?_ <;> clear hK K; rotate_left; intro hS; rotate_left
  · refine ⟨?_, ?_, ?_⟩ <;> go_simp
  refine AnyBut.one (i := 6) rfl (by kernel_rfl) rfl ?_; intro K hK
  refine op_append_nil _ _ 29 rfl 81 _ 2 32 Tryz.underlying29 info_rated rfl w3.heap.size 0 1 1 [d0, d1] rfl rfl rfl (by intro j v hj; rw [Nat.zero_add]; exact (Block.cell (Block.drew (btop (cs := [d0, d1]) (by simp))) j).trans hj) (by omega) (by unfold maxLen; omega) (by omega) ?_
  intro J k hJ hk
  refine hK _ _ ?_ ?_ <;> clear hK K; rotate_left; intro hS; rotate_left
  · refine ⟨?_, ?_, ?_⟩ <;> go_simp
  (refine AnyBut.one (i := 7) rfl (by kernel_rfl) rfl ?_; intro K hK; go_simp; refine hK _ _ hS ?_; clear hK K; intro _)
  refine AnyBut.last rfl (by kernel_rfl) rfl (by kernel_rfl) ?_; intro K hK; go_simp; refine hK _ _ ?_; clear hK K
  go_wp2_with fail
  rw [rounds_succ]
  go_wp2_with fail
  go_end0
  have z1 := G1.size
  have z2 := hb2.size
  have z3 := K3.size
  simp at z3
  have z1' : w.heap.size ≤ w1.heap.size := z1
  have hbl : Below (w3.setCell ⟨p, i, none⟩ (.slice (some ⟨w3.heap.size + 1, 0, none⟩) 1 (1 + k))).heap.size (w3.setCell ⟨p, i, none⟩ (.slice (some ⟨w3.heap.size + 1, 0, none⟩) 1 (1 + k))) ((((w3.setCell ⟨p, i, none⟩ (.slice (some ⟨w3.heap.size + 1, 0, none⟩) 1 (1 + k))).alloc (.cells #[d0, d1] 81)).alloc (.cells ([d0, d1].toArray ++ J) 81))).drew.drew := by exact sBel
  have KA : Kept [R, p] w w2 := (Kept.grown (Kept.drew (Kept.refl _ w)) G1 (by simp)).behind hb2
  have KB : Kept [R, p] w w3 := (KA.alloc _).trans K3 (by intro k hk; simp at hk ⊢; omega)
  have ab : Above (w2.heap.size + 1) w3 _ := ((Kept.refl [p] w3).set (p := ⟨p, i, none⟩) (by simp) (.slice (some ⟨w3.heap.size + 1, 0, none⟩) 1 (1 + k))).above (n := w2.heap.size + 1) (by intro k hk; simp at hk; omega)
  have ac : Above (w2.heap.size + 1) _ _ := (Kept.of_below (X := []) hbl).above (n := w2.heap.size + 1) (by simp)
  refine ⟨rfl, (h3.far hpR hBp _).call hbl, (KB.set (p := ⟨p, i, none⟩) (by simp) _).behind hbl, w3.heap.size + 1, 1 + k, d0, d1, (P3.set i _).call hbl, by omega, by omega, (has_top (news := [d0, d1]) (by simp)).drew.drew, hF.mo _ _ _ _ (hF.st _ _ _ _ (hF.st _ _ _ _ ?_ ab) ac) (by omega)⟩
  simpa using F3
theorem info_juris : (Tryz.prog.info? 76).map (fun i => (i.zero, i.size, i.bytes)) = some (some (.agg #[.int .i64 0, .int .i64 0, .int .i64 0, .int .i64 0, .slice none 0 0]), 5, 56) := by kernel_rfl
theorem list1_juris_r {Post : Nat → World → List Value → Prop} (hF : Firm Post) (v : List Int) (qb p i R : Nat) (tp : TypeId) (cs : List Value) (A : Option Addr) (c : Nat) (xs l : List Int) (B : Nat) (w : World) (h : RdL w R A c xs (1 :: (v ++ l)) B) (hq : Block w qb 275 [.pointer (some ⟨R, 0, none⟩)]) (hqR : qb ≠ R) (hqp : qb ≠ p)
    (hP : Block w p tp cs) (hi : cs[i]? = some (.slice none 0 0)) (hpR : p ≠ R) (hBp : B ≤ p)
    (hit : ∀ (g : Nat) (W : World), RdL W R A c xs (v ++ l) B → Block W qb 275 [.pointer (some ⟨R, 0, none⟩)] → qb ≠ g → Block W g 76 [.int .i64 0, .int .i64 0, .int .i64 0, .int .i64 0, .slice none 0 0] → g ≠ R → B ≤ g →
      Calls Tryz.prog 71 #[.iface 273 (.pointer (some ⟨qb, 0, none⟩)), .pointer (some ⟨g, 0, none⟩)] W fun e w' => e = .returned (.tuple #[]) ∧ RdL w' R A c xs l B ∧ Kept [R, g] W w' ∧ ∃ d0 d1 d2 d3 d4, Block w' g 76 [d0, d1, d2, d3, d4] ∧ Post W.heap.size w' [d0, d1, d2, d3, d4]) :
    Calls Tryz.prog 70 #[.iface 273 (.pointer (some ⟨qb, 0, none⟩)), .pointer (some ⟨p, i, none⟩), (.func (.func 71) #[] #[])] w fun e w' => e = .returned (.tuple #[]) ∧ RdL w' R A c xs l B ∧ Kept [R, p] w w' ∧ ∃ g cg d0 d1 d2 d3 d4, Block w' p tp (cs.set i (.slice (some ⟨g, 0, none⟩) 1 cg)) ∧ 1 ≤ cg ∧ w.heap.size ≤ g ∧ Has w' g [d0, d1, d2, d3, d4] ∧ Post w.heap.size w' [d0, d1, d2, d3, d4] := by
  have hna := nil_count_r
  have hpl := hP.lt
  have hql := hq.lt
  have c0 : w.cell? ⟨p, i, none⟩ = some (.slice none 0 0) := by rw [hP.cell]; exact hi
  go_enter Tryz.func70, Tryz.ntmps70
  go_wp2_with fail
  refine AnyBut.region (S := fun w' => w'.cell? ⟨p, i, none⟩ = some (.slice none 0 0)) (t := 99) 10 rfl (by kernel_rfl) ?_ ?_
  · go_simp
  intro hS
  refine AnyBut.tk0 0 hS rfl (h := ?_); refine AnyBut.tk0 1 hS rfl (h := ?_); refine AnyBut.tk0 2 hS rfl (h := ?_); refine AnyBut.tk0 3 hS rfl (h := ?_); refine AnyBut.tk0 4 hS rfl (h := ?_); refine AnyBut.tk0 5 hS rfl (h := ?_); refine AnyBut.tk0 6 hS rfl (h := ?_); refine AnyBut.tk0 7 hS rfl (h := ?_)
  refine AnyBut.one (i := 8) rfl (by kernel_rfl) rfl ?_; intro K hK
  go_wp2_with fail
  refine (count_r qb R A c xs (v ++ l) 1 _ B _ (h.call (by exact sBel)) (by omega) (by omega) hq.drew).mono ?_
  rintro e w1 ⟨rfl, h1, G1⟩
  have P1 : Block w1 p tp cs := Block.grown hP.drew G1 (by simpa using hpR)
  have q1 : Block w1 qb 275 [.pointer (some ⟨R, 0, none⟩)] := Block.grown hq.drew G1 (by simpa using hqR)
  have c1 : w1.cell? ⟨p, i, none⟩ = some (.slice none 0 0) := by rw [P1.cell]; exact hi
  refine hK _ _ c1 ?_
  clear hS
  intro hS
  refine AnyBut.tk0 9 hS rfl (h := ?_)
  refine AnyBut.done (by kernel_rfl) ?_
  go_wp2_with fail
  refine wp_loop_rounds 2 ?_
  rw [rounds_succ]
  go_wp2_with fail
  refine (fine_r qb R A c xs _ B w1 h1 q1).mono ?_
  rintro e w2 ⟨rfl, hb2⟩
  have h2 := h1.call hb2
  have P2 := P1.call hb2
  have q2 := q1.call hb2
  have ql2 := q2.lt
  have pl2 := P2.lt
  go_wp2_with fail
  refine (hit w2.heap.size _ (h2.call (by exact sBel)) (q2.alloc _) (by omega) (btop rfl) (by have := h2.lt; omega) (by have := h2.lt; have := h2.le; omega)).mono ?_
  rintro e w3 ⟨rfl, h3, K3, d0, d1, d2, d3, d4, D4, F3⟩
  have P3 : Block w3 p tp cs := (P2.alloc _).keptX K3 (by simp; omega)
  have pl3 := P3.lt
  have c3 : w3.cell? ⟨p, i, none⟩ = some (.slice none 0 0) := by rw [P3.cell]; exact hi
  have f3 := P3.free
  obtain ⟨kl, kf, k0, k1, k2, k3, k4⟩ := D4.c5
  have past_p := past_alloc p; have pastf_p := pastf_alloc p; have pl1_p : p < w3.heap.size + 1 := (by omega); have pl2_p : p < w3.heap.size + 1 + 1 := (by omega); have pl3_p : p < w3.heap.size + 1 + 1 + 1 := (by omega); have pl4_p : p < w3.heap.size + 1 + 1 + 1 + 1 := (by omega)
  go_wp2_with fail
  refine AnyBut.region (S := fun w' => w'.cell? ⟨p, i, none⟩ = some (.slice none 0 0) ∧ w'.cell? ⟨w2.heap.size, 0, none⟩ = some d0 ∧ w'.cell? ⟨w2.heap.size, 1, none⟩ = some d1 ∧ w'.cell? ⟨w2.heap.size, 2, none⟩ = some d2 ∧ w'.cell? ⟨w2.heap.size, 3, none⟩ = some d3 ∧ w'.cell? ⟨w2.heap.size, 4, none⟩ = some d4) (t := 8) 9 rfl (by kernel_rfl) ?_ ?_
  · refine ⟨?_, ?_, ?_, ?_, ?_, ?_⟩ <;> go_simp
  clear hS
  intro hS
  refine AnyBut.tk 0 hS rfl (h := ?_); refine AnyBut.tk 1 hS rfl (h := ?_); refine AnyBut.tk 2 hS rfl (h := ?_); refine AnyBut.tk 3 hS rfl (h := ?_); refine AnyBut.tk 4 hS rfl (h := ?_)
  refine AnyBut.one (i := 5) rfl (by kernel_rfl) rfl ?_; intro K hK; go_simp; refine hK _ _ ?_ ?_ <;> clear hK K; rotate_left; intro hS; rotate_left
  · refine ⟨?_, ?_, ?_, ?_, ?_, ?_⟩ <;> go_simp
  refine AnyBut.one (i := 6) rfl (by kernel_rfl) rfl ?_; intro K hK
  refine op_append_nil _ _ 28 rfl 76 _ 5 56 Tryz.underlying28 info_juris rfl w3.heap.size 0 1 1 [d0, d1, d2, d3, d4] rfl rfl rfl (by intro j v hj; rw [Nat.zero_add]; exact (Block.cell (Block.drew (btop (cs := [d0, d1, d2, d3, d4]) (by simp))) j).trans hj) (by omega) (by unfold maxLen; omega) (by omega) ?_
  intro J k hJ hk
  refine hK _ _ ?_ ?_ <;> clear hK K; rotate_left; intro hS; rotate_left
  · refine ⟨?_, ?_, ?_, ?_, ?_, ?_⟩ <;> go_simp
  (refine AnyBut.one (i := 7) rfl (by kernel_rfl) rfl ?_; intro K hK; go_simp; refine hK _ _ hS ?_; clear hK K; intro _)
  refine AnyBut.last rfl (by kernel_rfl) rfl (by kernel_rfl) ?_; intro K hK; go_simp; refine hK _ _ ?_; clear hK K
  go_wp2_with fail
  rw [rounds_succ]
  go_wp2_with fail
  go_end0
  have z1 := G1.size
  have z2 := hb2.size
  have z3 := K3.size
  simp at z3
  have z1' : w.heap.size ≤ w1.heap.size := z1
  have hbl : Below (w3.setCell ⟨p, i, none⟩ (.slice (some ⟨w3.heap.size + 1, 0, none⟩) 1 (1 + k))).heap.size (w3.setCell ⟨p, i, none⟩ (.slice (some ⟨w3.heap.size + 1, 0, none⟩) 1 (1 + k))) ((((w3.setCell ⟨p, i, none⟩ (.slice (some ⟨w3.heap.size + 1, 0, none⟩) 1 (1 + k))).alloc (.cells #[d0, d1, d2, d3, d4] 76)).alloc (.cells ([d0, d1, d2, d3, d4].toArray ++ J) 76))).drew.drew := by exact sBel
  have KA : Kept [R, p] w w2 := (Kept.grown (Kept.drew (Kept.refl _ w)) G1 (by simp)).behind hb2
  have KB : Kept [R, p] w w3 := (KA.alloc _).trans K3 (by intro k hk; simp at hk ⊢; omega)
  have ab : Above (w2.heap.size + 1) w3 _ := ((Kept.refl [p] w3).set (p := ⟨p, i, none⟩) (by simp) (.slice (some ⟨w3.heap.size + 1, 0, none⟩) 1 (1 + k))).above (n := w2.heap.size + 1) (by intro k hk; simp at hk; omega)
  have ac : Above (w2.heap.size + 1) _ _ := (Kept.of_below (X := []) hbl).above (n := w2.heap.size + 1) (by simp)
  refine ⟨rfl, (h3.far hpR hBp _).call hbl, (KB.set (p := ⟨p, i, none⟩) (by simp) _).behind hbl, w3.heap.size + 1, 1 + k, d0, d1, d2, d3, d4, (P3.set i _).call hbl, by omega, by omega, (has_top (news := [d0, d1, d2, d3, d4]) (by simp)).drew.drew, hF.mo _ _ _ _ (hF.st _ _ _ _ (hF.st _ _ _ _ ?_ ab) ac) (by omega)⟩
  simpa using F3
theorem list0_rule_r (qb p i R : Nat) (tp : TypeId) (cs : List Value) (A : Option Addr) (c : Nat) (xs l : List Int) (B : Nat) (w : World) (h : RdL w R A c xs (0 :: l) B) (hq : Block w qb 275 [.pointer (some ⟨R, 0, none⟩)])
    (hP : Block w p tp cs) (hi : cs[i]? = some (.slice none 0 0)) (hpR : p ≠ R) :
    Calls Tryz.prog 74 #[.iface 273 (.pointer (some ⟨qb, 0, none⟩)), .pointer (some ⟨p, i, none⟩), (.func (.func 75) #[] #[])] w fun e w' => e = .returned (.tuple #[]) ∧ RdL w' R A c xs l B ∧ Kept [R] w w' := by
  have hna := nil_count_r
  have hpl := hP.lt
  have hql := hq.lt
  have c0 : w.cell? ⟨p, i, none⟩ = some (.slice none 0 0) := by rw [hP.cell]; exact hi
  go_enter Tryz.func74, Tryz.ntmps74
  go_wp2_with fail
  refine AnyBut.region (S := fun w' => w'.cell? ⟨p, i, none⟩ = some (.slice none 0 0)) (t := 99) 10 rfl (by kernel_rfl) ?_ ?_
  · go_simp
  intro hS
  refine AnyBut.tk0 0 hS rfl (h := ?_); refine AnyBut.tk0 1 hS rfl (h := ?_); refine AnyBut.tk0 2 hS rfl (h := ?_); refine AnyBut.tk0 3 hS rfl (h := ?_); refine AnyBut.tk0 4 hS rfl (h := ?_); refine AnyBut.tk0 5 hS rfl (h := ?_); refine AnyBut.tk0 6 hS rfl (h := ?_); refine AnyBut.tk0 7 hS rfl (h := ?_)
  refine AnyBut.one (i := 8) rfl (by kernel_rfl) rfl ?_; intro K hK
  go_wp2_with fail
  refine (count_r qb R A c xs l 0 _ B _ (h.call (by exact sBel)) (by omega) (by omega) hq.drew).mono ?_
  rintro e w1 ⟨rfl, h1, G1⟩
  have P1 : Block w1 p tp cs := Block.grown hP.drew G1 (by simpa using hpR)
  have c1 : w1.cell? ⟨p, i, none⟩ = some (.slice none 0 0) := by rw [P1.cell]; exact hi
  refine hK _ _ c1 ?_
  clear hS
  intro hS
  refine AnyBut.tk0 9 hS rfl (h := ?_)
  refine AnyBut.done (by kernel_rfl) ?_
  go_wp2_with fail
  refine wp_loop_rounds 1 ?_
  rw [rounds_succ]
  go_wp2_with fail
  go_end0
  exact ⟨rfl, h1, Kept.grown (Kept.drew (Kept.refl _ w)) G1 (by simp)⟩
theorem list0_cert_r (qb p i R : Nat) (tp : TypeId) (cs : List Value) (A : Option Addr) (c : Nat) (xs l : List Int) (B : Nat) (w : World) (h : RdL w R A c xs (0 :: l) B) (hq : Block w qb 275 [.pointer (some ⟨R, 0, none⟩)])
    (hP : Block w p tp cs) (hi : cs[i]? = some (.slice none 0 0)) (hpR : p ≠ R) :
    Calls Tryz.prog 76 #[.iface 273 (.pointer (some ⟨qb, 0, none⟩)), .pointer (some ⟨p, i, none⟩), (.func (.func 77) #[] #[])] w fun e w' => e = .returned (.tuple #[]) ∧ RdL w' R A c xs l B ∧ Kept [R] w w' := by
  have hna := nil_count_r
  have hpl := hP.lt
  have hql := hq.lt
  have c0 : w.cell? ⟨p, i, none⟩ = some (.slice none 0 0) := by rw [hP.cell]; exact hi
  go_enter Tryz.func76, Tryz.ntmps76
  go_wp2_with fail
  refine AnyBut.region (S := fun w' => w'.cell? ⟨p, i, none⟩ = some (.slice none 0 0)) (t := 99) 10 rfl (by kernel_rfl) ?_ ?_
  · go_simp
  intro hS
  refine AnyBut.tk0 0 hS rfl (h := ?_); refine AnyBut.tk0 1 hS rfl (h := ?_); refine AnyBut.tk0 2 hS rfl (h := ?_); refine AnyBut.tk0 3 hS rfl (h := ?_); refine AnyBut.tk0 4 hS rfl (h := ?_); refine AnyBut.tk0 5 hS rfl (h := ?_); refine AnyBut.tk0 6 hS rfl (h := ?_); refine AnyBut.tk0 7 hS rfl (h := ?_)
  refine AnyBut.one (i := 8) rfl (by kernel_rfl) rfl ?_; intro K hK
  go_wp2_with fail
  refine (count_r qb R A c xs l 0 _ B _ (h.call (by exact sBel)) (by omega) (by omega) hq.drew).mono ?_
  rintro e w1 ⟨rfl, h1, G1⟩
  have P1 : Block w1 p tp cs := Block.grown hP.drew G1 (by simpa using hpR)
  have c1 : w1.cell? ⟨p, i, none⟩ = some (.slice none 0 0) := by rw [P1.cell]; exact hi
  refine hK _ _ c1 ?_
  clear hS
  intro hS
  refine AnyBut.tk0 9 hS rfl (h := ?_)
  refine AnyBut.done (by kernel_rfl) ?_
  go_wp2_with fail
  refine wp_loop_rounds 1 ?_
  rw [rounds_succ]
  go_wp2_with fail
  go_end0
  exact ⟨rfl, h1, Kept.grown (Kept.drew (Kept.refl _ w)) G1 (by simp)⟩
theorem list0_holiday_r (qb p i R : Nat) (tp : TypeId) (cs : List Value) (A : Option Addr) (c : Nat) (xs l : List Int) (B : Nat) (w : World) (h : RdL w R A c xs (0 :: l) B) (hq : Block w qb 275 [.pointer (some ⟨R, 0, none⟩)])
    (hP : Block w p tp cs) (hi : cs[i]? = some (.slice none 0 0)) (hpR : p ≠ R) :
    Calls Tryz.prog 78 #[.iface 273 (.pointer (some ⟨qb, 0, none⟩)), .pointer (some ⟨p, i, none⟩), (.func (.func 79) #[] #[])] w fun e w' => e = .returned (.tuple #[]) ∧ RdL w' R A c xs l B ∧ Kept [R] w w' := by
  have hna := nil_count_r
  have hpl := hP.lt
  have hql := hq.lt
  have c0 : w.cell? ⟨p, i, none⟩ = some (.slice none 0 0) := by rw [hP.cell]; exact hi
  go_enter Tryz.func78, Tryz.ntmps78
  go_wp2_with fail
  refine AnyBut.region (S := fun w' => w'.cell? ⟨p, i, none⟩ = some (.slice none 0 0)) (t := 99) 10 rfl (by kernel_rfl) ?_ ?_
  · go_simp
  intro hS
  refine AnyBut.tk0 0 hS rfl (h := ?_); refine AnyBut.tk0 1 hS rfl (h := ?_); refine AnyBut.tk0 2 hS rfl (h := ?_); refine AnyBut.tk0 3 hS rfl (h := ?_); refine AnyBut.tk0 4 hS rfl (h := ?_); refine AnyBut.tk0 5 hS rfl (h := ?_); refine AnyBut.tk0 6 hS rfl (h := ?_); refine AnyBut.tk0 7 hS rfl (h := ?_)
  refine AnyBut.one (i := 8) rfl (by kernel_rfl) rfl ?_; intro K hK
  go_wp2_with fail
  refine (count_r qb R A c xs l 0 _ B _ (h.call (by exact sBel)) (by omega) (by omega) hq.drew).mono ?_
  rintro e w1 ⟨rfl, h1, G1⟩
  have P1 : Block w1 p tp cs := Block.grown hP.drew G1 (by simpa using hpR)
  have c1 : w1.cell? ⟨p, i, none⟩ = some (.slice none 0 0) := by rw [P1.cell]; exact hi
  refine hK _ _ c1 ?_
  clear hS
  intro hS
  refine AnyBut.tk0 9 hS rfl (h := ?_)
  refine AnyBut.done (by kernel_rfl) ?_
  go_wp2_with fail
  refine wp_loop_rounds 1 ?_
  rw [rounds_succ]
  go_wp2_with fail
  go_end0
  exact ⟨rfl, h1, Kept.grown (Kept.drew (Kept.refl _ w)) G1 (by simp)⟩
theorem list0_street_r (qb p i R : Nat) (tp : TypeId) (cs : List Value) (A : Option Addr) (c : Nat) (xs l : List Int) (B : Nat) (w : World) (h : RdL w R A c xs (0 :: l) B) (hq : Block w qb 275 [.pointer (some ⟨R, 0, none⟩)])
    (hP : Block w p tp cs) (hi : cs[i]? = some (.slice none 0 0)) (hpR : p ≠ R) :
    Calls Tryz.prog 80 #[.iface 273 (.pointer (some ⟨qb, 0, none⟩)), .pointer (some ⟨p, i, none⟩), (.func (.func 81) #[] #[])] w fun e w' => e = .returned (.tuple #[]) ∧ RdL w' R A c xs l B ∧ Kept [R] w w' := by
  have hna := nil_count_r
  have hpl := hP.lt
  have hql := hq.lt
  have c0 : w.cell? ⟨p, i, none⟩ = some (.slice none 0 0) := by rw [hP.cell]; exact hi
  go_enter Tryz.func80, Tryz.ntmps80
  go_wp2_with fail
  refine AnyBut.region (S := fun w' => w'.cell? ⟨p, i, none⟩ = some (.slice none 0 0)) (t := 99) 10 rfl (by kernel_rfl) ?_ ?_
  · go_simp
  intro hS
  refine AnyBut.tk0 0 hS rfl (h := ?_); refine AnyBut.tk0 1 hS rfl (h := ?_); refine AnyBut.tk0 2 hS rfl (h := ?_); refine AnyBut.tk0 3 hS rfl (h := ?_); refine AnyBut.tk0 4 hS rfl (h := ?_); refine AnyBut.tk0 5 hS rfl (h := ?_); refine AnyBut.tk0 6 hS rfl (h := ?_); refine AnyBut.tk0 7 hS rfl (h := ?_)
  refine AnyBut.one (i := 8) rfl (by kernel_rfl) rfl ?_; intro K hK
  go_wp2_with fail
  refine (count_r qb R A c xs l 0 _ B _ (h.call (by exact sBel)) (by omega) (by omega) hq.drew).mono ?_
  rintro e w1 ⟨rfl, h1, G1⟩
  have P1 : Block w1 p tp cs := Block.grown hP.drew G1 (by simpa using hpR)
  have c1 : w1.cell? ⟨p, i, none⟩ = some (.slice none 0 0) := by rw [P1.cell]; exact hi
  refine hK _ _ c1 ?_
  clear hS
  intro hS
  refine AnyBut.tk0 9 hS rfl (h := ?_)
  refine AnyBut.done (by kernel_rfl) ?_
  go_wp2_with fail
  refine wp_loop_rounds 1 ?_
  rw [rounds_succ]
  go_wp2_with fail
  go_end0
  exact ⟨rfl, h1, Kept.grown (Kept.drew (Kept.refl _ w)) G1 (by simp)⟩
end Go.Proofs.YthmhdaefkhcenaaGreatDoor
