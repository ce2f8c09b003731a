/- Lemmas for it; no condition: TSell TCom. -/
import Derived.Test.YthmhdaefkhcenaaGreatDoorZ08
import Derived.Test.YthmhdaefkhcenaaGreatDoorZ50
set_option linter.unusedVariables false
set_option linter.unusedSimpArgs false
namespace Go.Proofs.YthmhdaefkhcenaaGreatDoor
open Go.RowKit Go.Lib Go.MapKept

theorem taxF_le (n r : Nat) (hr : r ≤ 1000000) : taxF n r ≤ n := by
  have h := even_mono (p := n * r) (q := 1000000 * n) 1000000 (by rw [Nat.mul_comm 1000000 n]; exact Nat.mul_le_mul_left _ hr)
  rw [even_exact n 1000000 (by omega)] at h
  exact h
theorem at_list {P : Program} {ops : Array Oper} {Q : Exit → Act → World → Prop} {rest : List Oper} {a : Act} {W : World} (F : World → Prop) (hF : F W) (h : ∀ W, F W → wpList P ops Q rest a W) : wpList P ops Q rest a W := h W hF
def SoldR (k d md f g l bb m jb jc qb qc K E F z : Nat) (rate : Int) (id : Int) (n r : Nat) (w : World) (e : Ending) (w' : World) : Prop := ∃ q c' ib gb lo, e = .returned (.tuple #[.slice (some ⟨q, 0, none⟩) 1 c', .int .i64 0]) ∧ 1 ≤ c' ∧ Has w' q (tlV n r (taxF n r)) ∧ w.heap.size ≤ q ∧ q ≠ ib ∧ q ≠ gb ∧ w.heap.size ≤ lo ∧
  DeskS w' k d md f g l bb m ib gb lo rate jb jc qb qc K id 10 n r (taxF n r) [] [] ∧ CfgIn rate z F w' (cfgA jb jc qb qc) ∧ Kept (List.range' K (E - K) ++ [d, md, f, l, bb, m]) w w'
set_option maxRecDepth 100000 in
set_option maxHeartbeats 8000000 in
theorem sell_c (k d md f g l bb m jb jc qb qc K E F z lo1 lb : Nat) (id : Int) (n r : Nat) (hid0 : 1 ≤ id) (hid1 : id ≤ 1099511627775) (hn0 : 0 < n) (hn : n ≤ 1073741824) (hr : r ≤ 1000000) (w : World)
    (hK : Block w k 100 [.pointer (some ⟨d, 0, none⟩), .slice (some ⟨jb, 0, none⟩) 1 jc, .slice (some ⟨qb, 0, none⟩) 1 qc, .slice none 0 0, .slice none 0 0, .slice none 0 0, .slice none 0 0, .pointer (some ⟨K, 0, none⟩), .pointer (some ⟨l, 0, none⟩), .pointer (some ⟨bb, 0, none⟩), .int .i64 0, .bool false])
    (hD : DiskAt w d md (fs3 f g) 3) (hF : File w f []) (hG : FileL w lo1 g (bytesOf (cfgL (r : Int)))) (hL : LedAt w l d) (hB : Block w bb 137 [.slice none 0 0, .map (some m)]) (hM : MapAt w m [] 0) (hC : CfgIn (r : Int) z F w (cfgA jb jc qb qc)) (hT : CalcOk (r : Int) z E w K)
    (hmm : m ≠ md) (hlo : d < z ∧ md < z ∧ k < z ∧ l < z ∧ f < z ∧ bb < z ∧ m < z) (hFK : F ≤ K) (hEg : E ≤ g) (hE1 : E ≤ lo1) (hO : Has w lb [.int .i64 2, .int .i64 n]) (hlb : E ≤ lb) :
    Calls Tryz.prog 20 #[.pointer (some ⟨k, 0, none⟩), .int .i64 id, ordV 10 lb 1] w (SoldR k d md f g l bb m jb jc qb qc K E F z (r : Int) id n r w) := by
  have hKp := hK
  obtain ⟨kl, kf, k0, k1, k2, k3, k4, k5, k6, k7, k8, k9, k10, k11⟩ := hKp.c12
  have hcl := hT.lt
  go_enter Tryz.func20, Tryz.ntmps20
  simp only [ordV]
  go_wp2_with fail
  refine (entry_miss bb m _ [] id _ (hB.call (by exact sBel)) (hM.call (by exact sBel)) (by simp)).mono ?_
  rintro e w1 ⟨rfl, hb1⟩
  have bel1 : Below w.heap.size w w1 := bel_call (by exact sBel) hb1
  have X0 : Block w1 w.heap.size 49 [.int .i64 0, .int .i64 10, .int .i64 1, .int .i64 1, .slice (some ⟨lb, 0, none⟩) 1 1] := Block.call (by exact sBlk) hb1
  have X1 : Block w1 (w.heap.size + 1) 88 [.int .i64 1, .int .i64 id, .int .i64 0, .int .i64 10, .slice none 0 0, .slice none 0 0] := Block.call (by exact sBlk) hb1
  have K1 := hK.call bel1
  have zx1 := X1.lt
  clear hb1 k0 k1 k2 k3 k4 k5 k6 k7 k8 k9 k10 k11 kl kf hKp
  have X0p := X0
  have X1p := X1
  obtain ⟨al, af, a0, a1, a2, a3, a4⟩ := X0p.c5
  obtain ⟨bl, bf, b0, b1, b2, b3, b4, b5⟩ := X1p.c6
  go_wp2_with fail
  have bs : Below w1.heap.size w1 (w1.alloc (.cells #[.int .i64 0, .int .i64 0, .int .i64 0, .int .i64 0, .slice none 0 0, .slice none 0 0] 88)) := bel_alloc (Below.refl _ _) _
  have bel1s := bel_call bel1 bs
  refine (quote_c k K E z r l 10 lb 1 n _ _ _ _ _ _ _ _ _ hn hr (by omega) (by omega) _ (hK.call bel1s) (hT.keptX (Kept.of_below (X := []) bel1s) (by simp)) (by omega) (hO.call bel1s) hlb).mono ?_
  rintro e w2 ⟨g2, c2, rfl, hc2, hg2, hT2, on2⟩
  have Y0 := (X0.call bs).only on2 (.inr (by omega))
  have Y1 := (X1.call bs).only on2 (.inr (by omega))
  have on3 : Only K E w w2 := Only.pre bel1s on2
  clear a0 a1 a2 a3 a4 al af b0 b1 b2 b3 b4 b5 bl bf X0p X1p
  have Y1p := Y1
  obtain ⟨bl, bf, b0, b1, b2, b3, b4, b5⟩ := Y1p.c6
  have zs := bs.size
  have z1 := bel1.size
  go_upto_region 9 with (fail)
  refine at_code (fun W => Only K E w W ∧ Block W w.heap.size 49 [.int .i64 0, .int .i64 10, .int .i64 1, .int .i64 1, .slice (some ⟨lb, 0, none⟩) 1 1] ∧ Block W (w.heap.size + 1) 88 [.int .i64 1, .int .i64 id, .int .i64 0, .int .i64 10, .slice none 0 0, .slice (some ⟨g2, 0, none⟩) 1 c2] ∧ Has W g2 (tlV n r (taxF n r)) ∧ w1.heap.size < g2 + 1 ∧ W.heap.size = W.heap.size) ⟨on3.set (.inr (by show w.heap.size ≤ w.heap.size + 1; omega)) _, Y0.far (by show w.heap.size ≠ w.heap.size + 1; omega) _, Y1.set 5 _, Has.far hT2 (by show g2 ≠ w.heap.size + 1; omega) _, by omega, rfl⟩ ?_
  clear Y0 Y1 Y1p b0 b1 b2 b3 b4 b5 bl bf hT2 X0 X1
  rintro w3 ⟨on4, X0, X1, T3, zg, -⟩
  have O3 := hO.only on4 (.inr hlb)
  have X0p := X0
  have X1p := X1
  obtain ⟨al, af, a0, a1, a2, a3, a4⟩ := X0p.c5
  obtain ⟨bl, bf, b0, b1, b2, b3, b4, b5⟩ := X1p.c6
  have ol := O3.lt; have o0 := O3.cell (j := 0) rfl; have o1 := O3.cell (j := 1) rfl
  go_wp2_with fail
  refine wp_loop_rounds 2 ?_
  rw [rounds_succ]
  go_wp2_with (at_builtin; refine wpList_append_nil rfl _ _ 22 rfl 3 _ 1 8 Tryz.underlying22 info_int rfl (w3.heap.size + 1) 0 1 1 [.int .i64 n] rfl rfl rfl (by intro j v hj; rw [Nat.zero_add]; exact (Block.cell (btop (cs := [.int .i64 n]) (by simp)) j).trans hj) (by omega) (by unfold maxLen; omega) (by omega) ?_; intro J k' hJ hk'; refine at_list (fun W => Below w3.heap.size w3 W ∧ Has W (w3.heap.size + 1 + 1) [.int .i64 n]) ⟨by exact sBel, by refine has_top ?_; simp⟩ ?_; rintro w4 ⟨hb4, A4⟩; have X4 := X1.call hb4; obtain ⟨yl, yf, y0, y1, y2, y3, y4, y5⟩ := X4.c6)
  have z3 : w.heap.size ≤ w3.heap.size := on4.size
  have z4 := hb4.size
  have X4 := X1.call hb4
  refine at_code (fun W => Only K E w W ∧ Block W w.heap.size 49 [.int .i64 0, .int .i64 10, .int .i64 1, .int .i64 1, .slice (some ⟨lb, 0, none⟩) 1 1] ∧ Block W (w.heap.size + 1) 88 [.int .i64 1, .int .i64 id, .int .i64 0, .int .i64 10, .slice (some ⟨w3.heap.size + 1 + 1, 0, none⟩) 1 (1 + k'), .slice (some ⟨g2, 0, none⟩) 1 c2] ∧ Has W g2 (tlV n r (taxF n r)) ∧ Has W (w3.heap.size + 1 + 1) [.int .i64 n]) ⟨(on4.behind hb4).set (.inr (by show w.heap.size ≤ w.heap.size + 1; omega)) _, (X0.call hb4).far (by show w.heap.size ≠ w.heap.size + 1; omega) _, X4.set 4 _, (T3.call hb4).far (by show g2 ≠ w.heap.size + 1; omega) _, A4.far (by show w3.heap.size + 1 + 1 ≠ w.heap.size + 1; omega) _⟩ ?_
  clear X4 X0p X1p a0 a1 a2 a3 a4 al af b0 b1 b2 b3 b4 b5 bl bf o0 o1 ol O3 X0 X1 T3 A4
  rintro w5 ⟨on5, X0, X1, T5, A5⟩
  have hX : ∀ h, h < K ∨ E ≤ h → h ∉ List.range' K (E - K) := fun h hh hm => by
    rw [List.mem_range'_1] at hm
    omega
  have kpO := on5.kept
  obtain ⟨q1, q2, q3, q4, q5, q6, q7⟩ := hlo
  have K5 := hK.only on5 (.inl (by omega))
  have D5 := hD.keptX kpO (hX _ (by omega)) (hX _ (by omega))
  have F5 := hF.nilX kpO (hX _ (by omega))
  have G5 := hG.keptX kpO (hX _ (by omega)) (by intro h hh; rw [List.mem_range'_1] at hh; omega)
  have L5 := hL.keptX kpO (hX _ (by omega))
  have B5 := hB.only on5 (.inl (by omega))
  have M5 := hM.keptX kpO (hX _ (by omega))
  have C5 := hC.only on5 (.inl hFK)
  have z5 := on5.size
  have hR : RefsOk id 10 n r (taxF n r) [] := ⟨hid0, hid1, by omega, by omega, hn0, hn, hr, Nat.le_trans (taxF_le n r hr) hn, by simp, by simp, by simp [backs], by simp⟩
  have X1p := X1
  obtain ⟨bl, bf, b0, b1, b2, b3, b4, b5⟩ := X1p.c6
  go_wp2_with fail
  refine (keep_sale k d md f g l bb m id 10 _ _ g2 c2 n r (taxF n r) _ _ _ _ _ _ _ _ _ hR w5 K5 D5 F5 L5 B5 M5 hmm A5 T5).mono ?_
  rintro e w6 ⟨q, c', ib, gb, lo, rfl, hc, hq, hq0, hq1, hq2, hlo6, hbk, D6, F6, L6, kp6⟩
  go_wp2_with fail
  go_returns
  have zg := hG.file.lt
  have hkb : k ≠ bb := hK.ne_type hB (by decide)
  have hkm : k ≠ m := hK.ne_map hM
  have hkd : k ≠ d := by
    obtain ⟨⟨st, h⟩, _⟩ := hD
    exact hK.ne_type h (by decide)
  have hkmd : k ≠ md := hK.ne_map hD.2
  have hkf : k ≠ f := (hF.ne hK (by decide)).symm
  have hkl : k ≠ l := by
    obtain ⟨_, _, h⟩ := hL
    exact hK.ne_type h (by decide)
  have hNU : ∀ h ∈ [d, md, f, l, bb, m], NoU8 w5 h ∨ w5.heap.size ≤ h := by
    intro h hh
    simp at hh
    rcases hh with rfl | rfl | rfl | rfl | rfl | rfl
    · exact .inl D5.noU8.1
    · exact .inl D5.noU8.2
    · exact .inl F5.noU8
    · exact .inl L5.noU8
    · exact .inl (NoU8.of_block B5 (by simp))
    · exact .inl (NoU8.of_map M5)
  refine ⟨q, c', ib, gb, lo, by first | rfl | simp, hc, hq, Nat.le_trans z5 hq0, hq1, hq2, Nat.le_trans z5 hlo6, ⟨K5.keptX kp6 (by simp; exact ⟨hkd, hkmd, hkf, hkl, hkb, hkm⟩), D6, F6, (FileB.keptX G5.file kp6 (Nat.le_refl _) (by simp; omega) hNU).up hlo6, L6, hbk, by omega, hmm, ⟨by omega, by omega, by omega, by omega, by omega, by omega, by omega, by omega⟩⟩, C5.keptX kp6 (by simp; omega), (kpO.mono (by intro h hh; exact .inl (List.mem_append_left _ hh))).trans kp6 (by intro h hh; exact .inl (List.mem_append_right _ hh))⟩
end Go.Proofs.YthmhdaefkhcenaaGreatDoor
namespace Go.Proofs.YthmhdaefkhcenaaGreatDoor
set_option maxRecDepth 100000
set_option maxHeartbeats 8000000
open Go.RowKit Go.Lib Go.MapKept

theorem SoldR.pre {k d md f g l bb m jb jc qb qc K E F z : Nat} {rate id : Int} {n r : Nat} {w w1 w' : World} {e : Ending} (hb : Below w.heap.size w w1) (h : SoldR k d md f g l bb m jb jc qb qc K E F z rate id n r w1 e w') : SoldR k d md f g l bb m jb jc qb qc K E F z rate id n r w e w' := by
  obtain ⟨q, c', ib, gb, lo, h1, h2, h3, h4, h5, h6, h7, h8, h9, h10⟩ := h
  have := hb.size
  exact ⟨q, c', ib, gb, lo, h1, h2, h3, by omega, h5, h6, by omega, h8, h9, Kept.pre hb h10⟩
theorem commit_c (k d md f g l bb m jb jc qb qc K E F z lo1 lb : Nat) (id : Int) (n r : Nat) (hid0 : 1 ≤ id) (hid1 : id ≤ 1099511627775) (hn0 : 0 < n) (hn : n ≤ 1073741824) (hr : r ≤ 1000000) (w : World)
    (hK : Block w k 100 [.pointer (some ⟨d, 0, none⟩), .slice (some ⟨jb, 0, none⟩) 1 jc, .slice (some ⟨qb, 0, none⟩) 1 qc, .slice none 0 0, .slice none 0 0, .slice none 0 0, .slice none 0 0, .pointer (some ⟨K, 0, none⟩), .pointer (some ⟨l, 0, none⟩), .pointer (some ⟨bb, 0, none⟩), .int .i64 0, .bool false])
    (hD : DiskAt w d md (fs3 f g) 3) (hF : File w f []) (hG : FileL w lo1 g (bytesOf (cfgL (r : Int)))) (hL : LedAt w l d) (hB : Block w bb 137 [.slice none 0 0, .map (some m)]) (hM : MapAt w m [] 0) (hC : CfgIn (r : Int) z F w (cfgA jb jc qb qc)) (hT : CalcOk (r : Int) z E w K)
    (hmm : m ≠ md) (hlo : d < z ∧ md < z ∧ k < z ∧ l < z ∧ f < z ∧ bb < z ∧ m < z) (hFK : F ≤ K) (hEg : E ≤ g) (hE1 : E ≤ lo1) (hO : Has w lb [.int .i64 2, .int .i64 n]) (hlb : E ≤ lb) :
    Calls Tryz.prog 9 #[.pointer (some ⟨k, 0, none⟩), .int .i64 id, ordV 10 lb 1] w (SoldR k d md f g l bb m jb jc qb qc K E F z (r : Int) id n r w) := by
  have hmf : ∀ (fn : Fn) (first cap : Array Value) (w : World), (Instr.makeFunc fn first cap).run Tryz.prog w = .ok (.func fn first cap) w := fun _ _ _ _ => rfl
  go_enter Tryz.func9, Tryz.ntmps9
  simp only [ordV]
  go_wp2_with (go_at_call 18; go_in)
  refine (none_desk k l _ _ _ _ _ _ _ _ _ _ _ _ (hK.call (by exact sBel))).mono ?_
  rintro e w1 ⟨rfl, hb1⟩
  have bel1 : Below w.heap.size w w1 := bel_call (by exact sBel) hb1
  have X0 : Block w1 w.heap.size 26 [.pointer (some ⟨k, 0, none⟩)] := Block.call (by exact sBlk) hb1
  have X1 : Block w1 (w.heap.size + 1) 3 [.int .i64 id] := Block.call (by exact sBlk) hb1
  have X2 : Block w1 (w.heap.size + 1 + 1) 49 [.int .i64 0, .int .i64 10, .int .i64 1, .int .i64 1, .slice (some ⟨lb, 0, none⟩) 1 1] := Block.call (by exact sBlk) hb1
  have K1 := hK.call bel1
  have K1p := K1
  clear hb1
  obtain ⟨kl, kf, k0, k1, k2, k3, k4, k5, k6, k7, k8, k9, k10, k11⟩ := K1p.c12
  obtain ⟨al, af, a0⟩ := X0.c1
  obtain ⟨bl, bf, b0⟩ := X1.c1
  obtain ⟨xl, xf, x0, x1, x2, x3, x4⟩ := X2.c5
  go_wp2_with (go_at_call 19; go_in)
  have hs := sell_c k d md f g l bb m jb jc qb qc K E F z lo1 lb id n r hid0 hid1 hn0 hn hr w1 K1 (hD.call bel1) (hF.call bel1) (hG.keptX (Kept.of_below (X := []) bel1) (by simp) (by simp)) (hL.call bel1) (hB.call bel1) (hM.call bel1) (hC.call bel1) (hT.keptX (Kept.of_below (X := []) bel1) (by simp)) hmm hlo hFK hEg hE1 (hO.call bel1) hlb
  simp only [ordV] at hs
  refine hs.mono ?_
  intro e w2 hR
  have hR' := hR
  obtain ⟨q, c', ib, gb, lo, rfl, _⟩ := hR'
  have HR := Lib.hid hR
  clear hR hs
  go_wp2
  go_returns
  exact HR.out.pre bel1
def BackR (k d md f g l bb m ib gb lo : Nat) (rate : Int) (jb jc qb qc K : Nat) (sid ds : Int) (n r t : Nat) (R : List Ref) (ks : List Nat) (id day : Int) (x : Nat) (w : World) (e : Ending) (w' : World) : Prop := ∃ q c' ib2 kr, e = .returned (.tuple #[.slice (some ⟨q, 0, none⟩) 1 c', .int .i64 0]) ∧ Has w' q (tlV x r (backF t n (backs R) (backs R + x))) ∧ w.heap.size ≤ q ∧ (ib2 = ib ∨ w.heap.size ≤ ib2) ∧ DeskS w' k d md f g l bb m ib2 gb lo rate jb jc qb qc K sid ds n r t (R ++ [⟨id, day, x⟩]) (ks ++ [kr]) ∧ Kept [d, md, f, l, bb, m, ib, gb] w w'
theorem refund_c (k d md f g l bb m ib gb lo : Nat) (rate : Int) (jb jc qb qc K : Nat) (sid ds : Int) (n r t : Nat) (R : List Ref) (ks : List Nat) (id day : Int) (pb x : Nat) (hR : RefsOk sid ds n r t R) (hR2 : RefsOk sid ds n r t (R ++ [⟨id, day, x⟩])) (hfl : (framesL (recsOf sid ds n r t R)).length ≤ 400000) (w : World)
    (hS : DeskS w k d md f g l bb m ib gb lo rate jb jc qb qc K sid ds n r t R ks) (hA : Has w pb [.int .i64 x]) :
    Calls Tryz.prog 12 #[.pointer (some ⟨k, 0, none⟩), .int .i64 id, .int .i64 sid, .int .i64 day, .slice (some ⟨pb, 0, none⟩) 1 1] w (BackR k d md f g l bb m ib gb lo rate jb jc qb qc K sid ds n r t R ks id day x w) := by
  have hmf : ∀ (fn : Fn) (first cap : Array Value) (w : World), (Instr.makeFunc fn first cap).run Tryz.prog w = .ok (.func fn first cap) w := fun _ _ _ _ => rfl
  obtain ⟨hK, hD, hF, hG, hL, hBk, hfg, hmm, hlow⟩ := hS
  have hA1 := hA.alloc (.cells #[.pointer (some ⟨k, 0, none⟩)] 26)
  go_enter Tryz.func12, Tryz.ntmps12
  go_wp2_with (first | (at_builtin; refine wpList_append_nil rfl _ _ 22 rfl 3 _ 1 8 Tryz.underlying22 info_int rfl pb 0 1 1 [.int .i64 x] rfl rfl rfl (by intro j v hj; rw [Nat.zero_add]; exact hA1.cell hj) (by omega) (by unfold maxLen; omega) (by omega) ?_; intro J k' hJ hk'; refine at_list (fun W => Below w.heap.size w W ∧ W.heap.size = w.heap.size + 1 + 1 ∧ Block W w.heap.size 26 [.pointer (some ⟨k, 0, none⟩)] ∧ Has W (w.heap.size + 1) [.int .i64 x]) ⟨by exact sBel, by simp, by exact sBlk, by refine has_top ?_; simp⟩ ?_; rintro w0 ⟨bel0, z0, X0, A0⟩; have X0p := X0; obtain ⟨al, af, a0⟩ := X0p.c1) | (go_at_call 18; go_in))
  have bel0' : Below w.heap.size w (w0.alloc (.cells #[.int .i64 2, .int .i64 id, .int .i64 sid, .int .i64 day, .slice (some ⟨w.heap.size + 1, 0, none⟩) 1 (1 + k'), .slice none 0 0] 88)) := bel_alloc bel0 _
  refine (none_desk k l _ _ _ _ _ _ _ _ _ _ _ _ (hK.call bel0')).mono ?_
  rintro e w1 ⟨rfl, hb1⟩
  have bel1 : Below w.heap.size w w1 := bel_call bel0' hb1
  have Y0 : Block w1 w.heap.size 26 [.pointer (some ⟨k, 0, none⟩)] := Block.call (X0.alloc _) hb1
  have E1 : Block w1 (w.heap.size + 1 + 1) 88 [.int .i64 2, .int .i64 id, .int .i64 sid, .int .i64 day, .slice (some ⟨w.heap.size + 1, 0, none⟩) 1 (1 + k'), .slice none 0 0] := Block.call (btop z0) hb1
  have A1 : Has w1 (w.heap.size + 1) [.int .i64 x] := Has.call (A0.alloc _) hb1
  have K1 := hK.call bel1
  have K1p := K1
  clear hb1 a0 al af X0p X0 A0
  obtain ⟨kl, kf, k0, k1, k2, k3, k4, k5, k6, k7, k8, k9, k10, k11⟩ := K1p.c12
  obtain ⟨al, af, a0⟩ := Y0.c1
  obtain ⟨bl, bf, b0, b1, b2, b3, b4, b5⟩ := E1.c6
  go_wp2_with (go_at_call 21; go_in)
  refine (keep_ref k d md f g l bb m ib gb lo sid ds n r t R ks id day (w.heap.size + 1) (1 + k') x _ _ _ _ _ _ _ _ _ hR hR2 w1 K1 (hD.call bel1) (hF.call bel1) hfl (hL.call bel1) (hBk.call bel1) hmm ⟨hlow.1, hlow.2.1, hlow.2.2.1, hlow.2.2.2.2.1, hlow.2.2.2.2.2.1, hlow.2.2.2.2.2.2.1, hlow.2.2.2.2.2.2.2⟩ A1).mono ?_
  rintro e w2 ⟨q, c', ib2, kr, rfl, hc, hq, hq0, hib, hbk2, D2, F2, L2, kp2⟩
  go_wp2
  go_returns
  have z1 := bel1.size
  have zz := hBk.lt
  have hgl := hBk.glo
  have hkd : k ≠ d := by
    obtain ⟨⟨st, h⟩, _⟩ := hD
    exact hK.ne_type h (by decide)
  have hkm : k ≠ md := hK.ne_map hD.2
  have hkf : k ≠ f := (hF.ne hK (by decide)).symm
  have hkl : k ≠ l := by
    obtain ⟨_, _, h⟩ := hL
    exact hK.ne_type h (by decide)
  have hgK : g ≠ k := by
    obtain ⟨sv, h, _⟩ := hG
    exact h.ne_type hK (by decide)
  have hgF := (hG.file zz.2.2.2.2.2)
  have hgd := hD.file hgF
  have hgl2 : g ≠ l := (hL.ne_file hgF).symm
  have hbk1 := hBk.call bel1
  obtain ⟨_, ⟨_, _, _, _, _, _, b1, b2, b3, _⟩, b4, _⟩ := hBk
  have hkb : k ≠ bb := hK.ne_type b1 (by decide)
  have hkmm : k ≠ m := hK.ne_map b3
  have hgb2 : g ≠ bb := hgF.ne b1 (by decide)
  have hgm : g ≠ m := hgF.ne_map b3
  refine ⟨q, c', ib2, kr, by first | rfl | simp, hq, Nat.le_trans z1 hq0, hib.imp (fun h => h) (fun h => Nat.le_trans z1 h), ⟨K1.keptX kp2 (by simp; exact ⟨hkd, hkm, hkf, hkl, hkb, hkmm, by omega, by omega⟩), D2, F2, FileB.keptX (hG.call bel1 zz.2.2.2.2.2) kp2 (by omega) (by simp; exact ⟨hgd.1, hgd.2, hfg.symm, hgl2, hgb2, hgm, by omega, by omega⟩) ?_, L2, hbk2, hfg, hmm, hlow⟩, Kept.pre bel1 kp2⟩
  intro h hh
  simp at hh
  rcases hh with rfl | rfl | rfl | rfl | rfl | rfl | rfl | rfl
  · exact .inl (hD.call bel1).noU8.1
  · exact .inl (hD.call bel1).noU8.2
  · exact .inl (hF.call bel1).noU8
  · exact .inl (hL.call bel1).noU8
  · exact .inl (NoU8.of_block (b1.call bel1) (by simp))
  · exact .inl (NoU8.of_map (b3.call bel1))
  · exact .inr (by omega)
  · exact .inr (by omega)
theorem refund_much (k d md f g l bb m ib gb lo : Nat) (rate : Int) (jb jc qb qc K : Nat) (sid ds : Int) (n r t : Nat) (R : List Ref) (ks : List Nat) (id day : Int) (pb x : Nat) (hR : RefsOk sid ds n r t R) (hid0 : 1 ≤ id) (hid1 : id ≤ 1099511627775) (hdy : day ≤ 3652058) (hx0 : x ≠ 0) (hxm : x ≤ 2147483648) (hbig : n < backs R + x) (hnew : id ∉ sid :: R.map (·.id)) (hds : ds ≤ day) (w : World)
    (hS : DeskS w k d md f g l bb m ib gb lo rate jb jc qb qc K sid ds n r t R ks) (hA : Has w pb [.int .i64 x]) :
    Calls Tryz.prog 12 #[.pointer (some ⟨k, 0, none⟩), .int .i64 id, .int .i64 sid, .int .i64 day, .slice (some ⟨pb, 0, none⟩) 1 1] w fun e w' => e = .returned (.tuple #[.slice none 0 0, .int .i64 5]) ∧ Below w.heap.size w w' := by
  have hmf : ∀ (fn : Fn) (first cap : Array Value) (w : World), (Instr.makeFunc fn first cap).run Tryz.prog w = .ok (.func fn first cap) w := fun _ _ _ _ => rfl
  obtain ⟨hK, hD, hF, hG, hL, hBk, hfg, hmm, hlow⟩ := hS
  have hA1 := hA.alloc (.cells #[.pointer (some ⟨k, 0, none⟩)] 26)
  go_enter Tryz.func12, Tryz.ntmps12
  go_wp2_with (first | (at_builtin; refine wpList_append_nil rfl _ _ 22 rfl 3 _ 1 8 Tryz.underlying22 info_int rfl pb 0 1 1 [.int .i64 x] rfl rfl rfl (by intro j v hj; rw [Nat.zero_add]; exact hA1.cell hj) (by omega) (by unfold maxLen; omega) (by omega) ?_; intro J k' hJ hk'; refine at_list (fun W => Below w.heap.size w W ∧ W.heap.size = w.heap.size + 1 + 1 ∧ Block W w.heap.size 26 [.pointer (some ⟨k, 0, none⟩)] ∧ Has W (w.heap.size + 1) [.int .i64 x]) ⟨by exact sBel, by simp, by exact sBlk, by refine has_top ?_; simp⟩ ?_; rintro w0 ⟨bel0, z0, X0, A0⟩; have X0p := X0; obtain ⟨al, af, a0⟩ := X0p.c1) | (go_at_call 18; go_in))
  have bel0' : Below w.heap.size w (w0.alloc (.cells #[.int .i64 2, .int .i64 id, .int .i64 sid, .int .i64 day, .slice (some ⟨w.heap.size + 1, 0, none⟩) 1 (1 + k'), .slice none 0 0] 88)) := bel_alloc bel0 _
  refine (none_desk k l _ _ _ _ _ _ _ _ _ _ _ _ (hK.call bel0')).mono ?_
  rintro e w1 ⟨rfl, hb1⟩
  have bel1 : Below w.heap.size w w1 := bel_call bel0' hb1
  have Y0 : Block w1 w.heap.size 26 [.pointer (some ⟨k, 0, none⟩)] := Block.call (X0.alloc _) hb1
  have E1 : Block w1 (w.heap.size + 1 + 1) 88 [.int .i64 2, .int .i64 id, .int .i64 sid, .int .i64 day, .slice (some ⟨w.heap.size + 1, 0, none⟩) 1 (1 + k'), .slice none 0 0] := Block.call (btop z0) hb1
  have A1 : Has w1 (w.heap.size + 1) [.int .i64 x] := Has.call (A0.alloc _) hb1
  have K1 := hK.call bel1
  have K1p := K1
  clear hb1 a0 al af X0p X0 A0
  obtain ⟨kl, kf, k0, k1, k2, k3, k4, k5, k6, k7, k8, k9, k10, k11⟩ := K1p.c12
  obtain ⟨al, af, a0⟩ := Y0.c1
  obtain ⟨bl, bf, b0, b1, b2, b3, b4, b5⟩ := E1.c6
  go_wp2_with (go_at_call 21; go_in)
  refine (keep_much k d l bb m ib gb lo sid ds n r t R ks id day (w.heap.size + 1) (1 + k') x _ _ _ _ _ _ _ _ _ hR hid0 hid1 hdy hx0 hxm hbig hnew hds w1 K1 (hBk.call bel1) A1).mono ?_
  rintro e w2 ⟨rfl, hb2⟩
  have bel2 := bel_call bel1 hb2
  go_wp2
  go_returns
  exact ⟨by first | rfl | simp, by exact sBel⟩
end Go.Proofs.YthmhdaefkhcenaaGreatDoor
