/- Lemmas for it; no condition: TDk TDk2 TDk3 TDk4 TDk5 TDk6 TDk7. -/
import Derived.Test.YthmhdaefkhcenaaGreatDoorZ08
import Derived.Test.YthmhdaefkhcenaaGreatDoorZ33
import Derived.Test.YthmhdaefkhcenaaGreatDoorZ38
import Derived.Test.YthmhdaefkhcenaaGreatDoorZ42
import Derived.Test.YthmhdaefkhcenaaGreatDoorZ47
set_option linter.unusedVariables false
set_option linter.unusedSimpArgs false
namespace Go.Proofs.YthmhdaefkhcenaaGreatDoor
set_option maxRecDepth 100000
set_option maxHeartbeats 8000000
open Go.RowKit Go.Lib Go.MapKept

theorem deskp_ne (l : Nat) (w : World) : (binOp .eql 26 (.pointer (some ⟨l, 0, none⟩)) (.pointer none)).run Tryz.prog w = .ok (.bool false) w := by kernel_rfl
theorem calcp_ne (l : Nat) (w : World) : (binOp .eql 97 (.pointer (some ⟨l, 0, none⟩)) (.pointer none)).run Tryz.prog w = .ok (.bool false) w := by kernel_rfl
theorem ledq_ne (l : Nat) (w : World) : (binOp .eql 98 (.pointer (some ⟨l, 0, none⟩)) (.pointer none)).run Tryz.prog w = .ok (.bool false) w := by kernel_rfl
theorem none_desk (k l : Nat) (v0 v1 v2 v3 v4 v5 v6 v7 v9 v10 v11 : Value) (w : World) (h : Block w k 100 [v0, v1, v2, v3, v4, v5, v6, v7, .pointer (some ⟨l, 0, none⟩), v9, v10, v11]) :
    Calls Tryz.prog 45 #[.pointer (some ⟨k, 0, none⟩)] w fun e w' => e = .returned (.bool false) ∧ Below w.heap.size w w' := by
  have h1 := deskp_ne
  have h2 := ledq_ne
  obtain ⟨kl, kf, k0, k1, k2, k3, k4, k5, k6, k7, k8, k9, k10, k11⟩ := h.c12
  go_enter Tryz.func45, Tryz.ntmps45
  go_wp2
  exact ret_t rfl rfl rfl ⟨rfl, by exact sBel⟩
theorem leftover_none (d md cl : Nat) (es : List MapEntry) (w : World) (hD : DiskAt w d md es cl) (hf : Instr.findNow .string (.string ⟨#[99, 111, 110, 102, 105, 103, 46, 116, 109, 112]⟩) es 0 = some none) :
    Calls Tryz.prog 29 #[.pointer (some ⟨d, 0, none⟩)] w fun e w' => e = .returned (.int .i64 0) ∧ Below w.heap.size w w' := by
  go_enter Tryz.func29, Tryz.ntmps29
  go_wp2_with fail
  refine (read_none d md cl es _ w hD hf).mono ?_
  rintro e w1 ⟨rfl, hb1⟩
  go_wp2_with fail
  go_returns
  exact ⟨by first | rfl | simp, hb1⟩
abbrev cfgA (jb jc qb qc : Nat) : Value := .agg #[.slice (some ⟨jb, 0, none⟩) 1 jc, .slice (some ⟨qb, 0, none⟩) 1 qc, .slice none 0 0, .slice none 0 0, .slice none 0 0, .slice none 0 0]
theorem CalcOk.low {rate : Int} {B B' E K : Nat} {W : World} (h : CalcOk rate B E W K) (hB : B' ≤ B) : CalcOk rate B' E W K := by
  obtain ⟨v, I, nb, h1, h2, h3, h4, h5⟩ := h
  exact ⟨v, I, nb, h1, h2, h3, by omega, h5⟩
theorem CalcOk.lt {rate : Int} {B E K : Nat} {W : World} (h : CalcOk rate B E W K) : B ≤ K ∧ K < E ∧ E ≤ W.heap.size := by
  obtain ⟨v, I, nb, h1, h2, h3, h4, h5, h6, h7⟩ := h
  omega
theorem CfgIn.low {rate : Int} {n n' m : Nat} {W : World} {v : Value} (h : CfgIn rate n m W v) (hn : n' ≤ n) : CfgIn rate n' m W v := by
  obtain ⟨jb, jc, qb, qc, rb, rc, db, dc, b, c, h0, h1, h2, h3, h4, h5, h6, ⟨g1, g2, g3, g4, g5⟩, u⟩ := h
  exact ⟨jb, jc, qb, qc, rb, rc, db, dc, b, c, h0, h1, h2, h3, h4, h5, h6, ⟨by omega, by omega, by omega, by omega, by omega⟩, u⟩
theorem agg_cfg2 (w : World) : (isAgg 35).run Tryz.prog w = .ok true w := by kernel_rfl
theorem size_cfg2 (w : World) : (sizeOf 35).run Tryz.prog w = .ok 6 w := by kernel_rfl
theorem read_desk (rate : Int) (h0 : 0 ≤ rate) (h1 : rate ≤ 1000000) (A : Option Addr) (c B : Nat) (w : World) (hs : Shows w B 1 A (bytesOf (cfgL rate)).length (U8 (bytesOf (cfgL rate)))) (hB : B ≤ w.heap.size) :
    Calls Tryz.prog 38 #[.slice A (bytesOf (cfgL rate)).length c] w fun e w' => ∃ jb jc qb qc K E F, e = .returned (.tuple #[cfgA jb jc qb qc, .pointer (some ⟨K, 0, none⟩), .int .i64 0]) ∧ CfgIn rate w.heap.size F w' (cfgA jb jc qb qc) ∧ CalcOk rate w.heap.size E w' K ∧ F ≤ K ∧ Below w.heap.size w w' := by
  go_enter Tryz.func38, Tryz.ntmps38
  go_wp2_with fail
  have hrt : I64r rate := ⟨by omega, by omega⟩
  refine (read_cfg rate hrt A c B _ (hs.alloc hB _) (by simp; omega)).mono ?_
  rintro e w1 ⟨v, rfl, hv, hb1⟩
  have bel1 : Below w.heap.size w w1 := bel_call (by exact sBel) hb1
  have X0 : Block w1 w.heap.size 35 [.slice none 0 0, .slice none 0 0, .slice none 0 0, .slice none 0 0, .slice none 0 0, .slice none 0 0] := Block.call (btop rfl) hb1
  have hv0 : CfgV rate (w.heap.size + 1) w1 v := hv.mono (by simp)
  have hin := hv0.all
  obtain ⟨jb, jc, qb, qc, rb, rc, db, dc, b, cc, rfl, hrest⟩ := hin
  have hin : CfgIn rate (w.heap.size + 1) w1.heap.size w1 (cfgA jb jc qb qc) := ⟨jb, jc, qb, qc, rb, rc, db, dc, b, cc, rfl, hrest⟩
  clear hrest hv hb1
  go_wp2_with fail
  have bs : Below w1.heap.size w1 ((w1.alloc (.cells #[.slice (some ⟨jb, 0, none⟩) 1 jc, .slice (some ⟨qb, 0, none⟩) 1 qc, .slice none 0 0, .slice none 0 0, .slice none 0 0, .slice none 0 0] 35)).alloc (.cells #[.int .i64 0, .int .i64 0] 194)) := bel_alloc (bel_alloc (Below.refl _ _) _) _
  refine (new_calc rate h0 h1 (w.heap.size + 1) (cfgA jb jc qb qc) _ (hv0.call bs)).mono ?_
  rintro e w2 ⟨K, rfl, hc, hb2⟩
  have X1 : Block w2 w1.heap.size 35 [.slice (some ⟨jb, 0, none⟩) 1 jc, .slice (some ⟨qb, 0, none⟩) 1 qc, .slice none 0 0, .slice none 0 0, .slice none 0 0, .slice none 0 0] := Block.call ((btop rfl).alloc _) hb2
  have X2 := (X0.call bs).call hb2
  have bel2 := bel_call (bel_call bel1 bs) hb2
  have z1 := bel1.size
  have zx := X0.lt
  have hin2 := (hin.call bs).call hb2
  have hcl := hc.lt
  simp only [World.size_alloc] at hcl hc
  clear hb2 X0
  have X1p := X1
  have X2p := X2
  obtain ⟨al, af, a0, a1, a2, a3, a4, a5⟩ := X1p.c6
  obtain ⟨bl, bf, b0, b1, b2, b3, b4, b5⟩ := X2p.c6
  go_wp2_with fail
  have kp3 : Kept [w.heap.size] w2 ((((((w2.setCell ⟨w.heap.size, 0, none⟩ (.slice (some ⟨jb, 0, none⟩) 1 jc)).setCell ⟨w.heap.size, 1, none⟩ (.slice (some ⟨qb, 0, none⟩) 1 qc)).setCell ⟨w.heap.size, 2, none⟩ (.slice none 0 0)).setCell ⟨w.heap.size, 3, none⟩ (.slice none 0 0)).setCell ⟨w.heap.size, 4, none⟩ (.slice none 0 0)).setCell ⟨w.heap.size, 5, none⟩ (.slice none 0 0)) := ((((((Kept.refl _ _).set (by simp) _).set (by simp) _).set (by simp) _).set (by simp) _).set (by simp) _).set (by simp) _
  refine ret_ctt (b := w.heap.size) (T := 35) (cs := [.slice (some ⟨jb, 0, none⟩) 1 jc, .slice (some ⟨qb, 0, none⟩) 1 qc, .slice none 0 0, .slice none 0 0, .slice none 0 0, .slice none 0 0]) rfl rfl rfl rfl rfl (by exact sCls) agg_cfg2 size_cfg2 ?_
  refine ⟨jb, jc, qb, qc, K, w2.heap.size, w1.heap.size, rfl, (hin2.keptX kp3 (by simp)).low (by omega), (hc.keptX kp3 (by simp; omega)).low (by omega), by omega, ?_⟩
  exact kp3.below (by simp) (by omega) |> bel2.trans
end Go.Proofs.YthmhdaefkhcenaaGreatDoor
namespace Go.Proofs.YthmhdaefkhcenaaGreatDoor
set_option maxRecDepth 100000
set_option maxHeartbeats 8000000
open Go.RowKit Go.Lib Go.MapKept

theorem bytesOf_pos (x : Int) (l : List Int) : 0 < (bytesOf (x :: l)).length := by
  have h : 0 < (Oct.putN (Oct.zig x)).length := by
    unfold Oct.putN
    split <;> simp
  simp only [bytesOf, List.length_append]
  omega
theorem cfg_pos (rate : Int) : 0 < (bytesOf (cfgL rate)).length := by
  have h : ∃ x l, cfgL rate = x :: l := ⟨_, _, rfl⟩
  obtain ⟨x, l, h⟩ := h
  rw [h]
  exact bytesOf_pos x l
theorem configured_none (k d md cl : Nat) (es : List MapEntry) (v1 v2 v3 v4 v5 v6 v7 v8 v9 v10 v11 : Value) (w : World) (hD : DiskAt w d md es cl) (hf : Instr.findNow .string (.string ⟨#[99, 111, 110, 102, 105, 103]⟩) es 0 = some none) (hK : Block w k 100 [.pointer (some ⟨d, 0, none⟩), v1, v2, v3, v4, v5, v6, v7, v8, v9, v10, v11]) :
    Calls Tryz.prog 30 #[.pointer (some ⟨k, 0, none⟩)] w fun e w' => e = .returned (.int .i64 0) ∧ Below w.heap.size w w' := by
  obtain ⟨kl, kf, k0⟩ := hK.c1
  go_enter Tryz.func30, Tryz.ntmps30
  go_wp2_with fail
  refine (read_none d md cl es _ w hD hf).mono ?_
  rintro e w1 ⟨rfl, hb1⟩
  go_wp2_with fail
  go_returns
  exact ⟨by first | rfl | simp, hb1⟩
theorem configured_some (k d md f g : Nat) (rate : Int) (h0 : 0 ≤ rate) (h1 : rate ≤ 1000000) (v1 v2 v3 v4 v5 v6 v7 v8 v9 v10 v11 : Value) (w : World) (hD : DiskAt w d md (fs3 f g) 3) (hG : File w g (bytesOf (cfgL rate))) (hK : Block w k 100 [.pointer (some ⟨d, 0, none⟩), v1, v2, v3, v4, v5, v6, v7, v8, v9, v10, v11]) :
    Calls Tryz.prog 30 #[.pointer (some ⟨k, 0, none⟩)] w fun e w' => e = .returned (.int .i64 0) ∧ ∃ jb jc qb qc K E F, Block w' k 100 [.pointer (some ⟨d, 0, none⟩), .slice (some ⟨jb, 0, none⟩) 1 jc, .slice (some ⟨qb, 0, none⟩) 1 qc, .slice none 0 0, .slice none 0 0, .slice none 0 0, .slice none 0 0, .pointer (some ⟨K, 0, none⟩), v8, v9, v10, v11] ∧
      CfgIn rate w.heap.size F w' (cfgA jb jc qb qc) ∧ CalcOk rate w.heap.size E w' K ∧ F ≤ K ∧ Kept [k] w w' := by
  have hKp := hK
  obtain ⟨kl, kf, k0, k1, k2, k3, k4, k5, k6, k7, k8, k9, k10, k11⟩ := hKp.c12
  have hcl := cfg_len rate ⟨by omega, by omega⟩
  have hcp := cfg_pos rate
  go_enter Tryz.func30, Tryz.ntmps30
  go_wp2_with fail
  refine (read_file d md g 1 3 (fs3 f g) _ _ w hD (find3_cfg f g) hG (by omega)).mono ?_
  rintro e w1 ⟨A, c, rfl, O1, hb1⟩
  have K1 := hK.call hb1
  have z1 := hb1.size
  have kl := hK.lt
  clear k0 k1 k2 k3 k4 k5 k6 k7 k8 k9 k10 k11 kf hKp hcl hcp
  go_wp2_with fail
  refine (read_desk rate h0 h1 A c w1.heap.size w1 (Shows.of_own O1) (Nat.le_refl _)).mono ?_
  rintro e w2 ⟨jb, jc, qb, qc, K, E, F, rfl, hc, hk, hFK, hb2⟩
  have K2 := K1.call hb2
  have bel2 := bel_call hb1 hb2
  have K2p := K2
  obtain ⟨kl, kf, k0, k1, k2, k3, k4, k5, k6, k7, k8, k9, k10, k11⟩ := K2p.c12
  go_wp2_with fail
  go_returns
  have kp3 : Kept [k] w2 (((((((w2.setCell ⟨k, 1, none⟩ (.slice (some ⟨jb, 0, none⟩) 1 jc)).setCell ⟨k, 2, none⟩ (.slice (some ⟨qb, 0, none⟩) 1 qc)).setCell ⟨k, 3, none⟩ (.slice none 0 0)).setCell ⟨k, 4, none⟩ (.slice none 0 0)).setCell ⟨k, 5, none⟩ (.slice none 0 0)).setCell ⟨k, 6, none⟩ (.slice none 0 0)).setCell ⟨k, 7, none⟩ (.pointer (some ⟨K, 0, none⟩))) := (((((((Kept.refl _ _).set (by simp) _).set (by simp) _).set (by simp) _).set (by simp) _).set (by simp) _).set (by simp) _).set (by simp) _
  refine ⟨by first | rfl | simp, jb, jc, qb, qc, K, E, F, (((((((K2.set 1 _).set 2 _).set 3 _).set 4 _).set 5 _).set 6 _).set 7 _), (hc.keptX kp3 (by simp; omega)).low z1, (hk.keptX kp3 (by simp; omega)).low z1, hFK, (Kept.of_below bel2).trans kp3 (by simp)⟩
end Go.Proofs.YthmhdaefkhcenaaGreatDoor
namespace Go.Proofs.YthmhdaefkhcenaaGreatDoor
open Go.RowKit Go.Lib Go.MapKept

theorem NoU8.keptX {w w' : World} {g : Nat} {X : List Nat} (h : NoU8 w g) (hK : Kept X w w') (hl : g < w.heap.size) (hg : g ∉ X) : NoU8 w' g := fun o x e => h o x ((World.cell?_of_block (a := ⟨g, o, none⟩) (hK.blk g hl hg)).symm.trans e)
set_option maxRecDepth 100000 in
set_option maxHeartbeats 8000000 in
theorem filled_fresh (k d md : Nat) (v1 v2 v3 v4 v5 v6 v7 v8 v9 v10 v11 : Value) (w : World) (hD : DiskAt w d md [] 0) (hK : Block w k 100 [.pointer (some ⟨d, 0, none⟩), v1, v2, v3, v4, v5, v6, v7, v8, v9, v10, v11]) (hu : NoU8 w k) :
    Calls Tryz.prog 31 #[.pointer (some ⟨k, 0, none⟩)] w fun e w' => e = .returned (.int .i64 0) ∧ ∃ l f, w.heap.size ≤ l ∧ w.heap.size ≤ f ∧ Block w' k 100 [.pointer (some ⟨d, 0, none⟩), v1, v2, v3, v4, v5, v6, v7, .pointer (some ⟨l, 0, none⟩), v9, v10, v11] ∧ DiskAt w' d md (fs1 f) 1 ∧ File w' f [] ∧ LedAt w' l d ∧ Kept [d, md, k] w w' := by
  have hKp := hK
  obtain ⟨kl, kf, k0, k1, k2, k3, k4, k5, k6, k7, k8, k9, k10, k11⟩ := hKp.c12
  have hkd : k ≠ d := by
    obtain ⟨⟨st, h⟩, _⟩ := hD
    exact hK.ne_type h (by decide)
  have hkm : k ≠ md := hK.ne_map hD.2
  go_enter Tryz.func31, Tryz.ntmps31
  go_wp2_with fail
  refine (open_fresh d md w hD).mono ?_
  rintro e w1 ⟨l, f, rfl, hl, hf, D1, F1, L1, kp1⟩
  have K1 := hK.keptX kp1 (by simp; exact ⟨hkd, hkm⟩)
  have zk := hK.lt
  clear k0 k1 k2 k3 k4 k5 k6 k7 k8 k9 k10 k11 kl kf hKp
  have K1p := K1
  obtain ⟨kl, kf, k0, k1, k2, k3, k4, k5, k6, k7, k8, k9, k10, k11⟩ := K1p.c12
  go_wp2_with fail
  refine wp_loop_rounds 1 ?_
  rw [rounds_succ]
  go_wp2_with fail
  go_returns
  have kp2 : Kept [k] w1 (w1.setCell ⟨k, 8, none⟩ (.pointer (some ⟨l, 0, none⟩))) := (Kept.refl _ _).set (by simp) _
  refine ⟨by first | rfl | simp, l, f, hl, hf, K1.set 8 _, D1.keptX kp2 (by simpa using hkd.symm) (by simpa using hkm.symm), F1.kept kp2 (by simp; omega) (by intro h hh; simp at hh; subst hh; exact hu.keptX kp1 zk (by simp; exact ⟨hkd, hkm⟩)), L1.keptX kp2 (by simp; omega), (kp1.mono (by simp)).trans kp2 (by simp)⟩
def recsOf (sid ds : Int) (n r t : Nat) (R : List Ref) : List (List Int) := bytesOf (saleL sid ds n r t) :: R.map fun y => bytesOf (refL y.id sid y.day y.x)
structure RefsOk (sid ds : Int) (n r t : Nat) (R : List Ref) : Prop where
  s0 : 1 ≤ sid
  s1 : sid ≤ 1099511627775
  d0 : 0 ≤ ds
  d1 : ds ≤ 3652058
  n0 : 0 < n
  n1 : n ≤ 1073741824
  r1 : r ≤ 1000000
  t1 : t ≤ 1073741824
  each : ∀ y ∈ R, 1 ≤ y.id ∧ y.id ≤ 1099511627775 ∧ ds ≤ y.day ∧ y.day ≤ 3652058 ∧ y.x ≠ 0
  nodup : (sid :: R.map (·.id)).Nodup
  sum : backs R ≤ n
  few : R.length ≤ 900
theorem shows_of_has {w : World} {g n : Nat} {xs : List Int} (h : Has w g (U8 xs)) (hn : xs.length = n) : Shows w w.heap.size 1 (some ⟨g, 0, none⟩) n (U8 xs) := by
  refine ⟨by simp [U8, hn], fun _ => ⟨g, 0, rfl, h.lt, fun j hj => ?_⟩⟩
  rw [Nat.zero_add]
  have hj' : j < (U8 xs).length := hj
  rw [h.cell (v := (U8 xs)[j]) (List.getElem?_eq_getElem hj')]
  simp [List.getD, List.getElem?_eq_getElem hj']
theorem backs_app (A B : List Ref) : backs (A ++ B) = backs A + backs B := by simp [backs]
theorem backs_take_le (R : List Ref) (j : Nat) : backs (R.take j) ≤ backs R := by
  have e : backs R = backs (R.take j) + backs (R.drop j) := by rw [← backs_app, List.take_append_drop]
  omega
theorem backs_mem : ∀ (R : List Ref) (y : Ref), y ∈ R → y.x ≤ backs R
  | [], y, h => by simp at h
  | z :: R, y, h => by
    have e : backs (z :: R) = z.x + backs R := by simp [backs]
    rcases List.mem_cons.1 h with rfl | h
    · omega
    · have := backs_mem R y h
      omega
theorem refs_recs {sid ds : Int} {n r t : Nat} {R : List Ref} (h : RefsOk sid ds n r t R) : RecsOk (recsOf sid ds n r t R) := by
  have i64 : ∀ x : Int, 0 ≤ x → x ≤ 1099511627775 → I64r x := fun x h1 h2 => ⟨by omega, by omega⟩
  have := h.s0; have := h.s1; have := h.d0; have := h.d1; have := h.n1; have := h.r1; have := h.t1
  intro z hz
  simp only [recsOf, List.mem_cons, List.mem_map] at hz
  rcases hz with rfl | ⟨y, hy, rfl⟩
  · refine ⟨bytesOf_byte _, bytesOf_pos _ _, ?_⟩
    have hl := bytesOf_short (saleL sid ds n r t) (by
      intro x hx
      simp [saleL, tlL] at hx
      rcases hx with rfl | rfl | rfl | rfl | rfl | rfl | hx <;> first | (exact i64 _ (by omega) (by omega)) | (rcases hx with rfl | rfl | rfl | rfl <;> exact i64 _ (by omega) (by omega)))
    simp [saleL, tlL] at hl ⊢
    omega
  · refine ⟨bytesOf_byte _, bytesOf_pos _ _, ?_⟩
    have h1 := h.each y hy
    have hl := bytesOf_short (refL y.id sid y.day y.x) (by
      intro x hx
      simp [refL] at hx
      have hx1 : y.x ≤ backs R := backs_mem R y hy
      have := h.sum
      rcases hx with rfl | rfl | rfl | rfl | rfl | rfl <;> exact i64 _ (by omega) (by omega))
    simp [refL] at hl ⊢
    omega
end Go.Proofs.YthmhdaefkhcenaaGreatDoor
namespace Go.Proofs.YthmhdaefkhcenaaGreatDoor
open Go.RowKit Go.Lib Go.MapKept

def BkSt (w : World) (bb m z : Nat) (sid ds : Int) (n r t : Nat) (R : List Ref) : Nat → Prop
  | 0 => Block w bb 137 [.slice none 0 0, .map (some m)] ∧ MapAt w m [] 0
  | i + 1 => ∃ ib gb lo ks, z ≤ lo ∧ BookAt w bb m ib gb lo sid ds n r t (R.take i) ks
theorem BkSt.call {w w' : World} {bb m z : Nat} {sid ds : Int} {n r t : Nat} {R : List Ref} {i : Nat} (h : BkSt w bb m z sid ds n r t R i) (hb : Below w.heap.size w w') : BkSt w' bb m z sid ds n r t R i := by
  cases i with
  | zero => exact ⟨h.1.call hb, h.2.call hb⟩
  | succ i =>
    obtain ⟨ib, gb, lo, ks, h1, h2⟩ := h
    exact ⟨ib, gb, lo, ks, h1, h2.call hb⟩
theorem read_rec {sid ds : Int} {n r t : Nat} {R : List Ref} (hR : RefsOk sid ds n r t R) (j : Nat) (hj : j < R.length + 1) (rec : List Int) (hrec : (recsOf sid ds n r t R)[j]? = some rec) (A : Option Addr) (c B : Nat) (w : World) (hs : Shows w B 1 A rec.length (U8 rec)) (hB : B ≤ w.heap.size) (hcap : rec.length ≤ c) :
    Calls Tryz.prog 59 #[.slice A rec.length c] w fun e w' => ∃ e1 e2 e3 e4 o5 n5 c5 o6 n6 c6, e = .returned (.tuple #[.agg #[.int .i64 e1, .int .i64 e2, .int .i64 e3, .int .i64 e4, .slice o5 n5 c5, .slice o6 n6 c6], .int .i64 0]) ∧ Below w.heap.size w w' ∧
      (∀ w2 bb m z, z ≤ w2.heap.size → Below w'.heap.size w' w2 → BkSt w2 bb m z sid ds n r t R j → Calls Tryz.prog 52 #[.pointer (some ⟨bb, 0, none⟩), .agg #[.int .i64 e1, .int .i64 e2, .int .i64 e3, .int .i64 e4, .slice o5 n5 c5, .slice o6 n6 c6]] w2 fun e w3 => ∃ v, e = .returned (.tuple #[v, .int .i64 0]) ∧ BkSt w3 bb m z sid ds n r t R (j + 1) ∧ ∃ X, Kept X w2 w3 ∧ (∀ k ∈ X, k = bb ∨ k = m ∨ z ≤ k) ∧ ∀ h cs, Block w2 h 88 cs → h ∉ X) := by
  have := hR.s0; have := hR.s1; have := hR.d0; have := hR.d1; have := hR.n0; have := hR.n1; have := hR.r1; have := hR.t1
  cases j with
  | zero =>
    simp only [recsOf, List.getElem?_cons_zero, Option.some.injEq] at hrec
    subst hrec
    refine (read_sale sid ds n r t (by omega) (by omega) (by omega) (by omega) (by omega) (by omega) (by omega) A c B w hs hB hcap).mono ?_
    rintro e w' ⟨ab, ac, tb, tc, rfl, _, hA, hT, hb⟩
    refine ⟨1, sid, 0, ds, some ⟨ab, 0, none⟩, 1, ac, some ⟨tb, 0, none⟩, 1, tc, rfl, hb, fun w2 bb m z hz hb2 hst => ?_⟩
    refine (bk_sale bb m sid ds ab ac tb tc n r t (by omega) (by omega) (by omega) (by omega) (by omega) (by omega) (by omega) w2 (hA.call hb2) (hT.call hb2) hst.1 hst.2).mono ?_
    rintro e w3 ⟨g, c', ib, gb, rfl, _, _, _, _, _, hbk, kp⟩
    exact ⟨_, rfl, ⟨ib, gb, w2.heap.size, [], hz, hbk⟩, _, kp, by simp, fun h cs hh => by simp; exact ⟨hh.ne_type hst.1 (by decide), hh.ne_map hst.2⟩⟩
  | succ i =>
    simp only [recsOf, List.getElem?_cons_succ, List.getElem?_map, Option.map_eq_some_iff] at hrec
    obtain ⟨y, hy, rfl⟩ := hrec
    have hym := List.mem_of_getElem? hy
    have he := hR.each y hym
    have hx := backs_mem R y hym
    have hsum := hR.sum
    refine (read_ref y.id sid y.day y.x (by omega) (by omega) (by omega) (by omega) (by omega) (by omega) he.2.2.2.2 (by omega) A c B w hs hB hcap).mono ?_
    rintro e w' ⟨ab, ac, rfl, _, hA, hb⟩
    refine ⟨2, y.id, sid, y.day, some ⟨ab, 0, none⟩, 1, ac, none, 0, 0, rfl, hb, fun w2 bb m z hz hb2 hst => ?_⟩
    obtain ⟨ib, gb, lo, ks, h1, h2⟩ := hst
    have htk := take_snoc hy
    have hbt := backs_take_le R (i + 1)
    rw [htk, backs_snoc] at hbt
    have hnd := hR.nodup
    have hil : i < R.length := (List.getElem?_eq_some_iff.1 hy).1
    have hsub : (sid :: (R.take (i + 1)).map (·.id)).Nodup := by
      refine List.Nodup.sublist ?_ hnd
      exact List.Sublist.cons_cons _ ((List.take_sublist _ _).map _)
    rw [htk, List.map_append, ← List.cons_append] at hsub
    have hsub2 := List.nodup_append.1 hsub
    refine (bk_ref bb m ib gb lo sid ds n r t (R.take i) ks y.id y.day ab ac y.x (by omega) (by omega) (by omega) (by omega) (by omega) (by omega) he.2.2.2.2 (by omega) (by omega) (by omega) (by omega) (by omega) w2 h2 (by have := hR.few; simp; omega) ?_ hsub2.1 (hA.call hb2) he.2.2.1).mono ?_
    · intro hm
      exact hsub2.2.2 _ hm _ (by simp) rfl
    rintro e w3 ⟨g, c', ib2, kr, rfl, _, _, _, h5, h6, kp⟩
    have hl := h2.lt
    have hgl := h2.glo
    refine ⟨_, rfl, ⟨ib2, gb, lo, ks ++ [kr], h1, ?_⟩, _, kp, ?_, ?_⟩
    · rw [htk]
      exact h6
    · intro k hk
      simp at hk
      rcases hk with rfl | rfl | rfl | rfl
      · simp
      · simp
      · right; right; omega
      · right; right; omega
    · intro h cs hh
      obtain ⟨_, ⟨_, _, _, _, _, _, b1, b2, b3, _⟩, hbk, _⟩ := h2
      simp
      exact ⟨hh.ne_type b1 (by decide), hh.ne_map b3, (own_ne_block b2 hh (by decide)).symm, hh.ne_type hbk (by decide)⟩
end Go.Proofs.YthmhdaefkhcenaaGreatDoor
namespace Go.Proofs.YthmhdaefkhcenaaGreatDoor
open Go.RowKit Go.Lib Go.MapKept

def FilledR (k d md f g bb m : Nat) (sid ds : Int) (n r t : Nat) (R : List Ref) (vs us : List Value) (w w' : World) : Prop := ∃ l ib gb lo ks, w.heap.size ≤ l ∧ l < lo ∧ Block w' k 100 ([.pointer (some ⟨d, 0, none⟩)] ++ vs ++ [.pointer (some ⟨l, 0, none⟩), .pointer (some ⟨bb, 0, none⟩)] ++ us) ∧ DiskAt w' d md (fs3 f g) 3 ∧ File w' f (framesL (recsOf sid ds n r t R)) ∧ LedAt w' l d ∧ BookAt w' bb m ib gb lo sid ds n r t R ks ∧ Kept [d, f, bb, m, k] w w'
set_option maxRecDepth 100000 in
set_option maxHeartbeats 8000000 in
theorem filled_old (k d md f g bb m : Nat) (sid ds : Int) (n r t : Nat) (R : List Ref) (hR : RefsOk sid ds n r t R) (v1 v2 v3 v4 v5 v6 v7 v8 v10 v11 : Value) (w : World) (hD : DiskAt w d md (fs3 f g) 3) (hF : File w f (framesL (recsOf sid ds n r t R))) (hfl : (framesL (recsOf sid ds n r t R)).length ≤ 1000000)
    (hK : Block w k 100 [.pointer (some ⟨d, 0, none⟩), v1, v2, v3, v4, v5, v6, v7, v8, .pointer (some ⟨bb, 0, none⟩), v10, v11]) (hu : NoU8 w k) (hB : Block w bb 137 [.slice none 0 0, .map (some m)]) (hM : MapAt w m [] 0) (hmd : m ≠ md) :
    Calls Tryz.prog 31 #[.pointer (some ⟨k, 0, none⟩)] w fun e w' => e = .returned (.int .i64 0) ∧ FilledR k d md f g bb m sid ds n r t R [v1, v2, v3, v4, v5, v6, v7] [v10, v11] w w' := by
  have hKp := hK
  obtain ⟨kl, kf, k0, k1, k2, k3, k4, k5, k6, k7, k8, k9, k10, k11⟩ := hKp.c12
  have hkd : k ≠ d := by
    obtain ⟨⟨st, h⟩, _⟩ := hD
    exact hK.ne_type h (by decide)
  have hkf : k ≠ f := (hF.ne hK (by decide)).symm
  have hkb : k ≠ bb := hK.ne_type hB (by decide)
  have hkm : k ≠ m := hK.ne_map hM
  have hbd : bb ≠ d := by
    obtain ⟨⟨st, h⟩, _⟩ := hD
    exact hB.ne_type h (by decide)
  have hbf : bb ≠ f := (hF.ne hB (by decide)).symm
  have hmD : m ≠ d := by
    obtain ⟨⟨st, h⟩, _⟩ := hD
    exact (h.ne_map hM).symm
  have hmf : m ≠ f := (hF.ne_map hM).symm
  have hbm : bb ≠ md := hB.ne_map hD.2
  have hrl : (recsOf sid ds n r t R).length = R.length + 1 := by simp [recsOf]
  have hfw := hR.few
  go_enter Tryz.func31, Tryz.ntmps31
  go_wp2_with fail
  refine (open_old d md f g _ w hD hF (refs_recs hR) (by omega) (by omega) ?_ hfl).mono ?_
  · rw [recsOf, framesL_cons]
    simp [frameL_len]
    omega
  rintro e w1 ⟨l, v, rfl, hl, D1, F1, L1, R1, kp1⟩
  obtain ⟨cs, hO, hcs⟩ := R1
  obtain ⟨A, c, rfl, _⟩ := own_form hO
  obtain ⟨vb, rfl, hvb, _, hV⟩ := own_has hO (by omega)
  have K1 := hK.keptX kp1 (by simp; exact ⟨hkd, hkf⟩)
  have B1 := hB.keptX kp1 (by simp; exact ⟨hbd, hbf⟩)
  have M1 := hM.keptX kp1 (by simp; exact ⟨hmD, hmf⟩)
  have u1 := hu.keptX kp1 hK.lt (by simp; exact ⟨hkd, hkf⟩)
  have zk := hK.lt
  have zb := hB.lt
  have zm := hM.lt
  have z1 := kp1.size
  have zl := L1.lt
  have zd := hD.lt
  have zf := hF.lt
  rw [hrl]
  clear k0 k1 k2 k3 k4 k5 k6 k7 k8 k9 k10 k11 kl kf hKp
  obtain ⟨N, hN⟩ : ∃ N, R.length + 1 = N := ⟨_, rfl⟩
  rw [hN] at hrl ⊢
  have HN := Lib.hid hN
  have zN : N ≤ 901 := by omega
  have Hrl := Lib.hid hrl
  clear hN hrl
  go_wp2_with fail
  go_loopw [26] (fun s26 wr => ∃ j : Nat, j ≤ N ∧ s26 = .int .i64 j ∧ BkSt wr bb m w1.heap.size sid ds n r t R j ∧ Kept [bb, m] w1 wr) (fun s26 _ => N - (intOf s26).toNat)
  case atStart => exact ⟨0, by omega, rfl, ⟨B1, M1⟩, Kept.refl _ _⟩
  case round =>
    obtain ⟨j, hj, rfl, hst, kp⟩ := hrel
    have Hst := Lib.hid hst
    have zr := kp.size
    have Kr := K1.keptX kp (by simp; exact ⟨hkb, hkm⟩)
    clear hst
    by_cases hlt : j < N
    · obtain ⟨rec, hrec⟩ : ∃ rec, (recsOf sid ds n r t R)[j]? = some rec := ⟨(recsOf sid ds n r t R)[j]'(by rw [Hrl.out]; exact hlt), List.getElem?_eq_getElem _⟩
      obtain ⟨hr0, gg, gc, hg1, hg2, hg3, hg4⟩ := hcs j rec hrec
      have i0 := (hV.keptX kp (by simp; omega)).cell hg1
      have hS := shows_of_has (hg4.keptX kp (by simp; omega)) rfl
      have q3 : (0 : Int) ≤ (j : Int) := by omega
      have q4 : (j : Int) < (N : Int) := by omega
      have Hrec := Lib.hid hrec
      clear hrec hg1
      go_wp2_with fail
      refine (read_rec hR j (by rw [HN.out]; exact hlt) rec Hrec.out _ _ wr.heap.size wr hS (Nat.le_refl _) hg3).mono ?_
      rintro e w2 ⟨e1, e2, e3, e4, o5, n5, c5, o6, n6, c6, rfl, hb2, hadd⟩
      have K2 := Kr.call hb2
      have z2 := hb2.size
      have zkr := Kr.lt
      go_upto_region 10 with (fail)
      refine at_code (fun W => Below w2.heap.size w2 W ∧ Block W w2.heap.size 88 [.int .i64 e1, .int .i64 e2, .int .i64 e3, .int .i64 e4, .slice o5 n5 c5, .slice o6 n6 c6]) ⟨by exact sBel, btop (by simp)⟩ ?_
      clear i0 hS
      rintro w3 ⟨hb3, E3⟩
      have K3 := K2.call hb3
      have K3p := K3
      have E3p := E3
      obtain ⟨kl, kf, k0, k1, k2, k3, k4, k5, k6, k7, k8, k9, k10, k11⟩ := K3p.c12
      obtain ⟨xl, xf, x0, x1, x2, x3, x4, x5⟩ := E3p.c6
      refine AnyBut.region (S := fun w' => w'.cell? ⟨k, 9, none⟩ = some (.pointer (some ⟨bb, 0, none⟩)) ∧ w'.cell? ⟨w2.heap.size, 0, none⟩ = some (.int .i64 e1) ∧ w'.cell? ⟨w2.heap.size, 1, none⟩ = some (.int .i64 e2) ∧ w'.cell? ⟨w2.heap.size, 2, none⟩ = some (.int .i64 e3) ∧ w'.cell? ⟨w2.heap.size, 3, none⟩ = some (.int .i64 e4) ∧ w'.cell? ⟨w2.heap.size, 4, none⟩ = some (.slice o5 n5 c5) ∧ w'.cell? ⟨w2.heap.size, 5, none⟩ = some (.slice o6 n6 c6)) (t := 99) 11 rfl (by kernel_rfl) ?_ ?_
      · exact ⟨k9, x0, x1, x2, x3, x4, x5⟩
      intro hS
      refine AnyBut.tk0 0 hS rfl (h := ?_); refine AnyBut.tk0 1 hS rfl (h := ?_); refine AnyBut.tk0 2 hS rfl (h := ?_); refine AnyBut.tk0 3 hS rfl (h := ?_); refine AnyBut.tk0 4 hS rfl (h := ?_)
      clear hS
      refine AnyBut.one (i := 5) rfl (by kernel_rfl) rfl ?_; intro K hKK
      go_wp2_with fail
      have bl3 : Below wr.heap.size wr w3.drew := Below.drew (bel_call hb2 hb3)
      have zw3 := bl3.size
      refine (hadd w3.drew bb m w1.heap.size (by simp at zw3 ⊢; omega) (Below.drew hb3) (Hst.out.call bl3)).mono ?_
      rintro e w4 ⟨vv, rfl, hst4, X, kp4, hX, hXE⟩
      have kw4 : Kept [bb, m] w1 w4 := ((kp.behind bl3).trans kp4 (by intro q hq; rcases hX q hq with h | h | h <;> simp [h]))
      have K4 := K1.keptX kw4 (by simp; exact ⟨hkb, hkm⟩)
      have E4 := E3.drew.keptX kp4 (hXE _ _ E3.drew)
      clear k0 k1 k2 k3 k4 k5 k6 k7 k8 k9 k10 k11 kl kf K3p E3p x0 x1 x2 x3 x4 x5 xl xf
      have K4p := K4
      have E4p := E4
      obtain ⟨kl, kf, k0, k1, k2, k3, k4, k5, k6, k7, k8, k9, k10, k11⟩ := K4p.c12
      obtain ⟨xl, xf, x0, x1, x2, x3, x4, x5⟩ := E4p.c6
      refine hKK _ _ ⟨k9, x0, x1, x2, x3, x4, x5⟩ ?_
      intro hS
      clear hKK K
      (refine AnyBut.one (i := 6) rfl (by kernel_rfl) rfl ?_; intro K hK; go_simp; refine hK _ _ hS ?_; clear hK K; intro _)
      refine AnyBut.tk0 7 hS rfl (h := ?_); refine AnyBut.tk0 8 hS rfl (h := ?_); refine AnyBut.tk0 9 hS rfl (h := ?_); refine AnyBut.tk0 10 hS rfl (h := ?_)
      clear hS
      refine AnyBut.done (by kernel_rfl) ?_
      go_wp2_with fail
      go_roundw
      case rel => exact ⟨j + 1, by omega, by go_num, hst4, kw4⟩
      case measure => simp [intOf]; omega
    · have e1 : j = N := by omega
      subst e1
      have q1 : ¬ (j : Int) < (j : Int) := by omega
      have Krp := Kr
      obtain ⟨kl, kf, k0, k1, k2, k3, k4, k5, k6, k7, k8, k9, k10, k11⟩ := Krp.c12
      go_wp2_with fail
      go_returns
      have hst := Hst.out
      rw [← HN.out] at hst
      obtain ⟨ib, gb, lo, ks, hlo, hbk⟩ := hst
      rw [List.take_of_length_le (Nat.le_refl _)] at hbk
      have kp2 : Kept [k] wr (wr.setCell ⟨k, 8, none⟩ (.pointer (some ⟨l, 0, none⟩))) := (Kept.refl _ _).set (by simp) _
      have kall : Kept [d, f, bb, m] w wr := (kp1.mono (by simp)).trans kp (by simp)
      have ub : NoU8 w1 bb := NoU8.of_block B1 (by simp)
      have um : NoU8 w1 m := NoU8.of_map M1
      have Fr := F1.kept kp (by simp; exact ⟨hbf.symm, hmf.symm⟩) (by intro h hh; simp at hh; rcases hh with rfl | rfl; exact ub; exact um)
      have hzl := hbk.lt
      refine ⟨by first | rfl | simp, l, ib, gb, lo, ks, hl, by omega, Kr.set 8 _, (D1.keptX kp (by simp; exact ⟨hbd.symm, hmD.symm⟩) (by simp; exact ⟨hbm.symm, hmd.symm⟩)).keptX kp2 (by simpa using hkd.symm) (by simp; have := D1.2; exact (hK.ne_map hD.2).symm), Fr.kept kp2 (by simpa using hkf.symm) (by intro h hh; simp at hh; subst hh; exact u1.keptX kp K1.lt (by simp; exact ⟨hkb, hkm⟩)), (L1.keptX kp (by simp; omega)).keptX kp2 (by simp; omega), hbk.keptX kp2 (by simp; omega) (by simpa using hkb.symm) (by simpa using hkm.symm), (kall.mono (by simp)).trans kp2 (by simp)⟩
end Go.Proofs.YthmhdaefkhcenaaGreatDoor
namespace Go.Proofs.YthmhdaefkhcenaaGreatDoor
set_option maxRecDepth 100000
set_option maxHeartbeats 8000000
open Go.RowKit Go.Lib Go.MapKept

theorem open1 (x d md cl : Nat) (es : List MapEntry) (w : World) (h0 : w.cell? ⟨x, 0, none⟩ = some (.pointer (some ⟨d, 0, none⟩))) (hD : DiskAt w d md es cl) (hf : Instr.findNow .string (.string ⟨#[99, 111, 110, 102, 105, 103, 46, 116, 109, 112]⟩) es 0 = some none) :
    Calls Tryz.prog 28 #[.pointer (some ⟨x, 0, none⟩)] w fun e w' => e = .returned (.int .i64 0) ∧ Below w.heap.size w w' := by
  go_enter Tryz.func28, Tryz.ntmps28
  go_wp2_with fail
  refine (leftover_none d md cl es w hD hf).mono ?_
  rintro e w1 ⟨rfl, hb1⟩
  go_wp2_with fail
  go_returns
  exact ⟨by first | rfl | simp, hb1⟩
def FreshR (d md : Nat) (w : World) (e : Ending) (w' : World) : Prop := ∃ k l f bb m, e = .returned (.tuple #[.pointer (some ⟨k, 0, none⟩), .int .i64 0]) ∧ (w.heap.size ≤ k ∧ w.heap.size ≤ l ∧ w.heap.size ≤ f ∧ w.heap.size ≤ bb ∧ w.heap.size ≤ m) ∧
  Block w' k 100 [.pointer (some ⟨d, 0, none⟩), .slice none 0 0, .slice none 0 0, .slice none 0 0, .slice none 0 0, .slice none 0 0, .slice none 0 0, .pointer none, .pointer (some ⟨l, 0, none⟩), .pointer (some ⟨bb, 0, none⟩), .int .i64 0, .bool false] ∧
  DiskAt w' d md (fs1 f) 1 ∧ File w' f [] ∧ LedAt w' l d ∧ Block w' bb 137 [.slice none 0 0, .map (some m)] ∧ MapAt w' m [] 0 ∧ Kept [d, md] w w'
theorem open_new (d md : Nat) (w : World) (hD : DiskAt w d md [] 0) : Calls Tryz.prog 14 #[.pointer (some ⟨d, 0, none⟩)] w (FreshR d md w) := by
  have hmf : ∀ (fn : Fn) (first cap : Array Value) (w : World), (Instr.makeFunc fn first cap).run Tryz.prog w = .ok (.func fn first cap) w := fun _ _ _ _ => rfl
  have hzd := hD.lt
  go_enter Tryz.func14, Tryz.ntmps14
  go_upto_region 1 with (fail)
  refine AnyBut.region (S := fun w' => w'.cell? ⟨w.heap.size, 0, none⟩ = some (.pointer (some ⟨d, 0, none⟩))) (t := 99) 5 rfl (by kernel_rfl) (by go_simp) ?_
  intro hS
  refine AnyBut.tk0 0 hS rfl (h := ?_)
  clear hS
  refine AnyBut.one (i := 1) rfl (by kernel_rfl) rfl ?_; intro K hKK
  go_wp2_with fail
  refine (new_book _).mono ?_
  rintro e w1 ⟨bb, m, rfl, hbb, hm, hbm, B1, M1, hb1⟩
  have bel1 : Below w.heap.size w w1 := bel_call (by exact sBel) hb1
  have X0 : Block w1 w.heap.size 24 [.pointer (some ⟨d, 0, none⟩)] := Block.call (by exact sBlk) hb1
  have X0p := X0
  obtain ⟨al, af, a0⟩ := X0p.c1
  refine hKK _ _ a0 ?_
  intro hS
  clear hKK K
  refine AnyBut.tk0 2 hS rfl (h := ?_)
  clear hS
  refine AnyBut.one (i := 3) rfl (by kernel_rfl) rfl ?_; intro K hK; go_simp; refine hK _ _ ?_ ?_ <;> clear hK K; rotate_left; intro hS; rotate_left
  · go_simp
  (refine AnyBut.one (i := 4) rfl (by kernel_rfl) rfl ?_; intro K hK; go_simp; refine hK _ _ hS ?_; clear hK K; intro _)
  clear hS
  refine AnyBut.done (by kernel_rfl) ?_
  go_wp2_with fail
  refine wp_loop_rounds 4 ?_
  refine at_code (fun W => Below w1.heap.size w1 W ∧ Block W w.heap.size 24 [.pointer (some ⟨d, 0, none⟩)] ∧ Block W w1.heap.size 100 [.pointer (some ⟨d, 0, none⟩), .slice none 0 0, .slice none 0 0, .slice none 0 0, .slice none 0 0, .slice none 0 0, .slice none 0 0, .pointer none, .pointer none, .pointer (some ⟨bb, 0, none⟩), .int .i64 0, .bool false] ∧ Has W (w1.heap.size + 1) [.func (.func 28) #[] #[.pointer (some ⟨w.heap.size, 0, none⟩)], .func (.func 30) #[.pointer (some ⟨w1.heap.size, 0, none⟩)] #[], .func (.func 31) #[.pointer (some ⟨w1.heap.size, 0, none⟩)] #[]]) ⟨by exact sBel, by exact sBlk, by exact sBlk, Has.of_block (btop (by simp))⟩ ?_
  have z1 := bel1.size
  have zx := X0.lt
  have zbb := B1.lt
  have zmm := M1.lt
  simp at hbb hm
  clear X0 X0p a0 al af
  rintro w2 ⟨hb2, X0, K2, Q2⟩
  have bel2 := bel_call bel1 hb2
  have B2 := B1.call hb2
  have M2 := M1.call hb2
  have z2 := hb2.size
  have zq := Q2.lt
  have X0p := X0
  have Q2p := Q2
  obtain ⟨al, af, a0⟩ := X0p.c1
  have ql := Q2p.lt; have q0 := Q2p.cell (j := 0) rfl; have q1 := Q2p.cell (j := 1) rfl; have q2 := Q2p.cell (j := 2) rfl
  go_wp2_with fail
  refine (open1 _ d md 0 [] w2 a0 (hD.call bel2) (find0 _)).mono ?_
  rintro e w3 ⟨rfl, hb3⟩
  have bel3 := bel_call bel2 hb3
  have B3 := B2.call hb3
  have M3 := M2.call hb3
  have K3 := K2.call hb3
  have Q3 := Q2.call hb3
  have z3 := hb3.size
  clear a0 al af q0 q1 q2 ql X0p Q2p
  have Q3p := Q3
  have ql := Q3p.lt; have q0 := Q3p.cell (j := 0) rfl; have q1 := Q3p.cell (j := 1) rfl; have q2 := Q3p.cell (j := 2) rfl
  go_wp2_with fail
  rw [rounds_succ]
  go_wp2_with fail
  refine (configured_none w1.heap.size d md 0 [] _ _ _ _ _ _ _ _ _ _ _ w3 (hD.call bel3) (find0 _) K3).mono ?_
  rintro e w4 ⟨rfl, hb4⟩
  have bel4 := bel_call bel3 hb4
  have B4 := B3.call hb4
  have M4 := M3.call hb4
  have K4 := K3.call hb4
  have Q4 := Q3.call hb4
  have z4 := hb4.size
  clear q0 q1 q2 ql Q3p
  have Q4p := Q4
  have ql := Q4p.lt; have q0 := Q4p.cell (j := 0) rfl; have q1 := Q4p.cell (j := 1) rfl; have q2 := Q4p.cell (j := 2) rfl
  go_wp2_with fail
  rw [rounds_succ]
  go_wp2_with fail
  refine (filled_fresh w1.heap.size d md _ _ _ _ _ _ _ _ _ _ _ w4 (hD.call bel4) K4 (NoU8.of_block K4 (by simp))).mono ?_
  rintro e w5 ⟨rfl, l, f, hl, hf, K5, D5, F5, L5, kp5⟩
  have hmd : m ∉ [d, md, w1.heap.size] := by simp; omega
  have hbd : bb ∉ [d, md, w1.heap.size] := by simp; omega
  have B5 := B4.keptX kp5 hbd
  have M5 := M4.keptX kp5 hmd
  have Q5 := Q4.keptX kp5 (by simp; omega)
  clear q0 q1 q2 ql Q4p
  have Q5p := Q5
  have ql := Q5p.lt; have q0 := Q5p.cell (j := 0) rfl; have q1 := Q5p.cell (j := 1) rfl; have q2 := Q5p.cell (j := 2) rfl
  go_wp2_with fail
  rw [rounds_succ]
  go_wp2_with fail
  go_returns
  exact ⟨w1.heap.size, l, f, bb, m, by first | rfl | simp, ⟨by omega, by omega, by omega, by omega, by omega⟩, K5, D5, F5, L5, B5, M5, (Kept.of_below (X := [d, md]) bel4).trans kp5 (by simp; omega)⟩
def FileB (w : World) (B f : Nat) (xs : List Int) : Prop := ∃ sv, Block w f 131 [sv, .slice none 0 0] ∧ SafeV w B sv xs
theorem FileB.up {w : World} {B C f : Nat} {xs : List Int} (h : FileB w B f xs) (hB : B ≤ C) : FileB w C f xs := by
  obtain ⟨sv, h1, h2⟩ := h
  exact ⟨sv, h1, h2.up hB⟩
theorem FileB.file {w : World} {B f : Nat} {xs : List Int} (h : FileB w B f xs) (hB : B ≤ w.heap.size) : File w f xs := h.up hB
theorem FileB.keptX {w w' : World} {B f : Nat} {X : List Nat} {xs : List Int} (h : FileB w B f xs) (hK : Kept X w w') (hB : B ≤ w.heap.size) (hf : f ∉ X) (hX : ∀ k ∈ X, NoU8 w k ∨ B ≤ k) : FileB w' B f xs := by
  obtain ⟨sv, h1, h2⟩ := h
  refine ⟨sv, h1.keptX hK hf, ?_⟩
  rcases h2 with h | ⟨a, c, e1, e2, e3⟩
  · exact .inl h
  · refine .inr ⟨a, c, e1, e2, e3.1, fun hn => ?_⟩
    obtain ⟨b, off, e, hb, hc⟩ := e3.2 hn
    have hbX : b ∉ X := fun hm => by
      rcases hX b hm with h | h
      · have h0 := hc 0 (by simpa [U8] using e2)
        cases xs with
        | nil => simp at e2
        | cons x xs => exact h (off + 0) x h0
      · omega
    exact ⟨b, off, e, hb, fun j hj => (World.cell?_of_block (a := ⟨b, off + j, none⟩) (hK.blk b (by omega) hbX)).trans (hc j hj)⟩
theorem FileB.call {w w' : World} {B f : Nat} {xs : List Int} (h : FileB w B f xs) (hb : Below w.heap.size w w') (hB : B ≤ w.heap.size) : FileB w' B f xs := h.keptX (Kept.of_below (X := []) hb) hB (by simp) (by simp)
structure DeskS (w : World) (k d md f g l bb m ib gb lo : Nat) (rate : Int) (jb jc qb qc K : Nat) (sid ds : Int) (n r t : Nat) (R : List Ref) (ks : List Nat) : Prop where
  desk : Block w k 100 [.pointer (some ⟨d, 0, none⟩), .slice (some ⟨jb, 0, none⟩) 1 jc, .slice (some ⟨qb, 0, none⟩) 1 qc, .slice none 0 0, .slice none 0 0, .slice none 0 0, .slice none 0 0, .pointer (some ⟨K, 0, none⟩), .pointer (some ⟨l, 0, none⟩), .pointer (some ⟨bb, 0, none⟩), .int .i64 0, .bool false]
  disk : DiskAt w d md (fs3 f g) 3
  log : File w f (framesL (recsOf sid ds n r t R))
  cfg : FileB w lo g (bytesOf (cfgL rate))
  led : LedAt w l d
  bk : BookAt w bb m ib gb lo sid ds n r t R ks
  fg : f ≠ g
  mm : m ≠ md
  low : d < lo ∧ md < lo ∧ f < lo ∧ g < lo ∧ l < lo ∧ k < lo ∧ bb < lo ∧ m < lo
def AgainR (d md f g : Nat) (rate sid ds : Int) (n r t : Nat) (R : List Ref) (w : World) (e : Ending) (w' : World) : Prop := ∃ k l bb m ib gb lo jb jc qb qc K nn F ks, e = .returned (.tuple #[.pointer (some ⟨k, 0, none⟩), .int .i64 0]) ∧ (w.heap.size ≤ k ∧ w.heap.size ≤ l ∧ w.heap.size ≤ bb ∧ w.heap.size ≤ m) ∧ (w.heap.size ≤ nn ∧ w.heap.size ≤ lo ∧ w.heap.size ≤ ib) ∧
  CfgIn rate nn F w' (cfgA jb jc qb qc) ∧ DeskS w' k d md f g l bb m ib gb lo rate jb jc qb qc K sid ds n r t R ks ∧ Kept [d, f] w w'
theorem open_again (d md f g : Nat) (rate : Int) (h0 : 0 ≤ rate) (h1 : rate ≤ 1000000) (sid ds : Int) (n r t : Nat) (R : List Ref) (hR : RefsOk sid ds n r t R) (w : World) (hD : DiskAt w d md (fs3 f g) 3) (hF : File w f (framesL (recsOf sid ds n r t R))) (hG : File w g (bytesOf (cfgL rate))) (hfg : f ≠ g) (hfl : (framesL (recsOf sid ds n r t R)).length ≤ 1000000) :
    Calls Tryz.prog 14 #[.pointer (some ⟨d, 0, none⟩)] w (AgainR d md f g rate sid ds n r t R w) := by
  have hmf : ∀ (fn : Fn) (first cap : Array Value) (w : World), (Instr.makeFunc fn first cap).run Tryz.prog w = .ok (.func fn first cap) w := fun _ _ _ _ => rfl
  have hzd := hD.lt
  go_enter Tryz.func14, Tryz.ntmps14
  go_upto_region 1 with (fail)
  refine AnyBut.region (S := fun w' => w'.cell? ⟨w.heap.size, 0, none⟩ = some (.pointer (some ⟨d, 0, none⟩))) (t := 99) 5 rfl (by kernel_rfl) (by go_simp) ?_
  intro hS
  refine AnyBut.tk0 0 hS rfl (h := ?_)
  clear hS
  refine AnyBut.one (i := 1) rfl (by kernel_rfl) rfl ?_; intro K hKK
  go_wp2_with fail
  refine (new_book _).mono ?_
  rintro e w1 ⟨bb, m, rfl, hbb, hm, hbm, B1, M1, hb1⟩
  have bel1 : Below w.heap.size w w1 := bel_call (by exact sBel) hb1
  have X0 : Block w1 w.heap.size 24 [.pointer (some ⟨d, 0, none⟩)] := Block.call (by exact sBlk) hb1
  have X0p := X0
  obtain ⟨al, af, a0⟩ := X0p.c1
  refine hKK _ _ a0 ?_
  intro hS
  clear hKK K
  refine AnyBut.tk0 2 hS rfl (h := ?_)
  clear hS
  refine AnyBut.one (i := 3) rfl (by kernel_rfl) rfl ?_; intro K hK; go_simp; refine hK _ _ ?_ ?_ <;> clear hK K; rotate_left; intro hS; rotate_left
  · go_simp
  (refine AnyBut.one (i := 4) rfl (by kernel_rfl) rfl ?_; intro K hK; go_simp; refine hK _ _ hS ?_; clear hK K; intro _)
  clear hS
  refine AnyBut.done (by kernel_rfl) ?_
  go_wp2_with fail
  refine wp_loop_rounds 4 ?_
  refine at_code (fun W => Below w1.heap.size w1 W ∧ Block W w.heap.size 24 [.pointer (some ⟨d, 0, none⟩)] ∧ Block W w1.heap.size 100 [.pointer (some ⟨d, 0, none⟩), .slice none 0 0, .slice none 0 0, .slice none 0 0, .slice none 0 0, .slice none 0 0, .slice none 0 0, .pointer none, .pointer none, .pointer (some ⟨bb, 0, none⟩), .int .i64 0, .bool false] ∧ Has W (w1.heap.size + 1) [.func (.func 28) #[] #[.pointer (some ⟨w.heap.size, 0, none⟩)], .func (.func 30) #[.pointer (some ⟨w1.heap.size, 0, none⟩)] #[], .func (.func 31) #[.pointer (some ⟨w1.heap.size, 0, none⟩)] #[]]) ⟨by exact sBel, by exact sBlk, by exact sBlk, Has.of_block (btop (by simp))⟩ ?_
  have z1 := bel1.size
  have zx := X0.lt
  have zbb := B1.lt
  have zmm := M1.lt
  simp at hbb hm
  clear X0 X0p a0 al af
  rintro w2 ⟨hb2, X0, K2, Q2⟩
  have bel2 := bel_call bel1 hb2
  have B2 := B1.call hb2
  have M2 := M1.call hb2
  have z2 := hb2.size
  have zq := Q2.lt
  have X0p := X0
  have Q2p := Q2
  obtain ⟨al, af, a0⟩ := X0p.c1
  have ql := Q2p.lt; have q0 := Q2p.cell (j := 0) rfl; have q1 := Q2p.cell (j := 1) rfl; have q2 := Q2p.cell (j := 2) rfl
  go_wp2_with fail
  refine (open1 _ d md 3 (fs3 f g) w2 a0 (hD.call bel2) (find3_tmp f g)).mono ?_
  rintro e w3 ⟨rfl, hb3⟩
  have bel3 := bel_call bel2 hb3
  have B3 := B2.call hb3
  have M3 := M2.call hb3
  have K3 := K2.call hb3
  have Q3 := Q2.call hb3
  have z3 := hb3.size
  clear a0 al af q0 q1 q2 ql X0p Q2p
  have Q3p := Q3
  have ql := Q3p.lt; have q0 := Q3p.cell (j := 0) rfl; have q1 := Q3p.cell (j := 1) rfl; have q2 := Q3p.cell (j := 2) rfl
  go_wp2_with fail
  rw [rounds_succ]
  go_wp2_with fail
  refine (configured_some w1.heap.size d md f g rate h0 h1 _ _ _ _ _ _ _ _ _ _ _ w3 (hD.call bel3) (hG.call bel3) K3).mono ?_
  rintro e w4 ⟨rfl, jb, jc, qb, qc, K, E, F, K4, hc4, hk4, hFK, kp4⟩
  have kpw : Kept [] w w4 := (Kept.of_below (X := []) bel3).trans kp4 (by simp; omega)
  have bel4 : Below w.heap.size w w4 := kpw.below (by simp) (Nat.le_refl _)
  have B4 := B3.keptX kp4 (by simp; omega)
  have M4 := M3.keptX kp4 (by simp; omega)
  have Q4 := Q3.keptX kp4 (by simp)
  have z4 := kp4.size
  clear q0 q1 q2 ql Q3p
  have Q4p := Q4
  have ql := Q4p.lt; have q0 := Q4p.cell (j := 0) rfl; have q1 := Q4p.cell (j := 1) rfl; have q2 := Q4p.cell (j := 2) rfl
  go_wp2_with fail
  rw [rounds_succ]
  go_wp2_with fail
  have hmd : m ≠ md := by omega
  refine (filled_old w1.heap.size d md f g bb m sid ds n r t R hR _ _ _ _ _ _ _ _ _ _ w4 (hD.call bel4) (hF.call bel4) hfl K4 (NoU8.of_block K4 (by simp)) B4 M4 hmd).mono ?_
  rintro e w5 ⟨rfl, l, ib, gb, lo, ks, hl, hlo, K5, D5, F5, L5, hbk5, kp5⟩
  have hzf := hF.lt
  have hzg := hG.lt
  have Q5 := Q4.keptX kp5 (by simp; omega)
  have hgd := hD.file hG
  have G5 : FileB w5 w4.heap.size g (bytesOf (cfgL rate)) := FileB.keptX (hG.call bel4) kp5 (Nat.le_refl _) (by simp; omega) (by
    intro h hh
    simp at hh
    rcases hh with rfl | rfl | rfl | rfl | rfl
    · exact .inl (hD.call bel4).noU8.1
    · exact .inl (hF.call bel4).noU8
    · exact .inl (NoU8.of_block B4 (by simp))
    · exact .inl (NoU8.of_map M4)
    · exact .inl (NoU8.of_block K4 (by simp)))
  have hc5 := hc4.keptX kp5 (by simp; omega)
  have hkl := hk4.lt
  have hlb := hbk5.lt
  clear q0 q1 q2 ql Q4p
  have Q5p := Q5
  have ql := Q5p.lt; have q0 := Q5p.cell (j := 0) rfl; have q1 := Q5p.cell (j := 1) rfl; have q2 := Q5p.cell (j := 2) rfl
  go_wp2_with fail
  rw [rounds_succ]
  go_wp2_with fail
  go_returns
  exact ⟨w1.heap.size, l, bb, m, ib, gb, lo, jb, jc, qb, qc, K, w3.heap.size, F, ks, by first | rfl | simp, ⟨by omega, by omega, by omega, by omega⟩, ⟨by omega, by omega, by omega⟩, hc5, ⟨K5, D5, F5, G5.up (by omega), L5, hbk5, hfg, by omega, ⟨by omega, by omega, by omega, by omega, by omega, by omega, by omega, by omega⟩⟩, (Kept.of_below (X := [d, f]) bel4).trans kp5 (by simp; omega)⟩
end Go.Proofs.YthmhdaefkhcenaaGreatDoor
namespace Go.Proofs.YthmhdaefkhcenaaGreatDoor
set_option maxRecDepth 100000
set_option maxHeartbeats 8000000
open Go.RowKit Go.Lib Go.MapKept

theorem load1 (x0 x1 k d md f : Nat) (A : Option Addr) (n c : Nat) (ys : List Int) (v1 v2 v3 v4 v5 v6 v7 v8 v9 v10 v11 : Value) (w : World) (h0 : Block w x0 26 [.pointer (some ⟨k, 0, none⟩)]) (h1 : Block w x1 71 [.slice A n c]) (hK : Block w k 100 [.pointer (some ⟨d, 0, none⟩), v1, v2, v3, v4, v5, v6, v7, v8, v9, v10, v11])
    (hD : DiskAt w d md (fs1 f) 1) (hY : Shows w w.heap.size 1 A n (U8 ys)) (hn0 : 0 < n) (hn : n ≤ 500000) :
    Calls Tryz.prog 39 #[.pointer (some ⟨x0, 0, none⟩), .pointer (some ⟨x1, 0, none⟩)] w fun e w' => e = .returned (.int .i64 0) ∧ ∃ g, w.heap.size ≤ g ∧ DiskAt w' d md (fs2 f g) 2 ∧ FileMore w' g [] ys ∧ Kept [d, md] w w' := by
  have hA := h0
  have hB := h1
  have hKp := hK
  obtain ⟨al, af, a0⟩ := hA.c1
  obtain ⟨bl, bf, b0⟩ := hB.c1
  obtain ⟨kl, kf, k0, k1, k2, k3, k4, k5, k6, k7, k8, k9, k10, k11⟩ := hKp.c12
  have hkd : k ≠ d := by
    obtain ⟨⟨st, h⟩, _⟩ := hD
    exact hK.ne_type h (by decide)
  have hkm : k ≠ md := hK.ne_map hD.2
  have h0d : x0 ≠ d := by
    obtain ⟨⟨st, h⟩, _⟩ := hD
    exact h0.ne_type h (by decide)
  have h0m : x0 ≠ md := h0.ne_map hD.2
  have h1d : x1 ≠ d := by
    obtain ⟨⟨st, h⟩, _⟩ := hD
    exact h1.ne_type h (by decide)
  have h1m : x1 ≠ md := h1.ne_map hD.2
  go_enter Tryz.func39, Tryz.ntmps39
  go_upto_region 1 with (fail)
  refine AnyBut.region (S := fun w' => w'.cell? ⟨x0, 0, none⟩ = some (.pointer (some ⟨k, 0, none⟩)) ∧ w'.cell? ⟨x1, 0, none⟩ = some (.slice A n c) ∧ w'.cell? ⟨k, 0, none⟩ = some (.pointer (some ⟨d, 0, none⟩))) (t := 99) 7 rfl (by kernel_rfl) ?_ ?_
  · exact ⟨a0, b0, k0⟩
  intro hS
  refine AnyBut.tk0 0 hS rfl (h := ?_); refine AnyBut.tk0 1 hS rfl (h := ?_); refine AnyBut.tk0 2 hS rfl (h := ?_); refine AnyBut.tk0 3 hS rfl (h := ?_); refine AnyBut.tk0 4 hS rfl (h := ?_)
  clear hS
  refine AnyBut.one (i := 5) rfl (by kernel_rfl) rfl ?_; intro K hKK
  go_wp2_with fail
  refine (append_new d md 1 (fs1 f) _ A n c ys w.drew (hD.call (Below.drew (Below.refl _ _))) named_tmp (find1_tmp f) (by simp [fs1]) hY hn0 hn).mono ?_
  rintro e w1 ⟨rfl, g, hg, D1, M1, kp1⟩
  have A1 := h0.drew.keptX kp1 (by simp; exact ⟨h0d, h0m⟩)
  have B1 := h1.drew.keptX kp1 (by simp; exact ⟨h1d, h1m⟩)
  have K1 := hK.drew.keptX kp1 (by simp; exact ⟨hkd, hkm⟩)
  refine hKK _ _ ⟨A1.cell 0, B1.cell 0, K1.cell 0⟩ ?_
  intro hS
  clear hKK K
  (refine AnyBut.one (i := 6) rfl (by kernel_rfl) rfl ?_; intro K hK; go_simp; refine hK _ _ hS ?_; clear hK K; intro _)
  clear hS
  refine AnyBut.done (by kernel_rfl) ?_
  go_wp2_with fail
  go_returns
  exact ⟨by first | rfl | simp, g, hg, D1, M1, (Kept.of_below (X := [d, md]) (Below.drew (Below.refl _ _))).trans kp1 (by simp)⟩
theorem load2 (x0 k d md f g : Nat) (ys : List Int) (v1 v2 v3 v4 v5 v6 v7 v8 v9 v10 v11 : Value) (w : World) (h0 : Block w x0 26 [.pointer (some ⟨k, 0, none⟩)]) (hK : Block w k 100 [.pointer (some ⟨d, 0, none⟩), v1, v2, v3, v4, v5, v6, v7, v8, v9, v10, v11])
    (hD : DiskAt w d md (fs2 f g) 2) (hM : FileMore w g [] ys) (hn : ys.length ≤ 500000) :
    Calls Tryz.prog 41 #[.pointer (some ⟨x0, 0, none⟩)] w fun e w' => e = .returned (.int .i64 0) ∧ DiskAt w' d md (fs2 f g) 2 ∧ FileL w' w.heap.size g ys ∧ Kept [d, g] w w' := by
  obtain ⟨al, af, a0⟩ := h0.c1
  obtain ⟨kl, kf, k0, k1, k2, k3, k4, k5, k6, k7, k8, k9, k10, k11⟩ := hK.c12
  go_enter Tryz.func41, Tryz.ntmps41
  go_wp2_with fail
  refine (sync_moreL d md g 1 2 (fs2 f g) _ [] ys w hD (find2_tmp f g) hM (by simp; omega)).mono ?_
  rintro e w1 ⟨rfl, D1, F1, kp1⟩
  go_wp2_with fail
  go_returns
  exact ⟨by first | rfl | simp, D1, F1, kp1⟩
theorem load3 (x0 k d md f g : Nat) (ys : List Int) (v1 v2 v3 v4 v5 v6 v7 v8 v9 v10 v11 : Value) (w : World) (h0 : Block w x0 26 [.pointer (some ⟨k, 0, none⟩)]) (hK : Block w k 100 [.pointer (some ⟨d, 0, none⟩), v1, v2, v3, v4, v5, v6, v7, v8, v9, v10, v11])
    (hD : DiskAt w d md (fs2 f g) 2) (hF : File w g ys) :
    Calls Tryz.prog 43 #[.pointer (some ⟨x0, 0, none⟩)] w fun e w' => e = .returned (.int .i64 0) ∧ DiskAt w' d md (fs3 f g) 3 ∧ Kept [d, md] w w' := by
  obtain ⟨al, af, a0⟩ := h0.c1
  obtain ⟨kl, kf, k0, k1, k2, k3, k4, k5, k6, k7, k8, k9, k10, k11⟩ := hK.c12
  go_enter Tryz.func43, Tryz.ntmps43
  go_wp2_with fail
  obtain ⟨⟨st, hd⟩, hm⟩ := hD
  obtain ⟨sv, hf, _⟩ := hF
  refine (rename_tmp d md f g st sv w hd hm hf).mono ?_
  rintro e w1 ⟨rfl, st', D1, M1, kp1⟩
  go_wp2_with fail
  go_returns
  exact ⟨by first | rfl | simp, ⟨⟨st', D1⟩, M1⟩, kp1⟩
end Go.Proofs.YthmhdaefkhcenaaGreatDoor
