/- Lemmas for it; no condition: TFil4 TFil5 TCfg TNext. -/
import Derived.Test.YthmhdaefkhcenaaGreatDoorZ02
import Derived.Test.YthmhdaefkhcenaaGreatDoorZ08
import Derived.Test.YthmhdaefkhcenaaGreatDoorZ09
import Derived.Test.YthmhdaefkhcenaaGreatDoorZ11
import Derived.Test.YthmhdaefkhcenaaGreatDoorZ14
import Derived.Test.YthmhdaefkhcenaaGreatDoorZ15
set_option linter.unusedVariables false
set_option linter.unusedSimpArgs false
namespace Go.Proofs.YthmhdaefkhcenaaGreatDoor
set_option maxRecDepth 100000
set_option maxHeartbeats 8000000
open Go.RowKit Go.Lib Go.MapKept

theorem len_files {w : World} {md cl ty : Nat} {es : List MapEntry} (h : MapAt w md es cl) : (Builtin.len_ #[63] ty #[.map (some md)]).run Tryz.prog w = .ok (.int .i64 es.length) w := by
  simp [Builtin.len_, Sem.run_bind, run_underlying Tryz.underlying63, get_map h, Result.andThen, goInt]

theorem append1 (d md cl : Nat)  (st : Int) (es : List MapEntry) (s : ByteArray)   (w : World) (hD : Block w d 70 [.map (some md), .int .i64 st, .int .i64 (-1), .bool false]) (hM : MapAt w md es cl) (hnm : ∀ w, Calls Tryz.prog 85 #[.string s] w fun e w' => e = .returned (.bool true) ∧ Below w.heap.size w w') (hf : Instr.findNow .string (.string s) es 0 = some none) (hes : es.length ≤ 15)  :
    Calls Tryz.prog 40 #[.pointer (some ⟨d, 0, none⟩), .string s, (.slice none 0 0)] w fun e w' => e = .returned (.int .i64 0) ∧ ∃ f, w.heap.size ≤ f ∧ ∃ st', Block w' d 70 [.map (some md), .int .i64 st', .int .i64 (-1), .bool false] ∧ MapAt w' md (es ++ [fE (.string s) f cl]) (cl + 1) ∧ Block w' f 131 [.slice none 0 0, .slice none 0 0] ∧ Kept [d, md] w w' := by
  have hp0 := filep_nil
  go_enter Tryz.func40, Tryz.ntmps40
  go_wp2_with fail
  refine (down_disk d md _ _ false _ (((hD.alloc _).alloc _).alloc _)).mono ?_
  rintro e w1 ⟨rfl, hb1⟩
  have bel1 : Below w.heap.size w w1 := bel_call (by exact sBel) hb1
  have X0 : Block w1 w.heap.size 24 [.pointer (some ⟨d, 0, none⟩)] := Block.call (by exact sBlk) hb1
  have X1 : Block w1 (w.heap.size + 1) 9 [.string s] := Block.call (by exact sBlk) hb1
  have X2 : Block w1 (w.heap.size + 1 + 1) 71 [(.slice none 0 0)] := Block.call (by exact sBlk) hb1
  have D1 := hD.call bel1
  have M1 := hM.call bel1
  clear hb1
  have X0p := X0
  have X1p := X1
  obtain ⟨al, af, a0⟩ := X0p.c1
  obtain ⟨bl, bf, b0⟩ := X1p.c1
  obtain ⟨kl, kf, k0, k1, k2, k3⟩ := D1.c4
  go_upto_region 4 with (fail)
  refine AnyBut.region (S := fun w' => w'.cell? ⟨w.heap.size, 0, none⟩ = some (.pointer (some ⟨d, 0, none⟩)) ∧ w'.cell? ⟨d, 0, none⟩ = some (.map (some md)) ∧ w'.cell? ⟨w.heap.size + 1, 0, none⟩ = some (.string s) ∧ (Instr.lookup 63 (.map (some md)) (.string s) false).run Tryz.prog w' = .ok (.pointer none) w') (t := 7) 8 rfl (by kernel_rfl) ?_ ?_
  · exact ⟨a0, k0, b0, file_miss (MapAt.drew M1) hf⟩
  intro hS
  refine AnyBut.tk 0 hS rfl (h := ?_); refine AnyBut.tk 1 hS rfl (h := ?_); refine AnyBut.tk 2 hS rfl (h := ?_); refine AnyBut.tk 3 hS rfl (h := ?_); refine AnyBut.tk 4 hS rfl (h := ?_); refine AnyBut.tk 5 hS rfl (h := ?_)
  clear hS
  refine AnyBut.one (i := 6) rfl (by kernel_rfl) rfl ?_; intro K hK; go_simp; refine hK _ _ ?_ ?_ <;> clear hK K; rotate_left; intro hS; rotate_left
  · refine ⟨?_, ?_, ?_, ?_⟩ <;> first | (go_simp; done) | exact file_miss ((MapAt.drew M1).alloc _) hf
  clear hS
  refine AnyBut.last rfl (by kernel_rfl) rfl (by kernel_rfl) ?_; intro K hK; go_simp; refine hK _ _ ?_; clear hK K
  go_upto_region 5 with (fail)
  refine at_code (fun W => Below w.heap.size w W ∧ W.heap.size = w1.heap.size + 1 ∧ Block W w.heap.size 24 [.pointer (some ⟨d, 0, none⟩)] ∧ Block W (w.heap.size + 1) 9 [.string s] ∧ Block W (w.heap.size + 1 + 1) 71 [(.slice none 0 0)] ∧ Block W w1.heap.size 92 [(.pointer none)]) ⟨by exact sBel, by simp, by exact sBlk, by exact sBlk, by exact sBlk, by exact sBlk⟩ ?_
  have zx2 := X2.lt
  clear a0 al af b0 bl bf k0 k1 k2 k3 kl kf D1 M1 X0 X1 X2 X0p X1p
  rintro w2 ⟨bel2, z2, X0, X1, X2, X3⟩
  obtain ⟨bl, bf, b0⟩ := X1.c1
  go_wp2_with fail
  refine (hnm w2).mono ?_
  rintro e w3 ⟨rfl, hb3⟩
  have bel3 := bel_call bel2 hb3
  have Y0 := X0.call hb3
  have Y1 := X1.call hb3
  have Y2 := X2.call hb3
  have Y3 := X3.call hb3
  have D3 := hD.call bel3
  have M3 := hM.call bel3
  clear b0 bl bf X0 X1 X2 X3
  have Y0p := Y0
  have Y3p := Y3
  obtain ⟨al, af, a0⟩ := Y0p.c1
  obtain ⟨yl, yf, y0⟩ := Y3p.c1
  obtain ⟨kl, kf, k0, k1, k2, k3⟩ := D3.c4
  have hp1 := filep_nil
  have hp2 := filep_ne
  have hln := len_files (ty := 3) M3
  have q1 : (es.length : Int) < 16 := by omega
  have q2 : ¬ (16 : Int) ≤ (es.length : Int) := by omega
  go_wp2_with fail
  have z3 := hb3.size
  have z13 := bel1.size
  have z33 := bel3.size
  refine at_code (fun W => Below w.heap.size w W ∧ Block W w.heap.size 24 [.pointer (some ⟨d, 0, none⟩)] ∧ Block W (w.heap.size + 1) 9 [.string s] ∧ Block W (w.heap.size + 1 + 1) 71 [(.slice none 0 0)] ∧ Block W w1.heap.size 92 [.pointer (some ⟨w3.heap.size, 0, none⟩)] ∧ Block W w3.heap.size 131 [.slice none 0 0, .slice none 0 0]) ⟨by exact sBel, (Y0.far (by show w.heap.size ≠ w1.heap.size; omega) _).alloc _, (Y1.far (by show w.heap.size + 1 ≠ w1.heap.size; omega) _).alloc _, (Y2.far (by show w.heap.size + 1 + 1 ≠ w1.heap.size; omega) _).alloc _, (Y3.set 0 _).alloc _, btop (by simp)⟩ ?_
  clear a0 al af y0 yl yf k0 k1 k2 k3 kl kf Y0p Y3p
  clear Y0 Y1 Y2 Y3 D3 M3
  rintro w4 ⟨bel4, Y0, Y1, Y2, Y3, F4⟩
  have z4 := bel4.size
  have Y2p := Y2
  have Y3p := Y3
  obtain ⟨al, af, a0⟩ := Y2p.c1
  obtain ⟨yl, yf, y0⟩ := Y3p.c1
  refine AnyBut.region (S := fun w' => w'.cell? ⟨w.heap.size + 1 + 1, 0, none⟩ = some (.slice none 0 0) ∧ w'.cell? ⟨w1.heap.size, 0, none⟩ = some (.pointer (some ⟨w3.heap.size, 0, none⟩))) (t := 99) 7 rfl (by kernel_rfl) ?_ ?_
  · exact ⟨a0, y0⟩
  intro hS
  refine AnyBut.tk0 0 hS rfl (h := ?_); refine AnyBut.tk0 1 hS rfl (h := ?_); refine AnyBut.tk0 2 hS rfl (h := ?_)
  clear hS
  refine AnyBut.one (i := 3) rfl (by kernel_rfl) rfl ?_; intro K hKK
  go_wp2_with fail
  refine (bytes0 w3.heap.size 0 (.slice none 0 0) [] w4.drew F4.drew (.inl ⟨rfl, rfl⟩) (Nat.zero_le _) (by simp)).mono ?_
  rintro e w5 ⟨A5, c5, rfl, _, hb5⟩
  have bel5 : Below w.heap.size w w5 := bel_call (bel_drewN bel4 1) hb5
  have V0 := Y0.drew.call hb5
  have V1 := Y1.drew.call hb5
  have V2 := Y2.drew.call hb5
  have V3 := Y3.drew.call hb5
  have F5 := F4.drew.call hb5
  clear a0 al af y0 yl yf Y2p Y3p Y0 Y1 Y2 Y3 F4
  have V2p := V2
  have V3p := V3
  have V0p := V0
  obtain ⟨al, af, a0⟩ := V2p.c1
  obtain ⟨yl, yf, y0⟩ := V3p.c1
  obtain ⟨bl, bf, b0⟩ := V0p.c1
  refine hKK _ _ ?_ ?_ <;> clear hKK K
  · exact ⟨a0, y0⟩
  intro hS
  (refine AnyBut.one (i := 4) rfl (by kernel_rfl) rfl ?_; intro K hK; go_simp; refine hK _ _ hS ?_; clear hK K; intro _); (refine AnyBut.one (i := 5) rfl (by kernel_rfl) rfl ?_; intro K hK; go_simp; refine hK _ _ hS ?_; clear hK K; intro _); (refine AnyBut.one (i := 6) rfl (by kernel_rfl) rfl ?_; intro K hK; go_simp; refine hK _ _ hS ?_; clear hK K; intro _)
  clear hS
  refine AnyBut.done (by kernel_rfl) ?_
  have q5 : True := by trivial
  go_wp2_with fail
  have D5 := hD.call bel5
  have kp6 : Kept [d] w5 (w5.setCell ⟨d, 1, none⟩ (.int .i64 (wrap64 (st + 1)))) := (Kept.refl _ _).set (by simp) _
  have dl := hD.lt
  have z5 := bel5.size
  have zz := V3.lt
  have hX : ∀ g ∈ [d], NoU8 w5 g := by
    intro g hg
    simp at hg
    subst hg
    exact NoU8.of_block D5 (by simp)
  refine (step_append d md st _ _ (fun W => ∃ f, w.heap.size ≤ f ∧ ∃ st', Block W d 70 [.map (some md), .int .i64 st', .int .i64 (-1), .bool false] ∧ MapAt W md (es ++ [fE (.string s) f cl]) (cl + 1) ∧ Block W f 131 [.slice none 0 0, .slice none 0 0] ∧ Kept [d, md] w W) D5 ?_).mono ?_
  · refine (app_in1 d md w3.heap.size cl w1.heap.size w.heap.size (w.heap.size + 1) (w.heap.size + 1 + 1)  _ es s (.slice none 0 0) _ (V3.far (by show w1.heap.size ≠ d; omega) _) (V0.far (by show w.heap.size ≠ d; omega) _) (V1.far (by show w.heap.size + 1 ≠ d; omega) _) (V2.far (by show w.heap.size + 1 + 1 ≠ d; omega) _) (D5.set 1 _) ((hM.call bel5).set _ _) hf  (F5.far (F5.ne_type D5 (by decide)) _) ).mono ?_
    rintro e w7 ⟨rfl, M7, F7, kp7⟩
    refine ⟨rfl, w3.heap.size, by omega, _, (D5.set 1 _).keptX kp7 ?_, M7, F7, (((Kept.of_below (X := [d, md]) bel5).set (by simp) _).trans kp7 (by intro k hk; simp at hk; rcases hk with rfl | rfl; simp; right; omega))⟩
    simp only [List.mem_cons, List.not_mem_nil, or_false, not_or]
    exact ⟨hD.ne_map hM, by omega⟩
  · rintro e w6 ⟨rfl, hR⟩
    go_wp2_with fail
    go_returns
    exact ⟨by first | rfl | simp, hR⟩
theorem append2 (d md cl : Nat)  (st : Int) (es : List MapEntry) (s : ByteArray)  (A : Option Addr) (n c B : Nat) (ys : List Int) (w : World) (hD : Block w d 70 [.map (some md), .int .i64 st, .int .i64 (-1), .bool false]) (hM : MapAt w md es cl) (hnm : ∀ w, Calls Tryz.prog 85 #[.string s] w fun e w' => e = .returned (.bool true) ∧ Below w.heap.size w w') (hf : Instr.findNow .string (.string s) es 0 = some none) (hes : es.length ≤ 15) (hY : Shows w B 1 A n (U8 ys)) (hB : B ≤ w.heap.size) (h0 : 0 < n) (hn : n ≤ 500000) :
    Calls Tryz.prog 40 #[.pointer (some ⟨d, 0, none⟩), .string s, (.slice A n c)] w fun e w' => e = .returned (.int .i64 0) ∧ ∃ f, w.heap.size ≤ f ∧ ∃ st', Block w' d 70 [.map (some md), .int .i64 st', .int .i64 (-1), .bool false] ∧ MapAt w' md (es ++ [fE (.string s) f cl]) (cl + 1) ∧ ∃ lb lc A' c', Block w' f 131 [.slice none 0 0, .slice (some ⟨lb, 0, none⟩) 1 lc] ∧ Has w' lb [.iface 202 (.slice A' n c')] ∧ w'.ownsRow w.heap.size 5 1 (.slice A' n c') n (U8 ys) ∧ w.heap.size ≤ lb ∧ Kept [d, md] w w' := by
  have hp0 := filep_nil
  go_enter Tryz.func40, Tryz.ntmps40
  go_wp2_with fail
  refine (down_disk d md _ _ false _ (((hD.alloc _).alloc _).alloc _)).mono ?_
  rintro e w1 ⟨rfl, hb1⟩
  have bel1 : Below w.heap.size w w1 := bel_call (by exact sBel) hb1
  have X0 : Block w1 w.heap.size 24 [.pointer (some ⟨d, 0, none⟩)] := Block.call (by exact sBlk) hb1
  have X1 : Block w1 (w.heap.size + 1) 9 [.string s] := Block.call (by exact sBlk) hb1
  have X2 : Block w1 (w.heap.size + 1 + 1) 71 [(.slice A n c)] := Block.call (by exact sBlk) hb1
  have D1 := hD.call bel1
  have M1 := hM.call bel1
  clear hb1
  have X0p := X0
  have X1p := X1
  obtain ⟨al, af, a0⟩ := X0p.c1
  obtain ⟨bl, bf, b0⟩ := X1p.c1
  obtain ⟨kl, kf, k0, k1, k2, k3⟩ := D1.c4
  go_upto_region 4 with (fail)
  refine AnyBut.region (S := fun w' => w'.cell? ⟨w.heap.size, 0, none⟩ = some (.pointer (some ⟨d, 0, none⟩)) ∧ w'.cell? ⟨d, 0, none⟩ = some (.map (some md)) ∧ w'.cell? ⟨w.heap.size + 1, 0, none⟩ = some (.string s) ∧ (Instr.lookup 63 (.map (some md)) (.string s) false).run Tryz.prog w' = .ok (.pointer none) w') (t := 7) 8 rfl (by kernel_rfl) ?_ ?_
  · exact ⟨a0, k0, b0, file_miss (MapAt.drew M1) hf⟩
  intro hS
  refine AnyBut.tk 0 hS rfl (h := ?_); refine AnyBut.tk 1 hS rfl (h := ?_); refine AnyBut.tk 2 hS rfl (h := ?_); refine AnyBut.tk 3 hS rfl (h := ?_); refine AnyBut.tk 4 hS rfl (h := ?_); refine AnyBut.tk 5 hS rfl (h := ?_)
  clear hS
  refine AnyBut.one (i := 6) rfl (by kernel_rfl) rfl ?_; intro K hK; go_simp; refine hK _ _ ?_ ?_ <;> clear hK K; rotate_left; intro hS; rotate_left
  · refine ⟨?_, ?_, ?_, ?_⟩ <;> first | (go_simp; done) | exact file_miss ((MapAt.drew M1).alloc _) hf
  clear hS
  refine AnyBut.last rfl (by kernel_rfl) rfl (by kernel_rfl) ?_; intro K hK; go_simp; refine hK _ _ ?_; clear hK K
  go_upto_region 5 with (fail)
  refine at_code (fun W => Below w.heap.size w W ∧ W.heap.size = w1.heap.size + 1 ∧ Block W w.heap.size 24 [.pointer (some ⟨d, 0, none⟩)] ∧ Block W (w.heap.size + 1) 9 [.string s] ∧ Block W (w.heap.size + 1 + 1) 71 [(.slice A n c)] ∧ Block W w1.heap.size 92 [(.pointer none)]) ⟨by exact sBel, by simp, by exact sBlk, by exact sBlk, by exact sBlk, by exact sBlk⟩ ?_
  have zx2 := X2.lt
  clear a0 al af b0 bl bf k0 k1 k2 k3 kl kf D1 M1 X0 X1 X2 X0p X1p
  rintro w2 ⟨bel2, z2, X0, X1, X2, X3⟩
  obtain ⟨bl, bf, b0⟩ := X1.c1
  go_wp2_with fail
  refine (hnm w2).mono ?_
  rintro e w3 ⟨rfl, hb3⟩
  have bel3 := bel_call bel2 hb3
  have Y0 := X0.call hb3
  have Y1 := X1.call hb3
  have Y2 := X2.call hb3
  have Y3 := X3.call hb3
  have D3 := hD.call bel3
  have M3 := hM.call bel3
  clear b0 bl bf X0 X1 X2 X3
  have Y0p := Y0
  have Y3p := Y3
  obtain ⟨al, af, a0⟩ := Y0p.c1
  obtain ⟨yl, yf, y0⟩ := Y3p.c1
  obtain ⟨kl, kf, k0, k1, k2, k3⟩ := D3.c4
  have hp1 := filep_nil
  have hp2 := filep_ne
  have hln := len_files (ty := 3) M3
  have q1 : (es.length : Int) < 16 := by omega
  have q2 : ¬ (16 : Int) ≤ (es.length : Int) := by omega
  go_wp2_with fail
  have z3 := hb3.size
  have z13 := bel1.size
  have z33 := bel3.size
  refine at_code (fun W => Below w.heap.size w W ∧ Block W w.heap.size 24 [.pointer (some ⟨d, 0, none⟩)] ∧ Block W (w.heap.size + 1) 9 [.string s] ∧ Block W (w.heap.size + 1 + 1) 71 [(.slice A n c)] ∧ Block W w1.heap.size 92 [.pointer (some ⟨w3.heap.size, 0, none⟩)] ∧ Block W w3.heap.size 131 [.slice none 0 0, .slice none 0 0]) ⟨by exact sBel, (Y0.far (by show w.heap.size ≠ w1.heap.size; omega) _).alloc _, (Y1.far (by show w.heap.size + 1 ≠ w1.heap.size; omega) _).alloc _, (Y2.far (by show w.heap.size + 1 + 1 ≠ w1.heap.size; omega) _).alloc _, (Y3.set 0 _).alloc _, btop (by simp)⟩ ?_
  clear a0 al af y0 yl yf k0 k1 k2 k3 kl kf Y0p Y3p
  clear Y0 Y1 Y2 Y3 D3 M3
  rintro w4 ⟨bel4, Y0, Y1, Y2, Y3, F4⟩
  have z4 := bel4.size
  have Y2p := Y2
  have Y3p := Y3
  obtain ⟨al, af, a0⟩ := Y2p.c1
  obtain ⟨yl, yf, y0⟩ := Y3p.c1
  refine AnyBut.region (S := fun w' => w'.cell? ⟨w.heap.size + 1 + 1, 0, none⟩ = some (.slice A n c) ∧ w'.cell? ⟨w1.heap.size, 0, none⟩ = some (.pointer (some ⟨w3.heap.size, 0, none⟩))) (t := 99) 7 rfl (by kernel_rfl) ?_ ?_
  · exact ⟨a0, y0⟩
  intro hS
  refine AnyBut.tk0 0 hS rfl (h := ?_); refine AnyBut.tk0 1 hS rfl (h := ?_); refine AnyBut.tk0 2 hS rfl (h := ?_)
  clear hS
  refine AnyBut.one (i := 3) rfl (by kernel_rfl) rfl ?_; intro K hKK
  go_wp2_with fail
  refine (bytes0 w3.heap.size 0 (.slice none 0 0) [] w4.drew F4.drew (.inl ⟨rfl, rfl⟩) (Nat.zero_le _) (by simp)).mono ?_
  rintro e w5 ⟨A5, c5, rfl, _, hb5⟩
  have bel5 : Below w.heap.size w w5 := bel_call (bel_drewN bel4 1) hb5
  have V0 := Y0.drew.call hb5
  have V1 := Y1.drew.call hb5
  have V2 := Y2.drew.call hb5
  have V3 := Y3.drew.call hb5
  have F5 := F4.drew.call hb5
  clear a0 al af y0 yl yf Y2p Y3p Y0 Y1 Y2 Y3 F4
  have V2p := V2
  have V3p := V3
  have V0p := V0
  obtain ⟨al, af, a0⟩ := V2p.c1
  obtain ⟨yl, yf, y0⟩ := V3p.c1
  obtain ⟨bl, bf, b0⟩ := V0p.c1
  refine hKK _ _ ?_ ?_ <;> clear hKK K
  · exact ⟨a0, y0⟩
  intro hS
  (refine AnyBut.one (i := 4) rfl (by kernel_rfl) rfl ?_; intro K hK; go_simp; refine hK _ _ hS ?_; clear hK K; intro _); (refine AnyBut.one (i := 5) rfl (by kernel_rfl) rfl ?_; intro K hK; go_simp; refine hK _ _ hS ?_; clear hK K; intro _); (refine AnyBut.one (i := 6) rfl (by kernel_rfl) rfl ?_; intro K hK; go_simp; refine hK _ _ hS ?_; clear hK K; intro _)
  clear hS
  refine AnyBut.done (by kernel_rfl) ?_
  have q5 : ¬ (1048576 : Int) < (n : Int) := by omega
  go_wp2_with fail
  have D5 := hD.call bel5
  have kp6 : Kept [d] w5 (w5.setCell ⟨d, 1, none⟩ (.int .i64 (wrap64 (st + 1)))) := (Kept.refl _ _).set (by simp) _
  have dl := hD.lt
  have z5 := bel5.size
  have zz := V3.lt
  have hX : ∀ g ∈ [d], NoU8 w5 g := by
    intro g hg
    simp at hg
    subst hg
    exact NoU8.of_block D5 (by simp)
  refine (step_append d md st _ _ (fun W => ∃ f, w.heap.size ≤ f ∧ ∃ st', Block W d 70 [.map (some md), .int .i64 st', .int .i64 (-1), .bool false] ∧ MapAt W md (es ++ [fE (.string s) f cl]) (cl + 1) ∧ ∃ lb lc A' c', Block W f 131 [.slice none 0 0, .slice (some ⟨lb, 0, none⟩) 1 lc] ∧ Has W lb [.iface 202 (.slice A' n c')] ∧ W.ownsRow w.heap.size 5 1 (.slice A' n c') n (U8 ys) ∧ w.heap.size ≤ lb ∧ Kept [d, md] w W) D5 ?_).mono ?_
  · refine (app_in2 d md w3.heap.size cl w1.heap.size w.heap.size (w.heap.size + 1) (w.heap.size + 1 + 1)  _ es s A n c B (.slice none 0 0) ys _ (V3.far (by show w1.heap.size ≠ d; omega) _) (V0.far (by show w.heap.size ≠ d; omega) _) (V1.far (by show w.heap.size + 1 ≠ d; omega) _) (V2.far (by show w.heap.size + 1 + 1 ≠ d; omega) _) (D5.set 1 _) ((hM.call bel5).set _ _) hf  (F5.far (F5.ne_type D5 (by decide)) _) ((hY.call bel5 hB).kept8 kp6 (by omega) hX) (by simp [World.setCell]; omega) h0 (by omega)).mono ?_
    rintro e w7 ⟨rfl, M7, lb, lc, A7, c7, F7, L7, O7, l7, kp7⟩
    refine ⟨rfl, w3.heap.size, by omega, _, (D5.set 1 _).keptX kp7 ?_, M7, lb, lc, A7, c7, F7, L7, own_base O7 (by simp [World.setCell]; omega), by simp [World.setCell] at l7; omega, (((Kept.of_below (X := [d, md]) bel5).set (by simp) _).trans kp7 (by intro k hk; simp at hk; rcases hk with rfl | rfl; simp; right; omega))⟩
    simp only [List.mem_cons, List.not_mem_nil, or_false, not_or]
    exact ⟨hD.ne_map hM, by omega⟩
  · rintro e w6 ⟨rfl, hR⟩
    go_wp2_with fail
    go_returns
    exact ⟨by first | rfl | simp, hR⟩
theorem append3 (d md cl : Nat) (i : Nat) (st : Int) (es : List MapEntry) (s : ByteArray) (f C : Nat) (sv : Value) (xs : List Int) (A : Option Addr) (n c B : Nat) (ys : List Int) (w : World) (hD : Block w d 70 [.map (some md), .int .i64 st, .int .i64 (-1), .bool false]) (hM : MapAt w md es cl) (hnm : ∀ w, Calls Tryz.prog 85 #[.string s] w fun e w' => e = .returned (.bool true) ∧ Below w.heap.size w w') (hf : Instr.findNow .string (.string s) es 0 = some (some (i, .pointer (some ⟨f, 0, none⟩)))) (hk : ∀ w, (Instr.keyThatStays (((es.toArray[i]?).map (·.key)).getD (.string s)) (.string s)).run Tryz.prog w = .ok (.string s) w) (he : es.toArray.modify i (fun e => { e with key := .string s, val := .pointer (some ⟨f, 0, none⟩) }) = es.toArray) (hF : Block w f 131 [sv, .slice none 0 0]) (hS : SafeV w C sv xs) (hC : C ≤ w.heap.size) (hxs : xs.length ≤ 500000) (hY : Shows w B 1 A n (U8 ys)) (hB : B ≤ w.heap.size) (h0 : 0 < n) (hn : n ≤ 500000) :
    Calls Tryz.prog 40 #[.pointer (some ⟨d, 0, none⟩), .string s, (.slice A n c)] w fun e w' => e = .returned (.int .i64 0) ∧ ∃ st', Block w' d 70 [.map (some md), .int .i64 st', .int .i64 (-1), .bool false] ∧ MapAt w' md es cl ∧ ∃ lb lc A' c', Block w' f 131 [sv, .slice (some ⟨lb, 0, none⟩) 1 lc] ∧ Has w' lb [.iface 202 (.slice A' n c')] ∧ w'.ownsRow w.heap.size 5 1 (.slice A' n c') n (U8 ys) ∧ w.heap.size ≤ lb ∧ Kept [d, md, f] w w' := by
  have hp0 := filep_nil
  go_enter Tryz.func40, Tryz.ntmps40
  go_wp2_with fail
  refine (down_disk d md _ _ false _ (((hD.alloc _).alloc _).alloc _)).mono ?_
  rintro e w1 ⟨rfl, hb1⟩
  have bel1 : Below w.heap.size w w1 := bel_call (by exact sBel) hb1
  have X0 : Block w1 w.heap.size 24 [.pointer (some ⟨d, 0, none⟩)] := Block.call (by exact sBlk) hb1
  have X1 : Block w1 (w.heap.size + 1) 9 [.string s] := Block.call (by exact sBlk) hb1
  have X2 : Block w1 (w.heap.size + 1 + 1) 71 [(.slice A n c)] := Block.call (by exact sBlk) hb1
  have D1 := hD.call bel1
  have M1 := hM.call bel1
  clear hb1
  have X0p := X0
  have X1p := X1
  obtain ⟨al, af, a0⟩ := X0p.c1
  obtain ⟨bl, bf, b0⟩ := X1p.c1
  obtain ⟨kl, kf, k0, k1, k2, k3⟩ := D1.c4
  go_upto_region 4 with (fail)
  refine AnyBut.region (S := fun w' => w'.cell? ⟨w.heap.size, 0, none⟩ = some (.pointer (some ⟨d, 0, none⟩)) ∧ w'.cell? ⟨d, 0, none⟩ = some (.map (some md)) ∧ w'.cell? ⟨w.heap.size + 1, 0, none⟩ = some (.string s) ∧ (Instr.lookup 63 (.map (some md)) (.string s) false).run Tryz.prog w' = .ok (.pointer (some ⟨f, 0, none⟩)) w') (t := 7) 8 rfl (by kernel_rfl) ?_ ?_
  · exact ⟨a0, k0, b0, file_hit (MapAt.drew M1) hf⟩
  have hSV := hS
  clear hS
  intro hS
  refine AnyBut.tk 0 hS rfl (h := ?_); refine AnyBut.tk 1 hS rfl (h := ?_); refine AnyBut.tk 2 hS rfl (h := ?_); refine AnyBut.tk 3 hS rfl (h := ?_); refine AnyBut.tk 4 hS rfl (h := ?_); refine AnyBut.tk 5 hS rfl (h := ?_)
  clear hS
  refine AnyBut.one (i := 6) rfl (by kernel_rfl) rfl ?_; intro K hK; go_simp; refine hK _ _ ?_ ?_ <;> clear hK K; rotate_left; intro hS; rotate_left
  · refine ⟨?_, ?_, ?_, ?_⟩ <;> first | (go_simp; done) | exact file_hit ((MapAt.drew M1).alloc _) hf
  clear hS
  refine AnyBut.last rfl (by kernel_rfl) rfl (by kernel_rfl) ?_; intro K hK; go_simp; refine hK _ _ ?_; clear hK K
  go_upto_region 5 with (fail)
  refine at_code (fun W => Below w.heap.size w W ∧ W.heap.size = w1.heap.size + 1 ∧ Block W w.heap.size 24 [.pointer (some ⟨d, 0, none⟩)] ∧ Block W (w.heap.size + 1) 9 [.string s] ∧ Block W (w.heap.size + 1 + 1) 71 [(.slice A n c)] ∧ Block W w1.heap.size 92 [(.pointer (some ⟨f, 0, none⟩))]) ⟨by exact sBel, by simp, by exact sBlk, by exact sBlk, by exact sBlk, by exact sBlk⟩ ?_
  have zx2 := X2.lt
  clear a0 al af b0 bl bf k0 k1 k2 k3 kl kf D1 M1 X0 X1 X2 X0p X1p
  rintro w2 ⟨bel2, z2, X0, X1, X2, X3⟩
  obtain ⟨bl, bf, b0⟩ := X1.c1
  go_wp2_with fail
  refine (hnm w2).mono ?_
  rintro e w3 ⟨rfl, hb3⟩
  have bel3 := bel_call bel2 hb3
  have Y0 := X0.call hb3
  have Y1 := X1.call hb3
  have Y2 := X2.call hb3
  have Y3 := X3.call hb3
  have D3 := hD.call bel3
  have M3 := hM.call bel3
  clear b0 bl bf X0 X1 X2 X3
  have Y0p := Y0
  have Y3p := Y3
  obtain ⟨al, af, a0⟩ := Y0p.c1
  obtain ⟨yl, yf, y0⟩ := Y3p.c1
  obtain ⟨kl, kf, k0, k1, k2, k3⟩ := D3.c4
  have hp1 := filep_nil
  have hp2 := filep_ne
  go_wp2_with fail
  have z3 := hb3.size
  have z13 := bel1.size
  have z33 := bel3.size
  refine at_code (fun W => Below w.heap.size w W ∧ Block W w.heap.size 24 [.pointer (some ⟨d, 0, none⟩)] ∧ Block W (w.heap.size + 1) 9 [.string s] ∧ Block W (w.heap.size + 1 + 1) 71 [(.slice A n c)] ∧ Block W w1.heap.size 92 [.pointer (some ⟨f, 0, none⟩)] ∧ Block W f 131 [sv, .slice none 0 0]) ⟨by exact sBel, by exact sBlk, by exact sBlk, by exact sBlk, by exact sBlk, hF.call bel3⟩ ?_
  clear a0 al af y0 yl yf k0 k1 k2 k3 kl kf Y0p Y3p
  clear Y0 Y1 Y2 Y3 D3 M3
  rintro w4 ⟨bel4, Y0, Y1, Y2, Y3, F4⟩
  have z4 := bel4.size
  have Y2p := Y2
  have Y3p := Y3
  obtain ⟨al, af, a0⟩ := Y2p.c1
  obtain ⟨yl, yf, y0⟩ := Y3p.c1
  refine AnyBut.region (S := fun w' => w'.cell? ⟨w.heap.size + 1 + 1, 0, none⟩ = some (.slice A n c) ∧ w'.cell? ⟨w1.heap.size, 0, none⟩ = some (.pointer (some ⟨f, 0, none⟩))) (t := 99) 7 rfl (by kernel_rfl) ?_ ?_
  · exact ⟨a0, y0⟩
  intro hS
  refine AnyBut.tk0 0 hS rfl (h := ?_); refine AnyBut.tk0 1 hS rfl (h := ?_); refine AnyBut.tk0 2 hS rfl (h := ?_)
  clear hS
  refine AnyBut.one (i := 3) rfl (by kernel_rfl) rfl ?_; intro K hKK
  go_wp2_with fail
  refine (bytes0 f C sv xs w4.drew F4.drew ((hSV.call bel4 hC).call (Below.drew (Below.refl _ _)) (by omega)) (by show C ≤ w4.heap.size; omega) (by omega)).mono ?_
  rintro e w5 ⟨A5, c5, rfl, _, hb5⟩
  have bel5 : Below w.heap.size w w5 := bel_call (bel_drewN bel4 1) hb5
  have V0 := Y0.drew.call hb5
  have V1 := Y1.drew.call hb5
  have V2 := Y2.drew.call hb5
  have V3 := Y3.drew.call hb5
  have F5 := F4.drew.call hb5
  clear a0 al af y0 yl yf Y2p Y3p Y0 Y1 Y2 Y3 F4
  have V2p := V2
  have V3p := V3
  have V0p := V0
  obtain ⟨al, af, a0⟩ := V2p.c1
  obtain ⟨yl, yf, y0⟩ := V3p.c1
  obtain ⟨bl, bf, b0⟩ := V0p.c1
  refine hKK _ _ ?_ ?_ <;> clear hKK K
  · exact ⟨a0, y0⟩
  intro hS
  (refine AnyBut.one (i := 4) rfl (by kernel_rfl) rfl ?_; intro K hK; go_simp; refine hK _ _ hS ?_; clear hK K; intro _); (refine AnyBut.one (i := 5) rfl (by kernel_rfl) rfl ?_; intro K hK; go_simp; refine hK _ _ hS ?_; clear hK K; intro _); (refine AnyBut.one (i := 6) rfl (by kernel_rfl) rfl ?_; intro K hK; go_simp; refine hK _ _ hS ?_; clear hK K; intro _)
  clear hS
  refine AnyBut.done (by kernel_rfl) ?_
  have q5 : ¬ (1048576 : Int) - (xs.length : Int) < (n : Int) := by omega
  have q6 : (n : Int) ≤ 1048576 - (xs.length : Int) := by omega
  have q7 : (xs.length : Int) + (n : Int) ≤ 1048576 := by omega
  have q8 : IntKind.i64.wrap (1048576 - (xs.length : Int)) = 1048576 - (xs.length : Int) := by rw [IntKind.wrap_i64]; omega
  go_wp2_with fail
  have D5 := hD.call bel5
  have kp6 : Kept [d] w5 (w5.setCell ⟨d, 1, none⟩ (.int .i64 (wrap64 (st + 1)))) := (Kept.refl _ _).set (by simp) _
  have dl := hD.lt
  have z5 := bel5.size
  have zz := V3.lt
  have hX : ∀ g ∈ [d], NoU8 w5 g := by
    intro g hg
    simp at hg
    subst hg
    exact NoU8.of_block D5 (by simp)
  refine (step_append d md st _ _ (fun W => ∃ st', Block W d 70 [.map (some md), .int .i64 st', .int .i64 (-1), .bool false] ∧ MapAt W md es cl ∧ ∃ lb lc A' c', Block W f 131 [sv, .slice (some ⟨lb, 0, none⟩) 1 lc] ∧ Has W lb [.iface 202 (.slice A' n c')] ∧ W.ownsRow w.heap.size 5 1 (.slice A' n c') n (U8 ys) ∧ w.heap.size ≤ lb ∧ Kept [d, md, f] w W) D5 ?_).mono ?_
  · refine (app_in3 d md f cl w1.heap.size w.heap.size (w.heap.size + 1) (w.heap.size + 1 + 1) i _ es s A n c B sv ys _ (V3.far (by show w1.heap.size ≠ d; omega) _) (V0.far (by show w.heap.size ≠ d; omega) _) (V1.far (by show w.heap.size + 1 ≠ d; omega) _) (V2.far (by show w.heap.size + 1 + 1 ≠ d; omega) _) (D5.set 1 _) ((hM.call bel5).set _ _) hf hk he (F5.far (F5.ne_type D5 (by decide)) _) ((hY.call bel5 hB).kept8 kp6 (by omega) hX) (by simp [World.setCell]; omega) h0 (by omega)).mono ?_
    rintro e w7 ⟨rfl, M7, lb, lc, A7, c7, F7, L7, O7, l7, kp7⟩
    refine ⟨rfl, _, (D5.set 1 _).keptX kp7 ?_, M7, lb, lc, A7, c7, F7, L7, own_base O7 (by simp [World.setCell]; omega), by simp [World.setCell] at l7; omega, (((Kept.of_below (X := [d, md, f]) bel5).set (by simp) _).trans kp7 (by simp))⟩
    simp only [List.mem_cons, List.not_mem_nil, or_false, not_or]
    exact ⟨hD.ne_map hM, (hF.ne_type hD (by decide)).symm⟩
  · rintro e w6 ⟨rfl, hR⟩
    go_wp2_with fail
    go_returns
    exact ⟨by first | rfl | simp, hR⟩
end Go.Proofs.YthmhdaefkhcenaaGreatDoor
namespace Go.Proofs.YthmhdaefkhcenaaGreatDoor
set_option maxRecDepth 100000
set_option maxHeartbeats 8000000
open Go.RowKit Go.Lib Go.MapKept

theorem ren_in (d md f g x0 x1 x2 x3 : Nat) (st : Int) (w : World) (hbd : Block w x0 24 [.pointer (some ⟨d, 0, none⟩)]) (hbf : Block w x1 9 [(.string ⟨#[99, 111, 110, 102, 105, 103, 46, 116, 109, 112]⟩)]) (hbg : Block w x2 92 [.pointer (some ⟨g, 0, none⟩)]) (hbt : Block w x3 9 [(.string ⟨#[99, 111, 110, 102, 105, 103]⟩)])
    (hD : Block w d 70 [.map (some md), .int .i64 st, .int .i64 (-1), .bool false]) (hM : MapAt w md (fs2 f g) 2) :
    Calls Tryz.prog 92 #[.pointer (some ⟨x0, 0, none⟩), .pointer (some ⟨x1, 0, none⟩), .pointer (some ⟨x2, 0, none⟩), .pointer (some ⟨x3, 0, none⟩)] w fun e w' => e = .returned (.tuple #[]) ∧ MapAt w' md (fs3 f g) 3 ∧ Kept [md] w w' := by
  obtain ⟨w1, hdel, M1, G1⟩ := del_at (P := Tryz.prog) (tk := 9) (ty := 0) hM.drew Tryz.underlying63 (ck_str _ _) (fun _ => run_findKey Tryz.underlying9 (find2_tmp f g))
  replace G1 : w.grownBy w1 (some md) := ⟨G1.os, G1.tape, G1.output, G1.size, G1.block⟩
  obtain ⟨w2, hup, M2, G2⟩ := upd_new (P := Tryz.prog) (val := .pointer (some ⟨g, 0, none⟩)) M1.drew Tryz.underlying63 (ck_str _ _) (fun _ => run_findKey Tryz.underlying9 (find1_cfg f))
  replace G2 : w1.grownBy w2 (some md) := ⟨G2.os, G2.tape, G2.output, G2.size, G2.block⟩
  have n0 := hbd.ne_map hM
  have n1 := hbf.ne_map hM
  have n2 := hbg.ne_map hM
  have n3 := hbt.ne_map hM
  have nd := hD.ne_map hM
  have hbd0 := hbd
  have hbf0 := hbf
  have hD0 := hD
  obtain ⟨al, af, a0⟩ := hbd0.c1
  obtain ⟨bl, bf, b0⟩ := hbf0.c1
  obtain ⟨kl, kf, k0, k1, k2, k3⟩ := hD0.c4
  go_enter Tryz.func92, Tryz.ntmps92
  go_upto_region 0 with (fail)
  refine AnyBut.region (S := fun w' => w'.cell? ⟨x0, 0, none⟩ = some (.pointer (some ⟨d, 0, none⟩)) ∧ w'.cell? ⟨d, 0, none⟩ = some (.map (some md)) ∧ w'.cell? ⟨x1, 0, none⟩ = some (.string ⟨#[99, 111, 110, 102, 105, 103, 46, 116, 109, 112]⟩)) (t := 99) 6 rfl (by kernel_rfl) ?_ ?_
  · exact ⟨a0, k0, b0⟩
  intro hS
  refine AnyBut.tk0 0 hS rfl (h := ?_); refine AnyBut.tk0 1 hS rfl (h := ?_); refine AnyBut.tk0 2 hS rfl (h := ?_); refine AnyBut.tk0 3 hS rfl (h := ?_); refine AnyBut.tk0 4 hS rfl (h := ?_)
  clear hS
  have A1 := hbd.grown G1 (by simpa using n0)
  have A2 := hbf.grown G1 (by simpa using n1)
  have B1 := hbg.grown G1 (by simpa using n2)
  have C1 := hbt.grown G1 (by simpa using n3)
  have D1 := hD.grown G1 (by simpa using nd)
  refine AnyBut.one (i := 5) rfl (by kernel_rfl) rfl ?_; intro K hK
  refine op_delete (fun W => W = w1) rfl rfl rfl ⟨w1, hdel, rfl⟩ ?_
  rintro W rfl
  refine hK _ _ ⟨A1.cell 0, D1.cell 0, A2.cell 0⟩ ?_
  intro hS
  clear hS hK K hdel a0 al af b0 bl bf k0 k1 k2 k3 kl kf
  refine AnyBut.done (by kernel_rfl) ?_
  obtain ⟨al, af, a0⟩ := A1.c1
  obtain ⟨bl, bf, b0⟩ := B1.c1
  obtain ⟨csl, csf, cs0⟩ := C1.c1
  obtain ⟨kl, kf, k0, k1, k2, k3⟩ := D1.c4
  go_upto_region 1 with (fail)
  refine AnyBut.region (S := fun w' => w'.cell? ⟨x0, 0, none⟩ = some (.pointer (some ⟨d, 0, none⟩)) ∧ w'.cell? ⟨d, 0, none⟩ = some (.map (some md)) ∧ w'.cell? ⟨x3, 0, none⟩ = some (.string ⟨#[99, 111, 110, 102, 105, 103]⟩) ∧ w'.cell? ⟨x2, 0, none⟩ = some (.pointer (some ⟨g, 0, none⟩))) (t := 6) 7 rfl (by kernel_rfl) ?_ ?_
  · exact ⟨a0, k0, cs0, b0⟩
  intro hS
  refine AnyBut.tk 0 hS rfl (h := ?_); refine AnyBut.tk 1 hS rfl (h := ?_); refine AnyBut.tk 2 hS rfl (h := ?_); refine AnyBut.tk 3 hS rfl (h := ?_); refine AnyBut.tk 4 hS rfl (h := ?_); refine AnyBut.tk 5 hS rfl (h := ?_)
  clear hS
  refine AnyBut.last rfl (by kernel_rfl) rfl (by kernel_rfl) ?_; intro K hK; go_simp; refine hK _ _ ?_; clear hK K
  first | go_end0 | (go_wp2; go_end0)
  exact ⟨rfl, M2, ((Kept.of_grown (X := [md]) G1 (by simp)).next (Kept.of_grown (X := [md]) G2 (by simp)))⟩
theorem rename_tmp (d md f g : Nat) (st : Int) (sv : Value) (w : World) (hD : Block w d 70 [.map (some md), .int .i64 st, .int .i64 (-1), .bool false]) (hM : MapAt w md (fs2 f g) 2) (hG : Block w g 131 [sv, .slice none 0 0]) :
    Calls Tryz.prog 44 #[.pointer (some ⟨d, 0, none⟩), (.string ⟨#[99, 111, 110, 102, 105, 103, 46, 116, 109, 112]⟩), (.string ⟨#[99, 111, 110, 102, 105, 103]⟩)] w fun e w' => e = .returned (.int .i64 0) ∧ ∃ st', Block w' d 70 [.map (some md), .int .i64 st', .int .i64 (-1), .bool false] ∧ MapAt w' md (fs3 f g) 3 ∧ Kept [d, md] w w' := by
  go_enter Tryz.func44, Tryz.ntmps44
  go_wp2_with fail
  refine (down_disk d md _ _ false _ (((hD.alloc _).alloc _).alloc _)).mono ?_
  rintro e w1 ⟨rfl, hb1⟩
  have bel1 : Below w.heap.size w w1 := bel_call (by exact sBel) hb1
  have X0 : Block w1 w.heap.size 24 [.pointer (some ⟨d, 0, none⟩)] := Block.call (by exact sBlk) hb1
  have X1 : Block w1 (w.heap.size + 1) 9 [(.string ⟨#[99, 111, 110, 102, 105, 103, 46, 116, 109, 112]⟩)] := Block.call (by exact sBlk) hb1
  have X2 : Block w1 (w.heap.size + 1 + 1) 9 [(.string ⟨#[99, 111, 110, 102, 105, 103]⟩)] := Block.call (by exact sBlk) hb1
  have X2p := X2
  obtain ⟨al, af, a0⟩ := X2p.c1
  go_wp2_with fail
  refine (named_cfg w1).mono ?_
  rintro e w2 ⟨rfl, hb2⟩
  have bel2 := bel_call bel1 hb2
  have Y0 := X0.call hb2
  have Y1 := X1.call hb2
  have Y2 := X2.call hb2
  clear X0 X1 X2 X2p a0 al af
  have Y0p := Y0
  have Y1p := Y1
  obtain ⟨al, af, a0⟩ := Y0p.c1
  obtain ⟨bl, bf, b0⟩ := Y1p.c1
  go_wp2_with fail
  refine (open_hit d md g 1 2 st _ _ w2 (hD.call bel2) (hM.call bel2) (find2_tmp f g)).mono ?_
  rintro e w3 ⟨rfl, hb3⟩
  have bel3 := bel_call bel2 hb3
  have Z0 := Y0.call hb3
  have Z1 := Y1.call hb3
  have Z2 := Y2.call hb3
  have G3 := hG.call bel3
  have D3 := hD.call bel3
  have M3 := hM.call bel3
  have z3 := bel3.size
  have zy := Z2.lt
  clear Y0 Y1 Y2 Y0p Y1p a0 al af b0 bl bf
  have Z0p := Z0
  have G3p := G3
  obtain ⟨al, af, a0⟩ := Z0p.c1
  obtain ⟨kl, kf, k0, k1⟩ := G3p.c2
  have dl := D3.lt
  go_wp2_with fail
  refine (step_rename d md st _ _ (fun W => ∃ st', Block W d 70 [.map (some md), .int .i64 st', .int .i64 (-1), .bool false] ∧ MapAt W md (fs3 f g) 3 ∧ Kept [d, md] w W) (D3.alloc _) ?_).mono ?_
  · refine (ren_in d md f g w.heap.size (w.heap.size + 1) w3.heap.size (w.heap.size + 1 + 1) _ _ ((Z0.alloc _).far (by show w.heap.size ≠ d; have := hD.lt; omega) _) ((Z1.alloc _).far (by show w.heap.size + 1 ≠ d; have := hD.lt; omega) _) (Block.far (btop (by simp)) (by show w3.heap.size ≠ d; omega) _) ((Z2.alloc _).far (by show w.heap.size + 1 + 1 ≠ d; have := hD.lt; omega) _) ((D3.alloc _).set 1 _) ((M3.alloc _).set _ _)).mono ?_
    rintro e w4 ⟨rfl, M4, kp4⟩
    exact ⟨rfl, _, ((D3.alloc _).set 1 _).keptX kp4 (by simpa using hD.ne_map hM), M4, ((((Kept.of_below (X := [d, md]) bel3).alloc _).set (by simp) _).trans kp4 (by simp))⟩
  · rintro e w4 ⟨rfl, hR⟩
    go_wp2_with fail
    go_returns
    exact ⟨by first | rfl | simp, hR⟩
end Go.Proofs.YthmhdaefkhcenaaGreatDoor
namespace Go.Proofs.YthmhdaefkhcenaaGreatDoor
set_option maxRecDepth 100000
set_option maxHeartbeats 8000000
open Go.RowKit Go.Lib

section
variable {P : Program} {o : Oper} {a : Act} {Q : Exit → Act → World → Prop} {w : World}
theorem op_append_full {T : Value → Prop} {K : Act → World → Prop} (s x : Operand) (t : TypeId)
    (ho : o.op = .call { callee := .builtin .append, args := #[s, x], argTypes := #[t, t] })
    (base : Nat) (e : TypeId) (i : TypeInfo) (z : Value) (size bytes : Nat) (ht : P.underlying t = some (.slice e)) (hi : P.info? e = some i) (hz : i.zero = some z)
    (hsize : i.size = size) (hby : i.bytes = bytes) (hzs : z.cells.size = size) (hsz : 0 < size) (hzT : ∀ j (h : j < z.cells.size), T z.cells[j])
    (A : Option Addr) (n c : Nat) (xs : List Value) (hs : a.eval s = .slice A n c) (hf : Full T w base e size A n c xs)
    (B : Nat) (A2 : Option Addr) (m c2 : Nat) (news : List Value) (hx : a.eval x = .slice A2 m c2) (hr : Shows w B size A2 m news) (h1 : ∀ u ∈ news, u.oneCell' = true)
    (h63 : n + m ≤ maxLen) (hbytes : (n + m) * bytes ≤ 140737488355328) (hbase : base ≤ w.heap.size)
    (h : ∀ A' c' w', Full T w' base e size A' (n + m) c' (xs ++ news) → w.grownBy w' (Value.ownBlock (.slice A n c)) → K (a.put o.dst (.slice A' (n + m) c')) w') : Oper.wp P o a w K Q := by
  obtain ⟨A', c', w', hrun, h2, h3⟩ := run_append_full (P := P) w base t o.type e i z size bytes ht hi hz hsize hby hzs hsz hzT A n c xs hf B A2 m c2 news hr h1 h63 hbytes hbase
  unfold Oper.wp execOp
  simp only [ho, resolve, invoke, builtin, Sem.run_bind, Sem.run_pure, Result.andThen_ok, List.map_toArray, List.map_cons, List.map_nil, hs, hx, hrun]
  exact h _ _ _ h2 h3
end
def WrAt (w : World) (wb : Nat) (xs : List Int) : Prop := ∃ A c, Block w wb 109 [.slice A xs.length c] ∧ Full IsB w (wb + 1) 5 1 A xs.length c (U8 xs)
structure KeptW (wb : Nat) (w w' : World) : Prop where
  bel : Below wb w w'
  blk : ∀ k t cs, Block w k t cs → t ≠ 5 → k ≠ wb → Block w' k t cs
theorem KeptW.trans {wb : Nat} {a b c : World} (h : KeptW wb a b) (h' : KeptW wb b c) : KeptW wb a c := ⟨h.bel.trans h'.bel, fun k t cs hB ht hk => h'.blk k t cs (h.blk k t cs hB ht hk) ht hk⟩
theorem KeptW.of_below {wb : Nat} {a b : World} (h : Below a.heap.size a b) (hw : wb ≤ a.heap.size) : KeptW wb a b := ⟨h.mono hw, fun _ _ _ hB _ _ => hB.call h⟩
theorem WrAt.call {w w' : World} {wb : Nat} {xs : List Int} (h : WrAt w wb xs) (hb : Below w.heap.size w w') : WrAt w' wb xs := by
  obtain ⟨A, c, B, F⟩ := h
  exact ⟨A, c, B.call hb, F.call hb⟩
theorem WrAt.lt {w : World} {wb : Nat} {xs : List Int} (h : WrAt w wb xs) : wb < w.heap.size := by
  obtain ⟨A, c, B, F⟩ := h
  exact B.lt
theorem isB_not {v : Value} {x : Int} (h : IsB v) : v ≠ .int .i64 x := by
  obtain ⟨y, rfl, _⟩ := h
  simp
theorem full_other {w : World} {base n c g i : Nat} {xs : List Int} {x : Int} (h : Full IsB w base 5 1 (some ⟨g, 0, none⟩) n c (U8 xs)) (hc : w.cell? ⟨g, i, none⟩ = some (.int .i64 x)) : False := by
  rcases h.2 with ⟨h1, _⟩ | ⟨g', zs, hA, hb, hg, _, _, _, hz⟩
  · cases h1
  · injection hA with hA
    injection hA with hA
    subst hA
    simp only [World.cell?, hg] at hc
    have hm : Value.int .i64 x ∈ U8 xs ++ zs := by
      have := Array.mem_of_getElem? hc
      simpa using this
    rcases List.mem_append.1 hm with h1 | h1
    · unfold U8 at h1
      rw [List.mem_map] at h1
      obtain ⟨y, _, hy⟩ := h1
      cases hy
    · exact isB_not (hz _ h1) rfl
theorem number_w (wb p i : Nat) (x : Int) (xs : List Int) (w : World) (hW : WrAt w wb xs) (hp : w.cell? ⟨p, i, none⟩ = some (.int .i64 x)) (h0 : -9223372036854775808 ≤ x) (h1 : x ≤ 9223372036854775807) (hn : xs.length ≤ 100000) :
    Calls Tryz.prog 523 #[.pointer (some ⟨wb, 0, none⟩), .pointer (some ⟨p, i, none⟩)] w fun e w' => e = .returned (.tuple #[]) ∧ WrAt w' wb (xs ++ Oct.putN (Oct.zig x)) ∧ KeptW wb w w' := by
  obtain ⟨A, c, B, F⟩ := hW
  have B0 := B
  obtain ⟨kl, kf, k0⟩ := B0.c1
  have hl := World.block_lt_of_cell? w _ hp
  go_enter Tryz.func523, Tryz.ntmps523
  go_wp2_with fail
  refine AnyBut.region (S := fun w' => w'.cell? ⟨wb, 0, none⟩ = some (.slice A xs.length c) ∧ w'.cell? ⟨p, i, none⟩ = some (.int .i64 x)) (t := 12) 13 rfl (by kernel_rfl) ?_ ?_
  · refine ⟨?_, ?_⟩ <;> go_simp
  intro hS
  refine AnyBut.tk 0 hS rfl (h := ?_); refine AnyBut.tk 1 hS rfl (h := ?_); refine AnyBut.tk 2 hS rfl (h := ?_); refine AnyBut.tk 3 hS rfl (h := ?_); refine AnyBut.tk 4 hS rfl (h := ?_); refine AnyBut.tk 5 hS rfl (h := ?_); refine AnyBut.tk 6 hS rfl (h := ?_); refine AnyBut.tk 7 hS rfl (h := ?_)
  refine AnyBut.one (i := 8) rfl (by kernel_rfl) rfl ?_; intro K hK
  go_wp2_with fail
  refine (putF_any x _ h0 h1).mono ?_
  rintro e w1 ⟨A2, c2, rfl, hF2, hb1⟩
  have bel1 : Below w.heap.size w w1 := bel_call (by exact sBel) hb1
  have B1 := B.call bel1
  have F1 := F.call bel1
  have p1 : w1.cell? ⟨p, i, none⟩ = some (.int .i64 x) := (bel1.cell (p := ⟨p, i, none⟩) hl).trans hp
  have wl := B.lt
  have wl1 := B1.lt
  clear k0 kl kf B0
  have B2 := B1
  obtain ⟨kl, kf, k0⟩ := B2.c1
  refine hK _ _ ?_ ?_ <;> clear hK K
  · refine ⟨?_, ?_⟩ <;> go_simp
  clear hS
  intro hS
  refine AnyBut.one (i := 9) rfl (by kernel_rfl) rfl ?_; intro K hK
  obtain ⟨i0, hi, hz0, hz1, hz2⟩ := info_parts infoU8
  have hlen := Oct.putN_len10 (Oct.zig_lt x h0 h1)
  refine op_append_full _ _ 71 rfl (wb + 1) 5 i0 (.int .u8 0) 1 1 Tryz.underlying71 hi hz0 hz1 hz2 rfl (by decide) isB_zero A xs.length c (U8 xs) rfl F1 _ A2 _ c2 (U8 (Oct.putN (Oct.zig x))) rfl (Shows.of_own hF2.owns) (nums_one .u8 _) (by unfold maxLen; omega) (by omega) (by omega) ?_
  intro A3 c3 w2 F3 G
  have hne : ∀ k t cs, Block w1 k t cs → t ≠ 5 → some k ≠ Value.ownBlock (.slice A xs.length c) := by
    intro k t cs hB ht
    rcases F1.2 with ⟨rfl, _⟩ | ⟨g, zs, rfl, hb, hg, _⟩
    · simp [Value.ownBlock]
    · show some k ≠ some g
      intro e
      injection e with e
      subst e
      unfold Block at hB
      rw [hg] at hB
      injection hB with hB
      injection hB with _ hB _
      exact ht hB.symm
  have hpne : some p ≠ Value.ownBlock (.slice A xs.length c) := by
    rcases F1.2 with ⟨rfl, _⟩ | ⟨g, zs, rfl, _⟩
    · simp [Value.ownBlock]
    · show some p ≠ some g
      intro e
      injection e with e
      subst e
      exact full_other F1 p1
  have B3 := B1.grown G (hne _ _ _ B1 (by decide))
  have p3 : w2.cell? ⟨p, i, none⟩ = some (.int .i64 x) := (World.cell?_of_block (G.block p (World.block_lt_of_cell? w1 _ p1) hpne)).trans p1
  clear k0 kl kf B2
  have B4 := B3
  obtain ⟨kl, kf, k0⟩ := B4.c1
  refine hK _ _ ?_ ?_ <;> clear hK K
  · refine ⟨?_, ?_⟩ <;> go_simp
  clear hS
  intro hS
  (refine AnyBut.one (i := 10) rfl (by kernel_rfl) rfl ?_; intro K hK; go_simp; refine hK _ _ hS ?_; clear hK K; intro _); (refine AnyBut.one (i := 11) rfl (by kernel_rfl) rfl ?_; intro K hK; go_simp; refine hK _ _ hS ?_; clear hK K; intro _)
  refine AnyBut.last rfl (by kernel_rfl) rfl (by kernel_rfl) ?_; intro K hK; go_simp; refine hK _ _ ?_; clear hK K
  go_end0
  have hrow : ∀ k, Value.ownBlock (.slice A xs.length c) = some k → wb + 1 ≤ k := by
    intro k hk
    rcases F1.2 with ⟨rfl, _⟩ | ⟨g, zs, rfl, hb, _⟩
    · simp [Value.ownBlock] at hk
    · have : some g = some k := hk
      injection this with this
      omega
  refine ⟨rfl, ⟨A3, c3, ?_, ?_⟩, ⟨?_, ?_⟩⟩
  · rw [List.length_append]
    exact B3.set 0 _
  · have e1 : U8 (xs ++ Oct.putN (Oct.zig x)) = U8 xs ++ U8 (Oct.putN (Oct.zig x)) := by unfold U8; rw [List.map_append]
    rw [List.length_append, e1]
    exact F3.same fun g hA => Below.heap_setCell w2 ⟨wb, 0, none⟩ _ g (by have := (F3.lt hA).1; show g ≠ wb; omega)
  · have hB2 : Below wb w w2 := Below.grown (bel1.mono (Nat.le_of_lt wl)) G (Nat.le_of_lt wl1) (fun k hk => by have := hrow k hk; omega)
    exact Below.setCell (p := ⟨wb, 0, none⟩) hB2 (Nat.le_refl _) _
  · intro k t cs hB ht hk
    exact ((hB.call bel1).grown G (hne _ _ _ (hB.call bel1) ht)).far hk _
def bytesOf : List Int → List Int
  | [] => []
  | x :: l => Oct.putN (Oct.zig x) ++ bytesOf l
theorem bytesOf_append (l m : List Int) : bytesOf (l ++ m) = bytesOf l ++ bytesOf m := by
  induction l with
  | nil => rfl
  | cons x l ih => simp [bytesOf, ih]
theorem bytesOf_take {l : List Int} {j : Nat} (h : j < l.length) : bytesOf (l.take (j + 1)) = bytesOf (l.take j) ++ Oct.putN (Oct.zig l[j]) := by
  rw [List.take_succ_eq_append_getElem h, bytesOf_append]
  simp [bytesOf]
def I64r (x : Int) : Prop := -9223372036854775808 ≤ x ∧ x ≤ 9223372036854775807
theorem bytesOf_len {l : List Int} (h : ∀ x ∈ l, I64r x) (j : Nat) (hj : (l.take j).length ≤ j) : (bytesOf (l.take j)).length ≤ 10 * j := by
  have main : ∀ m : List Int, (∀ x ∈ m, I64r x) → (bytesOf m).length ≤ 10 * m.length := by
    intro m
    induction m with
    | nil => intro _; simp [bytesOf]
    | cons x m ih =>
      intro hm
      have h1 := ih fun y hy => hm y (by simp [hy])
      have h2 := Oct.putN_len10 (Oct.zig_lt x (hm x (by simp)).1 (hm x (by simp)).2)
      simp [bytesOf]
      omega
  have := main (l.take j) fun x hx => h x (List.mem_of_mem_take hx)
  omega
theorem numbers_w (wb lb n c : Nat) (lt : TypeId) (ps : List (Nat × Nat)) (vs : List Int) (xs : List Int) (w : World) (hW : WrAt w wb xs) (hlt : lt ≠ 5) (hlw : lb ≠ wb) (hL : Block w lb lt (ps.map fun q => Value.pointer (some ⟨q.1, q.2, none⟩))) (hn : n = ps.length) (hv : vs.length = ps.length)
    (hp : ∀ (j : Nat) (p : Nat × Nat) (v : Int), ps[j]? = some p → vs[j]? = some v → I64r v ∧ ∀ W, KeptW wb w W → W.cell? ⟨p.1, p.2, none⟩ = some (.int .i64 v)) (hb : xs.length + 10 * ps.length ≤ 100000) :
    Calls Tryz.prog 135 #[.iface 107 (.pointer (some ⟨wb, 0, none⟩)), .slice (some ⟨lb, 0, none⟩) n c] w fun e w' => e = .returned (.tuple #[]) ∧ WrAt w' wb (xs ++ bytesOf vs) ∧ KeptW wb w w' := by
  subst hn
  go_enter Tryz.func135, Tryz.ntmps135
  go_wp2_with fail
  go_loopw [8] (fun i wr => ∃ j : Nat, j ≤ ps.length ∧ i = .int .i64 j ∧ WrAt wr wb (xs ++ bytesOf (vs.take j)) ∧ KeptW wb w wr) (fun i _ => ps.length - (intOf i).toNat)
  case atStart => exact ⟨0, by omega, rfl, by simpa [bytesOf] using hW, ⟨Below.refl _ _, fun _ _ _ h _ _ => h⟩⟩
  case round =>
    obtain ⟨j, hj, rfl, hWr, hK0⟩ := hrel
    have hL1 := hK0.blk _ _ _ hL hlt hlw
    by_cases hjn : j < ps.length
    · have q3 : (0 : Int) ≤ (j : Int) := by omega
      have q4 : (j : Int) < (ps.length : Int) := by omega
      have hjv : j < vs.length := by omega
      have e1 : ps[j]? = some ps[j] := by simp [hjn]
      have e2 : vs[j]? = some vs[j] := by simp [hjv]
      obtain ⟨hr, hc⟩ := hp j _ _ e1 e2
      have hcw := hc wr hK0
      have cl : wr.cell? ⟨lb, j, none⟩ = some (.pointer (some ⟨ps[j].1, ps[j].2, none⟩)) := by rw [hL1.cell]; simp [hjn]
      have lenj : (bytesOf (vs.take j)).length ≤ 10 * j := bytesOf_len (fun x hx => by
        obtain ⟨m, hm, he⟩ := List.mem_iff_getElem.1 hx
        subst he
        exact (hp m ps[m] vs[m] (by simp) (by simp [hm])).1) j (by rw [List.length_take]; omega)
      go_wp2_with (refine (number_w wb _ _ vs[j] _ _ hWr hcw hr.1 hr.2 (by simp; omega)).mono ?_; rintro e w1 ⟨rfl, hW1, hK1⟩)
      go_roundw
      case rel => exact ⟨j + 1, by omega, by simp, by rw [bytesOf_take hjv, ← List.append_assoc]; exact hW1, hK0.trans hK1⟩
      case measure => simp [intOf]; omega
    · have hjn2 : j = ps.length := by omega
      subst hjn2
      go_wp2_with fail
      go_end0
      refine ⟨rfl, ?_, hK0⟩
      rw [← hv, List.take_length] at hWr
      exact hWr
end Go.Proofs.YthmhdaefkhcenaaGreatDoor
namespace Go.Proofs.YthmhdaefkhcenaaGreatDoor
open Go.Lib
namespace Oct
theorem put_get (rest : List Int) (at_ len : Int) : ∀ (r i rank : Nat), rank < 128 ^ i → i ≤ 9 → (i = 0 ∨ 0 < r) → rank + r * 128 ^ i < 18446744073709551616 →
    getL (putN r ++ rest) i rank at_ len = (zag (rank + r * 128 ^ i), at_ + i + (putN r).length, 0, 0) := by
  intro r
  induction r using Nat.strongRecOn with
  | ind r ih =>
    intro i rank hr hi h0 hb
    by_cases h : r < 128
    · rw [putN_small h, List.singleton_append, getL]
      have h9 : ¬ (i = 9 ∧ 1 < (r : Int)) := by
        rintro ⟨rfl, h1⟩
        simp at hb
        omega
      rw [if_neg h9, if_neg (by omega), if_pos (by omega)]
      have e : ((r : Int) % 128).toNat = r := by omega
      rw [e]
      rfl
    · rw [putN_big h, List.cons_append, getL]
      have hi8 : i ≤ 8 := by
        rcases Nat.lt_or_ge i 9 with h1 | h1
        · omega
        · obtain rfl : i = 9 := by omega
          simp at hb
          omega
      rw [if_neg (by omega), if_neg (by omega), if_neg (by omega)]
      have e : (((r % 128 + 128 : Nat) : Int) % 128).toNat = r % 128 := by omega
      rw [e]
      have e2 : rank + r % 128 * 128 ^ i + r / 128 * 128 ^ (i + 1) = rank + r * 128 ^ i := by
        rw [Nat.pow_succ, Nat.mul_comm (128 ^ i) 128, ← Nat.mul_assoc, Nat.add_assoc, ← Nat.add_mul]
        congr 2
        omega
      rw [ih (r / 128) (by omega) (i + 1) _ (rank_next hr (by omega)) (by omega) (by omega) (by rw [e2]; exact hb), e2]
      simp only [List.length_cons, Prod.mk.injEq, and_true, true_and]
      omega
theorem put_cut (at_ len : Int) : ∀ (r i rank k : Nat), rank < 128 ^ i → i ≤ 9 → (i = 0 ∨ 0 < r) → rank + r * 128 ^ i < 18446744073709551616 → k < (putN r).length →
    getL ((putN r).take k) i rank at_ len = (0, 0, 4, len) := by
  intro r
  induction r using Nat.strongRecOn with
  | ind r ih =>
    intro i rank k hr hi h0 hb hk
    by_cases h : r < 128
    · rw [putN_small h] at hk ⊢
      obtain rfl : k = 0 := by simpa using hk
      rfl
    · rw [putN_big h] at hk ⊢
      rcases k with _ | k
      · rfl
      · rw [List.take_succ_cons, getL]
        have hi8 : i ≤ 8 := by
          rcases Nat.lt_or_ge i 9 with h1 | h1
          · omega
          · obtain rfl : i = 9 := by omega
            simp at hb
            omega
        rw [if_neg (by omega), if_neg (by omega), if_neg (by omega)]
        have e : (((r % 128 + 128 : Nat) : Int) % 128).toNat = r % 128 := by omega
        rw [e]
        have e2 : rank + r % 128 * 128 ^ i + r / 128 * 128 ^ (i + 1) = rank + r * 128 ^ i := by
          rw [Nat.pow_succ, Nat.mul_comm (128 ^ i) 128, ← Nat.mul_assoc, Nat.add_assoc, ← Nat.add_mul]
          congr 2
          omega
        simp only [List.length_cons] at hk
        exact ih (r / 128) (by omega) (i + 1) _ k (rank_next hr (by omega)) (by omega) (by omega) (by rw [e2]; exact hb) (by omega)
theorem getB_at {xs rest : List Int} {at_ : Nat} {n : Int} (hn : -9223372036854775808 ≤ n ∧ n ≤ 9223372036854775807) (h : xs.drop at_ = putN (zig n) ++ rest) :
    getB xs at_ = (n, ((at_ + (putN (zig n)).length : Nat) : Int), 0, 0) := by
  have hl : at_ ≤ xs.length := by
    have e : (xs.drop at_).length = _ := congrArg List.length h
    have := putN_pos (zig n)
    rw [List.length_drop, List.length_append] at e
    omega
  have hz := zig_lt n hn.1 hn.2
  unfold getB
  rw [if_neg (by omega), Int.toNat_natCast, h, put_get rest at_ xs.length (zig n) 0 0 (by simp) (by omega) (.inl rfl) (by simpa using hz)]
  simp only [Nat.pow_zero, Nat.mul_one, Nat.zero_add, zag_zig, Prod.mk.injEq, and_true, true_and]
  omega
end Oct
end Go.Proofs.YthmhdaefkhcenaaGreatDoor
namespace Go.Proofs.YthmhdaefkhcenaaGreatDoor
open Go.RowKit Go.Lib

structure RdL (w : World) (R : Nat) (A : Option Addr) (c : Nat) (xs : List Int) (l : List Int) (B : Nat) : Prop where
  rd : ∃ (k : Nat) (fa : Int), RD w R A xs.length c k 0 fa true ∧ xs.drop k = bytesOf l
  sh : Shows w B 1 A xs.length (U8 xs)
  le : B ≤ R
  cap : xs.length ≤ c
  len : xs.length ≤ 70000
  byt : ∀ x ∈ xs, 0 ≤ x ∧ x ≤ 255
theorem RdL.lt {w : World} {R : Nat} {A : Option Addr} {c : Nat} {xs l : List Int} {B : Nat} (h : RdL w R A c xs l B) : R < w.heap.size := by
  obtain ⟨k, fa, hR, _⟩ := h.rd
  exact Block.lt hR
theorem int_next (R : Nat) (A : Option Addr) (c : Nat) (xs l : List Int) (x low high : Int) (B : Nat) (w : World) (h : RdL w R A c xs (x :: l) B) (hx : I64r x) (h0 : low ≤ x) (h1 : x ≤ high) :
    Calls Tryz.prog 121 #[.pointer (some ⟨R, 0, none⟩), .int .i64 low, .int .i64 high] w fun e w' => e = .returned (.int .i64 x) ∧ RdL w' R A c xs l B ∧ w.grownBy w' (some R) := by
  have hRl := h.lt
  obtain ⟨⟨k, fa, hR, hd⟩, hs, hle, hcap, hlen, hb⟩ := h
  have hd' : xs.drop k = Oct.putN (Oct.zig x) ++ bytesOf l := hd
  have hg := Oct.getB_at hx hd'
  have hl := congrArg List.length hd'
  have hp := Oct.putN_pos (Oct.zig x)
  simp only [List.length_drop, List.length_append] at hl
  have hst : rdN (Oct.getB xs k) k 0 fa low high 5 = (x, ((k + (Oct.putN (Oct.zig x)).length : Nat) : Int), 0, fa) := by
    rw [hg]
    unfold rdN nfault
    simp
    rw [if_neg (by omega), if_neg (by omega)]
    simp
  refine (int_made R A xs.length c xs k 0 fa low high B w hR hs (by omega) (by unfold maxLen; omega) hcap hb (by omega) (by omega) hst).mono ?_
  rintro e w' ⟨rfl, hgr, hR'⟩
  refine ⟨rfl, ⟨⟨k + (Oct.putN (Oct.zig x)).length, fa, hR', ?_⟩, hs.kept hgr hle (by omega), hle, hcap, hlen, hb⟩, hgr⟩
  rw [← List.drop_drop, hd']
  simp
end Go.Proofs.YthmhdaefkhcenaaGreatDoor
