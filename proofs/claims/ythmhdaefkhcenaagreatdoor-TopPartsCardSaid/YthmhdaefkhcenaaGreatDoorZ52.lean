/- Lemmas for it; no condition: TRep TRep2 TAwk TPts. -/
import Derived.Test.YthmhdaefkhcenaaGreatDoorZ08
import Derived.Test.YthmhdaefkhcenaaGreatDoorZ48
import Derived.Test.YthmhdaefkhcenaaGreatDoorZ51
set_option linter.unusedVariables false
set_option linter.unusedSimpArgs false
namespace Go.Proofs.YthmhdaefkhcenaaGreatDoor
open Go.RowKit Go.Lib Go.MapKept

theorem accF_cons (f : Mv → Nat) (x : Mv) (L : List Mv) : accF f (x :: L) = (if x.bk then - (f x : Int) else (f x : Int)) + accF f L := by simp [accF]
theorem acc_n (n t : Nat) : ∀ (Z : List (Ref × Nat)) (b : Nat), accF (·.n) (mvsOf n t b Z) = - (backs (Z.map (·.1)) : Int)
  | [], b => by simp [mvsOf, accF, backs]
  | (z, k) :: Z, b => by
    simp only [mvsOf, accF_cons, acc_n n t Z]
    simp [backs]
    omega
theorem acc_t (n t : Nat) : ∀ (Z : List (Ref × Nat)) (b : Nat), accF (·.t) (mvsOf n t b Z) = (evenF (t * b) n : Int) - (evenF (t * (b + backs (Z.map (·.1)))) n : Int)
  | [], b => by simp [mvsOf, accF, backs]
  | (z, k) :: Z, b => by
    simp only [mvsOf, accF_cons, acc_t n t Z]
    have h := back_cast t n b (b + z.x) (by omega)
    have e : b + z.x + backs (Z.map (·.1)) = b + backs ((z, k) :: Z |>.map (·.1)) := by simp [backs, Nat.add_assoc]
    rw [e]
    simp only [if_true]
    omega
theorem mvsOf_take (n t : Nat) : ∀ (Z : List (Ref × Nat)) (b j : Nat), (mvsOf n t b Z).take j = mvsOf n t b (Z.take j)
  | [], b, j => by simp [mvsOf]
  | z :: Z, b, 0 => by simp [mvsOf]
  | (z, k) :: Z, b, j + 1 => by simp [mvsOf, mvsOf_take n t Z]
theorem even_tle (t n b : Nat) (hn : 0 < n) (hb : b ≤ n) : evenF (t * b) n ≤ t := by
  have h := even_mono (p := t * b) (q := n * t) n (by rw [Nat.mul_comm n t]; exact Nat.mul_le_mul_left _ hb)
  rw [even_exact t n hn] at h
  exact h
theorem cntF_cons (b : Bool) (x : Mv) (L : List Mv) : cntF b (x :: L) = (if x.bk == b then 1 else 0) + cntF b L := by
  simp only [cntF, List.filter_cons]
  split <;> simp [Nat.add_comm]
theorem cnt_refs (n t : Nat) : ∀ (Z : List (Ref × Nat)) (b : Nat), cntF false (mvsOf n t b Z) = 0 ∧ cntF true (mvsOf n t b Z) = Z.length
  | [], b => by simp [mvsOf, cntF]
  | (z, k) :: Z, b => by
    have h := cnt_refs n t Z (b + z.x)
    simp only [mvsOf, cntF_cons, h.1, h.2]
    simp [Nat.add_comm]
theorem mvs_mem (n t : Nat) (hn : 0 < n) : ∀ (Z : List (Ref × Nat)) (b : Nat), b + backs (Z.map (·.1)) ≤ n → ∀ x ∈ mvsOf n t b Z, (∃ z ∈ Z, x.day = z.1.day ∧ x.n = z.1.x) ∧ x.t ≤ t
  | [], b, _, x, hx => by simp [mvsOf] at hx
  | (z, k) :: Z, b, h, x, hx => by
    have e : backs (((z, k) :: Z).map (·.1)) = z.x + backs (Z.map (·.1)) := by simp [backs]
    rw [e] at h
    simp only [mvsOf, List.mem_cons] at hx
    rcases hx with rfl | hx
    · refine ⟨⟨(z, k), by simp, rfl, rfl⟩, ?_⟩
      have := even_tle t n (b + z.x) hn (by omega)
      dsimp only
      unfold backF
      omega
    · obtain ⟨⟨y, hy, h1⟩, h2⟩ := mvs_mem n t hn Z (b + z.x) (by omega) x hx
      exact ⟨⟨y, List.mem_cons_of_mem _ hy, h1⟩, h2⟩
def repC (n t : Nat) (R : List Ref) : List Value := [.int .i64 7, .int .i64 1, .int .i64 0, .int .i64 ((n : Int) - (backs R : Nat)), .int .i64 0, .int .i64 ((t : Int) - (evenF (t * backs R) n : Nat)), .int .i64 1, .int .i64 (R.length : Nat)]
theorem rem_bk (bb m ib gb lo : Nat) (sid ds : Int) (n r t : Nat) (R : List Ref) (ks : List Nat) (jb jc rb rc : Nat) (hR : RefsOk sid ds n r t R) (hds : 10 ≤ ds) (hdy : ds ≤ 18 ∧ ∀ y ∈ R, y.day ≤ 18) (w : World) (hB : BookAt w bb m ib gb lo sid ds n r t R ks) (hJ : Has w jb (juC rb rc)) :
    Calls Tryz.prog 34 #[.pointer (some ⟨bb, 0, none⟩), .slice (some ⟨jb, 0, none⟩) 1 jc, .int .i64 7, .int .i64 0] w fun e w' => e = .returned (.tuple #[.agg (repC n t R).toArray, .int .i64 0]) ∧ Below w.heap.size w w' := by
  have hmv := hB.mvOk
  obtain ⟨hl, ⟨kb, ic, sb, sc, tb, tc, b1, b2, b3, b4, b5, b6, _⟩, hbk, hrest, _⟩ := hB
  have hkl := keys_len sid kb ds n t (R := R) (ks := ks) hl
  have hki := keys_ids sid kb ds n t (R := R) (ks := ks) hl
  have hzf := zip_fst (R := R) (ks := ks) hl
  have hzt : ∀ j, ((R.zip ks).take j).map (·.1) = R.take j := fun j => by rw [List.map_take, hzf]
  have hsum := hR.sum
  have hn0 := hR.n0
  have hn1 := hR.n1
  have ht1 := hR.t1
  have hfew := hR.few
  have hlen : (⟨sid, kb, ds, false, n, t⟩ :: mvsOf n t 0 (R.zip ks) : List Mv).length = R.length + 1 := by simp [mvsOf_length, hl]
  have hids : ((⟨sid, kb, ds, false, n, t⟩ :: mvsOf n t 0 (R.zip ks) : List Mv).map fun x => Value.int .i64 x.id) = .int .i64 sid :: R.map fun y => .int .i64 y.id := by
    have h := hki
    rw [mvP_ids] at h
    have h2 := congrArg (List.map (fun i : Int => Value.int .i64 i)) h
    rw [List.map_map] at h2
    refine Eq.trans ?_ (h2.trans ?_)
    · rfl
    · rw [List.map_cons, List.map_map]
      rfl
  obtain ⟨ib', e0, _, _, hI⟩ := own_has b2 (by omega)
  injection e0 with e0
  injection e0 with e0
  subst e0
  have hacN : ∀ j, accF (·.n) ((⟨sid, kb, ds, false, n, t⟩ :: mvsOf n t 0 (R.zip ks) : List Mv).take (j + 1)) = (n : Int) - (backs (R.take j) : Nat) := fun j => by
    rw [List.take_succ_cons, mvsOf_take, accF_cons, acc_n, hzt]
    simp
    omega
  have hacT : ∀ j, accF (·.t) ((⟨sid, kb, ds, false, n, t⟩ :: mvsOf n t 0 (R.zip ks) : List Mv).take (j + 1)) = (t : Int) - (evenF (t * backs (R.take j)) n : Nat) := fun j => by
    rw [List.take_succ_cons, mvsOf_take, accF_cons, acc_t, hzt]
    have h0 := even_zero n hn0
    simp [h0]
    omega
  have hmem := mvs_mem n t hn0 (R.zip ks) 0 (by rw [hzf]; omega)
  have hall : ∀ f, accF f (⟨sid, kb, ds, false, n, t⟩ :: mvsOf n t 0 (R.zip ks) : List Mv) = accF f ((⟨sid, kb, ds, false, n, t⟩ :: mvsOf n t 0 (R.zip ks) : List Mv).take (R.length + 1)) := fun f => by rw [List.take_of_length_le (by omega)]
  refine (file_rem bb m ib ic jb jc rb rc (⟨sid, kb, ds, false, n, t⟩ :: mvsOf n t 0 (R.zip ks)) w (by rw [hlen]; exact b1) (by rw [hids]; exact hI) (by rw [hkl]; exact b3) (by rw [hki]; exact hR.nodup) ?_ (by omega) hJ ?_ ?_ ?_ ?_).mono ?_
  · intro x hx
    rcases List.mem_cons.1 hx with rfl | hx
    · exact ⟨1, _, _, _, _, _, tb, tc, r, by simp, b4, b6⟩
    · exact hmv x hx
  · intro x hx
    rcases List.mem_cons.1 hx with rfl | hx
    · exact ⟨hds, hdy.1⟩
    · obtain ⟨⟨z, hz, e1, _⟩, _⟩ := hmem x hx
      have hz1 : z.1 ∈ R := by
        rw [← hzf]
        exact List.mem_map_of_mem hz
      have h1 := hdy.2 _ hz1
      have h2 := (hR.each _ hz1).2.2.1
      rw [e1]
      exact ⟨by omega, h1⟩
  · intro x hx
    rcases List.mem_cons.1 hx with rfl | hx
    · exact ⟨hn1, ht1⟩
    · obtain ⟨⟨z, hz, _, e2⟩, e3⟩ := hmem x hx
      have hz1 : z.1 ∈ R := by
        rw [← hzf]
        exact List.mem_map_of_mem hz
      have h1 := backs_mem R _ hz1
      rw [e2]
      exact ⟨by omega, by omega⟩
  · intro j hj
    cases j with
    | zero => simp [accF]
    | succ j =>
      rw [hacN]
      have := backs_take_le R j
      omega
  · intro j hj
    cases j with
    | zero => simp [accF]
    | succ j =>
      rw [hacT]
      have := even_tle t n (backs (R.take j)) hn0 (Nat.le_trans (backs_take_le R j) hsum)
      omega
  · rintro e w' ⟨rfl, hb⟩
    refine ⟨?_, hb⟩
    rw [hall, hall, hacN, hacT, List.take_of_length_le (Nat.le_refl _)]
    have hc := cnt_refs n t (R.zip ks) 0
    have hc1 : cntF false (⟨sid, kb, ds, false, n, t⟩ :: mvsOf n t 0 (R.zip ks)) = 1 := by
      rw [cntF_cons, hc.1]
      rfl
    have hc2 : cntF true (⟨sid, kb, ds, false, n, t⟩ :: mvsOf n t 0 (R.zip ks)) = R.length := by
      rw [cntF_cons, hc.2]
      simp [hl]
    rw [hc1, hc2]
    rfl
end Go.Proofs.YthmhdaefkhcenaaGreatDoor
namespace Go.Proofs.YthmhdaefkhcenaaGreatDoor
set_option maxRecDepth 100000
set_option maxHeartbeats 8000000
open Go.RowKit Go.Lib Go.MapKept

theorem rep1 (x0 x1 x2 k bb m ib gb lo : Nat) (sid ds : Int) (n r t : Nat) (R : List Ref) (ks : List Nat) (jb jc rb rc : Nat) (v0 v2 v3 v4 v5 v6 v7 v8 v10 v11 : Value) (hR : RefsOk sid ds n r t R) (hds : 10 ≤ ds) (hdy : ds ≤ 18 ∧ ∀ y ∈ R, y.day ≤ 18) (w : World) (h0 : Block w x0 26 [.pointer (some ⟨k, 0, none⟩)]) (h1 : Block w x1 3 [.int .i64 7]) (h2 : Block w x2 3 [.int .i64 0])
    (hK : Block w k 100 [v0, .slice (some ⟨jb, 0, none⟩) 1 jc, v2, v3, v4, v5, v6, v7, v8, .pointer (some ⟨bb, 0, none⟩), v10, v11]) (hB : BookAt w bb m ib gb lo sid ds n r t R ks) (hJ : Has w jb (juC rb rc)) :
    Calls Tryz.prog 33 #[.pointer (some ⟨x0, 0, none⟩), .pointer (some ⟨x1, 0, none⟩), .pointer (some ⟨x2, 0, none⟩)] w fun e w' => e = .returned (.tuple #[.agg (repC n t R).toArray, .int .i64 0]) ∧ Below w.heap.size w w' := by
  obtain ⟨vn, hvn⟩ : ∃ vn : Int, (n : Int) - (backs R : Nat) = vn := ⟨_, rfl⟩
  obtain ⟨vt, hvt⟩ : ∃ vt : Int, (t : Int) - (evenF (t * backs R) n : Nat) = vt := ⟨_, rfl⟩
  have hrem := fun w hB hJ => rem_bk bb m ib gb lo sid ds n r t R ks jb jc rb rc hR hds hdy w hB hJ
  unfold repC at hrem ⊢
  rw [hvn, hvt] at hrem ⊢
  have HB := Lib.hid hB
  clear hvn hvt hB
  go_enter Tryz.func33, Tryz.ntmps33
  go_upto_region 1 with (fail)
  refine at_code (fun W => Below w.heap.size w W ∧ Block W w.heap.size 59 [.int .i64 0, .int .i64 0, .int .i64 0, .int .i64 0, .int .i64 0, .int .i64 0, .int .i64 0, .int .i64 0]) ⟨by exact sBel, btop rfl⟩ ?_
  rintro w1 ⟨bel1, Z1⟩
  have A1 := h0.call bel1
  have B1 := h1.call bel1
  have C1 := h2.call bel1
  have K1 := hK.call bel1
  have A1p := A1
  have B1p := B1
  have C1p := C1
  have K1p := K1
  obtain ⟨al, af, a0⟩ := A1p.c1
  obtain ⟨bl, bf, b0⟩ := B1p.c1
  obtain ⟨ccl, ccf, cc0⟩ := C1p.c1
  obtain ⟨kl, kf, k0, k1, k2, k3, k4, k5, k6, k7, k8, k9, k10, k11⟩ := K1p.c12
  have zk := hK.lt
  have zx0 := h0.lt
  have zx1 := h1.lt
  have zx2 := h2.lt
  refine AnyBut.region (S := fun w' => w'.cell? ⟨x0, 0, none⟩ = some (.pointer (some ⟨k, 0, none⟩)) ∧ w'.cell? ⟨k, 9, none⟩ = some (.pointer (some ⟨bb, 0, none⟩)) ∧ w'.cell? ⟨k, 1, none⟩ = some (.slice (some ⟨jb, 0, none⟩) 1 jc) ∧ w'.cell? ⟨x1, 0, none⟩ = some (.int .i64 7) ∧ w'.cell? ⟨x2, 0, none⟩ = some (.int .i64 0)) (t := 99) 16 rfl (by kernel_rfl) ⟨a0, k9, k1, b0, cc0⟩ ?_
  intro hS
  refine AnyBut.tk0 0 hS rfl (h := ?_); refine AnyBut.tk0 1 hS rfl (h := ?_); refine AnyBut.tk0 2 hS rfl (h := ?_); refine AnyBut.tk0 3 hS rfl (h := ?_); refine AnyBut.tk0 4 hS rfl (h := ?_); refine AnyBut.tk0 5 hS rfl (h := ?_); refine AnyBut.tk0 6 hS rfl (h := ?_); refine AnyBut.tk0 7 hS rfl (h := ?_); refine AnyBut.tk0 8 hS rfl (h := ?_); refine AnyBut.tk0 9 hS rfl (h := ?_); refine AnyBut.tk0 10 hS rfl (h := ?_)
  clear hS
  refine AnyBut.one (i := 11) rfl (by kernel_rfl) rfl ?_; intro K' hKK
  go_wp2_with fail
  refine (hrem w1.drew ((HB.out.call bel1).call (Below.drew (Below.refl _ _))) (Has.drew (hJ.call bel1))).mono ?_
  rintro e w2 ⟨rfl, hb2⟩
  have bel2 : Below w.heap.size w w2 := bel_call (Below.drew bel1) hb2
  have Z2 := Z1.drew.call hb2
  have A2 := h0.call bel2
  have B2 := h1.call bel2
  have C2 := h2.call bel2
  have K2 := hK.call bel2
  clear a0 al af b0 bl bf cc0 ccl ccf k0 k1 k2 k3 k4 k5 k6 k7 k8 k9 k10 k11 kl kf A1p B1p C1p K1p A1 B1 C1 K1 Z1
  have A2p := A2
  have B2p := B2
  have C2p := C2
  have K2p := K2
  have Z2p := Z2
  obtain ⟨al, af, a0⟩ := A2p.c1
  obtain ⟨bl, bf, b0⟩ := B2p.c1
  obtain ⟨ccl, ccf, cc0⟩ := C2p.c1
  obtain ⟨kl, kf, k0, k1, k2, k3, k4, k5, k6, k7, k8, k9, k10, k11⟩ := K2p.c12
  obtain ⟨zl, zf, z0, z1, z2, z3, z4, z5, z6, z7⟩ := Z2p.c8
  refine hKK _ _ ⟨a0, k9, k1, b0, cc0⟩ ?_
  intro hS
  clear hKK K'
  refine AnyBut.tk0 12 hS rfl (h := ?_); refine AnyBut.tk0 13 hS rfl (h := ?_)
  clear hS
  have n0 : x0 ≠ w.heap.size := by omega
  have n1 : x1 ≠ w.heap.size := by omega
  have n2 : x2 ≠ w.heap.size := by omega
  have n3 : k ≠ w.heap.size := by omega
  refine AnyBut.one (i := 14) rfl (by kernel_rfl) rfl ?_; intro K hK; go_simp; refine hK _ _ ?_ ?_ <;> clear hK K; rotate_left; intro hS; rotate_left
  · refine ⟨?_, ?_, ?_, ?_, ?_⟩ <;> go_simp
  refine AnyBut.tk0 15 hS rfl (h := ?_)
  clear hS
  refine AnyBut.done (by kernel_rfl) ?_
  go_wp2_with fail
  refine ret_ct (b := w.heap.size) (T := 59) (t := 59) (cs := [.int .i64 7, .int .i64 1, .int .i64 0, .int .i64 vn, .int .i64 0, .int .i64 vt, .int .i64 1, .int .i64 (R.length : Nat)]) rfl rfl rfl ((((((((Z2.set 0 _).set 1 _).set 2 _).set 3 _).set 4 _).set 5 _).set 6 _).set 7 _) agg_rep size_rep ⟨rfl, by exact sBel⟩
theorem report_c (k bb m ib gb lo l K : Nat) (sid ds : Int) (n r t : Nat) (R : List Ref) (ks : List Nat) (jb jc rb rc : Nat) (v0 v2 v3 v4 v5 v6 v10 : Value) (hR : RefsOk sid ds n r t R) (hds : 10 ≤ ds) (hdy : ds ≤ 18 ∧ ∀ y ∈ R, y.day ≤ 18) (w : World)
    (hK : Block w k 100 [v0, .slice (some ⟨jb, 0, none⟩) 1 jc, v2, v3, v4, v5, v6, .pointer (some ⟨K, 0, none⟩), .pointer (some ⟨l, 0, none⟩), .pointer (some ⟨bb, 0, none⟩), v10, .bool false]) (hB : BookAt w bb m ib gb lo sid ds n r t R ks) (hJ : Has w jb (juC rb rc)) :
    Calls Tryz.prog 15 #[.pointer (some ⟨k, 0, none⟩), .int .i64 7, .int .i64 0] w fun e w' => e = .returned (.tuple #[.agg (repC n t R).toArray, .int .i64 0]) ∧ Below w.heap.size w w' := by
  have hmf : ∀ (fn : Fn) (first cap : Array Value) (w : World), (Instr.makeFunc fn first cap).run Tryz.prog w = .ok (.func fn first cap) w := fun _ _ _ _ => rfl
  have hcn := calcp_ne
  obtain ⟨vn, hvn⟩ : ∃ vn : Int, (n : Int) - (backs R : Nat) = vn := ⟨_, rfl⟩
  obtain ⟨vt, hvt⟩ : ∃ vt : Int, (t : Int) - (evenF (t * backs R) n : Nat) = vt := ⟨_, rfl⟩
  have hrep := fun x0 x1 x2 w h0 h1 h2 hK hB hJ => rep1 x0 x1 x2 k bb m ib gb lo sid ds n r t R ks jb jc rb rc v0 v2 v3 v4 v5 v6 (.pointer (some ⟨K, 0, none⟩)) (.pointer (some ⟨l, 0, none⟩)) v10 (.bool false) hR hds hdy w h0 h1 h2 hK hB hJ
  unfold repC at hrep ⊢
  rw [hvn, hvt] at hrep ⊢
  have HB := Lib.hid hB
  clear hvn hvt hB
  go_enter Tryz.func15, Tryz.ntmps15
  go_wp2_with (go_at_call 32; go_in)
  go_wp2_with (go_at_call 60; go_in)
  refine (none_desk k l _ _ _ _ _ _ _ _ _ _ _ _ (hK.call (by exact sBel))).mono ?_
  rintro e w1 ⟨rfl, hb1⟩
  have bel1 : Below w.heap.size w w1 := bel_call (by exact sBel) hb1
  have X0 : Block w1 w.heap.size 26 [.pointer (some ⟨k, 0, none⟩)] := Block.call (by exact sBlk) hb1
  have X1 : Block w1 (w.heap.size + 1) 3 [.int .i64 7] := Block.call (by exact sBlk) hb1
  have X2 : Block w1 (w.heap.size + 1 + 1) 3 [.int .i64 0] := Block.call (by exact sBlk) hb1
  have X3 : Block w1 (w.heap.size + 1 + 1 + 1) 59 [.int .i64 0, .int .i64 0, .int .i64 0, .int .i64 0, .int .i64 0, .int .i64 0, .int .i64 0, .int .i64 0] := Block.call (by exact sBlk) hb1
  have X4 : Block w1 (w.heap.size + 1 + 1 + 1 + 1) 26 [.pointer (some ⟨k, 0, none⟩)] := Block.call (by exact sBlk) hb1
  have X5 : Block w1 (w.heap.size + 1 + 1 + 1 + 1 + 1) 106 [.func (.func 33) #[] #[.pointer (some ⟨w.heap.size, 0, none⟩), .pointer (some ⟨w.heap.size + 1, 0, none⟩), .pointer (some ⟨w.heap.size + 1 + 1, 0, none⟩)]] := Block.call (by exact sBlk) hb1
  have X6 : Block w1 (w.heap.size + 1 + 1 + 1 + 1 + 1 + 1) 59 [.int .i64 0, .int .i64 0, .int .i64 0, .int .i64 0, .int .i64 0, .int .i64 0, .int .i64 0, .int .i64 0] := Block.call (by exact sBlk) hb1
  have X7 : Block w1 (w.heap.size + 1 + 1 + 1 + 1 + 1 + 1 + 1) 59 [.int .i64 0, .int .i64 0, .int .i64 0, .int .i64 0, .int .i64 0, .int .i64 0, .int .i64 0, .int .i64 0] := Block.call (by exact sBlk) hb1
  have K1 := hK.call bel1
  have zx := X7.lt
  clear hb1
  have K1p := K1
  have X4p := X4
  have X5p := X5
  obtain ⟨kl, kf, k0, k1, k2, k3, k4, k5, k6, k7, k8, k9, k10, k11⟩ := K1p.c12
  obtain ⟨al, af, a0⟩ := X4p.c1
  obtain ⟨bl, bf, b0⟩ := X5p.c1
  go_wp2_with (go_at_call 61; go_in)
  have bs : Below w1.heap.size w1 (w1.alloc (.cells #[.int .i64 0, .int .i64 0, .int .i64 0, .int .i64 0, .int .i64 0, .int .i64 0, .int .i64 0, .int .i64 0] 59)) := bel_alloc (Below.refl _ _) _
  refine (hrep _ _ _ _ (X0.alloc _) (X1.alloc _) (X2.alloc _) (K1.alloc _) (HB.out.call (bel_call bel1 bs)) (hJ.call (bel_call bel1 bs))).mono ?_
  rintro e w2 ⟨rfl, hb2⟩
  have bel2 := bel_call (bel_call bel1 bs) hb2
  have Y3 := (X3.call bs).call hb2
  have Y6 := (X6.call bs).call hb2
  have Y7 := (X7.call bs).call hb2
  have Y9 : Block w2 w1.heap.size 59 [.int .i64 0, .int .i64 0, .int .i64 0, .int .i64 0, .int .i64 0, .int .i64 0, .int .i64 0, .int .i64 0] := Block.call (btop rfl) hb2
  clear k0 k1 k2 k3 k4 k5 k6 k7 k8 k9 k10 k11 kl kf a0 al af b0 bl bf K1p X4p X5p
  clear X0 X1 X2 X3 X4 X5 X6 X7 K1 hb2 bs HB hrep hJ hK
  have Yp0 := Y9
  obtain ⟨yl, yf, y0, y1, y2, y3, y4, y5, y6, y7⟩ := Yp0.c8
  go_wp2
  refine ret_ct (b := w1.heap.size) (T := 59) (t := 59) (cs := [.int .i64 7, .int .i64 1, .int .i64 0, .int .i64 vn, .int .i64 0, .int .i64 vt, .int .i64 1, .int .i64 (R.length : Nat)]) rfl rfl rfl ((((((((Y9.set 0 _).set 1 _).set 2 _).set 3 _).set 4 _).set 5 _).set 6 _).set 7 _) agg_rep size_rep ?_
  have kq0 : Kept [w1.heap.size] w2 ((((((((w2.setCell ⟨w1.heap.size, 0, none⟩ (.int .i64 7)).setCell ⟨w1.heap.size, 1, none⟩ (.int .i64 1)).setCell ⟨w1.heap.size, 2, none⟩ (.int .i64 0)).setCell ⟨w1.heap.size, 3, none⟩ (.int .i64 vn)).setCell ⟨w1.heap.size, 4, none⟩ (.int .i64 0)).setCell ⟨w1.heap.size, 5, none⟩ (.int .i64 vt)).setCell ⟨w1.heap.size, 6, none⟩ (.int .i64 1)).setCell ⟨w1.heap.size, 7, none⟩ (.int .i64 (R.length : Nat))) := (((((((((Kept.refl _ _).set (by simp) _).set (by simp) _).set (by simp) _).set (by simp) _).set (by simp) _).set (by simp) _).set (by simp) _).set (by simp) _)
  have bq0 : Below w.heap.size w ((((((((w2.setCell ⟨w1.heap.size, 0, none⟩ (.int .i64 7)).setCell ⟨w1.heap.size, 1, none⟩ (.int .i64 1)).setCell ⟨w1.heap.size, 2, none⟩ (.int .i64 0)).setCell ⟨w1.heap.size, 3, none⟩ (.int .i64 vn)).setCell ⟨w1.heap.size, 4, none⟩ (.int .i64 0)).setCell ⟨w1.heap.size, 5, none⟩ (.int .i64 vt)).setCell ⟨w1.heap.size, 6, none⟩ (.int .i64 1)).setCell ⟨w1.heap.size, 7, none⟩ (.int .i64 (R.length : Nat))) := bel2.trans (kq0.below (by first | (simp; done) | (simp; omega)) (by have := bel2.size; omega))
  have Y7n := Y7.keptX kq0 (by first | (simp; done) | (simp; omega))
  have Y6n := Y6.keptX kq0 (by first | (simp; done) | (simp; omega))
  have Y3n := Y3.keptX kq0 (by first | (simp; done) | (simp; omega))
  clear kq0
  generalize ((((((((w2.setCell ⟨w1.heap.size, 0, none⟩ (.int .i64 7)).setCell ⟨w1.heap.size, 1, none⟩ (.int .i64 1)).setCell ⟨w1.heap.size, 2, none⟩ (.int .i64 0)).setCell ⟨w1.heap.size, 3, none⟩ (.int .i64 vn)).setCell ⟨w1.heap.size, 4, none⟩ (.int .i64 0)).setCell ⟨w1.heap.size, 5, none⟩ (.int .i64 vt)).setCell ⟨w1.heap.size, 6, none⟩ (.int .i64 1)).setCell ⟨w1.heap.size, 7, none⟩ (.int .i64 (R.length : Nat))) = w3 at bq0 Y7n Y6n Y3n ⊢
  clear Yp0 y0 y1 y2 y3 y4 y5 y6 y7 yl yf Y7 Y6 Y3
  have Y7 := Y7n
  clear Y7n
  have Y6 := Y6n
  clear Y6n
  have Y3 := Y3n
  clear Y3n
  have Yp1 := Y7
  obtain ⟨yl, yf, y0, y1, y2, y3, y4, y5, y6, y7⟩ := Yp1.c8
  go_wp2_with fail
  refine ret_ct (b := (w.heap.size + 1 + 1 + 1 + 1 + 1 + 1 + 1)) (T := 59) (t := 59) (cs := [.int .i64 7, .int .i64 1, .int .i64 0, .int .i64 vn, .int .i64 0, .int .i64 vt, .int .i64 1, .int .i64 (R.length : Nat)]) rfl rfl rfl ((((((((Y7.set 0 _).set 1 _).set 2 _).set 3 _).set 4 _).set 5 _).set 6 _).set 7 _) agg_rep size_rep ?_
  have kq1 : Kept [(w.heap.size + 1 + 1 + 1 + 1 + 1 + 1 + 1)] w3 ((((((((w3.setCell ⟨(w.heap.size + 1 + 1 + 1 + 1 + 1 + 1 + 1), 0, none⟩ (.int .i64 7)).setCell ⟨(w.heap.size + 1 + 1 + 1 + 1 + 1 + 1 + 1), 1, none⟩ (.int .i64 1)).setCell ⟨(w.heap.size + 1 + 1 + 1 + 1 + 1 + 1 + 1), 2, none⟩ (.int .i64 0)).setCell ⟨(w.heap.size + 1 + 1 + 1 + 1 + 1 + 1 + 1), 3, none⟩ (.int .i64 vn)).setCell ⟨(w.heap.size + 1 + 1 + 1 + 1 + 1 + 1 + 1), 4, none⟩ (.int .i64 0)).setCell ⟨(w.heap.size + 1 + 1 + 1 + 1 + 1 + 1 + 1), 5, none⟩ (.int .i64 vt)).setCell ⟨(w.heap.size + 1 + 1 + 1 + 1 + 1 + 1 + 1), 6, none⟩ (.int .i64 1)).setCell ⟨(w.heap.size + 1 + 1 + 1 + 1 + 1 + 1 + 1), 7, none⟩ (.int .i64 (R.length : Nat))) := (((((((((Kept.refl _ _).set (by simp) _).set (by simp) _).set (by simp) _).set (by simp) _).set (by simp) _).set (by simp) _).set (by simp) _).set (by simp) _)
  have bq1 : Below w.heap.size w ((((((((w3.setCell ⟨(w.heap.size + 1 + 1 + 1 + 1 + 1 + 1 + 1), 0, none⟩ (.int .i64 7)).setCell ⟨(w.heap.size + 1 + 1 + 1 + 1 + 1 + 1 + 1), 1, none⟩ (.int .i64 1)).setCell ⟨(w.heap.size + 1 + 1 + 1 + 1 + 1 + 1 + 1), 2, none⟩ (.int .i64 0)).setCell ⟨(w.heap.size + 1 + 1 + 1 + 1 + 1 + 1 + 1), 3, none⟩ (.int .i64 vn)).setCell ⟨(w.heap.size + 1 + 1 + 1 + 1 + 1 + 1 + 1), 4, none⟩ (.int .i64 0)).setCell ⟨(w.heap.size + 1 + 1 + 1 + 1 + 1 + 1 + 1), 5, none⟩ (.int .i64 vt)).setCell ⟨(w.heap.size + 1 + 1 + 1 + 1 + 1 + 1 + 1), 6, none⟩ (.int .i64 1)).setCell ⟨(w.heap.size + 1 + 1 + 1 + 1 + 1 + 1 + 1), 7, none⟩ (.int .i64 (R.length : Nat))) := bq0.trans (kq1.below (by first | (simp; done) | (simp; omega)) (by have := bq0.size; omega))
  have Y6n := Y6.keptX kq1 (by first | (simp; done) | (simp; omega))
  have Y3n := Y3.keptX kq1 (by first | (simp; done) | (simp; omega))
  clear kq1
  generalize ((((((((w3.setCell ⟨(w.heap.size + 1 + 1 + 1 + 1 + 1 + 1 + 1), 0, none⟩ (.int .i64 7)).setCell ⟨(w.heap.size + 1 + 1 + 1 + 1 + 1 + 1 + 1), 1, none⟩ (.int .i64 1)).setCell ⟨(w.heap.size + 1 + 1 + 1 + 1 + 1 + 1 + 1), 2, none⟩ (.int .i64 0)).setCell ⟨(w.heap.size + 1 + 1 + 1 + 1 + 1 + 1 + 1), 3, none⟩ (.int .i64 vn)).setCell ⟨(w.heap.size + 1 + 1 + 1 + 1 + 1 + 1 + 1), 4, none⟩ (.int .i64 0)).setCell ⟨(w.heap.size + 1 + 1 + 1 + 1 + 1 + 1 + 1), 5, none⟩ (.int .i64 vt)).setCell ⟨(w.heap.size + 1 + 1 + 1 + 1 + 1 + 1 + 1), 6, none⟩ (.int .i64 1)).setCell ⟨(w.heap.size + 1 + 1 + 1 + 1 + 1 + 1 + 1), 7, none⟩ (.int .i64 (R.length : Nat))) = w4 at bq1 Y6n Y3n ⊢
  clear Yp1 y0 y1 y2 y3 y4 y5 y6 y7 yl yf Y6 Y3
  have Y6 := Y6n
  clear Y6n
  have Y3 := Y3n
  clear Y3n
  have Yp2 := Y6
  obtain ⟨yl, yf, y0, y1, y2, y3, y4, y5, y6, y7⟩ := Yp2.c8
  go_wp2_with fail
  refine ret_ct (b := (w.heap.size + 1 + 1 + 1 + 1 + 1 + 1)) (T := 59) (t := 59) (cs := [.int .i64 7, .int .i64 1, .int .i64 0, .int .i64 vn, .int .i64 0, .int .i64 vt, .int .i64 1, .int .i64 (R.length : Nat)]) rfl rfl rfl ((((((((Y6.set 0 _).set 1 _).set 2 _).set 3 _).set 4 _).set 5 _).set 6 _).set 7 _) agg_rep size_rep ?_
  have kq2 : Kept [(w.heap.size + 1 + 1 + 1 + 1 + 1 + 1)] w4 ((((((((w4.setCell ⟨(w.heap.size + 1 + 1 + 1 + 1 + 1 + 1), 0, none⟩ (.int .i64 7)).setCell ⟨(w.heap.size + 1 + 1 + 1 + 1 + 1 + 1), 1, none⟩ (.int .i64 1)).setCell ⟨(w.heap.size + 1 + 1 + 1 + 1 + 1 + 1), 2, none⟩ (.int .i64 0)).setCell ⟨(w.heap.size + 1 + 1 + 1 + 1 + 1 + 1), 3, none⟩ (.int .i64 vn)).setCell ⟨(w.heap.size + 1 + 1 + 1 + 1 + 1 + 1), 4, none⟩ (.int .i64 0)).setCell ⟨(w.heap.size + 1 + 1 + 1 + 1 + 1 + 1), 5, none⟩ (.int .i64 vt)).setCell ⟨(w.heap.size + 1 + 1 + 1 + 1 + 1 + 1), 6, none⟩ (.int .i64 1)).setCell ⟨(w.heap.size + 1 + 1 + 1 + 1 + 1 + 1), 7, none⟩ (.int .i64 (R.length : Nat))) := (((((((((Kept.refl _ _).set (by simp) _).set (by simp) _).set (by simp) _).set (by simp) _).set (by simp) _).set (by simp) _).set (by simp) _).set (by simp) _)
  have bq2 : Below w.heap.size w ((((((((w4.setCell ⟨(w.heap.size + 1 + 1 + 1 + 1 + 1 + 1), 0, none⟩ (.int .i64 7)).setCell ⟨(w.heap.size + 1 + 1 + 1 + 1 + 1 + 1), 1, none⟩ (.int .i64 1)).setCell ⟨(w.heap.size + 1 + 1 + 1 + 1 + 1 + 1), 2, none⟩ (.int .i64 0)).setCell ⟨(w.heap.size + 1 + 1 + 1 + 1 + 1 + 1), 3, none⟩ (.int .i64 vn)).setCell ⟨(w.heap.size + 1 + 1 + 1 + 1 + 1 + 1), 4, none⟩ (.int .i64 0)).setCell ⟨(w.heap.size + 1 + 1 + 1 + 1 + 1 + 1), 5, none⟩ (.int .i64 vt)).setCell ⟨(w.heap.size + 1 + 1 + 1 + 1 + 1 + 1), 6, none⟩ (.int .i64 1)).setCell ⟨(w.heap.size + 1 + 1 + 1 + 1 + 1 + 1), 7, none⟩ (.int .i64 (R.length : Nat))) := bq1.trans (kq2.below (by first | (simp; done) | (simp; omega)) (by have := bq1.size; omega))
  have Y3n := Y3.keptX kq2 (by first | (simp; done) | (simp; omega))
  clear kq2
  generalize ((((((((w4.setCell ⟨(w.heap.size + 1 + 1 + 1 + 1 + 1 + 1), 0, none⟩ (.int .i64 7)).setCell ⟨(w.heap.size + 1 + 1 + 1 + 1 + 1 + 1), 1, none⟩ (.int .i64 1)).setCell ⟨(w.heap.size + 1 + 1 + 1 + 1 + 1 + 1), 2, none⟩ (.int .i64 0)).setCell ⟨(w.heap.size + 1 + 1 + 1 + 1 + 1 + 1), 3, none⟩ (.int .i64 vn)).setCell ⟨(w.heap.size + 1 + 1 + 1 + 1 + 1 + 1), 4, none⟩ (.int .i64 0)).setCell ⟨(w.heap.size + 1 + 1 + 1 + 1 + 1 + 1), 5, none⟩ (.int .i64 vt)).setCell ⟨(w.heap.size + 1 + 1 + 1 + 1 + 1 + 1), 6, none⟩ (.int .i64 1)).setCell ⟨(w.heap.size + 1 + 1 + 1 + 1 + 1 + 1), 7, none⟩ (.int .i64 (R.length : Nat))) = w5 at bq2 Y3n ⊢
  clear Yp2 y0 y1 y2 y3 y4 y5 y6 y7 yl yf Y3
  have Y3 := Y3n
  clear Y3n
  have Yp3 := Y3
  obtain ⟨yl, yf, y0, y1, y2, y3, y4, y5, y6, y7⟩ := Yp3.c8
  go_wp2_with fail
  refine ret_ct (b := (w.heap.size + 1 + 1 + 1)) (T := 59) (t := 59) (cs := [.int .i64 7, .int .i64 1, .int .i64 0, .int .i64 vn, .int .i64 0, .int .i64 vt, .int .i64 1, .int .i64 (R.length : Nat)]) rfl rfl rfl ((((((((Y3.set 0 _).set 1 _).set 2 _).set 3 _).set 4 _).set 5 _).set 6 _).set 7 _) agg_rep size_rep ⟨rfl, bq2.trans (Kept.below (X := [(w.heap.size + 1 + 1 + 1)]) (((((((((Kept.refl _ _).set (by simp) _).set (by simp) _).set (by simp) _).set (by simp) _).set (by simp) _).set (by simp) _).set (by simp) _).set (by simp) _) (by simp; omega) (by have := bq2.size; omega))⟩
end Go.Proofs.YthmhdaefkhcenaaGreatDoor
namespace Go.Proofs.YthmhdaefkhcenaaGreatDoor
open Go.RowKit Go.Lib Go.MapKept

theorem tax_60 : taxF 1000 60000 = 60 := by decide +kernel
theorem rep_60 : repC 1000 60 [] = [.int .i64 7, .int .i64 1, .int .i64 0, .int .i64 1000, .int .i64 0, .int .i64 60, .int .i64 1, .int .i64 0] := by
  simp [repC, backs, even_zero]
theorem mem_range {B n k : Nat} (h : k ∈ List.range' B n) : B ≤ k := by
  rw [List.mem_range'_1] at h
  omega
set_option maxRecDepth 100000 in
set_option maxHeartbeats 8000000 in
theorem awake_c (w : World) : Calls Tryz.prog 4 #[] w fun e w' => e = .returned (.bool true) ∧ Below w.heap.size w w' := by
  have hdn := deskp_ne
  go_enter Tryz.func4, Tryz.ntmps4
  go_wp2_with fail
  refine (new_disk w).mono ?_
  rintro e w1 ⟨d, md, rfl, hd, hm, hdm, D1, M1, hb1⟩
  have hD1 : DiskAt w1 d md [] 0 := ⟨⟨0, D1⟩, M1⟩
  go_wp2_with fail
  refine (box_c w1).mono ?_
  rintro e w2 ⟨rb, b, rfl, hrb, hbx, _, _, hb2⟩
  go_wp2_with fail
  refine (plain_c rb b 4 ((60000 : Nat) : Int) w2 hrb hbx).mono ?_
  rintro e w3 ⟨v, rfl, hv, hb3⟩
  have bel3 := bel_call (bel_call hb1 hb2) hb3
  have hD3 := (hD1.call hb2).call hb3
  go_wp2_with fail
  refine (opened_c d md ((60000 : Nat) : Int) (by omega) (by omega) v w3 hD3 hv).mono ?_
  rintro e w4 ⟨k, l, f, g, bb, m, jb, jc, qb, qc, K, E, F, z, lo1, rfl, ⟨z1, z2, z3, z4, z5, z6, z7⟩, ⟨y1, y2, y3, y4, y5⟩, ⟨hFK, hEg, hE1⟩, K4, D4, F4, G4, L4, B4, M4, C4, T4, kp4⟩
  have zd := hD3.lt
  have s3 := bel3.size
  have bel4 : Below w.heap.size w w4 := bel3.trans (kp4.below (by simp; omega) s3)
  have hcl := T4.lt
  go_wp2_with fail
  refine (order_c 1000 w4).mono ?_
  rintro e w5 ⟨lb, rfl, hO, hlb, hb5⟩
  go_wp2_with fail
  refine (commit_c k d md f g l bb m jb jc qb qc K E F z lo1 lb 5 1000 60000 (by omega) (by omega) (by omega) (by omega) (by omega) w5 (K4.call hb5) (D4.call hb5) (F4.call hb5) (G4.keptX (Kept.of_below (X := []) hb5) (by simp) (by simp)) (L4.call hb5) (B4.call hb5) (M4.call hb5) (C4.call hb5) (T4.keptX (Kept.of_below (X := []) hb5) (by simp)) (by omega) ⟨by omega, by omega, by omega, by omega, by omega, by omega, by omega⟩ hFK hEg hE1 hO (by omega)).mono ?_
  rintro e w6 ⟨q, c', ib, gb, lo, rfl, hc, hq, hq0, _, _, _, hS, hC, kp6⟩
  rw [tax_60] at hq hS
  have s5 := hb5.size
  have s4 := bel4.size
  have bel6 : Below w.heap.size w w6 := (bel_call bel4 hb5).trans (kp6.below (by
    intro h hh
    simp only [List.mem_append] at hh
    rcases hh with hh | hh
    · have := mem_range hh
      omega
    · simp at hh
      omega) (by omega))
  obtain ⟨hKd, _, _, _, _, hBk, _, _, _⟩ := hS
  obtain ⟨jb', jc', qb', qc', rb', rc', db', dc', b', cc', e0, hJ, _⟩ := hC
  injection e0 with e0
  injection e0 with e0
  simp only [List.cons.injEq, Value.slice.injEq, Option.some.injEq, Addr.mk.injEq, and_true, true_and] at e0
  go_wp2_with fail
  have hR : RefsOk 5 10 1000 60000 60 [] := ⟨by omega, by omega, by omega, by omega, by omega, by omega, by omega, by omega, by simp, by simp, by simp [backs], by simp⟩
  refine (report_c k bb m ib gb lo l K 5 10 1000 60000 60 [] [] jb jc rb' rc' _ _ _ _ _ _ _ hR (by omega) ⟨by omega, by simp⟩ w6 hKd hBk (by rw [e0.1.1]; exact hJ)).mono ?_
  rintro e w7 ⟨rfl, hb7⟩
  rw [rep_60]
  have hq7 := hq.call hb7
  unfold tlV at hq7
  have tl := hq7.lt; have t0 := hq7.cell (j := 0) rfl; have t1 := hq7.cell (j := 1) rfl; have t2 := hq7.cell (j := 2) rfl; have t3 := hq7.cell (j := 3) rfl; have t4 := hq7.cell (j := 4) rfl; have t5 := hq7.cell (j := 5) rfl
  go_wp2_with fail
  go_returns
  exact ⟨by first | rfl | simp, bel_call bel6 (bel_call hb7 (by exact sBel))⟩
end Go.Proofs.YthmhdaefkhcenaaGreatDoor
namespace Go.Proofs.YthmhdaefkhcenaaGreatDoor
open Go.RowKit Go.Lib Go.MapKept

theorem recs_len {sid ds : Int} {n r t : Nat} {R : List Ref} (h : RefsOk sid ds n r t R) : (framesL (recsOf sid ds n r t R)).length ≤ 142 + 72 * R.length := by
  have i64 : ∀ x : Int, 0 ≤ x → x ≤ 1099511627775 → I64r x := fun x h1 h2 => ⟨by omega, by omega⟩
  have := h.s0; have := h.s1; have := h.d0; have := h.d1; have := h.n1; have := h.r1; have := h.t1; have hsum := h.sum
  have h0 : (bytesOf (saleL sid ds n r t)).length ≤ 130 := by
    have hl := bytesOf_short (saleL sid ds n r t) (by
      intro x hx
      simp [saleL, tlL] at hx
      rcases hx with rfl | rfl | rfl | rfl | rfl | rfl | hx <;> first | (exact i64 _ (by omega) (by omega)) | (rcases hx with rfl | rfl | rfl | rfl <;> exact i64 _ (by omega) (by omega)))
    simp [saleL, tlL] at hl ⊢
    omega
  have h1 : ∀ L : List Ref, (∀ y ∈ L, y ∈ R) → (framesL (L.map fun y => bytesOf (refL y.id sid y.day y.x))).length ≤ 72 * L.length := by
    intro L
    induction L with
    | nil => intro _; simp [framesL]
    | cons y L ih =>
      intro hL
      have he := h.each y (hL y (by simp))
      have hx := backs_mem R y (hL y (by simp))
      have hl := bytesOf_short (refL y.id sid y.day y.x) (by
        intro z hz
        simp [refL] at hz
        rcases hz with rfl | rfl | rfl | rfl | rfl | rfl <;> exact i64 _ (by omega) (by omega))
      have hi := ih fun y hy => hL y (List.mem_cons_of_mem _ hy)
      rw [List.map_cons, framesL_cons, List.length_append, frameL_len]
      rw [show (refL y.id sid y.day y.x).length = 6 from rfl] at hl
      simp only [List.length_cons]
      omega
  have h2 := h1 R fun _ h => h
  rw [recsOf, framesL_cons, List.length_append, frameL_len]
  omega
set_option maxRecDepth 100000 in
set_option maxHeartbeats 8000000 in
theorem pick_c (p : Int) (nn : Nat) (h0 : 1 ≤ nn) (h1 : nn ≤ 1073741825) (hp : -9223372036854775808 ≤ p ∧ p ≤ 9223372036854775807) (w : World) : Calls Tryz.prog 11 #[.int .i64 p, .int .i64 nn] w fun e w' => (∃ y : Nat, y < nn ∧ e = .returned (.int .i64 y)) ∧ Below w.heap.size w w' := by
  have hq : ¬ (nn : Int) < 1 := by omega
  have hq2 : ¬ (nn : Int) = 0 := by omega
  have hlt := Int.tmod_lt_of_pos p (show (0 : Int) < nn by omega)
  have hgt : -(nn : Int) < Int.tmod p nn := by
    have := Int.tmod_lt_of_pos (-p) (show (0 : Int) < nn by omega)
    rw [Int.neg_tmod] at this
    omega
  obtain ⟨z, hz⟩ : ∃ z, Int.tmod p nn = z := ⟨_, rfl⟩
  rw [hz] at hlt hgt
  go_enter Tryz.func11, Tryz.ntmps11
  by_cases hneg : z < 0
  · have hw : IntKind.i64.wrap (z + nn) = z + nn := by rw [IntKind.wrap_i64]; omega
    obtain ⟨y, hy⟩ := Int.eq_ofNat_of_zero_le (show 0 ≤ z + nn by omega)
    have Hy := Lib.hid hy
    clear hy
    go_wp2
    exact ret_t rfl rfl rfl ⟨⟨y, by have := Hy.out; omega, by rw [Hy.out]; rfl⟩, by exact sBel⟩
  · obtain ⟨y, hy⟩ := Int.eq_ofNat_of_zero_le (show 0 ≤ z by omega)
    have Hy := Lib.hid hy
    clear hy
    go_wp2
    exact ret_t rfl rfl rfl ⟨⟨y, by have := Hy.out; omega, by rw [Hy.out]; rfl⟩, by exact sBel⟩
structure PSt (w wr : World) (d md f g q a r t n i : Nat) (R : List Ref) (ks : List Nat) (k l bb m ib gb lo jb jc qb qc K nn F : Nat) : Prop where
  desk : DeskS wr k d md f g l bb m ib gb lo (r : Int) jb jc qb qc K 1 10 a r t R ks
  cfg : CfgIn (r : Int) nn F wr (cfgA jb jc qb qc)
  ok : RefsOk 1 10 a r t R
  days : ∀ y ∈ R, y.day ≤ 9 + (i : Int) ∧ y.id ≤ 1 + (i : Int)
  few : R.length ≤ i
  lines : Has wr q (tlV a r t)
  qi : q ≠ ib
  qg : q ≠ gb
  bel : Below w.heap.size w wr
  low : w.heap.size ≤ d ∧ w.heap.size ≤ md ∧ w.heap.size ≤ f ∧ w.heap.size ≤ g ∧ w.heap.size ≤ l ∧ w.heap.size ≤ bb ∧ w.heap.size ≤ m ∧ w.heap.size ≤ lo
  done : n < i → backs R = a
end Go.Proofs.YthmhdaefkhcenaaGreatDoor
