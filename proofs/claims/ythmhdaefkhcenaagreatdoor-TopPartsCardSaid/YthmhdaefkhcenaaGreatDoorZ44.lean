/- Lemmas for it; no condition: TEnt3. -/
import Derived.Test.YthmhdaefkhcenaaGreatDoorZ08
import Derived.Test.YthmhdaefkhcenaaGreatDoorZ13
import Derived.Test.YthmhdaefkhcenaaGreatDoorZ43
set_option linter.unusedVariables false
set_option linter.unusedSimpArgs false
namespace Go.Proofs.YthmhdaefkhcenaaGreatDoor
set_option maxRecDepth 100000
set_option maxHeartbeats 8000000
open Go.RowKit Go.Lib

theorem all_one (l : List Value) (h : l.all (·.oneCell') = true) : l.toArray.all (·.oneCell') = true := by simpa using h
theorem has_row {w : World} {b g : Nat} {cs : List Value} (h : Has w b cs) (hb : b ≠ g) (xs : Array Value) : Has (w.setRow g xs) b cs := ⟨by simpa using h.1, fun j v hj => (cell_setRow_other w g xs ⟨b, j, none⟩ hb).trans (h.2 j v hj)⟩
def ent0 : List Value := [.int .i64 0, .int .i64 0, .int .i64 0, .int .i64 0, .slice none 0 0, .slice none 0 0]
theorem info_look3 : (Tryz.prog.info? 234).map (fun i => (i.zero, i.size, i.bytes)) = some (some (.agg #[.pointer none, .int .i64 0, .int .i64 0]), 3, 24) := by kernel_rfl
theorem read_sale (id day : Int) (n r t : Nat) (hid0 : 1 ≤ id) (hid1 : id ≤ 1099511627775) (hd0 : 0 ≤ day) (hd1 : day ≤ 3652058) (hn : n ≤ 4611686018427387904) (hr : r ≤ 1000000) (ht : t ≤ 4611686018427387904) (A : Option Addr) (c B : Nat) (w : World) (hs : Shows w B 1 A (bytesOf (saleL id day n r t)).length (U8 (bytesOf (saleL id day n r t)))) (hB : B ≤ w.heap.size) (hcap : (bytesOf (saleL id day n r t)).length ≤ c) :
    Calls Tryz.prog 59 #[.slice A (bytesOf (saleL id day n r t)).length c] w fun e w' => ∃ ab ac tb tc, e = .returned (.tuple #[.agg (saleC id day ab ac tb tc).toArray, .int .i64 0]) ∧ (w.heap.size ≤ ab ∧ 1 ≤ ac ∧ w.heap.size ≤ tb ∧ 1 ≤ tc) ∧ Has w' ab [.int .i64 n] ∧ Has w' tb (tlV n r t) ∧ Below w.heap.size w w' := by
  have hlen := bytesOf_short (saleL id day n r t) (by intro x hx; simp [saleL, tlL] at hx; unfold I64r; omega)
  have hby := bytesOf_byte (saleL id day n r t)
  have hlen : (bytesOf (saleL id day n r t)).length ≤ 130 := by simp [saleL, tlL] at hlen; simp only [saleL, tlL]; simpa using (by omega : _ ≤ 130)
  obtain ⟨xs, hxs⟩ : ∃ xs, bytesOf (saleL id day n r t) = xs := ⟨_, rfl⟩
  have hxs2 := Lib.hid hxs
  rw [hxs] at hs hlen hby hcap ⊢
  clear hxs
  go_enter Tryz.func59, Tryz.ntmps59
  go_wp2_with fail
  refine (new_any A xs.length c xs B _ (hs.alloc hB _) (by simp; omega) (by omega)).mono ?_
  rintro e w1 ⟨R, A1, c1, rfl, hR1, hs1, hc1, hRz, hb1⟩
  have bel1 : Below w.heap.size w w1 := bel_call (by exact sBel) hb1
  have U1 : Block w1 w.heap.size 88 ent0 := Block.call (by unfold ent0; exact sBlk) hb1
  have zR := Block.lt hR1
  simp at hRz
  clear hb1
  have r1 : RdL w1 R A1 c1 xs (saleL id day n r t) R := ⟨⟨0, 0, hR1, by rw [← hxs2.out]; rfl⟩, hs1, Nat.le_refl _, hc1, by omega, hby⟩
  go_wp2_with fail
  refine at_code (fun W => Below w1.heap.size w1 W ∧ Block W w1.heap.size 88 [.int .i64 0, .int .i64 0, .int .i64 0, .int .i64 0, .slice none 0 0, .slice none 0 0] ∧ Block W (w1.heap.size + 1) 234 [.pointer (some ⟨w1.heap.size, 0, none⟩), .int .i64 1, .int .i64 3, .pointer (some ⟨w1.heap.size, 1, none⟩), .int .i64 1, .int .i64 1099511627775, .pointer (some ⟨w1.heap.size, 2, none⟩), .int .i64 0, .int .i64 1099511627775, .pointer (some ⟨w1.heap.size, 3, none⟩), .int .i64 0, .int .i64 3652058]) ⟨by exact sBel, by exact sBlk, by exact sBlk⟩ ?_
  rintro W0 ⟨bb, X0', LK0'⟩
  obtain ⟨g, hg⟩ : ∃ g, w1.heap.size = g := ⟨_, rfl⟩
  have h0 : RdL W0 R A1 c1 xs (saleL id day n r t) R := r1.call bb
  have U0 : Block W0 w.heap.size 88 ent0 := U1.call bb
  have K0 : Kept [R] w1 W0 := Kept.of_below bb
  have zg : w.heap.size < g := by have := bel1.size; have := U1.lt; omega
  rw [hg] at X0' LK0' zR ⊢
  clear r1 U1 bb
  have X0 := X0'
  have LK0 := LK0'
  clear X0' LK0'
  refine wp_loop_rounds 5 ?_
  rw [rounds_succ]
  have LK0' : Block W0 (g + 1) 234 [.pointer (some ⟨g, 0, none⟩), .int .i64 1, .int .i64 3, .pointer (some ⟨g, 1, none⟩), .int .i64 1, .int .i64 1099511627775, .pointer (some ⟨g, 2, none⟩), .int .i64 0, .int .i64 1099511627775, .pointer (some ⟨g, 3, none⟩), .int .i64 0, .int .i64 3652058] := LK0
  have lkl := LK0'.lt
  have lk0 := LK0'.cell 0
  have lk1 := LK0'.cell 1
  have lk2 := LK0'.cell 2
  simp only [List.getElem?_cons_zero, List.getElem?_cons_succ] at lk0 lk1 lk2
  go_wp2_with fail
  have y0 : Block (W0.alloc (.cells #[.pointer (some ⟨g, 0, none⟩), .int .i64 1, .int .i64 3] 234)) W0.heap.size 234 [.pointer (some ⟨g, 0, none⟩), .int .i64 1, .int .i64 3] := btop rfl
  refine AnyBut.region (S := fun w' => w'.cell? ⟨W0.heap.size, 0, none⟩ = some (.pointer (some ⟨g, 0, none⟩)) ∧ w'.cell? ⟨W0.heap.size, 1, none⟩ = some (.int .i64 1) ∧ w'.cell? ⟨W0.heap.size, 2, none⟩ = some (.int .i64 3)) (t := 99) 10 rfl (by kernel_rfl) ⟨y0.cell 0, y0.cell 1, y0.cell 2⟩ ?_
  intro hS
  refine AnyBut.tk0 0 hS rfl (h := ?_); refine AnyBut.tk0 1 hS rfl (h := ?_); refine AnyBut.tk0 2 hS rfl (h := ?_); refine AnyBut.tk0 3 hS rfl (h := ?_); refine AnyBut.tk0 4 hS rfl (h := ?_); refine AnyBut.tk0 5 hS rfl (h := ?_); refine AnyBut.tk0 6 hS rfl (h := ?_)
  refine AnyBut.one (i := 7) rfl (by kernel_rfl) rfl ?_; intro K hK
  go_wp2_with fail
  refine (int_next R A1 c1 xs [id, 0, day, 1, n, 1, 0, 7, n, 0, r, t] 1 _ _ R _ (h0.call (by exact sBel)) (i64r _) (by omega) (by omega)).mono ?_
  rintro e W' ⟨rfl, h', G⟩
  have Xn := Block.grown (Block.drew (X0.alloc (.cells #[.pointer (some ⟨g, 0, none⟩), .int .i64 1, .int .i64 3] 234))) G (by simp; omega)
  have Un := Block.grown (Block.drew (U0.alloc (.cells #[.pointer (some ⟨g, 0, none⟩), .int .i64 1, .int .i64 3] 234))) G (by simp; omega)
  have Ln := Block.grown (Block.drew (LK0.alloc (.cells #[.pointer (some ⟨g, 0, none⟩), .int .i64 1, .int .i64 3] 234))) G (by simp; omega)
  have Yn := Block.grown (Block.drew y0) G (by simp; omega)
  have Kn := ((K0.alloc (.cells #[.pointer (some ⟨g, 0, none⟩), .int .i64 1, .int .i64 3] 234)).drew).grown G (by simp)
  have zW : g < W0.heap.size := X0.lt
  have ne1 : W0.heap.size ≠ g := by omega
  have ne2 : g ≠ W0.heap.size := by omega
  clear lk0 lk1 lk2 h0 X0 U0 LK0 K0 LK0' y0 G
  have Yp := Yn
  have Xp := Xn
  obtain ⟨yl, yf, y0, y1, y2⟩ := Yp.c3
  obtain ⟨xl, xf, x0, x1, x2, x3, x4, x5⟩ := Xp.c6
  clear hS
  refine hK _ _ ?_ ?_ <;> clear hK K; rotate_left; intro hS; rotate_left
  · refine ⟨?_, ?_, ?_⟩ <;> go_simp
  refine AnyBut.tk0 8 hS rfl (h := ?_)
  clear hS
  refine AnyBut.one (i := 9) rfl (by kernel_rfl) rfl ?_; intro K hK; go_simp; refine hK _ _ ?_ ?_ <;> clear hK K; rotate_left; intro hS; rotate_left
  · refine ⟨?_, ?_, ?_⟩ <;> go_simp
  refine AnyBut.done (by kernel_rfl) ?_
  go_wp2_with fail
  refine at_code (fun W => RdL W R A1 c1 xs [id, 0, day, 1, n, 1, 0, 7, n, 0, r, t] R ∧ Block W g 88 [.int .i64 1, .int .i64 0, .int .i64 0, .int .i64 0, .slice none 0 0, .slice none 0 0] ∧ Block W w.heap.size 88 ent0 ∧ Block W (g + 1) 234 [.pointer (some ⟨g, 0, none⟩), .int .i64 1, .int .i64 3, .pointer (some ⟨g, 1, none⟩), .int .i64 1, .int .i64 1099511627775, .pointer (some ⟨g, 2, none⟩), .int .i64 0, .int .i64 1099511627775, .pointer (some ⟨g, 3, none⟩), .int .i64 0, .int .i64 3652058] ∧ Kept [R] w1 W)
    ⟨h'.far (by omega) (by omega) _, Xn.set 0 _, Un.far (by show w.heap.size ≠ g; omega) _, Ln.far (by show g + 1 ≠ g; omega) _, Kn.set (.inr (by show w1.heap.size ≤ g; omega)) _⟩ ?_
  clear hS ne1 ne2 zW lkl y0 y1 y2 yl yf x0 x1 x2 x3 x4 x5 xl xf Yp Xp Yn Xn Un Ln Kn h'
  rintro W1 ⟨h1, X1, U1, LK1, K1⟩
  have LK1' : Block W1 (g + 1) 234 [.pointer (some ⟨g, 0, none⟩), .int .i64 1, .int .i64 3, .pointer (some ⟨g, 1, none⟩), .int .i64 1, .int .i64 1099511627775, .pointer (some ⟨g, 2, none⟩), .int .i64 0, .int .i64 1099511627775, .pointer (some ⟨g, 3, none⟩), .int .i64 0, .int .i64 3652058] := LK1
  have lkl := LK1'.lt
  have lk0 := LK1'.cell 3
  have lk1 := LK1'.cell 4
  have lk2 := LK1'.cell 5
  simp only [List.getElem?_cons_zero, List.getElem?_cons_succ] at lk0 lk1 lk2
  go_wp2_with fail
  have y0 : Block (W1.alloc (.cells #[.pointer (some ⟨g, 1, none⟩), .int .i64 1, .int .i64 1099511627775] 234)) W1.heap.size 234 [.pointer (some ⟨g, 1, none⟩), .int .i64 1, .int .i64 1099511627775] := btop rfl
  refine AnyBut.region (S := fun w' => w'.cell? ⟨W1.heap.size, 0, none⟩ = some (.pointer (some ⟨g, 1, none⟩)) ∧ w'.cell? ⟨W1.heap.size, 1, none⟩ = some (.int .i64 1) ∧ w'.cell? ⟨W1.heap.size, 2, none⟩ = some (.int .i64 1099511627775)) (t := 99) 10 rfl (by kernel_rfl) ⟨y0.cell 0, y0.cell 1, y0.cell 2⟩ ?_
  intro hS
  refine AnyBut.tk0 0 hS rfl (h := ?_); refine AnyBut.tk0 1 hS rfl (h := ?_); refine AnyBut.tk0 2 hS rfl (h := ?_); refine AnyBut.tk0 3 hS rfl (h := ?_); refine AnyBut.tk0 4 hS rfl (h := ?_); refine AnyBut.tk0 5 hS rfl (h := ?_); refine AnyBut.tk0 6 hS rfl (h := ?_)
  refine AnyBut.one (i := 7) rfl (by kernel_rfl) rfl ?_; intro K hK
  go_wp2_with fail
  refine (int_next R A1 c1 xs [0, day, 1, n, 1, 0, 7, n, 0, r, t] id _ _ R _ (h1.call (by exact sBel)) (i64r _) (by omega) (by omega)).mono ?_
  rintro e W' ⟨rfl, h', G⟩
  have Xn := Block.grown (Block.drew (X1.alloc (.cells #[.pointer (some ⟨g, 1, none⟩), .int .i64 1, .int .i64 1099511627775] 234))) G (by simp; omega)
  have Un := Block.grown (Block.drew (U1.alloc (.cells #[.pointer (some ⟨g, 1, none⟩), .int .i64 1, .int .i64 1099511627775] 234))) G (by simp; omega)
  have Ln := Block.grown (Block.drew (LK1.alloc (.cells #[.pointer (some ⟨g, 1, none⟩), .int .i64 1, .int .i64 1099511627775] 234))) G (by simp; omega)
  have Yn := Block.grown (Block.drew y0) G (by simp; omega)
  have Kn := ((K1.alloc (.cells #[.pointer (some ⟨g, 1, none⟩), .int .i64 1, .int .i64 1099511627775] 234)).drew).grown G (by simp)
  have zW : g < W1.heap.size := X1.lt
  have ne1 : W1.heap.size ≠ g := by omega
  have ne2 : g ≠ W1.heap.size := by omega
  clear lk0 lk1 lk2 h1 X1 U1 LK1 K1 LK1' y0 G
  have Yp := Yn
  have Xp := Xn
  obtain ⟨yl, yf, y0, y1, y2⟩ := Yp.c3
  obtain ⟨xl, xf, x0, x1, x2, x3, x4, x5⟩ := Xp.c6
  clear hS
  refine hK _ _ ?_ ?_ <;> clear hK K; rotate_left; intro hS; rotate_left
  · refine ⟨?_, ?_, ?_⟩ <;> go_simp
  refine AnyBut.tk0 8 hS rfl (h := ?_)
  clear hS
  refine AnyBut.one (i := 9) rfl (by kernel_rfl) rfl ?_; intro K hK; go_simp; refine hK _ _ ?_ ?_ <;> clear hK K; rotate_left; intro hS; rotate_left
  · refine ⟨?_, ?_, ?_⟩ <;> go_simp
  refine AnyBut.done (by kernel_rfl) ?_
  go_wp2_with fail
  refine at_code (fun W => RdL W R A1 c1 xs [0, day, 1, n, 1, 0, 7, n, 0, r, t] R ∧ Block W g 88 [.int .i64 1, .int .i64 id, .int .i64 0, .int .i64 0, .slice none 0 0, .slice none 0 0] ∧ Block W w.heap.size 88 ent0 ∧ Block W (g + 1) 234 [.pointer (some ⟨g, 0, none⟩), .int .i64 1, .int .i64 3, .pointer (some ⟨g, 1, none⟩), .int .i64 1, .int .i64 1099511627775, .pointer (some ⟨g, 2, none⟩), .int .i64 0, .int .i64 1099511627775, .pointer (some ⟨g, 3, none⟩), .int .i64 0, .int .i64 3652058] ∧ Kept [R] w1 W)
    ⟨h'.far (by omega) (by omega) _, Xn.set 1 _, Un.far (by show w.heap.size ≠ g; omega) _, Ln.far (by show g + 1 ≠ g; omega) _, Kn.set (.inr (by show w1.heap.size ≤ g; omega)) _⟩ ?_
  clear hS ne1 ne2 zW lkl y0 y1 y2 yl yf x0 x1 x2 x3 x4 x5 xl xf Yp Xp Yn Xn Un Ln Kn h'
  rintro W2 ⟨h2, X2, U2, LK2, K2⟩
  have LK2' : Block W2 (g + 1) 234 [.pointer (some ⟨g, 0, none⟩), .int .i64 1, .int .i64 3, .pointer (some ⟨g, 1, none⟩), .int .i64 1, .int .i64 1099511627775, .pointer (some ⟨g, 2, none⟩), .int .i64 0, .int .i64 1099511627775, .pointer (some ⟨g, 3, none⟩), .int .i64 0, .int .i64 3652058] := LK2
  have lkl := LK2'.lt
  have lk0 := LK2'.cell 6
  have lk1 := LK2'.cell 7
  have lk2 := LK2'.cell 8
  simp only [List.getElem?_cons_zero, List.getElem?_cons_succ] at lk0 lk1 lk2
  go_wp2_with fail
  have y0 : Block (W2.alloc (.cells #[.pointer (some ⟨g, 2, none⟩), .int .i64 0, .int .i64 1099511627775] 234)) W2.heap.size 234 [.pointer (some ⟨g, 2, none⟩), .int .i64 0, .int .i64 1099511627775] := btop rfl
  refine AnyBut.region (S := fun w' => w'.cell? ⟨W2.heap.size, 0, none⟩ = some (.pointer (some ⟨g, 2, none⟩)) ∧ w'.cell? ⟨W2.heap.size, 1, none⟩ = some (.int .i64 0) ∧ w'.cell? ⟨W2.heap.size, 2, none⟩ = some (.int .i64 1099511627775)) (t := 99) 10 rfl (by kernel_rfl) ⟨y0.cell 0, y0.cell 1, y0.cell 2⟩ ?_
  intro hS
  refine AnyBut.tk0 0 hS rfl (h := ?_); refine AnyBut.tk0 1 hS rfl (h := ?_); refine AnyBut.tk0 2 hS rfl (h := ?_); refine AnyBut.tk0 3 hS rfl (h := ?_); refine AnyBut.tk0 4 hS rfl (h := ?_); refine AnyBut.tk0 5 hS rfl (h := ?_); refine AnyBut.tk0 6 hS rfl (h := ?_)
  refine AnyBut.one (i := 7) rfl (by kernel_rfl) rfl ?_; intro K hK
  go_wp2_with fail
  refine (int_next R A1 c1 xs [day, 1, n, 1, 0, 7, n, 0, r, t] 0 _ _ R _ (h2.call (by exact sBel)) (i64r _) (by omega) (by omega)).mono ?_
  rintro e W' ⟨rfl, h', G⟩
  have Xn := Block.grown (Block.drew (X2.alloc (.cells #[.pointer (some ⟨g, 2, none⟩), .int .i64 0, .int .i64 1099511627775] 234))) G (by simp; omega)
  have Un := Block.grown (Block.drew (U2.alloc (.cells #[.pointer (some ⟨g, 2, none⟩), .int .i64 0, .int .i64 1099511627775] 234))) G (by simp; omega)
  have Ln := Block.grown (Block.drew (LK2.alloc (.cells #[.pointer (some ⟨g, 2, none⟩), .int .i64 0, .int .i64 1099511627775] 234))) G (by simp; omega)
  have Yn := Block.grown (Block.drew y0) G (by simp; omega)
  have Kn := ((K2.alloc (.cells #[.pointer (some ⟨g, 2, none⟩), .int .i64 0, .int .i64 1099511627775] 234)).drew).grown G (by simp)
  have zW : g < W2.heap.size := X2.lt
  have ne1 : W2.heap.size ≠ g := by omega
  have ne2 : g ≠ W2.heap.size := by omega
  clear lk0 lk1 lk2 h2 X2 U2 LK2 K2 LK2' y0 G
  have Yp := Yn
  have Xp := Xn
  obtain ⟨yl, yf, y0, y1, y2⟩ := Yp.c3
  obtain ⟨xl, xf, x0, x1, x2, x3, x4, x5⟩ := Xp.c6
  clear hS
  refine hK _ _ ?_ ?_ <;> clear hK K; rotate_left; intro hS; rotate_left
  · refine ⟨?_, ?_, ?_⟩ <;> go_simp
  refine AnyBut.tk0 8 hS rfl (h := ?_)
  clear hS
  refine AnyBut.one (i := 9) rfl (by kernel_rfl) rfl ?_; intro K hK; go_simp; refine hK _ _ ?_ ?_ <;> clear hK K; rotate_left; intro hS; rotate_left
  · refine ⟨?_, ?_, ?_⟩ <;> go_simp
  refine AnyBut.done (by kernel_rfl) ?_
  go_wp2_with fail
  refine at_code (fun W => RdL W R A1 c1 xs [day, 1, n, 1, 0, 7, n, 0, r, t] R ∧ Block W g 88 [.int .i64 1, .int .i64 id, .int .i64 0, .int .i64 0, .slice none 0 0, .slice none 0 0] ∧ Block W w.heap.size 88 ent0 ∧ Block W (g + 1) 234 [.pointer (some ⟨g, 0, none⟩), .int .i64 1, .int .i64 3, .pointer (some ⟨g, 1, none⟩), .int .i64 1, .int .i64 1099511627775, .pointer (some ⟨g, 2, none⟩), .int .i64 0, .int .i64 1099511627775, .pointer (some ⟨g, 3, none⟩), .int .i64 0, .int .i64 3652058] ∧ Kept [R] w1 W)
    ⟨h'.far (by omega) (by omega) _, Xn.set 2 _, Un.far (by show w.heap.size ≠ g; omega) _, Ln.far (by show g + 1 ≠ g; omega) _, Kn.set (.inr (by show w1.heap.size ≤ g; omega)) _⟩ ?_
  clear hS ne1 ne2 zW lkl y0 y1 y2 yl yf x0 x1 x2 x3 x4 x5 xl xf Yp Xp Yn Xn Un Ln Kn h'
  rintro W3 ⟨h3, X3, U3, LK3, K3⟩
  have LK3' : Block W3 (g + 1) 234 [.pointer (some ⟨g, 0, none⟩), .int .i64 1, .int .i64 3, .pointer (some ⟨g, 1, none⟩), .int .i64 1, .int .i64 1099511627775, .pointer (some ⟨g, 2, none⟩), .int .i64 0, .int .i64 1099511627775, .pointer (some ⟨g, 3, none⟩), .int .i64 0, .int .i64 3652058] := LK3
  have lkl := LK3'.lt
  have lk0 := LK3'.cell 9
  have lk1 := LK3'.cell 10
  have lk2 := LK3'.cell 11
  simp only [List.getElem?_cons_zero, List.getElem?_cons_succ] at lk0 lk1 lk2
  go_wp2_with fail
  have y0 : Block (W3.alloc (.cells #[.pointer (some ⟨g, 3, none⟩), .int .i64 0, .int .i64 3652058] 234)) W3.heap.size 234 [.pointer (some ⟨g, 3, none⟩), .int .i64 0, .int .i64 3652058] := btop rfl
  refine AnyBut.region (S := fun w' => w'.cell? ⟨W3.heap.size, 0, none⟩ = some (.pointer (some ⟨g, 3, none⟩)) ∧ w'.cell? ⟨W3.heap.size, 1, none⟩ = some (.int .i64 0) ∧ w'.cell? ⟨W3.heap.size, 2, none⟩ = some (.int .i64 3652058)) (t := 99) 10 rfl (by kernel_rfl) ⟨y0.cell 0, y0.cell 1, y0.cell 2⟩ ?_
  intro hS
  refine AnyBut.tk0 0 hS rfl (h := ?_); refine AnyBut.tk0 1 hS rfl (h := ?_); refine AnyBut.tk0 2 hS rfl (h := ?_); refine AnyBut.tk0 3 hS rfl (h := ?_); refine AnyBut.tk0 4 hS rfl (h := ?_); refine AnyBut.tk0 5 hS rfl (h := ?_); refine AnyBut.tk0 6 hS rfl (h := ?_)
  refine AnyBut.one (i := 7) rfl (by kernel_rfl) rfl ?_; intro K hK
  go_wp2_with fail
  refine (int_next R A1 c1 xs [1, n, 1, 0, 7, n, 0, r, t] day _ _ R _ (h3.call (by exact sBel)) (i64r _) (by omega) (by omega)).mono ?_
  rintro e W' ⟨rfl, h', G⟩
  have Xn := Block.grown (Block.drew (X3.alloc (.cells #[.pointer (some ⟨g, 3, none⟩), .int .i64 0, .int .i64 3652058] 234))) G (by simp; omega)
  have Un := Block.grown (Block.drew (U3.alloc (.cells #[.pointer (some ⟨g, 3, none⟩), .int .i64 0, .int .i64 3652058] 234))) G (by simp; omega)
  have Ln := Block.grown (Block.drew (LK3.alloc (.cells #[.pointer (some ⟨g, 3, none⟩), .int .i64 0, .int .i64 3652058] 234))) G (by simp; omega)
  have Yn := Block.grown (Block.drew y0) G (by simp; omega)
  have Kn := ((K3.alloc (.cells #[.pointer (some ⟨g, 3, none⟩), .int .i64 0, .int .i64 3652058] 234)).drew).grown G (by simp)
  have zW : g < W3.heap.size := X3.lt
  have ne1 : W3.heap.size ≠ g := by omega
  have ne2 : g ≠ W3.heap.size := by omega
  clear lk0 lk1 lk2 h3 X3 U3 LK3 K3 LK3' y0 G
  have Yp := Yn
  have Xp := Xn
  obtain ⟨yl, yf, y0, y1, y2⟩ := Yp.c3
  obtain ⟨xl, xf, x0, x1, x2, x3, x4, x5⟩ := Xp.c6
  clear hS
  refine hK _ _ ?_ ?_ <;> clear hK K; rotate_left; intro hS; rotate_left
  · refine ⟨?_, ?_, ?_⟩ <;> go_simp
  refine AnyBut.tk0 8 hS rfl (h := ?_)
  clear hS
  refine AnyBut.one (i := 9) rfl (by kernel_rfl) rfl ?_; intro K hK; go_simp; refine hK _ _ ?_ ?_ <;> clear hK K; rotate_left; intro hS; rotate_left
  · refine ⟨?_, ?_, ?_⟩ <;> go_simp
  refine AnyBut.done (by kernel_rfl) ?_
  go_wp2_with fail
  refine at_code (fun W => RdL W R A1 c1 xs [1, n, 1, 0, 7, n, 0, r, t] R ∧ Block W g 88 [.int .i64 1, .int .i64 id, .int .i64 0, .int .i64 day, .slice none 0 0, .slice none 0 0] ∧ Block W w.heap.size 88 ent0 ∧ Block W (g + 1) 234 [.pointer (some ⟨g, 0, none⟩), .int .i64 1, .int .i64 3, .pointer (some ⟨g, 1, none⟩), .int .i64 1, .int .i64 1099511627775, .pointer (some ⟨g, 2, none⟩), .int .i64 0, .int .i64 1099511627775, .pointer (some ⟨g, 3, none⟩), .int .i64 0, .int .i64 3652058] ∧ Kept [R] w1 W)
    ⟨h'.far (by omega) (by omega) _, Xn.set 3 _, Un.far (by show w.heap.size ≠ g; omega) _, Ln.far (by show g + 1 ≠ g; omega) _, Kn.set (.inr (by show w1.heap.size ≤ g; omega)) _⟩ ?_
  clear hS ne1 ne2 zW lkl y0 y1 y2 yl yf x0 x1 x2 x3 x4 x5 xl xf Yp Xp Yn Xn Un Ln Kn h'
  rintro W4 ⟨h4, X4, U4, LK4, K4⟩
  go_wp2_with fail
  refine (count_next R A1 c1 xs [n, 1, 0, 7, n, 0, r, t] 1 100 R _ h4 (i64r _) (by omega) (by omega)).mono ?_
  rintro e W5 ⟨rfl, h5, G⟩
  have X5 := Block.grown X4 G (by simp; omega)
  have U5 := Block.grown U4 G (by simp; omega)
  have K5 := K4.grown G (by simp)
  clear h4 X4 U4 LK4 K4 G
  have Xp := X5
  obtain ⟨xl, xf, x0, x1, x2, x3, x4, x5⟩ := Xp.c6
  go_wp2_with fail
  refine wp_loop_rounds 2 ?_
  rw [rounds_succ]
  go_wp2_with fail
  refine AnyBut.region (S := fun w' => w'.cell? ⟨g, 4, none⟩ = some (.slice none 0 0)) (t := 7) 8 rfl (by kernel_rfl) ?_ ?_
  · go_simp
  intro hS
  refine AnyBut.tk 0 hS rfl (h := ?_); refine AnyBut.tk 1 hS rfl (h := ?_); refine AnyBut.tk 2 hS rfl (h := ?_)
  refine AnyBut.one (i := 3) rfl (by kernel_rfl) rfl ?_; intro K hK
  go_wp2_with fail
  refine (int_next R A1 c1 xs [1, 0, 7, n, 0, r, t] n _ _ R _ (h5.call (by exact sBel)) (i64r _) (by omega) (by omega)).mono ?_
  rintro e W6 ⟨rfl, h6, G⟩
  have X6 := Block.grown X5.drew G (by simp; omega)
  have U6 := Block.grown U5.drew G (by simp; omega)
  have K6 := (K5.drew).grown G (by simp)
  clear x0 x1 x2 x3 x4 x5 xl xf Xp h5 X5 U5 K5 G
  have Xp := X6
  obtain ⟨xl, xf, x0, x1, x2, x3, x4, x5⟩ := Xp.c6
  clear hS
  refine hK _ _ ?_ ?_ <;> clear hK K; rotate_left; intro hS; rotate_left
  · go_simp
  clear hS
  refine AnyBut.one (i := 4) rfl (by kernel_rfl) rfl ?_; intro K hK; go_simp; refine hK _ _ ?_ ?_ <;> clear hK K; rotate_left; intro hS; rotate_left
  · go_simp
  refine AnyBut.one (i := 5) rfl (by kernel_rfl) rfl ?_; intro K hK
  refine op_append_nil _ _ 22 rfl 3 _ 1 8 Tryz.underlying22 info_int rfl W6.heap.size 0 1 1 [.int .i64 n] rfl rfl rfl (by intro j v hj; rw [Nat.zero_add]; exact (Block.cell (btop (cs := [.int .i64 n]) rfl) j).trans hj) (by omega) (by unfold maxLen; omega) (by omega) ?_
  intro J k hJ hk
  clear hS
  refine hK _ _ ?_ ?_ <;> clear hK K; rotate_left; intro hS; rotate_left
  · go_simp
  refine AnyBut.tk 6 hS rfl (h := ?_)
  refine AnyBut.last rfl (by kernel_rfl) rfl (by kernel_rfl) ?_; intro K hK; go_simp; refine hK _ _ ?_; clear hK K
  go_wp2_with fail
  have hbl : Below (W6.setCell ⟨g, 4, none⟩ (.slice (some ⟨W6.heap.size + 1, 0, none⟩) 1 (1 + k))).heap.size (W6.setCell ⟨g, 4, none⟩ (.slice (some ⟨W6.heap.size + 1, 0, none⟩) 1 (1 + k))) (((W6.setCell ⟨g, 4, none⟩ (.slice (some ⟨W6.heap.size + 1, 0, none⟩) 1 (1 + k))).alloc (.cells #[.int .i64 n] 3)).alloc (.cells ([.int .i64 n].toArray ++ J) 3)).drew := by exact sBel
  obtain ⟨ga, hga⟩ : ∃ ga, W6.heap.size + 1 = ga := ⟨_, rfl⟩
  obtain ⟨ca, hca⟩ : ∃ ca, 1 + k = ca := ⟨_, rfl⟩
  rw [hga, hca] at hbl ⊢
  refine at_code (fun W => RdL W R A1 c1 xs [1, 0, 7, n, 0, r, t] R ∧ Block W g 88 [.int .i64 1, .int .i64 id, .int .i64 0, .int .i64 day, .slice (some ⟨ga, 0, none⟩) 1 ca, .slice none 0 0] ∧ Block W w.heap.size 88 ent0 ∧ Kept [R] w1 W ∧ Has W ga [.int .i64 n])
    ⟨(h6.far (by omega) (by omega) _).call hbl, (X6.set 4 _).call hbl, (U6.far (by show w.heap.size ≠ g; omega) _).call hbl, (K6.set (.inr (by show w1.heap.size ≤ g; omega)) _).behind hbl, ?_⟩ ?_
  · exact (has_top (news := [.int .i64 n]) (by simp; omega)).drew
  have hca1 : 1 ≤ ca := by omega
  have hga1 : w1.heap.size ≤ ga := by have := K6.size; omega
  have hga2 : g < ga := by have := X6.lt; omega
  clear hS x0 x1 x2 x3 x4 x5 xl xf Xp X6 U6 K6 h6 hbl
  rintro W7 ⟨h7, X7, U7, K7, HA7⟩
  have hgaR : ga ≠ R := by omega
  go_wp2_with fail
  obtain ⟨kk, fa, hR7, hd7⟩ := h7.rd
  have hfl : ∀ w, (Instr.field 194 (.agg #[.int .i64 0, .int .i64 fa]) 0).run Tryz.prog w = .ok (.int .i64 0) w := fun _ => by kernel_rfl
  refine (rfault_made R A1 xs.length c1 kk 0 fa W7 hR7).mono ?_
  rintro e W8 ⟨rfl, hb8⟩
  have h8 := h7.call hb8
  have X8 := X7.call hb8
  have U8' := U7.call hb8
  have K8 := K7.behind hb8
  have HA8 := HA7.call hb8
  clear hR7 hd7 hb8 h7 X7 U7 K7 HA7
  have Xp := X8
  obtain ⟨xl, xf, x0, x1, x2, x3, x4, x5⟩ := Xp.c6
  go_wp2_with fail
  refine (at_next R A1 c1 xs [1, 0, 7, n, 0, r, t] R W8 h8).mono ?_
  rintro e W' ⟨kz, hkz, rfl, rfl⟩
  have z8 := K8.size
  have zb1 := bel1.size
  have zu := U8'.lt
  have zx := X8.lt
  have BB8 : Below w.heap.size w W' := bel1.trans (K8.below (by simp; omega) zb1)
  have S8 := hs.below (BB8.mono hB)
  have hkl : kz ≤ xs.length := by
    rcases Nat.lt_or_ge xs.length kz with hlt | hge
    · rw [List.drop_eq_nil_of_le (by omega)] at hkz
      have := Oct.putN_pos (Oct.zig 1)
      have h2 := congrArg List.length hkz
      simp [bytesOf] at h2
      omega
    · exact hge
  have hle : xs.length - kz = (bytesOf (tlL n r t)).length := by rw [← List.length_drop, hkz]; rfl
  obtain ⟨A2, hcut, hsh⟩ := cut_from (P := Tryz.prog) (T := 71) (E := 5) 1 Tryz.underlying71 size_u8 A xs.length c kz hkl hcap
  have S9 := hsh _ B _ S8
  have hS9 : (U8 xs).drop (kz * 1) = U8 (bytesOf (tlL n r t)) := by rw [Nat.mul_one]; unfold U8; rw [← List.map_drop, hkz]; rfl
  rw [hS9, hle] at S9
  have hlE := Lib.hid hle
  clear hsh hS9 hkz hle hlen
  go_wp2_with fail
  rw [hlE.out]
  refine (readtax_any n r t hn hr ht A2 (c - kz) B _ S9 (Nat.le_trans hB BB8.size)).mono ?_
  rintro e W9 ⟨tb, tc, rfl, htc, htb, HT9, hb9⟩
  have X9 := X8.call hb9
  have U9 := U8'.call hb9
  have HA9 := HA8.call hb9
  have BB9 : Below w.heap.size w W9 := BB8.trans (hb9.mono BB8.size)
  have zx9 := X9.lt
  clear x0 x1 x2 x3 x4 x5 xl xf Xp X8 U8' HA8 hb9 S8 S9 hcut
  go_upto_region 18 with (fail)
  refine at_code (fun W => Below w.heap.size w W ∧ Block W g 88 [.int .i64 1, .int .i64 id, .int .i64 0, .int .i64 day, .slice (some ⟨ga, 0, none⟩) 1 ca, .slice none 0 0] ∧ Block W w.heap.size 88 ent0 ∧ Has W ga [.int .i64 n] ∧ Has W tb (tlV n r t))
    ⟨BB9.trans ((show Below W9.heap.size W9 _ from by exact sBel).mono BB9.size), by exact sBlk, by exact sBlk, by exact sHas, by exact sHas⟩ ?_
  have hgg : ga ≠ g := by omega
  clear X9 U9 HA9 BB9 HT9
  rintro W10 ⟨BB, X10, U10, HA10, HT10⟩
  have Xp := X10
  obtain ⟨xl, xf, x0, x1, x2, x3, x4, x5⟩ := Xp.c6
  have htg : tb ≠ g := by omega
  go_wp2_with fail
  refine (check_sale id day ga ca tb tc n r t hid0 hid1 hd0 hd1 hn hr ht _ (HA10.far hgg _) (HT10.far htg _)).mono ?_
  rintro e W11 ⟨rfl, hb11⟩
  have X11 : Block W11 g 88 [.int .i64 1, .int .i64 id, .int .i64 0, .int .i64 day, .slice (some ⟨ga, 0, none⟩) 1 ca, .slice (some ⟨tb, 0, none⟩) 1 tc] := (X10.set 5 _).call hb11
  have U11 := (U10.far (by show w.heap.size ≠ g; omega) _).call hb11
  have HA11 := (HA10.far hgg (p := ⟨g, 5, none⟩) (.slice (some ⟨tb, 0, none⟩) 1 tc)).call hb11
  have HT11 := (HT10.far htg (p := ⟨g, 5, none⟩) (.slice (some ⟨tb, 0, none⟩) 1 tc)).call hb11
  have BB11 : Below w.heap.size w W11 := (BB.setCell (by show w.heap.size ≤ g; omega) _).trans (hb11.mono (by have := BB.size; simpa using this))
  clear x0 x1 x2 x3 x4 x5 xl xf Xp X10 U10 HA10 HT10 hb11
  have U12 : Block W11 w.heap.size 88 [.int .i64 0, .int .i64 0, .int .i64 0, .int .i64 0, .slice none 0 0, .slice none 0 0] := U11
  have X12 : Block W11 g 88 (saleC id day ga ca tb tc) := X11
  unfold Block at U12 X12
  go_upto_region 23 with (fail)
  go_step
  refine wpList_load_row rfl _ _ rfl g rfl _ _ (0, 0) _ X12 Tryz.underlying88 rfl rfl ?_
  refine wpList_store_row rfl _ _ _ rfl w.heap.size _ rfl rfl _ _ U12 rfl rfl (all_one _ rfl) ?_
  have U13 : Block (W11.setRow w.heap.size (saleC id day ga ca tb tc).toArray) w.heap.size 88 (saleC id day ga ca tb tc) := setRow_heap _ _ _ _ _ _ U12
  clear hkl
  repeat go_step
  exact ret_ct (T := 88) rfl rfl rfl U13 agg_ent size_ent ⟨ga, ca, tb, tc, rfl, ⟨by omega, hca1, by omega, htc⟩, has_row HA11 (by omega) _, has_row HT11 (by omega) _, below_setRow BB11 (Nat.le_refl _) _⟩
theorem read_ref (id of day : Int) (n : Nat) (hid0 : 1 ≤ id) (hid1 : id ≤ 1099511627775) (hof0 : 1 ≤ of) (hof1 : of ≤ 1099511627775) (hd0 : 0 ≤ day) (hd1 : day ≤ 3652058) (hn0 : n ≠ 0) (hn : n ≤ 4611686018427387904) (A : Option Addr) (c B : Nat) (w : World) (hs : Shows w B 1 A (bytesOf (refL id of day n)).length (U8 (bytesOf (refL id of day n)))) (hB : B ≤ w.heap.size) (hcap : (bytesOf (refL id of day n)).length ≤ c) :
    Calls Tryz.prog 59 #[.slice A (bytesOf (refL id of day n)).length c] w fun e w' => ∃ ab ac, e = .returned (.tuple #[.agg (refC id of day ab ac).toArray, .int .i64 0]) ∧ (w.heap.size ≤ ab ∧ 1 ≤ ac) ∧ Has w' ab [.int .i64 n] ∧ Below w.heap.size w w' := by
  have hlen := bytesOf_short (refL id of day n) (by intro x hx; simp [refL] at hx; unfold I64r; omega)
  have hby := bytesOf_byte (refL id of day n)
  have hlen : (bytesOf (refL id of day n)).length ≤ 130 := by simp [refL] at hlen; simp only [refL]; simpa using (by omega : _ ≤ 130)
  obtain ⟨xs, hxs⟩ : ∃ xs, bytesOf (refL id of day n) = xs := ⟨_, rfl⟩
  have hxs2 := Lib.hid hxs
  rw [hxs] at hs hlen hby hcap ⊢
  clear hxs
  go_enter Tryz.func59, Tryz.ntmps59
  go_wp2_with fail
  refine (new_any A xs.length c xs B _ (hs.alloc hB _) (by simp; omega) (by omega)).mono ?_
  rintro e w1 ⟨R, A1, c1, rfl, hR1, hs1, hc1, hRz, hb1⟩
  have bel1 : Below w.heap.size w w1 := bel_call (by exact sBel) hb1
  have U1 : Block w1 w.heap.size 88 ent0 := Block.call (by unfold ent0; exact sBlk) hb1
  have zR := Block.lt hR1
  simp at hRz
  clear hb1
  have r1 : RdL w1 R A1 c1 xs (refL id of day n) R := ⟨⟨0, 0, hR1, by rw [← hxs2.out]; rfl⟩, hs1, Nat.le_refl _, hc1, by omega, hby⟩
  go_wp2_with fail
  refine at_code (fun W => Below w1.heap.size w1 W ∧ Block W w1.heap.size 88 [.int .i64 0, .int .i64 0, .int .i64 0, .int .i64 0, .slice none 0 0, .slice none 0 0] ∧ Block W (w1.heap.size + 1) 234 [.pointer (some ⟨w1.heap.size, 0, none⟩), .int .i64 1, .int .i64 3, .pointer (some ⟨w1.heap.size, 1, none⟩), .int .i64 1, .int .i64 1099511627775, .pointer (some ⟨w1.heap.size, 2, none⟩), .int .i64 0, .int .i64 1099511627775, .pointer (some ⟨w1.heap.size, 3, none⟩), .int .i64 0, .int .i64 3652058]) ⟨by exact sBel, by exact sBlk, by exact sBlk⟩ ?_
  rintro W0 ⟨bb, X0', LK0'⟩
  obtain ⟨g, hg⟩ : ∃ g, w1.heap.size = g := ⟨_, rfl⟩
  have h0 : RdL W0 R A1 c1 xs (refL id of day n) R := r1.call bb
  have U0 : Block W0 w.heap.size 88 ent0 := U1.call bb
  have K0 : Kept [R] w1 W0 := Kept.of_below bb
  have zg : w.heap.size < g := by have := bel1.size; have := U1.lt; omega
  rw [hg] at X0' LK0' zR ⊢
  clear r1 U1 bb
  have X0 := X0'
  have LK0 := LK0'
  clear X0' LK0'
  refine wp_loop_rounds 5 ?_
  rw [rounds_succ]
  have LK0' : Block W0 (g + 1) 234 [.pointer (some ⟨g, 0, none⟩), .int .i64 1, .int .i64 3, .pointer (some ⟨g, 1, none⟩), .int .i64 1, .int .i64 1099511627775, .pointer (some ⟨g, 2, none⟩), .int .i64 0, .int .i64 1099511627775, .pointer (some ⟨g, 3, none⟩), .int .i64 0, .int .i64 3652058] := LK0
  have lkl := LK0'.lt
  have lk0 := LK0'.cell 0
  have lk1 := LK0'.cell 1
  have lk2 := LK0'.cell 2
  simp only [List.getElem?_cons_zero, List.getElem?_cons_succ] at lk0 lk1 lk2
  go_wp2_with fail
  have y0 : Block (W0.alloc (.cells #[.pointer (some ⟨g, 0, none⟩), .int .i64 1, .int .i64 3] 234)) W0.heap.size 234 [.pointer (some ⟨g, 0, none⟩), .int .i64 1, .int .i64 3] := btop rfl
  refine AnyBut.region (S := fun w' => w'.cell? ⟨W0.heap.size, 0, none⟩ = some (.pointer (some ⟨g, 0, none⟩)) ∧ w'.cell? ⟨W0.heap.size, 1, none⟩ = some (.int .i64 1) ∧ w'.cell? ⟨W0.heap.size, 2, none⟩ = some (.int .i64 3)) (t := 99) 10 rfl (by kernel_rfl) ⟨y0.cell 0, y0.cell 1, y0.cell 2⟩ ?_
  intro hS
  refine AnyBut.tk0 0 hS rfl (h := ?_); refine AnyBut.tk0 1 hS rfl (h := ?_); refine AnyBut.tk0 2 hS rfl (h := ?_); refine AnyBut.tk0 3 hS rfl (h := ?_); refine AnyBut.tk0 4 hS rfl (h := ?_); refine AnyBut.tk0 5 hS rfl (h := ?_); refine AnyBut.tk0 6 hS rfl (h := ?_)
  refine AnyBut.one (i := 7) rfl (by kernel_rfl) rfl ?_; intro K hK
  go_wp2_with fail
  refine (int_next R A1 c1 xs [id, of, day, 1, n] 2 _ _ R _ (h0.call (by exact sBel)) (i64r _) (by omega) (by omega)).mono ?_
  rintro e W' ⟨rfl, h', G⟩
  have Xn := Block.grown (Block.drew (X0.alloc (.cells #[.pointer (some ⟨g, 0, none⟩), .int .i64 1, .int .i64 3] 234))) G (by simp; omega)
  have Un := Block.grown (Block.drew (U0.alloc (.cells #[.pointer (some ⟨g, 0, none⟩), .int .i64 1, .int .i64 3] 234))) G (by simp; omega)
  have Ln := Block.grown (Block.drew (LK0.alloc (.cells #[.pointer (some ⟨g, 0, none⟩), .int .i64 1, .int .i64 3] 234))) G (by simp; omega)
  have Yn := Block.grown (Block.drew y0) G (by simp; omega)
  have Kn := ((K0.alloc (.cells #[.pointer (some ⟨g, 0, none⟩), .int .i64 1, .int .i64 3] 234)).drew).grown G (by simp)
  have zW : g < W0.heap.size := X0.lt
  have ne1 : W0.heap.size ≠ g := by omega
  have ne2 : g ≠ W0.heap.size := by omega
  clear lk0 lk1 lk2 h0 X0 U0 LK0 K0 LK0' y0 G
  have Yp := Yn
  have Xp := Xn
  obtain ⟨yl, yf, y0, y1, y2⟩ := Yp.c3
  obtain ⟨xl, xf, x0, x1, x2, x3, x4, x5⟩ := Xp.c6
  clear hS
  refine hK _ _ ?_ ?_ <;> clear hK K; rotate_left; intro hS; rotate_left
  · refine ⟨?_, ?_, ?_⟩ <;> go_simp
  refine AnyBut.tk0 8 hS rfl (h := ?_)
  clear hS
  refine AnyBut.one (i := 9) rfl (by kernel_rfl) rfl ?_; intro K hK; go_simp; refine hK _ _ ?_ ?_ <;> clear hK K; rotate_left; intro hS; rotate_left
  · refine ⟨?_, ?_, ?_⟩ <;> go_simp
  refine AnyBut.done (by kernel_rfl) ?_
  go_wp2_with fail
  refine at_code (fun W => RdL W R A1 c1 xs [id, of, day, 1, n] R ∧ Block W g 88 [.int .i64 2, .int .i64 0, .int .i64 0, .int .i64 0, .slice none 0 0, .slice none 0 0] ∧ Block W w.heap.size 88 ent0 ∧ Block W (g + 1) 234 [.pointer (some ⟨g, 0, none⟩), .int .i64 1, .int .i64 3, .pointer (some ⟨g, 1, none⟩), .int .i64 1, .int .i64 1099511627775, .pointer (some ⟨g, 2, none⟩), .int .i64 0, .int .i64 1099511627775, .pointer (some ⟨g, 3, none⟩), .int .i64 0, .int .i64 3652058] ∧ Kept [R] w1 W)
    ⟨h'.far (by omega) (by omega) _, Xn.set 0 _, Un.far (by show w.heap.size ≠ g; omega) _, Ln.far (by show g + 1 ≠ g; omega) _, Kn.set (.inr (by show w1.heap.size ≤ g; omega)) _⟩ ?_
  clear hS ne1 ne2 zW lkl y0 y1 y2 yl yf x0 x1 x2 x3 x4 x5 xl xf Yp Xp Yn Xn Un Ln Kn h'
  rintro W1 ⟨h1, X1, U1, LK1, K1⟩
  have LK1' : Block W1 (g + 1) 234 [.pointer (some ⟨g, 0, none⟩), .int .i64 1, .int .i64 3, .pointer (some ⟨g, 1, none⟩), .int .i64 1, .int .i64 1099511627775, .pointer (some ⟨g, 2, none⟩), .int .i64 0, .int .i64 1099511627775, .pointer (some ⟨g, 3, none⟩), .int .i64 0, .int .i64 3652058] := LK1
  have lkl := LK1'.lt
  have lk0 := LK1'.cell 3
  have lk1 := LK1'.cell 4
  have lk2 := LK1'.cell 5
  simp only [List.getElem?_cons_zero, List.getElem?_cons_succ] at lk0 lk1 lk2
  go_wp2_with fail
  have y0 : Block (W1.alloc (.cells #[.pointer (some ⟨g, 1, none⟩), .int .i64 1, .int .i64 1099511627775] 234)) W1.heap.size 234 [.pointer (some ⟨g, 1, none⟩), .int .i64 1, .int .i64 1099511627775] := btop rfl
  refine AnyBut.region (S := fun w' => w'.cell? ⟨W1.heap.size, 0, none⟩ = some (.pointer (some ⟨g, 1, none⟩)) ∧ w'.cell? ⟨W1.heap.size, 1, none⟩ = some (.int .i64 1) ∧ w'.cell? ⟨W1.heap.size, 2, none⟩ = some (.int .i64 1099511627775)) (t := 99) 10 rfl (by kernel_rfl) ⟨y0.cell 0, y0.cell 1, y0.cell 2⟩ ?_
  intro hS
  refine AnyBut.tk0 0 hS rfl (h := ?_); refine AnyBut.tk0 1 hS rfl (h := ?_); refine AnyBut.tk0 2 hS rfl (h := ?_); refine AnyBut.tk0 3 hS rfl (h := ?_); refine AnyBut.tk0 4 hS rfl (h := ?_); refine AnyBut.tk0 5 hS rfl (h := ?_); refine AnyBut.tk0 6 hS rfl (h := ?_)
  refine AnyBut.one (i := 7) rfl (by kernel_rfl) rfl ?_; intro K hK
  go_wp2_with fail
  refine (int_next R A1 c1 xs [of, day, 1, n] id _ _ R _ (h1.call (by exact sBel)) (i64r _) (by omega) (by omega)).mono ?_
  rintro e W' ⟨rfl, h', G⟩
  have Xn := Block.grown (Block.drew (X1.alloc (.cells #[.pointer (some ⟨g, 1, none⟩), .int .i64 1, .int .i64 1099511627775] 234))) G (by simp; omega)
  have Un := Block.grown (Block.drew (U1.alloc (.cells #[.pointer (some ⟨g, 1, none⟩), .int .i64 1, .int .i64 1099511627775] 234))) G (by simp; omega)
  have Ln := Block.grown (Block.drew (LK1.alloc (.cells #[.pointer (some ⟨g, 1, none⟩), .int .i64 1, .int .i64 1099511627775] 234))) G (by simp; omega)
  have Yn := Block.grown (Block.drew y0) G (by simp; omega)
  have Kn := ((K1.alloc (.cells #[.pointer (some ⟨g, 1, none⟩), .int .i64 1, .int .i64 1099511627775] 234)).drew).grown G (by simp)
  have zW : g < W1.heap.size := X1.lt
  have ne1 : W1.heap.size ≠ g := by omega
  have ne2 : g ≠ W1.heap.size := by omega
  clear lk0 lk1 lk2 h1 X1 U1 LK1 K1 LK1' y0 G
  have Yp := Yn
  have Xp := Xn
  obtain ⟨yl, yf, y0, y1, y2⟩ := Yp.c3
  obtain ⟨xl, xf, x0, x1, x2, x3, x4, x5⟩ := Xp.c6
  clear hS
  refine hK _ _ ?_ ?_ <;> clear hK K; rotate_left; intro hS; rotate_left
  · refine ⟨?_, ?_, ?_⟩ <;> go_simp
  refine AnyBut.tk0 8 hS rfl (h := ?_)
  clear hS
  refine AnyBut.one (i := 9) rfl (by kernel_rfl) rfl ?_; intro K hK; go_simp; refine hK _ _ ?_ ?_ <;> clear hK K; rotate_left; intro hS; rotate_left
  · refine ⟨?_, ?_, ?_⟩ <;> go_simp
  refine AnyBut.done (by kernel_rfl) ?_
  go_wp2_with fail
  refine at_code (fun W => RdL W R A1 c1 xs [of, day, 1, n] R ∧ Block W g 88 [.int .i64 2, .int .i64 id, .int .i64 0, .int .i64 0, .slice none 0 0, .slice none 0 0] ∧ Block W w.heap.size 88 ent0 ∧ Block W (g + 1) 234 [.pointer (some ⟨g, 0, none⟩), .int .i64 1, .int .i64 3, .pointer (some ⟨g, 1, none⟩), .int .i64 1, .int .i64 1099511627775, .pointer (some ⟨g, 2, none⟩), .int .i64 0, .int .i64 1099511627775, .pointer (some ⟨g, 3, none⟩), .int .i64 0, .int .i64 3652058] ∧ Kept [R] w1 W)
    ⟨h'.far (by omega) (by omega) _, Xn.set 1 _, Un.far (by show w.heap.size ≠ g; omega) _, Ln.far (by show g + 1 ≠ g; omega) _, Kn.set (.inr (by show w1.heap.size ≤ g; omega)) _⟩ ?_
  clear hS ne1 ne2 zW lkl y0 y1 y2 yl yf x0 x1 x2 x3 x4 x5 xl xf Yp Xp Yn Xn Un Ln Kn h'
  rintro W2 ⟨h2, X2, U2, LK2, K2⟩
  have LK2' : Block W2 (g + 1) 234 [.pointer (some ⟨g, 0, none⟩), .int .i64 1, .int .i64 3, .pointer (some ⟨g, 1, none⟩), .int .i64 1, .int .i64 1099511627775, .pointer (some ⟨g, 2, none⟩), .int .i64 0, .int .i64 1099511627775, .pointer (some ⟨g, 3, none⟩), .int .i64 0, .int .i64 3652058] := LK2
  have lkl := LK2'.lt
  have lk0 := LK2'.cell 6
  have lk1 := LK2'.cell 7
  have lk2 := LK2'.cell 8
  simp only [List.getElem?_cons_zero, List.getElem?_cons_succ] at lk0 lk1 lk2
  go_wp2_with fail
  have y0 : Block (W2.alloc (.cells #[.pointer (some ⟨g, 2, none⟩), .int .i64 0, .int .i64 1099511627775] 234)) W2.heap.size 234 [.pointer (some ⟨g, 2, none⟩), .int .i64 0, .int .i64 1099511627775] := btop rfl
  refine AnyBut.region (S := fun w' => w'.cell? ⟨W2.heap.size, 0, none⟩ = some (.pointer (some ⟨g, 2, none⟩)) ∧ w'.cell? ⟨W2.heap.size, 1, none⟩ = some (.int .i64 0) ∧ w'.cell? ⟨W2.heap.size, 2, none⟩ = some (.int .i64 1099511627775)) (t := 99) 10 rfl (by kernel_rfl) ⟨y0.cell 0, y0.cell 1, y0.cell 2⟩ ?_
  intro hS
  refine AnyBut.tk0 0 hS rfl (h := ?_); refine AnyBut.tk0 1 hS rfl (h := ?_); refine AnyBut.tk0 2 hS rfl (h := ?_); refine AnyBut.tk0 3 hS rfl (h := ?_); refine AnyBut.tk0 4 hS rfl (h := ?_); refine AnyBut.tk0 5 hS rfl (h := ?_); refine AnyBut.tk0 6 hS rfl (h := ?_)
  refine AnyBut.one (i := 7) rfl (by kernel_rfl) rfl ?_; intro K hK
  go_wp2_with fail
  refine (int_next R A1 c1 xs [day, 1, n] of _ _ R _ (h2.call (by exact sBel)) (i64r _) (by omega) (by omega)).mono ?_
  rintro e W' ⟨rfl, h', G⟩
  have Xn := Block.grown (Block.drew (X2.alloc (.cells #[.pointer (some ⟨g, 2, none⟩), .int .i64 0, .int .i64 1099511627775] 234))) G (by simp; omega)
  have Un := Block.grown (Block.drew (U2.alloc (.cells #[.pointer (some ⟨g, 2, none⟩), .int .i64 0, .int .i64 1099511627775] 234))) G (by simp; omega)
  have Ln := Block.grown (Block.drew (LK2.alloc (.cells #[.pointer (some ⟨g, 2, none⟩), .int .i64 0, .int .i64 1099511627775] 234))) G (by simp; omega)
  have Yn := Block.grown (Block.drew y0) G (by simp; omega)
  have Kn := ((K2.alloc (.cells #[.pointer (some ⟨g, 2, none⟩), .int .i64 0, .int .i64 1099511627775] 234)).drew).grown G (by simp)
  have zW : g < W2.heap.size := X2.lt
  have ne1 : W2.heap.size ≠ g := by omega
  have ne2 : g ≠ W2.heap.size := by omega
  clear lk0 lk1 lk2 h2 X2 U2 LK2 K2 LK2' y0 G
  have Yp := Yn
  have Xp := Xn
  obtain ⟨yl, yf, y0, y1, y2⟩ := Yp.c3
  obtain ⟨xl, xf, x0, x1, x2, x3, x4, x5⟩ := Xp.c6
  clear hS
  refine hK _ _ ?_ ?_ <;> clear hK K; rotate_left; intro hS; rotate_left
  · refine ⟨?_, ?_, ?_⟩ <;> go_simp
  refine AnyBut.tk0 8 hS rfl (h := ?_)
  clear hS
  refine AnyBut.one (i := 9) rfl (by kernel_rfl) rfl ?_; intro K hK; go_simp; refine hK _ _ ?_ ?_ <;> clear hK K; rotate_left; intro hS; rotate_left
  · refine ⟨?_, ?_, ?_⟩ <;> go_simp
  refine AnyBut.done (by kernel_rfl) ?_
  go_wp2_with fail
  refine at_code (fun W => RdL W R A1 c1 xs [day, 1, n] R ∧ Block W g 88 [.int .i64 2, .int .i64 id, .int .i64 of, .int .i64 0, .slice none 0 0, .slice none 0 0] ∧ Block W w.heap.size 88 ent0 ∧ Block W (g + 1) 234 [.pointer (some ⟨g, 0, none⟩), .int .i64 1, .int .i64 3, .pointer (some ⟨g, 1, none⟩), .int .i64 1, .int .i64 1099511627775, .pointer (some ⟨g, 2, none⟩), .int .i64 0, .int .i64 1099511627775, .pointer (some ⟨g, 3, none⟩), .int .i64 0, .int .i64 3652058] ∧ Kept [R] w1 W)
    ⟨h'.far (by omega) (by omega) _, Xn.set 2 _, Un.far (by show w.heap.size ≠ g; omega) _, Ln.far (by show g + 1 ≠ g; omega) _, Kn.set (.inr (by show w1.heap.size ≤ g; omega)) _⟩ ?_
  clear hS ne1 ne2 zW lkl y0 y1 y2 yl yf x0 x1 x2 x3 x4 x5 xl xf Yp Xp Yn Xn Un Ln Kn h'
  rintro W3 ⟨h3, X3, U3, LK3, K3⟩
  have LK3' : Block W3 (g + 1) 234 [.pointer (some ⟨g, 0, none⟩), .int .i64 1, .int .i64 3, .pointer (some ⟨g, 1, none⟩), .int .i64 1, .int .i64 1099511627775, .pointer (some ⟨g, 2, none⟩), .int .i64 0, .int .i64 1099511627775, .pointer (some ⟨g, 3, none⟩), .int .i64 0, .int .i64 3652058] := LK3
  have lkl := LK3'.lt
  have lk0 := LK3'.cell 9
  have lk1 := LK3'.cell 10
  have lk2 := LK3'.cell 11
  simp only [List.getElem?_cons_zero, List.getElem?_cons_succ] at lk0 lk1 lk2
  go_wp2_with fail
  have y0 : Block (W3.alloc (.cells #[.pointer (some ⟨g, 3, none⟩), .int .i64 0, .int .i64 3652058] 234)) W3.heap.size 234 [.pointer (some ⟨g, 3, none⟩), .int .i64 0, .int .i64 3652058] := btop rfl
  refine AnyBut.region (S := fun w' => w'.cell? ⟨W3.heap.size, 0, none⟩ = some (.pointer (some ⟨g, 3, none⟩)) ∧ w'.cell? ⟨W3.heap.size, 1, none⟩ = some (.int .i64 0) ∧ w'.cell? ⟨W3.heap.size, 2, none⟩ = some (.int .i64 3652058)) (t := 99) 10 rfl (by kernel_rfl) ⟨y0.cell 0, y0.cell 1, y0.cell 2⟩ ?_
  intro hS
  refine AnyBut.tk0 0 hS rfl (h := ?_); refine AnyBut.tk0 1 hS rfl (h := ?_); refine AnyBut.tk0 2 hS rfl (h := ?_); refine AnyBut.tk0 3 hS rfl (h := ?_); refine AnyBut.tk0 4 hS rfl (h := ?_); refine AnyBut.tk0 5 hS rfl (h := ?_); refine AnyBut.tk0 6 hS rfl (h := ?_)
  refine AnyBut.one (i := 7) rfl (by kernel_rfl) rfl ?_; intro K hK
  go_wp2_with fail
  refine (int_next R A1 c1 xs [1, n] day _ _ R _ (h3.call (by exact sBel)) (i64r _) (by omega) (by omega)).mono ?_
  rintro e W' ⟨rfl, h', G⟩
  have Xn := Block.grown (Block.drew (X3.alloc (.cells #[.pointer (some ⟨g, 3, none⟩), .int .i64 0, .int .i64 3652058] 234))) G (by simp; omega)
  have Un := Block.grown (Block.drew (U3.alloc (.cells #[.pointer (some ⟨g, 3, none⟩), .int .i64 0, .int .i64 3652058] 234))) G (by simp; omega)
  have Ln := Block.grown (Block.drew (LK3.alloc (.cells #[.pointer (some ⟨g, 3, none⟩), .int .i64 0, .int .i64 3652058] 234))) G (by simp; omega)
  have Yn := Block.grown (Block.drew y0) G (by simp; omega)
  have Kn := ((K3.alloc (.cells #[.pointer (some ⟨g, 3, none⟩), .int .i64 0, .int .i64 3652058] 234)).drew).grown G (by simp)
  have zW : g < W3.heap.size := X3.lt
  have ne1 : W3.heap.size ≠ g := by omega
  have ne2 : g ≠ W3.heap.size := by omega
  clear lk0 lk1 lk2 h3 X3 U3 LK3 K3 LK3' y0 G
  have Yp := Yn
  have Xp := Xn
  obtain ⟨yl, yf, y0, y1, y2⟩ := Yp.c3
  obtain ⟨xl, xf, x0, x1, x2, x3, x4, x5⟩ := Xp.c6
  clear hS
  refine hK _ _ ?_ ?_ <;> clear hK K; rotate_left; intro hS; rotate_left
  · refine ⟨?_, ?_, ?_⟩ <;> go_simp
  refine AnyBut.tk0 8 hS rfl (h := ?_)
  clear hS
  refine AnyBut.one (i := 9) rfl (by kernel_rfl) rfl ?_; intro K hK; go_simp; refine hK _ _ ?_ ?_ <;> clear hK K; rotate_left; intro hS; rotate_left
  · refine ⟨?_, ?_, ?_⟩ <;> go_simp
  refine AnyBut.done (by kernel_rfl) ?_
  go_wp2_with fail
  refine at_code (fun W => RdL W R A1 c1 xs [1, n] R ∧ Block W g 88 [.int .i64 2, .int .i64 id, .int .i64 of, .int .i64 day, .slice none 0 0, .slice none 0 0] ∧ Block W w.heap.size 88 ent0 ∧ Block W (g + 1) 234 [.pointer (some ⟨g, 0, none⟩), .int .i64 1, .int .i64 3, .pointer (some ⟨g, 1, none⟩), .int .i64 1, .int .i64 1099511627775, .pointer (some ⟨g, 2, none⟩), .int .i64 0, .int .i64 1099511627775, .pointer (some ⟨g, 3, none⟩), .int .i64 0, .int .i64 3652058] ∧ Kept [R] w1 W)
    ⟨h'.far (by omega) (by omega) _, Xn.set 3 _, Un.far (by show w.heap.size ≠ g; omega) _, Ln.far (by show g + 1 ≠ g; omega) _, Kn.set (.inr (by show w1.heap.size ≤ g; omega)) _⟩ ?_
  clear hS ne1 ne2 zW lkl y0 y1 y2 yl yf x0 x1 x2 x3 x4 x5 xl xf Yp Xp Yn Xn Un Ln Kn h'
  rintro W4 ⟨h4, X4, U4, LK4, K4⟩
  go_wp2_with fail
  refine (count_next R A1 c1 xs [n] 1 100 R _ h4 (i64r _) (by omega) (by omega)).mono ?_
  rintro e W5 ⟨rfl, h5, G⟩
  have X5 := Block.grown X4 G (by simp; omega)
  have U5 := Block.grown U4 G (by simp; omega)
  have K5 := K4.grown G (by simp)
  clear h4 X4 U4 LK4 K4 G
  have Xp := X5
  obtain ⟨xl, xf, x0, x1, x2, x3, x4, x5⟩ := Xp.c6
  go_wp2_with fail
  refine wp_loop_rounds 2 ?_
  rw [rounds_succ]
  go_wp2_with fail
  refine AnyBut.region (S := fun w' => w'.cell? ⟨g, 4, none⟩ = some (.slice none 0 0)) (t := 7) 8 rfl (by kernel_rfl) ?_ ?_
  · go_simp
  intro hS
  refine AnyBut.tk 0 hS rfl (h := ?_); refine AnyBut.tk 1 hS rfl (h := ?_); refine AnyBut.tk 2 hS rfl (h := ?_)
  refine AnyBut.one (i := 3) rfl (by kernel_rfl) rfl ?_; intro K hK
  go_wp2_with fail
  refine (int_next R A1 c1 xs [] n _ _ R _ (h5.call (by exact sBel)) (i64r _) (by omega) (by omega)).mono ?_
  rintro e W6 ⟨rfl, h6, G⟩
  have X6 := Block.grown X5.drew G (by simp; omega)
  have U6 := Block.grown U5.drew G (by simp; omega)
  have K6 := (K5.drew).grown G (by simp)
  clear x0 x1 x2 x3 x4 x5 xl xf Xp h5 X5 U5 K5 G
  have Xp := X6
  obtain ⟨xl, xf, x0, x1, x2, x3, x4, x5⟩ := Xp.c6
  clear hS
  refine hK _ _ ?_ ?_ <;> clear hK K; rotate_left; intro hS; rotate_left
  · go_simp
  clear hS
  refine AnyBut.one (i := 4) rfl (by kernel_rfl) rfl ?_; intro K hK; go_simp; refine hK _ _ ?_ ?_ <;> clear hK K; rotate_left; intro hS; rotate_left
  · go_simp
  refine AnyBut.one (i := 5) rfl (by kernel_rfl) rfl ?_; intro K hK
  refine op_append_nil _ _ 22 rfl 3 _ 1 8 Tryz.underlying22 info_int rfl W6.heap.size 0 1 1 [.int .i64 n] rfl rfl rfl (by intro j v hj; rw [Nat.zero_add]; exact (Block.cell (btop (cs := [.int .i64 n]) rfl) j).trans hj) (by omega) (by unfold maxLen; omega) (by omega) ?_
  intro J k hJ hk
  clear hS
  refine hK _ _ ?_ ?_ <;> clear hK K; rotate_left; intro hS; rotate_left
  · go_simp
  refine AnyBut.tk 6 hS rfl (h := ?_)
  refine AnyBut.last rfl (by kernel_rfl) rfl (by kernel_rfl) ?_; intro K hK; go_simp; refine hK _ _ ?_; clear hK K
  go_wp2_with fail
  have hbl : Below (W6.setCell ⟨g, 4, none⟩ (.slice (some ⟨W6.heap.size + 1, 0, none⟩) 1 (1 + k))).heap.size (W6.setCell ⟨g, 4, none⟩ (.slice (some ⟨W6.heap.size + 1, 0, none⟩) 1 (1 + k))) (((W6.setCell ⟨g, 4, none⟩ (.slice (some ⟨W6.heap.size + 1, 0, none⟩) 1 (1 + k))).alloc (.cells #[.int .i64 n] 3)).alloc (.cells ([.int .i64 n].toArray ++ J) 3)).drew := by exact sBel
  obtain ⟨ga, hga⟩ : ∃ ga, W6.heap.size + 1 = ga := ⟨_, rfl⟩
  obtain ⟨ca, hca⟩ : ∃ ca, 1 + k = ca := ⟨_, rfl⟩
  rw [hga, hca] at hbl ⊢
  refine at_code (fun W => RdL W R A1 c1 xs [] R ∧ Block W g 88 [.int .i64 2, .int .i64 id, .int .i64 of, .int .i64 day, .slice (some ⟨ga, 0, none⟩) 1 ca, .slice none 0 0] ∧ Block W w.heap.size 88 ent0 ∧ Kept [R] w1 W ∧ Has W ga [.int .i64 n])
    ⟨(h6.far (by omega) (by omega) _).call hbl, (X6.set 4 _).call hbl, (U6.far (by show w.heap.size ≠ g; omega) _).call hbl, (K6.set (.inr (by show w1.heap.size ≤ g; omega)) _).behind hbl, ?_⟩ ?_
  · exact (has_top (news := [.int .i64 n]) (by simp; omega)).drew
  have hca1 : 1 ≤ ca := by omega
  have hga1 : w1.heap.size ≤ ga := by have := K6.size; omega
  have hga2 : g < ga := by have := X6.lt; omega
  clear hS x0 x1 x2 x3 x4 x5 xl xf Xp X6 U6 K6 h6 hbl
  rintro W7 ⟨h7, X7, U7, K7, HA7⟩
  have hgaR : ga ≠ R := by omega
  go_wp2_with fail
  obtain ⟨kk, fa, hR7, hd7⟩ := h7.rd
  have hfl : ∀ w, (Instr.field 194 (.agg #[.int .i64 0, .int .i64 fa]) 0).run Tryz.prog w = .ok (.int .i64 0) w := fun _ => by kernel_rfl
  refine (rfault_made R A1 xs.length c1 kk 0 fa W7 hR7).mono ?_
  rintro e W8 ⟨rfl, hb8⟩
  have h8 := h7.call hb8
  have X8 := X7.call hb8
  have U8' := U7.call hb8
  have K8 := K7.behind hb8
  have HA8 := HA7.call hb8
  clear hR7 hd7 hb8 h7 X7 U7 K7 HA7
  have Xp := X8
  obtain ⟨xl, xf, x0, x1, x2, x3, x4, x5⟩ := Xp.c6
  go_wp2_with fail
  refine (at_next R A1 c1 xs [] R W8 h8).mono ?_
  rintro e W' ⟨kz, hkz, rfl, rfl⟩
  have z8 := K8.size
  have zb1 := bel1.size
  have zu := U8'.lt
  have zx := X8.lt
  have BB8 : Below w.heap.size w W' := bel1.trans (K8.below (by simp; omega) zb1)
  have hkl : ¬ (kz : Int) < xs.length := by
    have h2 := congrArg List.length hkz
    simp [bytesOf] at h2
    omega
  go_wp2_with fail
  refine (check_ref id of day ga ca n hid0 hid1 hof0 hof1 hd0 hd1 hn0 hn _ HA8).mono ?_
  rintro e W11 ⟨rfl, hb11⟩
  have X11 := X8.call hb11
  have U11 := U8'.call hb11
  have HA11 := HA8.call hb11
  have BB11 : Below w.heap.size w W11 := BB8.trans (hb11.mono BB8.size)
  clear x0 x1 x2 x3 x4 x5 xl xf Xp X8 U8' HA8 hb11
  have U12 : Block W11 w.heap.size 88 [.int .i64 0, .int .i64 0, .int .i64 0, .int .i64 0, .slice none 0 0, .slice none 0 0] := U11
  have X12 : Block W11 g 88 (refC id of day ga ca) := X11
  unfold Block at U12 X12
  go_upto_region 23 with (fail)
  go_step
  refine wpList_load_row rfl _ _ rfl g rfl _ _ (0, 0) _ X12 Tryz.underlying88 rfl rfl ?_
  refine wpList_store_row rfl _ _ _ rfl w.heap.size _ rfl rfl _ _ U12 rfl rfl (all_one _ rfl) ?_
  have U13 : Block (W11.setRow w.heap.size (refC id of day ga ca).toArray) w.heap.size 88 (refC id of day ga ca) := setRow_heap _ _ _ _ _ _ U12
  clear hkl
  repeat go_step
  exact ret_ct (T := 88) rfl rfl rfl U13 agg_ent size_ent ⟨ga, ca, rfl, ⟨by omega, hca1⟩, has_row HA11 (by omega) _, below_setRow BB11 (Nat.le_refl _) _⟩
end Go.Proofs.YthmhdaefkhcenaaGreatDoor
