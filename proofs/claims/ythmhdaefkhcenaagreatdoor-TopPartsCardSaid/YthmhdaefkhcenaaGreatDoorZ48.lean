/- Lemmas for it; no condition: TRem. -/
import Derived.Test.YthmhdaefkhcenaaGreatDoorZ08
import Derived.Test.YthmhdaefkhcenaaGreatDoorZ12
import Derived.Test.YthmhdaefkhcenaaGreatDoorZ21
import Derived.Test.YthmhdaefkhcenaaGreatDoorZ47
set_option linter.unusedVariables false
set_option linter.unusedSimpArgs false
namespace Go.Proofs.YthmhdaefkhcenaaGreatDoor
set_option maxRecDepth 100000
set_option maxHeartbeats 8000000
open Go.RowKit Go.Lib

theorem mvCs_get : ∀ (L : List Mv) (j : Nat) (x : Mv), L[j]? = some x → ∀ k, k < 6 → (mvCs L)[j * 6 + k]? = (mvC x)[k]?
  | [], j, x, h, k, hk => by simp at h
  | y :: L, 0, x, h, k, hk => by
    simp at h
    subst h
    show (mvC y ++ mvCs L)[0 * 6 + k]? = _
    rw [List.getElem?_append_left (by simp [mvC]; omega)]
    simp
  | y :: L, j + 1, x, h, k, hk => by
    show (mvC y ++ mvCs L)[(j + 1) * 6 + k]? = _
    rw [List.getElem?_append_right (by simp [mvC]; omega)]
    rw [← mvCs_get L j x (by simpa using h) k hk]
    congr 1
    simp [mvC]
    omega
def accF (f : Mv → Nat) (L : List Mv) : Int := (L.map fun x => if x.bk then - (f x : Int) else (f x : Int)).sum
theorem accF_snoc (f : Mv → Nat) (L : List Mv) (x : Mv) : accF f (L ++ [x]) = accF f L + (if x.bk then - (f x : Int) else (f x : Int)) := by simp [accF]
def cntF (b : Bool) (L : List Mv) : Nat := (L.filter fun x => x.bk == b).length
theorem cntF_snoc (b : Bool) (L : List Mv) (x : Mv) : cntF b (L ++ [x]) = cntF b L + (if x.bk == b then 1 else 0) := by
  simp only [cntF, List.filter_append, List.length_append]
  by_cases h : (x.bk == b) = true <;> simp [h, List.filter]
theorem none_rem (bb m : Nat) (ids : Value) (w : World) (hB : Block w bb 137 [ids, .map (some m)]) :
    Calls Tryz.prog 62 #[.pointer (some ⟨bb, 0, none⟩)] w fun e w' => e = .returned (.bool false) ∧ Below w.heap.size w w' := by
  go_enter Tryz.func62, Tryz.ntmps62
  go_wp2_with (go_at_call 49; go_in)
  refine (none_book bb m ids _ (hB.alloc _)).mono ?_
  rintro e w1 ⟨rfl, hb1⟩
  have bel1 : Below w.heap.size w w1 := bel_call (by exact sBel) hb1
  have X0 : Block w1 w.heap.size 88 [.int .i64 0, .int .i64 0, .int .i64 0, .int .i64 0, .slice none 0 0, .slice none 0 0] := Block.call (btop (cs := [.int .i64 0, .int .i64 0, .int .i64 0, .int .i64 0, .slice none 0 0, .slice none 0 0]) rfl) hb1
  obtain ⟨al, af, a0, a1, a2, a3, a4, a5⟩ := X0.c6
  go_wp2
  go_returns
  exact ⟨by first | rfl | simp, by exact sBel⟩
theorem agg_rep (w : World) : (isAgg 59).run Tryz.prog w = .ok true w := by kernel_rfl
theorem size_rep (w : World) : (sizeOf 59).run Tryz.prog w = .ok 8 w := by kernel_rfl
theorem cntF_le (b : Bool) (L : List Mv) : cntF b L ≤ L.length := List.length_filter_le _ _
theorem tab3_0 (a b c : Int) (w : World) : (Instr.index 159 (.agg #[.int .i64 a, .int .i64 b, .int .i64 c]) (.int .i64 0)).run Tryz.prog w = .ok (.int .i64 a) w := by kernel_rfl
theorem tab3_1 (a b c : Int) (w : World) : (Instr.index 159 (.agg #[.int .i64 a, .int .i64 b, .int .i64 c]) (.int .i64 1)).run Tryz.prog w = .ok (.int .i64 b) w := by kernel_rfl
theorem tab3_2 (a b c : Int) (w : World) : (Instr.index 159 (.agg #[.int .i64 a, .int .i64 b, .int .i64 c]) (.int .i64 2)).run Tryz.prog w = .ok (.int .i64 c) w := by kernel_rfl
theorem ptr3_0 (a b c : Option Addr) (w : World) : (Instr.index 162 (.agg #[.pointer a, .pointer b, .pointer c]) (.int .i64 0)).run Tryz.prog w = .ok (.pointer a) w := by kernel_rfl
theorem ptr3_1 (a b c : Option Addr) (w : World) : (Instr.index 162 (.agg #[.pointer a, .pointer b, .pointer c]) (.int .i64 1)).run Tryz.prog w = .ok (.pointer b) w := by kernel_rfl
theorem ptr3_2 (a b c : Option Addr) (w : World) : (Instr.index 162 (.agg #[.pointer a, .pointer b, .pointer c]) (.int .i64 2)).run Tryz.prog w = .ok (.pointer c) w := by kernel_rfl
theorem file_rem (bb m ib ic jb jc rb rc : Nat) (L : List Mv) (w : World) (hB : Block w bb 137 [.slice (some ⟨ib, 0, none⟩) L.length ic, .map (some m)]) (hI : Has w ib (L.map fun x => .int .i64 x.id)) (hM : MapAt w m (bEs (mvP L) 0) (mvP L).length) (hd : ((mvP L).map Prod.fst).Nodup)
    (hE : ∀ x ∈ L, MvOk w x) (hn : L.length ≤ 1000) (hJ : Has w jb (juC rb rc)) (hdy : ∀ x ∈ L, 10 ≤ x.day ∧ x.day ≤ 18) (hb : ∀ x ∈ L, x.n ≤ 1073741824 ∧ x.t ≤ 1073741824)
    (hN : ∀ j ≤ L.length, 0 ≤ accF (·.n) (L.take j) ∧ accF (·.n) (L.take j) ≤ 1099511627776) (hT : ∀ j ≤ L.length, 0 ≤ accF (·.t) (L.take j) ∧ accF (·.t) (L.take j) ≤ 1099511627776) :
    Calls Tryz.prog 34 #[.pointer (some ⟨bb, 0, none⟩), .slice (some ⟨jb, 0, none⟩) 1 jc, .int .i64 7, .int .i64 0] w fun e w' =>
      e = .returned (.tuple #[.agg #[.int .i64 7, .int .i64 1, .int .i64 0, .int .i64 (accF (·.n) L), .int .i64 0, .int .i64 (accF (·.t) L), .int .i64 (cntF false L), .int .i64 (cntF true L)], .int .i64 0]) ∧ Below w.heap.size w w' := by
  go_enter Tryz.func34, Tryz.ntmps34
  go_wp2_with fail
  refine (none_rem bb m _ _ (hB.alloc _)).mono ?_
  rintro e w1 ⟨rfl, hb1⟩
  have bel1 : Below w.heap.size w w1 := bel_call (by exact sBel) hb1
  have X0 : Block w1 w.heap.size 59 [.int .i64 0, .int .i64 0, .int .i64 0, .int .i64 0, .int .i64 0, .int .i64 0, .int .i64 0, .int .i64 0] := Block.call (btop (cs := [.int .i64 0, .int .i64 0, .int .i64 0, .int .i64 0, .int .i64 0, .int .i64 0, .int .i64 0, .int .i64 0]) rfl) hb1
  clear hb1
  go_wp2_with fail
  refine (jcheck jb jc rb rc w1 (hJ.call bel1)).mono ?_
  rintro e w2 ⟨rfl, hb2⟩
  have bel2 := bel_call bel1 hb2
  go_wp2_with fail
  refine (jfind jb jc rb rc w2 (hJ.call bel2)).mono ?_
  rintro e w3 ⟨he, hb3⟩
  obtain rfl : e = .returned (.tuple #[.agg #[.int .i64 7, .int .i64 1, .int .i64 0, .int .i64 1, .slice (some ⟨rb, 0, none⟩) 1 rc], .bool true]) := he
  have bel3 := bel_call bel2 hb3
  have X3 := (X0.call hb2).call hb3
  clear X0 hb2 hb3
  have zx := X3.lt
  go_upto_region 9 with (fail)
  refine at_code (fun W => Below w.heap.size w W ∧ Block W w.heap.size 59 [.int .i64 0, .int .i64 0, .int .i64 0, .int .i64 0, .int .i64 0, .int .i64 0, .int .i64 0, .int .i64 0] ∧ Block W w3.heap.size 76 (juC rb rc)) ⟨by exact sBel, X3.alloc _, by unfold juC; exact btop rfl⟩ ?_
  rintro w4 ⟨bel4, X4, J4⟩
  unfold juC at J4
  have J4p := J4
  obtain ⟨jl, jf, j0, j1, j2, j3, j4⟩ := J4p.c5
  go_wp2_with fail
  refine (first_zero w4).mono ?_
  rintro e w5 ⟨rfl, hb5⟩
  have bel5 := bel_call bel4 hb5
  have X5 := X4.call hb5
  have J5 := J4.call hb5
  clear j0 j1 j2 j3 j4 jl jf J4p J4 X4
  have J5p := J5
  obtain ⟨jl, jf, j0, j1, j2, j3, j4⟩ := J5p.c5
  go_wp2_with fail
  have R5 : Block ((w5.alloc (.cells #[.int .i64 7, .int .i64 1, .int .i64 0, .int .i64 0, .int .i64 0, .int .i64 0, .int .i64 0, .int .i64 0] 59)).alloc (.cells #[.int .u64 0, .int .u64 0, .int .u64 0, .int .u64 0, .int .u64 0, .int .u64 0] 154)) w5.heap.size 59 [.int .i64 7, .int .i64 1, .int .i64 0, .int .i64 0, .int .i64 0, .int .i64 0, .int .i64 0, .int .i64 0] := (btop rfl).alloc _
  have S5 : Block ((w5.alloc (.cells #[.int .i64 7, .int .i64 1, .int .i64 0, .int .i64 0, .int .i64 0, .int .i64 0, .int .i64 0, .int .i64 0] 59)).alloc (.cells #[.int .u64 0, .int .u64 0, .int .u64 0, .int .u64 0, .int .u64 0, .int .u64 0] 154)) (w5.heap.size + 1) 154 [.int .u64 0, .int .u64 0, .int .u64 0, .int .u64 0, .int .u64 0, .int .u64 0] := btop (by simp)
  have bel6 : Below w.heap.size w ((w5.alloc (.cells #[.int .i64 7, .int .i64 1, .int .i64 0, .int .i64 0, .int .i64 0, .int .i64 0, .int .i64 0, .int .i64 0] 59)).alloc (.cells #[.int .u64 0, .int .u64 0, .int .u64 0, .int .u64 0, .int .u64 0, .int .u64 0] 154)) := bel_alloc (bel_alloc bel5 _) _
  obtain ⟨N, hNN⟩ : ∃ N, L.length = N := ⟨_, rfl⟩
  have HN := Lib.hid hNN
  refine (moves_book bb m ib ic L _ (hB.call bel6) (hI.call bel6) (hM.call bel6) hd (fun x hx => (hE x hx).call bel6) hn).mono ?_
  rintro e w6 ⟨A, c, rfl, O6, hb6⟩
  rw [hNN] at O6 hn hN hT ⊢
  clear hNN
  have R6 := R5.call hb6
  have S6 := S5.call hb6
  have J6 := ((J5.alloc (.cells #[.int .i64 7, .int .i64 1, .int .i64 0, .int .i64 0, .int .i64 0, .int .i64 0, .int .i64 0, .int .i64 0] 59)).alloc (.cells #[.int .u64 0, .int .u64 0, .int .u64 0, .int .u64 0, .int .u64 0, .int .u64 0] 154)).call hb6
  have X6 := ((X5.alloc (.cells #[.int .i64 7, .int .i64 1, .int .i64 0, .int .i64 0, .int .i64 0, .int .i64 0, .int .i64 0, .int .i64 0] 59)).alloc (.cells #[.int .u64 0, .int .u64 0, .int .u64 0, .int .u64 0, .int .u64 0, .int .u64 0] 154)).call hb6
  have bel7 := bel_call bel6 hb6
  have hsh := shows_row O6
  have hwh := own_where O6
  simp only [World.size_alloc] at hwh
  have zj5 := J5.lt
  have zj5 := J5.lt
  have zj5 := J5.lt
  have zj5 := J5.lt
  have zj5 := J5.lt
  have zj5 := J5.lt
  have zj5 := J5.lt
  have zj5 := J5.lt
  clear R5 S5 J5 X5 J5p j0 j1 j2 j3 j4 jl jf
  have z5 := bel5.size
  have z6 := hb6.size
  simp only [World.size_alloc] at z6
  obtain ⟨r0, hr0⟩ : ∃ r0, w5.heap.size = r0 := ⟨_, rfl⟩
  obtain ⟨jj, hj0⟩ : ∃ jj, w3.heap.size = jj := ⟨_, rfl⟩
  rw [hr0] at R6 S6 hwh z5 z6 zj5
  rw [hj0] at J6 zj5
  have zj := J6.lt
  go_wp2_with fail
  go_loopw [67] (fun s67 wr => ∃ (k p q a b : Nat), k ≤ N ∧ s67 = .int .i64 k ∧ p = cntF false (L.take k) ∧ q = cntF true (L.take k) ∧ (a : Int) = accF (·.n) (L.take k) ∧ (b : Int) = accF (·.t) (L.take k) ∧ Block wr r0 59 [.int .i64 7, .int .i64 1, .int .i64 0, .int .i64 0, .int .i64 0, .int .i64 0, .int .i64 p, .int .i64 q] ∧ Block wr (r0 + 1) 154 [.int .u64 0, .int .u64 a, .int .u64 0, .int .u64 0, .int .u64 0, .int .u64 b] ∧ Kept [r0, r0 + 1] w6 wr) (fun s67 _ => N - (intOf s67).toNat)
  case atStart => exact ⟨0, 0, 0, 0, 0, by omega, rfl, by simp [cntF], by simp [cntF], by simp [accF], by simp [accF], R6, S6, Kept.refl _ _⟩
  case round =>
    obtain ⟨k, p, q, a, b, hk, rfl, hp, hq, ha, hbb, Rk, Sk, kp⟩ := hrel
    have Hp := Lib.hid hp
    have Hq := Lib.hid hq
    have Ha := Lib.hid ha
    have Hb := Lib.hid hbb
    have haB := hN k hk
    have hbB := hT k hk
    rw [← Ha.out] at haB
    rw [← Hb.out] at hbB
    clear hp hq ha hbb
    have zk := kp.size
    have Jk := J6.keptX kp (by simp; omega)
    by_cases hlt : k < N
    · obtain ⟨x, hx⟩ : ∃ x, L[k]? = some x := ⟨L[k]'(by rw [HN.out]; exact hlt), List.getElem?_eq_getElem _⟩
      have hxm : x ∈ L := List.mem_of_getElem? hx
      have hxd := hdy x hxm
      have hxb := hb x hxm
      have htk := take_snoc hx
      have na := hN (k + 1) (by omega)
      have nb := hT (k + 1) (by omega)
      rw [htk, accF_snoc] at na nb
      rw [← Ha.out] at na
      rw [← Hb.out] at nb
      have hcell : ∀ i, i < 6 → (mvCs L)[k * 6 + i]? = (mvC x)[i]? := fun i hi => mvCs_get L k x hx i hi
      obtain ⟨g, rfl, hg1, _, hgH⟩ := own_has O6 (by omega)
      have hg2 := hwh g rfl
      have Hg := hgH.keptX kp (by simp; omega)
      have c0 := Hg.cell ((hcell 0 (by omega)).trans rfl)
      rw [Nat.add_zero] at c0
      have c1 := Hg.cell ((hcell 1 (by omega)).trans rfl)
      have c2 := Hg.cell ((hcell 2 (by omega)).trans rfl)
      have c3 := Hg.cell ((hcell 3 (by omega)).trans rfl)
      have c4 := Hg.cell ((hcell 4 (by omega)).trans rfl)
      have c5 := Hg.cell ((hcell 5 (by omega)).trans rfl)
      have q3 : (0 : Int) ≤ (k : Int) := by omega
      have q4 : (k : Int) < (N : Int) := by omega
      have Htk := Lib.hid htk
      clear htk hcell hgH hx
      have Jkp := Jk
      obtain ⟨jl, jf, j0, j1, j2, j3, j4⟩ := Jkp.c5
      go_wp2_with fail
      refine (of_some x.day hxd.1 hxd.2 _).mono ?_
      rintro e u0 ⟨rfl, hbu⟩
      have bu : Below wr.heap.size wr u0 := bel_call (by exact sBel) hbu
      have M0 : Block u0 wr.heap.size 158 [.int .i64 x.id, .int .i64 x.day, .bool x.bk, .int .i64 x.n, .int .i64 0, .int .i64 x.t] := Block.call (btop rfl) hbu
      have R0 := Rk.call bu
      have S0 := Sk.call bu
      have J0 := Jk.call bu
      have kp0 := kp.behind bu
      clear hbu c0 c1 c2 c3 c4 c5 j0 j1 j2 j3 j4 jl jf Jkp Jk Rk Sk Hg bu
      cases hbk : x.bk
      · rw [hbk] at M0 na nb
        simp only [Bool.false_eq_true, if_false] at na nb
        have tb0 := tab3_0
        have tb1 := tab3_1
        have tb2 := tab3_2
        have Mp0 := M0
        obtain ⟨ml, mf, m0, m1, m2, m3, m4, m5⟩ := Mp0.c6
        have Sp0 := S0
        obtain ⟨tl, tf, t0, t1, t2, t3, t4, t5⟩ := Sp0.c6
        go_wp2_with fail
        refine wp_loop_rounds 4 ?_
        rw [rounds_succ]
        go_wp2_with fail
        refine AnyBut.region (S := fun w' => w'.cell? ⟨wr.heap.size, 2, none⟩ = some (.bool false)) (t := 99) 6 rfl (by kernel_rfl) m2 ?_
        intro hS
        refine AnyBut.tk0 0 hS rfl (h := ?_); refine AnyBut.tk0 1 hS rfl (h := ?_); refine AnyBut.tk0 2 hS rfl (h := ?_); refine AnyBut.tk0 3 hS rfl (h := ?_); refine AnyBut.tk0 4 hS rfl (h := ?_)
        clear hS
        refine AnyBut.one (i := 5) rfl (by kernel_rfl) rfl ?_; intro K hKK
        go_wp2_with fail
        refine (sum_add (r0 + 1) 0 a x.n (by omega) (by omega) u0.drew t0 t1 (tf 0) (tf 1)).mono ?_
        rintro e w' ⟨rfl, rfl⟩
        have M1 : Block _ wr.heap.size 158 [.int .i64 x.id, .int .i64 x.day, .bool false, .int .i64 x.n, .int .i64 0, .int .i64 x.t] := (M0.drew.far (p := ⟨r0 + 1, 0 + 1, none⟩) (by show wr.heap.size ≠ r0 + 1; omega) (.int .u64 (a + x.n : Nat))).far (p := ⟨r0 + 1, 0, none⟩) (by show wr.heap.size ≠ r0 + 1; omega) (.int .u64 0)
        refine hKK _ _ (M1.cell 2) ?_
        intro hS
        clear hS hKK K
        refine AnyBut.done (by kernel_rfl) ?_
        have R1 : Block ((u0.drew.setCell ⟨r0 + 1, 0 + 1, none⟩ (.int .u64 (a + x.n : Nat))).setCell ⟨r0 + 1, 0, none⟩ (.int .u64 0)) r0 59 [.int .i64 7, .int .i64 1, .int .i64 0, .int .i64 0, .int .i64 0, .int .i64 0, .int .i64 p, .int .i64 q] := (R0.drew.far (by show r0 ≠ r0 + 1; omega) _).far (by show r0 ≠ r0 + 1; omega) _
        have S1 : Block ((u0.drew.setCell ⟨r0 + 1, 0 + 1, none⟩ (.int .u64 (a + x.n : Nat))).setCell ⟨r0 + 1, 0, none⟩ (.int .u64 0)) (r0 + 1) 154 [.int .u64 0, .int .u64 (a + x.n : Nat), .int .u64 0, .int .u64 0, .int .u64 0, .int .u64 b] := (S0.drew.set 1 _).set 0 _
        have kp1 : Kept [r0, r0 + 1] w6 ((u0.drew.setCell ⟨r0 + 1, 0 + 1, none⟩ (.int .u64 (a + x.n : Nat))).setCell ⟨r0 + 1, 0, none⟩ (.int .u64 0)) := (kp0.drew.set (by simp) _).set (by simp) _
        generalize ((u0.drew.setCell ⟨r0 + 1, 0 + 1, none⟩ (.int .u64 (a + x.n : Nat))).setCell ⟨r0 + 1, 0, none⟩ (.int .u64 0)) = u1 at R1 S1 M1 kp1 ⊢
        clear R0 S0 M0 kp0 m0 m1 m2 m3 m4 m5 ml mf t0 t1 t2 t3 t4 t5 tl tf Mp0 Sp0
        have Mp1 := M1
        obtain ⟨ml, mf, m0, m1, m2, m3, m4, m5⟩ := Mp1.c6
        have Sp1 := S1
        obtain ⟨tl, tf, t0, t1, t2, t3, t4, t5⟩ := Sp1.c6
        go_wp2_with fail
        rw [rounds_succ]
        go_wp2_with fail
        refine AnyBut.region (S := fun w' => w'.cell? ⟨wr.heap.size, 2, none⟩ = some (.bool false)) (t := 99) 6 rfl (by kernel_rfl) m2 ?_
        intro hS
        refine AnyBut.tk0 0 hS rfl (h := ?_); refine AnyBut.tk0 1 hS rfl (h := ?_); refine AnyBut.tk0 2 hS rfl (h := ?_); refine AnyBut.tk0 3 hS rfl (h := ?_); refine AnyBut.tk0 4 hS rfl (h := ?_)
        clear hS
        refine AnyBut.one (i := 5) rfl (by kernel_rfl) rfl ?_; intro K hKK
        go_wp2_with fail
        refine (sum_add (r0 + 1) 2 0 0 (by omega) (by omega) u1.drew t2 t3 (tf 2) (tf 3)).mono ?_
        rintro e w' ⟨rfl, rfl⟩
        have M2 : Block _ wr.heap.size 158 [.int .i64 x.id, .int .i64 x.day, .bool false, .int .i64 x.n, .int .i64 0, .int .i64 x.t] := (M1.drew.far (p := ⟨r0 + 1, 2 + 1, none⟩) (by show wr.heap.size ≠ r0 + 1; omega) (.int .u64 (0 + 0 : Nat))).far (p := ⟨r0 + 1, 2, none⟩) (by show wr.heap.size ≠ r0 + 1; omega) (.int .u64 0)
        refine hKK _ _ (M2.cell 2) ?_
        intro hS
        clear hS hKK K
        refine AnyBut.done (by kernel_rfl) ?_
        have R2 : Block ((u1.drew.setCell ⟨r0 + 1, 2 + 1, none⟩ (.int .u64 (0 + 0 : Nat))).setCell ⟨r0 + 1, 2, none⟩ (.int .u64 0)) r0 59 [.int .i64 7, .int .i64 1, .int .i64 0, .int .i64 0, .int .i64 0, .int .i64 0, .int .i64 p, .int .i64 q] := (R1.drew.far (by show r0 ≠ r0 + 1; omega) _).far (by show r0 ≠ r0 + 1; omega) _
        have S2 : Block ((u1.drew.setCell ⟨r0 + 1, 2 + 1, none⟩ (.int .u64 (0 + 0 : Nat))).setCell ⟨r0 + 1, 2, none⟩ (.int .u64 0)) (r0 + 1) 154 [.int .u64 0, .int .u64 (a + x.n : Nat), .int .u64 0, .int .u64 0, .int .u64 0, .int .u64 b] := (S1.drew.set 3 _).set 2 _
        have kp2 : Kept [r0, r0 + 1] w6 ((u1.drew.setCell ⟨r0 + 1, 2 + 1, none⟩ (.int .u64 (0 + 0 : Nat))).setCell ⟨r0 + 1, 2, none⟩ (.int .u64 0)) := (kp1.drew.set (by simp) _).set (by simp) _
        generalize ((u1.drew.setCell ⟨r0 + 1, 2 + 1, none⟩ (.int .u64 (0 + 0 : Nat))).setCell ⟨r0 + 1, 2, none⟩ (.int .u64 0)) = u2 at R2 S2 M2 kp2 ⊢
        clear R1 S1 M1 kp1 m0 m1 m2 m3 m4 m5 ml mf t0 t1 t2 t3 t4 t5 tl tf Mp1 Sp1
        have Mp2 := M2
        obtain ⟨ml, mf, m0, m1, m2, m3, m4, m5⟩ := Mp2.c6
        have Sp2 := S2
        obtain ⟨tl, tf, t0, t1, t2, t3, t4, t5⟩ := Sp2.c6
        go_wp2_with fail
        rw [rounds_succ]
        go_wp2_with fail
        refine AnyBut.region (S := fun w' => w'.cell? ⟨wr.heap.size, 2, none⟩ = some (.bool false)) (t := 99) 6 rfl (by kernel_rfl) m2 ?_
        intro hS
        refine AnyBut.tk0 0 hS rfl (h := ?_); refine AnyBut.tk0 1 hS rfl (h := ?_); refine AnyBut.tk0 2 hS rfl (h := ?_); refine AnyBut.tk0 3 hS rfl (h := ?_); refine AnyBut.tk0 4 hS rfl (h := ?_)
        clear hS
        refine AnyBut.one (i := 5) rfl (by kernel_rfl) rfl ?_; intro K hKK
        go_wp2_with fail
        refine (sum_add (r0 + 1) 4 b x.t (by omega) (by omega) u2.drew t4 t5 (tf 4) (tf 5)).mono ?_
        rintro e w' ⟨rfl, rfl⟩
        have M3 : Block _ wr.heap.size 158 [.int .i64 x.id, .int .i64 x.day, .bool false, .int .i64 x.n, .int .i64 0, .int .i64 x.t] := (M2.drew.far (p := ⟨r0 + 1, 4 + 1, none⟩) (by show wr.heap.size ≠ r0 + 1; omega) (.int .u64 (b + x.t : Nat))).far (p := ⟨r0 + 1, 4, none⟩) (by show wr.heap.size ≠ r0 + 1; omega) (.int .u64 0)
        refine hKK _ _ (M3.cell 2) ?_
        intro hS
        clear hS hKK K
        refine AnyBut.done (by kernel_rfl) ?_
        have R3 : Block ((u2.drew.setCell ⟨r0 + 1, 4 + 1, none⟩ (.int .u64 (b + x.t : Nat))).setCell ⟨r0 + 1, 4, none⟩ (.int .u64 0)) r0 59 [.int .i64 7, .int .i64 1, .int .i64 0, .int .i64 0, .int .i64 0, .int .i64 0, .int .i64 p, .int .i64 q] := (R2.drew.far (by show r0 ≠ r0 + 1; omega) _).far (by show r0 ≠ r0 + 1; omega) _
        have S3 : Block ((u2.drew.setCell ⟨r0 + 1, 4 + 1, none⟩ (.int .u64 (b + x.t : Nat))).setCell ⟨r0 + 1, 4, none⟩ (.int .u64 0)) (r0 + 1) 154 [.int .u64 0, .int .u64 (a + x.n : Nat), .int .u64 0, .int .u64 0, .int .u64 0, .int .u64 (b + x.t : Nat)] := (S2.drew.set 5 _).set 4 _
        have kp3 : Kept [r0, r0 + 1] w6 ((u2.drew.setCell ⟨r0 + 1, 4 + 1, none⟩ (.int .u64 (b + x.t : Nat))).setCell ⟨r0 + 1, 4, none⟩ (.int .u64 0)) := (kp2.drew.set (by simp) _).set (by simp) _
        generalize ((u2.drew.setCell ⟨r0 + 1, 4 + 1, none⟩ (.int .u64 (b + x.t : Nat))).setCell ⟨r0 + 1, 4, none⟩ (.int .u64 0)) = u3 at R3 S3 M3 kp3 ⊢
        clear R2 S2 M2 kp2 m0 m1 m2 m3 m4 m5 ml mf t0 t1 t2 t3 t4 t5 tl tf Mp2 Sp2
        have Mp3 := M3
        obtain ⟨ml, mf, m0, m1, m2, m3, m4, m5⟩ := Mp3.c6
        have Sp3 := S3
        obtain ⟨tl, tf, t0, t1, t2, t3, t4, t5⟩ := Sp3.c6
        have Rp3 := R3
        obtain ⟨yl, yf, y0, y1, y2, y3, y4, y5, y6, y7⟩ := Rp3.c8
        have qp : p ≤ 1000 := by rw [Hp.out]; exact Nat.le_trans (cntF_le _ _) (by simp; omega)
        have qq : q ≤ 1000 := by rw [Hq.out]; exact Nat.le_trans (cntF_le _ _) (by simp; omega)
        have wp : IntKind.i64.wrap ((p : Int) + 1) = (p : Int) + 1 := by rw [IntKind.wrap_i64]; omega
        have wq : IntKind.i64.wrap ((q : Int) + 1) = (q : Int) + 1 := by rw [IntKind.wrap_i64]; omega
        have zu := kp3.size
        go_wp2_with fail
        rw [rounds_succ]
        go_wp2_with fail
        go_roundw
        case rel => exact ⟨k + 1, p + 1, q, a + x.n, b + x.t, by omega, by go_num, by rw [Htk.out, cntF_snoc, ← Hp.out, hbk]; rfl, by rw [Htk.out, cntF_snoc, ← Hq.out, hbk]; rfl, by rw [Htk.out, accF_snoc, ← Ha.out, hbk]; first | (simp; done) | (simp; omega), by rw [Htk.out, accF_snoc, ← Hb.out, hbk]; first | (simp; done) | (simp; omega), R3.set 6 _, S3.far (by show r0 + 1 ≠ r0; omega) _, kp3.set (by simp) _⟩
        case measure => simp [intOf]; omega
      · rw [hbk] at M0 na nb
        simp only [if_true] at na nb
        have tb0 := tab3_0
        have tb1 := tab3_1
        have tb2 := tab3_2
        have Mp0 := M0
        obtain ⟨ml, mf, m0, m1, m2, m3, m4, m5⟩ := Mp0.c6
        have Sp0 := S0
        obtain ⟨tl, tf, t0, t1, t2, t3, t4, t5⟩ := Sp0.c6
        go_wp2_with fail
        refine wp_loop_rounds 4 ?_
        rw [rounds_succ]
        go_wp2_with fail
        refine AnyBut.region (S := fun w' => w'.cell? ⟨wr.heap.size, 2, none⟩ = some (.bool true)) (t := 99) 6 rfl (by kernel_rfl) m2 ?_
        intro hS
        refine AnyBut.tk0 0 hS rfl (h := ?_); refine AnyBut.tk0 1 hS rfl (h := ?_); refine AnyBut.tk0 2 hS rfl (h := ?_); refine AnyBut.tk0 3 hS rfl (h := ?_); refine AnyBut.tk0 4 hS rfl (h := ?_)
        clear hS
        refine AnyBut.one (i := 5) rfl (by kernel_rfl) rfl ?_; intro K hKK
        go_wp2_with fail
        refine (sum_sub (r0 + 1) 0 a x.n (by omega) (by omega) u0.drew t0 t1 (tf 0) (tf 1)).mono ?_
        rintro e w' ⟨rfl, rfl⟩
        have M1 : Block _ wr.heap.size 158 [.int .i64 x.id, .int .i64 x.day, .bool true, .int .i64 x.n, .int .i64 0, .int .i64 x.t] := (M0.drew.far (p := ⟨r0 + 1, 0 + 1, none⟩) (by show wr.heap.size ≠ r0 + 1; omega) (.int .u64 (a - x.n : Nat))).far (p := ⟨r0 + 1, 0, none⟩) (by show wr.heap.size ≠ r0 + 1; omega) (.int .u64 0)
        refine hKK _ _ (M1.cell 2) ?_
        intro hS
        clear hS hKK K
        refine AnyBut.done (by kernel_rfl) ?_
        have R1 : Block ((u0.drew.setCell ⟨r0 + 1, 0 + 1, none⟩ (.int .u64 (a - x.n : Nat))).setCell ⟨r0 + 1, 0, none⟩ (.int .u64 0)) r0 59 [.int .i64 7, .int .i64 1, .int .i64 0, .int .i64 0, .int .i64 0, .int .i64 0, .int .i64 p, .int .i64 q] := (R0.drew.far (by show r0 ≠ r0 + 1; omega) _).far (by show r0 ≠ r0 + 1; omega) _
        have S1 : Block ((u0.drew.setCell ⟨r0 + 1, 0 + 1, none⟩ (.int .u64 (a - x.n : Nat))).setCell ⟨r0 + 1, 0, none⟩ (.int .u64 0)) (r0 + 1) 154 [.int .u64 0, .int .u64 (a - x.n : Nat), .int .u64 0, .int .u64 0, .int .u64 0, .int .u64 b] := (S0.drew.set 1 _).set 0 _
        have kp1 : Kept [r0, r0 + 1] w6 ((u0.drew.setCell ⟨r0 + 1, 0 + 1, none⟩ (.int .u64 (a - x.n : Nat))).setCell ⟨r0 + 1, 0, none⟩ (.int .u64 0)) := (kp0.drew.set (by simp) _).set (by simp) _
        generalize ((u0.drew.setCell ⟨r0 + 1, 0 + 1, none⟩ (.int .u64 (a - x.n : Nat))).setCell ⟨r0 + 1, 0, none⟩ (.int .u64 0)) = u1 at R1 S1 M1 kp1 ⊢
        clear R0 S0 M0 kp0 m0 m1 m2 m3 m4 m5 ml mf t0 t1 t2 t3 t4 t5 tl tf Mp0 Sp0
        have Mp1 := M1
        obtain ⟨ml, mf, m0, m1, m2, m3, m4, m5⟩ := Mp1.c6
        have Sp1 := S1
        obtain ⟨tl, tf, t0, t1, t2, t3, t4, t5⟩ := Sp1.c6
        go_wp2_with fail
        rw [rounds_succ]
        go_wp2_with fail
        refine AnyBut.region (S := fun w' => w'.cell? ⟨wr.heap.size, 2, none⟩ = some (.bool true)) (t := 99) 6 rfl (by kernel_rfl) m2 ?_
        intro hS
        refine AnyBut.tk0 0 hS rfl (h := ?_); refine AnyBut.tk0 1 hS rfl (h := ?_); refine AnyBut.tk0 2 hS rfl (h := ?_); refine AnyBut.tk0 3 hS rfl (h := ?_); refine AnyBut.tk0 4 hS rfl (h := ?_)
        clear hS
        refine AnyBut.one (i := 5) rfl (by kernel_rfl) rfl ?_; intro K hKK
        go_wp2_with fail
        refine (sum_sub (r0 + 1) 2 0 0 (by omega) (by omega) u1.drew t2 t3 (tf 2) (tf 3)).mono ?_
        rintro e w' ⟨rfl, rfl⟩
        have M2 : Block _ wr.heap.size 158 [.int .i64 x.id, .int .i64 x.day, .bool true, .int .i64 x.n, .int .i64 0, .int .i64 x.t] := (M1.drew.far (p := ⟨r0 + 1, 2 + 1, none⟩) (by show wr.heap.size ≠ r0 + 1; omega) (.int .u64 (0 - 0 : Nat))).far (p := ⟨r0 + 1, 2, none⟩) (by show wr.heap.size ≠ r0 + 1; omega) (.int .u64 0)
        refine hKK _ _ (M2.cell 2) ?_
        intro hS
        clear hS hKK K
        refine AnyBut.done (by kernel_rfl) ?_
        have R2 : Block ((u1.drew.setCell ⟨r0 + 1, 2 + 1, none⟩ (.int .u64 (0 - 0 : Nat))).setCell ⟨r0 + 1, 2, none⟩ (.int .u64 0)) r0 59 [.int .i64 7, .int .i64 1, .int .i64 0, .int .i64 0, .int .i64 0, .int .i64 0, .int .i64 p, .int .i64 q] := (R1.drew.far (by show r0 ≠ r0 + 1; omega) _).far (by show r0 ≠ r0 + 1; omega) _
        have S2 : Block ((u1.drew.setCell ⟨r0 + 1, 2 + 1, none⟩ (.int .u64 (0 - 0 : Nat))).setCell ⟨r0 + 1, 2, none⟩ (.int .u64 0)) (r0 + 1) 154 [.int .u64 0, .int .u64 (a - x.n : Nat), .int .u64 0, .int .u64 0, .int .u64 0, .int .u64 b] := (S1.drew.set 3 _).set 2 _
        have kp2 : Kept [r0, r0 + 1] w6 ((u1.drew.setCell ⟨r0 + 1, 2 + 1, none⟩ (.int .u64 (0 - 0 : Nat))).setCell ⟨r0 + 1, 2, none⟩ (.int .u64 0)) := (kp1.drew.set (by simp) _).set (by simp) _
        generalize ((u1.drew.setCell ⟨r0 + 1, 2 + 1, none⟩ (.int .u64 (0 - 0 : Nat))).setCell ⟨r0 + 1, 2, none⟩ (.int .u64 0)) = u2 at R2 S2 M2 kp2 ⊢
        clear R1 S1 M1 kp1 m0 m1 m2 m3 m4 m5 ml mf t0 t1 t2 t3 t4 t5 tl tf Mp1 Sp1
        have Mp2 := M2
        obtain ⟨ml, mf, m0, m1, m2, m3, m4, m5⟩ := Mp2.c6
        have Sp2 := S2
        obtain ⟨tl, tf, t0, t1, t2, t3, t4, t5⟩ := Sp2.c6
        go_wp2_with fail
        rw [rounds_succ]
        go_wp2_with fail
        refine AnyBut.region (S := fun w' => w'.cell? ⟨wr.heap.size, 2, none⟩ = some (.bool true)) (t := 99) 6 rfl (by kernel_rfl) m2 ?_
        intro hS
        refine AnyBut.tk0 0 hS rfl (h := ?_); refine AnyBut.tk0 1 hS rfl (h := ?_); refine AnyBut.tk0 2 hS rfl (h := ?_); refine AnyBut.tk0 3 hS rfl (h := ?_); refine AnyBut.tk0 4 hS rfl (h := ?_)
        clear hS
        refine AnyBut.one (i := 5) rfl (by kernel_rfl) rfl ?_; intro K hKK
        go_wp2_with fail
        refine (sum_sub (r0 + 1) 4 b x.t (by omega) (by omega) u2.drew t4 t5 (tf 4) (tf 5)).mono ?_
        rintro e w' ⟨rfl, rfl⟩
        have M3 : Block _ wr.heap.size 158 [.int .i64 x.id, .int .i64 x.day, .bool true, .int .i64 x.n, .int .i64 0, .int .i64 x.t] := (M2.drew.far (p := ⟨r0 + 1, 4 + 1, none⟩) (by show wr.heap.size ≠ r0 + 1; omega) (.int .u64 (b - x.t : Nat))).far (p := ⟨r0 + 1, 4, none⟩) (by show wr.heap.size ≠ r0 + 1; omega) (.int .u64 0)
        refine hKK _ _ (M3.cell 2) ?_
        intro hS
        clear hS hKK K
        refine AnyBut.done (by kernel_rfl) ?_
        have R3 : Block ((u2.drew.setCell ⟨r0 + 1, 4 + 1, none⟩ (.int .u64 (b - x.t : Nat))).setCell ⟨r0 + 1, 4, none⟩ (.int .u64 0)) r0 59 [.int .i64 7, .int .i64 1, .int .i64 0, .int .i64 0, .int .i64 0, .int .i64 0, .int .i64 p, .int .i64 q] := (R2.drew.far (by show r0 ≠ r0 + 1; omega) _).far (by show r0 ≠ r0 + 1; omega) _
        have S3 : Block ((u2.drew.setCell ⟨r0 + 1, 4 + 1, none⟩ (.int .u64 (b - x.t : Nat))).setCell ⟨r0 + 1, 4, none⟩ (.int .u64 0)) (r0 + 1) 154 [.int .u64 0, .int .u64 (a - x.n : Nat), .int .u64 0, .int .u64 0, .int .u64 0, .int .u64 (b - x.t : Nat)] := (S2.drew.set 5 _).set 4 _
        have kp3 : Kept [r0, r0 + 1] w6 ((u2.drew.setCell ⟨r0 + 1, 4 + 1, none⟩ (.int .u64 (b - x.t : Nat))).setCell ⟨r0 + 1, 4, none⟩ (.int .u64 0)) := (kp2.drew.set (by simp) _).set (by simp) _
        generalize ((u2.drew.setCell ⟨r0 + 1, 4 + 1, none⟩ (.int .u64 (b - x.t : Nat))).setCell ⟨r0 + 1, 4, none⟩ (.int .u64 0)) = u3 at R3 S3 M3 kp3 ⊢
        clear R2 S2 M2 kp2 m0 m1 m2 m3 m4 m5 ml mf t0 t1 t2 t3 t4 t5 tl tf Mp2 Sp2
        have Mp3 := M3
        obtain ⟨ml, mf, m0, m1, m2, m3, m4, m5⟩ := Mp3.c6
        have Sp3 := S3
        obtain ⟨tl, tf, t0, t1, t2, t3, t4, t5⟩ := Sp3.c6
        have Rp3 := R3
        obtain ⟨yl, yf, y0, y1, y2, y3, y4, y5, y6, y7⟩ := Rp3.c8
        have qp : p ≤ 1000 := by rw [Hp.out]; exact Nat.le_trans (cntF_le _ _) (by simp; omega)
        have qq : q ≤ 1000 := by rw [Hq.out]; exact Nat.le_trans (cntF_le _ _) (by simp; omega)
        have wp : IntKind.i64.wrap ((p : Int) + 1) = (p : Int) + 1 := by rw [IntKind.wrap_i64]; omega
        have wq : IntKind.i64.wrap ((q : Int) + 1) = (q : Int) + 1 := by rw [IntKind.wrap_i64]; omega
        have zu := kp3.size
        go_wp2_with fail
        rw [rounds_succ]
        go_wp2_with fail
        go_roundw
        case rel => exact ⟨k + 1, p, q + 1, a - x.n, b - x.t, by omega, by go_num, by rw [Htk.out, cntF_snoc, ← Hp.out, hbk]; rfl, by rw [Htk.out, cntF_snoc, ← Hq.out, hbk]; rfl, by rw [Htk.out, accF_snoc, ← Ha.out, hbk]; first | (simp; done) | (simp; omega), by rw [Htk.out, accF_snoc, ← Hb.out, hbk]; first | (simp; done) | (simp; omega), R3.set 7 _, S3.far (by show r0 + 1 ≠ r0; omega) _, kp3.set (by simp) _⟩
        case measure => simp [intOf]; omega
    · have e1 : k = N := by omega
      subst e1
      have q1 : ¬ (k : Int) < (k : Int) := by omega
      have ht : L.take k = L := List.take_of_length_le (by rw [HN.out]; omega)
      have Hp1 := Hp.out
      have Hq1 := Hq.out
      have Ha1 := Ha.out
      have Hb1 := Hb.out
      rw [ht] at Hp1 Hq1 Ha1 Hb1
      have Gp := Lib.hid Hp1
      have Gq := Lib.hid Hq1
      have Ga := Lib.hid Ha1
      have Gb := Lib.hid Hb1
      clear Hp1 Hq1 Ha1 Hb1
      have tb0 := ptr3_0
      have tb1 := ptr3_1
      have tb2 := ptr3_2
      have X7 := X6.keptX kp (by simp; omega)
      have R0 := Rk
      have S0 := Sk
      have X0 := X7
      have b0 : Below w.heap.size w wr := bel7.trans (kp.below (by simp; omega) (by omega))
      have Sp0 := S0
      obtain ⟨tl, tf, t0, t1, t2, t3, t4, t5⟩ := Sp0.c6
      have Rp0 := R0
      obtain ⟨yl, yf, y0, y1, y2, y3, y4, y5, y6, y7⟩ := Rp0.c8
      go_wp2_with fail
      refine wp_loop_rounds 4 ?_
      rw [rounds_succ]
      go_wp2_with fail
      refine (sum_int a (by omega) _).mono ?_
      rintro e v0 ⟨rfl, hv0⟩
      have A0 := R0.call hv0
      have B0 := S0.call hv0
      have C0 := X0.call hv0
      have d0 := bel_call b0 hv0
      clear t0 t1 t2 t3 t4 t5 tl tf y0 y1 y2 y3 y4 y5 y6 y7 yl yf Sp0 Rp0 R0 S0 X0 b0 hv0
      have Ap0 := A0
      obtain ⟨yl, yf, y0, y1, y2, y3, y4, y5, y6, y7⟩ := Ap0.c8
      go_upto_region 35 with (fail)
      refine at_code (fun W => Block W r0 59 [.int .i64 7, .int .i64 1, .int .i64 0, .int .i64 a, .int .i64 0, .int .i64 0, .int .i64 p, .int .i64 q] ∧ Block W (r0 + 1) 154 [.int .u64 0, .int .u64 a, .int .u64 0, .int .u64 0, .int .u64 0, .int .u64 b] ∧ Block W w.heap.size 59 [.int .i64 0, .int .i64 0, .int .i64 0, .int .i64 0, .int .i64 0, .int .i64 0, .int .i64 0, .int .i64 0] ∧ Below w.heap.size w W) ⟨A0.set 3 _, B0.far (by show r0 + 1 ≠ r0; omega) _, C0.far (by show w.heap.size ≠ r0; omega) _, bel_set d0 (by show w.heap.size ≤ r0; omega) _⟩ ?_
      clear A0 B0 C0 d0 Ap0 y0 y1 y2 y3 y4 y5 y6 y7 yl yf
      rintro x0 ⟨R1, S1, X1, b1⟩
      have Sp1 := S1
      obtain ⟨tl, tf, t0, t1, t2, t3, t4, t5⟩ := Sp1.c6
      have Rp1 := R1
      obtain ⟨yl, yf, y0, y1, y2, y3, y4, y5, y6, y7⟩ := Rp1.c8
      go_wp2_with fail
      rw [rounds_succ]
      go_wp2_with fail
      refine (sum_int 0 (by omega) _).mono ?_
      rintro e v1 ⟨rfl, hv1⟩
      have A1 := R1.call hv1
      have B1 := S1.call hv1
      have C1 := X1.call hv1
      have d1 := bel_call b1 hv1
      clear t0 t1 t2 t3 t4 t5 tl tf y0 y1 y2 y3 y4 y5 y6 y7 yl yf Sp1 Rp1 R1 S1 X1 b1 hv1
      have Ap1 := A1
      obtain ⟨yl, yf, y0, y1, y2, y3, y4, y5, y6, y7⟩ := Ap1.c8
      go_upto_region 35 with (fail)
      refine at_code (fun W => Block W r0 59 [.int .i64 7, .int .i64 1, .int .i64 0, .int .i64 a, .int .i64 0, .int .i64 0, .int .i64 p, .int .i64 q] ∧ Block W (r0 + 1) 154 [.int .u64 0, .int .u64 a, .int .u64 0, .int .u64 0, .int .u64 0, .int .u64 b] ∧ Block W w.heap.size 59 [.int .i64 0, .int .i64 0, .int .i64 0, .int .i64 0, .int .i64 0, .int .i64 0, .int .i64 0, .int .i64 0] ∧ Below w.heap.size w W) ⟨A1.set 4 _, B1.far (by show r0 + 1 ≠ r0; omega) _, C1.far (by show w.heap.size ≠ r0; omega) _, bel_set d1 (by show w.heap.size ≤ r0; omega) _⟩ ?_
      clear A1 B1 C1 d1 Ap1 y0 y1 y2 y3 y4 y5 y6 y7 yl yf
      rintro x1 ⟨R2, S2, X2, b2⟩
      have Sp2 := S2
      obtain ⟨tl, tf, t0, t1, t2, t3, t4, t5⟩ := Sp2.c6
      have Rp2 := R2
      obtain ⟨yl, yf, y0, y1, y2, y3, y4, y5, y6, y7⟩ := Rp2.c8
      go_wp2_with fail
      rw [rounds_succ]
      go_wp2_with fail
      refine (sum_int b (by omega) _).mono ?_
      rintro e v2 ⟨rfl, hv2⟩
      have A2 := R2.call hv2
      have B2 := S2.call hv2
      have C2 := X2.call hv2
      have d2 := bel_call b2 hv2
      clear t0 t1 t2 t3 t4 t5 tl tf y0 y1 y2 y3 y4 y5 y6 y7 yl yf Sp2 Rp2 R2 S2 X2 b2 hv2
      have Ap2 := A2
      obtain ⟨yl, yf, y0, y1, y2, y3, y4, y5, y6, y7⟩ := Ap2.c8
      go_upto_region 35 with (fail)
      refine at_code (fun W => Block W r0 59 [.int .i64 7, .int .i64 1, .int .i64 0, .int .i64 a, .int .i64 0, .int .i64 b, .int .i64 p, .int .i64 q] ∧ Block W (r0 + 1) 154 [.int .u64 0, .int .u64 a, .int .u64 0, .int .u64 0, .int .u64 0, .int .u64 b] ∧ Block W w.heap.size 59 [.int .i64 0, .int .i64 0, .int .i64 0, .int .i64 0, .int .i64 0, .int .i64 0, .int .i64 0, .int .i64 0] ∧ Below w.heap.size w W) ⟨A2.set 5 _, B2.far (by show r0 + 1 ≠ r0; omega) _, C2.far (by show w.heap.size ≠ r0; omega) _, bel_set d2 (by show w.heap.size ≤ r0; omega) _⟩ ?_
      clear A2 B2 C2 d2 Ap2 y0 y1 y2 y3 y4 y5 y6 y7 yl yf
      rintro x2 ⟨R3, S3, X3, b3⟩
      have Rp3 := R3
      obtain ⟨yl, yf, y0, y1, y2, y3, y4, y5, y6, y7⟩ := Rp3.c8
      have Xp3 := X3
      obtain ⟨tl, tf, t0, t1, t2, t3, t4, t5, t6, t7⟩ := Xp3.c8
      go_wp2_with fail
      rw [rounds_succ]
      go_wp2_with fail
      refine ret_ct (b := w.heap.size) (T := 59) (t := 59) (cs := [.int .i64 7, .int .i64 1, .int .i64 0, .int .i64 a, .int .i64 0, .int .i64 b, .int .i64 p, .int .i64 q]) rfl rfl rfl ((((((((X3.set 0 _).set 1 _).set 2 _).set 3 _).set 4 _).set 5 _).set 6 _).set 7 _) agg_rep size_rep ?_
      refine ⟨?_, by exact sBel⟩
      rw [← Gp.out, ← Gq.out, ← Ga.out, ← Gb.out]
      rfl
end Go.Proofs.YthmhdaefkhcenaaGreatDoor
