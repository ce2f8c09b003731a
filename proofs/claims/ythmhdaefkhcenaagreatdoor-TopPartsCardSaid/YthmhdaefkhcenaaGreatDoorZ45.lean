/- Lemmas for it; no condition: TBook TBook2 TBook3 TDsk2. -/
import Derived.Test.YthmhdaefkhcenaaGreatDoorZ08
import Derived.Test.YthmhdaefkhcenaaGreatDoorZ14
import Derived.Test.YthmhdaefkhcenaaGreatDoorZ37
import Derived.Test.YthmhdaefkhcenaaGreatDoorZ43
import Derived.Test.YthmhdaefkhcenaaGreatDoorZ44
import Derived.MapKept
set_option linter.unusedVariables false
set_option linter.unusedSimpArgs false
namespace Go.Proofs.YthmhdaefkhcenaaGreatDoor
set_option maxRecDepth 100000
set_option maxHeartbeats 8000000
open Go.RowKit Go.Lib Go.MapKept

def bEs : List (Int × Nat) → Nat → List MapEntry
  | [], _ => []
  | p :: l, c => mEnt (.int .i64 p.1) (.pointer (some ⟨p.2, 0, none⟩)) c :: bEs l (c + 1)
theorem bEs_append (l : List (Int × Nat)) (p : Int × Nat) : ∀ c, bEs (l ++ [p]) c = bEs l c ++ [mEnt (.int .i64 p.1) (.pointer (some ⟨p.2, 0, none⟩)) (c + l.length)] := by
  induction l with
  | nil => intro c; rfl
  | cons q l ih =>
    intro c
    simp only [List.cons_append, bEs, ih, List.length_cons]
    rw [show c + 1 + l.length = c + (l.length + 1) by omega]
theorem find_miss (x : Int) (l : List (Int × Nat)) (h : ∀ p ∈ l, p.1 ≠ x) : ∀ c i, Instr.findNow (.int .i64) (.int .i64 x) (bEs l c) i = some none := by
  induction l with
  | nil => intro c i; rfl
  | cons p l ih =>
    intro c i
    have hp := h p (by simp)
    have e : Instr.sameNow (.int .i64) (.int .i64 x) (.int .i64 p.1) = some false := by
      simp [Instr.sameNow]
      exact fun e => hp e.symm
    simp only [bEs, Instr.findNow, mEnt, e]
    exact ih (fun q hq => h q (by simp [hq])) _ _
theorem find_hit (x : Int) (b : Nat) (l : List (Int × Nat)) (h : (x, b) ∈ l) (hd : (l.map Prod.fst).Nodup) : ∀ c i, ∃ k, Instr.findNow (.int .i64) (.int .i64 x) (bEs l c) i = some (some (k, .pointer (some ⟨b, 0, none⟩))) := by
  induction l with
  | nil => cases h
  | cons p l ih =>
    intro c i
    rw [List.map_cons, List.nodup_cons] at hd
    rcases List.mem_cons.1 h with rfl | h
    · refine ⟨i, ?_⟩
      have e : Instr.sameNow (.int .i64) (.int .i64 x) (.int .i64 x) = some true := by simp [Instr.sameNow]
      simp only [bEs, Instr.findNow, mEnt, e]
    · have hne : p.1 ≠ x := fun e => hd.1 (by rw [e]; exact List.mem_map.2 ⟨(x, b), h, rfl⟩)
      have e : Instr.sameNow (.int .i64) (.int .i64 x) (.int .i64 p.1) = some false := by
        simp [Instr.sameNow]
        exact fun e => hne e.symm
      obtain ⟨k, hk⟩ := ih h hd.2 (c + 1) (i + 1)
      refine ⟨k, ?_⟩
      simp only [bEs, Instr.findNow, mEnt, e]
      exact hk
theorem ck_int (x : Int) (b : Bool) (w : World) : (Instr.checkKey b 10000 3 (.int .i64 x)).run Tryz.prog w = .ok () w := run_checkKey (n := 9999) Tryz.underlying3 (by simp [IsKey]) b
theorem zero_kept (w : World) : (zeroValue 206).run Tryz.prog w = .ok (.pointer none) w := by kernel_rfl
section
variable {w : World} {m : Nat} {l : List (Int × Nat)} {x : Int} {b : Nat}
theorem book_miss (h : MapAt w m (bEs l 0) l.length) (hx : ∀ p ∈ l, p.1 ≠ x) : (Instr.lookup 135 (.map (some m)) (.int .i64 x) true).run Tryz.prog w = .ok (.tuple #[.pointer none, .bool false]) w :=
  look_miss h Tryz.underlying135 (ck_int x _) (fun _ => run_findKey Tryz.underlying3 (find_miss x l hx 0 0)) zero_kept
theorem book_miss1 (h : MapAt w m (bEs l 0) l.length) (hx : ∀ p ∈ l, p.1 ≠ x) : (Instr.lookup 135 (.map (some m)) (.int .i64 x) false).run Tryz.prog w = .ok (.pointer none) w :=
  look_miss1 h Tryz.underlying135 (ck_int x _) (fun _ => run_findKey Tryz.underlying3 (find_miss x l hx 0 0)) zero_kept
theorem book_hit (h : MapAt w m (bEs l 0) l.length) (hx : (x, b) ∈ l) (hd : (l.map Prod.fst).Nodup) : (Instr.lookup 135 (.map (some m)) (.int .i64 x) true).run Tryz.prog w = .ok (.tuple #[.pointer (some ⟨b, 0, none⟩), .bool true]) w := by
  obtain ⟨k, hk⟩ := find_hit x b l hx hd 0 0
  exact look_hit h Tryz.underlying135 (ck_int x _) (fun _ => run_findKey Tryz.underlying3 hk)
theorem book_hit1 (h : MapAt w m (bEs l 0) l.length) (hx : (x, b) ∈ l) (hd : (l.map Prod.fst).Nodup) : (Instr.lookup 135 (.map (some m)) (.int .i64 x) false).run Tryz.prog w = .ok (.pointer (some ⟨b, 0, none⟩)) w := by
  obtain ⟨k, hk⟩ := find_hit x b l hx hd 0 0
  exact look_hit1 h Tryz.underlying135 (ck_int x _) (fun _ => run_findKey Tryz.underlying3 hk)
theorem book_upd (h : MapAt w m (bEs l 0) l.length) (hx : ∀ p ∈ l, p.1 ≠ x) : ∃ w', (Instr.mapUpdate 135 (.map (some m)) (.int .i64 x) (.pointer (some ⟨b, 0, none⟩))).run Tryz.prog w = .ok () w' ∧ MapAt w' m (bEs (l ++ [(x, b)]) 0) (l ++ [(x, b)]).length ∧ w.grownBy w' (some m) := by
  obtain ⟨w', h1, h2, h3⟩ := upd_new (val := .pointer (some ⟨b, 0, none⟩)) h Tryz.underlying135 (ck_int x _) (fun _ => run_findKey Tryz.underlying3 (find_miss x l hx 0 0))
  refine ⟨w', h1, ?_, h3⟩
  rw [bEs_append, List.length_append]
  simpa using h2
end
theorem clone_tl (b c n r t : Nat) (w : World) (h : Has w b (tlV n r t)) : Calls Tryz.prog 95 #[.slice (some ⟨b, 0, none⟩) 1 c] w fun e w' => ∃ g c', e = .returned (.slice (some ⟨g, 0, none⟩) 1 c') ∧ w.heap.size ≤ g ∧ 1 ≤ c' ∧ Has w' g (tlV n r t) ∧ Below w.heap.size w w' := by
  have hl := h.lt
  have hq : ∀ w, (binOp .eql 41 (.slice (some ⟨b, 0, none⟩) 1 c) (.slice none 0 0)).run Tryz.prog w = .ok (.bool false) w := fun _ => by kernel_rfl
  go_enter Tryz.func95, Tryz.ntmps95
  go_wp2_with (at_builtin; refine wpList_append_over rfl _ _ 41 rfl 52 _ 6 48 Tryz.underlying41 info_tl rfl w.heap.size 0 0 0 [] b 0 1 c (tlV n r t) rfl rfl rfl (by intro j v hj; simp at hj) rfl (by intro j v hj; rw [Nat.zero_add]; exact (h.alloc _).cell hj) (by omega) (by unfold maxLen; omega) (by omega) ?_; intro J k hJ hk)
  go_returns
  exact ⟨w.heap.size + 1, 0 + 1 + k, by first | rfl | simp, by omega, by omega, (has_top (news := tlV n r t) (by simp)).drew, by exact sBel⟩
theorem clone_tl0 (w : World) : Calls Tryz.prog 95 #[.slice none 0 0] w fun e w' => e = .returned (.slice none 0 0) ∧ Below w.heap.size w w' := by
  have hq : ∀ w, (binOp .eql 41 (.slice none 0 0) (.slice none 0 0)).run Tryz.prog w = .ok (.bool true) w := fun _ => by kernel_rfl
  go_enter Tryz.func95, Tryz.ntmps95
  go_wp2
  go_returns
  exact ⟨rfl, by exact sBel⟩
end Go.Proofs.YthmhdaefkhcenaaGreatDoor
namespace Go.Proofs.YthmhdaefkhcenaaGreatDoor
set_option maxRecDepth 100000
set_option maxHeartbeats 8000000
open Go.RowKit Go.Lib

def keptS (id ds : Int) (ab ac tb tc gb gc : Nat) : List Value := [.int .i64 1, .int .i64 id, .int .i64 0, .int .i64 ds, .slice (some ⟨ab, 0, none⟩) 1 ac, .slice (some ⟨tb, 0, none⟩) 1 tc, .slice (some ⟨tb, 0, none⟩) 1 tc, .slice (some ⟨gb, 0, none⟩) 1 gc, .bool false]
def keptR (id of day : Int) (ab ac lb lc : Nat) : List Value := [.int .i64 2, .int .i64 id, .int .i64 of, .int .i64 day, .slice (some ⟨ab, 0, none⟩) 1 ac, .slice none 0 0, .slice (some ⟨lb, 0, none⟩) 1 lc, .slice none 0 0, .bool false]
theorem kept_ne (kb : Nat) (w : World) : (binOp .eql 206 (.pointer (some ⟨kb, 0, none⟩)) (.pointer none)).run Tryz.prog w = .ok (.bool false) w := by kernel_rfl
theorem bookp_ne (bb : Nat) (w : World) : (binOp .eql 95 (.pointer (some ⟨bb, 0, none⟩)) (.pointer none)).run Tryz.prog w = .ok (.bool false) w := by kernel_rfl
theorem mapp_ne (m : Nat) (w : World) : (binOp .eql 135 (.map (some m)) (.map none)).run Tryz.prog w = .ok (.bool false) w := by kernel_rfl
theorem none_book (bb m : Nat) (ids : Value) (w : World) (hB : Block w bb 137 [ids, .map (some m)]) : Calls Tryz.prog 93 #[.pointer (some ⟨bb, 0, none⟩)] w fun e w' => e = .returned (.bool false) ∧ Below w.heap.size w w' := by
  have h1 := bookp_ne bb
  have h2 := mapp_ne m
  obtain ⟨kl, kf, k0, k1⟩ := hB.c2
  go_enter Tryz.func93, Tryz.ntmps93
  go_wp2
  go_returns
  exact ⟨rfl, by exact sBel⟩
theorem lines_book (bb m kb lb lc n r t : Nat) (ids : Value) (l : List (Int × Nat)) (x : Int) (cs : List Value) (w : World) (hB : Block w bb 137 [ids, .map (some m)]) (hM : MapAt w m (bEs l 0) l.length) (hx : (x, kb) ∈ l) (hd : (l.map Prod.fst).Nodup)
    (hK : Block w kb 208 cs) (h6 : cs[6]? = some (.slice (some ⟨lb, 0, none⟩) 1 lc)) (hL : Has w lb (tlV n r t)) :
    Calls Tryz.prog 96 #[.pointer (some ⟨bb, 0, none⟩), .int .i64 x] w fun e w' => ∃ g c', e = .returned (.slice (some ⟨g, 0, none⟩) 1 c') ∧ w.heap.size ≤ g ∧ 1 ≤ c' ∧ Has w' g (tlV n r t) ∧ Below w.heap.size w w' := by
  have h1 := kept_ne kb
  go_enter Tryz.func96, Tryz.ntmps96
  go_wp2_with fail
  refine (none_book bb m ids w hB).mono ?_
  rintro e w1 ⟨rfl, hb1⟩
  have B1 := hB.call hb1
  have M1 := hM.call hb1
  have K1 := hK.call hb1
  have L1 := hL.call hb1
  have k6 : w1.cell? ⟨kb, 6, none⟩ = some (.slice (some ⟨lb, 0, none⟩) 1 lc) := (K1.cell 6).trans h6
  obtain ⟨kl, kf, k0, k1⟩ := B1.c2
  have hlk := book_hit1 M1 hx hd
  go_wp2_with fail
  refine (clone_tl lb lc n r t w1 L1).mono ?_
  rintro e w2 ⟨g, c', rfl, hg, hc, hG, hb2⟩
  go_wp2_with fail
  go_returns
  exact ⟨g, c', rfl, Nat.le_trans hb1.size hg, hc, hG, bel_call hb1 hb2⟩
theorem sale_book (bb m kb : Nat) (ids : Value) (l : List (Int × Nat)) (x : Int) (cs : List Value) (w : World) (hB : Block w bb 137 [ids, .map (some m)]) (hM : MapAt w m (bEs l 0) l.length) (hx : (x, kb) ∈ l) (hd : (l.map Prod.fst).Nodup)
    (hK : Block w kb 208 cs) (h0 : cs[0]? = some (.int .i64 1)) :
    Calls Tryz.prog 110 #[.pointer (some ⟨bb, 0, none⟩), .int .i64 x] w fun e w' => e = .returned (.pointer (some ⟨kb, 0, none⟩)) ∧ Below w.heap.size w w' := by
  go_enter Tryz.func110, Tryz.ntmps110
  go_wp2_with fail
  refine (none_book bb m ids w hB).mono ?_
  rintro e w1 ⟨rfl, hb1⟩
  have B1 := hB.call hb1
  have M1 := hM.call hb1
  have K1 := hK.call hb1
  have k9 : w1.cell? ⟨kb, 0, none⟩ = some (.int .i64 1) := (K1.cell 0).trans h0
  obtain ⟨kl, kf, k0, k1⟩ := B1.c2
  go_wp2_with (at_lookup; refine wpList_lookup_eq rfl rfl rfl rfl (book_hit M1 hx hd) ?_)
  go_returns
  exact ⟨rfl, hb1⟩
theorem may_ref (bb m kb : Nat) (ids : Value) (l : List (Int × Nat)) (id of day ds : Int) (ab ac sb sc tb tc gb gc n x back : Nat) (w : World) (hB : Block w bb 137 [ids, .map (some m)]) (hM : MapAt w m (bEs l 0) l.length) (hx : (of, kb) ∈ l) (hd : (l.map Prod.fst).Nodup)
    (hK : Block w kb 208 (keptS of ds sb sc tb tc gb gc)) (hS : Has w sb [.int .i64 n]) (hG : Has w gb [.int .i64 back]) (hA : Has w ab [.int .i64 x]) (hds : ds ≤ day) (hbn : back ≤ n) (hn : n ≤ 1073741824) (hx2 : x ≤ 2147483648) (b : Bool) (hb : b = decide (n < back + x)) :
    Calls Tryz.prog 102 #[.agg (refC id of day ab ac).toArray, .pointer (some ⟨bb, 0, none⟩)] w fun e w' => e = .returned (.int .i64 (if b then 5 else 0)) ∧ Below w.heap.size w w' := by
  have h1 := kept_ne kb
  have q1 : ¬ day < ds := by omega
  go_enter Tryz.func102, Tryz.ntmps102
  simp only [refC]
  go_wp2_with fail
  refine (sale_book bb m kb ids l of _ _ (hB.alloc _) (hM.alloc _) hx hd (hK.alloc _) rfl).mono ?_
  rintro e w1 ⟨rfl, hb1⟩
  have bel1 : Below w.heap.size w w1 := bel_call (by exact sBel) hb1
  have X1 : Block w1 w.heap.size 217 [.int .i64 2, .int .i64 id, .int .i64 of, .int .i64 day, .slice (some ⟨ab, 0, none⟩) 1 ac, .slice none 0 0] := Block.call (by exact sBlk) hb1
  have K1 := hK.call bel1
  have S1 := hS.call bel1
  have G1 := hG.call bel1
  have A1 := hA.call bel1
  unfold keptS at K1
  obtain ⟨xl, xf, x0, x1, x2, x3, x4, x5⟩ := X1.c6
  obtain ⟨kl, kf, k0, k1, k2, k3, k4, k5, k6, k7, k8⟩ := K1.c9
  have sl := S1.lt; have s0 := S1.cell (j := 0) rfl
  have gl := G1.lt; have g0 := G1.cell (j := 0) rfl
  have al := A1.lt; have a0 := A1.cell (j := 0) rfl
  clear hb1
  go_wp2_with fail
  go_quiet (fail)
  go_wp2_with fail
  refine at_code (fun W => Below w1.heap.size w1 W) (by exact sBel) ?_
  rintro w2 hb2
  have X2 := X1.call hb2
  have K2 := K1.call hb2
  have S2 := S1.call hb2
  have G2 := G1.call hb2
  have A2 := A1.call hb2
  have bel2 := bel_call bel1 hb2
  clear x0 x1 x2 x3 x4 x5 xl xf k0 k1 k2 k3 k4 k5 k6 k7 k8 kl kf s0 sl g0 gl a0 al X1 K1 S1 G1 A1 hb2
  obtain ⟨kl, kf, k0, k1, k2, k3, k4, k5, k6, k7, k8⟩ := K2.c9
  have sl := S2.lt; have s0 := S2.cell (j := 0) rfl
  have gl := G2.lt; have g0 := G2.cell (j := 0) rfl
  have al := A2.lt; have a0 := A2.cell (j := 0) rfl
  refine wp_loop_rounds 2 ?_
  rw [rounds_succ]
  by_cases hc : n < back + x
  · have q2 : (n : Int) - back < x := by omega
    obtain rfl : b = true := by rw [hb]; simpa using hc
    clear hb hc
    go_wp2_with fail
    go_quiet (fail)
    go_wp2_with fail
    exact ret_t rfl rfl rfl ⟨rfl, by exact sBel⟩
  · have q2 : (x : Int) ≤ (n : Int) - back := by omega
    obtain rfl : b = false := by rw [hb]; simpa using hc
    clear hb hc
    go_wp2_with fail
    go_quiet (fail)
    go_wp2_with fail
    rw [rounds_succ]
    go_wp2_with fail
    exact ret_t rfl rfl rfl ⟨rfl, by exact sBel⟩
theorem ta_sr (v : Value) (w : World) : (Instr.typeAssert (.iface 224 v) 214 217 true).run Tryz.prog w = .ok (.tuple #[.agg #[.int .i64 0, .int .i64 0, .int .i64 0, .int .i64 0, .slice none 0 0, .slice none 0 0], .bool false]) w := by kernel_rfl
theorem ta_sv (v : Value) (w : World) : (Instr.typeAssert (.iface 224 v) 214 219 true).run Tryz.prog w = .ok (.tuple #[.agg #[.int .i64 0, .int .i64 0, .int .i64 0, .int .i64 0, .slice none 0 0, .slice none 0 0], .bool false]) w := by kernel_rfl
theorem ta_ss (v : Value) (w : World) : (Instr.typeAssert (.iface 224 v) 214 224 true).run Tryz.prog w = .ok (.tuple #[v, .bool true]) w := by kernel_rfl
theorem ta_rs (v : Value) (w : World) : (Instr.typeAssert (.iface 217 v) 214 224 true).run Tryz.prog w = .ok (.tuple #[.agg #[.int .i64 0, .int .i64 0, .int .i64 0, .int .i64 0, .slice none 0 0, .slice none 0 0], .bool false]) w := by kernel_rfl
theorem ta_rr (v : Value) (w : World) : (Instr.typeAssert (.iface 217 v) 214 217 true).run Tryz.prog w = .ok (.tuple #[v, .bool true]) w := by kernel_rfl
theorem may_sale (bb m : Nat) (ids : Value) (l : List (Int × Nat)) (id day : Int) (ab ac tb tc n r t : Nat) (hid0 : 1 ≤ id) (hid1 : id ≤ 1099511627775) (hd0 : 0 ≤ day) (hd1 : day ≤ 3652058) (hn : n ≤ 4611686018427387904) (hr : r ≤ 1000000) (ht : t ≤ 4611686018427387904) (w : World) (hA : Has w ab [.int .i64 n]) (hT : Has w tb (tlV n r t))
    (hB : Block w bb 137 [ids, .map (some m)]) (hM : MapAt w m (bEs l 0) l.length) (hx : ∀ p ∈ l, p.1 ≠ id) :
    Calls Tryz.prog 49 #[.pointer (some ⟨bb, 0, none⟩), .agg (saleC id day ab ac tb tc).toArray] w fun e w' => e = .returned (.int .i64 0) ∧ Below w.heap.size w w' := by
  go_enter Tryz.func49, Tryz.ntmps49
  simp only [saleC]
  go_wp2_with fail
  refine (none_book bb m ids _ (hB.alloc _)).mono ?_
  rintro e w1 ⟨rfl, hb1⟩
  have bel1 : Below w.heap.size w w1 := bel_call (by exact sBel) hb1
  have X1 : Block w1 w.heap.size 88 [.int .i64 1, .int .i64 id, .int .i64 0, .int .i64 day, .slice (some ⟨ab, 0, none⟩) 1 ac, .slice (some ⟨tb, 0, none⟩) 1 tc] := Block.call (by exact sBlk) hb1
  clear hb1
  have Xp := X1
  obtain ⟨xl, xf, x0, x1, x2, x3, x4, x5⟩ := Xp.c6
  go_wp2_with fail
  refine (check_sale id day ab ac tb tc n r t hid0 hid1 hd0 hd1 hn hr ht _ (hA.call bel1) (hT.call bel1)).mono ?_
  rintro e w2 ⟨rfl, hb2⟩
  have bel2 := bel_call bel1 hb2
  have X2 := X1.call hb2
  have B2 := hB.call bel2
  have hlk := book_miss (hM.call bel2) hx
  clear x0 x1 x2 x3 x4 x5 xl xf Xp X1 hb2
  have Xp := X2
  obtain ⟨xl, xf, x0, x1, x2, x3, x4, x5⟩ := Xp.c6
  obtain ⟨kl, kf, k0, k1⟩ := B2.c2
  go_wp2_with fail
  refine AnyBut.region (S := fun w' => w'.cell? ⟨bb, 1, none⟩ = some (.map (some m)) ∧ w'.cell? ⟨w.heap.size, 1, none⟩ = some (.int .i64 id) ∧ (Instr.lookup 135 (.map (some m)) (.int .i64 id) true).run Tryz.prog w' = .ok (.tuple #[.pointer none, .bool false]) w') (t := 99) 12 rfl (by kernel_rfl) ?_ ?_
  · exact ⟨k1, x1, book_miss (MapAt.drew (hM.call bel2)) hx⟩
  intro hS
  refine AnyBut.tk0 0 hS rfl (h := ?_); refine AnyBut.tk0 1 hS rfl (h := ?_); refine AnyBut.tk0 2 hS rfl (h := ?_); refine AnyBut.tk0 3 hS rfl (h := ?_); refine AnyBut.tk0 4 hS rfl (h := ?_); refine AnyBut.tk0 5 hS rfl (h := ?_); refine AnyBut.tk0 6 hS rfl (h := ?_); refine AnyBut.tk0 7 hS rfl (h := ?_); refine AnyBut.tk0 8 hS rfl (h := ?_); refine AnyBut.tk0 9 hS rfl (h := ?_)
  (refine AnyBut.one (i := 10) rfl (by kernel_rfl) rfl ?_; intro K hK; go_simp; refine hK _ _ hS ?_; clear hK K; intro _); (refine AnyBut.one (i := 11) rfl (by kernel_rfl) rfl ?_; intro K hK; go_simp; refine hK _ _ hS ?_; clear hK K; intro _)
  refine AnyBut.done (by kernel_rfl) ?_
  clear hS
  have t1 := ta_sr
  have t2 := ta_sv
  go_wp2_with fail
  refine (of_sale id day ab ac tb tc _).mono ?_
  rintro e w3 ⟨rfl, hb3⟩
  have bel3 : Below w.heap.size w w3 := bel_call bel2 (bel_call (by exact sBel) hb3)
  simp only [saleC]
  go_wp2_with fail
  exact ret_t rfl rfl rfl ⟨rfl, by exact sBel⟩
theorem may_refund (bb m kb : Nat) (ids : Value) (l : List (Int × Nat)) (id of day ds : Int) (ab ac sb sc tb tc gb gc n x back : Nat) (hid0 : 1 ≤ id) (hid1 : id ≤ 1099511627775) (hof0 : 1 ≤ of) (hof1 : of ≤ 1099511627775) (hd0 : 0 ≤ day) (hd1 : day ≤ 3652058) (hn0 : x ≠ 0) (w : World)
    (hB : Block w bb 137 [ids, .map (some m)]) (hM : MapAt w m (bEs l 0) l.length) (hx : (of, kb) ∈ l) (hd : (l.map Prod.fst).Nodup) (hid : ∀ p ∈ l, p.1 ≠ id)
    (hK : Block w kb 208 (keptS of ds sb sc tb tc gb gc)) (hS : Has w sb [.int .i64 n]) (hG : Has w gb [.int .i64 back]) (hA : Has w ab [.int .i64 x]) (hds : ds ≤ day) (hbn : back ≤ n) (hn : n ≤ 1073741824) (hx2 : x ≤ 2147483648) (b : Bool) (hb : b = decide (n < back + x)) :
    Calls Tryz.prog 49 #[.pointer (some ⟨bb, 0, none⟩), .agg (refC id of day ab ac).toArray] w fun e w' => e = .returned (.int .i64 (if b then 5 else 0)) ∧ Below w.heap.size w w' := by
  go_enter Tryz.func49, Tryz.ntmps49
  simp only [refC]
  go_wp2_with fail
  refine (none_book bb m ids _ (hB.alloc _)).mono ?_
  rintro e w1 ⟨rfl, hb1⟩
  have bel1 : Below w.heap.size w w1 := bel_call (by exact sBel) hb1
  have X1 : Block w1 w.heap.size 88 [.int .i64 2, .int .i64 id, .int .i64 of, .int .i64 day, .slice (some ⟨ab, 0, none⟩) 1 ac, .slice none 0 0] := Block.call (by exact sBlk) hb1
  clear hb1
  have Xp := X1
  obtain ⟨xl, xf, x0, x1, x2, x3, x4, x5⟩ := Xp.c6
  go_wp2_with fail
  refine (check_ref id of day ab ac x hid0 hid1 hof0 hof1 hd0 hd1 hn0 (by omega) _ (hA.call bel1)).mono ?_
  rintro e w2 ⟨rfl, hb2⟩
  have bel2 := bel_call bel1 hb2
  have X2 := X1.call hb2
  have B2 := hB.call bel2
  clear x0 x1 x2 x3 x4 x5 xl xf Xp X1 hb2
  have Xp := X2
  obtain ⟨xl, xf, x0, x1, x2, x3, x4, x5⟩ := Xp.c6
  obtain ⟨kl, kf, k0, k1⟩ := B2.c2
  go_wp2_with fail
  refine AnyBut.region (S := fun w' => w'.cell? ⟨bb, 1, none⟩ = some (.map (some m)) ∧ w'.cell? ⟨w.heap.size, 1, none⟩ = some (.int .i64 id) ∧ (Instr.lookup 135 (.map (some m)) (.int .i64 id) true).run Tryz.prog w' = .ok (.tuple #[.pointer none, .bool false]) w') (t := 99) 12 rfl (by kernel_rfl) ?_ ?_
  · exact ⟨k1, x1, book_miss (MapAt.drew (hM.call bel2)) hid⟩
  have hSb := hS
  clear hS
  intro hS
  refine AnyBut.tk0 0 hS rfl (h := ?_); refine AnyBut.tk0 1 hS rfl (h := ?_); refine AnyBut.tk0 2 hS rfl (h := ?_); refine AnyBut.tk0 3 hS rfl (h := ?_); refine AnyBut.tk0 4 hS rfl (h := ?_); refine AnyBut.tk0 5 hS rfl (h := ?_); refine AnyBut.tk0 6 hS rfl (h := ?_); refine AnyBut.tk0 7 hS rfl (h := ?_); refine AnyBut.tk0 8 hS rfl (h := ?_); refine AnyBut.tk0 9 hS rfl (h := ?_)
  (refine AnyBut.one (i := 10) rfl (by kernel_rfl) rfl ?_; intro K hK; go_simp; refine hK _ _ hS ?_; clear hK K; intro _); (refine AnyBut.one (i := 11) rfl (by kernel_rfl) rfl ?_; intro K hK; go_simp; refine hK _ _ hS ?_; clear hK K; intro _)
  refine AnyBut.done (by kernel_rfl) ?_
  clear hS
  have t1 := ta_rr
  go_wp2_with fail
  refine (of_ref id of day ab ac _).mono ?_
  rintro e w3 ⟨rfl, hb3⟩
  have bel3 : Below w.heap.size w w3 := bel_call bel2 (bel_call (by exact sBel) hb3)
  clear x0 x1 x2 x3 x4 x5 xl xf Xp X2 k0 k1 kl kf B2 hb3
  simp only [refC]
  go_wp2_with fail
  refine (may_ref bb m kb ids l id of day ds ab ac sb sc tb tc gb gc n x back _ ((hB.call bel3).alloc _) ((hM.call bel3).alloc _) hx hd ((hK.call bel3).alloc _) ((hSb.call bel3).alloc _) ((hG.call bel3).alloc _) ((hA.call bel3).alloc _) hds hbn hn hx2 b hb).mono ?_
  rintro e w4 ⟨rfl, hb4⟩
  have bel4 : Below w.heap.size w w4 := bel_call bel3 (bel_call (by exact sBel) hb4)
  clear hb
  go_wp2_with fail
  all_goals exact ret_t rfl rfl rfl ⟨rfl, bel4⟩
end Go.Proofs.YthmhdaefkhcenaaGreatDoor
namespace Go.Proofs.YthmhdaefkhcenaaGreatDoor
open Go.RowKit Go.Lib

set_option maxRecDepth 100000 in
set_option maxHeartbeats 8000000 in
theorem lines_ref (kb : Nat) (id of day ds : Int) (ab ac sb sc tb tc gb n r t x back : Nat) (hn0 : 0 < n) (hn : n ≤ 1073741824) (hr : r ≤ 1000000) (ht : t ≤ 1073741824) (hx0 : x ≠ 0) (hbx : back + x ≤ n) (w : World)
    (hK : Block w kb 208 (keptS of ds sb sc tb tc gb 1)) (hT : Has w tb (tlV n r t)) (hG : Block w gb 3 [.int .i64 back]) (hA : Has w ab [.int .i64 x]) (hkg : kb ≠ gb) (hag : ab ≠ gb) :
    Calls Tryz.prog 109 #[.agg (refC id of day ab ac).toArray, .pointer (some ⟨kb, 0, none⟩)] w fun e w' => ∃ g c, e = .returned (.slice (some ⟨g, 0, none⟩) 1 c) ∧ 1 ≤ c ∧ w.heap.size ≤ g ∧ Has w' g (tlV x r (backF t n back (back + x))) ∧ Block w' gb 3 [.int .i64 ((back + x : Nat) : Int)] ∧ Kept [gb] w w' := by
  have hret := fun w => return_tl t n r back (back + x) ht hn0 hn hr (by omega) hbx w
  rw [show back + x - back = x by omega] at hret
  have hcast := Lib.hid (show ((back + x : Nat) : Int) = (back : Int) + x by omega)
  obtain ⟨z, hz⟩ : ∃ z, back + x = z := ⟨_, rfl⟩
  rw [hz] at hret hcast ⊢
  have hzz := Lib.hid hz
  clear hz
  generalize backF t n back z = y at *
  have q1 : ((x : Int) == 0) = false := by simp; omega
  have kl := hK.lt
  have gl := hG.lt
  have al := hA.lt
  have tl := hT.lt
  go_enter Tryz.func109, Tryz.ntmps109
  simp only [refC]
  go_upto_region 2 with (fail)
  refine at_code (fun W => Below w.heap.size w W ∧ W.heap.size = w.heap.size + 1 ∧ Block W w.heap.size 217 [.int .i64 2, .int .i64 id, .int .i64 of, .int .i64 day, .slice (some ⟨ab, 0, none⟩) 1 ac, .slice none 0 0]) ⟨by exact sBel, by simp, by exact sBlk⟩ ?_
  rintro w1 ⟨bel1, hz1, R1⟩
  have K1 := hK.call bel1
  have T1 := hT.call bel1
  have G1 := hG.call bel1
  have A1 := hA.call bel1
  unfold keptS at K1
  unfold tlV at T1
  obtain ⟨rl, rf, r0, r1, r2, r3, r4, r5⟩ := R1.c6
  obtain ⟨kl, kf, k0, k1, k2, k3, k4, k5, k6, k7, k8⟩ := K1.c9
  have tl := T1.lt; have t0 := T1.cell (j := 0) rfl; have t1 := T1.cell (j := 1) rfl; have t2 := T1.cell (j := 2) rfl; have t3 := T1.cell (j := 3) rfl; have t4 := T1.cell (j := 4) rfl; have t5 := T1.cell (j := 5) rfl
  obtain ⟨gl, gf, g0⟩ := G1.c1
  have al := A1.lt; have a0 := A1.cell (j := 0) rfl
  go_wp2_with fail
  refine wp_loop_rounds 2 ?_
  rw [rounds_succ]
  go_wp2_with fail
  refine at_code (fun W => Below w.heap.size w W ∧ W.heap.size = w.heap.size + 1 + 1 ∧ Block W w.heap.size 217 [.int .i64 2, .int .i64 id, .int .i64 of, .int .i64 day, .slice (some ⟨ab, 0, none⟩) 1 ac, .slice none 0 0] ∧ Block W (w.heap.size + 1) 52 [.int .i64 0, .int .i64 7, .int .i64 n, .int .i64 0, .int .i64 r, .int .i64 t]) ⟨by exact sBel, by simp [hz1], by exact sBlk, by exact sBlk⟩ ?_
  clear r0 r1 r2 r3 r4 r5 rl rf k0 k1 k2 k3 k4 k5 k6 k7 k8 kl kf t0 t1 t2 t3 t4 t5 tl g0 gl gf a0 al
  clear R1 K1 T1 G1 A1 bel1 hz1
  rintro w2 ⟨bel2, hz2, R2, X2⟩
  have K2 := hK.call bel2
  have T2 := hT.call bel2
  have G2 := hG.call bel2
  have A2 := hA.call bel2
  have kl2 := K2.lt
  have gl2 := G2.lt
  have al2 := A2.lt
  have xx2 := X2.lt
  clear hz2
  have K3 := K2
  unfold keptS at K3
  have X3 := X2
  have G3 := G2
  obtain ⟨xl, xf, x0, x1, x2, x3, x4, x5⟩ := X3.c6
  obtain ⟨kl, kf, k0, k1, k2, k3, k4, k5, k6, k7, k8⟩ := K3.c9
  obtain ⟨gl, gf, g0⟩ := G3.c1
  rw [hcast.out] at hret
  have hkl : kb < w.heap.size := hK.lt
  have hgl : gb < w.heap.size := hG.lt
  refine AnyBut.region (S := fun w' => w'.cell? ⟨kb, 7, none⟩ = some (.slice (some ⟨gb, 0, none⟩) 1 1) ∧ w'.cell? ⟨gb, 0, none⟩ = some (.int .i64 back) ∧ w'.cell? ⟨w.heap.size + 1, 0, none⟩ = some (.int .i64 0) ∧ w'.cell? ⟨w.heap.size + 1, 1, none⟩ = some (.int .i64 7) ∧ w'.cell? ⟨w.heap.size + 1, 2, none⟩ = some (.int .i64 n) ∧ w'.cell? ⟨w.heap.size + 1, 3, none⟩ = some (.int .i64 0) ∧ w'.cell? ⟨w.heap.size + 1, 4, none⟩ = some (.int .i64 r) ∧ w'.cell? ⟨w.heap.size + 1, 5, none⟩ = some (.int .i64 t)) (t := 99) 26 rfl (by kernel_rfl) ?_ ?_
  · refine ⟨?_, ?_, ?_, ?_, ?_, ?_, ?_, ?_⟩ <;> go_simp
  intro hS
  refine AnyBut.tk0 0 hS rfl (h := ?_); refine AnyBut.tk0 1 hS rfl (h := ?_); refine AnyBut.tk0 2 hS rfl (h := ?_); refine AnyBut.tk0 3 hS rfl (h := ?_); refine AnyBut.tk0 4 hS rfl (h := ?_); refine AnyBut.tk0 5 hS rfl (h := ?_); refine AnyBut.tk0 6 hS rfl (h := ?_); refine AnyBut.tk0 7 hS rfl (h := ?_); refine AnyBut.tk0 8 hS rfl (h := ?_); refine AnyBut.tk0 9 hS rfl (h := ?_); refine AnyBut.tk0 10 hS rfl (h := ?_); refine AnyBut.tk0 11 hS rfl (h := ?_); refine AnyBut.tk0 12 hS rfl (h := ?_); refine AnyBut.tk0 13 hS rfl (h := ?_); refine AnyBut.tk0 14 hS rfl (h := ?_); refine AnyBut.tk0 15 hS rfl (h := ?_); refine AnyBut.tk0 16 hS rfl (h := ?_); refine AnyBut.tk0 17 hS rfl (h := ?_); refine AnyBut.tk0 18 hS rfl (h := ?_)
  refine AnyBut.two (i := 19) (j := 23) rfl rfl (by kernel_rfl) rfl rfl ?_ ?_
  · intro K hK'
    have hK := hK'
    clear hK'
    go_wp2_with fail
    refine (hret _).mono ?_
    rintro e w3 ⟨rfl, hb3⟩
    have bb : Below w2.heap.size w2 w3 := bel_call (by exact sBel) hb3
    have X4 := X2.call bb
    have K4 := K2.call bb
    have G4 := G2.call bb
    unfold keptS at K4
    have z3 := bb.size
    clear x0 x1 x2 x3 x4 x5 xl xf k0 k1 k2 k3 k4 k5 k6 k7 k8 kl kf g0 gl gf X3 K3 G3 hb3
    obtain ⟨xl, xf, x0, x1, x2, x3, x4, x5⟩ := X4.c6
    obtain ⟨kl, kf, k0, k1, k2, k3, k4, k5, k6, k7, k8⟩ := K4.c9
    obtain ⟨gl, gf, g0⟩ := G4.c1
    clear hS
    refine hK _ _ ?_ ?_ <;> clear hK K; rotate_left; intro hS; rotate_left
    · refine ⟨?_, ?_, ?_, ?_, ?_, ?_, ?_, ?_⟩ <;> go_simp
    simp only [tlV]
    refine AnyBut.tk0 20 hS rfl (h := ?_); refine AnyBut.tk0 21 hS rfl (h := ?_); refine AnyBut.tk0 22 hS rfl (h := ?_)
    clear hS
    refine AnyBut.one (i := 23) rfl (by kernel_rfl) rfl ?_; intro K hK; go_simp; refine hK _ _ ?_ ?_ <;> clear hK K; rotate_left; intro hS; rotate_left
    · refine ⟨?_, ?_, ?_, ?_, ?_, ?_, ?_, ?_⟩ <;> go_simp
    clear hS
    refine AnyBut.one (i := 24) rfl (by kernel_rfl) rfl ?_; intro K hK; go_simp; refine hK _ _ ?_ ?_ <;> clear hK K; rotate_left; intro hS; rotate_left
    · refine ⟨?_, ?_, ?_, ?_, ?_, ?_, ?_, ?_⟩ <;> go_simp
    (refine AnyBut.one (i := 25) rfl (by kernel_rfl) rfl ?_; intro K hK; go_simp; refine hK _ _ hS ?_; clear hK K; intro _)
    refine AnyBut.done (by kernel_rfl) ?_
    clear hS
    go_wp2_with (at_builtin; refine wpList_append_nil rfl _ _ 41 rfl 52 _ 6 48 Tryz.underlying41 info_tl rfl (w3.heap.size + 1) 0 1 1 (tlV x r y) rfl rfl rfl (by intro j v hj; rw [Nat.zero_add]; exact (Block.cell (btop (cs := tlV x r y) (by simp)) j).trans hj) (by omega) (by unfold maxLen; omega) (by omega) ?_; intro J k hJ hk')
    rw [rounds_succ]
    go_upto_region 10 with (fail)
    refine at_code (fun W => Below w2.heap.size w2 W ∧ Has W (w3.heap.size + 1 + 1) (tlV x r y)) ⟨bel_call bb (by exact sBel), (has_top (news := tlV x r y) (by simp)).drew⟩ ?_
    clear x0 x1 x2 x3 x4 x5 xl xf k0 k1 k2 k3 k4 k5 k6 k7 k8 kl kf g0 gl gf
    rintro w5 ⟨bel5, H5⟩
    have K6 := K2.call bel5
    have G6 := G2.call bel5
    have A6 := A2.call bel5
    have R6 := R2.call bel5
    unfold keptS at K6
    obtain ⟨rl, rf, r0, r1, r2, r3, r4, r5⟩ := R6.c6
    obtain ⟨kl, kf, k0, k1, k2, k3, k4, k5, k6, k7, k8⟩ := K6.c9
    obtain ⟨gl, gf, g0⟩ := G6.c1
    have al := A6.lt; have a0 := A6.cell (j := 0) rfl
    have bel6 : Below w.heap.size w w5 := bel_call bel2 bel5
    go_wp2_with fail
    refine wp_loop_rounds 2 ?_
    rw [rounds_succ]
    go_wp2_with fail
    rw [rounds_succ]
    go_wp2_with fail
    go_returns
    refine ⟨w3.heap.size + 1 + 1, 1 + k, rfl, by omega, by omega, H5.far (by show w3.heap.size + 1 + 1 ≠ gb; omega) _, ?_, (Kept.of_below bel6).set (by simp) _⟩
    rw [hcast.out]
    exact G6.set 0 _
  · intro K hK'
    have hK := hK'
    clear hK'
    go_simp
    clear hS
    refine hK _ _ ?_ ?_ <;> clear hK K; rotate_left; intro hS; rotate_left
    · refine ⟨?_, ?_, ?_, ?_, ?_, ?_, ?_, ?_⟩ <;> go_simp
    refine AnyBut.one (i := 19) rfl (by kernel_rfl) rfl ?_; intro K hK
    go_wp2_with fail
    refine (hret _).mono ?_
    rintro e w3 ⟨rfl, hb3⟩
    have bb : Below w2.heap.size w2 w3 := bel_call (by exact sBel) hb3
    have X4 := X2.call bb
    have K4 := K2.call bb
    have G4 := G2.call bb
    have Z4 : Block w3 w2.heap.size 52 [.int .i64 0, .int .i64 0, .int .i64 0, .int .i64 0, .int .i64 0, .int .i64 0] := Block.call (by exact sBlk) hb3
    unfold keptS at K4
    have z3 := bb.size
    have zz := Z4.lt
    clear x0 x1 x2 x3 x4 x5 xl xf k0 k1 k2 k3 k4 k5 k6 k7 k8 kl kf g0 gl gf X3 K3 G3 hb3
    obtain ⟨xl, xf, x0, x1, x2, x3, x4, x5⟩ := X4.c6
    obtain ⟨kl, kf, k0, k1, k2, k3, k4, k5, k6, k7, k8⟩ := K4.c9
    obtain ⟨gl, gf, g0⟩ := G4.c1
    obtain ⟨zl, zf, z0, z1, z2, z3, z4, z5⟩ := Z4.c6
    have nz1 : kb ≠ w2.heap.size := by omega
    have nz2 : gb ≠ w2.heap.size := by omega
    have nz3 : w.heap.size + 1 ≠ w2.heap.size := by omega
    clear hS
    refine hK _ _ ?_ ?_ <;> clear hK K; rotate_left; intro hS; rotate_left
    · refine ⟨?_, ?_, ?_, ?_, ?_, ?_, ?_, ?_⟩ <;> go_simp
    simp only [tlV]
    refine AnyBut.tk0 20 hS rfl (h := ?_); refine AnyBut.tk0 21 hS rfl (h := ?_); refine AnyBut.tk0 22 hS rfl (h := ?_)
    clear hS
    refine AnyBut.one (i := 24) rfl (by kernel_rfl) rfl ?_; intro K hK; go_simp; refine hK _ _ ?_ ?_ <;> clear hK K; rotate_left; intro hS; rotate_left
    · refine ⟨?_, ?_, ?_, ?_, ?_, ?_, ?_, ?_⟩ <;> go_simp
    (refine AnyBut.one (i := 25) rfl (by kernel_rfl) rfl ?_; intro K hK; go_simp; refine hK _ _ hS ?_; clear hK K; intro _)
    refine AnyBut.done (by kernel_rfl) ?_
    clear hS
    go_wp2_with (at_builtin; refine wpList_append_nil rfl _ _ 41 rfl 52 _ 6 48 Tryz.underlying41 info_tl rfl (w3.heap.size) 0 1 1 (tlV x r y) rfl rfl rfl (by intro j v hj; rw [Nat.zero_add]; exact (Block.cell (btop (cs := tlV x r y) (by simp)) j).trans hj) (by omega) (by unfold maxLen; omega) (by omega) ?_; intro J k hJ hk')
    rw [rounds_succ]
    go_upto_region 10 with (fail)
    refine at_code (fun W => Below w2.heap.size w2 W ∧ Has W (w3.heap.size + 1) (tlV x r y)) ⟨(bb.trans (Below.mono (show Below w3.heap.size w3 _ from Below.refl _ _) (by omega))) |> fun _ => by (repeat' (first | (with_reducible assumption) | (with_reducible refine Below.drew ?_) | (with_reducible refine Below.alloc ?_ (by simp; omega) _) | (with_reducible refine Below.setCell ?_ (by simp) _))), (has_top (news := tlV x r y) (by simp)).drew⟩ ?_
    clear z0 z1 z2 z4 z5 zl zf x0 x1 x2 x3 x4 x5 xl xf k0 k1 k2 k3 k4 k5 k6 k7 k8 kl kf g0 gl gf
    rintro w5 ⟨bel5, H5⟩
    have K6 := K2.call bel5
    have G6 := G2.call bel5
    have A6 := A2.call bel5
    have R6 := R2.call bel5
    unfold keptS at K6
    obtain ⟨rl, rf, r0, r1, r2, r3, r4, r5⟩ := R6.c6
    obtain ⟨kl, kf, k0, k1, k2, k3, k4, k5, k6, k7, k8⟩ := K6.c9
    obtain ⟨gl, gf, g0⟩ := G6.c1
    have al := A6.lt; have a0 := A6.cell (j := 0) rfl
    have bel6 : Below w.heap.size w w5 := bel_call bel2 bel5
    go_wp2_with fail
    refine wp_loop_rounds 2 ?_
    rw [rounds_succ]
    go_wp2_with fail
    rw [rounds_succ]
    go_wp2_with fail
    go_returns
    refine ⟨w3.heap.size + 1, 1 + k, rfl, by omega, by omega, H5.far (by show w3.heap.size + 1 ≠ gb; omega) _, ?_, (Kept.of_below bel6).set (by simp) _⟩
    rw [hcast.out]
    exact G6.set 0 _
end Go.Proofs.YthmhdaefkhcenaaGreatDoor
namespace Go.Proofs.YthmhdaefkhcenaaGreatDoor
set_option maxRecDepth 100000
set_option maxHeartbeats 8000000
open Go.RowKit Go.Lib

theorem kept_nil (w : World) : (binOp .eql 206 (.pointer none) (.pointer none)).run Tryz.prog w = .ok (.bool true) w := by kernel_rfl
theorem new_book (w : World) : Calls Tryz.prog 27 #[] w fun e w' => ∃ bb m, e = .returned (.pointer (some ⟨bb, 0, none⟩)) ∧ w.heap.size ≤ bb ∧ w.heap.size ≤ m ∧ bb ≠ m ∧ Block w' bb 137 [.slice none 0 0, .map (some m)] ∧ MapAt w' m [] 0 ∧ Below w.heap.size w w' := by
  have hmm := @run_makeMap Tryz.prog
  go_enter Tryz.func27, Tryz.ntmps27
  go_wp2
  go_returns
  exact ⟨w.heap.size + 1, w.heap.size, rfl, by omega, by omega, by omega, by exact sBlk, by exact sMapf, by exact sBel⟩
theorem entry_miss (bb m : Nat) (ids : Value) (l : List (Int × Nat)) (id : Int) (w : World) (hB : Block w bb 137 [ids, .map (some m)]) (hM : MapAt w m (bEs l 0) l.length) (hx : ∀ p ∈ l, p.1 ≠ id) :
    Calls Tryz.prog 46 #[.pointer (some ⟨bb, 0, none⟩), .int .i64 id] w fun e w' => e = .returned (.tuple #[.agg #[.int .i64 0, .int .i64 0, .int .i64 0, .int .i64 0, .slice none 0 0, .slice none 0 0], .bool false]) ∧ Below w.heap.size w w' := by
  go_enter Tryz.func46, Tryz.ntmps46
  go_wp2_with fail
  refine (none_book bb m ids _ (hB.alloc _)).mono ?_
  rintro e w1 ⟨rfl, hb1⟩
  have bel1 : Below w.heap.size w w1 := bel_call (by exact sBel) hb1
  have X1 : Block w1 w.heap.size 88 [.int .i64 0, .int .i64 0, .int .i64 0, .int .i64 0, .slice none 0 0, .slice none 0 0] := Block.call (by exact sBlk) hb1
  have hlk := book_miss1 (hM.call bel1) hx
  have B1 := hB.call bel1
  have h1 := kept_nil
  obtain ⟨kl, kf, k0, k1⟩ := B1.c2
  obtain ⟨xl, xf, x0, x1, x2, x3, x4, x5⟩ := X1.c6
  clear hb1
  go_wp2_with fail
  have Z : Block _ w.heap.size 88 [.int .i64 0, .int .i64 0, .int .i64 0, .int .i64 0, .slice none 0 0, .slice none 0 0] := (((((X1.set 0 (.int .i64 0)).set 1 (.int .i64 0)).set 2 (.int .i64 0)).set 3 (.int .i64 0)).set 4 (.slice none 0 0)).set 5 (.slice none 0 0)
  exact ret_ct (T := 88) rfl rfl rfl Z agg_ent size_ent ⟨rfl, by exact sBel⟩
end Go.Proofs.YthmhdaefkhcenaaGreatDoor
