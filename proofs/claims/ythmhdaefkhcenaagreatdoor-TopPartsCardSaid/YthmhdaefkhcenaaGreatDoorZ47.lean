/- Lemmas for it; no condition: TMov TBk TBk2. -/
import Derived.Test.YthmhdaefkhcenaaGreatDoorZ08
import Derived.Test.YthmhdaefkhcenaaGreatDoorZ14
import Derived.Test.YthmhdaefkhcenaaGreatDoorZ45
import Derived.Test.YthmhdaefkhcenaaGreatDoorZ46
set_option linter.unusedVariables false
set_option linter.unusedSimpArgs false
namespace Go.Proofs.YthmhdaefkhcenaaGreatDoor
open Go.RowKit Go.Lib Go.MapKept

structure Mv where
  id : Int
  kb : Nat
  day : Int
  bk : Bool
  n : Nat
  t : Nat
def MvOk (w : World) (x : Mv) : Prop := ∃ (q : Int) (c1 c2 c4 c5 c7 : Value) (lb lc r : Nat), (q = 2) = (x.bk = true) ∧ Block w x.kb 208 [.int .i64 q, c1, c2, .int .i64 x.day, c4, c5, .slice (some ⟨lb, 0, none⟩) 1 lc, c7, .bool false] ∧ Has w lb (tlV x.n r x.t)
theorem MvOk.call {w w' : World} {x : Mv} (h : MvOk w x) (hb : Below w.heap.size w w') : MvOk w' x := by
  obtain ⟨q, c1, c2, c4, c5, c7, lb, lc, r, h0, h1, h2⟩ := h
  exact ⟨q, c1, c2, c4, c5, c7, lb, lc, r, h0, h1.call hb, h2.call hb⟩
def mvC (x : Mv) : List Value := [.int .i64 x.id, .int .i64 x.day, .bool x.bk, .int .i64 x.n, .int .i64 0, .int .i64 x.t]
def mvCs (L : List Mv) : List Value := (L.map mvC).flatten
theorem mvCs_snoc (L : List Mv) (x : Mv) : mvCs (L ++ [x]) = mvCs L ++ mvC x := by simp [mvCs]
theorem take_snoc {α : Type} {L : List α} {j : Nat} {x : α} (h : L[j]? = some x) : L.take (j + 1) = L.take j ++ [x] := by
  rw [List.take_add_one, h]
  rfl
theorem info_mv : (Tryz.prog.info? 158).map (fun i => (i.zero, i.size, i.bytes)) = some (some (.agg #[.int .i64 0, .int .i64 0, .bool false, .int .i64 0, .int .i64 0, .int .i64 0]), 6, 48) := by kernel_rfl
def mvP (L : List Mv) : List (Int × Nat) := L.map fun x => (x.id, x.kb)
theorem own_where {w : World} {e : TypeId} {base size n c : Nat} {A : Option Addr} {xs : List Value} (h : w.ownsRow base e size (.slice A n c) n xs) : ∀ k, (Value.slice A n c).ownBlock = some k → base ≤ k ∧ k < w.heap.size := by
  intro k hk
  have h' := h
  obtain ⟨_, ⟨h1, _⟩ | ⟨g, cap, cur, h1, hb, hg, hr⟩⟩ := h'
  · injection h1 with h1
    subst h1
    simp [Value.ownBlock] at hk
  · injection h1 with h1
    subst h1
    have hl := own_lt h
    simp [Value.ownBlock] at hk
    subst hk
    exact hl
set_option maxRecDepth 100000 in
set_option maxHeartbeats 8000000 in
theorem moves_book (bb m ib ic : Nat) (L : List Mv) (w : World) (hB : Block w bb 137 [.slice (some ⟨ib, 0, none⟩) L.length ic, .map (some m)]) (hI : Has w ib (L.map fun x => .int .i64 x.id)) (hM : MapAt w m (bEs (mvP L) 0) (mvP L).length) (hd : ((mvP L).map Prod.fst).Nodup)
    (hE : ∀ x ∈ L, MvOk w x) (hn : L.length ≤ 1000) :
    Calls Tryz.prog 66 #[.pointer (some ⟨bb, 0, none⟩), .int .i64 7] w fun e w' => ∃ A c, e = .returned (.slice A L.length c) ∧ w'.ownsRow w.heap.size 158 6 (.slice A L.length c) L.length (mvCs L) ∧ Below w.heap.size w w' := by
  obtain ⟨N, hN⟩ : ∃ N, L.length = N := ⟨_, rfl⟩
  have HN := Lib.hid hN
  rw [hN] at hB hn ⊢
  clear hN
  go_enter Tryz.func66, Tryz.ntmps66
  go_wp2_with fail
  refine (none_book bb m _ _ hB).mono ?_
  rintro e w1 ⟨rfl, hb1⟩
  have B1 := hB.call hb1
  obtain ⟨bl, bf, b0, b1⟩ := B1.c2
  go_wp2_with fail
  go_loopw [18, 5] (fun s18 s5 wr => ∃ (j : Nat) (A : Option Addr) (c : Nat), j ≤ N ∧ s18 = .int .i64 j ∧ s5 = .slice A j c ∧ wr.ownsRow w.heap.size 158 6 (.slice A j c) j (mvCs (L.take j)) ∧ Below w.heap.size w wr) (fun s18 _ _ => N - (intOf s18).toNat)
  case atStart => exact ⟨0, none, 0, by omega, rfl, rfl, own_nil, hb1⟩
  case round =>
    obtain ⟨j, A, c, hj, rfl, rfl, own, bel⟩ := hrel
    have HO := Lib.hid own
    clear own b0 b1 bl bf B1
    by_cases hlt : j < N
    · obtain ⟨x, hx⟩ : ∃ x, L[j]? = some x := ⟨L[j]'(by rw [HN.out]; exact hlt), List.getElem?_eq_getElem _⟩
      have hxm : x ∈ L := List.mem_of_getElem? hx
      have hxI : (L.map fun x => Value.int .i64 x.id)[j]? = some (.int .i64 x.id) := by rw [List.getElem?_map, hx]; rfl
      have q3 : (0 : Int) ≤ (j : Int) := by omega
      have q4 : (j : Int) < (N : Int) := by omega
      have i0 := (hI.call bel).cell hxI
      have hlk := book_hit1 (hM.call bel) (x := x.id) (b := x.kb) (List.mem_map.2 ⟨x, hxm, rfl⟩) hd
      obtain ⟨q, c1, c2, c4, c5, c7, lb, lc, r, hq, hk, hl⟩ := (hE x hxm).call bel
      have B1 := hB.call bel
      have hkp := hk
      obtain ⟨bl, bf, b0, b1⟩ := B1.c2
      obtain ⟨kl, kf, k0, k1, k2, k3, k4, k5, k6, k7, k8⟩ := hkp.c9
      unfold tlV at hl
      have ll := hl.lt; have l0 := hl.cell (j := 0) rfl; have l1 := hl.cell (j := 1) rfl; have l2 := hl.cell (j := 2) rfl; have l3 := hl.cell (j := 3) rfl; have l4 := hl.cell (j := 4) rfl; have l5 := hl.cell (j := 5) rfl
      have Hx := Lib.hid hx
      have hq1 : (q == 2) = x.bk := by
        by_cases e : q = 2
        · simp [e, (hq.mp e)]
        · have : x.bk = false := by
            cases hb : x.bk
            · rfl
            · exact absurd (hq.mpr hb) e
          simp [e, this]
      clear hx hxI hq
      go_wp2_with fail
      refine wp_loop_rounds 2 ?_
      rw [rounds_succ]
      go_wp2_with fail
      obtain ⟨T0, hT0⟩ : ∃ T0, wr.heap.size = T0 := ⟨_, rfl⟩
      refine at_code (fun W => Below wr.heap.size wr W ∧ Has W wr.heap.size (tlV x.n r x.t)) ⟨by exact sBel, Has.of_block (btop (by simp))⟩ ?_
      rw [hT0]
      rintro w2 ⟨bel2, T2⟩
      rw [← hT0] at bel2
      have HT := Lib.hid hT0
      clear hT0 l0 l1 l2 l3 l4 l5 ll k0 k1 k2 k3 k4 k5 k6 k7 k8 kl kf hkp i0 b0 b1 bl bf B1 hlk
      have K2 := hk.call bel2
      have K2p := K2
      unfold tlV at T2
      have T2p := T2
      obtain ⟨kl, kf, k0, k1, k2, k3, k4, k5, k6, k7, k8⟩ := K2p.c9
      have ll := T2p.lt; have l0 := T2p.cell (j := 0) rfl; have l1 := T2p.cell (j := 1) rfl; have l2 := T2p.cell (j := 2) rfl; have l3 := T2p.cell (j := 3) rfl; have l4 := T2p.cell (j := 4) rfl; have l5 := T2p.cell (j := 5) rfl
      have O2 := own_below HO.out bel2
      have belw := bel_call bel bel2
      have zw := belw.size
      refine AnyBut.region (S := fun w' => w'.cell? ⟨x.kb, 0, none⟩ = some (.int .i64 q) ∧ w'.cell? ⟨x.kb, 3, none⟩ = some (.int .i64 x.day) ∧ w'.cell? ⟨T0, 2, none⟩ = some (.int .i64 x.n) ∧ w'.cell? ⟨T0, 3, none⟩ = some (.int .i64 0) ∧ w'.cell? ⟨T0, 5, none⟩ = some (.int .i64 x.t)) (t := 99) 23 rfl (by kernel_rfl) ?_ ?_
      · exact ⟨k0, k3, l2, l3, l5⟩
      intro hS
      refine AnyBut.tk0 0 hS rfl (h := ?_); refine AnyBut.tk0 1 hS rfl (h := ?_); refine AnyBut.tk0 2 hS rfl (h := ?_); refine AnyBut.tk0 3 hS rfl (h := ?_); refine AnyBut.tk0 4 hS rfl (h := ?_); refine AnyBut.tk0 5 hS rfl (h := ?_); refine AnyBut.tk0 6 hS rfl (h := ?_); refine AnyBut.tk0 7 hS rfl (h := ?_); refine AnyBut.tk0 8 hS rfl (h := ?_); refine AnyBut.tk0 9 hS rfl (h := ?_); refine AnyBut.tk0 10 hS rfl (h := ?_); refine AnyBut.tk0 11 hS rfl (h := ?_); refine AnyBut.tk0 12 hS rfl (h := ?_); refine AnyBut.tk0 13 hS rfl (h := ?_); refine AnyBut.tk0 14 hS rfl (h := ?_); refine AnyBut.tk0 15 hS rfl (h := ?_); refine AnyBut.tk0 16 hS rfl (h := ?_); refine AnyBut.tk0 17 hS rfl (h := ?_); refine AnyBut.tk0 18 hS rfl (h := ?_); refine AnyBut.tk0 19 hS rfl (h := ?_)
      clear hS
      refine AnyBut.one (i := 20) rfl (by kernel_rfl) rfl ?_; intro K hK; go_simp; refine hK _ _ ?_ ?_ <;> clear hK K; rotate_left; intro hS; rotate_left
      · refine ⟨?_, ?_, ?_, ?_, ?_⟩ <;> go_simp
      clear hS
      refine AnyBut.one (i := 21) rfl (by kernel_rfl) rfl ?_; intro K hKK
      have hwh := own_where HO.out
      rw [HT.out] at hwh
      refine op_append_own2 _ _ 155 rfl 158 _ 6 48 Tryz.underlying155 info_mv rfl (by decide) w.heap.size (.slice A j c) j (mvCs (L.take j)) rfl (own_below O2 (by exact sBel)) w2.heap.size 0 1 1 (mvC x) rfl rfl
        (by intro j v hj; rw [Nat.zero_add]; exact (Block.cell (btop (cs := mvC x) rfl) j).trans hj) (by intro u hu; simp [mvC] at hu; rcases hu with rfl | rfl | rfl | rfl | rfl | rfl <;> rfl) (by omega) (by unfold maxLen; omega) (by omega) (by simp; omega) ?_
      intro g2 c2 w3 hg2 hc2 hgn O3 H3 G3
      have hxl := (hE x hxm).call (Below.refl _ _)
      have xkl : x.kb < w.heap.size := by
        obtain ⟨_, _, _, _, _, _, _, _, _, _, h, _⟩ := hE x hxm
        exact h.lt
      have zT := T2.lt
      have K3 : Block w3 x.kb 208 _ := Block.grown (Block.drew (Block.alloc K2 _)) G3 (by intro e; have := hwh _ e.symm; omega)
      have T3 : Has w3 T0 _ := Has.grown (Has.drew (Has.alloc T2 _)) G3 (by intro e; have := hwh _ e.symm; omega)
      have bel3 : Below w.heap.size w w3 := Below.grown (Below.drew (bel_alloc belw _)) G3 (by simp; omega) (fun k hk => (hwh k hk).1)
      clear l0 l1 l2 l3 l4 l5 ll k0 k1 k2 k3 k4 k5 k6 k7 k8 kl kf K2p T2p
      have K3p := K3
      have T3p := T3
      obtain ⟨kl, kf, k0, k1, k2, k3, k4, k5, k6, k7, k8⟩ := K3p.c9
      have ll := T3p.lt; have l0 := T3p.cell (j := 0) rfl; have l1 := T3p.cell (j := 1) rfl; have l2 := T3p.cell (j := 2) rfl; have l3 := T3p.cell (j := 3) rfl; have l4 := T3p.cell (j := 4) rfl; have l5 := T3p.cell (j := 5) rfl
      refine hKK _ _ ⟨k0, k3, l2, l3, l5⟩ ?_
      intro hS
      clear hKK K
      (refine AnyBut.one (i := 22) rfl (by kernel_rfl) rfl ?_; intro K hK; go_simp; refine hK _ _ hS ?_; clear hK K; intro _)
      clear hS
      refine AnyBut.done (by kernel_rfl) ?_
      go_wp2_with fail
      rw [rounds_succ]
      go_wp2_with fail
      go_roundw
      case rel => exact ⟨j + 1, _, _, by omega, by go_num, rfl, by rw [take_snoc Hx.out, mvCs_snoc]; exact O3, bel3⟩
      case measure => simp [intOf]; omega
    · have e1 : j = N := by omega
      subst e1
      have q1 : ¬ (j : Int) < (j : Int) := by omega
      go_wp2_with fail
      have ht : L.take j = L := List.take_of_length_le (by rw [HN.out]; omega)
      have O := HO.out
      rw [ht] at O
      go_returns
      exact ⟨A, c, by first | rfl | simp, O, bel⟩
end Go.Proofs.YthmhdaefkhcenaaGreatDoor
namespace Go.Proofs.YthmhdaefkhcenaaGreatDoor
open Go.RowKit Go.Lib

structure Ref where
  id : Int
  day : Int
  x : Nat
def backs (R : List Ref) : Nat := (R.map (·.x)).sum
theorem backs_snoc (R : List Ref) (y : Ref) : backs (R ++ [y]) = backs R + y.x := by simp [backs]
def mvsOf (n t : Nat) : Nat → List (Ref × Nat) → List Mv
  | _, [] => []
  | b, (y, k) :: R => ⟨y.id, k, y.day, true, y.x, backF t n b (b + y.x)⟩ :: mvsOf n t (b + y.x) R
theorem mvsOf_snoc (n t : Nat) : ∀ (Z : List (Ref × Nat)) (b : Nat) (y : Ref) (k : Nat), mvsOf n t b (Z ++ [(y, k)]) = mvsOf n t b Z ++ [⟨y.id, k, y.day, true, y.x, backF t n (b + backs (Z.map (·.1))) (b + backs (Z.map (·.1)) + y.x)⟩]
  | [], b, y, k => by simp [mvsOf, backs]
  | (z, k') :: Z, b, y, k => by
    simp only [List.cons_append, mvsOf, mvsOf_snoc n t Z (b + z.x) y k]
    simp [backs, Nat.add_assoc]
theorem mvsOf_length (n t : Nat) : ∀ (Z : List (Ref × Nat)) (b : Nat), (mvsOf n t b Z).length = Z.length
  | [], _ => rfl
  | (z, _) :: Z, b => by simp [mvsOf, mvsOf_length n t Z]
theorem mvsOf_ids (n t : Nat) : ∀ (Z : List (Ref × Nat)) (b : Nat), (mvsOf n t b Z).map (·.id) = Z.map (·.1.id)
  | [], _ => rfl
  | (z, _) :: Z, b => by simp [mvsOf, mvsOf_ids n t Z]
theorem mvP_ids (L : List Mv) : (mvP L).map Prod.fst = L.map (·.id) := by simp [mvP]
structure BookAt (w : World) (bb m ib gb lo : Nat) (id ds : Int) (n r t : Nat) (R : List Ref) (ks : List Nat) : Prop where
  len : ks.length = R.length
  book : ∃ kb ic sb sc tb tc, Block w bb 137 [.slice (some ⟨ib, 0, none⟩) (R.length + 1) ic, .map (some m)] ∧ w.ownsRow lo 3 1 (.slice (some ⟨ib, 0, none⟩) (R.length + 1) ic) (R.length + 1) (.int .i64 id :: R.map fun y => .int .i64 y.id) ∧
    MapAt w m (bEs (mvP (⟨id, kb, ds, false, n, t⟩ :: mvsOf n t 0 (R.zip ks))) 0) (R.length + 1) ∧ Block w kb 208 (keptS id ds sb sc tb tc gb 1) ∧ Has w sb [.int .i64 n] ∧ Has w tb (tlV n r t) ∧ lo ≤ kb ∧ lo ≤ sb ∧ lo ≤ tb ∧ kb ≠ gb ∧ kb ≠ ib ∧ sb ≠ gb ∧ sb ≠ ib ∧ tb ≠ gb ∧ tb ≠ ib
  back : Block w gb 3 [.int .i64 (backs R : Nat)]
  rest : ∀ x ∈ mvsOf n t 0 (R.zip ks), ∃ (c1 c2 c4 c5 c7 : Value) (lb lc r : Nat), Block w x.kb 208 [.int .i64 2, c1, c2, .int .i64 x.day, c4, c5, .slice (some ⟨lb, 0, none⟩) 1 lc, c7, .bool false] ∧ x.bk = true ∧ Has w lb (tlV x.n r x.t) ∧ lo ≤ x.kb ∧ lo ≤ lb ∧ x.kb ≠ gb ∧ x.kb ≠ ib ∧ lb ≠ gb ∧ lb ≠ ib
  gi : gb ≠ ib
  glo : lo ≤ gb
theorem BookAt.keptX {w w' : World} {bb m ib gb lo : Nat} {id ds : Int} {n r t : Nat} {R : List Ref} {ks X : List Nat} (h : BookAt w bb m ib gb lo id ds n r t R ks) (hK : Kept X w w') (hX : ∀ k ∈ X, k < lo ∨ w.heap.size ≤ k) (hb : bb ∉ X) (hm : m ∉ X) : BookAt w' bb m ib gb lo id ds n r t R ks := by
  have far : ∀ g, lo ≤ g → g < w.heap.size → g ∉ X := fun g h1 h2 hm => by rcases hX g hm with h | h <;> omega
  obtain ⟨hl, ⟨kb, ic, sb, sc, tb, tc, b1, b2, b3, b4, b5, b6, l1, l2, l3, d1⟩, hbk, hr, hg, hgl⟩ := h
  refine ⟨hl, ⟨kb, ic, sb, sc, tb, tc, b1.keptX hK hb, own_kept b2 hK (far _ (own_lt b2).1 (own_lt b2).2), b3.keptX hK hm, b4.keptX hK (far _ l1 b4.lt), b5.keptX hK (far _ l2 b5.lt), b6.keptX hK (far _ l3 b6.lt), l1, l2, l3, d1⟩, hbk.keptX hK (far _ hgl hbk.lt), fun x hx => ?_, hg, hgl⟩
  obtain ⟨c1, c2, c4, c5, c7, lb, lc, r, e1, e2, e3, e4, e5, e6⟩ := hr x hx
  exact ⟨c1, c2, c4, c5, c7, lb, lc, r, e1.keptX hK (far _ e4 e1.lt), e2, e3.keptX hK (far _ e5 e3.lt), e4, e5, e6⟩
theorem BookAt.call {w w' : World} {bb m ib gb lo : Nat} {id ds : Int} {n r t : Nat} {R : List Ref} {ks : List Nat} (h : BookAt w bb m ib gb lo id ds n r t R ks) (hb : Below w.heap.size w w') : BookAt w' bb m ib gb lo id ds n r t R ks := h.keptX (Kept.of_below (X := []) hb) (by simp) (by simp) (by simp)
theorem BookAt.mvOk {w : World} {bb m ib gb lo : Nat} {id ds : Int} {n r t : Nat} {R : List Ref} {ks : List Nat} (h : BookAt w bb m ib gb lo id ds n r t R ks) : ∀ x ∈ mvsOf n t 0 (R.zip ks), MvOk w x := fun x hx => by
  obtain ⟨c1, c2, c4, c5, c7, lb, lc, r, e1, e2, e3, _⟩ := h.rest x hx
  exact ⟨2, c1, c2, c4, c5, c7, lb, lc, r, by simp [e2], e1, e3⟩
theorem BookAt.lt {w : World} {bb m ib gb lo : Nat} {id ds : Int} {n r t : Nat} {R : List Ref} {ks : List Nat} (h : BookAt w bb m ib gb lo id ds n r t R ks) : lo ≤ ib ∧ ib < w.heap.size ∧ gb < w.heap.size ∧ bb < w.heap.size ∧ m < w.heap.size ∧ lo ≤ w.heap.size := by
  obtain ⟨hl, ⟨kb, ic, sb, sc, tb, tc, b1, b2, b3, b4, b5, b6, l1, l2, l3, d1⟩, hbk, hr, hg, hgl⟩ := h
  have := own_lt b2
  have := hbk.lt
  have := b1.lt
  have := b3.lt
  omega
theorem bk_sale (bb m : Nat) (id day : Int) (ab ac tb tc n r t : Nat) (hid0 : 1 ≤ id) (hid1 : id ≤ 1099511627775) (hd0 : 0 ≤ day) (hd1 : day ≤ 3652058) (hn : n ≤ 4611686018427387904) (hr : r ≤ 1000000) (ht : t ≤ 4611686018427387904) (w : World) (hA : Has w ab [.int .i64 n]) (hT : Has w tb (tlV n r t))
    (hB : Block w bb 137 [.slice none 0 0, .map (some m)]) (hM : MapAt w m [] 0) :
    Calls Tryz.prog 52 #[.pointer (some ⟨bb, 0, none⟩), .agg (saleC id day ab ac tb tc).toArray] w fun e w' => ∃ g c' ib gb, e = .returned (.tuple #[.slice (some ⟨g, 0, none⟩) 1 c', .int .i64 0]) ∧ 1 ≤ c' ∧ Has w' g (tlV n r t) ∧ w.heap.size ≤ g ∧ g ≠ ib ∧ g ≠ gb ∧ BookAt w' bb m ib gb w.heap.size id day n r t [] [] ∧ Kept [bb, m] w w' := by
  refine (add_sale bb m [] id day ab ac tb tc n r t hid0 hid1 hd0 hd1 hn hr ht w hA hT hB hM (by simp) (by simp)).mono ?_
  rintro e w' ⟨g, c', kb, ga, ca, ub, uc, gb, ib, ic, rfl, hc, ⟨o1, o2, o3, o4, o5, o6, o7, o8⟩, hg, b1, b2, b3, b4, b5, b6, b7, kp⟩
  refine ⟨g, c', ib, gb, rfl, hc, hg, by omega, by omega, by omega, ⟨rfl, ⟨kb, ic, ga, ca, ub, uc, b1, b2, b3, b4, b5, b6, by omega, by omega, by omega, by omega, by omega, by omega, by omega, by omega, by omega⟩, b7, ?_, by omega, by omega⟩, kp⟩
  intro x hx
  simp [mvsOf] at hx
end Go.Proofs.YthmhdaefkhcenaaGreatDoor
namespace Go.Proofs.YthmhdaefkhcenaaGreatDoor
open Go.RowKit Go.Lib

theorem own_ne_has {w : World} {g h : Nat} {e : TypeId} {base size n c : Nat} {x y : Value} {xs ds : List Value} (hg : w.ownsRow base e size (.slice (some ⟨g, 0, none⟩) n c) n (x :: xs)) (h0 : 0 < n) (hh : Has w h (y :: ds)) (hxy : x ≠ y) : h ≠ g := by
  rintro rfl
  obtain ⟨g', e1, _, _, hH⟩ := own_has hg h0
  injection e1 with e1
  injection e1 with e1
  subst e1
  have a := hH.cell (j := 0) rfl
  rw [hh.cell (j := 0) rfl] at a
  injection a with a
  exact hxy a.symm
theorem has_ne_block {w : World} {g h : Nat} {t : TypeId} {x y : Value} {cs ds : List Value} (hg : Block w g t (x :: cs)) (hh : Has w h (y :: ds)) (hxy : x ≠ y) : h ≠ g := by
  rintro rfl
  have a := hg.cell 0
  rw [hh.cell (j := 0) rfl] at a
  injection a with a
  exact hxy a.symm
theorem zip_snoc {R : List Ref} {ks : List Nat} (h : ks.length = R.length) (y : Ref) (k : Nat) : (R ++ [y]).zip (ks ++ [k]) = R.zip ks ++ [(y, k)] := by
  rw [List.zip_append h.symm]
  rfl
theorem zip_fst {R : List Ref} {ks : List Nat} (h : ks.length = R.length) : (R.zip ks).map (·.1) = R := List.map_fst_zip (by omega)
theorem keys_ids (id : Int) (kb : Nat) (ds : Int) (n t : Nat) {R : List Ref} {ks : List Nat} (h : ks.length = R.length) : (mvP (⟨id, kb, ds, false, n, t⟩ :: mvsOf n t 0 (R.zip ks))).map Prod.fst = id :: R.map (·.id) := by
  rw [mvP_ids]
  simp only [List.map_cons, mvsOf_ids]
  congr 1
  rw [show (fun x : Ref × Nat => x.1.id) = (fun y : Ref => y.id) ∘ (fun x => x.1) from rfl, ← List.map_map, zip_fst h]
theorem keys_len (id : Int) (kb : Nat) (ds : Int) (n t : Nat) {R : List Ref} {ks : List Nat} (h : ks.length = R.length) : (mvP (⟨id, kb, ds, false, n, t⟩ :: mvsOf n t 0 (R.zip ks))).length = R.length + 1 := by
  simp [mvP, mvsOf_length, h]
theorem bk_ref (bb m ib gb lo : Nat) (sid ds : Int) (n r t : Nat) (R : List Ref) (ks : List Nat) (id day : Int) (ab ac x : Nat) (hid0 : 1 ≤ id) (hid1 : id ≤ 1099511627775) (hof0 : 1 ≤ sid) (hof1 : sid ≤ 1099511627775) (hd0 : 0 ≤ day) (hd1 : day ≤ 3652058) (hn0 : x ≠ 0) (hnp : 0 < n) (hn : n ≤ 1073741824) (hr : r ≤ 1000000) (ht : t ≤ 1073741824) (hbx : backs R + x ≤ n) (w : World)
    (hB : BookAt w bb m ib gb lo sid ds n r t R ks) (hk : R.length ≤ 900) (hnew : id ∉ sid :: R.map (·.id)) (hnd : (sid :: R.map (·.id)).Nodup) (hA : Has w ab [.int .i64 x]) (hds : ds ≤ day) :
    Calls Tryz.prog 52 #[.pointer (some ⟨bb, 0, none⟩), .agg (refC id sid day ab ac).toArray] w fun e w' => ∃ g c' ib2 kr, e = .returned (.tuple #[.slice (some ⟨g, 0, none⟩) 1 c', .int .i64 0]) ∧ 1 ≤ c' ∧ Has w' g (tlV x r (backF t n (backs R) (backs R + x))) ∧ w.heap.size ≤ g ∧ (ib2 = ib ∨ w.heap.size ≤ ib2) ∧
      BookAt w' bb m ib2 gb lo sid ds n r t (R ++ [⟨id, day, x⟩]) (ks ++ [kr]) ∧ Kept [bb, m, ib, gb] w w' := by
  have hlt := hB.lt
  have hB' := hB
  obtain ⟨hl, ⟨kb, ic, sb, sc, tb, tc, b1, b2, b3, b4, b5, b6, l1, l2, l3, d1, d2, d3, d4, d5, d6⟩, hbk, hrest, hg, hgl⟩ := hB
  have hkl := keys_len sid kb ds n t (R := R) (ks := ks) hl
  have hki := keys_ids sid kb ds n t (R := R) (ks := ks) hl
  rw [← hkl] at b3
  refine (add_ref bb m kb ib (R.length + 1) ic lo _ _ id sid day ds ab ac sb sc tb tc gb n r t x (backs R) hid0 hid1 hof0 hof1 hd0 hd1 hn0 hnp hn hr ht hbx w b1 b2 hlt.2.2.2.2.2 (by omega) b3 (by simp [mvP]) (by rw [hki]; exact hnd) ?_ ?_ b4 b5 b6 hbk hA hds hg.symm).mono ?_
  · intro p hp e
    have : p.1 ∈ sid :: R.map (·.id) := by
      rw [← hki]
      exact List.mem_map_of_mem hp
    rw [e] at this
    exact hnew this
  · intro z
    rw [List.map_append, hki]
    refine List.nodup_append.2 ⟨hnd, by simp, ?_⟩
    rintro a ha b hb rfl
    simp at hb
    subst hb
    exact hnew ha
  rintro e w' ⟨g, c', kr, ga, ca, lb, lc, ib2, ic2, rfl, hc, ⟨o1, o2, o3, o4⟩, hg', a1, a2, a3, a4, a5, a6, kp⟩
  have e1 : mvP (⟨sid, kb, ds, false, n, t⟩ :: mvsOf n t 0 ((R ++ [(⟨id, day, x⟩ : Ref)]).zip (ks ++ [kr]))) = mvP (⟨sid, kb, ds, false, n, t⟩ :: mvsOf n t 0 (R.zip ks)) ++ [(id, kr)] := by
    rw [zip_snoc hl, mvsOf_snoc]
    simp [mvP]
  have zib : ib < w.heap.size := hlt.2.1
  have n2 : ∀ k, k < w.heap.size → k ≠ ib → k ≠ ib2 := fun k h1 h2 => by rcases o4 with h | h <;> omega
  have kbb : kb ≠ bb := b4.ne_type b1 (by decide)
  have kbm := b4.ne_map b3
  have sbb : sb ≠ bb := has_ne_block b1 b5 (by simp)
  have sbm := b5.ne_map b3
  have tbb : tb ≠ bb := has_ne_block b1 b6 (by simp)
  have tbm : tb ≠ m := Has.ne_map (v := .int .i64 0) b6 b3
  have no4 : ∀ k, k ≠ bb → k ≠ m → k ≠ ib → k ≠ gb → k ∉ [bb, m, ib, gb] := fun k h1 h2 h3 h4 => by simp; exact ⟨h1, h2, h3, h4⟩
  have hkr : kr ≠ ib2 := by
    have := own_ne_block a2 a4 (by decide)
    omega
  have hlb : lb ≠ ib2 := own_ne_has a2 (by omega) a5 (by simp; omega)
  refine ⟨g, c', ib2, kr, rfl, hc, hg', o1, o4, ⟨by simp [hl], ⟨kb, ic2, sb, sc, tb, tc, by simpa using a1, by simpa using a2, ?_, b4.keptX kp (no4 _ kbb kbm d2 d1), b5.keptX kp (no4 _ sbb sbm d4 d3), b6.keptX kp (no4 _ tbb tbm d6 d5), l1, l2, l3, d1, n2 _ b4.lt d2, d3, n2 _ b5.lt d4, d5, n2 _ b6.lt d6⟩, by rw [backs_snoc]; exact a6, ?_, n2 _ hbk.lt hg, hgl⟩, kp⟩
  · rw [e1]
    simpa [hkl] using a3
  · intro z hz
    rw [zip_snoc hl, mvsOf_snoc, List.mem_append] at hz
    rcases hz with hz | hz
    · obtain ⟨c1, c2, c4, c5, c7, lb', lc', r', f1, f2, f3, f4, f5, f6, f7, f8, f9⟩ := hrest z hz
      exact ⟨c1, c2, c4, c5, c7, lb', lc', r', f1.keptX kp (no4 _ (f1.ne_type b1 (by decide)) (f1.ne_map b3) f7 f6), f2, f3.keptX kp (no4 _ (has_ne_block b1 f3 (by simp)) (Has.ne_map (v := .int .i64 0) f3 b3) f9 f8), f4, f5, f6, n2 _ f1.lt f7, f8, n2 _ f3.lt f9⟩
    · simp only [List.mem_singleton] at hz
      subst hz
      rw [zip_fst hl, Nat.zero_add]
      exact ⟨_, _, _, _, _, lb, lc, r, a4, rfl, a5, by dsimp only; omega, by omega, by dsimp only; omega, hkr, by omega, hlb⟩
theorem bk_may (bb m ib gb lo : Nat) (sid ds : Int) (n r t : Nat) (R : List Ref) (ks : List Nat) (id day : Int) (ab ac x : Nat) (hid0 : 1 ≤ id) (hid1 : id ≤ 1099511627775) (hof0 : 1 ≤ sid) (hof1 : sid ≤ 1099511627775) (hd0 : 0 ≤ day) (hd1 : day ≤ 3652058) (hn0 : x ≠ 0) (hn : n ≤ 1073741824) (hx2 : x ≤ 2147483648) (hbn : backs R ≤ n) (w : World)
    (hB : BookAt w bb m ib gb lo sid ds n r t R ks) (hnew : id ∉ sid :: R.map (·.id)) (hnd : (sid :: R.map (·.id)).Nodup) (hA : Has w ab [.int .i64 x]) (hds : ds ≤ day) (b : Bool) (hb : b = decide (n < backs R + x)) :
    Calls Tryz.prog 49 #[.pointer (some ⟨bb, 0, none⟩), .agg (refC id sid day ab ac).toArray] w fun e w' => e = .returned (.int .i64 (if b then 5 else 0)) ∧ Below w.heap.size w w' := by
  obtain ⟨hl, ⟨kb, ic, sb, sc, tb, tc, b1, b2, b3, b4, b5, b6, l1, l2, l3, d1, d2, d3, d4, d5, d6⟩, hbk, hrest, hg, hgl⟩ := hB
  have hkl := keys_len sid kb ds n t (R := R) (ks := ks) hl
  have hki := keys_ids sid kb ds n t (R := R) (ks := ks) hl
  rw [← hkl] at b3
  refine may_refund bb m kb _ _ id sid day ds ab ac sb sc tb tc gb 1 n x (backs R) hid0 hid1 hof0 hof1 hd0 hd1 hn0 w b1 b3 (by simp [mvP]) (by rw [hki]; exact hnd) ?_ b4 b5 (Has.of_block hbk) hA hds hbn hn hx2 b hb
  intro p hp e
  have : p.1 ∈ sid :: R.map (·.id) := by
    rw [← hki]
    exact List.mem_map_of_mem hp
  rw [e] at this
  exact hnew this
end Go.Proofs.YthmhdaefkhcenaaGreatDoor
