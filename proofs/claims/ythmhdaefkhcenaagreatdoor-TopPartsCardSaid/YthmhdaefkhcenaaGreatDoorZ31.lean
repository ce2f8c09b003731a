/- Lemmas for it; no condition: TIndex2 TScan3. -/
import Derived.Test.YthmhdaefkhcenaaGreatDoorZ08
import Derived.Test.YthmhdaefkhcenaaGreatDoorZ14
import Derived.Test.YthmhdaefkhcenaaGreatDoorZ24
import Derived.Test.YthmhdaefkhcenaaGreatDoorZ27
import Derived.Test.YthmhdaefkhcenaaGreatDoorZ29
import Derived.Test.YthmhdaefkhcenaaGreatDoorZ30
set_option linter.unusedVariables false
set_option linter.unusedSimpArgs false
namespace Go.Proofs.YthmhdaefkhcenaaGreatDoor
open Go.RowKit

theorem info_rg : (Tryz.prog.info? 39).map (fun i => (i.zero, i.size, i.bytes)) = some (some (.agg #[.slice none 0 0]), 1, 24) := by kernel_rfl
theorem make_once (w : World) : (Instr.makeSlice 341 (.int .i64 1) (.int .i64 1)).run Tryz.prog w = .ok (.slice (some ⟨w.heap.size, 0, none⟩) 1 1) (w.alloc (.cells #[.int .u32 0, .int .i32 0, .int .u32 0] 487)) := by kernel_rfl
theorem make_slabs (w : World) : (Instr.makeSlice 342 (.int .i64 1) (.int .i64 1)).run Tryz.prog w = .ok (.slice (some ⟨w.heap.size, 0, none⟩) 1 1) (w.alloc (.cells #[.pointer none] 433)) := by kernel_rfl
structure IxAt (w : World) (I o s : Nat) (rl t : Value) (W : World) : Prop where
  bel : Below w.heap.size w W
  flt : Block W w.heap.size 194 [.int .i64 0, .int .i64 0]
  str : Block W I 345 [.bool true, rl, t, .slice (some ⟨o, 0, none⟩) 1 1, .slice (some ⟨s, 0, none⟩) 1 1]
  once : Block W o 487 [.int .u32 0, .int .i32 0, .int .u32 0]
  slabs : Block W s 433 [.pointer none]
theorem IxAt.call {w W W' : World} {I o s : Nat} {rl t : Value} (h : IxAt w I o s rl t W) (hb : Below W.heap.size W W') : IxAt w I o s rl t W' := ⟨bel_call h.bel hb, h.flt.call hb, h.str.call hb, h.once.call hb, h.slabs.call hb⟩
theorem IxAt.set {w W : World} {I o s : Nat} {rl t : Value} (h : IxAt w I o s rl t W) (hI : w.heap.size < I) (hIo : I ≠ o) (hIs : I ≠ s) (v : Value) : IxAt w I o s v t (W.setCell ⟨I, 1, none⟩ v) :=
  ⟨bel_set h.bel (by simp; omega) _, h.flt.far (by simp; omega) _, h.str.set 1 v, h.once.far (by simp; omega) _, h.slabs.far (by simp; omega) _⟩
def IxOk (W : World) (B I : Nat) : Prop := ∃ gl gc rb rc b c t o s b1 o1 n1 cb co cn, Block W I 345 [.bool true, .slice (some ⟨gl, 0, none⟩) 1 gc, .pointer (some ⟨t, 0, none⟩), .slice (some ⟨o, 0, none⟩) 1 1, .slice (some ⟨s, 0, none⟩) 1 1] ∧
  Has W gl [.slice (some ⟨rb, 0, none⟩) 1 rc] ∧ Has W rb [.slice (some ⟨b, 0, none⟩) 4 c] ∧ Has W b boxC ∧ TreeAt W t b1 o1 n1 cb co cn ∧ Block W o 487 [.int .u32 0, .int .i32 0, .int .u32 0] ∧ Block W s 433 [.pointer none] ∧ 1 ≤ rc ∧ B ≤ o ∧ B ≤ s
def IxOk2 (W : World) (B I : Nat) : Prop := ∃ gl gc rb rc b c t o s b1 o1 n1 cb co cn, Block W I 345 [.bool true, .slice (some ⟨gl, 0, none⟩) 1 gc, .pointer (some ⟨t, 0, none⟩), .slice (some ⟨o, 0, none⟩) 1 1, .slice (some ⟨s, 0, none⟩) 1 1] ∧
  Has W gl [.slice (some ⟨rb, 0, none⟩) 1 rc] ∧ Has W rb [.slice (some ⟨b, 0, none⟩) 4 c] ∧ Has W b boxC ∧ TreeAt W t b1 o1 n1 cb co cn ∧ Block W o 487 [.int .u32 0, .int .i32 0, .int .u32 0] ∧ Block W s 433 [.pointer none] ∧ 1 ≤ rc ∧ B ≤ o ∧ B ≤ s ∧ B ≤ I ∧ B ≤ gl ∧ B ≤ rb ∧ B ≤ b ∧ B ≤ t ∧ B ≤ b1 ∧ B ≤ o1 ∧ B ≤ n1
theorem IxOk2.ok {W : World} {B I : Nat} (h : IxOk2 W B I) : IxOk W B I := by
  obtain ⟨gl, gc, rb, rc, b, c, t, o, s, b1, o1, n1, cb, co, cn, h1, h2, h3, h4, h5, h6, h7, h8, h9, h10, _⟩ := h
  exact ⟨gl, gc, rb, rc, b, c, t, o, s, b1, o1, n1, cb, co, cn, h1, h2, h3, h4, h5, h6, h7, h8, h9, h10⟩
set_option maxRecDepth 100000 in
set_option maxHeartbeats 8000000 in
theorem build_ix (gb gc rb rc b c : Nat) (w : World) (hrc : 1 ≤ rc) (hg : Has w gb [.slice (some ⟨rb, 0, none⟩) 1 rc]) (hr : Has w rb [.slice (some ⟨b, 0, none⟩) 4 c]) (h : Has w b boxC) :
    Calls Tryz.prog 143 #[.slice (some ⟨gb, 0, none⟩) 1 gc] w fun e w' => ∃ I, e = .returned (.tuple #[.pointer (some ⟨I, 0, none⟩), .agg #[.int .i64 0, .int .i64 0]]) ∧ w.heap.size ≤ I ∧ IxOk2 w' w.heap.size I ∧ Below w.heap.size w w' := by
  have hm1 := make_once
  have hm2 := make_slabs
  have hgl := hg.lt
  have hl := h.lt
  have hrl := hr.lt
  go_enter Tryz.func143, Tryz.ntmps143
  go_upto_region 3 with fail
  go_cut [4] from 15 (fun s4 W => ∃ I o s, s4 = .pointer (some ⟨I, 0, none⟩) ∧ w.heap.size < I ∧ w.heap.size < o ∧ w.heap.size < s ∧ I ≠ o ∧ I ≠ s ∧ o ≠ s ∧ IxAt w I o s (.slice none 0 0) (.pointer none) W)
  case first =>
    go_region
    all_goals go_wp2_with fail
    all_goals go_meet
    · exact ⟨w.heap.size + 1 + 1 + 1, w.heap.size + 1, w.heap.size + 1 + 1, rfl, by omega, by omega, by omega, by omega, by omega, by omega, by exact sBel, by exact sBlk, by exact sBlk, by exact sBlk, by exact sBlk⟩
    · exact ⟨w.heap.size + 1 + 1 + 1, w.heap.size + 1 + 1, w.heap.size + 1, rfl, by omega, by omega, by omega, by omega, by omega, by omega, by exact sBel, by exact sBlk, by exact sBlk, by exact sBlk, by exact sBlk⟩
  case rest =>
    obtain ⟨I, o, s, rfl, hI, ho, hs, hIo, hIs, hos, A⟩ := hcut
    have g0 := hg.call A.bel
    have kl := g0.lt; have k0 := g0.cell (j := 0) rfl
    go_wp2_with fail
    refine wp_loop_rounds 2 ?_
    rw [rounds_succ]
    go_wp2_with fail
    refine (gcheck_box apart_ok rb rc b c _ hrc (Has.alloc (hr.call A.bel) _) (Has.alloc (h.call A.bel) _)).mono ?_
    rintro e w1 ⟨rfl, hb1⟩
    have A1 : IxAt w I o s (.slice none 0 0) (.pointer none) w1 := A.call (bel_call (by exact sBel) hb1)
    have R1 : Block w1 wc.heap.size 39 [.slice (some ⟨rb, 0, none⟩) 1 rc] := by exact sBlk
    have hz1 := R1.lt
    clear k0 kl g0
    have R2 := R1
    obtain ⟨rl, rf, r0⟩ := R2.c1
    go_wp2_with fail
    refine (gbox_box rb rc b c _ (Has.alloc (hr.call A1.bel) _) (Has.alloc (h.call A1.bel) _)).mono ?_
    rintro e w2 ⟨rfl, hb2⟩
    have A2 : IxAt w I o s (.slice none 0 0) (.pointer none) w2 := A1.call (bel_call (by exact sBel) hb2)
    have R3 : Block w2 wc.heap.size 39 [.slice (some ⟨rb, 0, none⟩) 1 rc] := by exact sBlk
    clear r0 rl rf R2 hb2 hb1
    have R4 := R3
    obtain ⟨rl, rf, r0⟩ := R4.c1
    have X2 := A2.str
    obtain ⟨xl, xf, x0, x1, x2, x3, x4⟩ := X2.c5
    have past_I := past_alloc I; have pastf_I := pastf_alloc I; have pl1_I : I < w2.heap.size + 1 := (by omega); have pl2_I : I < w2.heap.size + 1 + 1 := (by omega); have pl3_I : I < w2.heap.size + 1 + 1 + 1 := (by omega); have pl4_I : I < w2.heap.size + 1 + 1 + 1 + 1 := (by omega); have pl5_I : I < w2.heap.size + 1 + 1 + 1 + 1 + 1 := (by omega)
    have past_R := past_alloc wc.heap.size
    have hzR := R3.lt
    have plr1 : wc.heap.size < w2.heap.size + 1 := by omega
    have plr2 : wc.heap.size < w2.heap.size + 1 + 1 := by omega
    have plr3 : wc.heap.size < w2.heap.size + 1 + 1 + 1 := by omega
    go_wp2_with (at_builtin; refine wpList_append_nil rfl _ _ 346 rfl 349 _ 4 32 Tryz.underlying346 info_bx rfl (w2.heap.size + 1) 0 1 1 bxC rfl rfl rfl (by intro j v hj; rw [Nat.zero_add]; exact (Block.cell (btop (cs := bxC) (by simp)) j).trans hj) (by omega) (by unfold maxLen; omega) (by omega) ?_; intro J k hJ hk)
    refine AnyBut.region (S := fun w' => w'.cell? ⟨I, 1, none⟩ = some (.slice none 0 0) ∧ w'.cell? ⟨wc.heap.size, 0, none⟩ = some (.slice (some ⟨rb, 0, none⟩) 1 rc)) (t := 11) 12 rfl (by kernel_rfl) ?_ ?_
    · refine ⟨?_, ?_⟩ <;> go_simp
    intro hS
    refine AnyBut.tk 0 hS rfl (h := ?_); refine AnyBut.tk 1 hS rfl (h := ?_); refine AnyBut.tk 2 hS rfl (h := ?_); refine AnyBut.tk 3 hS rfl (h := ?_); refine AnyBut.tk 4 hS rfl (h := ?_); refine AnyBut.tk 5 hS rfl (h := ?_)
    refine AnyBut.one (i := 6) rfl (by kernel_rfl) rfl ?_; intro K hK
    go_wp2_with fail
    refine at_world (fun W => IxAt w I o s (.slice none 0 0) (.pointer none) W ∧ Block W wc.heap.size 39 [.slice (some ⟨rb, 0, none⟩) 1 rc] ∧ Has W (w2.heap.size + 1 + 1) bxC) ⟨A2.call (by exact sBel), by exact sBlk, (has_top (news := bxC) (by simp)).drew.drew⟩ ?_
    clear x0 x1 x2 x3 x4 xl xf r0 rl rf past_I pastf_I pl1_I pl2_I pl3_I pl4_I pl5_I past_R plr1 plr2 plr3 X2 R4
    rintro W3 ⟨A3, R5, B3⟩
    refine (clone_ix rb rc b c W3 (hr.call A3.bel) (h.call A3.bel)).mono ?_
    rintro e W4 ⟨rb', rc', b', c', rfl, hrc', hr', hb', hlr, hlb, hb4⟩
    have A4 := A3.call hb4
    have R6 := R5.call hb4
    have B4 := B3.call hb4
    have X4 := A4.str
    obtain ⟨xl, xf, x0, x1, x2, x3, x4⟩ := X4.c5
    have R7 := R6
    obtain ⟨rl, rf, r0⟩ := R7.c1
    have past_I := past_alloc I; have pastf_I := pastf_alloc I; have pl1_I : I < W4.heap.size + 1 := (by omega); have pl2_I : I < W4.heap.size + 1 + 1 := (by omega); have pl3_I : I < W4.heap.size + 1 + 1 + 1 := (by omega); have pl4_I : I < W4.heap.size + 1 + 1 + 1 + 1 := (by omega); have pl5_I : I < W4.heap.size + 1 + 1 + 1 + 1 + 1 := (by omega)
    have past_R := past_alloc wc.heap.size
    have plr1 : wc.heap.size < W4.heap.size + 1 := by omega
    have plr2 : wc.heap.size < W4.heap.size + 1 + 1 := by omega
    refine hK _ _ ?_ ?_ <;> clear hK K; rotate_left; intro hS; rotate_left
    · refine ⟨?_, ?_⟩ <;> go_simp
    refine AnyBut.one (i := 7) rfl (by kernel_rfl) rfl ?_; intro K hK; go_simp; refine hK _ _ ?_ ?_ <;> clear hK K; rotate_left; intro hS; rotate_left
    · refine ⟨?_, ?_⟩ <;> go_simp
    refine AnyBut.one (i := 8) rfl (by kernel_rfl) rfl ?_; intro K hK
    refine op_append_nil _ _ 286 rfl 39 _ 1 24 Tryz.underlying286 info_rg rfl W4.heap.size 0 1 1 [.slice (some ⟨rb', 0, none⟩) 1 rc'] rfl rfl rfl (by intro j v hj; rw [Nat.zero_add]; exact (Block.cell (btop (cs := [.slice (some ⟨rb', 0, none⟩) 1 rc']) (by simp)) j).trans hj) (by omega) (by unfold maxLen; omega) (by omega) ?_
    intro J2 k2 hJ2 hk2
    refine hK _ _ ?_ ?_ <;> clear hK K; rotate_left; intro hS; rotate_left
    · refine ⟨?_, ?_⟩ <;> go_simp
    (refine AnyBut.one (i := 9) rfl (by kernel_rfl) rfl ?_; intro K hK; go_simp; refine hK _ _ hS ?_; clear hK K; intro _); (refine AnyBut.one (i := 10) rfl (by kernel_rfl) rfl ?_; intro K hK; go_simp; refine hK _ _ hS ?_; clear hK K; intro _)
    refine AnyBut.last rfl (by kernel_rfl) rfl (by kernel_rfl) ?_; intro K hK; go_simp; refine hK _ _ ?_; clear hK K
    go_wp2_with fail
    rw [rounds_succ]
    go_wp2_with fail
    obtain ⟨gl, hgl2⟩ : ∃ gl, W4.heap.size + 1 = gl := ⟨_, rfl⟩
    have hI4 := A4.str.lt
    have hrl4 := hr'.lt
    have hbl4 := hb'.lt
    have hI3 := A3.str.lt
    have hB3 := B3.lt
    refine at_world (fun W => IxAt w I o s (.slice (some ⟨gl, 0, none⟩) 1 (1 + k2)) (.pointer none) W ∧ Has W gl [.slice (some ⟨rb', 0, none⟩) 1 rc'] ∧ Has W rb' [.slice (some ⟨b', 0, none⟩) 4 c'] ∧ Has W b' boxC ∧ Has W (w2.heap.size + 1 + 1) bxC) (by
      rw [hgl2]
      exact ⟨(A4.set hI hIo hIs _).call (by exact sBel), (has_top (news := [.slice (some ⟨rb', 0, none⟩) 1 rc']) (by simp; omega)).drew, Has.drew (Has.alloc (Has.alloc (hr'.far (by simp; omega) _) _) _), Has.drew (Has.alloc (Has.alloc (hb'.far (by simp; omega) _) _) _), Has.drew (Has.alloc (Has.alloc (B4.far (by have := A2.str.lt; simp; omega) _) _) _)⟩) ?_
    clear x0 x1 x2 x3 x4 xl xf r0 rl rf past_I pastf_I pl1_I pl2_I pl3_I pl4_I pl5_I past_R plr1 plr2 X4 R7
    have hgI : gl ≠ I := by omega
    have hrI : rb' ≠ I := by omega
    have hbI : b' ≠ I := by omega
    rintro W5 ⟨A5, G5, R5', P5, B5⟩
    refine (build_bx (w2.heap.size + 1 + 1) (1 + k) W5 B5).mono ?_
    rintro e W6 ⟨t, b1, o1, n1, cb, co, cn, rfl, ht, ⟨hq1, hq2, hq3⟩, hT, hb6⟩
    have A6 := A5.call hb6
    have G6 := G5.call hb6
    have R8 := R5'.call hb6
    have P6 := P5.call hb6
    have X6 := A6.str
    obtain ⟨xl, xf, x0, x1, x2, x3, x4⟩ := X6.c5
    have F6 := A6.flt
    obtain ⟨fl, ff, f0, f1⟩ := F6.c2
    have hI5 := A5.str.lt
    go_wp2_with fail
    have sw := (A6.str.set 2 (.pointer (some ⟨t, 0, none⟩)))
    obtain ⟨hT1, hT2, hT3, hT4, hT5⟩ := hT
    have htI : t ≠ I := by omega
    have z3 := A3.bel.size
    have z4 := A4.bel.size
    have z5 := A5.bel.size
    have hb1I : b1 ≠ I := by omega
    have ho1I : o1 ≠ I := by omega
    have hn1I : n1 ≠ I := by omega
    have htF : t ≠ w.heap.size := by omega
    have hb1F : b1 ≠ w.heap.size := by have := A5.flt.lt; omega
    have ho1F : o1 ≠ w.heap.size := by have := A5.flt.lt; omega
    have hn1F : n1 ≠ w.heap.size := by have := A5.flt.lt; omega
    have hglF : gl ≠ w.heap.size := by have := A4.bel.size; omega
    have hrF : rb' ≠ w.heap.size := by have := A3.bel.size; have := A3.flt.lt; omega
    have hbF : b' ≠ w.heap.size := by have := A3.bel.size; have := A3.flt.lt; omega
    refine ret_tc (T := 194) rfl rfl rfl (((A6.flt.far (p := ⟨I, 2, none⟩) (by simp; omega) _).set 0 (.int .i64 0)).set 1 (.int .i64 0)) agg_fl size_fl ⟨I, rfl, by omega, ?_, bel_set (bel_set (bel_set A6.bel (by simp; omega) _) (by simp) _) (by simp) _⟩
    refine ⟨gl, _, rb', _, b', _, t, o, s, b1, o1, n1, _, _, _, (sw.far (by simp; omega) _).far (by simp; omega) _, ((G6.far hgI _).far hglF _).far hglF _, ((R8.far hrI _).far hrF _).far hrF _, ((P6.far hbI _).far hbF _).far hbF _,
      ⟨((hT1.far htI _).far htF _).far htF _, ((hT2.far hb1I _).far hb1F _).far hb1F _, ((hT3.far ho1I _).far ho1F _).far ho1F _, ((hT4.far hn1I _).far hn1F _).far hn1F _, hT5⟩, ((A6.once.far (by simp; omega) _).far (by simp; omega) _).far (by simp; omega) _, ((A6.slabs.far (by simp; omega) _).far (by simp; omega) _).far (by simp; omega) _, hrc', by omega, by omega, by omega, by omega, by omega, by omega, by omega, by omega, by omega, by omega⟩
end Go.Proofs.YthmhdaefkhcenaaGreatDoor
namespace Go.Proofs.YthmhdaefkhcenaaGreatDoor
open Go.RowKit Go.Lib Go.Shelf
attribute [local go_sem] Oper.semAt_some

def RowsAt (W : World) (lo : Nat) (v : Value) (L : List (List Int)) : Prop := ∃ cs : List Value, W.ownsRow lo 71 1 v L.length cs ∧ ∀ (j : Nat) (r : List Int), L[j]? = some r → 0 < r.length ∧ ∃ g c, cs[j]? = some (.slice (some ⟨g, 0, none⟩) r.length c) ∧ lo ≤ g ∧ r.length ≤ c ∧ Has W g (U8 r)
theorem RowsAt.nil (W : World) (lo : Nat) : RowsAt W lo (.slice none 0 0) [] := ⟨[], own_nil, fun j r h => by simp at h⟩
theorem Has.cells {W : World} {g : Nat} {v : Value} {cs : List Value} (h : Has W g (v :: cs)) : ∃ o, W.heap[g]? = some o ∧ o.isCells = true := by
  have hc := h.cell (j := 0) rfl
  have hl := h.lt
  cases ho : W.heap[g]? with
  | none => rw [Array.getElem?_eq_none_iff] at ho; omega
  | some o =>
    refine ⟨o, rfl, ?_⟩
    simp only [World.cell?, ho] at hc
    cases o <;> first | rfl | cases hc
theorem own_off {W W' : World} {e : TypeId} {base size n c : Nat} {A : Option Addr} {xs : List Value} (h : W.ownsRow base e size (.slice A n c) n xs) {row : Option Nat} (hg : W.grownBy W' row) (hr : ∀ r, row = some r → ∃ o : Obj, W.heap[r]? = some o ∧ o.isCells = false) : W'.ownsRow base e size (.slice A n c) n xs := by
  obtain ⟨hl, ⟨h1, h2⟩ | ⟨g, cap, cur, h1, hb, hgg, hrest⟩⟩ := h
  · exact ⟨hl, .inl ⟨h1, h2⟩⟩
  · refine ⟨hl, .inr ⟨g, cap, cur, h1, hb, (hg.block g ?_ ?_).trans hgg, hrest⟩⟩
    · rcases Nat.lt_or_ge g W.heap.size with hlt | hge
      · exact hlt
      · rw [Array.getElem?_eq_none hge] at hgg; cases hgg
    · intro e
      obtain ⟨o, ho, hc⟩ := hr g e.symm
      rw [hgg] at ho
      injection ho with ho
      subst ho
      cases hc
theorem has_off {W W' : World} {g : Nat} {r : List Int} (h0 : 0 < r.length) (h : Has W g (U8 r)) {row : Option Nat} (hg : W.grownBy W' row) (hr : ∀ r, row = some r → ∃ o : Obj, W.heap[r]? = some o ∧ o.isCells = false) : Has W' g (U8 r) := by
  refine h.grown hg (fun e => ?_)
  cases r with
  | nil => simp at h0
  | cons x r =>
    obtain ⟨o, ho, hc⟩ := Has.cells h
    obtain ⟨o', ho', hc'⟩ := hr g e.symm
    rw [ho] at ho'
    injection ho' with ho'
    subst ho'
    rw [hc] at hc'
    cases hc'
theorem RowsAt.off {W W' : World} {lo : Nat} {v : Value} {L : List (List Int)} (h : RowsAt W lo v L) {row : Option Nat} (hg : W.grownBy W' row) (hr : ∀ r, row = some r → ∃ o : Obj, W.heap[r]? = some o ∧ o.isCells = false) : RowsAt W' lo v L := by
  obtain ⟨cs, hO, hc⟩ := h
  obtain ⟨A, c, rfl, _⟩ := own_form hO
  refine ⟨cs, own_off hO hg hr, fun j r hj => ?_⟩
  obtain ⟨h0, g, c, h1, h2, h3, h4⟩ := hc j r hj
  exact ⟨h0, g, c, h1, h2, h3, has_off h0 h4 hg hr⟩
theorem RowsAt.call {W W' : World} {lo : Nat} {v : Value} {L : List (List Int)} (h : RowsAt W lo v L) (hb : Below W.heap.size W W') : RowsAt W' lo v L := by
  obtain ⟨cs, hO, hc⟩ := h
  refine ⟨cs, own_below hO hb, fun j r hj => ?_⟩
  obtain ⟨h0, g, c, h1, h2, h3, h4⟩ := hc j r hj
  exact ⟨h0, g, c, h1, h2, h3, h4.call hb⟩
theorem RowsAt.far {W : World} {lo : Nat} {v : Value} {L : List (List Int)} (h : RowsAt W lo v L) {p : Addr} (hp : p.block < lo) (u : Value) : RowsAt (W.setCell p u) lo v L := by
  obtain ⟨cs, hO, hc⟩ := h
  refine ⟨cs, own_far hO hp u, fun j r hj => ?_⟩
  obtain ⟨h0, g, c, h1, h2, h3, h4⟩ := hc j r hj
  exact ⟨h0, g, c, h1, h2, h3, h4.far (by omega) u⟩
theorem RowsAt.snoc {w1 w2 : World} {lo g1 c1 g2 c2 c0 : Nat} {A0 : Option Addr} {L : List (List Int)} {cs : List Value} {r : List Int} {o : Obj} (O1 : w1.ownsRow lo 71 1 (.slice A0 L.length c0) L.length cs)
    (hcs : ∀ (j : Nat) (r : List Int), L[j]? = some r → 0 < r.length ∧ ∃ g c, cs[j]? = some (.slice (some ⟨g, 0, none⟩) r.length c) ∧ lo ≤ g ∧ r.length ≤ c ∧ Has w1 g (U8 r)) (G : (w1.alloc o).grownBy w2 (Value.slice A0 L.length c0).ownBlock)
    (O2 : w2.ownsRow lo 71 1 (.slice (some ⟨g2, 0, none⟩) (L.length + 1) c2) (L.length + 1) (cs ++ [.slice (some ⟨g1, 0, none⟩) r.length c1])) (H1 : Has w1 g1 (U8 r)) (hr : 0 < r.length) (hc1 : r.length ≤ c1) (hlo : lo ≤ g1) (hk : ∀ k, (Value.slice A0 L.length c0).ownBlock = some k → k ≠ g1) :
    RowsAt w2 lo (.slice (some ⟨g2, 0, none⟩) (L.length + 1) c2) (L ++ [r]) := by
  have hl : cs.length = L.length := by have := O1.1; omega
  refine ⟨cs ++ [.slice (some ⟨g1, 0, none⟩) r.length c1], by simpa using O2, fun j x hj => ?_⟩
  rcases Nat.lt_or_ge j L.length with h | h
  · rw [List.getElem?_append_left h] at hj
    obtain ⟨h0, g, c, e1, e2, e3, e4⟩ := hcs j x hj
    refine ⟨h0, g, c, by rw [List.getElem?_append_left (by omega)]; exact e1, e2, e3, (e4.alloc o).grown G (fun e => ?_)⟩
    obtain ⟨g0, rfl, _, _, hH⟩ := own_has O1 (by omega)
    have eg : g = g0 := by simpa [Value.ownBlock] using e
    subst eg
    cases cs with
    | nil => simp at hl; omega
    | cons y cs =>
      obtain ⟨h00, g', c', f1, _⟩ := hcs 0 (L[0]'(by omega)) (by simp)
      have k1 := hH.cell (j := 0) f1
      cases x with
      | nil => simp at h0
      | cons z x =>
        have k2 := e4.cell (j := 0) (v := .int .u8 z) rfl
        rw [k1] at k2
        cases k2
  · have hj2 : j = L.length := by have := (List.getElem?_eq_some_iff.1 hj).1; simp at this; omega
    subst hj2
    simp at hj
    subst hj
    exact ⟨hr, g1, c1, by rw [← hl]; simp, hlo, hc1, (H1.alloc o).grown G (fun e => hk _ e.symm rfl)⟩
theorem infoSl8 : (Tryz.prog.info? 71).map (fun i => (i.zero, i.size, i.bytes)) = some (some (.slice none 0 0), 1, 24) := by kernel_rfl
set_option maxRecDepth 100000 in
set_option maxHeartbeats 8000000 in
theorem scan_inn (n : Nat) (hn : 6 ≤ n) (A : Option Addr) (nb cb B : Nat) (L : List (List Int)) (w : World) (hL : ∀ r ∈ L, (∀ x ∈ r, 0 ≤ x ∧ x ≤ 255) ∧ 0 < r.length ∧ r.length ≤ 60000) (hLn : L.length ≤ 1000) (hnb : nb = (framesL L).length) (hnc : nb ≤ cb) (hnm : nb ≤ 1000000)
    (hS : Shows w B 1 A nb (U8 (framesL L))) (hB : B ≤ w.heap.size) :
    CallsIn Fence.wide n Tryz.prog 115 #[.slice A nb cb] w fun e w' => ∃ v z, e = .returned (.tuple #[v, .int .i64 z, .int .i64 0]) ∧ RowsAt w' (w.heap.size + 5) v L ∧ Below w.heap.size w w' := by
  have h1 : 1 ≤ n := by omega
  have hnb' := Lib.hid hnb
  clear hnb
  refine callsIn_of_wp_marks Tryz.func115 rfl trivial ?_ rfl
  simp only [Tryz.ntmps115, List.size_toArray, List.length_cons, List.length_nil, Nat.reduceAdd, Nat.reduceSub, Array.replicate_succ, Array.replicate_zero, List.push_toArray, List.append_toArray, List.nil_append, List.cons_append]
  gi_wp2_with (refine ⟨trivial, ?_⟩; gi_at_call 161; refine (frames_in Fence.wide (n - 1) trivial rfl A nb cb (w.heap.size + 1 + 1) _).mono ?_; rintro e w' ⟨rfl, rfl⟩)
  have hF : ∃ W0, (((((w.alloc (.cells #[.slice none 0 0] 139)).alloc (.cells #[.int .i64 0] 3)).alloc (.cells #[.int .i64 0] 3)).alloc (.cells #[.slice A nb cb] 71)).alloc (.cells #[.pointer (some ⟨w.heap.size + 1 + 1, 0, none⟩)] 161)) = W0 ∧ Below w.heap.size w W0 ∧ W0.heap.size = w.heap.size + 5 ∧
      Block W0 w.heap.size 139 [.slice none 0 0] ∧ Block W0 (w.heap.size + 1) 3 [.int .i64 0] ∧ Block W0 (w.heap.size + 1 + 1) 3 [.int .i64 0] ∧ Block W0 (w.heap.size + 1 + 1 + 1) 71 [.slice A nb cb] ∧ Block W0 (w.heap.size + 1 + 1 + 1 + 1) 161 [.pointer (some ⟨w.heap.size + 1 + 1, 0, none⟩)] :=
    ⟨_, rfl, by exact sBel, by simp, by exact sBlk, by exact sBlk, by exact sBlk, by exact sBlk, by exact sBlk⟩
  obtain ⟨W0, hW0, bel0, hsz, B0, B1, B2, B3, B4⟩ := hF
  rw [hW0]
  clear hW0
  refine wpIn_rangeFunc_ownF (F := Fence.wide) rfl h1 (gf := 225) (lb := #[.pointer (some ⟨w.heap.size + 1 + 1 + 1, 0, none⟩), .pointer (some ⟨w.heap.size + 1 + 1 + 1 + 1, 0, none⟩)]) rfl trivial (enters_of Tryz.func225 (by kernel_rfl) rfl)
    (frames_stops (n - 1) (by omega) (w.heap.size + 1 + 1 + 1) (w.heap.size + 1 + 1 + 1 + 1) (w.heap.size + 1 + 1) B nb cb W0.heap.size A [w.heap.size, w.heap.size + 1] L W0 (Nat.le_refl _) (by omega) (by omega) (by omega) hL hnb'.out hnc hnm (hS.below (bel0.mono hB)) (by omega) B3 B4 B2 (by simp; omega) (by simp; omega) (by simp; omega) (by simp; omega))
    (fun h k => h.trans k) (keptB_b (Nat.le_refl _)) (Below.refl _ _) (fun _ => rfl)
    (fun pre W => (∃ v z, Block W w.heap.size 139 [v] ∧ Block W (w.heap.size + 1) 3 [.int .i64 z] ∧ RowsAt W (w.heap.size + 5) v (pre.map (·.1.xs))) ∧ Block W (w.heap.size + 1 + 1) 3 [.int .i64 0] ∧ Below w.heap.size w W ∧ W0.heap.size ≤ W.heap.size)
    (fun _ _ _ => False)
    (fun pre W W' row hs hg hr => by
      obtain ⟨⟨v, z, i1, i2, i3⟩, i4, i5, i6⟩ := hs
      exact ⟨⟨v, z, block_own _ _ _ _ () W W' row i1 hg hr, block_own _ _ _ _ () W W' row i2 hg hr, i3.off hg (fun r e => (hr r e).2)⟩, block_own _ _ _ _ () W W' row i4 hg hr, i5.grown hg i5.size (fun k hk => by have := (hr k hk).1; omega), Nat.le_trans i6 hg.size⟩)
    (fun _ _ _ _ _ hs _ _ => hs)
    ⟨⟨_, 0, B0, B1, RowsAt.nil _ _⟩, B2, bel0, Nat.le_refl _⟩
    (fun x => { tmps := #[.slice A nb cb, undef, .slice none 0 0, .int .i64 0, .int .i64 0, .pointer (some ⟨w.heap.size, 0, none⟩), .pointer (some ⟨w.heap.size + 1, 0, none⟩), .pointer (some ⟨w.heap.size + 1 + 1, 0, none⟩), .slice x.1.A x.1.n x.1.c, .int .i64 x.1.e, .slice A nb cb, .func (.func 225) #[] #[.pointer (some ⟨w.heap.size + 1 + 1 + 1, 0, none⟩), .pointer (some ⟨w.heap.size + 1 + 1 + 1 + 1, 0, none⟩)], .slice x.1.A x.1.n x.1.c, .int .i64 x.1.e, undef, undef, undef, undef, undef, undef, undef, undef, undef, undef], defers := [] })
    ?assign ?body ?done ?stop
  case assign =>
    intro l x W K hK
    simp only [recN]
    gi_wp2
    exact hK
  case body =>
    rintro l pre ⟨x, hx⟩ W ⟨⟨v, z, i1, i2, i3⟩, i4, i5, i6⟩ hlt
    obtain ⟨hx1, hx2, hx3, hx4⟩ := hx
    have hxW : Shows W B 1 x.A x.n (U8 x.xs) := hx1.same fun p hp => (i5.cell (p := p) (by omega)).trans (bel0.cell (p := p) (by omega)).symm
    obtain ⟨xb, xo, hxA, hxB, hxc⟩ := hxW.at_ hx2
    obtain ⟨cs, O3, hcs⟩ := i3
    rw [List.length_map] at O3
    obtain ⟨A0, c0, rfl, _⟩ := own_form O3
    have hpl : pre.length < 1000 := by omega
    have hxl : x.xs.length = x.n := by simpa [U8] using hx1.1
    have C1 := i1
    have C2 := i2
    obtain ⟨ol, of, o0⟩ := C1.c1
    obtain ⟨sl, sf, s0⟩ := C2.c1
    gi_upto_region 6 with fail
    refine AnyTo.round (S := fun w' => w'.cell? ⟨w.heap.size, 0, none⟩ = some (.slice A0 pre.length c0)) (t := 7) 9 rfl (by kernel_rfl) (by kernel_rfl) (by rintro ⟨a, w, h⟩; exact h) ?_ ?_
    · exact o0
    intro hS
    (refine AnyTo.take (i := 0) (v := ?_) rfl (by kernel_rfl) (by kernel_rfl) (by kernel_rfl) (by kernel_rfl) (by decide) (fun _ _ _ h => h) (by rfl) ?_ hS ?_; rotate_left; (intro w' hw'; go_simp; try with_reducible rfl); try simp only [Act.put, List.setIfInBounds_toArray, List.set_cons_zero, List.set_cons_succ])
    (refine AnyTo.take (i := 2) (v := ?_) rfl (by kernel_rfl) (by kernel_rfl) (by kernel_rfl) (by kernel_rfl) (by decide) (fun _ _ _ h => h) (by rfl) ?_ hS ?_; rotate_left; (intro w' hw'; go_simp; try with_reducible rfl); try simp only [Act.put, List.setIfInBounds_toArray, List.set_cons_zero, List.set_cons_succ])
    (refine AnyTo.takeT (i := 6) (v := ?_) rfl (by kernel_rfl) (by kernel_rfl) (by kernel_rfl) (by kernel_rfl) (by decide) (fun _ _ _ h => h) (by rfl) ?_ hS ?_; rotate_left; (intro w'; go_simp; try with_reducible rfl); try simp only [Act.put, List.setIfInBounds_toArray, List.set_cons_zero, List.set_cons_succ])
    clear hS
    refine AnyTo.one (i := 1) rfl (by kernel_rfl) rfl (by decide) ?_; intro K hK
    go_simp
    refine hK _ _ ?_ ?_ <;> clear hK K
    · exact (World.cell?_alloc_lt W _ ⟨w.heap.size, 0, none⟩ ol).trans o0
    intro hS
    clear hS
    refine AnyTo.one (i := 3) rfl (by kernel_rfl) rfl (by decide) ?_; intro K hK
    refine op_append_own _ _ 71 rfl 5 _ 1 1 Tryz.underlying71 infoU8 rfl (by decide) W.heap.size (.slice (some ⟨W.heap.size, 0, none⟩) 0 0) 0 [] rfl (own_zero (J := #[]) (k := 0) (heap_alloc_new W.drew _) (Nat.le_refl _) rfl (by simp)) xb xo x.n x.c (U8 x.xs) rfl (by simpa [U8] using hxl)
      (by intro j v hj; exact (World.cell?_alloc_lt W.drew _ ⟨xb, xo + j, none⟩ (by show xb < W.heap.size; omega)).trans ((hxc j (List.getElem?_eq_some_iff.1 hj).1).trans (by rw [List.getD, hj]; rfl))) (nums_one .u8 _) hx2 (by unfold maxLen; omega) (by omega) (by simp) ?_
    intro g1 c1 w1 hg1 hc1 OO1 HH1 GG1
    have bel1 : Below W.heap.size W w1 := Below.grown (Below.alloc (Below.drew (Below.refl _ _)) (Nat.le_refl _) _) GG1 (by simp) (fun k hk => by simp [Value.ownBlock] at hk; omega)
    have ko1 : KeepsOthers W w1 := ((KeepsOthers.drew W).trans (KeepsOthers.alloc _ _)).trans (KeepsOthers.of_grownBy GG1 (fun j o hj ho => by
      have e : j = W.heap.size := by simp [Value.ownBlock] at hj; omega
      subst e
      have hn := heap_alloc_new W.drew (.cells #[] 5)
      rw [show W.drew.heap.size = W.heap.size from rfl] at hn
      rw [hn] at ho
      injection ho with ho
      subst ho
      rfl))
    have z1 := bel1.size
    have g1l := HH1.lt
    rw [Nat.zero_add, List.nil_append] at *
    clear OO1 GG1
    refine hK _ _ ?_ ?_ <;> clear hK K
    · exact (i1.call bel1).cell 0
    intro hS
    clear hS
    refine AnyTo.one (i := 4) rfl (by kernel_rfl) rfl (by decide) ?_; intro K hK
    go_simp
    refine hK _ _ ?_ ?_ <;> clear hK K
    · exact ((i1.call bel1).alloc _).cell 0
    intro hS
    clear hS
    refine AnyTo.one (i := 5) rfl (by kernel_rfl) rfl (by decide) ?_; intro K hK
    have O31 := own_below O3 bel1
    refine op_append_own _ _ 139 rfl 71 _ 1 24 Tryz.underlying139 infoSl8 rfl (by decide) (w.heap.size + 5) (.slice A0 pre.length c0) pre.length cs rfl (own_below O31 (bel_alloc (Below.refl _ _) _)) w1.heap.size 0 1 1 [.slice (some ⟨g1, 0, none⟩) x.n c1] rfl rfl
      (by intro j v hj; rw [Nat.zero_add]; exact (Block.cell (btop (cs := [.slice (some ⟨g1, 0, none⟩) x.n c1]) rfl) j).trans hj) (by intro u hu; simp at hu; subst hu; rfl) (by omega) (by unfold maxLen; omega) (by omega) (by simp; omega) ?_
    intro g2 c2 w2 hg2 hc2 OO2 HH2 GG2
    have bel2 : Below (w.heap.size + 5) W w2 := ((bel1.mono (by omega)).alloc (by omega) _).grown GG2 (by simp; omega) (fun k hk => (O31.lt k hk).1)
    have ko2 : KeepsOthers W w2 := (ko1.trans (KeepsOthers.alloc _ _)).trans (KeepsOthers.of_grownBy GG2 (fun j o hj ho => by
      obtain ⟨_, ⟨h1, _⟩ | ⟨g, cap, cur, h1, hb, hgg, _⟩⟩ := own_below O31 (bel_alloc (Below.refl _ _) (.cells #[.slice (some ⟨g1, 0, none⟩) x.n c1] 71))
      · injection h1 with h1
        subst h1
        simp [Value.ownBlock] at hj
      · injection h1 with h1
        subst h1
        have e : j = g := by simp [Value.ownBlock] at hj; omega
        subst e
        rw [hgg] at ho
        injection ho with ho
        subst ho
        rfl))
    have R2 := RowsAt.snoc (L := pre.map (·.1.xs)) (r := x.xs) (by simpa using O31) (fun j r hj => by obtain ⟨h0, g, c, e1, e2, e3, e4⟩ := hcs j r hj; exact ⟨h0, g, c, e1, e2, e3, e4.call bel1⟩) (by simpa using GG2) (by rw [hxl]; simpa using OO2) HH1 (by omega) (by omega) (by omega) (fun k hk e => by have := (O3.lt k (by simpa using hk)).2; omega)
    have E1 : Block w2 w.heap.size 139 [.slice A0 pre.length c0] := by simpa using (i1.below bel2 (by omega))
    have E2 := i2.below bel2 (by omega)
    have E4 := i4.below bel2 (by omega)
    have b5 := i5.trans (bel2.mono (by omega))
    have z2 := bel2.size
    clear o0 ol of s0 sl sf C1 C2 i1 i2 O31 O3 hcs OO2 HH1 HH2 GG2 hxc
    have C1 := E1
    have C2 := E2
    obtain ⟨ol, of, o0⟩ := C1.c1
    obtain ⟨sl, sf, s0⟩ := C2.c1
    refine hK _ _ ?_ ?_ <;> clear hK K
    · exact o0
    intro hS
    clear hS
    refine AnyTo.turn rfl (by kernel_rfl) rfl ?_; intro K hK
    go_simp
    refine hK _ _ ?_ <;> clear hK K
    have hS : (fun _ : World => True) w2 := trivial
    refine AnyBut.one (i := 8) rfl (by kernel_rfl) rfl ?_; intro K hK
    go_simp
    refine hK _ _ trivial ?_ <;> clear hK K
    intro _
    refine AnyBut.done (by kernel_rfl) ?_
    refine ⟨(ko2.trans (KeepsOthers.setCell _ _ _)).trans (KeepsOthers.setCell _ _ _), ⟨by simp [World.setCell]; omega, fun k hk hX => ?_⟩, ⟨_, x.e, ((E1.set 0 _).far (by simp) _), ((E2.far (by simp) _).set 0 _), ?_⟩, (E4.far (by simp; omega) _).far (by simp) _, Below.setCell (Below.setCell b5 (by simp) _) (by simp) _, by simp [World.setCell]; omega⟩
    · simp only [List.mem_cons, List.not_mem_nil, or_false, not_or] at hX
      exact ((Below.heap_setCell _ _ _ k (by simpa using hX.2)).trans (Below.heap_setCell _ _ _ k (by simpa using hX.1))).trans (bel2.block k (by omega))
    · simpa using (R2.far (p := ⟨w.heap.size, 0, none⟩) (by simp) _).far (p := ⟨w.heap.size + 1, 0, none⟩) (by simp) _
  case done =>
    rintro D ys W hD hys ⟨⟨v, z, i1, i2, i3⟩, i4, i5, i6⟩ hK
    rw [hys] at i3
    have C1 := i1
    have C2 := i2
    have C4 := i4
    obtain ⟨ol, of, o0⟩ := C1.c1
    obtain ⟨sl, sf, s0⟩ := C2.c1
    obtain ⟨rl, rf, r0⟩ := C4.c1
    gi_upto_region 7 with fail
    gi_region
    all_goals gi_wp2
    refine ⟨by simp, .inl ⟨_, _, rfl, run_takeDeferred hK, ?_⟩⟩
    refine ⟨.tuple #[v, .int .i64 z, .int .i64 0], by simp [results, Tryz.f115, go_sem], v, z, rfl, (i3.call (W' := W.drew) (Below.drew (Below.refl _ _))).off (grownBy_putObj' W.drew D (.deferred none)) (fun r e => by injection e with e; subst e; exact ⟨_, hK, rfl⟩), (Below.drew i5).trans (belowK_b (w := w) (Nat.le_refl _) W.drew D _ _ (by omega) hK rfl rfl)⟩
  case stop =>
    rintro D c pre W _ _ h _
    exact h.elim
theorem scan_any (A : Option Addr) (nb cb B : Nat) (L : List (List Int)) (w : World) (hL : ∀ r ∈ L, (∀ x ∈ r, 0 ≤ x ∧ x ≤ 255) ∧ 0 < r.length ∧ r.length ≤ 60000) (hLn : L.length ≤ 1000) (hnb : nb = (framesL L).length) (hnc : nb ≤ cb) (hnm : nb ≤ 1000000)
    (hS : Shows w B 1 A nb (U8 (framesL L))) (hB : B ≤ w.heap.size) :
    Calls Tryz.prog 115 #[.slice A nb cb] w fun e w' => ∃ v z, e = .returned (.tuple #[v, .int .i64 z, .int .i64 0]) ∧ RowsAt w' (w.heap.size + 5) v L ∧ Below w.heap.size w w' :=
  callsIn_wide.1 (scan_inn 6 (by omega) A nb cb B L w hL hLn hnb hnc hnm hS hB)
end Go.Proofs.YthmhdaefkhcenaaGreatDoor
