/- The walk of the state between parts. -/
import Derived.Test.YtkdgomalhngagaaDoorTkClass
import Derived.Laws.EntriesVeiled
namespace Go.Proofs.YtkdgomalhngagaaDoor
open Go.RowKit Go.Lib

theorem infoT : (Tryd.prog.info? 31).map (fun i => (i.zero, i.size, i.bytes)) = some (some (.agg #[.int .i64 0, .string ⟨#[]⟩]), 2, 24) := by kernel_rfl
/-- The states. -/
def fnV (b : Bool) : Value := if b then .func (.func 36) #[] #[] else .func (.func 25) #[] #[]
theorem fnV_true : fnV true = .func (.func 36) #[] #[] := rfl
theorem fnV_false : fnV false = .func (.func 25) #[] #[] := rfl
/-- The cutter with its tokens. -/
def CutT (w : World) (C : Nat) (s : ByteArray) (out : List Tok.Tk) (p : Int) : Prop := ∃ A n c, Cut w C s (.slice A n c) p ∧ w.ownsRow (C + 1) 31 2 (.slice A n c) n (TC out) ∧ n = out.length
def StepR (C : Nat) (s : ByteArray) (st : Bool) (out : List Tok.Tk) (p : Int) (w : World) (e : Ending) (w' : World) : Prop := e = .returned (fnV st) ∧ CutT w' C s out p ∧ Below C w w'
def apO (x : Int) (out : List Tok.Tk) : List Tok.Tk := if x = 44 then out ++ [(4, [44])] else if x = 35 then out ++ [(5, [35])] else out
theorem shows_tk (w : World) (x : Tok.Tk) (t : TypeId) (g : Nat) (hg : g = w.heap.size) : Shows (w.alloc (.cells #[.int .i64 x.1, .string (strOfNums x.2)] t)) (g + 1) 2 (some ⟨g, 0, none⟩) 1 (TC [x]) := by
  subst hg
  have h := Block.new w t [.int .i64 x.1, .string (strOfNums x.2)]
  exact Block.shows h (n := 1) (size := 2) rfl
theorem Cut.alloc {w : World} {C : Nat} {s : ByteArray} {sl : Value} {p : Int} (h : Cut w C s sl p) (o : Obj) : Cut (w.alloc o) C s sl p := Block.alloc h o
theorem Cut.grown {w w' : World} {C : Nat} {s : ByteArray} {sl : Value} {p : Int} (h : Cut w C s sl p) {e : TypeId} {n : Nat} {v : Value} {xs : List Value} (hown : w.ownsRow (C + 1) e 2 v n xs) (hg : w.grownBy w' v.ownBlock) : Cut w' C s sl p :=
  (hg.block _ h.lt (fun e => by have := (hown.lt _ e.symm).1; omega)).trans h
theorem below_own {w w' : World} {C : Nat} {e : TypeId} {n : Nat} {v : Value} {xs : List Value} (hown : w.ownsRow (C + 1) e 2 v n xs) (hC : C ≤ w.heap.size) (hg : w.grownBy w' v.ownBlock) : Below C w w' :=
  (Below.refl C w).grown hg hC (fun g h => by have := (hown.lt g h).1; omega)
theorem below_drewN {B : Nat} {w a : World} (h : Below B w a) (n : Nat) : Below B w (a.drewN n) := ⟨h.os, h.tape, h.output, h.size, h.block⟩
set_option maxRecDepth 100000 in
set_option maxHeartbeats 4000000 in
theorem apart_at {w : World} {C : Nat} {s : ByteArray} {out : List Tok.Tk} {p : Int} (h : CutT w C s out p) (hs : s.size ≤ 1000000) (i : Nat) (_ : i ≤ s.size) (hn : out.length ≤ 2000000) :
    Calls Tryd.prog 25 #[.pointer (some ⟨C, 0, none⟩), .int .i64 (i : Int)] w (StepR C s (decide (Tok.snd (cAt s i))) (apO (cAt s i) out) i w) := by
  obtain ⟨A, n, c, hcut, hown, hlen⟩ := h
  have hn' : n ≤ 2000000 := by omega
  have Hlen := Lib.hid hlen
  clear hlen hn
  obtain ⟨i0, hi, hz0, hz1, hz2⟩ := info_parts infoT
  have hfree := hcut.free 258
  have hat := hcut.at_
  have hcut0 := hcut.setAt (i : Int)
  have hown0 := ownsRow_setCell_below hown (a := ⟨C, 258, none⟩) (Nat.lt_succ_self _) (.int .i64 (i : Int))
  have hb0 : Below C w (w.setCell ⟨C, 258, none⟩ (.int .i64 (i : Int))) := (Below.refl C w).setCell (p := ⟨C, 258, none⟩) (Nat.le_refl _) _
  have hcls := class_at hcut0 (by omega) i
  have hlt := hcut.lt
  generalize hx : cAt s i = x at *
  have Hx := Lib.hid hx
  clear hx
  by_cases hS : Tok.snd x
  · rw [decide_eq_true hS]
    have hO : apO x out = out := by unfold apO; rw [if_neg (by rintro rfl; exact absurd hS (by decide)), if_neg (by rintro rfl; exact absurd hS (by decide))]
    rw [hO]
    have hv : clsN x = 2 ∨ clsN x = 3 := hS.elim (fun h => .inl (cls_L h)) (fun h => .inr (cls_D h))
    clear hO hS
    rcases hv with hv | hv
    · rw [hv] at hcls
      clear hv
      go_enter Tryd.func25, Tryd.ntmps25
      go_wp2_with fail
      refine hcls.mono ?_
      rintro e w1 ⟨rfl, k, hk⟩
      have Hk := Lib.hid hk
      clear hk
      go_wp2_with fail
      go_ret
      have hk := Hk.out
      subst hk
      exact ⟨rfl, ⟨A, n, c, hcut0, hown0, Hlen.out⟩, below_drewN hb0 k⟩
    · rw [hv] at hcls
      clear hv
      go_enter Tryd.func25, Tryd.ntmps25
      go_wp2_with fail
      refine hcls.mono ?_
      rintro e w1 ⟨rfl, k, hk⟩
      have Hk := Lib.hid hk
      clear hk
      go_wp2_with fail
      go_ret
      have hk := Hk.out
      subst hk
      exact ⟨rfl, ⟨A, n, c, hcut0, hown0, Hlen.out⟩, below_drewN hb0 k⟩
  · rw [decide_eq_false hS]
    obtain ⟨n2, n3⟩ := cls_not hS
    by_cases h44 : x = 44
    · subst h44
      have hO : apO 44 out = out ++ [(4, [44])] := rfl
      rw [hO]
      rw [show clsN 44 = 5 by decide] at hcls
      clear hO hS n2 n3
      go_enter Tryd.func25, Tryd.ntmps25
      go_wp2_with fail
      refine hcls.mono ?_
      rintro e w1 ⟨rfl, k, hk⟩
      obtain ⟨hcut1, hown1, hb1⟩ : Cut w1 C s (.slice A n c) (i : Int) ∧ w1.ownsRow (C + 1) 31 2 (.slice A n c) n (TC out) ∧ Below C w w1 := by subst hk; exact ⟨hcut0, hown0, below_drewN hb0 k⟩
      clear hk hcut0 hown0 hb0 hfree hat hcls
      have hz1' := hcut1.lt
      have c257 := hcut1.out
      have f257 := hcut1.free 257
      go_wp2_with (at_builtin; refine wpList_append_shows _ rfl _ _ 22 rfl (C + 1) 31 i0 (.agg #[.int .i64 0, .string ⟨#[]⟩]) 2 24 Tryd.underlying22 hi hz0 hz1 hz2 rfl (by decide) _ n (TC out) rfl (by exact World.ownsRow.alloc hown1 _) _ (some ⟨w1.heap.size, 0, none⟩) 1 1 (TC [(4, [44])]) rfl (by exact shows_tk w1 (4, [44]) _ _ rfl) (tc_one _) (by unfold maxLen; omega) (by omega) (by simp; omega) ?_; intro A2 c2 w2 hown2 hg2; have hcut2 := Cut.grown (Cut.alloc hcut1 _) (World.ownsRow.alloc hown1 _) hg2; have d257 := hcut2.out; have f2 := hcut2.free 257)
      go_ret
      refine ⟨rfl, ⟨A2, n + 1, c2, hcut2.setSl _, ?_, by simp [Hlen.out]⟩, ?_⟩
      · rw [tc_append]
        exact ownsRow_setCell_below hown2 (a := ⟨C, 257, none⟩) (Nat.lt_succ_self _) _
      · exact ((hb1.trans ((Below.refl C w1).alloc (Nat.le_of_lt hz1') _)).trans (below_own (World.ownsRow.alloc hown1 _) (by simp; omega) hg2)).setCell (p := ⟨C, 257, none⟩) (Nat.le_refl _) _
    · by_cases h35 : x = 35
      · subst h35
        have hO : apO 35 out = out ++ [(5, [35])] := rfl
        rw [hO]
        rw [show clsN 35 = 6 by decide] at hcls
        clear hO hS n2 n3
        go_enter Tryd.func25, Tryd.ntmps25
        go_wp2_with fail
        refine hcls.mono ?_
        rintro e w1 ⟨rfl, k, hk⟩
        obtain ⟨hcut1, hown1, hb1⟩ : Cut w1 C s (.slice A n c) (i : Int) ∧ w1.ownsRow (C + 1) 31 2 (.slice A n c) n (TC out) ∧ Below C w w1 := by subst hk; exact ⟨hcut0, hown0, below_drewN hb0 k⟩
        clear hk hcut0 hown0 hb0 hfree hat hcls
        have hz1' := hcut1.lt
        have c257 := hcut1.out
        have f257 := hcut1.free 257
        go_wp2_with (at_builtin; refine wpList_append_shows _ rfl _ _ 22 rfl (C + 1) 31 i0 (.agg #[.int .i64 0, .string ⟨#[]⟩]) 2 24 Tryd.underlying22 hi hz0 hz1 hz2 rfl (by decide) _ n (TC out) rfl (by exact World.ownsRow.alloc hown1 _) _ (some ⟨w1.heap.size, 0, none⟩) 1 1 (TC [(5, [35])]) rfl (by exact shows_tk w1 (5, [35]) _ _ rfl) (tc_one _) (by unfold maxLen; omega) (by omega) (by simp; omega) ?_; intro A2 c2 w2 hown2 hg2; have hcut2 := Cut.grown (Cut.alloc hcut1 _) (World.ownsRow.alloc hown1 _) hg2; have d257 := hcut2.out; have f2 := hcut2.free 257)
        go_ret
        refine ⟨rfl, ⟨A2, n + 1, c2, hcut2.setSl _, ?_, by simp [Hlen.out]⟩, ?_⟩
        · rw [tc_append]
          exact ownsRow_setCell_below hown2 (a := ⟨C, 257, none⟩) (Nat.lt_succ_self _) _
        · exact ((hb1.trans ((Below.refl C w1).alloc (Nat.le_of_lt hz1') _)).trans (below_own (World.ownsRow.alloc hown1 _) (by simp; omega) hg2)).setCell (p := ⟨C, 257, none⟩) (Nat.le_refl _) _
      · have hO : apO x out = out := by unfold apO; rw [if_neg h44, if_neg h35]
        rw [hO]
        have hv : clsN x ≠ 5 ∧ clsN x ≠ 6 := by
          unfold clsN
          rw [if_neg (fun g => hS (.inl g)), if_neg (fun g => hS (.inr g)), if_neg h44, if_neg h35]
          repeat' split <;> first | omega | skip
        clear hO h44 h35 hS
        generalize clsN x = v at *
        obtain ⟨n5, n6⟩ := hv
        have t2 : (v == 2) = false := by simpa using n2
        have t3 : (v == 3) = false := by simpa using n3
        have t5 : (v == 5) = false := by simpa using n5
        have t6 : (v == 6) = false := by simpa using n6
        clear n2 n3 n5 n6
        go_enter Tryd.func25, Tryd.ntmps25
        go_wp2_with fail
        refine hcls.mono ?_
        rintro e w1 ⟨rfl, k, hk⟩
        have Hk := Lib.hid hk
        clear hk
        go_wp2_with fail
        go_ret
        have hk := Hk.out
        subst hk
        exact ⟨rfl, ⟨A, n, c, hcut0, hown0, Hlen.out⟩, below_drewN hb0 k⟩
end Go.Proofs.YtkdgomalhngagaaDoor
