/- The walk of token.Tokens. -/
import Derived.Test.YtkdgomalhngagaaDoorTkBegins
import Derived.Test.YtkdgomalhngagaaDoorTkTable
namespace Go.Proofs.YtkdgomalhngagaaDoor
open Go.RowKit Go.Lib

section
variable {P : Program} {fn : Func} {R : Ending → World → Prop} {a : Act} {w : World} {T t : TypeId} {b : Nat} {cs : List Value}
theorem ret_tc {x p : Tmp} (hr : fn.results = #[.tmp x, .cell p T]) (hd : a.defers = []) (hp : a.tmps.getD p undef = .pointer (some ⟨b, 0, none⟩)) (hb : Block w b t cs) (ha : ∀ w, (isAgg T).run P w = .ok true w) (hs : ∀ w, (sizeOf T).run P w = .ok cs.length w)
    (hR : R (.returned (.tuple #[a.tmps.getD x undef, .agg cs.toArray])) w) : bodyPost P fn R .ret a w := by
  refine bodyPost_ret (v := .tuple #[a.tmps.getD x undef, .agg cs.toArray]) ?_ hd hR
  simp only [results, hr]
  simp [Sem.run_bind, Result.andThen]
  rw [show a.tmps[p]?.getD undef = .pointer (some ⟨b, 0, none⟩) by rw [← hp]; simp]
  simp [asAddr, Sem.run_pure, run_loadVar_block hb ha hs]
end
theorem agg_fault (w : World) : (isAgg 25).run Tryd.prog w = .ok true w := by kernel_rfl
theorem size_fault (w : World) : (sizeOf 25).run Tryd.prog w = .ok 2 w := by kernel_rfl
/-- What 'Tokens' hands back: tokens in new memory, or nil, and a fault. -/
def TkR (r : List Tok.Tk × Int × Int) (w : World) (e : Ending) (w' : World) : Prop :=
  ∃ A c, e = .returned (.tuple #[.slice A r.1.length c, .agg #[.int .i64 r.2.1, .int .i64 r.2.2]]) ∧ w'.ownsRow w.heap.size 31 2 (.slice A r.1.length c) r.1.length (TC r.1) ∧ Below w.heap.size w w'
theorem cls_ok (c : Int) : clsN c = 0 ↔ ¬ Tok.okB c := by
  constructor
  · intro h g
    by_cases h1 : Tok.isL c
    · rw [cls_L h1] at h; omega
    · by_cases h2 : Tok.isD c
      · rw [cls_D h2] at h; omega
      · unfold clsN at h
        rw [if_neg h1, if_neg h2] at h
        by_cases h3 : Tok.isJ c
        · rw [if_pos h3] at h; omega
        · rw [if_neg h3] at h
          by_cases h4 : c = 44
          · rw [if_pos h4] at h; omega
          · rw [if_neg h4] at h
            by_cases h5 : c = 35
            · rw [if_pos h5] at h; omega
            · rw [if_neg h5, if_pos (show c = 9 ∨ (32 ≤ c ∧ c ≤ 126) from g)] at h; omega
  · intro h
    have h1 : ¬ Tok.isL c := fun g => h (by unfold Tok.isL at g; unfold Tok.okB; omega)
    have h2 : ¬ Tok.isD c := fun g => h (by unfold Tok.isD at g; unfold Tok.okB; omega)
    have h3 : ¬ Tok.isJ c := fun g => h (by unfold Tok.isJ at g; unfold Tok.okB; omega)
    have h4 : c ≠ 44 := fun g => h (by unfold Tok.okB; omega)
    have h5 : c ≠ 35 := fun g => h (by unfold Tok.okB; omega)
    unfold clsN
    rw [if_neg h1, if_neg h2, if_neg h3, if_neg h4, if_neg h5, if_neg (show ¬ (c = 9 ∨ (32 ≤ c ∧ c ≤ 126)) from h)]
theorem built_cut (s : ByteArray) : List.foldl (fun cs x => cs.setIfInBounds (1 + x.snd) x.fst) (Tryd.zeroCells50.setIfInBounds 0 (Value.string s)) clsV.zipIdx = (CutC s (.slice none 0 0) 0).toArray := by kernel_rfl
theorem apO_len (x : Int) (out : List Tok.Tk) : (apO x out).length ≤ out.length + 1 := by
  unfold apO
  split
  · simp
  · split <;> simp
theorem step_true (s : ByteArray) (a : Nat) : decide (Tok.snd (cAt s a)) = true → a < a + 1 ∧ a + 1 ≤ s.size := fun h => ⟨by omega, cAt_lt (by
  have := of_decide_eq_true h
  rintro e
  rw [e] at this
  exact absurd this (by decide))⟩
theorem step_go {s : ByteArray} {a : Nat} {out T : List Tok.Tk} (h : Tok.apO ((nums s).getD a 0) out ++ Tok.go (if Tok.snd ((nums s).getD a 0) then ((nums s).take (a + 1)).drop a else []) ((nums s).drop (a + 1)) = T) :
    Hid (apO (cAt s a) out ++ Tok.go (if decide (Tok.snd (cAt s a)) = true then ((nums s).take (a + 1)).drop a else []) ((nums s).drop (a + 1)) = T) := by
  refine Lib.hid ?_
  simp only [decide_eq_true_eq]
  exact h
set_option maxRecDepth 100000 in
set_option maxHeartbeats 8000000 in
theorem tokens_any (s : ByteArray) (hs : s.size ≤ 1000000) (w : World) : Calls Tryd.prog 11 #[.string s] w (TkR (Tok.tokF (nums s)) w) := by
  have hl := nums_len s
  by_cases h200 : 200 < s.size
  · rw [Tok.tokF_long (by omega)]
    clear hl
    go_enter Tryd.func11, Tryd.ntmps11
    go_wp2_with fail
    exact ret_tc (T := 25) rfl rfl rfl (Block.new w _ [.int .i64 3, .int .i64 0]) agg_fault size_fault ⟨none, 0, rfl, World.ownsRow_nil _ _ _ _, bel_alloc (Below.refl _ _) _⟩
  · have Hl := Lib.hid hl
    clear hl
    go_enter Tryd.func11, Tryd.ntmps11
    go_wp2_with fail
    refine (classes_any _).mono ?_
    rintro e w1 ⟨rfl, hb1⟩
    have hF := Block.call (Block.new w 25 [.int .i64 0, .int .i64 0]) hb1
    have hbel := bel_call (bel_alloc (Below.refl w.heap.size w) (.cells #[.int .i64 0, .int .i64 0] 25)) hb1
    have hcl := clsV_len
    go_wp2_with fail
    go_loopw [18] (fun i wr => ∃ a : Nat, a ≤ s.size ∧ i = .int .i64 a ∧ Hid (∀ j, j < a → Tok.okB (cAt s j)) ∧ CutT wr w1.heap.size s [] 0 ∧ Block wr w.heap.size 25 [.int .i64 0, .int .i64 0] ∧ Below w.heap.size w wr) (fun i _ => s.size - (RowKit.intOf i).toNat)
    case atStart =>
      refine ⟨0, by omega, rfl, Lib.hid (fun j h => absurd h (by omega)), ⟨none, 0, 0, ?_, ?_, rfl⟩, hF.alloc _, bel_alloc hbel _⟩
      · have h := Block.new w1 50 (CutC s (.slice none 0 0) 0)
        rw [← built_cut] at h
        exact h
      · exact World.ownsRow_nil _ _ _ _
    case round =>
      obtain ⟨a, ha, rfl, Hv, hcut, hF, hbel⟩ := hrel
      obtain ⟨A, n, cp, hcu, hown, hn⟩ := hcut
      have c0 := hcu.str
      have hlC := hcu.lt
      have e0 : wr.cell? ⟨w.heap.size, 0, none⟩ = some (.int .i64 0) := hF.cell 0
      have e1 : wr.cell? ⟨w.heap.size, 1, none⟩ = some (.int .i64 0) := hF.cell 1
      have g0 : wr.frozen? ⟨w.heap.size, 0, none⟩ = false := hF.free 0
      have g1 : wr.frozen? ⟨w.heap.size, 1, none⟩ = false := hF.free 1
      by_cases hlt : a < s.size
      · have hg := cAt_get s a hlt
        have hq : s[a].toNat < 256 := s[a].toNat_lt
        have cc := hcu.cls hq
        rw [← hg] at cc
        have q1 : (a : Int) < (s.size : Int) := by omega
        by_cases hb : Tok.okB (cAt s a)
        · have h0 : clsN (cAt s a) ≠ 0 := fun e => (cls_ok _).1 e hb
          have Hn : Hid (∀ j, j < a + 1 → Tok.okB (cAt s j)) := Lib.hid (fun j hj => by
            rcases (by omega : j < a ∨ j = a) with g | rfl
            · exact Hv.out j g
            · exact hb)
          generalize clsN (cAt s a) = v at *
          have t0 : (v == 0) = false := by simpa using h0
          clear hg hb h0
          go_wp2_with fail
          go_quiet (fail)
          go_wp2_with fail
          go_roundw
          case rel => exact ⟨a + 1, by omega, by go_num, Hn, ⟨A, n, cp, hcu, hown, hn⟩, hF, below_drewN hbel _⟩
          case measure => simp [RowKit.intOf]; omega
        · have h0 : clsN (cAt s a) = 0 := (cls_ok _).2 hb
          have Hr : Hid (Tok.tokF (nums s) = ([], 4, (a : Int))) := Lib.hid (Tok.tokF_bad (by rw [Hl.out]; omega) (Tok.badAt_some (by rw [Hl.out]; exact hlt) Hv.out hb))
          rw [h0] at cc
          clear hg hb h0
          go_wp2_with fail
          go_quiet (fail)
          go_wp2_with fail
          refine ret_tc (T := 25) rfl rfl rfl (((hF.drewN _).set 0 (.int .i64 4)).set 1 (.int .i64 a)) agg_fault size_fault ?_
          rw [Hr.out]
          exact ⟨none, 0, rfl, World.ownsRow_nil _ _ _ _, bel_set (p := ⟨w.heap.size, 1, none⟩) (bel_set (p := ⟨w.heap.size, 0, none⟩) (below_drewN hbel _) (Nat.le_refl _) _) (Nat.le_refl _) _⟩
      · obtain rfl : a = s.size := by omega
        have Hbad : Hid (Tok.badAt (nums s) = none) := Lib.hid (Tok.badAt_none fun j hj => Hv.out j (by rw [Hl.out] at hj; exact hj))
        clear c0 e0 e1 g0 g1
        have hC0 : w.heap.size < w1.heap.size := by have := hb1.size; simp at this; omega
        go_wp2_with fail
        go_loopw [6, 7] (fun f i wr => ∃ (a : Nat) (b : Bool) (out : List Tok.Tk) (p : Nat), a ≤ s.size + 1 ∧ i = .int .i64 a ∧ f = fnV b ∧ (b = true → p < a ∧ a ≤ s.size) ∧ Hid (out ++ Tok.go (if b = true then ((nums s).take a).drop p else []) ((nums s).drop a) = Tok.toks (nums s)) ∧ Hid (out.length ≤ 2 * a) ∧ CutT wr w1.heap.size s out p ∧ Block wr w.heap.size 25 [.int .i64 0, .int .i64 0] ∧ Below w.heap.size w wr) (fun _ i _ => s.size + 1 - (RowKit.intOf i).toNat)
        case atStart => exact ⟨0, false, [], 0, by omega, rfl, rfl, by simp, Lib.hid rfl, Lib.hid (by simp), ⟨A, n, cp, hcu, hown, hn⟩, hF, hbel⟩
        case round =>
          obtain ⟨a, b, out, p, ha, rfl, rfl, hpa, Hgo, Hout, hcut, hF, hbel⟩ := hrel
          by_cases hlt : a ≤ s.size
          · have t1 : decide ((a : Int) ≤ (s.size : Int)) = true := decide_eq_true (by omega)
            cases b with
            | false =>
              have hap := apart_at hcut hs a hlt (by have := Hout.out; omega)
              have Hn := Lib.hid (Tok.apart_step Hgo.out)
              rw [fnV_false]
              go_wp2_with fail
              refine hap.mono ?_
              rintro e w2 ⟨rfl, hcut2, hb2⟩
              clear hap
              go_wp2_with fail
              go_roundw
              case rel => exact ⟨a + 1, _, _, a, by omega, by go_num, rfl, step_true s a, step_go Hn.out, Lib.hid (by have := Hout.out; have := apO_len (cAt s a) out; omega), hcut2, hF.below hb2 hC0, hbel.trans (hb2.mono (Nat.le_of_lt hC0))⟩
              case measure => simp [RowKit.intOf]; omega
            | true =>
              obtain ⟨hp1, hp2⟩ := hpa rfl
              rw [fnV_true]
              by_cases hg : goesOn s a
              · have hwi := within_go hcut hs a hlt (by omega) hg
                have hga := Tok.goes_lt (l := nums s) hg
                rw [Hl.out] at hga
                have Hn : Hid (out ++ Tok.go (if true = true then ((nums s).take (a + 1)).drop p else []) ((nums s).drop (a + 1)) = Tok.toks (nums s)) := Lib.hid (Tok.within_step hp1 hg (by simpa using Hgo.out))
                clear hg
                go_wp2_with fail
                refine hwi.mono ?_
                rintro e w2 ⟨rfl, hcut2, hb2⟩
                clear hwi
                go_wp2_with fail
                go_roundw
                case rel => exact ⟨a + 1, true, out, p, by omega, by go_num, rfl, fun _ => ⟨by omega, by omega⟩, Hn, Lib.hid (by have := Hout.out; omega), hcut2, hF.below hb2 hC0, hbel.trans (hb2.mono (Nat.le_of_lt hC0))⟩
                case measure => simp [RowKit.intOf]; omega
              · have hwi := within_stop hcut hs a hlt hp1 (by have := Hout.out; omega) hg
                have Hn := Lib.hid (Tok.apart_step (Tok.stop_step hp1 (by rw [Hl.out]; exact hp2) hg (by simpa using Hgo.out)))
                clear hg
                go_wp2_with fail
                refine hwi.mono ?_
                rintro e w2 ⟨rfl, hcut2, hb2⟩
                clear hwi
                go_wp2_with fail
                go_roundw
                case rel => exact ⟨a + 1, _, _, a, by omega, by go_num, rfl, step_true s a, step_go Hn.out, Lib.hid (by have := Hout.out; have := apO_len (cAt s a) (out ++ [Tok.tok (((nums s).take a).drop p)]); simp at this ⊢; omega), hcut2, hF.below hb2 hC0, hbel.trans (hb2.mono (Nat.le_of_lt hC0))⟩
                case measure => simp [RowKit.intOf]; omega
          · obtain rfl : a = s.size + 1 := by omega
            have hbf : b = false := by cases b; rfl; exact absurd (hpa rfl).2 (by omega)
            subst hbf
            have hT : out = Tok.toks (nums s) := by
              have e := Hgo.out
              rw [if_neg (by decide), List.drop_of_length_le (i := s.size + 1) (l := nums s) (by rw [Hl.out]; omega), Tok.go_nil, List.append_nil] at e
              exact e
            have HT := Lib.hid hT
            clear hT hpa Hgo
            obtain ⟨A2, n2, c2, hcu2, hown2, hn2⟩ := hcut
            have c257 := hcu2.out
            have e0 : wr.cell? ⟨w.heap.size, 0, none⟩ = some (.int .i64 0) := hF.cell 0
            have e1 : wr.cell? ⟨w.heap.size, 1, none⟩ = some (.int .i64 0) := hF.cell 1
            have g0 : wr.frozen? ⟨w.heap.size, 0, none⟩ = false := hF.free 0
            have g1 : wr.frozen? ⟨w.heap.size, 1, none⟩ = false := hF.free 1
            by_cases h40 : 40 < n2
            · have hbg := begins_any (w := wr) (C := w1.heap.size) (s := s) (p := p) ⟨A2, n2, c2, hcu2, by rw [← HT.out]; exact hown2, by rw [← HT.out]; exact hn2⟩ hs Hv.out (by rw [← HT.out, ← hn2]; exact h40)
              have Hn2 := Lib.hid hn2
              clear hn2
              go_wp2_with fail
              refine hbg.mono ?_
              rintro e w2 ⟨q, t, rfl, hq, m, hm⟩
              have Hr : Hid (Tok.tokF (nums s) = ([], 8, (q : Int))) := Lib.hid (Tok.tokF_full (by rw [Hl.out]; omega) Hbad.out (by rw [← HT.out, ← Hn2.out]; exact h40) hq)
              have hF2 : Block w2 w.heap.size 25 [.int .i64 0, .int .i64 0] := by subst hm; exact hF
              have hbel2 : Below w.heap.size w w2 := by subst hm; exact below_drewN hbel m
              clear hm hq hbg e0 e1 g0 g1 c257
              have e0 : w2.cell? ⟨w.heap.size, 0, none⟩ = some (.int .i64 0) := hF2.cell 0
              have e1 : w2.cell? ⟨w.heap.size, 1, none⟩ = some (.int .i64 0) := hF2.cell 1
              have g0 : w2.frozen? ⟨w.heap.size, 0, none⟩ = false := hF2.free 0
              have g1 : w2.frozen? ⟨w.heap.size, 1, none⟩ = false := hF2.free 1
              go_wp2_with fail
              refine ret_tc (T := 25) rfl rfl rfl ((hF2.set 0 (.int .i64 8)).set 1 (.int .i64 q)) agg_fault size_fault ?_
              rw [Hr.out]
              exact ⟨none, 0, rfl, World.ownsRow_nil _ _ _ _, bel_set (p := ⟨w.heap.size, 1, none⟩) (bel_set (p := ⟨w.heap.size, 0, none⟩) hbel2 (Nat.le_refl _) _) (Nat.le_refl _) _⟩
            · have Hr : Hid (Tok.tokF (nums s) = (out, 0, 0)) := Lib.hid (by rw [HT.out]; exact Tok.tokF_fine (by rw [Hl.out]; omega) Hbad.out (by rw [← HT.out, ← hn2]; omega))
              have Hn2 := Lib.hid hn2
              clear hn2
              go_wp2_with fail
              refine ret_tc (T := 25) rfl rfl rfl ((hF.set 0 (.int .i64 0)).set 1 (.int .i64 0)) agg_fault size_fault ?_
              rw [Hr.out]
              have ho := ownsRow_setCell_below (ownsRow_setCell_below hown2 (a := ⟨w.heap.size, 0, none⟩) (Nat.lt_succ_of_lt hC0) (.int .i64 0)) (a := ⟨w.heap.size, 1, none⟩) (Nat.lt_succ_of_lt hC0) (.int .i64 0)
              have e := Hn2.out
              subst e
              exact ⟨A2, c2, rfl, own_base ho (by omega), bel_set (p := ⟨w.heap.size, 1, none⟩) (bel_set (p := ⟨w.heap.size, 0, none⟩) hbel (Nat.le_refl _) _) (Nat.le_refl _) _⟩
end Go.Proofs.YtkdgomalhngagaaDoor
