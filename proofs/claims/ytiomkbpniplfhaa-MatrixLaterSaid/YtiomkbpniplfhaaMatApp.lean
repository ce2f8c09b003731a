/- Appends of rules, in regions that draw their order. -/
import Derived.Test.YtiomkbpniplfhaaMatSort
import Derived.Deep.RegionLaw
import Derived.Deep.AppendLies
namespace Go.Proofs.Ytiomkbpniplfhaa
open Go.RowKit

theorem step_append_runI {P : Program} {ops : Array Oper} {o : Oper} {a : Act} {w : World} {K : Act → World → Prop} {Q : Exit → Act → World → Prop} {E : Prop}
    (hg : o.guard = none) (d x : Operand) (dT sT : TypeId) (hop : o.op = Op.call { callee := Callee.builtin Builtin.append, args := #[d, x], argTypes := #[dT, sT] })
    (v u : Value) (hd : a.eval d = v) (hx : a.eval x = u) {v' : Value} {w' : World} (hr : (Builtin.append_ #[dT, sT] o.type #[v, u]).run P w = .ok v' w') (hK : K (a.put o.dst v') w') :
    if Region.wanted o (yielded ops a.tmps) = true then Oper.wp P o a w K Q else E := by
  have hw : Region.wanted o (yielded ops a.tmps) = true := by simp [Region.wanted, hg]
  rw [if_pos hw]
  unfold Oper.wp
  simp [execOp, hop, resolve, invoke, builtin, hd, hx, hr, Result.andThen]
  exact hK
theorem append_ex {w : World} {base n c B m c2 : Nat} {A A2 : Option Addr} {xs new : List S6} (hown : w.ownsRow base 28 6 (.slice A n c) n (RC xs)) (hs : Shows w B 6 A2 m (RC new)) (hn : n + m ≤ 2000) (hbase : base ≤ w.heap.size) :
    ∃ A' c' w', (Builtin.append_ #[22, 22] 22 #[.slice A n c, .slice A2 m c2]).run Try.prog w = .ok (.slice A' (n + m) c') w' ∧
      w'.ownsRow base 28 6 (.slice A' (n + m) c') (n + m) (RC (xs ++ new)) ∧ w.grownBy w' (Value.slice A n c).ownBlock := by
  obtain ⟨i0, hi, hz0, hz1, hz2⟩ := info_parts infoR
  rcases A2 with _ | ad
  · have hm : m = 0 := by
      rcases Nat.eq_zero_or_pos m with h0 | h0
      · exact h0
      · obtain ⟨_, _, h, _⟩ := hs.2 h0
        cases h
    subst hm
    have hnew : new = [] := List.eq_nil_of_length_eq_zero hs.num6
    subst hnew
    exact ⟨A, c, w, run_append_nothing w base _ _ 28 i0 6 Try.underlying22 hi _ n (RC xs) hown c2, by simpa using hown, World.grownBy.refl w _⟩
  · obtain ⟨v', w', hrun, h2, h3, _⟩ := run_append_own_at (P := Try.prog) w base 22 22 28 i0 _ 6 48 Try.underlying22 hi hz0 hz1 hz2 rfl (by decide) _ n (RC xs) hown ad m c2 (RC new) hs.1 (fun j u hu => by
        have hj : j < (RC new).length := (List.getElem?_eq_some_iff.1 hu).1
        have hm : 0 < m := by
          rcases Nat.eq_zero_or_pos m with h0 | h0
          · have := hs.1; subst h0; simp at this; rw [this] at hj; simp at hj
          · exact h0
        obtain ⟨b, off, he, _, hc⟩ := hs.2 hm
        injection he with he
        subst he
        have e1 : (⟨b, off, none⟩ : Addr).add j = ⟨b, off + j, none⟩ := by unfold Addr.add; split <;> simp_all
        rw [e1, hc j hj, List.getD, hu]; rfl) (rc_one _) (by unfold maxLen; omega) (by omega) hbase
    obtain ⟨A', c', rfl, _, _⟩ := own_form h2
    exact ⟨A', c', w', hrun, by rw [rc_append]; exact h2, h3⟩
theorem own_none (w : World) (base : Nat) (h : base ≤ w.heap.size) : (w.alloc (.cells #[] 28)).ownsRow base 28 6 (.slice (some ⟨w.heap.size, 0, none⟩) 0 0) 0 (RC []) :=
  (show Block _ _ 28 [] from Block.new w 28 []).owns h rfl (Nat.zero_le _)
abbrev XO (x : S6) : Obj := .cells #[.int .i64 x.a, .int .i64 x.b, .int .i64 x.c, .int .i64 x.d, .int .i64 x.e, .int .i64 x.f] 28
abbrev EO : Obj := .cells #[] 28
/-- Three appends, each onto what the one ahead of it gave. -/
theorem three_app {W w0 : World} {B k r cT cF g0 gx : Nat} {A1 A2 : Option Addr} {xs ys : List S6} {x : S6} (hB : B = W.heap.size)
    (hb0 : Below B W w0) (h0 : w0.ownsRow B 28 6 (.slice (some ⟨g0, 0, none⟩) 0 0) 0 (RC [])) (hT : Shows W B 6 A1 k (RC xs)) (hF : Shows W B 6 A2 r (RC ys)) (hx : Block w0 gx 28 (RC [x])) (hne : gx ≠ g0) (hk : k + r ≤ 1000) :
    ∃ Aa ca wa Ab cb wb Ac cc wc,
      (Builtin.append_ #[22, 22] 22 #[.slice (some ⟨g0, 0, none⟩) 0 0, .slice A1 k cT]).run Try.prog w0 = .ok (.slice Aa k ca) wa ∧
      (Builtin.append_ #[22, 22] 22 #[.slice Aa k ca, .slice (some ⟨gx, 0, none⟩) 1 1]).run Try.prog wa = .ok (.slice Ab (k + 1) cb) wb ∧
      (Builtin.append_ #[22, 22] 22 #[.slice Ab (k + 1) cb, .slice A2 r cF]).run Try.prog wb = .ok (.slice Ac (k + 1 + r) cc) wc ∧
      wc.ownsRow B 28 6 (.slice Ac (k + 1 + r) cc) (k + 1 + r) (RC (xs ++ [x] ++ ys)) ∧ Below B W wc := by
  subst hB
  obtain ⟨Aa, ca, wa, hra, hoa, hga⟩ := append_ex (c2 := cT) h0 (hT.below hb0) (by omega) hb0.size
  rw [Nat.zero_add] at hra hoa
  have hba := bel_grown hb0 hga (fun g hg => (h0.lt g hg).1)
  have hxa : Block wa gx 28 (RC [x]) := (hga.block gx hx.lt (fun e => by injection e with e; exact hne e)).trans hx
  obtain ⟨Ab, cb, wb, hrb, hob, hgb⟩ := append_ex (c2 := 1) hoa (Block.shows hxa (size := 6) (n := 1) rfl) (by omega) hba.size
  have hbb := bel_grown hba hgb (fun g hg => (hoa.lt g hg).1)
  obtain ⟨Ac, cc, wc, hrc, hoc, hgc⟩ := append_ex (c2 := cF) hob (hF.below hbb) (by omega) hbb.size
  have hbc := bel_grown hbb hgc (fun g hg => (hob.lt g hg).1)
  exact ⟨Aa, ca, wa, Ab, cb, wb, Ac, cc, wc, hra, hrb, hrc, by simpa using hoc, hbc⟩
theorem three_app2 {W w0 : World} {B k r cT cF g0 : Nat} {A1 A2 : Option Addr} {xs ys : List S6} {x : S6} (hB : B = W.heap.size)
    (hb0 : Below B W w0) (h0 : w0.ownsRow B 28 6 (.slice (some ⟨g0, 0, none⟩) 0 0) 0 (RC [])) (hT : Shows W B 6 A1 k (RC xs)) (hF : Shows W B 6 A2 r (RC ys)) (hk : k + r ≤ 1000) :
    ∃ Aa ca wa Ab cb wb Ac cc wc,
      (Builtin.append_ #[22, 22] 22 #[.slice (some ⟨g0, 0, none⟩) 0 0, .slice A1 k cT]).run Try.prog w0 = .ok (.slice Aa k ca) wa ∧
      (Builtin.append_ #[22, 22] 22 #[.slice Aa k ca, .slice (some ⟨wa.heap.size, 0, none⟩) 1 1]).run Try.prog (wa.alloc (XO x)) = .ok (.slice Ab (k + 1) cb) wb ∧
      (Builtin.append_ #[22, 22] 22 #[.slice Ab (k + 1) cb, .slice A2 r cF]).run Try.prog wb = .ok (.slice Ac (k + 1 + r) cc) wc ∧
      wc.ownsRow B 28 6 (.slice Ac (k + 1 + r) cc) (k + 1 + r) (RC (xs ++ [x] ++ ys)) ∧ Below B W wc ∧ Below B W wa := by
  subst hB
  obtain ⟨Aa, ca, wa, hra, hoa, hga⟩ := append_ex (c2 := cT) h0 (hT.below hb0) (by omega) hb0.size
  rw [Nat.zero_add] at hra hoa
  have hba := bel_grown hb0 hga (fun g hg => (h0.lt g hg).1)
  have hba2 := bel_alloc hba (XO x)
  obtain ⟨Ab, cb, wb, hrb, hob, hgb⟩ := append_ex (c2 := 1) (World.ownsRow.alloc hoa (XO x)) ((show Block (wa.alloc (XO x)) wa.heap.size 28 (RC [x]) from Block.new wa _ (RC [x])).shows (size := 6) (n := 1) rfl) (by omega) hba2.size
  have hbb := bel_grown hba2 hgb (fun g hg => (hoa.lt g hg).1)
  obtain ⟨Ac, cc, wc, hrc, hoc, hgc⟩ := append_ex (c2 := cF) hob (hF.below hbb) (by omega) hbb.size
  have hbc := bel_grown hbb hgc (fun g hg => (hob.lt g hg).1)
  exact ⟨Aa, ca, wa, Ab, cb, wb, Ac, cc, wc, hra, hrb, hrc, by simpa using hoc, hbc, hba⟩
end Go.Proofs.Ytiomkbpniplfhaa
