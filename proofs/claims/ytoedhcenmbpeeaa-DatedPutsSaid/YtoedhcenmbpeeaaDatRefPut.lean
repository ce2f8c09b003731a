/- The walk of the document's 'Put'. -/
import Derived.Test.YtoedhcenmbpeeaaDatRefDrop
namespace Go.Proofs.Ytoedhcenmbpeeaa
open Go.RowKit

theorem append_ex {w : World} {base n c B m c2 : Nat} {A A2 : Option Addr} {xs new : List (Int × Int)} (hown : w.ownsRow base 31 2 (.slice A n c) n (DC xs)) (hs : Shows w B 2 A2 m (DC new)) (hn : n + m ≤ 2000) (hbase : base ≤ w.heap.size) :
    ∃ A' c' w', (Builtin.append_ #[22, 22] 22 #[.slice A n c, .slice A2 m c2]).run Try.prog w = .ok (.slice A' (n + m) c') w' ∧
      w'.ownsRow base 31 2 (.slice A' (n + m) c') (n + m) (DC (xs ++ new)) ∧ w.grownBy w' (Value.slice A n c).ownBlock := by
  obtain ⟨i0, hi, hz0, hz1, hz2⟩ := info_parts infoD
  rcases A2 with _ | ad
  · have hm : m = 0 := by
      rcases Nat.eq_zero_or_pos m with h0 | h0
      · exact h0
      · obtain ⟨_, _, h, _⟩ := hs.2 h0
        cases h
    subst hm
    have hnew : new = [] := List.eq_nil_of_length_eq_zero hs.num
    subst hnew
    exact ⟨A, c, w, run_append_nothing w base _ _ 31 i0 2 Try.underlying22 hi _ n (DC xs) hown c2, by simpa using hown, World.grownBy.refl w _⟩
  · obtain ⟨v', w', hrun, h2, h3, _⟩ := run_append_own_at (P := Try.prog) w base 22 22 31 i0 _ 2 16 Try.underlying22 hi hz0 hz1 hz2 rfl (by decide) _ n (DC xs) hown ad m c2 (DC new) hs.1 (fun j u hu => by
        have hj : j < (DC new).length := (List.getElem?_eq_some_iff.1 hu).1
        have hm : 0 < m := by
          rcases Nat.eq_zero_or_pos m with h0 | h0
          · have := hs.1; subst h0; simp at this; rw [this] at hj; simp at hj
          · exact h0
        obtain ⟨b, off, he, _, hc⟩ := hs.2 hm
        injection he with he
        subst he
        have e1 : (⟨b, off, none⟩ : Addr).add j = ⟨b, off + j, none⟩ := by unfold Addr.add; split <;> simp_all
        rw [e1, hc j hj, List.getD, hu]; rfl) (dc_one _) (by unfold maxLen; omega) (by omega) hbase
    obtain ⟨A', c', rfl, _, _⟩ := own_form h2
    exact ⟨A', c', w', hrun, by rw [dc_append]; exact h2, h3⟩
theorem own_none (w : World) (base : Nat) (h : base ≤ w.heap.size) : (w.alloc (.cells #[] 31)).ownsRow base 31 2 (.slice (some ⟨w.heap.size, 0, none⟩) 0 0) 0 (DC []) :=
  (show Block _ _ 31 [] from Block.new w 31 []).owns h rfl (Nat.zero_le _)
abbrev XO (day v : Int) : Obj := .cells #[.int .i64 day, .int .i64 v] 31
abbrev EO : Obj := .cells #[] 31
/-- Three appends, each onto what the one ahead of it gave. -/
theorem three_app {W w0 : World} {B k r cT cF g0 gx : Nat} {A1 A2 : Option Addr} {xs ys : List (Int × Int)} {x : Int × Int} (hB : B = W.heap.size)
    (hb0 : Below B W w0) (h0 : w0.ownsRow B 31 2 (.slice (some ⟨g0, 0, none⟩) 0 0) 0 (DC [])) (hT : Shows W B 2 A1 k (DC xs)) (hF : Shows W B 2 A2 r (DC ys)) (hx : Block w0 gx 31 (DC [x])) (hne : gx ≠ g0) (hk : k + r ≤ 1000) :
    ∃ Aa ca wa Ab cb wb Ac cc wc,
      (Builtin.append_ #[22, 22] 22 #[.slice (some ⟨g0, 0, none⟩) 0 0, .slice A1 k cT]).run Try.prog w0 = .ok (.slice Aa k ca) wa ∧
      (Builtin.append_ #[22, 22] 22 #[.slice Aa k ca, .slice (some ⟨gx, 0, none⟩) 1 1]).run Try.prog wa = .ok (.slice Ab (k + 1) cb) wb ∧
      (Builtin.append_ #[22, 22] 22 #[.slice Ab (k + 1) cb, .slice A2 r cF]).run Try.prog wb = .ok (.slice Ac (k + 1 + r) cc) wc ∧
      wc.ownsRow B 31 2 (.slice Ac (k + 1 + r) cc) (k + 1 + r) (DC (xs ++ [x] ++ ys)) ∧ Below B W wc := by
  subst hB
  obtain ⟨Aa, ca, wa, hra, hoa, hga⟩ := append_ex (c2 := cT) h0 (hT.below hb0) (by omega) hb0.size
  rw [Nat.zero_add] at hra hoa
  have hba := bel_grown hb0 hga (fun g hg => (h0.lt g hg).1)
  have hxa : Block wa gx 31 (DC [x]) := (hga.block gx hx.lt (fun e => by injection e with e; exact hne e)).trans hx
  obtain ⟨Ab, cb, wb, hrb, hob, hgb⟩ := append_ex (c2 := 1) hoa (Block.shows hxa (size := 2) (n := 1) rfl) (by omega) hba.size
  have hbb := bel_grown hba hgb (fun g hg => (hoa.lt g hg).1)
  obtain ⟨Ac, cc, wc, hrc, hoc, hgc⟩ := append_ex (c2 := cF) hob (hF.below hbb) (by omega) hbb.size
  have hbc := bel_grown hbb hgc (fun g hg => (hob.lt g hg).1)
  exact ⟨Aa, ca, wa, Ab, cb, wb, Ac, cc, wc, hra, hrb, hrc, by simpa using hoc, hbc⟩
theorem three_app2 {W w0 : World} {B k r cT cF g0 : Nat} {A1 A2 : Option Addr} {xs ys : List (Int × Int)} {x : Int × Int} (hB : B = W.heap.size)
    (hb0 : Below B W w0) (h0 : w0.ownsRow B 31 2 (.slice (some ⟨g0, 0, none⟩) 0 0) 0 (DC [])) (hT : Shows W B 2 A1 k (DC xs)) (hF : Shows W B 2 A2 r (DC ys)) (hk : k + r ≤ 1000) :
    ∃ Aa ca wa Ab cb wb Ac cc wc,
      (Builtin.append_ #[22, 22] 22 #[.slice (some ⟨g0, 0, none⟩) 0 0, .slice A1 k cT]).run Try.prog w0 = .ok (.slice Aa k ca) wa ∧
      (Builtin.append_ #[22, 22] 22 #[.slice Aa k ca, .slice (some ⟨wa.heap.size, 0, none⟩) 1 1]).run Try.prog (wa.alloc (XO x.1 x.2)) = .ok (.slice Ab (k + 1) cb) wb ∧
      (Builtin.append_ #[22, 22] 22 #[.slice Ab (k + 1) cb, .slice A2 r cF]).run Try.prog wb = .ok (.slice Ac (k + 1 + r) cc) wc ∧
      wc.ownsRow B 31 2 (.slice Ac (k + 1 + r) cc) (k + 1 + r) (DC (xs ++ [x] ++ ys)) ∧ Below B W wc := by
  subst hB
  obtain ⟨Aa, ca, wa, hra, hoa, hga⟩ := append_ex (c2 := cT) h0 (hT.below hb0) (by omega) hb0.size
  rw [Nat.zero_add] at hra hoa
  have hba := bel_grown hb0 hga (fun g hg => (h0.lt g hg).1)
  have hba2 := bel_alloc hba (XO x.1 x.2)
  obtain ⟨Ab, cb, wb, hrb, hob, hgb⟩ := append_ex (c2 := 1) (World.ownsRow.alloc hoa (XO x.1 x.2)) (shows_one wa x.1 x.2 _ rfl) (by omega) hba2.size
  have hbb := bel_grown hba2 hgb (fun g hg => (hoa.lt g hg).1)
  obtain ⟨Ac, cc, wc, hrc, hoc, hgc⟩ := append_ex (c2 := cF) hob (hF.below hbb) (by omega) hbb.size
  have hbc := bel_grown hbb hgc (fun g hg => (hob.lt g hg).1)
  exact ⟨Aa, ca, wa, Ab, cb, wb, Ac, cc, wc, hra, hrb, hrc, by simpa using hoc, hbc⟩
end Go.Proofs.Ytoedhcenmbpeeaa
